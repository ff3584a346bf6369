/- Part of a proof. -/
import Derived.Shelf.SlSortCmp.NoneTotal
import Derived.Ground.SlsfProg
import Derived.Test.YtekbnpagidkbbaaGreatT7
set_option linter.all false
set_option maxRecDepth 100000
set_option maxHeartbeats 4000000
namespace Go.Proofs
open Go Go.Vc
attribute [local congr] bj
variable {buy:Bool}{l:List Od}{F:NP_}{s p:Nat}{o:Od}{w W:Wt_}{K:be}
def Od.may(o:Od):Bool:=decide (o.num≠0)&& decide (o.acct≠0)&& aY o.price 1 MP&& aY o.left 1 1000000
def mi(o:Od):Value:=.agg (dp o).toArray
def ou:Od:=⟨0,0,false,0,0⟩
def iv(buy:Bool)(a b:Int):Bool:=if buy then decide (b<a)else decide (a<b)
def Fz(buy:Bool)(l:List Od)(price:Int):Nat:=(l.findIdx? λx=>iv buy price x.price).getD l.length
def su(buy:Bool)(l:List Od)(o:Od):List Od:=l.take (Fz buy l o.price)++o::l.drop (Fz buy l o.price)
def oX(buy:Bool)(l:List Od)(o:Od):Int×List Od:=
 if¬o.may\/o.buy≠buy then(2,l)else if(l.any λx=>decide (x.num=o.num))then(8,l)else if 100<=l.length then(9,l)else(0,su buy l o)
def nA(l:List Od)(n:Int):Option Od:=l.find? λx=>decide (x.num=n)
def oB(l:List Od)(n:Int):List Od:=l.eraseP λx=>decide (x.num=n)
def qs(l:List Od)(n left:Int):Int×List Od:=
 match l.findIdx? λx=>decide (x.num=n)with
 |none=>(7,l)
 |some i=>match l[i]? with
  |none=>(7,l)
  |some o=>if left<1\/o.left<left then(2,l)else(0,l.set i {o with left:=left})
def kJ(l:List Od)(n:Int):List Od:=
 match l with
 | []=>[]
 |o::r=>if o.left - n=0 then r else{o with left:=o.left - n}::r
def iY(buy:Bool)(l:List Od)(price:Int)(acct:Int):Int:=
 (((l.takeWhile λo=> !iv buy price o.price).filter λo=>decide (o.acct≠acct)).map (·.left)).sum
def tQ(o:Od)(w:Wt_):∃a,(Instr.box kQ (mi o)).run pQ w=.ok (cU w.heap.size 0) a/\hC a w.heap.size (dp o).toArray kQ/\M0 w a:=
 ⟨w.alloc (.cells (dp o).toArray kQ),rfl,by simp[go_sem],(bn.refl _ w).alloc _⟩
def vh(b:∀h,M0 w h->K (.bool o.may) h):Ca pQ 225 #[mi o] w K:=by
 refine cN Tryz.func225 ?_;obtain⟨k,i,a,j⟩:=tQ o w;have b:=b _ j;apply dy i;unfold Od.may aY MP at b;unfold dp at a;refine dD a ?_;refine dD a ?_;by_cases d:o.num=0
 ·refine fH d ?_;simpa [d]using b
 refine ee d ?_;refine dD a ?_;refine dD a ?_;by_cases c:o.acct=0
 ·refine fH c ?_;simpa [c]using b
 refine ee c ?_;refine dD a ?_;refine dD a ?_;by_cases e:1<=o.price
 ·refine ee e ?_;refine dD a ?_;refine dD a ?_;by_cases f:o.price<=10000000
  ·refine ee f ?_;refine dD a ?_;refine dD a ?_;by_cases g:1<=o.left
   ·refine ee g ?_;refine dD a ?_;refine dD a ?_;refine dF ?_;simpa [d,c,e,f,g]using b
   ·refine fH g ?_;simpa [d,c,e,f,g]using b
  ·refine fH f ?_;simpa [d,c,e,f]using b
 ·refine fH e ?_;simpa [d,c,e]using b
structure gX(w:Wt_)(s:Nat)(F:NP_)(buy:Bool)(l:List Od):Prop where
 out:∃sl,hC w s #[.bool true,.bool buy,sl] 331/\sZ w sl l/\(∀b,F b↔b=s\/aQ sl b)/\¬aQ sl s
 len:l.length<=100
 may:∀o∈l,o.may=true/\o.buy=buy/\o.Fit
def gX.mod{G:NP_}{w' :Wt_}(h:gX w s F buy l)(d:bn G w w')(c:∀b,F b->¬G b):gX w' s F buy l:=by
 obtain⟨⟨sl,i,e,a,g⟩,j,k⟩:=h;exact⟨⟨sl,d.hpk i (c s ((a s).2 (.inl rfl))),e.mod d λb f=>c b ((a b).2 (.inr f)),a,g⟩,j,k⟩
def gX.lt(h:gX w s F buy l){b:Nat}(a:F b):b<w.heap.size:=by
 obtain⟨⟨sl,d,c,e,g⟩,i,f⟩:=h;rcases(e b).1 a with rfl|a
 ·exact aJ d
 ·exact c.lt a
def gX.self(h:gX w s F buy l):F s:=by
 obtain⟨⟨sl,e,c,a,d⟩,f,b⟩:=h;exact(a s).2 (.inl rfl)
def dc(s:Nat):Value:=cU s 0
def GL(c:∀s F a,gX a s F buy []->M0 w a->(∀b,F b->w.heap.size<=b)->K (dc s) a):Ca pQ 153 #[.bool buy] w K:=by
 refine cN Tryz.func153 ?_;simp[go_sem];refine c _ (λb=>b=w.heap.size) _ ⟨⟨.slice none 0 0,by simp[go_sem],il.nil _ _ _,λb=>⟨λh=>.inl h,λh=>by rcases h with h|h;exact h;cases h⟩,λh=>by cases h⟩,by simp,λo h=>by cases h⟩ nl λb d=>by grind
def pw(h:gX w s F buy l)(b:K (.bool true) w):Ca pQ 240 #[dc s] w K:=by
 obtain⟨⟨sl,a,d,g,e⟩,f,c⟩:=h;unfold dc;refine cN Tryz.func240 ?_;refine lV ?_;simp only[cJ];refine dD a ?_;refine dD a ?_;exact b
def Cv{x y:Int}(h:gX w s F buy l)(a:K (.bool (iv buy x y)) w):Ca pQ 280 #[dc s,gI x,gI y] w K:=by
 obtain⟨⟨sl,b,c,f,d⟩,e,g⟩:=h;unfold dc;refine cN Tryz.func280 ?_;simp only[cJ];refine dD b ?_;refine dD b ?_;unfold iv at a;cases buy with
 |true=>
  rw[nO];refine dF ?_;simpa using a
 |false=>
  rw[lW];refine dF ?_;simpa using a
def R8{n:Int}(h:gX w s F buy l)
  (q:∀g,M0 w g->K (gI (qE l λx=>decide (x.num=n))) g):Ca pQ 321 #[dc s,gQ n] w K:=by
 obtain⟨⟨sl,o,m,A,y⟩,z,C⟩:=h;unfold dc;refine cN Tryz.func321 ?_;have c:M0 w (w.alloc (.cells #[.int .u64 n] 37)):=nl;obtain⟨p,b⟩:=dW w.heap.size;apply az (cU p 0) (w.alloc (.cells #[.int .u64 n] 37)) (by rw[b];simp[go_sem]);have f:hC (w.alloc (.cells #[.int .u64 n] 37)) p #[.int .u64 n] 37:=by rw[b];simp[go_sem]
 generalize w.alloc (.cells #[.int .u64 n] 37)=v at c f|-;have a:=c.hpk o id;simp only[cJ];refine dD a ?_;refine dD a ?_;refine vO (m.mod c eI).rd qZ ⟨_,_,rfl,λx B W j E e=>?_⟩ λD k=>q _ (c.trans k);refine cN Tryz.func362 ?_;obtain⟨r,u,d,i⟩:=tQ x W;apply dy u;unfold dp at d;have t:=i.hpk (j.hpk f id) id;refine dD d ?_;refine dD d ?_;refine dD t ?_;apply az (.bool (decide (x.num=n))) r (by simp[go_sem];rw[bT];simp);exact e _ i
def uC{α:Type}{l:List α}{p:α->Bool}{i:Nat}(h:l.findIdx? p=some i):∃a:i<l.length,p l[i]=true/\l.find? p=some l[i]/\qE l p=(i:Int):=by
 obtain⟨a,b,d⟩:=bg.1 h;refine⟨a,b,?_,by unfold qE;rw[h]⟩;rw[dE];exact⟨b,i,a,rfl,λj c=>by simpa using d j c⟩
def wE{α:Type}{l:List α}{p:α->Bool}(h:l.findIdx? p=none):l.find? p=none/\qE l p= -1:=by
 refine⟨?_,by unfold qE;rw[h]⟩;rw[du]at h;rw[dS];exact λx a=>by rw[h x a];simp
def QJ{n:Int}(h:gX w s F buy l)
  (a:∀c,M0 w c->K (.tuple #[.int .i64 ((l.findIdx? λx=>decide (x.num=n)).getD 0:Nat),gI (if(l.findIdx? λx=>decide (x.num=n)).isSome then 0 else 7)]) c):Ca pQ 310 #[dc s,gQ n] w K:=by
 unfold dc;refine cN Tryz.func310 ?_;apply pw h;refine fh ?_;refine R8 h λf d=>?_;have a:=a _ d;cases b:l.findIdx? λx=>decide (x.num=n)with
 |none=>
  rw[b]at a;rw[(wE b).2];refine fh ?_;simpa using a
 |some i=>
  rw[b]at a;obtain⟨_,_,_,e⟩:=uC b;rw[e];refine lV ?_;simpa using a
def ZY{off:Nat}{C:Array Value}{T:TypeId}(h:hC W p C T)(hs:off+5<=C.size):
  (iS kQ (cU p off) (mi o)).run pQ W=.ok () (W.setRow p (ji C.toList off (dp o)).toArray):=by
 have a:=xI (P:=pQ) (t:=kQ) (w:=W) (b:=p) (off:=off) (cs:=dp o) (n:=4) Av rfl h hs (lR o);exact a
def me{off:Nat}(h:At W p off (dp o)):(iL kQ (cU p off)).run pQ W=.ok (mi o) W:=
 ft (P:=pQ) (t:=kQ) cH Av rfl h
def kg(w:Wt_):∃a,(iA kQ true (.tuple #[])).run pQ w=.ok (cU w.heap.size 0) a/\hC a w.heap.size (dp ou).toArray kQ/\M0 w a:=
 ⟨w.alloc (.cells (dp ou).toArray kQ),by simp[go_sem,dp,ou],by simp[go_sem],(bn.refl _ w).alloc _⟩
def jA{o' :Od}{T:TypeId}(h:hC W p (dp o).toArray T):
  ∃a,(iS kQ (cU p 0) (mi o')).run pQ W=.ok () a/\hC a p (dp o').toArray T/\bn (λb=>b=p) W a:=by
 refine⟨_,ZY h (aB _),?_,(bn.refl (λb=>b=p) W).setRow (.inl rfl) _⟩;show(W.setRow p _).heap[p]? =_;have c:W.heap[p]? =some (.cells (dp o).toArray T (0,0)):=h;rw[eU,ab rfl,c,kv (by rfl)]
end Go.Proofs
namespace Go.Proofs
open Go Go.Vc
attribute [local congr] bj
variable {buy:Bool}{n:Int}{l:List Od}{F:NP_}{s:Nat}{w:Wt_}{K:be}
def sZ.load{sl:Vt_}(h:sZ w sl l){i:Nat}(hi:i<l.length):
  ∃b a,sl=.slice (some ⟨b,0,none⟩) l.length a/\(∀k:IntKind,(iX tZ sl (.int k (i:Int))).run pQ w=.ok (cU b (i*5)) w)/\(iL kQ (cU b (i*5))).run pQ w=.ok (mi l[i]) w:=by
 obtain⟨b,a,rest,rfl,j,f,g⟩:=h.pos qZ;have c:At w b 0 (l.flatMap dp++rest):=At.all (cO f);have d:=h.1;have e:=c.sub (i*5) 5 (by rw[ad,d];omega);rw[cT (by rw[d];omega),aP (by rw[bi,d];omega),lx dp 5 l i (λx _=>dH x) hi,cI]at e;refine⟨b,a,rfl,λk=>?_,me e⟩;simp[go_sem,hi,bQ,gR]
def yn(h:gX w s F buy l)
  (g:nA l n=none->l.findIdx? (λx=>decide (x.num=n))=none->∀a,M0 w a->K (.tuple #[.int .i64 0,gI 7]) a)
  (f:∀i:Nat,∀b:i<l.length,nA l n=some l[i]->l.findIdx? (λx=>decide (x.num=n))=some i->∀a,M0 w a->K (.tuple #[.int .i64 (i:Int),gI 0]) a):Ca pQ 310 #[dc s,gQ n] w K:=by
 refine QJ h λj c=>?_;cases b:l.findIdx? λx=>decide (x.num=n)with
 |none=>exact g (wE b).1 b _ c
 |some i=>
  obtain⟨d,k,e,m⟩:=uC b;exact f i d e b _ c
def TI(h:gX w s F buy l)
  (c:∀u,M0 w u->K (.tuple #[mi ((nA l n).getD ou),gI (if(nA l n).isSome then 0 else 7)]) u):Ca pQ 279 #[dc s,gQ n] w K:=by
 unfold dc;refine cN Tryz.func279 ?_;obtain⟨I,H,e,m⟩:=kg w;apply dy H;obtain⟨p,q⟩:=dW w.heap.size;rw[<-q]at e|-;have v:=h.mod m eI;refine yn v (λj _ y a=>?_) λi G j _ y a=>?_
 ·have k:=a.hpk e id;rw[j]at c;refine dF ?_;refine dF ?_;refine lV ?_;apply az (mi ou) y (by simp[go_sem,mi,dp,ou]);obtain⟨A,t,g,f⟩:=jA (o' :=ou) k;apply lO t;apply gC (me (o:=ou) (At.all g));exact c _ ((m.trans a).on f λb B=>gT)
 ·have k:=a.hpk e id;have z:=v.mod a eI;obtain⟨⟨sl,x,E,J,N⟩,L,M⟩:=z;obtain⟨b,D,C,d,r⟩:=E.load G;rw[j]at c;refine dF ?_;refine dF ?_;refine fh ?_;simp only[dc,cJ];refine dD x ?_;refine dD x ?_;apply dy (d _);apply dy r;obtain⟨A,t,g,f⟩:=jA (o' :=l[i]) k;apply lO t;apply gC (me (o:=l[i]) (At.all g));exact c _ ((m.trans a).on f λb B=>gT)
def Rr(h:gX w s F buy l)
  (x:∀t,M0 w t->K (.tuple #[mi (l.head?.getD ou),.bool l.head?.isSome]) t):Ca pQ 281 #[dc s] w K:=by
 unfold dc;refine cN Tryz.func281 ?_;obtain⟨a,C,e,k⟩:=kg w;apply dy C;obtain⟨p,m⟩:=dW w.heap.size;rw[<-m]at e|-;have v:=h.mod k eI;obtain⟨⟨sl,c,y,D,H⟩,E,G⟩:=id v;obtain⟨sa,sc,j,-⟩:=y.isSl;refine dU.at (λst W=>st=(.bool (decide (l.length=0)),())/\W=a) ?_ ?_
 ·apply pw v;refine fh ?_;simp only[dc,cJ];refine dD c ?_;refine dD c ?_;apply ke (gI (l.length:Int)) a (by rw[j];simp[go_sem]);apply az (.bool (decide (l.length=0))) a (by simp[go_sem];rw[bT];simp);exact ww
 rintro _ a ⟨rfl,rfl⟩;refine qk ?_;intro _;cases l with
 |nil=>
  rw[bG,ab (by simp)];apply az (mi ou) a (by simp[go_sem,mi,dp,ou]);obtain⟨z,q,g,f⟩:=jA (o' :=ou) e;apply lO q;apply gC (me (o:=ou) (At.all g));exact x _ (k.on f λb A=>gT)
 |cons o r=>
  rw[bG,aa (by simp)];obtain⟨b,B,u,d,n⟩:=y.load (i:=0) (by simp);simp only[dc,cJ];refine dD c ?_;refine dD c ?_;apply dy (d .i64);apply dy n;obtain⟨z,q,g,f⟩:=jA (o' :=o) e;apply lO q;apply gC (me (o:=o) (At.all g));exact x _ (k.on f λb A=>gT)
def Up(h:gX w s F buy l)(d:K (gI (l.length:Int)) w):Ca pQ 230 #[dc s] w K:=by
 obtain⟨⟨sl,b,c,e,i⟩,f,g⟩:=id h;obtain⟨sa,sc,a,-⟩:=c.isSl;unfold dc;refine cN Tryz.func230 ?_;apply pw h;refine fh ?_;simp only[dc,cJ];refine dD b ?_;refine dD b ?_;apply ke (gI (l.length:Int)) w (by rw[a];simp[go_sem]);exact d
def FQ(h:gX w s F buy l)
  (q:∀j n e,gX e j n buy l->M0 w e->(∀b,n b->w.heap.size<=b)->K (dc j) e):Ca pQ 191 #[dc s] w K:=by
 obtain⟨⟨sl,r,t,x,y⟩,u,v⟩:=id h;unfold dc;refine cN Tryz.func191 ?_;apply pw h;refine fh ?_;have md:M0 w w.drew:=wl;have d1:=md.hpk r id;simp only[dc,cJ];refine vn ?_;refine AN d1 ?_;refine vn ?_;refine AN d1 ?_;refine tn (l:=l) (t.mod md eI).rd qZ λd a f k p=>?_;have o:=md.trans k;have d2:=k.hpk d1 id;refine⟨by simp[go_sem,d2],?_⟩;obtain⟨sa,sc,i,-⟩:=f.isSl;apply eQ (.agg #[.bool true,.bool buy,d]) (λW=>by rw[i];simp[go_sem]);have m:M0 a (a.alloc (.cells #[.bool true,.bool buy,d] 331)):=nl;apply az (dc a.heap.size) (a.alloc (.cells #[.bool true,.bool buy,d] 331)) rfl;have g:=o.size;refine q a.heap.size (λb=>b=a.heap.size\/aQ d b) _ ⟨⟨d,by simp[go_sem],f.mod m eI,λb=>aI,λc=>?_⟩,u,v⟩ (o.trans m) λb c=>?_
 ·have:=f.lt c;omega
 ·rcases c with rfl|c
  ·exact g
  ·exact p b c
def J7{W:Wt_}{e f i v:Vt_}(h:hC W s #[e,f,i] 331)(g:∃a n c,v=.slice a n c):
  ∃d,(iS tZ (cU s 2) v).run pQ W=.ok () d/\hC d s #[e,f,v] 331/\bn (λb=>b=s) W d:=by
 obtain⟨a,n,c,rfl⟩:=g;refine⟨W.setCell ⟨s,2,none⟩ (.slice a n c),by simp[go_sem,h],by simp[go_sem,h],(bn.refl (λb=>b=s) W).sc⟩
def Nf{i:Nat}(h:l.findIdx? (λx=>decide (x.num=n))=some i):oB l n=l.take i++l.drop (i+1):=by
 unfold oB;rw[List.eraseP_eq_eraseIdx,h];exact List.eraseIdx_eq_take_drop_succ l i
def Ch(h:gX w s F buy l)
  (D:∀F' w',gX w' s F' buy (oB l n)->bn F w w' ->(∀b,F' b->F b\/w.heap.size<=b)->K (.tuple #[mi ((nA l n).getD ou),gI (if(nA l n).isSome then 0 else 7)]) w'):Ca pQ 269 #[dc s,gQ n] w K:=by
 unfold dc;refine cN Tryz.func269 ?_;obtain⟨w1,e1,L,X⟩:=kg w;apply dy e1;obtain⟨p,t⟩:=dW w.heap.size;rw[<-t]at L|-;have h1:=h.mod X eI;have j:∀{W W' :Wt_},M0 W W' ->bn F W W' :=λm=>m.to;have U:∀{b},F b->b<p:=λa=>by rw[t];exact h.lt a
 refine yn h1 (λP c x f=>?_) λi hi P r x f=>?_
 ·have E:=f.hpk L id
  have V:oB l n=l:=by
   unfold oB;rw[List.eraseP_eq_eraseIdx,c]
  rw[P,V]at D;refine dF ?_;refine dF ?_;refine lV ?_;apply az (mi ou) x (by simp[go_sem,mi,dp,ou]);obtain⟨w3,e3,y,C⟩:=jA (o' :=ou) E;apply lO e3;apply gC (me (o:=ou) (At.all y));have M2:=X.trans f;exact D F _ ((h.mod M2 eI).mod C λb a e=>by have:=U a;omega) ((j M2).on C λb a=>gT) λb a=>.inl a
 ·have E:=f.hpk L id;have h2:=h1.mod f eI;obtain⟨⟨sl,T,H,c3,Y⟩,c5,c6⟩:=id h2;obtain⟨b,cap,hsl,c,J⟩:=H.load hi;rw[P,Nf r]at D;refine dF ?_;refine dF ?_;refine fh ?_;simp only[dc,cJ];refine dD T ?_;refine dD T ?_;apply dy (c _);apply dy J;obtain⟨w3,e3,y,C⟩:=kg x;apply dy e3;obtain⟨q,S⟩:=dW x.heap.size;rw[<-S]at y|-;obtain⟨w4,e4,b4,m4⟩:=jA (o' :=l[i]) y;apply lO e4;have B:M0 x w4:=C.on m4 λb a=>gT;have d:=B.hpk T id;have Q:=B.hpk E id;have R:=H.mod B eI;refine dD d ?_;refine dD d ?_;apply az (gI ((i+1:Nat):Int)) w4 (by simp[go_sem];rw[mL]);refine un R (dv i) hi qZ λk w5 o5 z M=>?_;obtain⟨sa,sc,N,-⟩:=o5.isSl;have O:¬aQ sl s:=Y;have u:¬aQ sl p:=λa=>by have:=U ((c3 p).2 (.inr a));omega
  have Z:¬aQ sl q:=λa=>by have:=H.lt a;omega
  have g:=z.hpk d O;have p5:=z.hpk Q u;have q5:=z.hpk b4 Z;refine dD g ?_;obtain⟨w6,e6,b6,A⟩:=J7 (v:=k) g ⟨_,_,_,N⟩;apply lO e6;have hsp:s<p:=U h.self;have hpq:p<q:=by have:=aJ E;omega
  have q6:=A.hpk q5 qZ;have p6:=A.hpk p5 qZ;apply dy (me (o:=l[i]) (At.all q6));obtain⟨G,e7,b7,I⟩:=jA (o' :=l[i]) p6;apply lO e7;apply gC (me (o:=l[i]) (At.all b7));have s7:=I.hpk b6 qZ;have o6:sZ w6 k (l.take i++l.drop (i+1)):=o5.mod A λb a e=>Y (by rw[<-e];exact M b a);have o7:sZ G k (l.take i++l.drop (i+1)):=o6.mod I λb a e=>u (by rw[<-e];exact M b a)
  have MF:bn F w G:=by
   have a1:=j ((X.trans f).trans B);have a2:bn F w w5:=a1.on z λb a=>.inl ((c3 b).2 (.inr a));have a3:bn F w w6:=a2.on A λb a=>.inl (by rw[a];exact h.self);exact a3.on I λb a=>gT
  refine D (λb=>b=s\/aQ k b) G ⟨⟨k,s7,o7,λb=>aI,λa=>Y (M s a)⟩,?_,?_⟩ MF λb a=>?_
  ·grind
  ·grind
  ·rcases a with rfl|a
   ·exact .inl h.self
   ·grind
end Go.Proofs
namespace Go.Proofs
open Go Go.Vc
attribute [local congr] bj
variable {w:Wt_}
def wX:∀(l:List Od) (i:Nat) (hi:i<l.length) (x:Int),(l.flatMap dp).set (i*5+4) (gI x)=(l.set i {l[i]with left:=x}).flatMap dp
 |o::l,0,_,x=>rfl
 |o::l,i+1,hi,x=>by
  have e:(i+1)*5+4=(dp o).length+(i*5+4):=by rw[dH];omega
  rw[aT,e,cm _ _ qZ,fb,wX l i (by simpa using hi) x];simp
def sZ.setLeft{sl:Vt_}{l:List Od}(h:sZ w sl l){i:Nat}(hi:i<l.length)(x:Int):
  ∃b a e,sl=.slice (some ⟨b,0,none⟩) l.length a/\(∀k:IntKind,(iX tZ sl (.int k (i:Int))).run pQ w=.ok (cU b (i*5)) w)/\
   (iF kQ (cU b (i*5)) 4).run pQ w=.ok (cU b (i*5+4)) w/\(iL 2 (cU b (i*5+4))).run pQ w=.ok (gI l[i].left) w/\
   (iS 2 (cU b (i*5+4)) (gI x)).run pQ w=.ok () e/\sZ e sl (l.set i {l[i]with left:=x})/\bn (aQ sl) w e:=by
 obtain⟨b,a,rest,rfl,p,f,o,g⟩:=h.pos qZ;have m:=h.1
 have c:(l.flatMap dp++rest)[i*5+4]? =some (gI l[i].left):=by
  rw[bP (by rw[m];omega)];have n:=lx dp 5 l i (λx _=>dH x) hi;have j:(((l.flatMap dp).drop (i*5)).take 5)[4]? =(dp l[i])[4]? :=by rw[n]
  rw[eB,ab qZ,eV]at j;rw[j];rfl
 have d:((l.flatMap dp++rest).toArray.setIfInBounds (i*5+4) (gI x))=((l.set i {l[i]with left:=x}).flatMap dp++rest).toArray:=by
  rw[dI,dQ _ _ (by rw[m];omega),wX l i hi x]
 refine⟨b,a,w.setCell ⟨b,i*5+4,none⟩ (gI x),rfl,λk=>by simp[go_sem,hi,bQ,gR],by simp[go_sem,bQ],by simp[go_sem,cO f,c],by simp[go_sem,cO f,c],⟨by rw[tU dH,aZ],.inr ⟨b,a,rest,by grind,by grind,?_,by grind,g⟩⟩,(bn.refl _ w).setCell (.inl (show aQ (.slice (some ⟨b,0,none⟩) l.length a) b from rfl)) _ _⟩;rw[jp,ab rfl,f,iN,d]
def Rk{K:be}{s:Nat}{F:NP_}{buy:Bool}{o:Od}{r:List Od}{n:Int}(h:gX w s F buy (o::r))(h1:1<=n)(h2:n<=o.left)
  (hK:∀F' w',gX w' s F' buy (kJ (o::r) n)->bn F w w' ->(∀b,F' b->F b\/w.heap.size<=b)->K (.tuple #[mi {o with left:=o.left - n},gI 0]) w'):Ca pQ 283 #[dc s,gI n] w K:=by
 have D:=h.may o (by simp)
 have hm:1<=o.left/\o.left<=1000000:=by
  have:=D.1;unfold Od.may at this;simp only[ah]at this;exact bz this.2
 unfold dc;refine cN Tryz.func283 ?_;obtain⟨I,e1,b1,m1⟩:=kg w;apply dy e1;obtain⟨p,L⟩:=dW w.heap.size;rw[<-L]at b1|-;have q1:=h.mod m1 eI;have G:∀{W W' :Wt_},M0 W W' ->bn F W W' :=λm=>m.to;have pF:∀{b},F b->b<p:=λa=>by rw[L];exact h.lt a
 have hsp:s<p:=pF h.self;obtain⟨⟨sl,t,c2,c3,P⟩,c5,c6⟩:=id q1;obtain⟨sa,sc,S,-⟩:=c2.isSl;have y:¬aQ sl p:=λa=>by grind
 obtain⟨b,cap,w2,hsl',d,f,l,C,U,Z⟩:=c2.setLeft (i:=0) (by simp) (o.left - n);simp only[eH,jJ,cI,List.set_cons_zero]at d f l C U;apply pw q1;refine fh ?_;simp only[dc,cJ];refine dD t ?_;refine dD t ?_;apply ke (gI ((o::r).length:Int)) I (by rw[S];simp[go_sem]);have hne:¬(((o::r).length:Nat):Int)=0:=by simp;omega
 apply az (.bool false) I (by simp only[go_sem];simp;omega);rw[lW];refine dU.at (λst W=>st=(.bool false,())/\W=I) ?_ ?_
 ·have h1' :¬n<1:=qZ;refine fH h1' ?_;refine dD t ?_;refine dD t ?_;refine dy (d .i64) (dy f (dy l ?_));have X:¬o.left<n:=qZ;refine dD X ?_;exact ww
 rintro _ I ⟨rfl,rfl⟩;refine qk ?_;intro _;rw[lW];simp only[cJ];refine dD t ?_;refine dD t ?_;refine dy (d .i64) (dy f (dy l ?_));apply az (gI (o.left - n)) I (by simp[go_sem];rw[mL]);refine dy (d .i64) (dy f ?_);apply lO C;have u:=Z.hpk t P;have p2:=Z.hpk b1 y;refine dD u ?_;refine dD u ?_;obtain⟨b',cap',hsl2,H,A⟩:=U.load (i:=0) (by simp);refine dy (H .i64) (dy A ?_);simp only[eH];obtain⟨w3,e3,b3,m3⟩:=kg w2;apply dy e3;obtain⟨q,T⟩:=dW w2.heap.size;rw[<-T]at b3|-;obtain⟨w4,e4,b4,m4⟩:=jA (o' :={o with left:=o.left - n}) b3;apply lO e4;have O:M0 w2 w4:=m3.on m4 λb a=>gT;have k:=O.hpk u id;have p4:=O.hpk p2 id;have o4:=U.mod O eI;have hpq:p<q:=by have:=aJ p2;omega
 have Y:¬aQ sl q:=λa=>by grind
 have J:bn F w w4:=((G m1).on Z λb a=>.inl ((c3 b).2 (.inr a))).trans (G O)
 have fin:∀(g:List Od) (c:Vt_) (W:Wt_),hC W s #[.bool true,.bool buy,c] 331->sZ W c g->(∀b,aQ c b->aQ sl b)->hC W q (dp {o with left:=o.left - n}).toArray kQ->hC W p (dp ou).toArray kQ->
   bn F w W->g=kJ (o::r) n->QC (cU q 0) (cU p 0) K () W:=by
  intro g c W k1 k2 k3 k4 k5 k6 k7;unfold QC;intro _;apply dy (me (o:={o with left:=o.left - n}) (At.all k4));obtain⟨w7,e7,b7,Q⟩:=jA (o' :={o with left:=o.left - n}) k5;apply lO e7;apply gC (me (o:={o with left:=o.left - n}) (At.all b7));have s7:=Q.hpk k1 qZ;have o7:sZ w7 c g:=k2.mod Q λb a e=>y (by grind);subst k7;refine hK (λb=>b=s\/aQ c b) w7 ⟨⟨c,s7,o7,λb=>aI,λa=>P (k3 s a)⟩,?_,?_⟩ (k6.on Q λb a=>gT) λb a=>?_
  ·unfold kJ;simp only;have:=c5;simp only[aR]at this;split
   ·omega
   ·grind
  ·intro x B;unfold kJ at B;simp only at B;by_cases z:o.left - n=0
   ·grind
   ·rw[aa z]at B;rcases aq.1 B with rfl|B
    ·obtain⟨V,a2,a3⟩:=D;refine⟨?_,a2,a3.1,a3.2.1,a3.2.2.1,by grind⟩;unfold Od.may at V|-;simp only[ah]at V|-;exact⟨V.1,by unfold aY;rw[ax];omega⟩
    ·grind
  ·rcases a with rfl|a
   ·exact .inl h.self
   ·grind
 refine dU.at (λst W=>∃c g,hC W s #[.bool true,.bool buy,c] 331/\sZ W c g/\(∀b,aQ c b->aQ sl b)/\hC W q (dp {o with left:=o.left - n}).toArray kQ/\hC W p (dp ou).toArray kQ/\bn F w W/\g=kJ (o::r) n) ?_ ?_
 ·have q4:=b4;unfold dp at q4;refine dD q4 ?_;refine dD q4 ?_;by_cases z:o.left - n=0
  ·refine ee z ?_;refine dD k ?_;refine dD k ?_;refine un (i:=0) (j:=1) o4 qZ (by simp) (by grind) λc w5 o5 M n5=>?_;obtain⟨xa,xc,R,-⟩:=o5.isSl;have E:=M.hpk k P;refine dD E ?_;obtain⟨w6,e6,b6,N⟩:=J7 (v:=c) E ⟨_,_,_,R⟩;apply lO e6;refine⟨c,_,b6,o5.mod N λb a e=>P (by grind),n5,N.hpk (M.hpk b4 Y) qZ,N.hpk (M.hpk p4 y) qZ,(J.on M λb a=>.inl ((c3 b).2 (.inr a))).on N λb a=>.inl (by grind),?_⟩;unfold kJ;simp[z]
  ·refine fH z ?_;refine⟨sl,_,k,o4,λb a=>a,b4,p4,J,?_⟩;unfold kJ;simp[z]
 ·rintro⟨⟩ W ⟨c,g,k1,k2,k3,k4,k5,k6,k7⟩;exact fin g c W k1 k2 k3 k4 k5 k6 k7
def O3{K:be}{s:Nat}{F:NP_}{buy:Bool}{l:List Od}{n left:Int}(h:gX w s F buy l)(o:dM left)
  (g:∀E t,gX t s E buy (qs l n left).2->bn F w t->(∀b,E b->F b\/w.heap.size<=b)->K (gI (qs l n left).1) t):Ca pQ 272 #[dc s,gQ n,gI left] w K:=by
 unfold dc;refine cN Tryz.func272 ?_;have e:∀{W D:Wt_},M0 W D->bn F W D:=λm=>m.to;refine yn h (λN d B f=>?_) λi y N k B f=>?_
 ·have:qs l n left=(7,l):=by unfold qs;rw[d]
  rw[this]at g;refine dF ?_;refine dF ?_;refine lV ?_;exact g F _ (h.mod f eI) (e f) λb c=>.inl c
 ·have a:qs l n left=if left<1\/l[i].left<left then(2,l)else(0,l.set i {l[i]with left:=left}):=by
   unfold qs;rw[k];simp only;rw[ao y]
  have L:=h.mod f eI;obtain⟨⟨sl,p,P,H,J⟩,S,I⟩:=id L;obtain⟨b,O,M,G,d,j,A,u,Q,C⟩:=P.setLeft y left;refine dF ?_;refine dF ?_;refine fh ?_;refine dU.at (λst W=>st=(.bool (decide (left<1\/l[i].left<left)),())/\W=B) ?_ ?_
  ·by_cases q:left<1
   ·refine ee q ?_;simp[q]
   ·refine fH q ?_;simp only[dc,cJ];refine dD p ?_;refine dD p ?_;refine dy (d .i64) (dy j (dy A ?_));refine dF ?_;simp[q]
  rintro _ B ⟨rfl,rfl⟩;refine qk ?_;intro _;by_cases c:left<1\/l[i].left<left
  ·rw[ab c]at a;rw[a]at g;rw[zZ c];exact g F _ L (e f) λb c=>.inl c
  ·rw[aa c]at a;rw[a]at g;rw[JV c];simp only[dc,cJ];refine dD p ?_;refine dD p ?_;refine dy (d .i64) (dy j ?_);apply lO u;refine g (λb=>b=s\/aQ sl b) M ⟨⟨sl,C.hpk p J,Q,λb=>aI,J⟩,by grind,λx z=>?_⟩ ((e f).on C λb c=>.inl ((H b).2 (.inr c))) λb c=>.inl ((H b).2 c);rcases ec z with z|rfl
   ·exact I x z
   ·obtain⟨r,R,v⟩:=I l[i] (ar y);refine⟨?_,R,v.1,v.2.1,v.2.2.1,o⟩;unfold Od.may at r|-;simp only[ah]at r|-;have T:=bz r.2;exact⟨r.1,by unfold aY;rw[ax];omega⟩
end Go.Proofs
namespace Go.Proofs
open Go Go.Vc
attribute [local congr] bj
def JP{l:List Od}{n:Int}:(l.findIdx? λx=>decide (x.num=n)).isSome=l.any λx=>decide (x.num=n):=by
 rw[List.findIdx?_isSome]
def VA{w:Wt_}{K:be}{s:Nat}{F:NP_}{buy:Bool}{l:List Od}{o:Od}(h:gX w s F buy l)(hof:o.Fit)
  (z:∀F' w',gX w' s F' buy (oX buy l o).2->bn F w w' ->(∀b,F' b->F b\/w.heap.size<=b)->K (gI (oX buy l o).1) w'):Ca pQ 284 #[dc s,mi o] w K:=by
 unfold dc;refine cN Tryz.func284 ?_;have t:∀{W W' :Wt_},M0 W W' ->bn F W W' :=λm=>m.to;have m0:M0 w (w.alloc (.cells #[dc s] 239)):=nl;obtain⟨p,J⟩:=dW w.heap.size;apply az (cU p 0) (w.alloc (.cells #[dc s] 239)) (by rw[J];simp[go_sem,dc]);have b0:hC (w.alloc (.cells #[dc s] 239)) p #[dc s] 239:=by rw[J];simp[go_sem]
 generalize w.alloc (.cells #[dc s] 239)=w0 at m0 b0|-;obtain⟨U,e1,b1,m1⟩:=tQ o w0;apply dy e1;obtain⟨q,hq0⟩:=dW w0.heap.size;rw[<-hq0]at b1|-;have p1:=m1.hpk b0 id;have Z:=m0.trans m1;have X:=h.mod Z eI;have pF:∀{b},F b->b<p:=λc=>by rw[J];exact h.lt c
 have g:∀{W},M0 U W->hC W p #[dc s] 239:=λm=>m.hpk p1 id;have n:∀{W},M0 U W->hC W q (dp o).toArray kQ:=λm=>m.hpk b1 id;refine dD p1 ?_;apply pw X;refine fh ?_;refine dU.at (λst W=>st=(.bool (decide (¬o.may\/o.buy≠buy)),())/\M0 U W) ?_ ?_
 ·have md:M0 U U.drew:=wl;apply gC (me (o:=o) (At.all (n md)));refine vh λw2 H=>?_;have G:=md.trans H;apply eQ (.bool (!o.may)) (λW=>by simp[go_sem]);cases hm:o.may with
  |false=>
   rw[bG,ab (by simp)];exact⟨by simp,G⟩
  |true=>
   rw[bG,aa (by simp)];have M:=n G;unfold dp at M;obtain⟨⟨sl,B,c2,c3,c4⟩,c5,c6⟩:=X.mod G eI;have p2:=g G;refine vn ?_;refine AN M ?_;refine AN p2 ?_;simp only[dc,cJ];refine vn ?_;refine AN B ?_;apply eQ (.bool (decide (o.buy≠buy))) (λW=>by cases o.buy<;>cases buy<;>simp[go_sem]);exact⟨by simp,G⟩
 rintro _ w2 ⟨rfl,H⟩;refine qk ?_;intro _;have G:=Z.trans H;have R:=X.mod H eI;by_cases d:¬o.may\/o.buy≠buy
 ·have I:oX buy l o=(2,l):=by unfold oX;rw[ab d]
  rw[I]at z;rw[zZ d];exact z F _ R (t G) λb c=>.inl c
 rw[JV d];have p2:=g H;have M:=n H;refine dD p2 ?_;unfold dp at M;refine dD M ?_;refine dD M ?_;refine R8 R λw3 m3=>?_;have M3:=H.trans m3;have T:=Z.trans M3;have h3:=R.mod m3 eI;by_cases j:(l.any λx=>decide (x.num=o.num))=true
 ·have I:oX buy l o=(8,l):=by unfold oX;rw[aa d,ab j]
  rw[I]at z;rw[<-JP]at j;obtain⟨i,hi⟩:=ek.1 j;obtain⟨_,_,_,e⟩:=uC hi;rw[e];refine lV ?_;exact z F _ h3 (t T) λb c=>.inl c
 have hno:(l.findIdx? λx=>decide (x.num=o.num))=none:=by
  cases D:l.findIdx? λx=>decide (x.num=o.num)with
  |none=>rfl
  |some i=>exact absurd (by grind) j
 rw[(wE hno).2];refine fh ?_;obtain⟨⟨sl,B,c2,c3,c4⟩,c5,c6⟩:=id h3;obtain⟨sa,sc,N,-⟩:=c2.isSl;have p3:=g M3;refine dD p3 ?_;simp only[dc,cJ];refine dD B ?_;refine dD B ?_;apply ke (gI (l.length:Int)) w3 (by rw[N];simp[go_sem]);by_cases r:100<=l.length
 ·have I:oX buy l o=(9,l):=by unfold oX;rw[aa d,aa j,ab r]
  rw[I]at z;have f:(100:Int)<=(l.length:Int):=qZ;refine ee f ?_;exact z F _ h3 (t T) λb c=>.inl c
 have f:¬(100:Int)<=(l.length:Int):=qZ;refine fH f ?_;have I:oX buy l o=(0,su buy l o):=by unfold oX;rw[aa d,aa j,aa r]
 rw[I]at z;refine dD p3 ?_;simp only[dc,cJ];refine dD B ?_;refine dD B ?_;refine vO (p:=λx=>iv buy o.price x.price) c2.rd qZ ⟨_,_,rfl,λx A W mW K' hK' =>?_⟩ λk m4=>?_
 ·refine cN Tryz.func322 ?_;obtain⟨W1,e1,d1,n1⟩:=tQ x W;apply dy e1;have MW:=(M3.trans mW).trans n1;have pW:=g MW;have qW:=n MW;unfold dp at d1 qW;refine dD pW ?_;refine dD qW ?_;refine dD qW ?_;refine dD d1 ?_;refine dD d1 ?_;apply Cv (X.mod MW eI);exact hK' _ n1
 have Q:=M3.trans m4;have h4:=h3.mod m4 eI;have u:=m4.hpk B id
 have V:Fz buy l o.price<=l.length:=by
  unfold Fz;cases D:l.findIdx? λx=>iv buy o.price x.price with
  |none=>exact aB _
  |some i=>
   obtain⟨hi,_⟩:=uC D;simp only[cR];omega
 refine dU.at (λst W=>st=(gI (Fz buy l o.price:Nat),())/\W=k) ?_ ?_
 ·cases D:l.findIdx? λx=>iv buy o.price x.price with
  |none=>
   rw[(wE D).2];refine lV ?_;have p4:=g Q;refine dD p4 ?_;simp only[dc,cJ];refine dD u ?_;refine dD u ?_;apply ke (gI (l.length:Int)) k (by rw[N];simp[go_sem]);refine⟨?_,rfl⟩;unfold Fz;rw[D];rfl
  |some i=>
   obtain⟨_,_,_,e⟩:=uC D;rw[e];refine fh ?_;refine⟨?_,rfl⟩;unfold Fz;rw[D];rfl
 rintro _ k ⟨rfl,rfl⟩;refine qk ?_;intro _;have md:M0 k k.drew:=wl;have pd:=g (Q.trans md);have qd:=n (Q.trans md);have cd:=md.hpk u id;refine AN pd ?_;refine AN pd ?_;simp only[dc,cJ];refine vn ?_;refine AN cd ?_;apply gC (me (o:=o) (At.all qd));refine oE [mi o] gR (dG Ny) rfl rfl (by intro v hv;rw[bX.1 hv];rfl) qZ ?_;have e0:(([mi o]:LV_).flatMap (·.cells.toList)).toArray=(dp o).toArray:=rfl;rw[e0];have m5:M0 k.drew (k.drew.alloc (.cells (dp o).toArray kQ)):=nl;have S:=md.trans m5
 have P:sZ (k.drew.alloc (.cells (dp o).toArray kQ)) (.slice (some ⟨k.drew.heap.size,0,none⟩) 1 1) [o]:=
  ⟨rfl,.inr ⟨_,1,[],rfl,aB _,by rw[dZ,ab rfl];simp,by simp,by simp⟩⟩
 have Y:∀b,aQ (.slice (some ⟨k.drew.heap.size,0,none⟩) 1 1) b->b=k.drew.heap.size:=λb c=>by cases c;rfl
 generalize k.drew.alloc (.cells (dp o).toArray kQ)=w5 at m5 S P|-;have p5:=g (Q.trans S);have C:=S.hpk u id;refine⟨by simp[go_sem,C],by simp[go_sem,p5,dc],by simp[go_sem,p5,dc],?_⟩;obtain⟨⟨L,k1,k2,k3,k4⟩,k5,k6⟩:=h4.mod S eI
 have esl:L=sl:=by
  have:=C.symm.trans k1;simp only[gD,Obj.cells.injEq]at this;have:=dP (λa:Array Value=>a[2]?) this.1;simp at this;exact this.symm
 subst esl;have O:∀b,aQ L b->b<w3.heap.size:=λb c=>c2.lt c;have hsz43:=m4.size;refine Gj k2 P (λb c hb' =>by have X:=O b c;have R:=Y b hb';rw[Dh]at R;omega) V qZ λs6 w6 o6 m6 n6=>?_;obtain⟨xa,xc,hs6,-⟩:=o6.isSl;have hps:¬aQ L p:=λc=>by grind
 have p6:=m6.hpk p5 hps;have c6' :=m6.hpk C k4;refine⟨by simp[go_sem,p6,dc],?_⟩;refine vn ?_;obtain⟨w7,e7,b7,m7⟩:=J7 (v:=s6) c6' ⟨_,_,_,hs6⟩;apply lO e7;have E:=Z.trans (Q.trans S)
 have y:¬aQ s6 s:=λc=>by
  rcases n6 s c with h' |h'
  ·exact k4 h'
  ·have:=pF h.self;have:=E.size;omega
 have MF:bn F w w7:=((t E).on m6 λb c=>.inl ((k3 b).2 (.inr c))).on m7 λb c=>.inl (by grind);refine z (λb=>b=s\/aQ s6 b) w7 ⟨⟨s6,b7,o6.mod m7 λb c e=>y (by grind),λb=>aI,y⟩,?_,?_⟩ MF λb c=>?_
 ·unfold su;rw[ad,av,aR,bi,cV V];omega
 ·intro x A;unfold su at A;rcases aN.1 A with A|A
  ·grind
  ·rcases aq.1 A with rfl|A
   ·have:x.may=true/\x.buy=buy:=by
     constructor
     ·grind
     ·grind
    exact⟨this.1,this.2,hof⟩
   ·grind
 ·rcases c with rfl|c
  ·exact .inl h.self
  ·rcases n6 b c with h' |h'
   ·grind
   ·have:=E.size;exact gT
end Go.Proofs
namespace Go.Vc
open Go Go.Shelf Go.RowKit Go.Lib Go.Sort Go.Proofs
def BZ{P:Program}(h:tV P=true){g:FuncId}(f:∃fn,P.funcs[g]? =some fn/\fn.body.isSome=true)(c:Array Value)(w:Wt_):(callFunc g c).run P w=.ok (.enter g c) w:=by
 obtain⟨fn,e,f⟩:=f
 have d:(fn.name== "runtime.NumGoroutine")=false:=by
  have:=(jD.1 h) fn (Array.mem_of_getElem? e);simpa using this
 have a:¬fn.name= "runtime.NumGoroutine" :=by simpa using d
 have b:¬fn.body=none:=by grind
 unfold callFunc;simp[cY,Result.andThen,e,a,b]
def xN{α:Type} [Inhabited α](enc:α->List Value)(k:Nat)(c:0<k)(a:∀x,(enc x).length=k)(d:Array α):(flatK enc k d).toList=d.toList.flatMap enc:=by
 have l:(d.toList.flatMap enc).length=d.size*k:=by rw[qS enc k _ λx _=>a x];simp
 apply jM;intro t;by_cases e:t<d.size*k
 ·have i:(flatK enc k d).toList[t]? =some (flatK enc k d)[t]! :=by
   rw[jT,gz (by simpa using e),eW _ t (by simpa using e)]
  rw[i,get_flatK enc k d t e];have f:t / k<d.size:=Nat.div_lt_of_lt_mul (by grind);have b:t%k<k:=fV _ c;have g:=lx enc k d.toList (t / k) (λx _=>a x) (by simpa using f)
  have j:(d.toList.flatMap enc)[t]? =((d.toList.flatMap enc).drop (t / k*k) |>.take k)[t%k]? :=by
   rw[eB,ab b,eV,nh]
  rw[j,g]
  have h:d[t / k]! =d.toList[t / k]'(by simpa using f):=by
   rw[eW d _ f];simp
  rw[h,eW _ _ (by rw[a];exact b),ao (by rw[a];exact b)]
 ·rw[gt (by simp;omega),gt qZ]
def FA(F rest cs:LV_)(h:F.length=cs.length):putCells id 0 F.toArray (cs++rest).toArray=(F++rest).toArray:=by
 apply Array.ext_getElem?;intro t;simp only[putCells,Array.getElem?_mapIdx,cG,dC,aw,oe,cI,jL,id];by_cases a:t<F.length
 ·grind
 ·grind
section
variable{P:Program}{ρ:Ren}{α:Type} [Inhabited α]
def GU(hP:tV P=true)(L:SlLaysF0.n6 P ρ)(k:Nat)(S:lI P (ρ.t 24)=true)(U:P.cellsOf (ρ.t 24)=k+1)(enc:α->List Value)(s:∀x,(enc x).length=k+1)(V:∀x,(enc x).all (·.oneCell')=true)
  (cf:α->α->Int)(X:SWO (ltOf cf))(g:Nat)(A:∀(x y:α) (W:Wt_),Ca P g #[.agg (enc x).toArray,.agg (enc y).toArray] W λv w' =>v=gI (cf x y)/\∃q os,w' =grow (W.drewN q) os)
  {e:TypeId}{w:Wt_}{sl:Vt_}{n:Nat}{d:List α}{K:be}(O:il w e (k+1) sl n (d.flatMap enc))(hn:n<4611686018427387904)
  (N:∀(w' :Wt_) (a:List α),il w' e (k+1) sl n (a.flatMap enc)->a.Perm d->a.Pairwise (λx y=>ltOf cf y x=false)->bn (aQ sl) w w' ->K (.tuple #[]) w'):
  Ca P (ρ.f 6) #[sl,.func (.func g) #[] #[]] w K:=by
 have h:d.length=n:=by
  have:=O.1;rw[qS enc (k+1) d λx _=>s x]at this;exact Nat.eq_of_mul_eq_mul_right (lz k) this
 obtain⟨Q,⟨rfl,rfl⟩|⟨b,p,rest,rfl,hc,C,hr,I⟩⟩:=O
 ·have R:d=[]:=List.length_eq_zero_iff.1 h;subst R;have:=AnyF.slices_SortFunc_none L none 0 (.func (.func g) #[] #[]) w;exact⟨jr this λe w' ⟨M,F⟩=>⟨_,M,by subst F;exact N _ [] (il.nil ..) (db _) List.Pairwise.nil rC⟩⟩
 ·have T:b<w.heap.size:=aJ C;have J:=BZ hP (A default default w).bodied
  have hH:HoldsK enc (k+1) w b 0 d.toArray:=by
   intro j D;rw[size_flatK]at D
   have Z:(flatK enc (k+1) d.toArray)[j]! =(d.flatMap enc)[j]'(by grind):=by
    rw[eW _ j (by rw[size_flatK];exact D),<-Array.getElem_toList];congr 1;exact xN enc (k+1) (lz k) s d.toArray
   have G:j<(d.flatMap enc).length:=by grind
   constructor
   ·simp only[World.cell?,C,cI];rw[Z];simp[bP G]
   ·simp[World.frozen?,C]
  have z:CmpLays P g #[] enc (k+1) cf b 0 d.toArray.size w:=λm os dk _ x y=>by
   apply jr (A x y _).out;rintro e w' ⟨v,rfl,rfl,F⟩;exact⟨rfl,F⟩
  have l:=AnyQ.slices_SortFunc L (k+1) (yL S) (kY U) enc s (λx v hv=>aW.1 (V x) v hv) cf X g #[] b 0 p d.toArray w J z hH T (by grind);rw[show d.toArray.size=n by simpa using h]at l;refine⟨jr l ?_⟩;rintro e' w' ⟨rfl,a,m,os,hp,hs,rfl⟩;refine⟨_,rfl,?_⟩;have u:a.size=n:=by rw[hp.1];simpa using h
  have H:(flatK enc (k+1) a).toList=a.toList.flatMap enc:=xN enc (k+1) (lz k) s a;have B:flatK enc (k+1) a=(a.toList.flatMap enc).toArray:=by rw[<-H]
  have c:(a.toList.flatMap enc).length=(d.flatMap enc).length:=by
   rw[Q,qS enc (k+1) _ λx _=>s x];simp[u]
  have o:∀f,f<w.heap.size->(sortWorldK enc (k+1) w b 0 m a os).heap[f]? =if f=b then some (.cells (a.toList.flatMap enc++rest).toArray e (0,0))else w.heap[f]? :=by
   intro f r;show((w.heap.modify b (onCells (putCells id 0 (flatK enc (k+1) a))))++os)[f]? =_;rw[Array.getElem?_append_left (by simpa using r),iO];by_cases M:f=b
   ·subst M;rw[ab rfl,ab rfl,C];simp only[eA,onCells];rw[B,FA _ _ _ c]
   ·grind
  have t:bn (aQ (.slice (some ⟨b,0,none⟩) n p)) w (sortWorldK enc (k+1) w b 0 m a os):=by
   refine⟨?_,rfl,rfl,λf r hf=>?_⟩
   ·grind
   ·rw[o f r,aa (λe=>hf (by subst e;rfl))]
  refine N _ a.toList ⟨by rw[c,Q],.inr ⟨b,p,rest,rfl,hc,by grind,hr,I⟩⟩ ?_ ?_ t
  ·have:=hp.2.2;have e1:a.extract 0 n=a:=by rw[<-u];simp
   have Y:d.toArray.extract 0 n=d.toArray:=by rw[<-h];simp
   rw[e1,Y]at this;simpa using this
  ·rw[bH];intro i j hi D E;have:=hs i j (aw _) E (by grind);rw[eW a i (by simpa using hi),eW a j (by simpa using D)]at this;simpa using this
end
end Go.Vc
namespace Go.Proofs
open Go Go.Vc Go.Shelf Go.RowKit Go.Lib Go.Sort
def dk_{p:Prop}(h:p:=by first|kernel_rfl|(intro _;kernel_rfl)):p:=h
def de_{f:FuncId}{B:Func}(h:((Tryz.prog.funcs[f]?.elim "" (·.name))== "runtime.NumGoroutine")=false:=by kernel_rfl)(g:Tryz.prog.funcs[f]? =some {B with name:=Tryz.prog.funcs[f]?.elim "" (·.name)}:=by kernel_rfl):Bears pQ f B:=⟨_,h,g⟩
def Tryz.sortAc_ren:Ren:=⟨λ|6=>159|15=>233|14=>232|28=>293|29=>294|20=>285|21=>286|22=>287|23=>288|24=>289|25=>290|26=>291|27=>292|46=>324|47=>325|48=>326|49=>327|50=>328|57=>365|n=>n,λ|22=>53|24=>100|25=>252|3=>3|39=>263|0=>0|53=>45|55=>37|4=>4|46=>401|45=>400|50=>303|5=>5|9=>9|66=>436|70=>439|76=>469|77=>470|n=>n,λn=>n⟩
def Tryz.sortAc:SlLaysF0.n6 pQ Tryz.sortAc_ren:=by constructor<;>first|exact dk_|exact de_
def Tryz.sortPo_ren:Ren:=⟨λ|6=>236|15=>233|14=>295|28=>293|29=>294|20=>329|21=>330|22=>331|23=>332|24=>333|25=>334|26=>335|27=>336|46=>366|47=>325|48=>326|49=>367|50=>368|57=>382|n=>n,λ|22=>55|24=>124|25=>341|3=>3|39=>263|0=>0|53=>45|55=>37|4=>4|46=>401|45=>400|50=>303|5=>5|9=>9|66=>436|70=>439|76=>469|77=>470|n=>n,λn=>n⟩
def Tryz.sortPo:SlLaysF0.n6 pQ Tryz.sortPo_ren:=by constructor<;>first|exact dk_|exact de_
end Go.Proofs
namespace Go.Proofs
open Go Go.Vc Go.Sort
def uv(W:Wt_)(o o' :Obj):∃q os,(W.alloc o).alloc o' =grow (W.drewN q) os:=
 ⟨0,#[o]++ #[o'],by rw[alloc_eq_grow,alloc_eq_grow,grow_grow];rfl⟩
def zu(x y:Ac):Int:=if x.num<y.num then -1 else 1
def wR(x y:Po):Int:=if vD x.key y.key then -1 else if x=y then 0 else 1
def QN(x y:Ac):ltOf zu x y=decide (x.num<y.num):=by
 unfold ltOf zu;split<;>simp_all
def Ru(x y:Po):ltOf wR x y=vD x.key y.key:=by
 unfold ltOf wR;cases h:vD x.key y.key
 ·grind
 ·simp
def ad1:SWO (ltOf zu) where
 irrefl x:=by rw[QN];simp
 trans x y z h1 h2:=by rw[QN]at*;simp at*;omega
 ntrans x y z h1 h2:=by rw[QN]at*;simp at*;omega
def ag2:SWO (ltOf wR) where
 irrefl x:=by rw[Ru];exact EJ
 trans x y z h1 h2:=by rw[Ru]at*;exact yx h1 h2
 ntrans x y z h1 h2:=by
  rw[Ru]at*;rw[fM,Ne,mY]at*;omega
def Qe(x y:Ac)(W:Wt_):Ca pQ 160 #[.agg (dr x).toArray,.agg (dr y).toArray] W λv a=>v=gI (zu x y)/\∃q os,a=grow (W.drewN q) os:=by
 refine cN Tryz.func160 ?_;simp[go_sem,dr];unfold zu;split
 ·exact⟨rfl,uv ..⟩
 ·exact⟨rfl,uv ..⟩
def R0(x y:Po)(W:Wt_):Ca pQ 237 #[.agg (dR x).toArray,.agg (dR y).toArray] W λv o=>v=gI (wR x y)/\∃q os,o=grow (W.drewN q) os:=by
 refine cN Tryz.func237 ?_;simp[go_sem,dR];generalize d:World.alloc _ _=f;have h:∃q os,f=grow (W.drewN q) os:=by subst d;exact uv ..
 have n:hC f W.heap.size #[.int .u32 x.c,gU x.a,gI x.q,gI x.b] 124:=by subst d;simp[go_sem]
 have l:hC f (W.heap.size+1) #[.int .u32 y.c,gU y.a,gI y.q,gI y.b] 124:=by subst d;simp[go_sem]
 refine dU.at (λs p=>s=(.bool (vD x.key y.key),())/\p=f) ?_ ?_
 ·simp[go_sem,cO n,cO l];unfold vD Po.key;by_cases e:x.c<y.c
  ·simp[e]
  ·by_cases g:x.c=y.c
   ·simp[e,g]
   ·simp[e,g]
 rintro _ f ⟨rfl,rfl⟩;refine qk ?_;intro _;cases j:vD x.key y.key
 ·simp[go_sem,cO n,cO l]
  have i:x=y↔x.c=y.c/\x.a=y.a/\x.q=y.q/\x.b=y.b:=by
   obtain⟨c,a,q,b⟩:=x;obtain⟨r,u,w,t⟩:=y;simp
  by_cases e:x.c=y.c<;>by_cases g:x.a=y.a<;>by_cases m:x.q=y.q<;>by_cases k:x.b=y.b<;>simp[e,g,m,k]<;>exact⟨by simp[wR,j,i,e,g,m,k],h⟩
 ·simp;exact⟨by simp[wR,j],h⟩
def an0:fj pQ 100 4 24=true:=cH
end Go.Proofs
namespace Go.Proofs
open Go Go.Vc Go.Sort
variable {n:Nat}{sl:Vt_}
def NS{w:Wt_}{d:List Ac}{K:be}(b:il w 100 4 sl n (d.flatMap dr))(e:n<4611686018427387904)
  (c:∀(w' :Wt_) (a:List Ac),il w' 100 4 sl n (a.flatMap dr)->a.Perm d->a.Pairwise (λx y=>ltOf zu y x=false)->bn (aQ sl) w w' ->K (.tuple #[]) w'):
  Ca pQ 159 #[sl,.func (.func 160) #[] #[]] w K:=
 GU (P:=pQ) (α:=Ac) Tryz.noNum Tryz.sortAc 3 cH cH dr (λ_=>rfl) (λ_=>rfl) zu ad1 160 Qe b e c
def I4{y:Vt_}{b:Nat}{T:TypeId}{xs:List Ac}(J:Nat->World->Prop)(F:World->Prop){W:Wt_}{K:be}(I:hC W b #[sl] T)(v:il W 100 4 sl n (xs.flatMap dr))(V:n<4611686018427387904)
  (H:J 0 W)(l:∀i W a,J i W->M0 W a->J i a)
  (d:∀i x W,xs[i]? =some x->J i W->∀A:be,(∀a,J (i+1) a->(∀b,aQ sl b->a.heap[b]? =W.heap[b]?)->A (.bool true) a)->(∀a,F a->A (.bool false) a)->om pQ y [jG x] W A)
  (g:∀W,J xs.length W->K (.tuple #[]) W)(z:∀W,F W->K (.tuple #[]) W):Ca pQ 234 #[y,.pointer (some ⟨b,0,none⟩)] W K:=by
 have u:xs.length=n:=by
  have:=v.1;rw[qS dr 4 xs λx _=>rfl]at this;omega
 obtain⟨sa,sc,rfl,Q⟩:=v.isSl;refine cN Tryz.func234 ?_;simp[go_sem,cO I]
 refine zA (λs a=>∃i:Nat,i<=n/\s=(gI i,())/\J i a/\il a 100 4 (.slice sa n sc) n (xs.flatMap dr))
  (λs _=>match s.1 with| .int _ i=>n - i.toNat|_=>0) ⟨0,qZ,rfl,H,v⟩ ?_
 rintro⟨_,_⟩ a ⟨i,U,⟨⟩,D,B⟩ R q;refine rT ?_;intro _;by_cases f:i<n
 ·obtain⟨G,t,M,m⟩:=il.elem B f;obtain⟨rfl,-,rfl⟩:sa=some ⟨G,0,none⟩/\True/\sc=t:=by grind
  rw[lx dr 4 _ _ (λ_ _=>rfl) qZ]at m;obtain⟨C,e,S,hC,c⟩:=m.get;have j:=c 0 _ rfl;have p:=c 1 _ rfl;have h:=c 2 _ rfl;have k:=c 3 _ rfl;simp only[cI,bM]at j p h k;have w:IntKind.i64.wrap ((i:Int)+1)=((i+1:Nat):Int):=by rw[cy];omega
  simp[-Int.natCast_add,go_sem,f,hC,j,p,h,k];have O:xs[i]? =some xs[i]:=ao qZ;have E:∀o,M0 a (a.alloc o):=λo=>(bn.refl _ a).alloc o;refine d i _ _ O (l _ _ _ D (E _)) _ (λP r L=>?_) (λP N=>?_)
  ·simp[-Int.natCast_add,go_sem,w];refine q _ _ ⟨i+1,qZ,rfl,r,(B.mod (E _) eI).keep L⟩ (by simp;omega)
  ·simp[go_sem];exact z _ N
 ·obtain rfl:i=n:=qZ;simp[go_sem];exact g _ (u▸D)
def OO{w:Wt_}{d:List Po}{K:be}(b:il w 124 4 sl n (d.flatMap dR))(e:n<4611686018427387904)
  (c:∀(w' :Wt_) (a:List Po),il w' 124 4 sl n (a.flatMap dR)->a.Perm d->a.Pairwise (λx y=>ltOf wR y x=false)->bn (aQ sl) w w' ->K (.tuple #[]) w'):
  Ca pQ 236 #[sl,.func (.func 237) #[] #[]] w K:=
 GU (P:=pQ) (α:=Po) Tryz.noNum Tryz.sortPo 3 cH cH dR (λ_=>rfl) (λ_=>rfl) wR ag2 237 R0 b e c
def Ji{y:Vt_}{b:Nat}{T:TypeId}{xs:List Po}(J:Nat->World->Prop)(F:World->Prop){W:Wt_}{K:be}(I:hC W b #[sl] T)(v:il W 124 4 sl n (xs.flatMap dR))(V:n<4611686018427387904)
  (H:J 0 W)(l:∀i W a,J i W->M0 W a->J i a)
  (d:∀i x W,xs[i]? =some x->J i W->∀A:be,(∀a,J (i+1) a->(∀b,aQ sl b->a.heap[b]? =W.heap[b]?)->A (.bool true) a)->(∀a,F a->A (.bool false) a)->om pQ y [mK x] W A)
  (g:∀W,J xs.length W->K (.tuple #[]) W)(z:∀W,F W->K (.tuple #[]) W):Ca pQ 296 #[y,.pointer (some ⟨b,0,none⟩)] W K:=by
 have u:xs.length=n:=by
  have:=v.1;rw[qS dR 4 xs λx _=>rfl]at this;omega
 obtain⟨sa,sc,rfl,Q⟩:=v.isSl;refine cN Tryz.func296 ?_;simp[go_sem,cO I]
 refine zA (λs a=>∃i:Nat,i<=n/\s=(gI i,())/\J i a/\il a 124 4 (.slice sa n sc) n (xs.flatMap dR))
  (λs _=>match s.1 with| .int _ i=>n - i.toNat|_=>0) ⟨0,qZ,rfl,H,v⟩ ?_
 rintro⟨_,_⟩ a ⟨i,U,⟨⟩,D,B⟩ R q;refine rT ?_;intro _;by_cases f:i<n
 ·obtain⟨G,t,M,m⟩:=il.elem B f;obtain⟨rfl,-,rfl⟩:sa=some ⟨G,0,none⟩/\True/\sc=t:=by grind
  rw[lx dR 4 _ _ (λ_ _=>rfl) qZ]at m;obtain⟨C,e,S,hC,c⟩:=m.get;have j:=c 0 _ rfl;have p:=c 1 _ rfl;have h:=c 2 _ rfl;have k:=c 3 _ rfl;simp only[cI,bM]at j p h k;have w:IntKind.i64.wrap ((i:Int)+1)=((i+1:Nat):Int):=by rw[cy];omega
  simp[-Int.natCast_add,go_sem,f,hC,j,p,h,k];have O:xs[i]? =some xs[i]:=ao qZ;have E:∀o,M0 a (a.alloc o):=λo=>(bn.refl _ a).alloc o;refine d i _ _ O (l _ _ _ D (E _)) _ (λP r L=>?_) (λP N=>?_)
  ·simp[-Int.natCast_add,go_sem,w];refine q _ _ ⟨i+1,qZ,rfl,r,(B.mod (E _) eI).keep L⟩ (by simp;omega)
  ·simp[go_sem];exact z _ N
 ·obtain rfl:i=n:=qZ;simp[go_sem];exact g _ (u▸D)
end Go.Proofs
namespace Go.Proofs
open Go Go.Vc Go.Sort
def Us{d l:List Ac}(hl:mg l)(hp:d.Perm l)(j:d.Pairwise λx y=>ltOf zu y x=false):d=l:=by
 refine hp.eq_of_pairwise (λa b k n g f=>?_) j (hl.imp λh=>?_)
 ·rw[QN]at g f;simp only[fQ]at g f;have c:=hp.mem_iff.1 k;have e:a.num=b.num:=qZ;have i:=bq.find_some (S:=⟨0,l,[]⟩) hl c;have m:=bq.find_some (S:=⟨0,l,[]⟩) hl n;rw[e,m]at i;exact(cM i).symm
 ·rw[QN];simp only[fQ];omega
def UM{d l:List Po}(hl:kf l)(hp:d.Perm l)(j:d.Pairwise λx y=>ltOf wR y x=false):d=l:=by
 refine hp.eq_of_pairwise (λa b k n f c=>?_) j (hl.imp λh=>?_)
 ·rw[Ru]at f c;have g:=hp.mem_iff.1 k
  have e:a.key=b.key:=by
   rcases AA a.key b.key with h|h|h
   ·rw[h]at c;cases c
   ·exact h
   ·rw[h]at f;cases f
  have i:=bq.pos_some (S:=⟨0,[],l⟩) hl g;have m:=bq.pos_some (S:=⟨0,[],l⟩) hl n;rw[e,m]at i;exact(cM i).symm
 ·rw[Ru];exact yk h
def P4{e ty f:TypeId}{k by_:Nat}{α:Type}{enc:α->List Value}{w:Wt_}{v:Vt_}{d:List α}{x:α}{K:be}(g:Tryz.prog.underlying f=some (.slice e))(p:fj pQ e (k+1) by_=true)(q:(enc x).length=k+1)(u:(enc x).all (·.oneCell')=true)(E:k<1000)(j:by_<=10000)
  (z:il w e (k+1) v d.length (d.flatMap enc))(D:d.length<4294967296)
  (y:∀c a,il a e (k+1) c (d++[x]).length ((d++[x]).flatMap enc)->bn (aQ v) w a->(∀b,aQ c b->aQ v b\/w.heap.size<=b)->K c a):
  rx pQ (qL f 1 [(0,.agg (enc x).toArray)]) w λl i=>rx pQ (ff #[f,f] ty [v,l]) i K:=by
 refine oE (e:=e) (sz:=k+1) [.agg (enc x).toArray] g (dG p) rfl rfl (by simp[Value.cells,q]) qZ ?_;have r:∀o,M0 w (w.alloc o):=λo=>(bn.refl _ w).alloc o
 have A:Rd (w.alloc (.cells (([Value.agg (enc x).toArray].flatMap (·.cells.toList)).toArray) e)) (k+1) (.slice (some ⟨w.heap.size,0,none⟩) 1 1) 1 (enc x):=by
  refine⟨by rw[q];omega,.inr ⟨_,0,1,rfl,aB _,⟨_,_,_,by rw[dZ,ab rfl],?_,?_⟩⟩⟩
  ·simp[Value.cells]
  ·simp[Value.cells]
 refine lA (n:=d.length) (m:=1) g g (dG p) (z.mod (r _) eI) A u ?_ λc a B C s=>?_
 ·have:(d.length+1)*by_<=4294967296*10000:=gj qZ j;omega
 ·refine y c a ?_ (((r _).to).trans C) λb t=>?_
  ·simpa using B
  ·rcases s b t with h|h
   ·exact .inl h
   ·rw[ci]at h;exact gT
def aq0:Tryz.prog.underlying 53=some (.slice 100):=cH
def Su:Tryz.prog.underlying 55=some (.slice 124):=cH
def zX{l b:Nat}{S:bq}{T:TypeId}:Bt pQ (.func (.func 158) #[] #[.pointer (some ⟨b,0,none⟩)]) (S.all.map λa=>[jG a]) (λW=>hC W b #[eK l] T/\∃F,iw W l F S):=by
 refine⟨⟨_,_,_,rfl,?_⟩⟩;rintro y J Js W K ⟨c,F,hq⟩ hQ w R hend hex;have P:=hq;obtain⟨⟨m,m2,A,B,M,L,h3,h4,h5,h6,h7⟩,g⟩:=hq;show Ca pQ _ #[y,.pointer (some ⟨b,0,none⟩)] W K;refine cN Tryz.func158 ?_;refine dU.at (λs f=>∃(d:List Ac) (v:Vt_),s=(v,())/\il f 100 4 v d.length (d.flatMap dr)/\d.Perm S.all/\M0 W f/\∀b,aQ v b->W.heap.size<=b) ?_ ?_
 ·simp[go_sem,cO c];apply lZ P;simp[go_sem,cO c,eK,cO M];refine sQ oQ L λw1 E z=>?_;generalize hg:W.heap.size=it at E
  refine zA (λs f=>∃(d:List Ac) (v:Vt_) (rest:List (Int×Ac)),s=(v,())/\il f 100 4 v d.length (d.flatMap dr)/\kR eS jG f it m rest/\(d++(rest.filter λp=>decide (p.1≠0)).map (·.2)).Perm S.all/\M0 W f/\∀b,aQ v b->it<b)
   (λs W=>ri it m W) ⟨[],_,A,rfl,il.nil ..,E,?_,z,λb c=>by cases c⟩ ?_
  ·have:=(h4.filter λp=>decide (p.1≠0)).map (·.2);refine this.trans (iG ?_);simp only[bq.accs];rw[aU (by simp),cC.2 ?_,da]
   ·exact kH _
   ·intro p hp;obtain⟨a,ha,rfl⟩:=aD.1 hp;have:=(g.acc a ha).1;simp;omega
  rintro⟨v,_⟩ W1 ⟨d,_,rest,⟨⟩,H,itW,hp,I,C⟩ KN O;refine rT ?_;intro _;refine vq itW ?_ ?_
  ·intro h0 r G hh;subst h0;simp[go_sem];exact⟨d,H.mod G eI,by simpa using hp,I.trans G,λb c=>by grind⟩
  ·intro i p hi r it' t G N;simp[go_sem];apply so t;simp[go_sem,jG,eS];have hpe:=nv hi;have X:∀o,M0 W (r.alloc o):=λo=>(I.on G λb c=>.inr (by subst c;omega)).alloc o;have u:∀o,kR eS jG (r.alloc o) it m (rest.eraseIdx i):=λo=>it'.mod ((bn.refl (λ_=>False) r).alloc o) id id;have oA:∀o,il (r.alloc o) 100 4 v d.length (d.flatMap dr):=λo=>(H.mod G λb c e=>by grind).mod ((bn.refl (λ_=>False) r).alloc o) eI
   have Y:∀f,kR eS jG f it m (rest.eraseIdx i)->ri it m f<ri it m W1:=λf h=>by
    rw[h.left,itW.left,gH];have:i<rest.length:=(aF.1 hi).1;rw[ab this];omega
   have V:d.length<=64:=by
    have M:=hp.length_eq;have L:=g.len;simp only[ad]at M;omega
   by_cases hz:p.1=0
   ·grind
   ·rw[aa hz];refine P4 (d:=d) (enc:=dr) (x:=p.2) (k:=3) aq0 an0 rfl rfl qZ qZ (oA _) qZ λv' w'' o' q n' =>?_;have j:¬aQ v it:=λh=>by grind
    have D:¬aQ v m:=λh=>by have:=C m h;have:=L.lt;omega
    refine O _ _ ⟨d++[p.2],v',_,rfl,o',(u _).mod q D j,?_,(X _).on q λb c=>.inr (by grind),λb c=>?_⟩ (Y _ ((u _).mod q D j))
    ·grind
    ·rcases n' b c with h|h
     ·exact C b h
     ·rw[ci,N]at h;have:=itW.lt.2;omega
 rintro _ W1 ⟨d,v,rfl,H,hp,I,C⟩;refine qk ?_;intro _
 have V:d.length<=64:=by
  have M:=hp.length_eq;have L:=g.len;omega
 refine NS H qZ λw2 d' Q p2 s2 U=>?_;obtain rfl:d' =S.all:=Us g.sa (p2.trans hp) s2;obtain⟨sa,sc,rfl,hsc⟩:=Q.isSl;refine cN Tryz.func161 ?_;simp[go_sem];have Z:M0 W w2:=I.on U λb c=>.inr (C b c);have X:∀o,M0 W (w2.alloc o):=λo=>Z.alloc o;refine I4 (n:=d.length) (sl:=.slice sa d.length sc) (T:=53) (J (aQ (.slice sa d.length sc))) Js (by simp[go_sem]) (Q.mod nl eI) qZ (hQ _ _ (X _) λb c=>⟨C b c,?_⟩) (w _) ?_ ?_ hex
 ·have:=Q.lt c;rw[ci];omega
 ·grind
 ·grind
end Go.Proofs
namespace Go.Proofs
open Go Go.Vc Go.Sort
variable {F:NP_}{l:Nat}{w:Wt_}{K:be}{S:bq}
def Mi{b b2 f:Nat}{cap:Array Value}{T T2:TypeId}{want:Po->Bool}{Wk:World->Prop}(hWk:∀W g,Wk W->M0 W g->Wk g)
  (C:∀p W (K:be),Wk W->(∀g,M0 W g->K (.bool (want p)) g)->Ca pQ f ⟨mK p::cap.toList⟩ W K):
  Bt pQ (.func (.func 235) #[] #[.pointer (some ⟨b,0,none⟩),.pointer (some ⟨b2,0,none⟩)]) ((S.held.filter want).map λa=>[mK a])
   (λW=>hC W b #[eK l] T/\hC W b2 #[.func (.func f) #[] cap] T2/\Wk W/\S.held.length<4294967295/\∃F,iw W l F S):=by
 refine⟨⟨_,_,_,rfl,?_⟩⟩;rintro y J Js W K ⟨c,P,hwk,hlen,F,hq⟩ hQ R hstep hend hex;have hq0:=hq;obtain⟨⟨m1,q,A,B,Z,h2,h3,h4,h5,h6,h7⟩,hok⟩:=hq;show Ca pQ _ #[y,.pointer (some ⟨b,0,none⟩),.pointer (some ⟨b2,0,none⟩)] W K;refine cN Tryz.func235 ?_;refine dU.at (λs g=>∃(d:List Po) (v:Vt_),s=(v,())/\il g 124 4 v d.length (d.flatMap dR)/\d.Perm (S.held.filter want)/\M0 W g/\∀b,aQ v b->W.heap.size<=b) ?_ ?_
 ·simp[go_sem,cO c];apply lZ hq0;simp[go_sem,cO c,eK,cO Z];refine sQ AR h3 λw1 Y U=>?_;generalize hg:W.heap.size=it at Y
  refine zA (λs g=>∃(d:List Po) (v:Vt_) (rest:List ((Int×Int)×Po)),s=(v,())/\il g 124 4 v d.length (d.flatMap dR)/\kR gr mK g it q rest/\(d++(rest.map (·.2)).filter want).Perm (S.held.filter want)/\M0 W g/\∀b,aQ v b->it<b)
   (λs W=>ri it q W) ⟨[],_,B,rfl,il.nil ..,Y,?_,U,λb c=>by cases c⟩ ?_
  ·have:=(h5.map (·.2)).filter want;refine this.trans (iG ?_);simp only[bq.poss,da];congr 1;exact kH _
  rintro⟨v,_⟩ W1 ⟨d,_,rest,⟨⟩,oW,itW,r,E,G⟩ KN N;refine rT ?_;intro _;refine vq itW ?_ ?_
  ·intro h0 z H hh;subst h0;simp[go_sem];exact⟨d,oW.mod H eI,by simpa using r,E.trans H,λb c=>by grind⟩
  ·intro i p hi z it' M H hsz;simp[go_sem];apply so M;have mA0:∀o,M0 W (z.alloc o):=λo=>(E.on H λb c=>.inr (by subst c;omega)).alloc o
   have hne2:b2≠z.heap.size:=by
    have Z:=aJ P;have h2:=E.size;omega
   have V:z.heap[b2]? =some (.cells #[.func (.func f) #[] cap] T2 (0,0)):=(E.on (F:=λ_=>False) H λb c=>.inr (by subst c;omega)).keep P id;simp[go_sem,mK,gr,cO V,hne2];have hpe:=nv hi;generalize L:World.alloc _ _=D;have mA:M0 W D:=by grind
   have O:hC D z.heap.size #[.int .u32 p.2.c,gU p.2.a,gI p.2.q,gI p.2.b] 124:=by subst L;simp[go_sem]
   have m02:M0 z D:=by subst L;exact(bn.refl _ z).alloc _
   refine C p.2 D _ (hWk _ _ hwk mA) λw3 m3=>?_;have t:=m3.keep O id;have w:=m02.trans m3;have I:=mA.trans m3;have j:kR gr mK w3 it q (rest.eraseIdx i):=it'.mod w id id;have o3:il w3 124 4 v d.length (d.flatMap dR):=(oW.mod H λb c e=>by grind).mod w eI
   have Q:∀g,kR gr mK g it q (rest.eraseIdx i)->ri it q g<ri it q W1:=λg h=>by
    rw[h.left,itW.left,gH];have:i<rest.length:=(aF.1 hi).1;rw[ab this];omega
   have hdl:d.length<4294967295:=by
    have Z:=r.length_eq;have h2:=aX want S.held;simp only[ad]at Z;omega
   cases hz:want p.2
   ·simp;refine N _ _ ⟨d,_,_,rfl,o3,j,?_,I,G⟩ (Q _ j);refine(List.Perm.append_left d ?_).trans r;have:=(hpe.map (·.2)).filter want;rw[aH,aU (by simp[hz])]at this;exact this.symm
   ·simp[go_sem,cO t];refine P4 (d:=d) (enc:=dR) (x:=p.2) (k:=3) Su ac7 rfl rfl qZ qZ o3 qZ λv' w'' o' u n' =>?_;have m:¬aQ v it:=λh=>by grind
    have X:¬aQ v q:=λh=>by have:=G q h;have:=h3.lt;omega
    refine N _ _ ⟨d++[p.2],v',_,rfl,o',j.mod u X m,?_,I.on u λb c=>.inr (by grind),λb c=>?_⟩ (Q _ (j.mod u X m))
    ·grind
    ·rcases n' b c with h|h
     ·exact G b h
     ·have:=j.lt.2;have:=w.size;have:=itW.lt.2;omega
 rintro _ W1 ⟨d,v,rfl,oW,hp,E,G⟩;refine qk ?_;intro _
 have hdl:d.length<4294967295:=by
  have Z:=hp.length_eq;have h2:=aX want S.held;omega
 refine OO oW qZ λD d' o2 p2 s2 m2' =>?_;obtain rfl:d' =S.held.filter want:=UM (hok.sp.filter want) (p2.trans hp) s2;obtain⟨sa,sc,rfl,hsc⟩:=o2.isSl;refine cN Tryz.func238 ?_;simp[go_sem];have mW2:M0 W D:=E.on m2' λb c=>.inr (G b c);have mA:∀o,M0 W (D.alloc o):=λo=>mW2.alloc o;refine Ji (n:=d.length) (sl:=.slice sa d.length sc) (T:=55) (J (aQ (.slice sa d.length sc))) Js (by simp[go_sem]) (o2.mod nl eI) qZ (hQ _ _ (mA _) λb c=>⟨G b c,?_⟩) (R _) ?_ ?_ hex
 ·have:=o2.lt c;rw[ci];omega
 ·grind
 ·grind
structure Dk(gv:Vt_)(xs:List (List Value))(w:Wt_):Prop where
 out:∃Ok,Bt pQ gv xs Ok/\∀W,M0 w W->Ok W
 fn:∃f cap,gv=.func (.func f) #[] cap
def H2(h:iw w l F S)
  (e:∀d c,Dk d (S.all.map λa=>[jG a]) c->M0 w c->K d c):Ca pQ 59 #[eK l] w K:=by
 unfold eK;refine cN Tryz.func59 ?_;simp[go_sem,eK];refine e _ _ ⟨⟨_,zX (l:=l) (b:=w.heap.size) (T:=88),λW m=>⟨m.keep ?_ id,F,h.mod (nl.trans m) eI⟩⟩,_,_,rfl⟩ nl;rw[dZ,ab rfl];rfl
def BN{c:Int}(h:iw w l F S)(hl:S.held.length<4294967295)
  (j:∀n i,Dk n ((S.holders c).map λa=>[mK a]) i->M0 w i->K n i):Ca pQ 60 #[eK l,gU c] w K:=by
 unfold eK;refine cN Tryz.func60 ?_;simp[go_sem];refine cN Tryz.func162 ?_;simp[go_sem,eK];generalize d:World.alloc _ _=e;have k:M0 w e:=by subst d;exact(nl.alloc _).alloc _
 have r:hC e w.heap.size #[.int .u32 c] 45:=by subst d;simp[go_sem]
 have s:hC e (w.heap.size+1) #[eK l] 88:=by subst d;simp[go_sem,eK]
 have q:hC e (w.heap.size+2) #[.func (.func 163) #[] #[.pointer (some ⟨w.heap.size,0,none⟩)]] 255:=by subst d;simp[go_sem]
 refine j _ _ ⟨⟨_,Mi (l:=l) (b:=w.heap.size+1) (b2:=w.heap.size+2) (f:=163) (cap:=#[.pointer (some ⟨w.heap.size,0,none⟩)]) (T:=88) (T2:=255) (Wk:=λW=>hC W w.heap.size #[.int .u32 c] 45)
  (want:=λp=>decide (p.c=c)) (λW u t m=>m.keep t id) ?_,λW m=>⟨m.keep s id,m.keep q id,m.keep r id,hl,F,h.mod (k.trans m) eI⟩⟩,_,_,rfl⟩ k
 intro p W K o j;refine cN Tryz.func163 ?_;have g:=aJ o;simp[go_sem,mK,cO o,Yv g];have:=j _ ((bn.refl _ W).alloc (.cells #[.int .u32 p.c,gU p.a,gI p.q,gI p.b] 124));rw[show(p.c==c)=decide (p.c=c) by grind];exact this
def TN{c:Int}(h:iw w l F S)(hl:S.held.length<4294967295)
  (j:∀n i,Dk n ((S.ofA c).map λa=>[mK a]) i->M0 w i->K n i):Ca pQ 207 #[eK l,gU c] w K:=by
 unfold eK;refine cN Tryz.func207 ?_;simp[go_sem];refine cN Tryz.func162 ?_;simp[go_sem,eK];generalize d:World.alloc _ _=e;have k:M0 w e:=by subst d;exact(nl.alloc _).alloc _
 have r:hC e w.heap.size #[.int .u32 c] 45:=by subst d;simp[go_sem]
 have s:hC e (w.heap.size+1) #[eK l] 88:=by subst d;simp[go_sem,eK]
 have q:hC e (w.heap.size+2) #[.func (.func 265) #[] #[.pointer (some ⟨w.heap.size,0,none⟩)]] 255:=by subst d;simp[go_sem]
 refine j _ _ ⟨⟨_,Mi (l:=l) (b:=w.heap.size+1) (b2:=w.heap.size+2) (f:=265) (cap:=#[.pointer (some ⟨w.heap.size,0,none⟩)]) (T:=88) (T2:=255) (Wk:=λW=>hC W w.heap.size #[.int .u32 c] 45)
  (want:=λp=>decide (p.a=c)) (λW u t m=>m.keep t id) ?_,λW m=>⟨m.keep s id,m.keep q id,m.keep r id,hl,F,h.mod (k.trans m) eI⟩⟩,_,_,rfl⟩ k
 intro p W K o j;refine cN Tryz.func265 ?_;have g:=aJ o;simp[go_sem,mK,cO o,Yv g];have:=j _ ((bn.refl _ W).alloc (.cells #[.int .u32 p.c,gU p.a,gI p.q,gI p.b] 124));rw[show(p.a==c)=decide (p.a=c) by grind];exact this
end Go.Proofs
