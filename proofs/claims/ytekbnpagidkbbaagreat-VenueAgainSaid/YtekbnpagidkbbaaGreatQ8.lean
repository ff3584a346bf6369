/- Part of a proof. -/
import Derived.Shelf.SlSortCmp.NoneTotal
import Derived.Ground.SlsfProg
import Derived.Test.YtekbnpagidkbbaaGreatQ7
set_option linter.all false
set_option maxRecDepth 100000
set_option maxHeartbeats 1000000
namespace Go.Proofs
open Go Go.Vc
attribute [local congr] aZ
variable {buy:Bool}{n:Int}{l:List Od}{F:NP_}{s:Nat}{w:Wt_}{K:aY}
def qp.load{sl:Vt_}(h:qp w sl l){i:Nat}(hi:i<l.length):
  ∃b a,sl=.slice (some ⟨b,0,none⟩) l.length a/\(∀k:IntKind,(iX rE sl (.int k (i:Int))).run pQ w=.ok (bO b (i*5)) w)/\(iL ji (bO b (i*5))).run pQ w=.ok (jQ l[i]) w:=by
 obtain⟨b,a,rest,rfl,g,e,f⟩:=h.pos qZ;have c:At w b 0 (l.flatMap dx++rest):=At.all (bT e);have d:=h.1;have h1:=c.sub (i*5) 5 (by rw[ag,d];omega);rw[dc (by rw[d];omega),aN (by rw[bq,d];omega),lA dx 5 l i (λx _=>dP x) hi,cM]at h1;refine⟨b,a,rfl,λk=>?_,kX h1⟩;simp[go_sem,hi,bD,gX]
def xu(h:gT w s F buy l)
  (f:nz l n=none->l.findIdx? (λx=>decide (x.num=n))=none->∀a,M0 w a->K (.tuple #[.int .i64 0,gI 7]) a)
  (e:∀i:Nat,∀b:i<l.length,nz l n=some l[i]->l.findIdx? (λx=>decide (x.num=n))=some i->∀a,M0 w a->K (.tuple #[.int .i64 (i:Int),gI 0]) a):Ca pQ 310 #[dg s,gQ n] w K:=by
 refine O2 h λg c=>?_;cases b:l.findIdx? λx=>decide (x.num=n)with
 |none=>exact f (vW b).1 b _ c
 |some i=>
  obtain⟨h1,j,d,k⟩:=un b;exact e i h1 d b _ c
def RG(h:gT w s F buy l)
  (c:∀u,M0 w u->K (.tuple #[jQ ((nz l n).getD nZ),gI (if(nz l n).isSome then 0 else 7)]) u):Ca pQ 279 #[dg s,gQ n] w K:=by
 unfold dg;refine cN Tryz.func279 ?_;obtain⟨H,G,e,m⟩:=jE w;apply bh G;obtain⟨p,q⟩:=df w.heap.size;rw[<-q]at e|-;have h1:=h.mod m dS;refine xu h1 (λj _ x a=>?_) λi E j _ x a=>?_
 ·have k:=a.hpk e id;rw[j]at c;refine dq ?_;refine dq ?_;refine jZ ?_;apply ax (jQ nZ) x (by simp[go_sem,jQ,dx,nZ]);obtain⟨z,t,g,f⟩:=jf (o' :=nZ) k;apply gg t;apply cK (kX (o:=nZ) (At.all g));exact c _ ((m.trans a).on f λb A=>fM)
 ·have k:=a.hpk e id;have y:=h1.mod a dS;obtain⟨⟨sl,v,D,I,M⟩,J,L⟩:=y;obtain⟨b,C,B,d,r⟩:=D.load E;rw[j]at c;refine dq ?_;refine dq ?_;refine eK ?_;simp only[dg,cj];refine dE v ?_;refine dE v ?_;apply bh (d _);apply bh r;obtain⟨z,t,g,f⟩:=jf (o' :=l[i]) k;apply gg t;apply cK (kX (o:=l[i]) (At.all g));exact c _ ((m.trans a).on f λb A=>fM)
def PK(h:gT w s F buy l)
  (v:∀t,M0 w t->K (.tuple #[jQ (l.head?.getD nZ),.bool l.head?.isSome]) t):Ca pQ 281 #[dg s] w K:=by
 unfold dg;refine cN Tryz.func281 ?_;obtain⟨a,B,e,k⟩:=jE w;apply bh B;obtain⟨p,m⟩:=df w.heap.size;rw[<-m]at e|-;have h1:=h.mod k dS;obtain⟨⟨sl,c,x,C,G⟩,D,E⟩:=id h1;obtain⟨sa,sc,j,-⟩:=x.isSl;refine cG.at (λst W=>st=(.bool (decide (l.length=0)),())/\W=a) ?_ ?_
 ·apply pB h1;refine eK ?_;simp only[dg,cj];refine dE c ?_;refine dE c ?_;apply iq (gI (l.length:Int)) a (by rw[j];simp[go_sem]);apply ax (.bool (decide (l.length=0))) a (by simp[go_sem];rw[dr];simp);exact tF
 rintro _ a ⟨rfl,rfl⟩;refine jG ?_;intro _;cases l with
 |nil=>
  rw[aw,ae (by simp)];apply ax (jQ nZ) a (by simp[go_sem,jQ,dx,nZ]);obtain⟨y,q,g,f⟩:=jf (o' :=nZ) e;apply gg q;apply cK (kX (o:=nZ) (At.all g));exact v _ (k.on f λb z=>fM)
 |cons o r=>
  rw[aw,aa (by simp)];obtain⟨b,A,u,d,n⟩:=x.load (i:=0) (by simp);simp only[dg,cj];refine dE c ?_;refine dE c ?_;apply bh (d .i64);apply bh n;obtain⟨y,q,g,f⟩:=jf (o' :=o) e;apply gg q;apply cK (kX (o:=o) (At.all g));exact v _ (k.on f λb z=>fM)
def Si(h:gT w s F buy l)(d:K (gI (l.length:Int)) w):Ca pQ 230 #[dg s] w K:=by
 obtain⟨⟨sl,b,c,e,i⟩,f,g⟩:=id h;obtain⟨sa,sc,a,-⟩:=c.isSl;unfold dg;refine cN Tryz.func230 ?_;apply pB h;refine eK ?_;simp only[dg,cj];refine dE b ?_;refine dE b ?_;apply iq (gI (l.length:Int)) w (by rw[a];simp[go_sem]);exact d
def Ez(h:gT w s F buy l)
  (q:∀j n e,gT e j n buy l->M0 w e->(∀b,n b->w.heap.size<=b)->K (dg j) e):Ca pQ 191 #[dg s] w K:=by
 obtain⟨⟨sl,r,t,x,y⟩,u,v⟩:=id h;unfold dg;refine cN Tryz.func191 ?_;apply pB h;refine eK ?_;have md:M0 w w.drew:=sK;have d1:=md.hpk r id;simp only[dg,cj];refine rD ?_;refine xj d1 ?_;refine rD ?_;refine xj d1 ?_;refine sX (l:=l) (t.mod md dS).rd qZ λd a f k p=>?_;have o:=md.trans k;have d2:=k.hpk d1 id;refine⟨by simp[go_sem,d2],?_⟩;obtain⟨sa,sc,i,-⟩:=f.isSl;apply cT (.agg #[.bool true,.bool buy,d]) (λW=>by rw[i];simp[go_sem]);have m:M0 a (a.alloc (.cells #[.bool true,.bool buy,d] 331)):=kU;apply ax (dg a.heap.size) (a.alloc (.cells #[.bool true,.bool buy,d] 331)) rfl;have g:=o.size;refine q a.heap.size (λb=>b=a.heap.size\/aK d b) _ ⟨⟨d,by simp[go_sem],f.mod m dS,λb=>aG,λc=>?_⟩,u,v⟩ (o.trans m) λb c=>?_
 ·have:=f.lt c;omega
 ·rcases c with rfl|c
  ·exact g
  ·exact p b c
def ID{W:Wt_}{e f i v:Vt_}(h:hC W s #[e,f,i] 331)(g:∃a n c,v=.slice a n c):
  ∃d,(iS rE (bO s 2) v).run pQ W=.ok () d/\hC d s #[e,f,v] 331/\aS (λb=>b=s) W d:=by
 obtain⟨a,n,c,rfl⟩:=g;refine⟨W.setCell ⟨s,2,none⟩ (.slice a n c),by simp[go_sem,h],by simp[go_sem,h],(aS.refl (λb=>b=s) W).sc⟩
def K1{i:Nat}(h:l.findIdx? (λx=>decide (x.num=n))=some i):ot l n=l.take i++l.drop (i+1):=by
 unfold ot;rw[List.eraseP_eq_eraseIdx,h];exact List.eraseIdx_eq_take_drop_succ l i
def Bm(h:gT w s F buy l)
  (D:∀F' w',gT w' s F' buy (ot l n)->aS F w w' ->(∀b,F' b->F b\/w.heap.size<=b)->K (.tuple #[jQ ((nz l n).getD nZ),gI (if(nz l n).isSome then 0 else 7)]) w'):Ca pQ 269 #[dg s,gQ n] w K:=by
 unfold dg;refine cN Tryz.func269 ?_;obtain⟨w1,e1,L,X⟩:=jE w;apply bh e1;obtain⟨p,t⟩:=df w.heap.size;rw[<-t]at L|-;have h1:=h.mod X dS;have j:∀{W W' :Wt_},M0 W W' ->aS F W W' :=λm=>m.to;have U:∀{b},F b->b<p:=λa=>by rw[t];exact h.lt a
 refine xu h1 (λP c x f=>?_) λi hi P r x f=>?_
 ·have E:=f.hpk L id
  have V:ot l n=l:=by
   unfold ot;rw[List.eraseP_eq_eraseIdx,c]
  rw[P,V]at D;refine dq ?_;refine dq ?_;refine jZ ?_;apply ax (jQ nZ) x (by simp[go_sem,jQ,dx,nZ]);obtain⟨w3,e3,y,C⟩:=jf (o' :=nZ) E;apply gg e3;apply cK (kX (o:=nZ) (At.all y));have M2:=X.trans f;exact D F _ ((h.mod M2 dS).mod C λb a e=>by have:=U a;omega) ((j M2).on C λb a=>fM) λb a=>.inl a
 ·have E:=f.hpk L id;have h2:=h1.mod f dS;obtain⟨⟨sl,T,H,c3,Y⟩,c5,c6⟩:=id h2;obtain⟨b,cap,hsl,c,J⟩:=H.load hi;rw[P,K1 r]at D;refine dq ?_;refine dq ?_;refine eK ?_;simp only[dg,cj];refine dE T ?_;refine dE T ?_;apply bh (c _);apply bh J;obtain⟨w3,e3,y,C⟩:=jE x;apply bh e3;obtain⟨q,S⟩:=df x.heap.size;rw[<-S]at y|-;obtain⟨w4,e4,b4,m4⟩:=jf (o' :=l[i]) y;apply gg e4;have B:M0 x w4:=C.on m4 λb a=>fM;have d:=B.hpk T id;have Q:=B.hpk E id;have R:=H.mod B dS;refine dE d ?_;refine dE d ?_;apply ax (gI ((i+1:Nat):Int)) w4 (by simp[go_sem];rw[lL]);refine uh R (mU i) hi qZ λk w5 o5 z M=>?_;obtain⟨sa,sc,N,-⟩:=o5.isSl;have O:¬aK sl s:=Y;have u:¬aK sl p:=λa=>by have:=U ((c3 p).2 (.inr a));omega
  have Z:¬aK sl q:=λa=>by have:=H.lt a;omega
  have g:=z.hpk d O;have p5:=z.hpk Q u;have q5:=z.hpk b4 Z;refine dE g ?_;obtain⟨w6,e6,b6,A⟩:=ID (v:=k) g ⟨_,_,_,N⟩;apply gg e6;have hsp:s<p:=U h.self;have hpq:p<q:=by have:=ay E;omega
  have q6:=A.hpk q5 qZ;have p6:=A.hpk p5 qZ;apply bh (kX (o:=l[i]) (At.all q6));obtain⟨G,e7,b7,I⟩:=jf (o' :=l[i]) p6;apply gg e7;apply cK (kX (o:=l[i]) (At.all b7));have s7:=I.hpk b6 qZ;have o6:qp w6 k (l.take i++l.drop (i+1)):=o5.mod A λb a e=>Y (by rw[<-e];exact M b a);have o7:qp G k (l.take i++l.drop (i+1)):=o6.mod I λb a e=>u (by rw[<-e];exact M b a)
  have MF:aS F w G:=by
   have a1:=j ((X.trans f).trans B);have a2:aS F w w5:=a1.on z λb a=>.inl ((c3 b).2 (.inr a));have a3:aS F w w6:=a2.on A λb a=>.inl (by rw[a];exact h.self);exact a3.on I λb a=>fM
  refine D (λb=>b=s\/aK k b) G ⟨⟨k,s7,o7,λb=>aG,λa=>Y (M s a)⟩,?_,?_⟩ MF λb a=>?_
  ·grind
  ·grind
  ·rcases a with rfl|a
   ·exact .inl h.self
   ·grind
end Go.Proofs
set_option maxRecDepth 100000
set_option maxHeartbeats 1000000
namespace Go.Proofs
open Go Go.Vc
attribute [local congr] aZ
variable {w:Wt_}
def wp:∀(l:List Od) (i:Nat) (hi:i<l.length) (x:Int),(l.flatMap dx).set (i*5+4) (gI x)=(l.set i {l[i]with left:=x}).flatMap dx
 |o::l,0,_,x=>rfl
 |o::l,i+1,hi,x=>by
  have e:(i+1)*5+4=(dx o).length+(i*5+4):=by rw[dP];omega
  rw[bR,e,dO _ _ qZ,fS,wp l i (by simpa using hi) x];simp
def qp.setLeft{sl:Vt_}{l:List Od}(h:qp w sl l){i:Nat}(hi:i<l.length)(x:Int):
  ∃b a e,sl=.slice (some ⟨b,0,none⟩) l.length a/\(∀k:IntKind,(iX rE sl (.int k (i:Int))).run pQ w=.ok (bO b (i*5)) w)/\
   (iF ji (bO b (i*5)) 4).run pQ w=.ok (bO b (i*5+4)) w/\(iL 2 (bO b (i*5+4))).run pQ w=.ok (gI l[i].left) w/\
   (iS 2 (bO b (i*5+4)) (gI x)).run pQ w=.ok () e/\qp e sl (l.set i {l[i]with left:=x})/\aS (aK sl) w e:=by
 obtain⟨b,a,rest,rfl,o,f,n,g⟩:=h.pos qZ;have m:=h.1
 have c:(l.flatMap dx++rest)[i*5+4]? =some (gI l[i].left):=by
  rw[cn (by rw[m];omega)];have h1:=lA dx 5 l i (λx _=>dP x) hi;have j:(((l.flatMap dx).drop (i*5)).take 5)[4]? =(dx l[i])[4]? :=by rw[h1]
  rw[fb,ae qZ,fe]at j;rw[j];rfl
 have d:((l.flatMap dx++rest).toArray.setIfInBounds (i*5+4) (gI x))=((l.set i {l[i]with left:=x}).flatMap dx++rest).toArray:=by
  rw[bP,eh _ _ (by rw[m];omega),wp l i hi x]
 refine⟨b,a,w.setCell ⟨b,i*5+4,none⟩ (gI x),rfl,λk=>by simp[go_sem,hi,bD,gX],by simp[go_sem,bD],by simp[go_sem,bT f,c],by simp[go_sem,bT f,c],⟨by rw[tN dP,bK],.inr ⟨b,a,rest,by grind,by grind,?_,by grind,g⟩⟩,(aS.refl _ w).setCell (.inl (show aK (.slice (some ⟨b,0,none⟩) l.length a) b from rfl)) _ _⟩;rw[jU,ae rfl,f,eM,d]
def PD{K:aY}{s:Nat}{F:NP_}{buy:Bool}{o:Od}{r:List Od}{n:Int}(h:gT w s F buy (o::r))(h1:1<=n)(h2:n<=o.left)
  (hK:∀F' w',gT w' s F' buy (kG (o::r) n)->aS F w w' ->(∀b,F' b->F b\/w.heap.size<=b)->K (.tuple #[jQ {o with left:=o.left - n},gI 0]) w'):Ca pQ 283 #[dg s,gI n] w K:=by
 have D:=h.may o (by simp)
 have hm:1<=o.left/\o.left<=1000000:=by
  have:=D.1;unfold Od.may at this;simp only[ao]at this;exact bF this.2
 unfold dg;refine cN Tryz.func283 ?_;obtain⟨I,e1,b1,m1⟩:=jE w;apply bh e1;obtain⟨p,L⟩:=df w.heap.size;rw[<-L]at b1|-;have q1:=h.mod m1 dS;have G:∀{W W' :Wt_},M0 W W' ->aS F W W' :=λm=>m.to;have pF:∀{b},F b->b<p:=λa=>by rw[L];exact h.lt a
 have hsp:s<p:=pF h.self;obtain⟨⟨sl,t,c2,c3,P⟩,c5,c6⟩:=id q1;obtain⟨sa,sc,S,-⟩:=c2.isSl;have y:¬aK sl p:=λa=>by grind
 obtain⟨b,cap,w2,hsl',d,f,l,C,U,Z⟩:=c2.setLeft (i:=0) (by simp) (o.left - n);simp only[eO,jK,cM,List.set_cons_zero]at d f l C U;apply pB q1;refine eK ?_;simp only[dg,cj];refine dE t ?_;refine dE t ?_;apply iq (gI ((o::r).length:Int)) I (by rw[S];simp[go_sem]);have hne:¬(((o::r).length:Nat):Int)=0:=by simp;omega
 apply ax (.bool false) I (by simp only[go_sem];simp;omega);rw[ij];refine cG.at (λst W=>st=(.bool false,())/\W=I) ?_ ?_
 ·have h1' :¬n<1:=qZ;refine ey h1' ?_;refine dE t ?_;refine dE t ?_;refine bh (d .i64) (bh f (bh l ?_));have X:¬o.left<n:=qZ;refine dE X ?_;exact tF
 rintro _ I ⟨rfl,rfl⟩;refine jG ?_;intro _;rw[ij];simp only[cj];refine dE t ?_;refine dE t ?_;refine bh (d .i64) (bh f (bh l ?_));apply ax (gI (o.left - n)) I (by simp[go_sem];rw[lL]);refine bh (d .i64) (bh f ?_);apply gg C;have u:=Z.hpk t P;have p2:=Z.hpk b1 y;refine dE u ?_;refine dE u ?_;obtain⟨b',cap',hsl2,H,A⟩:=U.load (i:=0) (by simp);refine bh (H .i64) (bh A ?_);simp only[eO];obtain⟨w3,e3,b3,m3⟩:=jE w2;apply bh e3;obtain⟨q,T⟩:=df w2.heap.size;rw[<-T]at b3|-;obtain⟨w4,e4,b4,m4⟩:=jf (o' :={o with left:=o.left - n}) b3;apply gg e4;have O:M0 w2 w4:=m3.on m4 λb a=>fM;have k:=O.hpk u id;have p4:=O.hpk p2 id;have o4:=U.mod O dS;have hpq:p<q:=by have:=ay p2;omega
 have Y:¬aK sl q:=λa=>by grind
 have J:aS F w w4:=((G m1).on Z λb a=>.inl ((c3 b).2 (.inr a))).trans (G O)
 have fin:∀(g:List Od) (c:Vt_) (W:Wt_),hC W s #[.bool true,.bool buy,c] 331->qp W c g->(∀b,aK c b->aK sl b)->hC W q (dx {o with left:=o.left - n}).toArray ji->hC W p (dx nZ).toArray ji->
   aS F w W->g=kG (o::r) n->OT (bO q 0) (bO p 0) K () W:=by
  intro g c W k1 k2 k3 k4 k5 k6 k7;unfold OT;intro _;apply bh (kX (o:={o with left:=o.left - n}) (At.all k4));obtain⟨w7,e7,b7,Q⟩:=jf (o' :={o with left:=o.left - n}) k5;apply gg e7;apply cK (kX (o:={o with left:=o.left - n}) (At.all b7));have s7:=Q.hpk k1 qZ;have o7:qp w7 c g:=k2.mod Q λb a e=>y (by grind);subst k7;refine hK (λb=>b=s\/aK c b) w7 ⟨⟨c,s7,o7,λb=>aG,λa=>P (k3 s a)⟩,?_,?_⟩ (k6.on Q λb a=>fM) λb a=>?_
  ·unfold kG;simp only;have:=c5;simp only[be]at this;split
   ·omega
   ·grind
  ·intro x B;unfold kG at B;simp only at B;by_cases z:o.left - n=0
   ·grind
   ·rw[aa z]at B;rcases ar.1 B with rfl|B
    ·obtain⟨V,a2,a3⟩:=D;refine⟨?_,a2,a3.1,a3.2.1,a3.2.2.1,by grind⟩;unfold Od.may at V|-;simp only[ao]at V|-;exact⟨V.1,by unfold aW;rw[aX];omega⟩
    ·grind
  ·rcases a with rfl|a
   ·exact .inl h.self
   ·grind
 refine cG.at (λst W=>∃c g,hC W s #[.bool true,.bool buy,c] 331/\qp W c g/\(∀b,aK c b->aK sl b)/\hC W q (dx {o with left:=o.left - n}).toArray ji/\hC W p (dx nZ).toArray ji/\aS F w W/\g=kG (o::r) n) ?_ ?_
 ·have q4:=b4;unfold dx at q4;refine dE q4 ?_;refine dE q4 ?_;by_cases z:o.left - n=0
  ·refine dB z ?_;refine dE k ?_;refine dE k ?_;refine uh (i:=0) (j:=1) o4 qZ (by simp) (by grind) λc w5 o5 M n5=>?_;obtain⟨xa,xc,R,-⟩:=o5.isSl;have E:=M.hpk k P;refine dE E ?_;obtain⟨w6,e6,b6,N⟩:=ID (v:=c) E ⟨_,_,_,R⟩;apply gg e6;refine⟨c,_,b6,o5.mod N λb a e=>P (by grind),n5,N.hpk (M.hpk b4 Y) qZ,N.hpk (M.hpk p4 y) qZ,(J.on M λb a=>.inl ((c3 b).2 (.inr a))).on N λb a=>.inl (by grind),?_⟩;unfold kG;simp[z]
  ·refine ey z ?_;refine⟨sl,_,k,o4,λb a=>a,b4,p4,J,?_⟩;unfold kG;simp[z]
 ·rintro⟨⟩ W ⟨c,g,k1,k2,k3,k4,k5,k6,k7⟩;exact fin g c W k1 k2 k3 k4 k5 k6 k7
def Ng{K:aY}{s:Nat}{F:NP_}{buy:Bool}{l:List Od}{n left:Int}(h:gT w s F buy l)(o:eP left)
  (g:∀D r,gT r s D buy (qz l n left).2->aS F w r->(∀b,D b->F b\/w.heap.size<=b)->K (gI (qz l n left).1) r):Ca pQ 272 #[dg s,gQ n,gI left] w K:=by
 unfold dg;refine cN Tryz.func272 ?_;have e:∀{W C:Wt_},M0 W C->aS F W C:=λm=>m.to;refine xu h (λM d A f=>?_) λi v M k A f=>?_
 ·have:qz l n left=(7,l):=by unfold qz;rw[d]
  rw[this]at g;refine dq ?_;refine dq ?_;refine jZ ?_;exact g F _ (h.mod f dS) (e f) λb c=>.inl c
 ·have a:qz l n left=if left<1\/l[i].left<left then(2,l)else(0,l.set i {l[i]with left:=left}):=by
   unfold qz;rw[k];simp only;rw[aq v]
  have J:=h.mod f dS;obtain⟨⟨sl,p,O,G,I⟩,R,H⟩:=id J;obtain⟨b,N,L,E,d,j,z,t,P,B⟩:=O.setLeft v left;refine dq ?_;refine dq ?_;refine eK ?_;refine cG.at (λst W=>st=(.bool (decide (left<1\/l[i].left<left)),())/\W=A) ?_ ?_
  ·by_cases h1:left<1
   ·refine dB h1 ?_;simp[h1]
   ·refine ey h1 ?_;simp only[dg,cj];refine dE p ?_;refine dE p ?_;refine bh (d .i64) (bh j (bh z ?_));refine dq ?_;simp[h1]
  rintro _ A ⟨rfl,rfl⟩;refine jG ?_;intro _;by_cases c:left<1\/l[i].left<left
  ·rw[ae c]at a;rw[a]at g;rw[mP c];exact g F _ J (e f) λb c=>.inl c
  ·rw[aa c]at a;rw[a]at g;rw[Hm c];simp only[dg,cj];refine dE p ?_;refine dE p ?_;refine bh (d .i64) (bh j ?_);apply gg t;refine g (λb=>b=s\/aK sl b) L ⟨⟨sl,B.hpk p I,P,λb=>aG,I⟩,by grind,λx y=>?_⟩ ((e f).on B λb c=>.inl ((G b).2 (.inr c))) λb c=>.inl ((G b).2 c);rcases ep y with y|rfl
   ·exact H x y
   ·obtain⟨q,Q,u⟩:=H l[i] (av v);refine⟨?_,Q,u.1,u.2.1,u.2.2.1,o⟩;unfold Od.may at q|-;simp only[ao]at q|-;have S:=bF q.2;exact⟨q.1,by unfold aW;rw[aX];omega⟩
end Go.Proofs
set_option maxRecDepth 100000
set_option maxHeartbeats 1000000
namespace Go.Proofs
open Go Go.Vc
attribute [local congr] aZ
def Iq{l:List Od}{n:Int}:(l.findIdx? λx=>decide (x.num=n)).isSome=l.any λx=>decide (x.num=n):=by
 rw[List.findIdx?_isSome]
def Ts{w:Wt_}{K:aY}{s:Nat}{F:NP_}{buy:Bool}{l:List Od}{o:Od}(h:gT w s F buy l)(hof:o.Fit)
  (z:∀F' w',gT w' s F' buy (oX buy l o).2->aS F w w' ->(∀b,F' b->F b\/w.heap.size<=b)->K (gI (oX buy l o).1) w'):Ca pQ 284 #[dg s,jQ o] w K:=by
 unfold dg;refine cN Tryz.func284 ?_;have t:∀{W W' :Wt_},M0 W W' ->aS F W W' :=λm=>m.to;have m0:M0 w (w.alloc (.cells #[dg s] 239)):=kU;obtain⟨p,J⟩:=df w.heap.size;apply ax (bO p 0) (w.alloc (.cells #[dg s] 239)) (by rw[J];simp[go_sem,dg]);have b0:hC (w.alloc (.cells #[dg s] 239)) p #[dg s] 239:=by rw[J];simp[go_sem]
 generalize w.alloc (.cells #[dg s] 239)=w0 at m0 b0|-;obtain⟨U,e1,b1,m1⟩:=tK o w0;apply bh e1;obtain⟨q,hq0⟩:=df w0.heap.size;rw[<-hq0]at b1|-;have p1:=m1.hpk b0 id;have Y:=m0.trans m1;have h1:=h.mod Y dS;have pF:∀{b},F b->b<p:=λc=>by rw[J];exact h.lt c
 have g:∀{W},M0 U W->hC W p #[dg s] 239:=λm=>m.hpk p1 id;have n:∀{W},M0 U W->hC W q (dx o).toArray ji:=λm=>m.hpk b1 id;refine dE p1 ?_;apply pB h1;refine eK ?_;refine cG.at (λst W=>st=(.bool (decide (¬o.may\/o.buy≠buy)),())/\M0 U W) ?_ ?_
 ·have md:M0 U U.drew:=sK;apply cK (kX (o:=o) (At.all (n md)));refine uN λw2 H=>?_;have G:=md.trans H;apply cT (.bool (!o.may)) (λW=>by simp[go_sem]);cases hm:o.may with
  |false=>
   rw[aw,ae (by simp)];exact⟨by simp,G⟩
  |true=>
   rw[aw,aa (by simp)];have M:=n G;unfold dx at M;obtain⟨⟨sl,B,Z,c3,c4⟩,c5,c6⟩:=h1.mod G dS;have p2:=g G;refine rD ?_;refine xj M ?_;refine xj p2 ?_;simp only[dg,cj];refine rD ?_;refine xj B ?_;apply cT (.bool (decide (o.buy≠buy))) (λW=>by cases o.buy<;>cases buy<;>simp[go_sem]);exact⟨by simp,G⟩
 rintro _ w2 ⟨rfl,H⟩;refine jG ?_;intro _;have G:=Y.trans H;have R:=h1.mod H dS;by_cases d:¬o.may\/o.buy≠buy
 ·have I:oX buy l o=(2,l):=by unfold oX;rw[ae d]
  rw[I]at z;rw[mP d];exact z F _ R (t G) λb c=>.inl c
 rw[Hm d];have p2:=g H;have M:=n H;refine dE p2 ?_;unfold dx at M;refine dE M ?_;refine dE M ?_;refine Qg R λw3 m3=>?_;have M3:=H.trans m3;have T:=Y.trans M3;have h3:=R.mod m3 dS;by_cases j:(l.any λx=>decide (x.num=o.num))=true
 ·have I:oX buy l o=(8,l):=by unfold oX;rw[aa d,ae j]
  rw[I]at z;rw[<-Iq]at j;obtain⟨i,hi⟩:=eY.1 j;obtain⟨_,_,_,e⟩:=un hi;rw[e];refine jZ ?_;exact z F _ h3 (t T) λb c=>.inl c
 have hno:(l.findIdx? λx=>decide (x.num=o.num))=none:=by
  cases D:l.findIdx? λx=>decide (x.num=o.num)with
  |none=>rfl
  |some i=>exact absurd (by grind) j
 rw[(vW hno).2];refine eK ?_;obtain⟨⟨sl,B,Z,c3,c4⟩,c5,c6⟩:=id h3;obtain⟨sa,sc,N,-⟩:=Z.isSl;have p3:=g M3;refine dE p3 ?_;simp only[dg,cj];refine dE B ?_;refine dE B ?_;apply iq (gI (l.length:Int)) w3 (by rw[N];simp[go_sem]);by_cases r:100<=l.length
 ·have I:oX buy l o=(9,l):=by unfold oX;rw[aa d,aa j,ae r]
  rw[I]at z;have f:(100:Int)<=(l.length:Int):=qZ;refine dB f ?_;exact z F _ h3 (t T) λb c=>.inl c
 have f:¬(100:Int)<=(l.length:Int):=qZ;refine ey f ?_;have I:oX buy l o=(0,sk buy l o):=by unfold oX;rw[aa d,aa j,aa r]
 rw[I]at z;refine dE p3 ?_;simp only[dg,cj];refine dE B ?_;refine dE B ?_;refine vu (p:=λx=>ip buy o.price x.price) Z.rd qZ ⟨_,_,rfl,λx A W mW K' hK' =>?_⟩ λk m4=>?_
 ·refine cN Tryz.func322 ?_;obtain⟨W1,e1,d1,n1⟩:=tK x W;apply bh e1;have MW:=(M3.trans mW).trans n1;have pW:=g MW;have qW:=n MW;unfold dx at d1 qW;refine dE pW ?_;refine dE qW ?_;refine dE qW ?_;refine dE d1 ?_;refine dE d1 ?_;apply Bt (h1.mod MW dS);exact hK' _ n1
 have Q:=M3.trans m4;have h4:=h3.mod m4 dS;have u:=m4.hpk B id
 have V:Ee buy l o.price<=l.length:=by
  unfold Ee;cases D:l.findIdx? λx=>ip buy o.price x.price with
  |none=>exact az _
  |some i=>
   obtain⟨hi,_⟩:=un D;simp only[dt];omega
 refine cG.at (λst W=>st=(gI (Ee buy l o.price:Nat),())/\W=k) ?_ ?_
 ·cases D:l.findIdx? λx=>ip buy o.price x.price with
  |none=>
   rw[(vW D).2];refine jZ ?_;have p4:=g Q;refine dE p4 ?_;simp only[dg,cj];refine dE u ?_;refine dE u ?_;apply iq (gI (l.length:Int)) k (by rw[N];simp[go_sem]);refine⟨?_,rfl⟩;unfold Ee;rw[D];rfl
  |some i=>
   obtain⟨_,_,_,e⟩:=un D;rw[e];refine eK ?_;refine⟨?_,rfl⟩;unfold Ee;rw[D];rfl
 rintro _ k ⟨rfl,rfl⟩;refine jG ?_;intro _;have md:M0 k k.drew:=sK;have pd:=g (Q.trans md);have qd:=n (Q.trans md);have cd:=md.hpk u id;refine xj pd ?_;refine xj pd ?_;simp only[dg,cj];refine rD ?_;refine xj cd ?_;apply cK (kX (o:=o) (At.all qd));refine nK [jQ o] gX (dp Ln) rfl rfl (by intro v hv;rw[bN.1 hv];rfl) qZ ?_;have e0:(([jQ o]:LV_).flatMap (·.cells.toList)).toArray=(dx o).toArray:=rfl;rw[e0];have m5:M0 k.drew (k.drew.alloc (.cells (dx o).toArray ji)):=kU;have S:=md.trans m5
 have P:qp (k.drew.alloc (.cells (dx o).toArray ji)) (.slice (some ⟨k.drew.heap.size,0,none⟩) 1 1) [o]:=
  ⟨rfl,.inr ⟨_,1,[],rfl,az _,by rw[ec,ae rfl];simp,by simp,by simp⟩⟩
 have X:∀b,aK (.slice (some ⟨k.drew.heap.size,0,none⟩) 1 1) b->b=k.drew.heap.size:=λb c=>by cases c;rfl
 generalize k.drew.alloc (.cells (dx o).toArray ji)=w5 at m5 S P|-;have p5:=g (Q.trans S);have C:=S.hpk u id;refine⟨by simp[go_sem,C],by simp[go_sem,p5,dg],by simp[go_sem,p5,dg],?_⟩;obtain⟨⟨L,k1,k2,k3,k4⟩,k5,k6⟩:=h4.mod S dS
 have esl:L=sl:=by
  have:=C.symm.trans k1;simp only[gE,Obj.cells.injEq]at this;have:=dW (λa:Array Value=>a[2]?) this.1;simp at this;exact this.symm
 subst esl;have O:∀b,aK L b->b<w3.heap.size:=λb c=>Z.lt c;have hsz43:=m4.size;refine EJ k2 P (λb c hb' =>by have h1:=O b c;have R:=X b hb';rw[Ce]at R;omega) V qZ λs6 w6 o6 m6 n6=>?_;obtain⟨xa,xc,hs6,-⟩:=o6.isSl;have hps:¬aK L p:=λc=>by grind
 have p6:=m6.hpk p5 hps;have c6' :=m6.hpk C k4;refine⟨by simp[go_sem,p6,dg],?_⟩;refine rD ?_;obtain⟨w7,e7,b7,m7⟩:=ID (v:=s6) c6' ⟨_,_,_,hs6⟩;apply gg e7;have E:=Y.trans (Q.trans S)
 have y:¬aK s6 s:=λc=>by
  rcases n6 s c with h' |h'
  ·exact k4 h'
  ·have:=pF h.self;have:=E.size;omega
 have MF:aS F w w7:=((t E).on m6 λb c=>.inl ((k3 b).2 (.inr c))).on m7 λb c=>.inl (by grind);refine z (λb=>b=s\/aK s6 b) w7 ⟨⟨s6,b7,o6.mod m7 λb c e=>y (by grind),λb=>aG,y⟩,?_,?_⟩ MF λb c=>?_
 ·unfold sk;rw[ag,aB,be,bq,dF V];omega
 ·intro x A;unfold sk at A;rcases bm.1 A with A|A
  ·grind
  ·rcases ar.1 A with rfl|A
   ·have:x.may=true/\x.buy=buy:=by
     constructor
     ·grind
     ·grind
    exact⟨this.1,this.2,hof⟩
   ·grind
 ·rcases c with rfl|c
  ·exact .inl h.self
  ·rcases n6 b c with h' |h'
   ·grind
   ·have:=E.size;exact fM
end Go.Proofs
namespace Go.Vc
open Go Go.Shelf Go.RowKit Go.Lib Go.Sort Go.Proofs
def A5{P:Program}(h:tP P=true){g:FuncId}(f:∃fn,P.funcs[g]? =some fn/\fn.body.isSome=true)(c:Array Value)(w:Wt_):(callFunc g c).run P w=.ok (.enter g c) w:=by
 obtain⟨fn,e,f⟩:=f
 have d:(fn.name== "runtime.NumGoroutine")=false:=by
  have:=(jC.1 h) fn (Array.mem_of_getElem? e);simpa using this
 have a:¬fn.name= "runtime.NumGoroutine" :=by simpa using d
 have b:¬fn.body=none:=by grind
 unfold callFunc;simp[dh,Result.andThen,e,a,b]
def wR{α:Type} [Inhabited α](enc:α->List Value)(k:Nat)(c:0<k)(a:∀x,(enc x).length=k)(d:Array α):(flatK enc k d).toList=d.toList.flatMap enc:=by
 have j:(d.toList.flatMap enc).length=d.size*k:=by rw[qU enc k _ λx _=>a x];simp
 apply jM;intro t;by_cases e:t<d.size*k
 ·have h1:(flatK enc k d).toList[t]? =some (flatK enc k d)[t]! :=by
   rw[jX,gz (by simpa using e),fT _ t (by simpa using e)]
  rw[h1,get_flatK enc k d t e];have f:t / k<d.size:=Nat.div_lt_of_lt_mul (by grind);have b:t%k<k:=gp _ c;have g:=lA enc k d.toList (t / k) (λx _=>a x) (by simpa using f)
  have i:(d.toList.flatMap enc)[t]? =((d.toList.flatMap enc).drop (t / k*k) |>.take k)[t%k]? :=by
   rw[fb,ae b,fe,ni]
  rw[i,g]
  have h:d[t / k]! =d.toList[t / k]'(by simpa using f):=by
   rw[fT d _ f];simp
  rw[h,fT _ _ (by rw[a];exact b),aq (by rw[a];exact b)]
 ·rw[gr (by simp;omega),gr qZ]
def Ef(F rest cs:LV_)(h:F.length=cs.length):putCells id 0 F.toArray (cs++rest).toArray=(F++rest).toArray:=by
 apply Array.ext_getElem?;intro t;simp only[putCells,Array.getElem?_mapIdx,cQ,cI,aJ,true_and,cM,jL,id];by_cases a:t<F.length
 ·grind
 ·grind
section
variable{P:Program}{ρ:Ren}{α:Type} [Inhabited α]
def Fg(hP:tP P=true)(L:SlLaysF0.n6 P ρ)(k:Nat)(S:lI P (ρ.t 24)=true)(U:P.cellsOf (ρ.t 24)=k+1)(enc:α->List Value)(s:∀x,(enc x).length=k+1)(h1:∀x,(enc x).all (·.oneCell')=true)
  (cf:α->α->Int)(V:SWO (ltOf cf))(g:Nat)(A:∀(x y:α) (W:Wt_),Ca P g #[.agg (enc x).toArray,.agg (enc y).toArray] W λv w' =>v=gI (cf x y)/\∃q os,w' =grow (W.drewN q) os)
  {e:TypeId}{w:Wt_}{sl:Vt_}{n:Nat}{d:List α}{K:aY}(O:gD w e (k+1) sl n (d.flatMap enc))(hn:n<4611686018427387904)
  (N:∀(w' :Wt_) (a:List α),gD w' e (k+1) sl n (a.flatMap enc)->a.Perm d->a.Pairwise (λx y=>ltOf cf y x=false)->aS (aK sl) w w' ->K (.tuple #[]) w'):
  Ca P (ρ.f 6) #[sl,.func (.func g) #[] #[]] w K:=by
 have h:d.length=n:=by
  have:=O.1;rw[qU enc (k+1) d λx _=>s x]at this;exact Nat.eq_of_mul_eq_mul_right (lB k) this
 obtain⟨Q,⟨rfl,rfl⟩|⟨b,p,rest,rfl,hc,C,hr,I⟩⟩:=O
 ·have R:d=[]:=List.length_eq_zero_iff.1 h;subst R;have:=AnyF.slices_SortFunc_none L none 0 (.func (.func g) #[] #[]) w;exact⟨jW this λe w' ⟨M,F⟩=>⟨_,M,by subst F;exact N _ [] (gD.nil ..) (cR _) List.Pairwise.nil oU⟩⟩
 ·have T:b<w.heap.size:=ay C;have J:=A5 hP (A default default w).bodied
  have hH:HoldsK enc (k+1) w b 0 d.toArray:=by
   intro j D;rw[size_flatK]at D
   have Y:(flatK enc (k+1) d.toArray)[j]! =(d.flatMap enc)[j]'(by grind):=by
    rw[fT _ j (by rw[size_flatK];exact D),<-Array.getElem_toList];congr 1;exact wR enc (k+1) (lB k) s d.toArray
   have G:j<(d.flatMap enc).length:=by grind
   constructor
   ·simp only[World.cell?,C,cM];rw[Y];simp[cn G]
   ·simp[World.frozen?,C]
  have z:CmpLays P g #[] enc (k+1) cf b 0 d.toArray.size w:=λm os dk _ x y=>by
   apply jW (A x y _).out;rintro e w' ⟨v,rfl,rfl,F⟩;exact⟨rfl,F⟩
  have l:=AnyQ.slices_SortFunc L (k+1) (xT S) (kZ U) enc s (λx v hv=>bf.1 (h1 x) v hv) cf V g #[] b 0 p d.toArray w J z hH T (by grind);rw[show d.toArray.size=n by simpa using h]at l;refine⟨jW l ?_⟩;rintro e' w' ⟨rfl,a,m,os,hp,hs,rfl⟩;refine⟨_,rfl,?_⟩;have u:a.size=n:=by rw[hp.1];simpa using h
  have H:(flatK enc (k+1) a).toList=a.toList.flatMap enc:=wR enc (k+1) (lB k) s a;have B:flatK enc (k+1) a=(a.toList.flatMap enc).toArray:=by rw[<-H]
  have c:(a.toList.flatMap enc).length=(d.flatMap enc).length:=by
   rw[Q,qU enc (k+1) _ λx _=>s x];simp[u]
  have o:∀f,f<w.heap.size->(sortWorldK enc (k+1) w b 0 m a os).heap[f]? =if f=b then some (.cells (a.toList.flatMap enc++rest).toArray e (0,0))else w.heap[f]? :=by
   intro f r;show((w.heap.modify b (onCells (putCells id 0 (flatK enc (k+1) a))))++os)[f]? =_;rw[Array.getElem?_append_left (by simpa using r),kp];by_cases M:f=b
   ·subst M;rw[ae rfl,ae rfl,C];simp only[eI,onCells];rw[B,Ef _ _ _ c]
   ·grind
  have t:aS (aK (.slice (some ⟨b,0,none⟩) n p)) w (sortWorldK enc (k+1) w b 0 m a os):=by
   refine⟨?_,rfl,rfl,λf r Z=>?_⟩
   ·grind
   ·rw[o f r,aa (λe=>Z (by subst e;rfl))]
  refine N _ a.toList ⟨by rw[c,Q],.inr ⟨b,p,rest,rfl,hc,by grind,hr,I⟩⟩ ?_ ?_ t
  ·have:=hp.2.2;have e1:a.extract 0 n=a:=by rw[<-u];simp
   have X:d.toArray.extract 0 n=d.toArray:=by rw[<-h];simp
   rw[e1,X]at this;simpa using this
  ·rw[bL];intro i j hi D E;have:=hs i j (aJ _) E (by grind);rw[fT a i (by simpa using hi),fT a j (by simpa using D)]at this;simpa using this
end
end Go.Vc
namespace Go.Proofs
open Go Go.Vc Go.Shelf Go.RowKit Go.Lib Go.Sort
def ZY{p:Prop}(h:p:=by first|kernel_rfl|(intro _;kernel_rfl)):p:=h
def de_{f:FuncId}{B:Func}(h:((Tryz.prog.funcs[f]?.elim "" (·.name))== "runtime.NumGoroutine")=false:=by kernel_rfl)(g:Tryz.prog.funcs[f]? =some {B with name:=Tryz.prog.funcs[f]?.elim "" (·.name)}:=by kernel_rfl):Bears pQ f B:=⟨_,h,g⟩
def Tryz.sortAc_ren:Ren:=⟨λ|6=>159|15=>233|14=>232|28=>293|29=>294|20=>285|21=>286|22=>287|23=>288|24=>289|25=>290|26=>291|27=>292|46=>324|47=>325|48=>326|49=>327|50=>328|57=>365|n=>n,λ|22=>53|24=>100|25=>252|3=>3|39=>263|0=>0|53=>45|55=>37|4=>4|46=>401|45=>400|50=>303|5=>5|9=>9|66=>436|70=>439|76=>469|77=>470|n=>n,λn=>n⟩
def Tryz.sortAc:SlLaysF0.n6 pQ Tryz.sortAc_ren:=by constructor<;>first|exact ZY|exact de_
def Tryz.sortPo_ren:Ren:=⟨λ|6=>236|15=>233|14=>295|28=>293|29=>294|20=>329|21=>330|22=>331|23=>332|24=>333|25=>334|26=>335|27=>336|46=>366|47=>325|48=>326|49=>367|50=>368|57=>382|n=>n,λ|22=>55|24=>124|25=>341|3=>3|39=>263|0=>0|53=>45|55=>37|4=>4|46=>401|45=>400|50=>303|5=>5|9=>9|66=>436|70=>439|76=>469|77=>470|n=>n,λn=>n⟩
def Tryz.sortPo:SlLaysF0.n6 pQ Tryz.sortPo_ren:=by constructor<;>first|exact ZY|exact de_
end Go.Proofs
set_option maxRecDepth 100000
set_option maxHeartbeats 1000000
namespace Go.Proofs
open Go Go.Vc Go.Sort
def uk(W:Wt_)(o o' :Obj):∃q os,(W.alloc o).alloc o' =grow (W.drewN q) os:=
 ⟨0,#[o]++ #[o'],by rw[alloc_eq_grow,alloc_eq_grow,grow_grow];rfl⟩
def yz(x y:Ac):Int:=if x.num<y.num then -1 else 1
def wk(x y:Po):Int:=if uJ x.key y.key then -1 else if x=y then 0 else 1
def O6(x y:Ac):ltOf yz x y=decide (x.num<y.num):=by
 unfold ltOf yz;split<;>simp_all
def PL(x y:Po):ltOf wk x y=uJ x.key y.key:=by
 unfold ltOf wk;cases h:uJ x.key y.key
 ·grind
 ·simp
def YJ:SWO (ltOf yz) where
 irrefl x:=by rw[O6];simp
 trans x y z h1 h2:=by rw[O6]at*;simp at*;omega
 ntrans x y z h1 h2:=by rw[O6]at*;simp at*;omega
def Zk:SWO (ltOf wk) where
 irrefl x:=by rw[PL];exact Dy
 trans x y z h1 h2:=by rw[PL]at*;exact xC h1 h2
 ntrans x y z h1 h2:=by
  rw[PL]at*;rw[ez,Ne,nI]at*;omega
def Oy(x y:Ac)(W:Wt_):Ca pQ 160 #[.agg (db x).toArray,.agg (db y).toArray] W λv a=>v=gI (yz x y)/\∃q os,a=grow (W.drewN q) os:=by
 refine cN Tryz.func160 ?_;simp[go_sem,db];unfold yz;split
 ·exact⟨rfl,uk ..⟩
 ·exact⟨rfl,uk ..⟩
def Qb(x y:Po)(W:Wt_):Ca pQ 237 #[.agg (dy x).toArray,.agg (dy y).toArray] W λv n=>v=gI (wk x y)/\∃q os,n=grow (W.drewN q) os:=by
 refine cN Tryz.func237 ?_;simp[go_sem,dy];generalize d:World.alloc _ _=e;have g:∃q os,e=grow (W.drewN q) os:=by subst d;exact uk ..
 have m:hC e W.heap.size #[.int .u32 x.c,gU x.a,gI x.q,gI x.b] 124:=by subst d;simp[go_sem]
 have k:hC e (W.heap.size+1) #[.int .u32 y.c,gU y.a,gI y.q,gI y.b] 124:=by subst d;simp[go_sem]
 refine cG.at (λs o=>s=(.bool (uJ x.key y.key),())/\o=e) ?_ ?_
 ·simp[go_sem,bT m,bT k];unfold uJ Po.key;by_cases h1:x.c<y.c
  ·simp[h1]
  ·by_cases f:x.c=y.c
   ·simp[h1,f]
   ·simp[h1,f]
 rintro _ e ⟨rfl,rfl⟩;refine jG ?_;intro _;cases i:uJ x.key y.key
 ·simp[go_sem,bT m,bT k]
  have h:x=y↔x.c=y.c/\x.a=y.a/\x.q=y.q/\x.b=y.b:=by
   obtain⟨c,a,q,b⟩:=x;obtain⟨p,t,u,r⟩:=y;simp
  by_cases h1:x.c=y.c<;>by_cases f:x.a=y.a<;>by_cases l:x.q=y.q<;>by_cases j:x.b=y.b<;>simp[h1,f,l,j]<;>exact⟨by simp[wk,i,h,h1,f,l,j],g⟩
 ·simp;exact⟨by simp[wk,i],g⟩
def ad5:gP pQ 100 4 24=true:=cy
end Go.Proofs
set_option maxRecDepth 100000
set_option maxHeartbeats 1000000
namespace Go.Proofs
open Go Go.Vc Go.Sort
variable {n:Nat}{sl:Vt_}
def LU{w:Wt_}{d:List Ac}{K:aY}(b:gD w 100 4 sl n (d.flatMap db))(e:n<4611686018427387904)
  (c:∀(w' :Wt_) (a:List Ac),gD w' 100 4 sl n (a.flatMap db)->a.Perm d->a.Pairwise (λx y=>ltOf yz y x=false)->aS (aK sl) w w' ->K (.tuple #[]) w'):
  Ca pQ 159 #[sl,.func (.func 160) #[] #[]] w K:=
 Fg (P:=pQ) (α:=Ac) Tryz.noNum Tryz.sortAc 3 cy cy db (λ_=>rfl) (λ_=>rfl) yz YJ 160 Oy b e c
def HH{y:Vt_}{b:Nat}{T:TypeId}{xs:List Ac}(J:Nat->World->Prop)(F:World->Prop){W:Wt_}{K:aY}(I:hC W b #[sl] T)(v:gD W 100 4 sl n (xs.flatMap db))(V:n<4611686018427387904)
  (H:J 0 W)(l:∀i W a,J i W->M0 W a->J i a)
  (d:∀i x W,xs[i]? =some x->J i W->∀A:aY,(∀a,J (i+1) a->(∀b,aK sl b->a.heap[b]? =W.heap[b]?)->A (.bool true) a)->(∀a,F a->A (.bool false) a)->mM pQ y [kx x] W A)
  (g:∀W,J xs.length W->K (.tuple #[]) W)(z:∀W,F W->K (.tuple #[]) W):Ca pQ 234 #[y,.pointer (some ⟨b,0,none⟩)] W K:=by
 have u:xs.length=n:=by
  have:=v.1;rw[qU db 4 xs λx _=>rfl]at this;omega
 obtain⟨sa,sc,rfl,Q⟩:=v.isSl;refine cN Tryz.func234 ?_;simp[go_sem,bT I]
 refine uo (λs a=>∃i:Nat,i<=n/\s=(gI i,())/\J i a/\gD a 100 4 (.slice sa n sc) n (xs.flatMap db))
  (λs _=>match s.1 with| .int _ i=>n - i.toNat|_=>0) ⟨0,qZ,rfl,H,v⟩ ?_
 rintro⟨_,_⟩ a ⟨i,U,⟨⟩,D,B⟩ R q;refine lE ?_;intro _;by_cases f:i<n
 ·obtain⟨G,t,M,m⟩:=gD.elem B f;obtain⟨rfl,-,rfl⟩:sa=some ⟨G,0,none⟩/\True/\sc=t:=by grind
  rw[lA db 4 _ _ (λ_ _=>rfl) qZ]at m;obtain⟨C,e,S,hC,c⟩:=m.get;have j:=c 0 _ rfl;have p:=c 1 _ rfl;have h:=c 2 _ rfl;have k:=c 3 _ rfl;simp only[cM,cx]at j p h k;have w:IntKind.i64.wrap ((i:Int)+1)=((i+1:Nat):Int):=by rw[bU];omega
  simp[-Int.natCast_add,go_sem,f,hC,j,p,h,k];have O:xs[i]? =some xs[i]:=aq qZ;have E:∀o,M0 a (a.alloc o):=λo=>(aS.refl _ a).alloc o;refine d i _ _ O (l _ _ _ D (E _)) _ (λP r L=>?_) (λP N=>?_)
  ·simp[-Int.natCast_add,go_sem,w];refine q _ _ ⟨i+1,qZ,rfl,r,(B.mod (E _) dS).keep L⟩ (by simp;omega)
  ·simp[go_sem];exact z _ N
 ·obtain rfl:i=n:=qZ;simp[go_sem];exact g _ (u▸D)
def MO{w:Wt_}{d:List Po}{K:aY}(b:gD w 124 4 sl n (d.flatMap dy))(e:n<4611686018427387904)
  (c:∀(w' :Wt_) (a:List Po),gD w' 124 4 sl n (a.flatMap dy)->a.Perm d->a.Pairwise (λx y=>ltOf wk y x=false)->aS (aK sl) w w' ->K (.tuple #[]) w'):
  Ca pQ 236 #[sl,.func (.func 237) #[] #[]] w K:=
 Fg (P:=pQ) (α:=Po) Tryz.noNum Tryz.sortPo 3 cy cy dy (λ_=>rfl) (λ_=>rfl) wk Zk 237 Qb b e c
def HS{y:Vt_}{b:Nat}{T:TypeId}{xs:List Po}(J:Nat->World->Prop)(F:World->Prop){W:Wt_}{K:aY}(I:hC W b #[sl] T)(v:gD W 124 4 sl n (xs.flatMap dy))(V:n<4611686018427387904)
  (H:J 0 W)(l:∀i W a,J i W->M0 W a->J i a)
  (d:∀i x W,xs[i]? =some x->J i W->∀A:aY,(∀a,J (i+1) a->(∀b,aK sl b->a.heap[b]? =W.heap[b]?)->A (.bool true) a)->(∀a,F a->A (.bool false) a)->mM pQ y [ox x] W A)
  (g:∀W,J xs.length W->K (.tuple #[]) W)(z:∀W,F W->K (.tuple #[]) W):Ca pQ 296 #[y,.pointer (some ⟨b,0,none⟩)] W K:=by
 have u:xs.length=n:=by
  have:=v.1;rw[qU dy 4 xs λx _=>rfl]at this;omega
 obtain⟨sa,sc,rfl,Q⟩:=v.isSl;refine cN Tryz.func296 ?_;simp[go_sem,bT I]
 refine uo (λs a=>∃i:Nat,i<=n/\s=(gI i,())/\J i a/\gD a 124 4 (.slice sa n sc) n (xs.flatMap dy))
  (λs _=>match s.1 with| .int _ i=>n - i.toNat|_=>0) ⟨0,qZ,rfl,H,v⟩ ?_
 rintro⟨_,_⟩ a ⟨i,U,⟨⟩,D,B⟩ R q;refine lE ?_;intro _;by_cases f:i<n
 ·obtain⟨G,t,M,m⟩:=gD.elem B f;obtain⟨rfl,-,rfl⟩:sa=some ⟨G,0,none⟩/\True/\sc=t:=by grind
  rw[lA dy 4 _ _ (λ_ _=>rfl) qZ]at m;obtain⟨C,e,S,hC,c⟩:=m.get;have j:=c 0 _ rfl;have p:=c 1 _ rfl;have h:=c 2 _ rfl;have k:=c 3 _ rfl;simp only[cM,cx]at j p h k;have w:IntKind.i64.wrap ((i:Int)+1)=((i+1:Nat):Int):=by rw[bU];omega
  simp[-Int.natCast_add,go_sem,f,hC,j,p,h,k];have O:xs[i]? =some xs[i]:=aq qZ;have E:∀o,M0 a (a.alloc o):=λo=>(aS.refl _ a).alloc o;refine d i _ _ O (l _ _ _ D (E _)) _ (λP r L=>?_) (λP N=>?_)
  ·simp[-Int.natCast_add,go_sem,w];refine q _ _ ⟨i+1,qZ,rfl,r,(B.mod (E _) dS).keep L⟩ (by simp;omega)
  ·simp[go_sem];exact z _ N
 ·obtain rfl:i=n:=qZ;simp[go_sem];exact g _ (u▸D)
end Go.Proofs
set_option maxRecDepth 100000
set_option maxHeartbeats 1000000
namespace Go.Proofs
open Go Go.Vc Go.Sort
def Sm{d l:List Ac}(c:mg l)(hp:d.Perm l)(j:d.Pairwise λx y=>ltOf yz y x=false):d=l:=by
 refine hp.eq_of_pairwise (λa b k n h1 g=>?_) j (c.imp λh=>?_)
 ·rw[O6]at h1 g;simp only[fj]at h1 g;have f:=hp.mem_iff.1 k;have e:a.num=b.num:=qZ;have i:=bE.find_some (S:=⟨0,l,[]⟩) c f;have m:=bE.find_some (S:=⟨0,l,[]⟩) c n;rw[e,m]at i;exact(cS i).symm
 ·rw[O6];simp only[fj];omega
def SK{d l:List Po}(f:kr l)(hp:d.Perm l)(j:d.Pairwise λx y=>ltOf wk y x=false):d=l:=by
 refine hp.eq_of_pairwise (λa b k n h1 c=>?_) j (f.imp λh=>?_)
 ·rw[PL]at h1 c;have g:=hp.mem_iff.1 k
  have e:a.key=b.key:=by
   rcases zn a.key b.key with h|h|h
   ·rw[h]at c;cases c
   ·exact h
   ·rw[h]at h1;cases h1
  have i:=bE.pos_some (S:=⟨0,[],l⟩) f g;have m:=bE.pos_some (S:=⟨0,[],l⟩) f n;rw[e,m]at i;exact(cS i).symm
 ·rw[PL];exact xq h
def Oh{e ty f:TypeId}{k by_:Nat}{α:Type}{enc:α->List Value}{w:Wt_}{v:Vt_}{d:List α}{x:α}{K:aY}(g:Tryz.prog.underlying f=some (.slice e))(p:gP pQ e (k+1) by_=true)(q:(enc x).length=k+1)(h1:(enc x).all (·.oneCell')=true)(D:k<1000)(j:by_<=10000)
  (y:gD w e (k+1) v d.length (d.flatMap enc))(C:d.length<4294967296)
  (u:∀c a,gD a e (k+1) c (d++[x]).length ((d++[x]).flatMap enc)->aS (aK v) w a->(∀b,aK c b->aK v b\/w.heap.size<=b)->K c a):
  rx pQ (pN f 1 [(0,.agg (enc x).toArray)]) w λl i=>rx pQ (eZ #[f,f] ty [v,l]) i K:=by
 refine nK (e:=e) (sz:=k+1) [.agg (enc x).toArray] g (dp p) rfl rfl (by simp[Value.cells,q]) qZ ?_;have r:∀o,M0 w (w.alloc o):=λo=>(aS.refl _ w).alloc o
 have z:Rd (w.alloc (.cells (([Value.agg (enc x).toArray].flatMap (·.cells.toList)).toArray) e)) (k+1) (.slice (some ⟨w.heap.size,0,none⟩) 1 1) 1 (enc x):=by
  refine⟨by rw[q];omega,.inr ⟨_,0,1,rfl,az _,⟨_,_,_,by rw[ec,ae rfl],?_,?_⟩⟩⟩
  ·simp[Value.cells]
  ·simp[Value.cells]
 refine jJ (n:=d.length) (m:=1) g g (dp p) (y.mod (r _) dS) z h1 ?_ λc a A B s=>?_
 ·have:(d.length+1)*by_<=4294967296*10000:=fL qZ j;omega
 ·refine u c a ?_ (((r _).to).trans B) λb t=>?_
  ·simpa using A
  ·rcases s b t with h|h
   ·exact .inl h
   ·rw[cm]at h;exact fM
def ag1:Tryz.prog.underlying 53=some (.slice 100):=cy
def ae7:Tryz.prog.underlying 55=some (.slice 124):=cy
def GX{l b:Nat}{S:bE}{T:TypeId}:AD pQ (.func (.func 158) #[] #[.pointer (some ⟨b,0,none⟩)]) (S.all.map λa=>[kx a]) (λW=>hC W b #[eu l] T/\∃F,ig W l F S):=by
 refine⟨⟨_,_,_,rfl,?_⟩⟩;rintro y J Js W K ⟨c,F,hq⟩ hQ w Q hend Z;have O:=hq;obtain⟨⟨m,m2,A,B,h1,L,h3,h4,h5,h6,h7⟩,g⟩:=hq;show Ca pQ _ #[y,.pointer (some ⟨b,0,none⟩)] W K;refine cN Tryz.func158 ?_;refine cG.at (λs f=>∃(d:List Ac) (v:Vt_),s=(v,())/\gD f 100 4 v d.length (d.flatMap db)/\d.Perm S.all/\M0 W f/\∀b,aK v b->W.heap.size<=b) ?_ ?_
 ·simp[go_sem,bT c];apply me O;simp[go_sem,bT c,eu,bT h1];refine sD oN L λw1 E z=>?_;generalize hg:W.heap.size=it at E
  refine uo (λs f=>∃(d:List Ac) (v:Vt_) (rest:List (Int×Ac)),s=(v,())/\gD f 100 4 v d.length (d.flatMap db)/\kR eQ kx f it m rest/\(d++(rest.filter λp=>decide (p.1≠0)).map (·.2)).Perm S.all/\M0 W f/\∀b,aK v b->it<b)
   (λs W=>rj it m W) ⟨[],_,A,rfl,gD.nil ..,E,?_,z,λb c=>by cases c⟩ ?_
  ·have:=(h4.filter λp=>decide (p.1≠0)).map (·.2);refine this.trans (iv ?_);simp only[bE.accs];rw[aU (by simp),cL.2 ?_,dK]
   ·exact kD _
   ·intro p hp;obtain⟨a,ha,rfl⟩:=aL.1 hp;have:=(g.acc a ha).1;simp;omega
  rintro⟨v,_⟩ W1 ⟨d,_,rest,⟨⟩,H,itW,hp,I,C⟩ KN N;refine lE ?_;intro _;refine uS itW ?_ ?_
  ·intro h0 r G hh;subst h0;simp[go_sem];exact⟨d,H.mod G dS,by simpa using hp,I.trans G,λb c=>by grind⟩
  ·intro i p hi r it' t G M;simp[go_sem];apply si t;simp[go_sem,kx,eQ];have hpe:=ny hi;have V:∀o,M0 W (r.alloc o):=λo=>(I.on G λb c=>.inr (by subst c;omega)).alloc o;have u:∀o,kR eQ kx (r.alloc o) it m (rest.eraseIdx i):=λo=>it'.mod ((aS.refl (λ_=>False) r).alloc o) id id;have oA:∀o,gD (r.alloc o) 100 4 v d.length (d.flatMap db):=λo=>(H.mod G λb c e=>by grind).mod ((aS.refl (λ_=>False) r).alloc o) dS
   have X:∀f,kR eQ kx f it m (rest.eraseIdx i)->rj it m f<rj it m W1:=λf h=>by
    rw[h.left,itW.left,gJ];have:i<rest.length:=(aF.1 hi).1;rw[ae this];omega
   have U:d.length<=64:=by
    have h1:=hp.length_eq;have L:=g.len;simp only[ag]at h1;omega
   by_cases hz:p.1=0
   ·grind
   ·rw[aa hz];refine Oh (d:=d) (enc:=db) (x:=p.2) (k:=3) ag1 ad5 rfl rfl qZ qZ (oA _) qZ λv' w'' o' q n' =>?_;have j:¬aK v it:=λh=>by grind
    have D:¬aK v m:=λh=>by have:=C m h;have:=L.lt;omega
    refine N _ _ ⟨d++[p.2],v',_,rfl,o',(u _).mod q D j,?_,(V _).on q λb c=>.inr (by grind),λb c=>?_⟩ (X _ ((u _).mod q D j))
    ·grind
    ·rcases n' b c with h|h
     ·exact C b h
     ·rw[cm,M]at h;have:=itW.lt.2;omega
 rintro _ W1 ⟨d,v,rfl,H,hp,I,C⟩;refine jG ?_;intro _
 have U:d.length<=64:=by
  have h1:=hp.length_eq;have L:=g.len;omega
 refine LU H qZ λw2 d' P p2 s2 R=>?_;obtain rfl:d' =S.all:=Sm g.sa (p2.trans hp) s2;obtain⟨sa,sc,rfl,hsc⟩:=P.isSl;refine cN Tryz.func161 ?_;simp[go_sem];have Y:M0 W w2:=I.on R λb c=>.inr (C b c);have V:∀o,M0 W (w2.alloc o):=λo=>Y.alloc o;refine HH (n:=d.length) (sl:=.slice sa d.length sc) (T:=53) (J (aK (.slice sa d.length sc))) Js (by simp[go_sem]) (P.mod kU dS) qZ (hQ _ _ (V _) λb c=>⟨C b c,?_⟩) (w _) ?_ ?_ Z
 ·have:=P.lt c;rw[cm];omega
 ·grind
 ·grind
end Go.Proofs
namespace Go.Proofs
open Go Go.Vc Go.Sort
variable {F:NP_}{l:Nat}{w:Wt_}{K:aY}{S:bE}
def Kj{b b2 f:Nat}{cap:Array Value}{T T2:TypeId}{want:Po->Bool}{Wk:World->Prop}(hWk:∀W g,Wk W->M0 W g->Wk g)
  (C:∀p W (K:aY),Wk W->(∀g,M0 W g->K (.bool (want p)) g)->Ca pQ f ⟨ox p::cap.toList⟩ W K):
  AD pQ (.func (.func 235) #[] #[.pointer (some ⟨b,0,none⟩),.pointer (some ⟨b2,0,none⟩)]) ((S.held.filter want).map λa=>[ox a])
   (λW=>hC W b #[eu l] T/\hC W b2 #[.func (.func f) #[] cap] T2/\Wk W/\S.held.length<4294967295/\∃F,ig W l F S):=by
 refine⟨⟨_,_,_,rfl,?_⟩⟩;rintro y J Js W K ⟨c,P,hwk,hlen,F,hq⟩ hQ R hstep hend hex;have hq0:=hq;obtain⟨⟨m1,q,A,B,h1,h2,h3,h4,h5,h6,h7⟩,hok⟩:=hq;show Ca pQ _ #[y,.pointer (some ⟨b,0,none⟩),.pointer (some ⟨b2,0,none⟩)] W K;refine cN Tryz.func235 ?_;refine cG.at (λs g=>∃(d:List Po) (v:Vt_),s=(v,())/\gD g 124 4 v d.length (d.flatMap dy)/\d.Perm (S.held.filter want)/\M0 W g/\∀b,aK v b->W.heap.size<=b) ?_ ?_
 ·simp[go_sem,bT c];apply me hq0;simp[go_sem,bT c,eu,bT h1];refine sD zM h3 λw1 Y U=>?_;generalize hg:W.heap.size=it at Y
  refine uo (λs g=>∃(d:List Po) (v:Vt_) (rest:List ((Int×Int)×Po)),s=(v,())/\gD g 124 4 v d.length (d.flatMap dy)/\kR ie ox g it q rest/\(d++(rest.map (·.2)).filter want).Perm (S.held.filter want)/\M0 W g/\∀b,aK v b->it<b)
   (λs W=>rj it q W) ⟨[],_,B,rfl,gD.nil ..,Y,?_,U,λb c=>by cases c⟩ ?_
  ·have:=(h5.map (·.2)).filter want;refine this.trans (iv ?_);simp only[bE.poss,dK];congr 1;exact kD _
  rintro⟨v,_⟩ W1 ⟨d,_,rest,⟨⟩,oW,itW,r,E,G⟩ KN N;refine lE ?_;intro _;refine uS itW ?_ ?_
  ·intro h0 z H hh;subst h0;simp[go_sem];exact⟨d,oW.mod H dS,by simpa using r,E.trans H,λb c=>by grind⟩
  ·intro i p hi z it' M H hsz;simp[go_sem];apply si M;have mA0:∀o,M0 W (z.alloc o):=λo=>(E.on H λb c=>.inr (by subst c;omega)).alloc o
   have Z:b2≠z.heap.size:=by
    have h1:=ay P;have h2:=E.size;omega
   have V:z.heap[b2]? =some (.cells #[.func (.func f) #[] cap] T2 (0,0)):=(E.on (F:=λ_=>False) H λb c=>.inr (by subst c;omega)).keep P id;simp[go_sem,ox,ie,bT V,Z];have hpe:=ny hi;generalize L:World.alloc _ _=D;have mA:M0 W D:=by grind
   have O:hC D z.heap.size #[.int .u32 p.2.c,gU p.2.a,gI p.2.q,gI p.2.b] 124:=by subst L;simp[go_sem]
   have m02:M0 z D:=by subst L;exact(aS.refl _ z).alloc _
   refine C p.2 D _ (hWk _ _ hwk mA) λw3 m3=>?_;have t:=m3.keep O id;have w:=m02.trans m3;have I:=mA.trans m3;have j:kR ie ox w3 it q (rest.eraseIdx i):=it'.mod w id id;have o3:gD w3 124 4 v d.length (d.flatMap dy):=(oW.mod H λb c e=>by grind).mod w dS
   have Q:∀g,kR ie ox g it q (rest.eraseIdx i)->rj it q g<rj it q W1:=λg h=>by
    rw[h.left,itW.left,gJ];have:i<rest.length:=(aF.1 hi).1;rw[ae this];omega
   have hdl:d.length<4294967295:=by
    have h1:=r.length_eq;have h2:=bi want S.held;simp only[ag]at h1;omega
   cases hz:want p.2
   ·simp;refine N _ _ ⟨d,_,_,rfl,o3,j,?_,I,G⟩ (Q _ j);refine(List.Perm.append_left d ?_).trans r;have:=(hpe.map (·.2)).filter want;rw[aD,aU (by simp[hz])]at this;exact this.symm
   ·simp[go_sem,bT t];refine Oh (d:=d) (enc:=dy) (x:=p.2) (k:=3) ae7 YE rfl rfl qZ qZ o3 qZ λv' w'' o' u n' =>?_;have m:¬aK v it:=λh=>by grind
    have X:¬aK v q:=λh=>by have:=G q h;have:=h3.lt;omega
    refine N _ _ ⟨d++[p.2],v',_,rfl,o',j.mod u X m,?_,I.on u λb c=>.inr (by grind),λb c=>?_⟩ (Q _ (j.mod u X m))
    ·grind
    ·rcases n' b c with h|h
     ·exact G b h
     ·have:=j.lt.2;have:=w.size;have:=itW.lt.2;omega
 rintro _ W1 ⟨d,v,rfl,oW,hp,E,G⟩;refine jG ?_;intro _
 have hdl:d.length<4294967295:=by
  have h1:=hp.length_eq;have h2:=bi want S.held;omega
 refine MO oW qZ λD d' o2 p2 s2 m2' =>?_;obtain rfl:d' =S.held.filter want:=SK (hok.sp.filter want) (p2.trans hp) s2;obtain⟨sa,sc,rfl,hsc⟩:=o2.isSl;refine cN Tryz.func238 ?_;simp[go_sem];have mW2:M0 W D:=E.on m2' λb c=>.inr (G b c);have mA:∀o,M0 W (D.alloc o):=λo=>mW2.alloc o;refine HS (n:=d.length) (sl:=.slice sa d.length sc) (T:=55) (J (aK (.slice sa d.length sc))) Js (by simp[go_sem]) (o2.mod kU dS) qZ (hQ _ _ (mA _) λb c=>⟨G b c,?_⟩) (R _) ?_ ?_ hex
 ·have:=o2.lt c;rw[cm];omega
 ·grind
 ·grind
structure Ch(gv:Vt_)(xs:List (List Value))(w:Wt_):Prop where
 out:∃Ok,AD pQ gv xs Ok/\∀W,M0 w W->Ok W
 fn:∃f cap,gv=.func (.func f) #[] cap
def rM(h:ig w l F S)
  (e:∀d c,Ch d (S.all.map λa=>[kx a]) c->M0 w c->K d c):Ca pQ 59 #[eu l] w K:=by
 unfold eu;refine cN Tryz.func59 ?_;simp[go_sem,eu];refine e _ _ ⟨⟨_,GX (l:=l) (b:=w.heap.size) (T:=88),λW m=>⟨m.keep ?_ id,F,h.mod (kU.trans m) dS⟩⟩,_,_,rfl⟩ kU;rw[ec,ae rfl];rfl
def vI{c:Int}(h:ig w l F S)(t:S.held.length<4294967295)
  (j:∀n i,Ch n ((S.holders c).map λa=>[ox a]) i->M0 w i->K n i):Ca pQ 60 #[eu l,gU c] w K:=by
 unfold eu;refine cN Tryz.func60 ?_;simp[go_sem];refine cN Tryz.func162 ?_;simp[go_sem,eu];generalize d:World.alloc _ _=e;have k:M0 w e:=by subst d;exact(kU.alloc _).alloc _
 have r:hC e w.heap.size #[.int .u32 c] 45:=by subst d;simp[go_sem]
 have s:hC e (w.heap.size+1) #[eu l] 88:=by subst d;simp[go_sem,eu]
 have q:hC e (w.heap.size+2) #[.func (.func 163) #[] #[.pointer (some ⟨w.heap.size,0,none⟩)]] 255:=by subst d;simp[go_sem]
 refine j _ _ ⟨⟨_,Kj (l:=l) (b:=w.heap.size+1) (b2:=w.heap.size+2) (f:=163) (cap:=#[.pointer (some ⟨w.heap.size,0,none⟩)]) (T:=88) (T2:=255) (Wk:=λW=>hC W w.heap.size #[.int .u32 c] 45)
  (want:=λp=>decide (p.c=c)) (λW v u m=>m.keep u id) ?_,λW m=>⟨m.keep s id,m.keep q id,m.keep r id,t,F,h.mod (k.trans m) dS⟩⟩,_,_,rfl⟩ k
 intro p W K o j;refine cN Tryz.func163 ?_;have g:=ay o;simp[go_sem,ox,bT o,Wb g];have:=j _ ((aS.refl _ W).alloc (.cells #[.int .u32 p.c,gU p.a,gI p.q,gI p.b] 124));rw[show(p.c==c)=decide (p.c=c) by grind];exact this
def RL{c:Int}(h:ig w l F S)(t:S.held.length<4294967295)
  (j:∀n i,Ch n ((S.ofA c).map λa=>[ox a]) i->M0 w i->K n i):Ca pQ 207 #[eu l,gU c] w K:=by
 unfold eu;refine cN Tryz.func207 ?_;simp[go_sem];refine cN Tryz.func162 ?_;simp[go_sem,eu];generalize d:World.alloc _ _=e;have k:M0 w e:=by subst d;exact(kU.alloc _).alloc _
 have r:hC e w.heap.size #[.int .u32 c] 45:=by subst d;simp[go_sem]
 have s:hC e (w.heap.size+1) #[eu l] 88:=by subst d;simp[go_sem,eu]
 have q:hC e (w.heap.size+2) #[.func (.func 265) #[] #[.pointer (some ⟨w.heap.size,0,none⟩)]] 255:=by subst d;simp[go_sem]
 refine j _ _ ⟨⟨_,Kj (l:=l) (b:=w.heap.size+1) (b2:=w.heap.size+2) (f:=265) (cap:=#[.pointer (some ⟨w.heap.size,0,none⟩)]) (T:=88) (T2:=255) (Wk:=λW=>hC W w.heap.size #[.int .u32 c] 45)
  (want:=λp=>decide (p.a=c)) (λW v u m=>m.keep u id) ?_,λW m=>⟨m.keep s id,m.keep q id,m.keep r id,t,F,h.mod (k.trans m) dS⟩⟩,_,_,rfl⟩ k
 intro p W K o j;refine cN Tryz.func265 ?_;have g:=ay o;simp[go_sem,ox,bT o,Wb g];have:=j _ ((aS.refl _ W).alloc (.cells #[.int .u32 p.c,gU p.a,gI p.q,gI p.b] 124));rw[show(p.a==c)=decide (p.a=c) by grind];exact this
end Go.Proofs
