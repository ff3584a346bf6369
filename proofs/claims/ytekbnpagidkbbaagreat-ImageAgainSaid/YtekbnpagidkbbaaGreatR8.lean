/- Part of a proof. -/
import Derived.Shelf.SlSortCmp.NoneTotal
import Derived.Ground.SlsfProg
import Derived.Test.YtekbnpagidkbbaaGreatR7
set_option linter.all false
set_option maxRecDepth 100000
set_option maxHeartbeats 4000000
namespace Go.Proofs
open Go Go.Vc
attribute [local congr] bj
variable {buy:Bool}{n:Int}{l:List Od}{F:NP_}{s:Nat}{w:Wt_}{K:aZ}
def qT.load{sl:Vt_}(h:qT w sl l){i:Nat}(hi:i<l.length):
  ∃b a,sl=.slice (some ⟨b,0,none⟩) l.length a/\(∀k:IntKind,(iX sC sl (.int k (i:Int))).run pQ w=.ok (bO b (i*5)) w)/\(iL jG (bO b (i*5))).run pQ w=.ok (kx l[i]) w:=by
 obtain⟨b,a,rest,rfl,g,e,f⟩:=h.pos qZ;have c:At w b 0 (l.flatMap dF++rest):=At.all (bT e);have d:=h.1;have h1:=c.sub (i*5) 5 (by rw[af,d];omega);rw[dq (by rw[d];omega),aO (by rw[bC,d];omega),lY dF 5 l i (λx _=>dV x) hi,cX]at h1;refine⟨b,a,rfl,λk=>?_,lE h1⟩;simp[go_sem,hi,bK,ik]
def yB(h:ig w s F buy l)
  (f:og l n=none->l.findIdx? (λx=>decide (x.num=n))=none->∀a,M0 w a->K (.tuple #[.int .i64 0,gI 7]) a)
  (e:∀i:Nat,∀b:i<l.length,og l n=some l[i]->l.findIdx? (λx=>decide (x.num=n))=some i->∀a,M0 w a->K (.tuple #[.int .i64 (i:Int),gI 0]) a):Ca pQ 310 #[dz s,gQ n] w K:=by
 refine QB h λg c=>?_;cases b:l.findIdx? λx=>decide (x.num=n)with
 |none=>exact f (xk b).1 b _ c
 |some i=>
  obtain⟨h1,j,d,k⟩:=vk b;exact e i h1 d b _ c
def Tk(h:ig w s F buy l)
  (c:∀u,M0 w u->K (.tuple #[kx ((og l n).getD oQ),gI (if(og l n).isSome then 0 else 7)]) u):Ca pQ 279 #[dz s,gQ n] w K:=by
 unfold dz;refine cN Tryz.func279 ?_;obtain⟨H,G,e,m⟩:=jY w;apply bo G;obtain⟨p,q⟩:=di w.heap.size;rw[<-q]at e|-;have h1:=h.mod m d9;refine yB h1 (λj _ x a=>?_) λi E j _ x a=>?_
 ·have k:=a.hpk e id;rw[j]at c;refine dI ?_;refine dI ?_;refine lh ?_;apply ao (kx oQ) x (by simp[go_sem,kx,dF,oQ]);obtain⟨z,t,g,f⟩:=jE (o' :=oQ) k;apply iE t;apply cK (lE (o:=oQ) (At.all g));exact c _ ((m.trans a).on f λb A=>gr)
 ·have k:=a.hpk e id;have y:=h1.mod a d9;obtain⟨⟨sl,v,D,I,M⟩,J,L⟩:=y;obtain⟨b,C,B,d,r⟩:=D.load E;rw[j]at c;refine dI ?_;refine dI ?_;refine eU ?_;simp only[dz,bU];refine dN v ?_;refine dN v ?_;apply bo (d _);apply bo r;obtain⟨z,t,g,f⟩:=jE (o' :=l[i]) k;apply iE t;apply cK (lE (o:=l[i]) (At.all g));exact c _ ((m.trans a).on f λb A=>gr)
def Rc(h:ig w s F buy l)
  (v:∀t,M0 w t->K (.tuple #[kx (l.head?.getD oQ),.bool l.head?.isSome]) t):Ca pQ 281 #[dz s] w K:=by
 unfold dz;refine cN Tryz.func281 ?_;obtain⟨a,B,e,k⟩:=jY w;apply bo B;obtain⟨p,m⟩:=di w.heap.size;rw[<-m]at e|-;have h1:=h.mod k d9;obtain⟨⟨sl,c,x,C,G⟩,D,E⟩:=id h1;obtain⟨sa,sc,j,-⟩:=x.isSl;refine cT.at (λst W=>st=(.bool (decide (l.length=0)),())/\W=a) ?_ ?_
 ·apply pZ h1;refine eU ?_;simp only[dz,bU];refine dN c ?_;refine dN c ?_;apply iI (gI (l.length:Int)) a (by rw[j];simp[go_sem]);apply ao (.bool (decide (l.length=0))) a (by simp[go_sem];rw[dh];simp);exact xg
 rintro _ a ⟨rfl,rfl⟩;refine kR ?_;intro _;cases l with
 |nil=>
  rw[ay,ae (by simp)];apply ao (kx oQ) a (by simp[go_sem,kx,dF,oQ]);obtain⟨y,q,g,f⟩:=jE (o' :=oQ) e;apply iE q;apply cK (lE (o:=oQ) (At.all g));exact v _ (k.on f λb z=>gr)
 |cons o r=>
  rw[ay,aa (by simp)];obtain⟨b,A,u,d,n⟩:=x.load (i:=0) (by simp);simp only[dz,bU];refine dN c ?_;refine dN c ?_;apply bo (d .i64);apply bo n;obtain⟨y,q,g,f⟩:=jE (o' :=o) e;apply iE q;apply cK (lE (o:=o) (At.all g));exact v _ (k.on f λb z=>gr)
def TX(h:ig w s F buy l)(d:K (gI (l.length:Int)) w):Ca pQ 230 #[dz s] w K:=by
 obtain⟨⟨sl,b,c,e,i⟩,f,g⟩:=id h;obtain⟨sa,sc,a,-⟩:=c.isSl;unfold dz;refine cN Tryz.func230 ?_;apply pZ h;refine eU ?_;simp only[dz,bU];refine dN b ?_;refine dN b ?_;apply iI (gI (l.length:Int)) w (by rw[a];simp[go_sem]);exact d
def FV(h:ig w s F buy l)
  (q:∀j n e,ig e j n buy l->M0 w e->(∀b,n b->w.heap.size<=b)->K (dz j) e):Ca pQ 191 #[dz s] w K:=by
 obtain⟨⟨sl,r,t,x,y⟩,u,v⟩:=id h;unfold dz;refine cN Tryz.func191 ?_;apply pZ h;refine eU ?_;have md:M0 w w.drew:=vz;have d1:=md.hpk r id;simp only[dz,bU];refine sB ?_;refine AV d1 ?_;refine sB ?_;refine AV d1 ?_;refine t6 (l:=l) (t.mod md d9).rd qZ λd a f k p=>?_;have o:=md.trans k;have d2:=k.hpk d1 id;refine⟨by simp[go_sem,d2],?_⟩;obtain⟨sa,sc,i,-⟩:=f.isSl;apply du (.agg #[.bool true,.bool buy,d]) (λW=>by rw[i];simp[go_sem]);have m:M0 a (a.alloc (.cells #[.bool true,.bool buy,d] 331)):=mG;apply ao (dz a.heap.size) (a.alloc (.cells #[.bool true,.bool buy,d] 331)) rfl;have g:=o.size;refine q a.heap.size (λb=>b=a.heap.size\/aF d b) _ ⟨⟨d,by simp[go_sem],f.mod m d9,λb=>aG,λc=>?_⟩,u,v⟩ (o.trans m) λb c=>?_
 ·have:=f.lt c;omega
 ·rcases c with rfl|c
  ·exact g
  ·exact p b c
def JY{W:Wt_}{e f i v:Vt_}(h:hC W s #[e,f,i] 331)(g:∃a n c,v=.slice a n c):
  ∃d,(iS sC (bO s 2) v).run pQ W=.ok () d/\hC d s #[e,f,v] 331/\aR (λb=>b=s) W d:=by
 obtain⟨a,n,c,rfl⟩:=g;refine⟨W.setCell ⟨s,2,none⟩ (.slice a n c),by simp[go_sem,h],by simp[go_sem,h],(aR.refl (λb=>b=s) W).sc⟩
def MC{i:Nat}(h:l.findIdx? (λx=>decide (x.num=n))=some i):oX l n=l.take i++l.drop (i+1):=by
 unfold oX;rw[List.eraseP_eq_eraseIdx,h];exact List.eraseIdx_eq_take_drop_succ l i
def Cp(h:ig w s F buy l)
  (D:∀F' w',ig w' s F' buy (oX l n)->aR F w w' ->(∀b,F' b->F b\/w.heap.size<=b)->K (.tuple #[kx ((og l n).getD oQ),gI (if(og l n).isSome then 0 else 7)]) w'):Ca pQ 269 #[dz s,gQ n] w K:=by
 unfold dz;refine cN Tryz.func269 ?_;obtain⟨w1,e1,L,X⟩:=jY w;apply bo e1;obtain⟨p,t⟩:=di w.heap.size;rw[<-t]at L|-;have h1:=h.mod X d9;have j:∀{W W' :Wt_},M0 W W' ->aR F W W' :=λm=>m.to;have U:∀{b},F b->b<p:=λa=>by rw[t];exact h.lt a
 refine yB h1 (λP c x f=>?_) λi hi P r x f=>?_
 ·have E:=f.hpk L id
  have V:oX l n=l:=by
   unfold oX;rw[List.eraseP_eq_eraseIdx,c]
  rw[P,V]at D;refine dI ?_;refine dI ?_;refine lh ?_;apply ao (kx oQ) x (by simp[go_sem,kx,dF,oQ]);obtain⟨w3,e3,y,C⟩:=jE (o' :=oQ) E;apply iE e3;apply cK (lE (o:=oQ) (At.all y));have M2:=X.trans f;exact D F _ ((h.mod M2 d9).mod C λb a e=>by have:=U a;omega) ((j M2).on C λb a=>gr) λb a=>.inl a
 ·have E:=f.hpk L id;have h2:=h1.mod f d9;obtain⟨⟨sl,T,H,c3,Y⟩,c5,c6⟩:=id h2;obtain⟨b,cap,hsl,c,J⟩:=H.load hi;rw[P,MC r]at D;refine dI ?_;refine dI ?_;refine eU ?_;simp only[dz,bU];refine dN T ?_;refine dN T ?_;apply bo (c _);apply bo J;obtain⟨w3,e3,y,C⟩:=jY x;apply bo e3;obtain⟨q,S⟩:=di x.heap.size;rw[<-S]at y|-;obtain⟨w4,e4,b4,m4⟩:=jE (o' :=l[i]) y;apply iE e4;have B:M0 x w4:=C.on m4 λb a=>gr;have d:=B.hpk T id;have Q:=B.hpk E id;have R:=H.mod B d9;refine dN d ?_;refine dN d ?_;apply ao (gI ((i+1:Nat):Int)) w4 (by simp[go_sem];rw[mR]);refine u0 R (nK i) hi qZ λk w5 o5 z M=>?_;obtain⟨sa,sc,N,-⟩:=o5.isSl;have O:¬aF sl s:=Y;have u:¬aF sl p:=λa=>by have:=U ((c3 p).2 (.inr a));omega
  have Z:¬aF sl q:=λa=>by have:=H.lt a;omega
  have g:=z.hpk d O;have p5:=z.hpk Q u;have q5:=z.hpk b4 Z;refine dN g ?_;obtain⟨w6,e6,b6,A⟩:=JY (v:=k) g ⟨_,_,_,N⟩;apply iE e6;have hsp:s<p:=U h.self;have hpq:p<q:=by have:=aB E;omega
  have q6:=A.hpk q5 qZ;have p6:=A.hpk p5 qZ;apply bo (lE (o:=l[i]) (At.all q6));obtain⟨G,e7,b7,I⟩:=jE (o' :=l[i]) p6;apply iE e7;apply cK (lE (o:=l[i]) (At.all b7));have s7:=I.hpk b6 qZ;have o6:qT w6 k (l.take i++l.drop (i+1)):=o5.mod A λb a e=>Y (by rw[<-e];exact M b a);have o7:qT G k (l.take i++l.drop (i+1)):=o6.mod I λb a e=>u (by rw[<-e];exact M b a)
  have MF:aR F w G:=by
   have a1:=j ((X.trans f).trans B);have a2:aR F w w5:=a1.on z λb a=>.inl ((c3 b).2 (.inr a));have a3:aR F w w6:=a2.on A λb a=>.inl (by rw[a];exact h.self);exact a3.on I λb a=>gr
  refine D (λb=>b=s\/aF k b) G ⟨⟨k,s7,o7,λb=>aG,λa=>Y (M s a)⟩,?_,?_⟩ MF λb a=>?_
  ·grind
  ·grind
  ·rcases a with rfl|a
   ·exact .inl h.self
   ·grind
end Go.Proofs
namespace Go.Proofs
open Go Go.Vc
attribute [local congr] bj
variable {w:Wt_}
def xD:∀(l:List Od) (i:Nat) (hi:i<l.length) (x:Int),(l.flatMap dF).set (i*5+4) (gI x)=(l.set i {l[i]with left:=x}).flatMap dF
 |o::l,0,_,x=>rfl
 |o::l,i+1,hi,x=>by
  have e:(i+1)*5+4=(dF o).length+(i*5+4):=by rw[dV];omega
  rw[bm,e,cI _ _ qZ,fZ,xD l i (by simpa using hi) x];simp
def qT.setLeft{sl:Vt_}{l:List Od}(h:qT w sl l){i:Nat}(hi:i<l.length)(x:Int):
  ∃b a e,sl=.slice (some ⟨b,0,none⟩) l.length a/\(∀k:IntKind,(iX sC sl (.int k (i:Int))).run pQ w=.ok (bO b (i*5)) w)/\
   (iF jG (bO b (i*5)) 4).run pQ w=.ok (bO b (i*5+4)) w/\(iL 2 (bO b (i*5+4))).run pQ w=.ok (gI l[i].left) w/\
   (iS 2 (bO b (i*5+4)) (gI x)).run pQ w=.ok () e/\qT e sl (l.set i {l[i]with left:=x})/\aR (aF sl) w e:=by
 obtain⟨b,a,rest,rfl,o,f,n,g⟩:=h.pos qZ;have m:=h.1
 have c:(l.flatMap dF++rest)[i*5+4]? =some (gI l[i].left):=by
  rw[cg (by rw[m];omega)];have h1:=lY dF 5 l i (λx _=>dV x) hi;have j:(((l.flatMap dF).drop (i*5)).take 5)[4]? =(dF l[i])[4]? :=by rw[h1]
  rw[fj,ae qZ,fl]at j;rw[j];rfl
 have d:((l.flatMap dF++rest).toArray.setIfInBounds (i*5+4) (gI x))=((l.set i {l[i]with left:=x}).flatMap dF++rest).toArray:=by
  rw[ek,dX _ _ (by rw[m];omega),xD l i hi x]
 refine⟨b,a,w.setCell ⟨b,i*5+4,none⟩ (gI x),rfl,λk=>by simp[go_sem,hi,bK,ik],by simp[go_sem,bK],by simp[go_sem,bT f,c],by simp[go_sem,bT f,c],⟨by rw[uB dV,bN],.inr ⟨b,a,rest,by grind,by grind,?_,by grind,g⟩⟩,(aR.refl _ w).setCell (.inl (show aF (.slice (some ⟨b,0,none⟩) l.length a) b from rfl)) _ _⟩;rw[kE,ae rfl,f,jJ,d]
def Q6{K:aZ}{s:Nat}{F:NP_}{buy:Bool}{o:Od}{r:List Od}{n:Int}(h:ig w s F buy (o::r))(h1:1<=n)(h2:n<=o.left)
  (hK:∀F' w',ig w' s F' buy (kZ (o::r) n)->aR F w w' ->(∀b,F' b->F b\/w.heap.size<=b)->K (.tuple #[kx {o with left:=o.left - n},gI 0]) w'):Ca pQ 283 #[dz s,gI n] w K:=by
 have D:=h.may o (by simp)
 have hm:1<=o.left/\o.left<=1000000:=by
  have:=D.1;unfold Od.may at this;simp only[ai]at this;exact bE this.2
 unfold dz;refine cN Tryz.func283 ?_;obtain⟨I,e1,b1,m1⟩:=jY w;apply bo e1;obtain⟨p,L⟩:=di w.heap.size;rw[<-L]at b1|-;have q1:=h.mod m1 d9;have G:∀{W W' :Wt_},M0 W W' ->aR F W W' :=λm=>m.to;have pF:∀{b},F b->b<p:=λa=>by rw[L];exact h.lt a
 have hsp:s<p:=pF h.self;obtain⟨⟨sl,t,c2,c3,P⟩,c5,c6⟩:=id q1;obtain⟨sa,sc,S,-⟩:=c2.isSl;have y:¬aF sl p:=λa=>by grind
 obtain⟨b,cap,w2,hsl',d,f,l,C,U,Z⟩:=c2.setLeft (i:=0) (by simp) (o.left - n);simp only[eW,kp,cX,List.set_cons_zero]at d f l C U;apply pZ q1;refine eU ?_;simp only[dz,bU];refine dN t ?_;refine dN t ?_;apply iI (gI ((o::r).length:Int)) I (by rw[S];simp[go_sem]);have hne:¬(((o::r).length:Nat):Int)=0:=by simp;omega
 apply ao (.bool false) I (by simp only[go_sem];simp;omega);rw[jO];refine cT.at (λst W=>st=(.bool false,())/\W=I) ?_ ?_
 ·have h1' :¬n<1:=qZ;refine fF h1' ?_;refine dN t ?_;refine dN t ?_;refine bo (d .i64) (bo f (bo l ?_));have X:¬o.left<n:=qZ;refine dN X ?_;exact xg
 rintro _ I ⟨rfl,rfl⟩;refine kR ?_;intro _;rw[jO];simp only[bU];refine dN t ?_;refine dN t ?_;refine bo (d .i64) (bo f (bo l ?_));apply ao (gI (o.left - n)) I (by simp[go_sem];rw[mR]);refine bo (d .i64) (bo f ?_);apply iE C;have u:=Z.hpk t P;have p2:=Z.hpk b1 y;refine dN u ?_;refine dN u ?_;obtain⟨b',cap',hsl2,H,A⟩:=U.load (i:=0) (by simp);refine bo (H .i64) (bo A ?_);simp only[eW];obtain⟨w3,e3,b3,m3⟩:=jY w2;apply bo e3;obtain⟨q,T⟩:=di w2.heap.size;rw[<-T]at b3|-;obtain⟨w4,e4,b4,m4⟩:=jE (o' :={o with left:=o.left - n}) b3;apply iE e4;have O:M0 w2 w4:=m3.on m4 λb a=>gr;have k:=O.hpk u id;have p4:=O.hpk p2 id;have o4:=U.mod O d9;have hpq:p<q:=by have:=aB p2;omega
 have Y:¬aF sl q:=λa=>by grind
 have J:aR F w w4:=((G m1).on Z λb a=>.inl ((c3 b).2 (.inr a))).trans (G O)
 have fin:∀(g:List Od) (c:Vt_) (W:Wt_),hC W s #[.bool true,.bool buy,c] 331->qT W c g->(∀b,aF c b->aF sl b)->hC W q (dF {o with left:=o.left - n}).toArray jG->hC W p (dF oQ).toArray jG->
   aR F w W->g=kZ (o::r) n->Qs (bO q 0) (bO p 0) K () W:=by
  intro g c W k1 k2 k3 k4 k5 k6 k7;unfold Qs;intro _;apply bo (lE (o:={o with left:=o.left - n}) (At.all k4));obtain⟨w7,e7,b7,Q⟩:=jE (o' :={o with left:=o.left - n}) k5;apply iE e7;apply cK (lE (o:={o with left:=o.left - n}) (At.all b7));have s7:=Q.hpk k1 qZ;have o7:qT w7 c g:=k2.mod Q λb a e=>y (by grind);subst k7;refine hK (λb=>b=s\/aF c b) w7 ⟨⟨c,s7,o7,λb=>aG,λa=>P (k3 s a)⟩,?_,?_⟩ (k6.on Q λb a=>gr) λb a=>?_
  ·unfold kZ;simp only;have:=c5;simp only[be]at this;split
   ·omega
   ·grind
  ·intro x B;unfold kZ at B;simp only at B;by_cases z:o.left - n=0
   ·grind
   ·rw[aa z]at B;rcases ax.1 B with rfl|B
    ·obtain⟨V,a2,a3⟩:=D;refine⟨?_,a2,a3.1,a3.2.1,a3.2.2.1,by grind⟩;unfold Od.may at V|-;simp only[ai]at V|-;exact⟨V.1,by unfold aY;rw[aS];omega⟩
    ·grind
  ·rcases a with rfl|a
   ·exact .inl h.self
   ·grind
 refine cT.at (λst W=>∃c g,hC W s #[.bool true,.bool buy,c] 331/\qT W c g/\(∀b,aF c b->aF sl b)/\hC W q (dF {o with left:=o.left - n}).toArray jG/\hC W p (dF oQ).toArray jG/\aR F w W/\g=kZ (o::r) n) ?_ ?_
 ·have q4:=b4;unfold dF at q4;refine dN q4 ?_;refine dN q4 ?_;by_cases z:o.left - n=0
  ·refine dY z ?_;refine dN k ?_;refine dN k ?_;refine u0 (i:=0) (j:=1) o4 qZ (by simp) (by grind) λc w5 o5 M n5=>?_;obtain⟨xa,xc,R,-⟩:=o5.isSl;have E:=M.hpk k P;refine dN E ?_;obtain⟨w6,e6,b6,N⟩:=JY (v:=c) E ⟨_,_,_,R⟩;apply iE e6;refine⟨c,_,b6,o5.mod N λb a e=>P (by grind),n5,N.hpk (M.hpk b4 Y) qZ,N.hpk (M.hpk p4 y) qZ,(J.on M λb a=>.inl ((c3 b).2 (.inr a))).on N λb a=>.inl (by grind),?_⟩;unfold kZ;simp[z]
  ·refine fF z ?_;refine⟨sl,_,k,o4,λb a=>a,b4,p4,J,?_⟩;unfold kZ;simp[z]
 ·rintro⟨⟩ W ⟨c,g,k1,k2,k3,k4,k5,k6,k7⟩;exact fin g c W k1 k2 k3 k4 k5 k6 k7
def OP{K:aZ}{s:Nat}{F:NP_}{buy:Bool}{l:List Od}{n left:Int}(h:ig w s F buy l)(o:ed left)
  (g:∀D r,ig r s D buy (rh l n left).2->aR F w r->(∀b,D b->F b\/w.heap.size<=b)->K (gI (rh l n left).1) r):Ca pQ 272 #[dz s,gQ n,gI left] w K:=by
 unfold dz;refine cN Tryz.func272 ?_;have e:∀{W C:Wt_},M0 W C->aR F W C:=λm=>m.to;refine yB h (λM d A f=>?_) λi v M k A f=>?_
 ·have:rh l n left=(7,l):=by unfold rh;rw[d]
  rw[this]at g;refine dI ?_;refine dI ?_;refine lh ?_;exact g F _ (h.mod f d9) (e f) λb c=>.inl c
 ·have a:rh l n left=if left<1\/l[i].left<left then(2,l)else(0,l.set i {l[i]with left:=left}):=by
   unfold rh;rw[k];simp only;rw[av v]
  have J:=h.mod f d9;obtain⟨⟨sl,p,O,G,I⟩,R,H⟩:=id J;obtain⟨b,N,L,E,d,j,z,t,P,B⟩:=O.setLeft v left;refine dI ?_;refine dI ?_;refine eU ?_;refine cT.at (λst W=>st=(.bool (decide (left<1\/l[i].left<left)),())/\W=A) ?_ ?_
  ·by_cases h1:left<1
   ·refine dY h1 ?_;simp[h1]
   ·refine fF h1 ?_;simp only[dz,bU];refine dN p ?_;refine dN p ?_;refine bo (d .i64) (bo j (bo z ?_));refine dI ?_;simp[h1]
  rintro _ A ⟨rfl,rfl⟩;refine kR ?_;intro _;by_cases c:left<1\/l[i].left<left
  ·rw[ae c]at a;rw[a]at g;rw[oB c];exact g F _ J (e f) λb c=>.inl c
  ·rw[aa c]at a;rw[a]at g;rw[JP c];simp only[dz,bU];refine dN p ?_;refine dN p ?_;refine bo (d .i64) (bo j ?_);apply iE t;refine g (λb=>b=s\/aF sl b) L ⟨⟨sl,B.hpk p I,P,λb=>aG,I⟩,by grind,λx y=>?_⟩ ((e f).on B λb c=>.inl ((G b).2 (.inr c))) λb c=>.inl ((G b).2 c);rcases eD y with y|rfl
   ·exact H x y
   ·obtain⟨q,Q,u⟩:=H l[i] (aq v);refine⟨?_,Q,u.1,u.2.1,u.2.2.1,o⟩;unfold Od.may at q|-;simp only[ai]at q|-;have S:=bE q.2;exact⟨q.1,by unfold aY;rw[aS];omega⟩
end Go.Proofs
namespace Go.Proofs
open Go Go.Vc
attribute [local congr] bj
def JL{l:List Od}{n:Int}:(l.findIdx? λx=>decide (x.num=n)).isSome=l.any λx=>decide (x.num=n):=by
 rw[List.findIdx?_isSome]
def Vd{w:Wt_}{K:aZ}{s:Nat}{F:NP_}{buy:Bool}{l:List Od}{o:Od}(h:ig w s F buy l)(hof:o.Fit)
  (z:∀F' w',ig w' s F' buy (pN buy l o).2->aR F w w' ->(∀b,F' b->F b\/w.heap.size<=b)->K (gI (pN buy l o).1) w'):Ca pQ 284 #[dz s,kx o] w K:=by
 unfold dz;refine cN Tryz.func284 ?_;have t:∀{W W' :Wt_},M0 W W' ->aR F W W' :=λm=>m.to;have m0:M0 w (w.alloc (.cells #[dz s] 239)):=mG;obtain⟨p,J⟩:=di w.heap.size;apply ao (bO p 0) (w.alloc (.cells #[dz s] 239)) (by rw[J];simp[go_sem,dz]);have b0:hC (w.alloc (.cells #[dz s] 239)) p #[dz s] 239:=by rw[J];simp[go_sem]
 generalize w.alloc (.cells #[dz s] 239)=w0 at m0 b0|-;obtain⟨U,e1,b1,m1⟩:=ux o w0;apply bo e1;obtain⟨q,hq0⟩:=di w0.heap.size;rw[<-hq0]at b1|-;have p1:=m1.hpk b0 id;have Y:=m0.trans m1;have h1:=h.mod Y d9;have pF:∀{b},F b->b<p:=λc=>by rw[J];exact h.lt c
 have g:∀{W},M0 U W->hC W p #[dz s] 239:=λm=>m.hpk p1 id;have n:∀{W},M0 U W->hC W q (dF o).toArray jG:=λm=>m.hpk b1 id;refine dN p1 ?_;apply pZ h1;refine eU ?_;refine cT.at (λst W=>st=(.bool (decide (¬o.may\/o.buy≠buy)),())/\M0 U W) ?_ ?_
 ·have md:M0 U U.drew:=vz;apply cK (lE (o:=o) (At.all (n md)));refine vS λw2 H=>?_;have G:=md.trans H;apply du (.bool (!o.may)) (λW=>by simp[go_sem]);cases hm:o.may with
  |false=>
   rw[ay,ae (by simp)];exact⟨by simp,G⟩
  |true=>
   rw[ay,aa (by simp)];have M:=n G;unfold dF at M;obtain⟨⟨sl,B,Z,c3,c4⟩,c5,c6⟩:=h1.mod G d9;have p2:=g G;refine sB ?_;refine AV M ?_;refine AV p2 ?_;simp only[dz,bU];refine sB ?_;refine AV B ?_;apply du (.bool (decide (o.buy≠buy))) (λW=>by cases o.buy<;>cases buy<;>simp[go_sem]);exact⟨by simp,G⟩
 rintro _ w2 ⟨rfl,H⟩;refine kR ?_;intro _;have G:=Y.trans H;have R:=h1.mod H d9;by_cases d:¬o.may\/o.buy≠buy
 ·have I:pN buy l o=(2,l):=by unfold pN;rw[ae d]
  rw[I]at z;rw[oB d];exact z F _ R (t G) λb c=>.inl c
 rw[JP d];have p2:=g H;have M:=n H;refine dN p2 ?_;unfold dF at M;refine dN M ?_;refine dN M ?_;refine RM R λw3 m3=>?_;have M3:=H.trans m3;have T:=Y.trans M3;have h3:=R.mod m3 d9;by_cases j:(l.any λx=>decide (x.num=o.num))=true
 ·have I:pN buy l o=(8,l):=by unfold pN;rw[aa d,ae j]
  rw[I]at z;rw[<-JL]at j;obtain⟨i,hi⟩:=fh.1 j;obtain⟨_,_,_,e⟩:=vk hi;rw[e];refine lh ?_;exact z F _ h3 (t T) λb c=>.inl c
 have hno:(l.findIdx? λx=>decide (x.num=o.num))=none:=by
  cases D:l.findIdx? λx=>decide (x.num=o.num)with
  |none=>rfl
  |some i=>exact absurd (by grind) j
 rw[(xk hno).2];refine eU ?_;obtain⟨⟨sl,B,Z,c3,c4⟩,c5,c6⟩:=id h3;obtain⟨sa,sc,N,-⟩:=Z.isSl;have p3:=g M3;refine dN p3 ?_;simp only[dz,bU];refine dN B ?_;refine dN B ?_;apply iI (gI (l.length:Int)) w3 (by rw[N];simp[go_sem]);by_cases r:100<=l.length
 ·have I:pN buy l o=(9,l):=by unfold pN;rw[aa d,aa j,ae r]
  rw[I]at z;have f:(100:Int)<=(l.length:Int):=qZ;refine dY f ?_;exact z F _ h3 (t T) λb c=>.inl c
 have f:¬(100:Int)<=(l.length:Int):=qZ;refine fF f ?_;have I:pN buy l o=(0,tB buy l o):=by unfold pN;rw[aa d,aa j,aa r]
 rw[I]at z;refine dN p3 ?_;simp only[dz,bU];refine dN B ?_;refine dN B ?_;refine wE (p:=λx=>iG buy o.price x.price) Z.rd qZ ⟨_,_,rfl,λx A W mW K' hK' =>?_⟩ λk m4=>?_
 ·refine cN Tryz.func322 ?_;obtain⟨W1,e1,d1,n1⟩:=ux x W;apply bo e1;have MW:=(M3.trans mW).trans n1;have pW:=g MW;have qW:=n MW;unfold dF at d1 qW;refine dN pW ?_;refine dN qW ?_;refine dN qW ?_;refine dN d1 ?_;refine dN d1 ?_;apply CC (h1.mod MW d9);exact hK' _ n1
 have Q:=M3.trans m4;have h4:=h3.mod m4 d9;have u:=m4.hpk B id
 have V:Fy buy l o.price<=l.length:=by
  unfold Fy;cases D:l.findIdx? λx=>iG buy o.price x.price with
  |none=>exact aD _
  |some i=>
   obtain⟨hi,_⟩:=vk D;simp only[dC];omega
 refine cT.at (λst W=>st=(gI (Fy buy l o.price:Nat),())/\W=k) ?_ ?_
 ·cases D:l.findIdx? λx=>iG buy o.price x.price with
  |none=>
   rw[(xk D).2];refine lh ?_;have p4:=g Q;refine dN p4 ?_;simp only[dz,bU];refine dN u ?_;refine dN u ?_;apply iI (gI (l.length:Int)) k (by rw[N];simp[go_sem]);refine⟨?_,rfl⟩;unfold Fy;rw[D];rfl
  |some i=>
   obtain⟨_,_,_,e⟩:=vk D;rw[e];refine eU ?_;refine⟨?_,rfl⟩;unfold Fy;rw[D];rfl
 rintro _ k ⟨rfl,rfl⟩;refine kR ?_;intro _;have md:M0 k k.drew:=vz;have pd:=g (Q.trans md);have qd:=n (Q.trans md);have cd:=md.hpk u id;refine AV pd ?_;refine AV pd ?_;simp only[dz,bU];refine sB ?_;refine AV cd ?_;apply cK (lE (o:=o) (At.all qd));refine nI [kx o] ik (dB MY) rfl rfl (by intro v hv;rw[cm.1 hv];rfl) qZ ?_;have e0:(([kx o]:LV_).flatMap (·.cells.toList)).toArray=(dF o).toArray:=rfl;rw[e0];have m5:M0 k.drew (k.drew.alloc (.cells (dF o).toArray jG)):=mG;have S:=md.trans m5
 have P:qT (k.drew.alloc (.cells (dF o).toArray jG)) (.slice (some ⟨k.drew.heap.size,0,none⟩) 1 1) [o]:=
  ⟨rfl,.inr ⟨_,1,[],rfl,aD _,by rw[er,ae rfl];simp,by simp,by simp⟩⟩
 have X:∀b,aF (.slice (some ⟨k.drew.heap.size,0,none⟩) 1 1) b->b=k.drew.heap.size:=λb c=>by cases c;rfl
 generalize k.drew.alloc (.cells (dF o).toArray jG)=w5 at m5 S P|-;have p5:=g (Q.trans S);have C:=S.hpk u id;refine⟨by simp[go_sem,C],by simp[go_sem,p5,dz],by simp[go_sem,p5,dz],?_⟩;obtain⟨⟨L,k1,k2,k3,k4⟩,k5,k6⟩:=h4.mod S d9
 have esl:L=sl:=by
  have:=C.symm.trans k1;simp only[gL,Obj.cells.injEq]at this;have:=ep (λa:Array Value=>a[2]?) this.1;simp at this;exact this.symm
 subst esl;have O:∀b,aF L b->b<w3.heap.size:=λb c=>Z.lt c;have hsz43:=m4.size;refine Gj k2 P (λb c hb' =>by have h1:=O b c;have R:=X b hb';rw[Dj]at R;omega) V qZ λs6 w6 o6 m6 n6=>?_;obtain⟨xa,xc,hs6,-⟩:=o6.isSl;have hps:¬aF L p:=λc=>by grind
 have p6:=m6.hpk p5 hps;have c6' :=m6.hpk C k4;refine⟨by simp[go_sem,p6,dz],?_⟩;refine sB ?_;obtain⟨w7,e7,b7,m7⟩:=JY (v:=s6) c6' ⟨_,_,_,hs6⟩;apply iE e7;have E:=Y.trans (Q.trans S)
 have y:¬aF s6 s:=λc=>by
  rcases n6 s c with h' |h'
  ·exact k4 h'
  ·have:=pF h.self;have:=E.size;omega
 have MF:aR F w w7:=((t E).on m6 λb c=>.inl ((k3 b).2 (.inr c))).on m7 λb c=>.inl (by grind);refine z (λb=>b=s\/aF s6 b) w7 ⟨⟨s6,b7,o6.mod m7 λb c e=>y (by grind),λb=>aG,y⟩,?_,?_⟩ MF λb c=>?_
 ·unfold tB;rw[af,az,be,bC,dK V];omega
 ·intro x A;unfold tB at A;rcases bf.1 A with A|A
  ·grind
  ·rcases ax.1 A with rfl|A
   ·have:x.may=true/\x.buy=buy:=by
     constructor
     ·grind
     ·grind
    exact⟨this.1,this.2,hof⟩
   ·grind
 ·rcases c with rfl|c
  ·exact .inl h.self
  ·rcases n6 b c with h' |h'
   ·grind
   ·have:=E.size;exact gr
end Go.Proofs
namespace Go.Vc
open Go Go.Shelf Go.RowKit Go.Lib Go.Sort Go.Proofs
def B7{P:Program}(h:uD P=true){g:FuncId}(f:∃fn,P.funcs[g]? =some fn/\fn.body.isSome=true)(c:Array Value)(w:Wt_):(callFunc g c).run P w=.ok (.enter g c) w:=by
 obtain⟨fn,e,f⟩:=f
 have d:(fn.name== "runtime.NumGoroutine")=false:=by
  have:=(jV.1 h) fn (Array.mem_of_getElem? e);simpa using this
 have a:¬fn.name= "runtime.NumGoroutine" :=by simpa using d
 have b:¬fn.body=none:=by grind
 unfold callFunc;simp[dw,Result.andThen,e,a,b]
def ye{α:Type} [Inhabited α](enc:α->List Value)(k:Nat)(c:0<k)(a:∀x,(enc x).length=k)(d:Array α):(flatK enc k d).toList=d.toList.flatMap enc:=by
 have j:(d.toList.flatMap enc).length=d.size*k:=by rw[rM enc k _ λx _=>a x];simp
 apply kr;intro t;by_cases e:t<d.size*k
 ·have h1:(flatK enc k d).toList[t]? =some (flatK enc k d)[t]! :=by
   rw[kK,gG (by simpa using e),fI _ t (by simpa using e)]
  rw[h1,get_flatK enc k d t e];have f:t / k<d.size:=Nat.div_lt_of_lt_mul (by grind);have b:t%k<k:=gx _ c;have g:=lY enc k d.toList (t / k) (λx _=>a x) (by simpa using f)
  have i:(d.toList.flatMap enc)[t]? =((d.toList.flatMap enc).drop (t / k*k) |>.take k)[t%k]? :=by
   rw[fj,ae b,fl,nN]
  rw[i,g]
  have h:d[t / k]! =d.toList[t / k]'(by simpa using f):=by
   rw[fI d _ f];simp
  rw[h,fI _ _ (by rw[a];exact b),av (by rw[a];exact b)]
 ·rw[gy (by simp;omega),gy qZ]
def Fz(F rest cs:LV_)(h:F.length=cs.length):putCells id 0 F.toArray (cs++rest).toArray=(F++rest).toArray:=by
 apply Array.ext_getElem?;intro t;simp only[putCells,Array.getElem?_mapIdx,cR,dv,aH,true_and,cX,kq,id];by_cases a:t<F.length
 ·grind
 ·grind
section
variable{P:Program}{ρ:Ren}{α:Type} [Inhabited α]
def GX(hP:uD P=true)(L:SlLaysF0.n6 P ρ)(k:Nat)(S:mh P (ρ.t 24)=true)(U:P.cellsOf (ρ.t 24)=k+1)(enc:α->List Value)(s:∀x,(enc x).length=k+1)(h1:∀x,(enc x).all (·.oneCell')=true)
  (cf:α->α->Int)(V:SWO (ltOf cf))(g:Nat)(A:∀(x y:α) (W:Wt_),Ca P g #[.agg (enc x).toArray,.agg (enc y).toArray] W λv w' =>v=gI (cf x y)/\∃q os,w' =grow (W.drewN q) os)
  {e:TypeId}{w:Wt_}{sl:Vt_}{n:Nat}{d:List α}{K:aZ}(O:ic w e (k+1) sl n (d.flatMap enc))(hn:n<4611686018427387904)
  (N:∀(w' :Wt_) (a:List α),ic w' e (k+1) sl n (a.flatMap enc)->a.Perm d->a.Pairwise (λx y=>ltOf cf y x=false)->aR (aF sl) w w' ->K (.tuple #[]) w'):
  Ca P (ρ.f 6) #[sl,.func (.func g) #[] #[]] w K:=by
 have h:d.length=n:=by
  have:=O.1;rw[rM enc (k+1) d λx _=>s x]at this;exact Nat.eq_of_mul_eq_mul_right (lZ k) this
 obtain⟨Q,⟨rfl,rfl⟩|⟨b,p,rest,rfl,hc,C,hr,I⟩⟩:=O
 ·have R:d=[]:=List.length_eq_zero_iff.1 h;subst R;have:=AnyF.slices_SortFunc_none L none 0 (.func (.func g) #[] #[]) w;exact⟨jI this λe w' ⟨M,F⟩=>⟨_,M,by subst F;exact N _ [] (ic.nil ..) (cS _) List.Pairwise.nil rZ⟩⟩
 ·have T:b<w.heap.size:=aB C;have J:=B7 hP (A default default w).bodied
  have hH:HoldsK enc (k+1) w b 0 d.toArray:=by
   intro j D;rw[size_flatK]at D
   have Y:(flatK enc (k+1) d.toArray)[j]! =(d.flatMap enc)[j]'(by grind):=by
    rw[fI _ j (by rw[size_flatK];exact D),<-Array.getElem_toList];congr 1;exact ye enc (k+1) (lZ k) s d.toArray
   have G:j<(d.flatMap enc).length:=by grind
   constructor
   ·simp only[World.cell?,C,cX];rw[Y];simp[cg G]
   ·simp[World.frozen?,C]
  have z:CmpLays P g #[] enc (k+1) cf b 0 d.toArray.size w:=λm os dk _ x y=>by
   apply jI (A x y _).out;rintro e w' ⟨v,rfl,rfl,F⟩;exact⟨rfl,F⟩
  have l:=AnyQ.slices_SortFunc L (k+1) (yY S) (lI U) enc s (λx v hv=>bg.1 (h1 x) v hv) cf V g #[] b 0 p d.toArray w J z hH T (by grind);rw[show d.toArray.size=n by simpa using h]at l;refine⟨jI l ?_⟩;rintro e' w' ⟨rfl,a,m,os,hp,hs,rfl⟩;refine⟨_,rfl,?_⟩;have u:a.size=n:=by rw[hp.1];simpa using h
  have H:(flatK enc (k+1) a).toList=a.toList.flatMap enc:=ye enc (k+1) (lZ k) s a;have B:flatK enc (k+1) a=(a.toList.flatMap enc).toArray:=by rw[<-H]
  have c:(a.toList.flatMap enc).length=(d.flatMap enc).length:=by
   rw[Q,rM enc (k+1) _ λx _=>s x];simp[u]
  have o:∀f,f<w.heap.size->(sortWorldK enc (k+1) w b 0 m a os).heap[f]? =if f=b then some (.cells (a.toList.flatMap enc++rest).toArray e (0,0))else w.heap[f]? :=by
   intro f r;show((w.heap.modify b (onCells (putCells id 0 (flatK enc (k+1) a))))++os)[f]? =_;rw[Array.getElem?_append_left (by simpa using r),kN];by_cases M:f=b
   ·subst M;rw[ae rfl,ae rfl,C];simp only[eQ,onCells];rw[B,Fz _ _ _ c]
   ·grind
  have t:aR (aF (.slice (some ⟨b,0,none⟩) n p)) w (sortWorldK enc (k+1) w b 0 m a os):=by
   refine⟨?_,rfl,rfl,λf r Z=>?_⟩
   ·grind
   ·rw[o f r,aa (λe=>Z (by subst e;rfl))]
  refine N _ a.toList ⟨by rw[c,Q],.inr ⟨b,p,rest,rfl,hc,by grind,hr,I⟩⟩ ?_ ?_ t
  ·have:=hp.2.2;have e1:a.extract 0 n=a:=by rw[<-u];simp
   have X:d.toArray.extract 0 n=d.toArray:=by rw[<-h];simp
   rw[e1,X]at this;simpa using this
  ·rw[bP];intro i j hi D E;have:=hs i j (aH _) E (by grind);rw[fI a i (by simpa using hi),fI a j (by simpa using D)]at this;simpa using this
end
end Go.Vc
namespace Go.Proofs
open Go Go.Vc Go.Shelf Go.RowKit Go.Lib Go.Sort
def dk_{p:Prop}(h:p:=by first|kernel_rfl|(intro _;kernel_rfl)):p:=h
def de_{f:FuncId}{B:Func}(h:((Tryz.prog.funcs[f]?.elim "" (·.name))== "runtime.NumGoroutine")=false:=by kernel_rfl)(g:Tryz.prog.funcs[f]? =some {B with name:=Tryz.prog.funcs[f]?.elim "" (·.name)}:=by kernel_rfl):Bears pQ f B:=⟨_,h,g⟩
def Tryz.sortAc_ren:Ren:=⟨λ|6=>159|15=>233|14=>232|28=>293|29=>294|20=>285|21=>286|22=>287|23=>288|24=>289|25=>290|26=>291|27=>292|46=>324|47=>325|48=>326|49=>327|50=>328|57=>365|n=>n,λ|22=>53|24=>100|25=>252|3=>3|39=>263|0=>0|53=>45|55=>37|4=>4|46=>401|45=>400|50=>303|5=>5|9=>9|66=>436|70=>439|76=>469|77=>470|n=>n,λn=>n⟩
def Tryz.sortAc:SlLaysF0.n6 pQ Tryz.sortAc_ren:=by constructor<;>first|exact dk_|exact de_
def Tryz.sortPo_ren:Ren:=⟨λ|6=>236|15=>233|14=>295|28=>293|29=>294|20=>329|21=>330|22=>331|23=>332|24=>333|25=>334|26=>335|27=>336|46=>366|47=>325|48=>326|49=>367|50=>368|57=>382|n=>n,λ|22=>55|24=>124|25=>341|3=>3|39=>263|0=>0|53=>45|55=>37|4=>4|46=>401|45=>400|50=>303|5=>5|9=>9|66=>436|70=>439|76=>469|77=>470|n=>n,λn=>n⟩
def Tryz.sortPo:SlLaysF0.n6 pQ Tryz.sortPo_ren:=by constructor<;>first|exact dk_|exact de_
end Go.Proofs
namespace Go.Proofs
open Go Go.Vc Go.Sort
def vh(W:Wt_)(o o' :Obj):∃q os,(W.alloc o).alloc o' =grow (W.drewN q) os:=
 ⟨0,#[o]++ #[o'],by rw[alloc_eq_grow,alloc_eq_grow,grow_grow];rfl⟩
def zH(x y:Ac):Int:=if x.num<y.num then -1 else 1
def xy(x y:Po):Int:=if vN x.key y.key then -1 else if x=y then 0 else 1
def QF(x y:Ac):ltOf zH x y=decide (x.num<y.num):=by
 unfold ltOf zH;split<;>simp_all
def Re(x y:Po):ltOf xy x y=vN x.key y.key:=by
 unfold ltOf xy;cases h:vN x.key y.key
 ·grind
 ·simp
def Z3:SWO (ltOf zH) where
 irrefl x:=by rw[QF];simp
 trans x y z h1 h2:=by rw[QF]at*;simp at*;omega
 ntrans x y z h1 h2:=by rw[QF]at*;simp at*;omega
def ac6:SWO (ltOf xy) where
 irrefl x:=by rw[Re];exact EJ
 trans x y z h1 h2:=by rw[Re]at*;exact yJ h1 h2
 ntrans x y z h1 h2:=by
  rw[Re]at*;rw[eJ,Ne,ox]at*;omega
def P4(x y:Ac)(W:Wt_):Ca pQ 160 #[.agg (cY x).toArray,.agg (cY y).toArray] W λv a=>v=gI (zH x y)/\∃q os,a=grow (W.drewN q) os:=by
 refine cN Tryz.func160 ?_;simp[go_sem,cY];unfold zH;split
 ·exact⟨rfl,vh ..⟩
 ·exact⟨rfl,vh ..⟩
def RH(x y:Po)(W:Wt_):Ca pQ 237 #[.agg (dy x).toArray,.agg (dy y).toArray] W λv n=>v=gI (xy x y)/\∃q os,n=grow (W.drewN q) os:=by
 refine cN Tryz.func237 ?_;simp[go_sem,dy];generalize d:World.alloc _ _=e;have g:∃q os,e=grow (W.drewN q) os:=by subst d;exact vh ..
 have m:hC e W.heap.size #[.int .u32 x.c,gU x.a,gI x.q,gI x.b] 124:=by subst d;simp[go_sem]
 have k:hC e (W.heap.size+1) #[.int .u32 y.c,gU y.a,gI y.q,gI y.b] 124:=by subst d;simp[go_sem]
 refine cT.at (λs o=>s=(.bool (vN x.key y.key),())/\o=e) ?_ ?_
 ·simp[go_sem,bT m,bT k];unfold vN Po.key;by_cases h1:x.c<y.c
  ·simp[h1]
  ·by_cases f:x.c=y.c
   ·simp[h1,f]
   ·simp[h1,f]
 rintro _ e ⟨rfl,rfl⟩;refine kR ?_;intro _;cases i:vN x.key y.key
 ·simp[go_sem,bT m,bT k]
  have h:x=y↔x.c=y.c/\x.a=y.a/\x.q=y.q/\x.b=y.b:=by
   obtain⟨c,a,q,b⟩:=x;obtain⟨p,t,u,r⟩:=y;simp
  by_cases h1:x.c=y.c<;>by_cases f:x.a=y.a<;>by_cases l:x.q=y.q<;>by_cases j:x.b=y.b<;>simp[h1,f,l,j]<;>exact⟨by simp[xy,i,h,h1,f,l,j],g⟩
 ·simp;exact⟨by simp[xy,i],g⟩
def aj3:fY pQ 100 4 24=true:=cV
end Go.Proofs
namespace Go.Proofs
open Go Go.Vc Go.Sort
variable {n:Nat}{sl:Vt_}
def Nz{w:Wt_}{d:List Ac}{K:aZ}(b:ic w 100 4 sl n (d.flatMap cY))(e:n<4611686018427387904)
  (c:∀(w' :Wt_) (a:List Ac),ic w' 100 4 sl n (a.flatMap cY)->a.Perm d->a.Pairwise (λx y=>ltOf zH y x=false)->aR (aF sl) w w' ->K (.tuple #[]) w'):
  Ca pQ 159 #[sl,.func (.func 160) #[] #[]] w K:=
 GX (P:=pQ) (α:=Ac) Tryz.noNum Tryz.sortAc 3 cV cV cY (λ_=>rfl) (λ_=>rfl) zH Z3 160 P4 b e c
def IZ{y:Vt_}{b:Nat}{T:TypeId}{xs:List Ac}(J:Nat->World->Prop)(F:World->Prop){W:Wt_}{K:aZ}(I:hC W b #[sl] T)(v:ic W 100 4 sl n (xs.flatMap cY))(V:n<4611686018427387904)
  (H:J 0 W)(l:∀i W a,J i W->M0 W a->J i a)
  (d:∀i x W,xs[i]? =some x->J i W->∀A:aZ,(∀a,J (i+1) a->(∀b,aF sl b->a.heap[b]? =W.heap[b]?)->A (.bool true) a)->(∀a,F a->A (.bool false) a)->lA pQ y [jX x] W A)
  (g:∀W,J xs.length W->K (.tuple #[]) W)(z:∀W,F W->K (.tuple #[]) W):Ca pQ 234 #[y,.pointer (some ⟨b,0,none⟩)] W K:=by
 have u:xs.length=n:=by
  have:=v.1;rw[rM cY 4 xs λx _=>rfl]at this;omega
 obtain⟨sa,sc,rfl,Q⟩:=v.isSl;refine cN Tryz.func234 ?_;simp[go_sem,bT I]
 refine vm (λs a=>∃i:Nat,i<=n/\s=(gI i,())/\J i a/\ic a 100 4 (.slice sa n sc) n (xs.flatMap cY))
  (λs _=>match s.1 with| .int _ i=>n - i.toNat|_=>0) ⟨0,qZ,rfl,H,v⟩ ?_
 rintro⟨_,_⟩ a ⟨i,U,⟨⟩,D,B⟩ R q;refine lV ?_;intro _;by_cases f:i<n
 ·obtain⟨G,t,M,m⟩:=ic.elem B f;obtain⟨rfl,-,rfl⟩:sa=some ⟨G,0,none⟩/\True/\sc=t:=by grind
  rw[lY cY 4 _ _ (λ_ _=>rfl) qZ]at m;obtain⟨C,e,S,hC,c⟩:=m.get;have j:=c 0 _ rfl;have p:=c 1 _ rfl;have h:=c 2 _ rfl;have k:=c 3 _ rfl;simp only[cX,cB]at j p h k;have w:IntKind.i64.wrap ((i:Int)+1)=((i+1:Nat):Int):=by rw[bV];omega
  simp[-Int.natCast_add,go_sem,f,hC,j,p,h,k];have O:xs[i]? =some xs[i]:=av qZ;have E:∀o,M0 a (a.alloc o):=λo=>(aR.refl _ a).alloc o;refine d i _ _ O (l _ _ _ D (E _)) _ (λP r L=>?_) (λP N=>?_)
  ·simp[-Int.natCast_add,go_sem,w];refine q _ _ ⟨i+1,qZ,rfl,r,(B.mod (E _) d9).keep L⟩ (by simp;omega)
  ·simp[go_sem];exact z _ N
 ·obtain rfl:i=n:=qZ;simp[go_sem];exact g _ (u▸D)
def OB{w:Wt_}{d:List Po}{K:aZ}(b:ic w 124 4 sl n (d.flatMap dy))(e:n<4611686018427387904)
  (c:∀(w' :Wt_) (a:List Po),ic w' 124 4 sl n (a.flatMap dy)->a.Perm d->a.Pairwise (λx y=>ltOf xy y x=false)->aR (aF sl) w w' ->K (.tuple #[]) w'):
  Ca pQ 236 #[sl,.func (.func 237) #[] #[]] w K:=
 GX (P:=pQ) (α:=Po) Tryz.noNum Tryz.sortPo 3 cV cV dy (λ_=>rfl) (λ_=>rfl) xy ac6 237 RH b e c
def Ja{y:Vt_}{b:Nat}{T:TypeId}{xs:List Po}(J:Nat->World->Prop)(F:World->Prop){W:Wt_}{K:aZ}(I:hC W b #[sl] T)(v:ic W 124 4 sl n (xs.flatMap dy))(V:n<4611686018427387904)
  (H:J 0 W)(l:∀i W a,J i W->M0 W a->J i a)
  (d:∀i x W,xs[i]? =some x->J i W->∀A:aZ,(∀a,J (i+1) a->(∀b,aF sl b->a.heap[b]? =W.heap[b]?)->A (.bool true) a)->(∀a,F a->A (.bool false) a)->lA pQ y [nh x] W A)
  (g:∀W,J xs.length W->K (.tuple #[]) W)(z:∀W,F W->K (.tuple #[]) W):Ca pQ 296 #[y,.pointer (some ⟨b,0,none⟩)] W K:=by
 have u:xs.length=n:=by
  have:=v.1;rw[rM dy 4 xs λx _=>rfl]at this;omega
 obtain⟨sa,sc,rfl,Q⟩:=v.isSl;refine cN Tryz.func296 ?_;simp[go_sem,bT I]
 refine vm (λs a=>∃i:Nat,i<=n/\s=(gI i,())/\J i a/\ic a 124 4 (.slice sa n sc) n (xs.flatMap dy))
  (λs _=>match s.1 with| .int _ i=>n - i.toNat|_=>0) ⟨0,qZ,rfl,H,v⟩ ?_
 rintro⟨_,_⟩ a ⟨i,U,⟨⟩,D,B⟩ R q;refine lV ?_;intro _;by_cases f:i<n
 ·obtain⟨G,t,M,m⟩:=ic.elem B f;obtain⟨rfl,-,rfl⟩:sa=some ⟨G,0,none⟩/\True/\sc=t:=by grind
  rw[lY dy 4 _ _ (λ_ _=>rfl) qZ]at m;obtain⟨C,e,S,hC,c⟩:=m.get;have j:=c 0 _ rfl;have p:=c 1 _ rfl;have h:=c 2 _ rfl;have k:=c 3 _ rfl;simp only[cX,cB]at j p h k;have w:IntKind.i64.wrap ((i:Int)+1)=((i+1:Nat):Int):=by rw[bV];omega
  simp[-Int.natCast_add,go_sem,f,hC,j,p,h,k];have O:xs[i]? =some xs[i]:=av qZ;have E:∀o,M0 a (a.alloc o):=λo=>(aR.refl _ a).alloc o;refine d i _ _ O (l _ _ _ D (E _)) _ (λP r L=>?_) (λP N=>?_)
  ·simp[-Int.natCast_add,go_sem,w];refine q _ _ ⟨i+1,qZ,rfl,r,(B.mod (E _) d9).keep L⟩ (by simp;omega)
  ·simp[go_sem];exact z _ N
 ·obtain rfl:i=n:=qZ;simp[go_sem];exact g _ (u▸D)
end Go.Proofs
namespace Go.Proofs
open Go Go.Vc Go.Sort
def T4{d l:List Ac}(c:mL l)(hp:d.Perm l)(j:d.Pairwise λx y=>ltOf zH y x=false):d=l:=by
 refine hp.eq_of_pairwise (λa b k n h1 g=>?_) j (c.imp λh=>?_)
 ·rw[QF]at h1 g;simp only[fy]at h1 g;have f:=hp.mem_iff.1 k;have e:a.num=b.num:=qZ;have i:=bJ.find_some (S:=⟨0,l,[]⟩) c f;have m:=bJ.find_some (S:=⟨0,l,[]⟩) c n;rw[e,m]at i;exact(cZ i).symm
 ·rw[QF];simp only[fy];omega
def Uo{d l:List Po}(f:kP l)(hp:d.Perm l)(j:d.Pairwise λx y=>ltOf xy y x=false):d=l:=by
 refine hp.eq_of_pairwise (λa b k n h1 c=>?_) j (f.imp λh=>?_)
 ·rw[Re]at h1 c;have g:=hp.mem_iff.1 k
  have e:a.key=b.key:=by
   rcases AA a.key b.key with h|h|h
   ·rw[h]at c;cases c
   ·exact h
   ·rw[h]at h1;cases h1
  have i:=bJ.pos_some (S:=⟨0,[],l⟩) f g;have m:=bJ.pos_some (S:=⟨0,[],l⟩) f n;rw[e,m]at i;exact(cZ i).symm
 ·rw[Re];exact yy h
def PU{e ty f:TypeId}{k by_:Nat}{α:Type}{enc:α->List Value}{w:Wt_}{v:Vt_}{d:List α}{x:α}{K:aZ}(g:Tryz.prog.underlying f=some (.slice e))(p:fY pQ e (k+1) by_=true)(q:(enc x).length=k+1)(h1:(enc x).all (·.oneCell')=true)(D:k<1000)(j:by_<=10000)
  (y:ic w e (k+1) v d.length (d.flatMap enc))(C:d.length<4294967296)
  (u:∀c a,ic a e (k+1) c (d++[x]).length ((d++[x]).flatMap enc)->aR (aF v) w a->(∀b,aF c b->aF v b\/w.heap.size<=b)->K c a):
  rx pQ (rg f 1 [(0,.agg (enc x).toArray)]) w λl i=>rx pQ (fb #[f,f] ty [v,l]) i K:=by
 refine nI (e:=e) (sz:=k+1) [.agg (enc x).toArray] g (dB p) rfl rfl (by simp[Value.cells,q]) qZ ?_;have r:∀o,M0 w (w.alloc o):=λo=>(aR.refl _ w).alloc o
 have z:Rd (w.alloc (.cells (([Value.agg (enc x).toArray].flatMap (·.cells.toList)).toArray) e)) (k+1) (.slice (some ⟨w.heap.size,0,none⟩) 1 1) 1 (enc x):=by
  refine⟨by rw[q];omega,.inr ⟨_,0,1,rfl,aD _,⟨_,_,_,by rw[er,ae rfl],?_,?_⟩⟩⟩
  ·simp[Value.cells]
  ·simp[Value.cells]
 refine kg (n:=d.length) (m:=1) g g (dB p) (y.mod (r _) d9) z h1 ?_ λc a A B s=>?_
 ·have:(d.length+1)*by_<=4294967296*10000:=fT qZ j;omega
 ·refine u c a ?_ (((r _).to).trans B) λb t=>?_
  ·simpa using A
  ·rcases s b t with h|h
   ·exact .inl h
   ·rw[cw]at h;exact gr
def al7:Tryz.prog.underlying 53=some (.slice 100):=cV
def ak3:Tryz.prog.underlying 55=some (.slice 124):=cV
def Io{l b:Nat}{S:bJ}{T:TypeId}:BB pQ (.func (.func 158) #[] #[.pointer (some ⟨b,0,none⟩)]) (S.all.map λa=>[jX a]) (λW=>hC W b #[eP l] T/\∃F,iw W l F S):=by
 refine⟨⟨_,_,_,rfl,?_⟩⟩;rintro y J Js W K ⟨c,F,hq⟩ hQ w Q hend Z;have O:=hq;obtain⟨⟨m,m2,A,B,h1,L,h3,h4,h5,h6,h7⟩,g⟩:=hq;show Ca pQ _ #[y,.pointer (some ⟨b,0,none⟩)] W K;refine cN Tryz.func158 ?_;refine cT.at (λs f=>∃(d:List Ac) (v:Vt_),s=(v,())/\ic f 100 4 v d.length (d.flatMap cY)/\d.Perm S.all/\M0 W f/\∀b,aF v b->W.heap.size<=b) ?_ ?_
 ·simp[go_sem,bT c];apply mI O;simp[go_sem,bT c,eP,bT h1];refine tM pG L λw1 E z=>?_;generalize hg:W.heap.size=it at E
  refine vm (λs f=>∃(d:List Ac) (v:Vt_) (rest:List (Int×Ac)),s=(v,())/\ic f 100 4 v d.length (d.flatMap cY)/\lz eY jX f it m rest/\(d++(rest.filter λp=>decide (p.1≠0)).map (·.2)).Perm S.all/\M0 W f/\∀b,aF v b->it<b)
   (λs W=>rY it m W) ⟨[],_,A,rfl,ic.nil ..,E,?_,z,λb c=>by cases c⟩ ?_
  ·have:=(h4.filter λp=>decide (p.1≠0)).map (·.2);refine this.trans (iN ?_);simp only[bJ.accs];rw[aV (by simp),cO.2 ?_,dQ]
   ·exact kX _
   ·intro p hp;obtain⟨a,ha,rfl⟩:=aL.1 hp;have:=(g.acc a ha).1;simp;omega
  rintro⟨v,_⟩ W1 ⟨d,_,rest,⟨⟩,H,itW,hp,I,C⟩ KN N;refine lV ?_;intro _;refine vY itW ?_ ?_
  ·intro h0 r G hh;subst h0;simp[go_sem];exact⟨d,H.mod G d9,by simpa using hp,I.trans G,λb c=>by grind⟩
  ·intro i p hi r it' t G M;simp[go_sem];apply tv t;simp[go_sem,jX,eY];have hpe:=oe hi;have V:∀o,M0 W (r.alloc o):=λo=>(I.on G λb c=>.inr (by subst c;omega)).alloc o;have u:∀o,lz eY jX (r.alloc o) it m (rest.eraseIdx i):=λo=>it'.mod ((aR.refl (λ_=>False) r).alloc o) id id;have oA:∀o,ic (r.alloc o) 100 4 v d.length (d.flatMap cY):=λo=>(H.mod G λb c e=>by grind).mod ((aR.refl (λ_=>False) r).alloc o) d9
   have X:∀f,lz eY jX f it m (rest.eraseIdx i)->rY it m f<rY it m W1:=λf h=>by
    rw[h.left,itW.left,gX];have:i<rest.length:=(aJ.1 hi).1;rw[ae this];omega
   have U:d.length<=64:=by
    have h1:=hp.length_eq;have L:=g.len;simp only[af]at h1;omega
   by_cases hz:p.1=0
   ·grind
   ·rw[aa hz];refine PU (d:=d) (enc:=cY) (x:=p.2) (k:=3) al7 aj3 rfl rfl qZ qZ (oA _) qZ λv' w'' o' q n' =>?_;have j:¬aF v it:=λh=>by grind
    have D:¬aF v m:=λh=>by have:=C m h;have:=L.lt;omega
    refine N _ _ ⟨d++[p.2],v',_,rfl,o',(u _).mod q D j,?_,(V _).on q λb c=>.inr (by grind),λb c=>?_⟩ (X _ ((u _).mod q D j))
    ·grind
    ·rcases n' b c with h|h
     ·exact C b h
     ·rw[cw,M]at h;have:=itW.lt.2;omega
 rintro _ W1 ⟨d,v,rfl,H,hp,I,C⟩;refine kR ?_;intro _
 have U:d.length<=64:=by
  have h1:=hp.length_eq;have L:=g.len;omega
 refine Nz H qZ λw2 d' P p2 s2 R=>?_;obtain rfl:d' =S.all:=T4 g.sa (p2.trans hp) s2;obtain⟨sa,sc,rfl,hsc⟩:=P.isSl;refine cN Tryz.func161 ?_;simp[go_sem];have Y:M0 W w2:=I.on R λb c=>.inr (C b c);have V:∀o,M0 W (w2.alloc o):=λo=>Y.alloc o;refine IZ (n:=d.length) (sl:=.slice sa d.length sc) (T:=53) (J (aF (.slice sa d.length sc))) Js (by simp[go_sem]) (P.mod mG d9) qZ (hQ _ _ (V _) λb c=>⟨C b c,?_⟩) (w _) ?_ ?_ Z
 ·have:=P.lt c;rw[cw];omega
 ·grind
 ·grind
end Go.Proofs
namespace Go.Proofs
open Go Go.Vc Go.Sort
variable {F:NP_}{l:Nat}{w:Wt_}{K:aZ}{S:bJ}
def LW{b b2 f:Nat}{cap:Array Value}{T T2:TypeId}{want:Po->Bool}{Wk:World->Prop}(hWk:∀W g,Wk W->M0 W g->Wk g)
  (C:∀p W (K:aZ),Wk W->(∀g,M0 W g->K (.bool (want p)) g)->Ca pQ f ⟨nh p::cap.toList⟩ W K):
  BB pQ (.func (.func 235) #[] #[.pointer (some ⟨b,0,none⟩),.pointer (some ⟨b2,0,none⟩)]) ((S.held.filter want).map λa=>[nh a])
   (λW=>hC W b #[eP l] T/\hC W b2 #[.func (.func f) #[] cap] T2/\Wk W/\S.held.length<4294967295/\∃F,iw W l F S):=by
 refine⟨⟨_,_,_,rfl,?_⟩⟩;rintro y J Js W K ⟨c,P,hwk,hlen,F,hq⟩ hQ R hstep hend hex;have hq0:=hq;obtain⟨⟨m1,q,A,B,h1,h2,h3,h4,h5,h6,h7⟩,hok⟩:=hq;show Ca pQ _ #[y,.pointer (some ⟨b,0,none⟩),.pointer (some ⟨b2,0,none⟩)] W K;refine cN Tryz.func235 ?_;refine cT.at (λs g=>∃(d:List Po) (v:Vt_),s=(v,())/\ic g 124 4 v d.length (d.flatMap dy)/\d.Perm (S.held.filter want)/\M0 W g/\∀b,aF v b->W.heap.size<=b) ?_ ?_
 ·simp[go_sem,bT c];apply mI hq0;simp[go_sem,bT c,eP,bT h1];refine tM AY h3 λw1 Y U=>?_;generalize hg:W.heap.size=it at Y
  refine vm (λs g=>∃(d:List Po) (v:Vt_) (rest:List ((Int×Int)×Po)),s=(v,())/\ic g 124 4 v d.length (d.flatMap dy)/\lz iv nh g it q rest/\(d++(rest.map (·.2)).filter want).Perm (S.held.filter want)/\M0 W g/\∀b,aF v b->it<b)
   (λs W=>rY it q W) ⟨[],_,B,rfl,ic.nil ..,Y,?_,U,λb c=>by cases c⟩ ?_
  ·have:=(h5.map (·.2)).filter want;refine this.trans (iN ?_);simp only[bJ.poss,dQ];congr 1;exact kX _
  rintro⟨v,_⟩ W1 ⟨d,_,rest,⟨⟩,oW,itW,r,E,G⟩ KN N;refine lV ?_;intro _;refine vY itW ?_ ?_
  ·intro h0 z H hh;subst h0;simp[go_sem];exact⟨d,oW.mod H d9,by simpa using r,E.trans H,λb c=>by grind⟩
  ·intro i p hi z it' M H hsz;simp[go_sem];apply tv M;have mA0:∀o,M0 W (z.alloc o):=λo=>(E.on H λb c=>.inr (by subst c;omega)).alloc o
   have Z:b2≠z.heap.size:=by
    have h1:=aB P;have h2:=E.size;omega
   have V:z.heap[b2]? =some (.cells #[.func (.func f) #[] cap] T2 (0,0)):=(E.on (F:=λ_=>False) H λb c=>.inr (by subst c;omega)).keep P id;simp[go_sem,nh,iv,bT V,Z];have hpe:=oe hi;generalize L:World.alloc _ _=D;have mA:M0 W D:=by grind
   have O:hC D z.heap.size #[.int .u32 p.2.c,gU p.2.a,gI p.2.q,gI p.2.b] 124:=by subst L;simp[go_sem]
   have m02:M0 z D:=by subst L;exact(aR.refl _ z).alloc _
   refine C p.2 D _ (hWk _ _ hwk mA) λw3 m3=>?_;have t:=m3.keep O id;have w:=m02.trans m3;have I:=mA.trans m3;have j:lz iv nh w3 it q (rest.eraseIdx i):=it'.mod w id id;have o3:ic w3 124 4 v d.length (d.flatMap dy):=(oW.mod H λb c e=>by grind).mod w d9
   have Q:∀g,lz iv nh g it q (rest.eraseIdx i)->rY it q g<rY it q W1:=λg h=>by
    rw[h.left,itW.left,gX];have:i<rest.length:=(aJ.1 hi).1;rw[ae this];omega
   have hdl:d.length<4294967295:=by
    have h1:=r.length_eq;have h2:=bh want S.held;simp only[af]at h1;omega
   cases hz:want p.2
   ·simp;refine N _ _ ⟨d,_,_,rfl,o3,j,?_,I,G⟩ (Q _ j);refine(List.Perm.append_left d ?_).trans r;have:=(hpe.map (·.2)).filter want;rw[aI,aV (by simp[hz])]at this;exact this.symm
   ·simp[go_sem,bT t];refine PU (d:=d) (enc:=dy) (x:=p.2) (k:=3) ak3 ZY rfl rfl qZ qZ o3 qZ λv' w'' o' u n' =>?_;have m:¬aF v it:=λh=>by grind
    have X:¬aF v q:=λh=>by have:=G q h;have:=h3.lt;omega
    refine N _ _ ⟨d++[p.2],v',_,rfl,o',j.mod u X m,?_,I.on u λb c=>.inr (by grind),λb c=>?_⟩ (Q _ (j.mod u X m))
    ·grind
    ·rcases n' b c with h|h
     ·exact G b h
     ·have:=j.lt.2;have:=w.size;have:=itW.lt.2;omega
 rintro _ W1 ⟨d,v,rfl,oW,hp,E,G⟩;refine kR ?_;intro _
 have hdl:d.length<4294967295:=by
  have h1:=hp.length_eq;have h2:=bh want S.held;omega
 refine OB oW qZ λD d' o2 p2 s2 m2' =>?_;obtain rfl:d' =S.held.filter want:=Uo (hok.sp.filter want) (p2.trans hp) s2;obtain⟨sa,sc,rfl,hsc⟩:=o2.isSl;refine cN Tryz.func238 ?_;simp[go_sem];have mW2:M0 W D:=E.on m2' λb c=>.inr (G b c);have mA:∀o,M0 W (D.alloc o):=λo=>mW2.alloc o;refine Ja (n:=d.length) (sl:=.slice sa d.length sc) (T:=55) (J (aF (.slice sa d.length sc))) Js (by simp[go_sem]) (o2.mod mG d9) qZ (hQ _ _ (mA _) λb c=>⟨G b c,?_⟩) (R _) ?_ ?_ hex
 ·have:=o2.lt c;rw[cw];omega
 ·grind
 ·grind
structure Dn(gv:Vt_)(xs:List (List Value))(w:Wt_):Prop where
 out:∃Ok,BB pQ gv xs Ok/\∀W,M0 w W->Ok W
 fn:∃f cap,gv=.func (.func f) #[] cap
def sQ(h:iw w l F S)
  (e:∀d c,Dn d (S.all.map λa=>[jX a]) c->M0 w c->K d c):Ca pQ 59 #[eP l] w K:=by
 unfold eP;refine cN Tryz.func59 ?_;simp[go_sem,eP];refine e _ _ ⟨⟨_,Io (l:=l) (b:=w.heap.size) (T:=88),λW m=>⟨m.keep ?_ id,F,h.mod (mG.trans m) d9⟩⟩,_,_,rfl⟩ mG;rw[er,ae rfl];rfl
def wQ{c:Int}(h:iw w l F S)(t:S.held.length<4294967295)
  (j:∀n i,Dn n ((S.holders c).map λa=>[nh a]) i->M0 w i->K n i):Ca pQ 60 #[eP l,gU c] w K:=by
 unfold eP;refine cN Tryz.func60 ?_;simp[go_sem];refine cN Tryz.func162 ?_;simp[go_sem,eP];generalize d:World.alloc _ _=e;have k:M0 w e:=by subst d;exact(mG.alloc _).alloc _
 have r:hC e w.heap.size #[.int .u32 c] 45:=by subst d;simp[go_sem]
 have s:hC e (w.heap.size+1) #[eP l] 88:=by subst d;simp[go_sem,eP]
 have q:hC e (w.heap.size+2) #[.func (.func 163) #[] #[.pointer (some ⟨w.heap.size,0,none⟩)]] 255:=by subst d;simp[go_sem]
 refine j _ _ ⟨⟨_,LW (l:=l) (b:=w.heap.size+1) (b2:=w.heap.size+2) (f:=163) (cap:=#[.pointer (some ⟨w.heap.size,0,none⟩)]) (T:=88) (T2:=255) (Wk:=λW=>hC W w.heap.size #[.int .u32 c] 45)
  (want:=λp=>decide (p.c=c)) (λW v u m=>m.keep u id) ?_,λW m=>⟨m.keep s id,m.keep q id,m.keep r id,t,F,h.mod (k.trans m) d9⟩⟩,_,_,rfl⟩ k
 intro p W K o j;refine cN Tryz.func163 ?_;have g:=aB o;simp[go_sem,nh,bT o,XK g];have:=j _ ((aR.refl _ W).alloc (.cells #[.int .u32 p.c,gU p.a,gI p.q,gI p.b] 124));rw[show(p.c==c)=decide (p.c=c) by grind];exact this
def Tq{c:Int}(h:iw w l F S)(t:S.held.length<4294967295)
  (j:∀n i,Dn n ((S.ofA c).map λa=>[nh a]) i->M0 w i->K n i):Ca pQ 207 #[eP l,gU c] w K:=by
 unfold eP;refine cN Tryz.func207 ?_;simp[go_sem];refine cN Tryz.func162 ?_;simp[go_sem,eP];generalize d:World.alloc _ _=e;have k:M0 w e:=by subst d;exact(mG.alloc _).alloc _
 have r:hC e w.heap.size #[.int .u32 c] 45:=by subst d;simp[go_sem]
 have s:hC e (w.heap.size+1) #[eP l] 88:=by subst d;simp[go_sem,eP]
 have q:hC e (w.heap.size+2) #[.func (.func 265) #[] #[.pointer (some ⟨w.heap.size,0,none⟩)]] 255:=by subst d;simp[go_sem]
 refine j _ _ ⟨⟨_,LW (l:=l) (b:=w.heap.size+1) (b2:=w.heap.size+2) (f:=265) (cap:=#[.pointer (some ⟨w.heap.size,0,none⟩)]) (T:=88) (T2:=255) (Wk:=λW=>hC W w.heap.size #[.int .u32 c] 45)
  (want:=λp=>decide (p.a=c)) (λW v u m=>m.keep u id) ?_,λW m=>⟨m.keep s id,m.keep q id,m.keep r id,t,F,h.mod (k.trans m) d9⟩⟩,_,_,rfl⟩ k
 intro p W K o j;refine cN Tryz.func265 ?_;have g:=aB o;simp[go_sem,nh,bT o,XK g];have:=j _ ((aR.refl _ W).alloc (.cells #[.int .u32 p.c,gU p.a,gI p.q,gI p.b] 124));rw[show(p.a==c)=decide (p.a=c) by grind];exact this
end Go.Proofs
