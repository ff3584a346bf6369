/- Part of a proof. -/
import Derived.Test.YtekbnpagidkbbaaGreatR13
set_option linter.all false
set_option maxRecDepth 100000
set_option maxHeartbeats 4000000
namespace Go.Proofs
open Go Go.Vc Go.Srt
attribute [local congr] bj
variable {l:List Od}{sl:Vt_}
def qT.el{w:Wt_}(h:qT w sl l){i:Nat}(hi:i<l.length):
  ∃p,(∀W,(iX 146 sl (gI (i:Int))).run pQ W=.ok p W)/\∀(W:Wt_) (d:List Od),qT W sl d->∀f:i<d.length,
   (iL jG p).run pQ W=.ok (kx d[i]) W/\∀x:Od,∃k,(iS jG p (kx x)).run pQ W=.ok () k/\qT k sl (d.set i x)/\aR (aF sl) W k:=by
 obtain⟨b,c,rest,rfl,E,C,D⟩:=h.pos qZ;refine⟨.pointer (some ⟨b,i*5,none⟩),λW=>by simp[go_sem,hi,bK,ik],λW d m f=>?_⟩;obtain⟨v,g,a,B,y,j,u,o⟩:=id (m.pos qZ);obtain⟨rfl,t,rfl⟩:b=v/\l.length=d.length/\c=g:=by simpa using B
 obtain⟨A,xE,z,s,q⟩:=m.load f;have n:b=A/\c=xE:=by grind
 obtain⟨rfl,rfl⟩:=n;have r:=m.1;refine⟨q,λx=>⟨W.setRow b (jp (d.flatMap dF++a) (i*5) (dF x)).toArray,Zg (bT j) (by grind),⟨by rw[uB dV,bN],.inr ⟨b,c,a,by grind,by grind,?_,by grind,o⟩⟩,(aR.refl _ W).setRow (.inl (show aF (.slice (some ⟨b,0,none⟩) l.length c) b from rfl)) _⟩⟩;rw[eK,ae rfl,j]
 have e:jp (d.flatMap dF++a) (i*5) (dF x)=(d.set i x).flatMap dF++a:=by
  unfold jp;rw[aO (by rw[r];omega),Ta dV,dV,dq (by rw[r];omega),show i*5+5=(i+1)*5 by omega,V5 dV,List.set_eq_take_append_cons_drop,ae f];simp
 rw[e]
def Ub(w0:Wt_)(sl:Vt_)(fv:Vt_)(cf:Od->Od->Int)(l0:List Od):Prop:=
 ∃g cp,fv=.func (.func g) #[] cp/\∀x∈l0,∀y∈l0,∀W,aR (aF sl) w0 W->∀K:aZ,(∀W',M0 W W' ->K (gI (cf x y)) W')->Ca pQ g ⟨[kx x,kx y]++cp.toList⟩ W K
structure tf(w0:Wt_)(sl:Vt_)(l0:List Od)(W:Wt_)(l:List Od):Prop where
 own:qT W sl l
 pm:l.Perm l0
 md:aR (aF sl) w0 W
def tf.on{w0 W b:Wt_}{l0:List Od}(h:tf w0 sl l0 W l)(a:M0 W b):tf w0 sl l0 b l:=⟨h.own.mod a d9,h.pm,h.md.trans (a.to)⟩
def tf.swap{w0 W:Wt_}{l0:List Od}(h:tf w0 sl l0 W l){i j:Nat}(hi:i<l.length)(c:j<l.length):
  ∃p q,(∀W,(iX 146 sl (gI (i:Int))).run pQ W=.ok p W)/\(∀W,(iX 146 sl (gI (j:Int))).run pQ W=.ok q W)/\
   (iL jG p).run pQ W=.ok (kx l[i]) W/\(iL jG q).run pQ W=.ok (kx l[j]) W/\
   ∃a b,(iS jG p (kx l[j])).run pQ W=.ok () a/\(iS jG q (kx l[i])).run pQ a=.ok () b/\tf w0 sl l0 b (swp l i j):=by
 obtain⟨p,v,k⟩:=h.own.el hi;obtain⟨q,o,d⟩:=h.own.el c;obtain⟨s,s1⟩:=k W l h.own hi;obtain⟨g,-⟩:=d W l h.own c;obtain⟨a,t,r,u⟩:=s1 l[j];obtain⟨-,m⟩:=d a _ r (by grind);obtain⟨b,e,n,f⟩:=m l[i];refine⟨p,q,v,o,s,g,a,b,t,e,?_,(swp_perm l i j).trans h.pm,(h.md.trans u).trans f⟩;rw[swp_eq hi c];exact n
section
variable{w0:Wt_}{sl fv:Vt_}{cf:Od->Od->Int}{l0:List Od}
abbrev oM(cf:Od->Od->Int):Od->Od->Bool:=λx y=>decide (cf x y<0)
def KS{W:Wt_}{l:List Od}{K:aZ}{a b:Nat}(O:Ub w0 sl fv cf l0)(h:tf w0 sl l0 W l)(hn:l0.length<=100000)(H:a<=b)(Z:b<=l0.length)
  (C:∀B,tf w0 sl l0 B (insSort (oM cf) a b l)->K (.tuple #[]) B):Ca pQ 379 #[sl,gI (a:Int),gI (b:Int),fv] W K:=by
 obtain⟨g,cp,rfl,A⟩:=O;refine cN Tryz.func379 ?_;refine ao (gI ((a+1:Nat):Int)) W (by simp[go_sem];rw[ew qZ qZ]) ?_
 refine d8 (λst W=>∃(i k:Nat) (t:List Od),st=(gI i,())/\tf w0 sl l0 W t/\insFrom (oM cf) a i k t=insSort (oM cf) a b l/\a<i/\k=b - i)
  (λst _=>match st.1 with| .int _ i=>b - i.toNat|_=>0) ⟨a+1,b - (a+1),l,rfl,h,rfl,qZ,rfl⟩ ?_
 rintro⟨_,_⟩ W ⟨i,k,t,⟨⟩,F,D,V,hk⟩ X x;refine lV ?_;intro _;by_cases M:i<b
 ·have n:(i:Int)<(b:Int):=qZ;refine dY n ?_;obtain⟨k,rfl⟩:∃P,k=P+1:=⟨k - 1,qZ⟩
  refine d8 (λst W=>∃(j:Nat) (m:List Od),st=(gI j,())/\tf w0 sl l0 W m/\insIn (oM cf) a j m=insIn (oM cf) a i t/\j<=i)
   (λst _=>match st.1 with| .int _ j=>j.toNat|_=>0) ⟨i,t,rfl,F,rfl,aD _⟩ ?_
  rintro⟨_,_⟩ W ⟨j,m,⟨⟩,c,E,N⟩ KM w;have J:=c.pm.length_eq;refine lV ?_;intro _;refine cT.at (λst W=>st=(.bool (decide (a<j/\ltAt (oM cf) m j (j - 1)=true)),())/\tf w0 sl l0 W m) ?_ ?_
  ·by_cases s:a<j
   ·have o:(a:Int)<(j:Int):=qZ;refine JC o ?_;have d:=c.on (aR.refl _ W).drew;obtain⟨p,v,L⟩:=d.own.el (show j<m.length by omega);obtain⟨q,u,U⟩:=d.own.el (show j - 1<m.length by omega);refine cx v ?_;refine cK (L _ _ d.own qZ).1 ?_;refine du (gI ((j - 1:Nat):Int)) (λ_=>by simp[go_sem];rw[ew qZ qZ];omega) ?_;refine cx u ?_;refine cK (U _ _ d.own qZ).1 ?_;simp only[eX];refine A _ (c.pm.mem_iff.1 (aq _)) _ (c.pm.mem_iff.1 (aq _)) _ d.md _ λB S=>?_;refine sB ?_;refine⟨?_,d.on S⟩
    have e:decide (a<j/\ltAt (oM cf) m j (j - 1)=true)=decide (cf m[j] m[j - 1]<0):=by
     rw[ltAt_eq _ qZ qZ];simp[s]
    rw[e]
   ·have o:¬(a:Int)<(j:Int):=qZ;refine Kf o ?_;exact⟨by simp[s],c.on (aR.refl _ W).drew⟩
  rintro _ W ⟨rfl,c⟩;refine kR ?_;intro _;by_cases f:a<j/\ltAt (oM cf) m j (j - 1)=true
  ·rw[oB f];have r:j - 1+1=j:=qZ;have d:=c.on (aR.refl _ W).drew;obtain⟨p,q,v,u,Q,I,W1,T,R,G,z⟩:=d.swap (i:=j) (j:=j - 1) qZ qZ;refine du (gI ((j - 1:Nat):Int)) (λ_=>by simp[go_sem];rw[ew qZ qZ];omega) ?_;refine du (gI ((j - 1:Nat):Int)) (λ_=>by simp[go_sem];rw[ew qZ qZ];omega) ?_;refine cx u (cK I (cx v (cK Q (cx v (iE R (cx u (iE G ?_)))))));refine ao (gI ((j - 1:Nat):Int)) T (by simp[go_sem];rw[ew qZ qZ];omega) ?_;refine w _ _ ⟨j - 1,swp m j (j - 1),rfl,z,?_,qZ⟩ (by grind);rw[<-E]
   conv=>rhs;rw[<-r]
   rw[insIn,r,ae f]
  ·rw[ay,aa (by grind)];refine ao (gI ((i+1:Nat):Int)) W (by simp[go_sem];rw[ew qZ qZ]) ?_;refine x _ _ ⟨i+1,k,m,rfl,c,?_,qZ,qZ⟩ (by grind);rw[<-D,insFrom,<-E];congr 1;cases j with
   |zero=>rfl
   |succ Y=>
    rw[jT]at f;rw[insIn,aa f]
 ·have n:¬(i:Int)<(b:Int):=qZ;refine fF n ?_;have y:k=0:=qZ;subst y;rw[<-D]at C;exact C _ F
def E3{W:Wt_}{l:List Od}{K:aZ}{a b n:Nat}(h:tf w0 sl l0 W l)(H:l0.length<=100000)(I:a+n<=l0.length)(F:b+n<=l0.length)
  (o:∀w,tf w0 sl l0 w (swR l a b 0 n)->K (.tuple #[]) w):Ca pQ 389 #[sl,gI (a:Int),gI (b:Int),gI (n:Int),fv] W K:=by
 refine cN Tryz.func389 ?_
 refine d8 (λst W=>∃(i:Nat) (e:List Od),st=(gI i,())/\tf w0 sl l0 W e/\swR e a b i n=swR l a b 0 n/\i<=n)
  (λst _=>match st.1 with| .int _ i=>n - i.toNat|_=>0) ⟨0,l,rfl,h,rfl,qZ⟩ ?_
 rintro⟨_,_⟩ W ⟨i,e,⟨⟩,m,t,B⟩ E f;refine lV ?_;intro _;have C:=m.pm.length_eq;by_cases d:i<n
 ·have c:(i:Int)<(n:Int):=qZ;refine dY c ?_;have g:=m.on (aR.refl _ W).drew;obtain⟨p,q,u,r,z,y,G,D,A,x,k⟩:=g.swap (i:=a+i) (j:=b+i) qZ qZ;have v:∀W,(io .add 3 false (gI (a:Int)) (gI (i:Int))).run pQ W=.ok (gI ((a+i:Nat):Int)) W:=λ_=>by simp[go_sem];rw[ew qZ qZ]
  have s:∀W,(io .add 3 false (gI (b:Int)) (gI (i:Int))).run pQ W=.ok (gI ((b+i:Nat):Int)) W:=λ_=>by simp[go_sem];rw[ew qZ qZ]
  refine cx v (cx s (cx s (cx r (cK y (cx v (cx u (cK z (cx u (iE A (cx r (iE x ?_)))))))))));refine ao (gI ((i+1:Nat):Int)) D (by simp[go_sem];rw[ew qZ qZ]) ?_;refine f _ _ ⟨i+1,_,rfl,k,?_,qZ⟩ (by grind);rw[<-t]
  conv=>rhs;rw[swR]
  rw[ae d]
 ·have c:¬(i:Int)<(n:Int):=qZ;refine fF c ?_;have:swR e a b i n=e:=by rw[swR,aa d]
  rw[<-t,this]at o;exact o _ m
def Tm{W:Wt_}{l:List Od}{K:aZ}{a m b:Nat}(h:tf w0 sl l0 W l)(t:l0.length<=100000)(z:a<m)(A:m<b)(D:b<=l0.length)
  (w:∀f,tf w0 sl l0 f (rot m l (m - a) (b - m))->K (.tuple #[]) f):Ca pQ 386 #[sl,gI (a:Int),gI (m:Int),gI (b:Int),fv] W K:=by
 refine cN Tryz.func386 ?_;have sub:∀{x y:Nat} (W:Wt_),y<=x->x<=100000->(io .sub 3 false (gI (x:Int)) (gI (y:Int))).run pQ W=.ok (gI ((x - y:Nat):Int)) W:=λW h1 C=>by simp[go_sem];rw[ew qZ qZ];omega
 refine bo (sub W qZ qZ) (bo (sub W qZ qZ) ?_)
 refine d8 (λst W=>∃(i j:Nat) (o:List Od),st=(gI i,gI j,())/\tf w0 sl l0 W o/\rot m o i j=rot m l (m - a) (b - m)/\0<i/\0<j/\i<=m/\m+j<=l0.length)
  (λst _=>match st.1,st.2.1 with| .int _ i,.int _ j=>i.toNat+j.toNat|_,_=>0) ⟨m - a,b - m,l,rfl,h,rfl,qZ,qZ,qZ,qZ⟩ ?_
 rintro⟨_,_,_⟩ W ⟨i,j,o,⟨⟩,v,r,s,u,q,p⟩ B k;refine lV ?_;intro _;by_cases e:i=j
 ·subst e;refine eU ?_;refine bo (sub W qZ qZ) ?_;refine E3 v t qZ qZ λf d=>?_;have:rot m o i i=swR o (m - i) m 0 i:=by rw[rot,aa (by simp)]
  rw[<-r,this]at w;exact w _ d
 ·have n:¬(i:Int)=(j:Int):=qZ;refine ao (.bool true) W (by simp only[go_sem];simp;exact n) ?_;rw[kJ];by_cases g:j<i
  ·have c:(j:Int)<(i:Int):=qZ;refine dY c ?_;refine bo (sub W qZ qZ) ?_;refine E3 v t qZ qZ λf d=>?_;refine bo (sub f qZ qZ) ?_;refine k _ _ ⟨i - j,j,_,rfl,d,?_,qZ,u,qZ,p⟩ (by grind);rw[<-r]
   conv=>rhs;rw[rot]
   rw[ae ⟨e,s,u⟩,ae g]
  ·have c:¬(j:Int)<(i:Int):=qZ;refine fF c ?_;refine bo (sub W qZ qZ) ?_;refine ao (gI ((m+j:Nat):Int)) W (by simp[go_sem];rw[ew qZ qZ]) ?_;refine bo (sub W qZ qZ) ?_;refine E3 v t qZ qZ λf d=>?_;refine bo (sub f qZ qZ) ?_;refine k _ _ ⟨i,j - i,_,rfl,d,?_,s,qZ,q,qZ⟩ (by grind);rw[<-r]
   conv=>rhs;rw[rot]
   rw[ae ⟨e,s,u⟩,aa g]
end
section
variable{w0:Wt_}{sl fv:Vt_}{cf:Od->Od->Int}{l0:List Od}
def tf.cmp{g:FuncId}{f:Array Value}{W:Wt_}{l:List Od}{K:aZ}{i j:Nat}(e:∀x∈l0,∀y∈l0,∀W,aR (aF sl) w0 W->∀K:aZ,(∀b,M0 W b->K (gI (cf x y)) b)->Ca pQ g ⟨[kx x,kx y]++f.toList⟩ W K)(d:tf w0 sl l0 W l)(hi:i<l.length)(c:j<l.length)
  (k:∀b,tf w0 sl l0 b l->K (.bool (ltAt (oM cf) l i j)) b):
  ∃p q,(∀W,(iX 146 sl (gI (i:Int))).run pQ W=.ok p W)/\(∀W,(iX 146 sl (gI (j:Int))).run pQ W=.ok q W)/\
   (iL jG p).run pQ W.drew=.ok (kx l[i]) W.drew/\(iL jG q).run pQ W.drew=.ok (kx l[j]) W.drew/\
   lA pQ (.func (.func g) #[] f) [kx l[i],kx l[j]] W.drew λv w=>jC pQ (io .lss 3 true v (gI 0)) λn=>K n w:=by
 have a:=d.on (aR.refl _ W).drew;obtain⟨p,s,h⟩:=a.own.el hi;obtain⟨q,m,r⟩:=a.own.el c;refine⟨p,q,s,m,(h _ _ a.own hi).1,(r _ _ a.own c).1,?_⟩;simp only[eX];refine e _ (d.pm.mem_iff.1 (aq _)) _ (d.pm.mem_iff.1 (aq _)) _ a.md _ λb o=>?_;refine sB ?_;have:=k _ (a.on o)
 rwa[ltAt_eq _ hi c]at this
def XR{W:Wt_}{l:List Od}{K:aZ}{a i:Nat}{y:Vt_}(h:tf w0 sl l0 W l)(E:l0.length<=100000)(hi:1<=i)(A:i<=l0.length)
  (n:∀t,tf w0 sl l0 t (mvUp l a (i - 1))->K (.tuple #[]) t):oJ (S:=Value×Unit) (Sa (gI (i:Int),y,()) sl K) (gI (a:Int),()) W:=by
 refine d8 (λst W=>∃(k:Nat) (c:List Od),st=(gI k,())/\tf w0 sl l0 W c/\mvUp c k (i - 1)=mvUp l a (i - 1))
  (λst _=>match st.1 with| .int _ k=>i - k.toNat|_=>0) ⟨a,l,rfl,h,rfl⟩ ?_
 rintro⟨_,_⟩ W ⟨k,c,⟨⟩,g,r⟩ B d;unfold Sa;intro _;have z:=g.pm.length_eq;refine bo (wg (y:=1) W hi qZ true) (bo (rq W false) ?_);by_cases b:k<i - 1
 ·rw[oB b];have e:=g.on (aR.refl _ W).drew;obtain⟨p,q,s,o,w,v,C,D,x,u,f⟩:=e.swap (i:=k) (j:=k+1) qZ qZ;have m:∀W,(io .add 3 true (gI (k:Int)) (gI 1)).run pQ W=.ok (gI ((k+1:Nat):Int)) W:=λW=>qI (y:=1) W qZ true;refine cx m (cx m (cx o (cK v (cx s (cK w (cx s (iE x (cx o (iE u (bo (m _) ?_))))))))));refine d _ _ ⟨k+1,_,rfl,f,?_⟩ (by grind);rw[<-r]
  conv=>rhs;rw[mvUp]
  rw[ae b]
 ·rw[ay,aa (by grind)];have:mvUp c k (i - 1)=c:=by rw[mvUp,aa b]
  rw[<-r,this]at n;exact n _ g
def Ye{W:Wt_}{l:List Od}{K:aZ}{m i:Nat}{y:Vt_}(h:tf w0 sl l0 W l)(E:l0.length<=100000)(F:m<l0.length)
  (n:∀t,tf w0 sl l0 t (mvDn l m i)->K (.tuple #[]) t):oJ (S:=Value×Unit) (PJ (gI (i:Int),y,()) sl K) (gI (m:Int),()) W:=by
 refine d8 (λst W=>∃(k:Nat) (b:List Od),st=(gI k,())/\tf w0 sl l0 W b/\mvDn b k i=mvDn l m i/\k<=m)
  (λst _=>match st.1 with| .int _ k=>k.toNat|_=>0) ⟨m,l,rfl,h,rfl,aD _⟩ ?_
 rintro⟨_,_⟩ W ⟨k,b,⟨⟩,f,r,v⟩ B c;unfold PJ;intro _;have A:=f.pm.length_eq;refine dI ?_;by_cases a:i<k
 ·rw[oB a];have d:=f.on (aR.refl _ W).drew;obtain⟨p,q,s,o,x,w,C,D,z,u,e⟩:=d.swap (i:=k) (j:=k - 1) qZ qZ;have g:∀W,(io .sub 3 true (gI (k:Int)) (gI 1)).run pQ W=.ok (gI ((k - 1:Nat):Int)) W:=λW=>wg (y:=1) W qZ qZ true;refine cx g (cx g (cx o (cK w (cx s (cK x (cx s (iE z (cx o (iE u (bo (g _) ?_))))))))));refine c _ _ ⟨k - 1,_,rfl,e,?_,qZ⟩ (by grind);rw[<-r]
  conv=>rhs;rw[mvDn]
  rw[ae a]
 ·rw[ay,aa (by grind)];have:mvDn b k i=b:=by rw[mvDn,aa a]
  rw[<-r,this]at n;exact n _ f
def L8(hc:Ub w0 sl fv cf l0)(hn:l0.length<=100000):∀(d:Nat) {W:Wt_} {l:List Od} {K:aZ} {a m b:Nat},b - a<=d->tf w0 sl l0 W l->a<m->m<b->b<=l0.length->
  (∀r,tf w0 sl l0 r (symM (oM cf) a m b l)->K (.tuple #[]) r)->Ca pQ 380 #[sl,gI (a:Int),gI (m:Int),gI (b:Int),fv] W K:=by
 obtain⟨g,cp,rfl,X⟩:=hc;intro d;induction d with
 |zero=>intro W l K a m b h1 _ R Y;omega
 |succ d ih=>
 intro W l K a m b hd h ham hmb hb v;have hl:=h.pm.length_eq;refine cN Tryz.func380 ?_;refine bo (wg W qZ qZ false) ?_;refine bo (LR W) ?_;by_cases M:m - a=1
 ·rw[oB M];have s:symM (oM cf) a m b l=mvUp l a (bsG (λh=>ltAt (oM cf) l h a) m b - 1):=by rw[symM,ae M]
  rw[s]at v
  refine d8 (λst W=>∃i j:Nat,st=(gI i,gI j,())/\tf w0 sl l0 W l/\bsG (λh=>ltAt (oM cf) l h a) i j=bsG (λh=>ltAt (oM cf) l h a) m b/\m<=i/\i<=j/\j<=b)
   (λst _=>match st.1,st.2.1 with| .int _ i,.int _ j=>j.toNat - i.toNat|_,_=>0) ⟨m,b,rfl,h,rfl,qZ,qZ,qZ⟩ ?_
  rintro⟨_,_,_⟩ W ⟨i,j,⟨⟩,N,n,h1,R,Y⟩ O t;refine lV ?_;intro _;refine bo (rq W false) ?_;by_cases k:i<j
  ·rw[oB k];refine bo (qI W qZ false) ?_;obtain⟨x,P,y,T,V⟩:=zw k qZ W;refine bo P (bo T (bo V ?_));rw[bsG_go k]at n;obtain⟨o,J⟩:=di ((i+j) / 2);rw[<-J]at n|-
   obtain⟨p,q,c1,c2,c3,c4,c5⟩:=tf.cmp (i:=o) (j:=a) (K:=λv2 w=>sx v2 (rv pQ (io .add 3 true (gI (o:Int)) (gI 1)) w λE H=>O (E,gI (j:Int),()) H) (O (gI (i:Int),gI (o:Int),()) w)) X N qZ qZ (by
    intro r z;cases u:ltAt (oM cf) l o a with
    |true=>
     rw[kJ];rw[ae u]at n;refine bo (qI (y:=1) r qZ true) ?_;exact t _ _ ⟨o+1,j,rfl,z,n,qZ,qZ,Y⟩ (by grind)
    |false=>
     rw[jO];rw[aa (by rw[u];simp)]at n;exact t _ _ ⟨i,o,rfl,z,n,h1,qZ,qZ⟩ (by grind))
   exact cx c1 (cK c3 (cx c2 (cK c4 c5)))
  ·rw[ay,aa (by grind)];rw[bsG_end k]at n;rw[<-n]at v;exact XR N hn qZ qZ v
 rw[ay,aa (by grind)];refine bo (wg W qZ qZ false) ?_;refine bo (LR W) ?_;by_cases U:b - m=1
 ·rw[oB U];have s:symM (oM cf) a m b l=mvDn l m (bsG (λh=> !ltAt (oM cf) l m h) a m):=by rw[symM,aa M,ae U]
  rw[s]at v
  refine d8 (λst W=>∃i j:Nat,st=(gI i,gI j,())/\tf w0 sl l0 W l/\bsG (λh=> !ltAt (oM cf) l m h) i j=bsG (λh=> !ltAt (oM cf) l m h) a m/\a<=i/\i<=j/\j<=m)
   (λst _=>match st.1,st.2.1 with| .int _ i,.int _ j=>j.toNat - i.toNat|_,_=>0) ⟨a,m,rfl,h,rfl,qZ,qZ,qZ⟩ ?_
  rintro⟨_,_,_⟩ W ⟨i,j,⟨⟩,N,n,h1,R,Y⟩ O t;refine lV ?_;intro _;refine bo (rq W false) ?_;by_cases k:i<j
  ·rw[oB k];refine bo (qI W qZ false) ?_;obtain⟨x,P,y,T,V⟩:=zw k qZ W;refine bo P (bo T (bo V ?_));rw[bsG_go k]at n;obtain⟨o,J⟩:=di ((i+j) / 2);rw[<-J]at n|-
   obtain⟨p,q,c1,c2,c3,c4,c5⟩:=tf.cmp (i:=m) (j:=o) (K:=λv2 w=>jC pQ (Op.unary .not v2) λS=>sx S (rv pQ (io .add 3 true (gI (o:Int)) (gI 1)) w λE H=>O (E,gI (j:Int),()) H) (O (gI (i:Int),gI (o:Int),()) w)) X N qZ qZ (by
    intro r z;refine sB ?_;cases u:ltAt (oM cf) l m o with
    |false=>
     rw[ay,ae (show(!false)=true from rfl)];rw[ae (by rw[u];rfl)]at n;refine bo (qI (y:=1) r qZ true) ?_;exact t _ _ ⟨o+1,j,rfl,z,n,qZ,qZ,Y⟩ (by grind)
    |true=>
     rw[ay,aa (by simp)];rw[aa (by rw[u];simp)]at n;exact t _ _ ⟨i,o,rfl,z,n,h1,qZ,qZ⟩ (by grind))
   exact cx c1 (cK c3 (cx c2 (cK c4 c5)))
  ·rw[ay,aa (by grind)];rw[bsG_end k]at n;rw[<-n]at v;exact Ye N hn qZ v
 rw[ay,aa (by grind)];refine bo (qI W qZ false) ?_;obtain⟨x,P,y,T,V⟩:=zw (show a<b by omega) qZ W;refine bo P (bo T (bo V ?_))
 have s:symM (oM cf) a m b l=(let st:=stOf (oM cf) l a m b
   let C:=(a+b) / 2+m - st;let Z:=if st<m/\m<C then rot m l (m - st) (C - m)else l
   let l2:=if h:a<st/\st<(a+b) / 2 then symM (oM cf) a st ((a+b) / 2) Z else Z
   if h:(a+b) / 2<C/\C<b/\a<(a+b) / 2 then symM (oM cf) ((a+b) / 2) C b l2 else l2):=by
  conv=>lhs;rw[symM]
  rw[aa M,aa U]
 rw[s]at v;clear s;have hst:stOf (oM cf) l a m b=if(a+b) / 2<m then bsG (λc=> !ltAt (oM cf) l ((a+b) / 2+m - 1 - c) c) ((a+b) / 2+m - b) ((a+b) / 2)else bsG (λc=> !ltAt (oM cf) l ((a+b) / 2+m - 1 - c) c) a m:=rfl
 obtain⟨f,hmid⟩:=di ((a+b) / 2);rw[<-hmid]at v hst|-;have hmb1:a<f/\f<b:=qZ;refine bo (qI W qZ false) ?_;obtain⟨L,A⟩:=di (if f<m then f+m - b else a);obtain⟨r0,B⟩:=di (if f<m then f else m)
 have hst2:stOf (oM cf) l a m b=bsG (λc=> !ltAt (oM cf) l (f+m - 1 - c) c) L r0:=by
  rw[hst,A,B];by_cases D:f<m
  ·grind
  ·grind
 have Q:L<=r0/\a<=L/\r0<=m/\r0<=f/\(∀c,L<=c->c<r0->f+m - 1 - c<b/\c<f+m - 1)/\(∀c,L<=c->c<=r0->m<=f+m - c/\f+m - c<=b/\f<=f+m - c):=by
  by_cases D:f<m
  ·rw[ae D]at A B;exact⟨qZ,qZ,qZ,qZ,λc h1 R=>qZ,λc h1 R=>qZ⟩
  ·rw[aa D]at A B;exact⟨qZ,qZ,qZ,qZ,λc h1 R=>qZ,λc h1 R=>qZ⟩
 refine cT.at (λst r=>st=(gI (L:Int),gI (r0:Int),())/\r=W) ?_ ?_
 ·refine dI ?_;by_cases D:f<m
  ·rw[oB D];rw[ae D]at A B;refine bo (wg W qZ qZ false) ?_;exact⟨by rw[A,B],rfl⟩
  ·rw[ay,aa (by grind)];rw[aa D]at A B;exact⟨by rw[A,B],rfl⟩
 rintro _ W ⟨rfl,rfl⟩;refine kR ?_;intro _;refine bo (wg (y:=1) W qZ qZ true) ?_
 refine d8 (λst W=>∃i j:Nat,st=(gI j,gI i,())/\tf w0 sl l0 W l/\bsG (λc=> !ltAt (oM cf) l (f+m - 1 - c) c) i j=bsG (λc=> !ltAt (oM cf) l (f+m - 1 - c) c) L r0/\L<=i/\i<=j/\j<=r0)
  (λst _=>match st.2.1,st.1 with| .int _ i,.int _ j=>j.toNat - i.toNat|_,_=>0) ⟨L,r0,rfl,h,rfl,qZ,Q.1,qZ⟩ ?_
 rintro⟨_,_,_⟩ W ⟨i,j,⟨⟩,N,n,h1,R,Y⟩ O t;refine lV ?_;intro _;refine bo (rq W false) ?_;by_cases k:i<j
 ·rw[oB k];refine bo (qI W qZ false) ?_;obtain⟨x,P,y,T,V⟩:=zw k qZ W;refine bo P (bo T (bo V ?_));rw[bsG_go k]at n;obtain⟨o,J⟩:=di ((i+j) / 2);rw[<-J]at n|-;have hhb:=Q.2.2.2.2.1 o qZ qZ;refine cx (λW=>wg W qZ qZ false) ?_
  obtain⟨p,q,c1,c2,c3,c4,c5⟩:=tf.cmp (i:=f+m - 1 - o) (j:=o) (K:=λv2 w=>jC pQ (Op.unary .not v2) λS=>sx S (rv pQ (io .add 3 true (gI (o:Int)) (gI 1)) w λE H=>O (gI (j:Int),E,()) H) (O (gI (o:Int),gI (i:Int),()) w)) X N qZ qZ (by
   intro r z;refine sB ?_;cases u:ltAt (oM cf) l (f+m - 1 - o) o with
   |false=>
    rw[ay,ae (show(!false)=true from rfl)];rw[ae (by rw[u];rfl)]at n;refine bo (qI (y:=1) r qZ true) ?_;exact t _ _ ⟨o+1,j,rfl,z,n,qZ,qZ,Y⟩ (by grind)
   |true=>
    rw[ay,aa (by simp)];rw[aa (by rw[u];simp)]at n;exact t _ _ ⟨i,o,rfl,z,n,h1,qZ,qZ⟩ (by grind))
  exact cx c1 (cK c3 (cx c2 (cK c4 c5)))
 rw[ay,aa (by grind)];rw[bsG_end k,<-hst2]at n;rw[<-n]at v;simp only at v;have hib:=Q.2.2.2.2.2 i qZ qZ;refine bo (wg W qZ qZ false) ?_;obtain⟨C,hen⟩:=di (f+m - i);rw[<-hen]at v hib|-;obtain⟨Z,F⟩:=di (if i<m/\m<C then rot m l (m - i) (C - m)else l);rw[<-F]at v;refine cT.at (λ_ r=>tf w0 sl l0 r Z) ?_ ?_
 ·refine cT.at (λst r=>st=(.bool (decide (i<m/\m<C)),())/\r=W) ?_ ?_
  ·refine bo (rq W false) ?_;by_cases e:i<m
   ·rw[oB e];refine bo (rq W false) ?_;exact⟨by simp[e],rfl⟩
   ·rw[ay,aa (by grind)];exact⟨by simp[e],rfl⟩
  rintro _ r ⟨rfl,rfl⟩;refine kR ?_;intro _;by_cases e:i<m/\m<C
  ·rw[oB e];rw[ae e]at F;refine Tm N hn e.1 e.2 qZ λW'' G=>?_;rw[F];exact G
  ·rw[ay,aa (by grind)];rw[aa e]at F;rw[F];exact N
 rintro _ W hS1;refine kR ?_;intro _;obtain⟨l2,I⟩:=di (if h:a<i/\i<f then symM (oM cf) a i f Z else Z);rw[<-I]at v;refine cT.at (λ_ r=>tf w0 sl l0 r l2) ?_ ?_
 ·refine cT.at (λst r=>st=(.bool (decide (a<i/\i<f)),())/\r=W) ?_ ?_
  ·refine bo (rq W false) ?_;by_cases e:a<i
   ·rw[oB e];refine bo (rq W false) ?_;exact⟨by simp[e],rfl⟩
   ·rw[ay,aa (by grind)];exact⟨by simp[e],rfl⟩
  rintro _ r ⟨rfl,rfl⟩;refine kR ?_;intro _;by_cases e:a<i/\i<f
  ·rw[oB e];rw[pT e]at I;refine ih qZ hS1 e.1 e.2 qZ λW'' G=>?_;rw[I];exact G
  ·rw[ay,aa (by grind)];rw[dif_neg e]at I;rw[I];exact hS1
 rintro _ W hS2;refine kR ?_;intro _;refine cT.at (λst r=>st=(.bool (decide (f<C/\C<b)),())/\r=W) ?_ ?_
 ·refine bo (rq W false) ?_;by_cases e:f<C
  ·rw[oB e];refine bo (rq W false) ?_;exact⟨by simp[e],rfl⟩
  ·rw[ay,aa (by grind)];exact⟨by simp[e],rfl⟩
 rintro _ r ⟨rfl,rfl⟩;refine kR ?_;intro _;by_cases e:f<C/\C<b
 ·rw[oB e];rw[pT ⟨e.1,e.2,hmb1.1⟩]at v;exact ih qZ hS2 e.1 e.2 hb v
 ·rw[ay,aa (by grind)];rw[dif_neg (λh=>e ⟨h.1,h.2.1⟩)]at v;exact v _ hS2
end
section
variable{w0:Wt_}{sl fv:Vt_}{cf:Od->Od->Int}{l0:List Od}
def QY(v:Ub w0 sl fv cf l0)(w:l0.length<=100000){W:Wt_}{K:aZ}(h:tf w0 sl l0 W l0)
  (u:∀i,tf w0 sl l0 i (Srt.stable (oM cf) l0)->K (.tuple #[]) i):Ca pQ 361 #[sl,gI (l0.length:Int),fv] W K:=by
 obtain⟨n,t⟩:=di l0.length;have B:Srt.stable (oM cf) l0=mrg (oM cf) n 20 (blk (oM cf) n 0 20 l0):=by rw[t];rfl
 rw[B]at u;rw[<-t];refine cN Tryz.func361 ?_
 refine d8 (λst W=>∃(a b:Nat) (l:List Od),st=(gI a,gI b,())/\tf w0 sl l0 W l/\blk (oM cf) n a b l=blk (oM cf) n 0 20 l0/\a<=n/\b=a+20)
  (λst _=>match st.2.1 with| .int _ b=>n+20 - b.toNat|_=>0) ⟨0,20,l0,rfl,h,rfl,qZ,rfl⟩ ?_
 rintro⟨_,_,_⟩ W ⟨a,b,l,⟨⟩,k,H,q,N⟩ I j;refine lV ?_;intro _;refine bo (Ts W false) ?_;by_cases d:b<=n
 ·rw[oB d];refine KS v k w qZ qZ λi g=>?_;refine bo (qI (y:=20) i qZ true) ?_;refine j _ _ ⟨b,b+20,_,rfl,g,?_,d,rfl⟩ (by grind);rw[<-H]
  conv=>rhs;rw[blk]
  rw[ae d]
 rw[ay,aa (by grind)];refine KS v k w q qZ λW k=>?_
 have r:insSort (oM cf) a n l=blk (oM cf) n 0 20 l0:=by
  rw[<-H]
  conv=>rhs;rw[blk]
  rw[aa d]
 rw[r]at k;clear H r j I;obtain⟨F,E⟩:=di (blk (oM cf) n 0 20 l0);rw[<-E]at k u
 refine d8 (λst W=>∃(c:Nat) (x y:Vt_) (l:List Od),st=(gI c,x,y,())/\tf w0 sl l0 W l/\mrg (oM cf) n c l=mrg (oM cf) n 20 F/\0<c/\c<=2*n+20)
  (λst _=>match st.1 with| .int _ b=>2*n+40 - b.toNat|_=>0) ⟨20,_,_,F,rfl,k,rfl,qZ,qZ⟩ ?_
 rintro⟨_,_,_,_⟩ W ⟨c,x,y,l,⟨⟩,k,J,p,L⟩ I j;refine lV ?_;intro _;refine bo (rq W false) ?_;by_cases m:c<n
 ·rw[oB m]
  have s:mrg (oM cf) n (c*2) (mrgPass (oM cf) c n 0 (2*c) l)=mrg (oM cf) n 20 F:=by
   rw[<-J]
   conv=>rhs;rw[mrg]
   rw[ae ⟨m,p⟩]
  refine bo (KU W qZ) ?_
  refine d8 (λst W=>∃(a b:Nat) (o:List Od),st=(gI a,gI b,())/\tf w0 sl l0 W o/\mrgPass (oM cf) c n a b o=mrgPass (oM cf) c n 0 (2*c) l/\b=a+2*c/\a<=n)
   (λst _=>match st.2.1 with| .int _ b=>n+1+2*c - b.toNat|_=>0) ⟨0,2*c,l,rfl,k,rfl,qZ,qZ⟩ ?_
  rintro⟨_,_,_⟩ W ⟨a,b,o,⟨⟩,g,M,O,q⟩ P A;refine lV ?_;intro _;refine bo (Ts W false) ?_;by_cases d:b<=n
  ·rw[oB d];refine bo (qI W qZ false) ?_;refine L8 v w (b - a) (aD _) g qZ qZ qZ λi f=>?_;refine bo (KU i qZ) ?_;refine bo (qI i qZ false) ?_;refine A _ _ ⟨b,b+2*c,_,rfl,f,?_,rfl,d⟩ (by grind);rw[<-M]
   conv=>rhs;rw[mrgPass]
   rw[ae ⟨d,p⟩]
  ·rw[ay,aa (by grind)];obtain⟨G,e⟩:=di (if a+c<n then symM (oM cf) a (a+c) n o else o);have C:mrgPass (oM cf) c n a b o=G:=by rw[mrgPass,aa (λh=>d h.1),e]
   rw[<-M,C]at s;refine cT.at (λ_ i=>tf w0 sl l0 i G) ?_ ?_
   ·refine bo (qI W qZ false) (bo (rq W false) ?_);by_cases z:a+c<n
    ·rw[oB z];rw[ae z]at e;refine L8 v w (n - a) (aD _) g qZ z qZ λi f=>?_;rw[e];exact f
    ·rw[ay,aa (by grind)];rw[aa z]at e;rw[e];exact g
   rintro _ W D;refine kR ?_;intro _;refine bo (Qu W qZ) ?_;exact j _ _ ⟨c*2,_,_,G,rfl,D,s,qZ,qZ⟩ (by grind)
 ·rw[ay,aa (by grind)];have:mrg (oM cf) n c l=l:=by rw[mrg,aa (λh=>m h.1)]
  rw[<-J,this]at u;exact u _ k
end
def R1{w:Wt_}{fv:Vt_}{cf:Od->Od->Int}{K:aZ}(h:qT w sl l)(i:l.length<=100000)(f:Ub w sl fv cf l)
  (e:∀b,qT b sl (Srt.stable (oM cf) l)->aR (aF sl) w b->K (.tuple #[]) b):Ca pQ 316 #[sl,fv] w K:=by
 refine cN Tryz.func316 ?_;obtain⟨a,c,g,-⟩:=h.isSl;refine iI (gI (l.length:Int)) w (by rw[g];simp[go_sem]) ?_;refine QY f i ⟨h,cS _,aR.refl _ _⟩ λj d=>?_;exact e _ d.own d.md
end Go.Proofs
namespace Go.Proofs
open Go Go.Vc Go.Srt
attribute [local congr] bj
variable {l:List Int}{s:Nat}{w:Wt_}{K:aZ}
def PT:Tryz.prog.cellsOf 2=0+1:=cV
def aa5:Tryz.prog.cellsOf 37=0+1:=cV
abbrev ub(w:Wt_)(sl:Vt_)(l:List Int):Prop:=ic w 2 1 sl l.length (l.flatMap t8)
abbrev Bj(w:Wt_)(sl:Vt_)(l:List Int):Prop:=ic w 37 1 sl l.length (l.flatMap vZ)
def KC(l:List Int):l.flatMap vZ=l.map λx=>gQ x:=by
 induction l with
 |nil=>rfl
 |cons x l a=>rw[bm,a];rfl
def ub.el{sl:Vt_}(h:ub w sl l){i:Nat}(hi:i<l.length):
  ∃p,(∀(k:IntKind) W,(iX 297 sl (.int k (i:Int))).run pQ W=.ok p W)/\∀(W:Wt_) (c:List Int),ub W sl c->∀d:i<c.length,
   (iL 2 p).run pQ W=.ok (gI c[i]) W/\∀x:Int,∃j,(iS 2 p (gI x)).run pQ W=.ok () j/\ub j sl (c.set i x)/\aR (aF sl) W j:=by
 obtain⟨b,e,rest,rfl,z,v,y⟩:=h.pos qZ;refine⟨.pointer (some ⟨b,i,none⟩),λk W=>by simp[go_sem,hi,bK,xQ,Program.elem,Go.Vc.lI PT],λW c s d=>?_⟩;obtain⟨r,g,a,u,t,f,q,m⟩:=s.pos qZ;obtain⟨rfl,o,rfl⟩:b=r/\l.length=c.length/\e=g:=by simpa using u
 have n:(c.flatMap t8++a)[i]? =some (gI c[i]):=by
  rw[CH,cg (by simpa using d),cz,av d];rfl
 refine⟨by simp[go_sem,bT f,n],λx=>⟨W.setCell ⟨b,i,none⟩ (gI x),by simp[go_sem,bT f,n],⟨by rw[uB oY,bN],.inr ⟨b,e,a,by grind,by grind,?_,by grind,m⟩⟩,(aR.refl _ W).setCell (.inl (show aF (.slice (some ⟨b,0,none⟩) l.length e) b from rfl)) _ _⟩⟩;rw[kE,ae rfl,f,jJ,ek,dX _ _ (by rw[uB oY];omega),CH,CH,gF]
def IA(x:Int):(vZ x).length=1:=rfl
def Bj.el{sl:Vt_}(h:Bj w sl l){i:Nat}(hi:i<l.length):
  ∃p,(∀(k:IntKind) W,(iX 39 sl (.int k (i:Int))).run pQ W=.ok p W)/\∀(W:Wt_) (c:List Int),Bj W sl c->∀d:i<c.length,
   (iL 37 p).run pQ W=.ok (gQ c[i]) W/\∀x:Int,∃j,(iS 37 p (gQ x)).run pQ W=.ok () j/\Bj j sl (c.set i x)/\aR (aF sl) W j:=by
 obtain⟨b,e,rest,rfl,z,v,y⟩:=h.pos qZ;refine⟨.pointer (some ⟨b,i,none⟩),λk W=>by simp[go_sem,hi,bK,yf,Program.elem,Go.Vc.lI aa5],λW c s d=>?_⟩;obtain⟨r,g,a,u,t,f,q,m⟩:=s.pos qZ;obtain⟨rfl,o,rfl⟩:b=r/\l.length=c.length/\e=g:=by simpa using u
 have n:(c.flatMap vZ++a)[i]? =some (gQ c[i]):=by
  rw[KC,cg (by simpa using d),cz,av d];rfl
 refine⟨by simp[go_sem,bT f,n],λx=>⟨W.setCell ⟨b,i,none⟩ (gQ x),by simp[go_sem,bT f,n],⟨by rw[uB IA,bN],.inr ⟨b,e,a,by grind,by grind,?_,by grind,m⟩⟩,(aR.refl _ W).setCell (.inl (show aF (.slice (some ⟨b,0,none⟩) l.length e) b from rfl)) _ _⟩⟩;rw[kE,ae rfl,f,jJ,ek,dX _ _ (by rw[uB IA];omega),KC,KC,gF]
def mkZ{t e:TypeId}{by_:Nat}{z:Vt_}{n:Nat}(h:Tryz.prog.underlying t=some (.slice e))(l:fY pQ e 1 by_=true)(k:(Tryz.prog.info? e).bind (·.zero)=some z)(g:z.cells= #[z])(j:z.oneCell' =true)(f:by_<=1000)(m:n<=1000000)
  (i:∀a c,ic c e 1 a n (List.replicate n z)->M0 w c->(∀b,aF a b->w.heap.size<=b)->K a c):rx pQ (Ec t (gI (n:Int)) (gI (n:Int))) w K:=by
 have d:(by_:Int)*(n:Int)<=281474976710656:=by
  have:by_*n<=1000*1000000:=fT f m;omega
 apply Lm (z:=z) h (dB l) qZ qZ d k;rw[show(n:Int).toNat=n from rfl]
 have o:madeCells z.cells (n*1)=(List.replicate n z).toArray:=by
  apply kM;rw[g,toList_madeCells_one,pl]
 rw[o];refine i _ _ ⟨by simp,.inr ⟨w.heap.size,n,[],rfl,aD _,by rw[er,ae rfl,aN],by simp,rfl⟩⟩ mG λb d=>?_;have:b=w.heap.size:=by cases d;rfl
 omega
def YT(n:Nat):(List.replicate n (gI 0):LV_)=(List.replicate n (0:Int)).flatMap t8:=by rw[CH,List.map_replicate]
def ak5(n:Nat):(List.replicate n (gQ 0):LV_)=(List.replicate n (0:Int)).flatMap vZ:=by rw[KC,List.map_replicate]
def NL{x:Int}(a:K (.bool (decide (x<0))) w):Ca pQ 354 #[.int .i64 x] w K:=by
 refine cN Tryz.func354 ?_;exact Ka (.bool (decide (x<0))) a
def MJ{s:Vt_}(h:Rd w 1 s l.length (l.flatMap t8))(H:l.length<=1000000)(g:K (.bool (l.any λx=>decide (x<0))) w):
  Ca pQ 353 #[s,.func (.func 354) #[] #[]] w K:=by
 refine cN Tryz.func353 ?_
 have m:Ca pQ 376 #[s,.func (.func 354) #[] #[]] w λv q=>rv pQ (io .geq 3 true v (gI 0)) q λy r=>K y r:=by
  refine cN Tryz.func376 ?_;obtain⟨a,c,z⟩:=h.isSl;apply iI (gI (l.length:Int)) w (by rw[z];simp[go_sem])
  refine d8 (λst W=>∃(i:Nat) (x:Vt_),i<=l.length/\st=(x,gI i,())/\W=w/\∀j:Nat,∀k:j<l.length,j<i->¬l[j]<0)
   (λst _=>match st.2.1 with| .int _ i=>l.length - i.toNat|_=>0) ⟨0,gI 0,qZ,rfl,rfl,λj _ h=>qZ⟩ ?_
  rintro⟨_,_⟩ W ⟨i,x,G,⟨⟩,rfl,n⟩ D o;refine lV ?_;intro _;by_cases e:i<l.length
  ·have f:(i:Int)<(l.length:Int):=qZ;refine dY f ?_;obtain⟨b,u,A,C,F,E,hC,p⟩:=Kb oY h rfl xQ PT e rfl;apply bo (A .i64);refine nS hC p ?_;simp only[eX];apply NL;by_cases d:l[i]<0
   ·rw[oB d];have:(l.any λx=>decide (x<0))=true:=im.2 ⟨_,aq e,by simpa using d⟩;rw[this]at g;exact Ka (.bool true) g
   ·rw[JP d];apply ao (gI ((i+1:Nat):Int)) W (by simp[go_sem];rw[mR]);refine o _ _ ⟨i+1,_,qZ,rfl,rfl,λj k t=>?_⟩ (by grind);by_cases B:j=i
    ·subst B;exact d
    ·grind
  ·obtain rfl:i=l.length:=qZ;refine eU ?_
   have:(l.any λx=>decide (x<0))=false:=by
    rw[List.any_eq_false];intro x d;obtain⟨j,k,rfl⟩:=bQ d;simpa using n j k k
   rw[this]at g;exact Ka (.bool false) g
 exact m
def pK(t s:Nat)(ws:List Nat):List Nat:=ws.map λx=>t*x / s
def rk(t s:Nat)(ws:List Nat):List Nat:=ws.map λx=>t*x%s
def Lc(t s:Nat)(ws:List Nat):s*(pK t s ws).sum+(rk t s ws).sum=t*ws.sum:=by
 induction ws with
 |nil=>simp[pK,rk]
 |cons x ws a=>
  unfold pK rk at*;simp only[aI,bH];have:=lO (t*x) s;rw[mJ,mJ];omega
def Tp(hs:0<s)(t:Nat)(ws:List Nat):(rk t s ws).sum<=ws.length*s:=by
 induction ws with
 |nil=>simp[rk]
 |cons x ws a=>
  unfold rk at*;simp only[aI,bH,be];have:=gx (t*x) hs;rw[ot];omega
def FC(hs:0<s)(t:Nat){ws:List Nat}(h:ws.sum<=s):(pK t s ws).sum<=t:=by
 have h1:=Lc t s ws;have b:t*ws.sum<=t*s:=lL t h;have a:s*(pK t s ws).sum<=s*t:=by grind
 exact Nat.le_of_mul_le_mul_left a hs
def Ir(hs:0<s)(t:Nat){ws:List Nat}(h:ws.sum=s):t - (pK t s ws).sum<=ws.length:=by
 have h1:=Lc t s ws;have b:=Tp hs t ws;rw[h,eA t s]at h1
 have a:s*(t - (pK t s ws).sum)<=s*ws.length:=by
  rw[Nat.mul_sub,eA s ws.length];omega
 exact Nat.le_of_mul_le_mul_left a hs
def yO(r:List Nat)(i k:Int):Int:=if r.getD k.toNat 0<r.getD i.toNat 0 then -1 else if r.getD i.toNat 0<r.getD k.toNat 0 then 1 else 0
def vH(r:List Nat):List Int:=Srt.stable (pX (yO r)) ((List.range r.length).map λi:Nat=>(i:Int))
def qV:List Int->List Int->List Int
 | [],p=>p
 |i::ix,p=>qV ix (p.set i.toNat (p.getD i.toNat 0+1))
def tG(t:Nat)(ws:List Nat):List Int:=
 qV ((vH (rk t ws.sum ws)).take (t - (pK t ws.sum ws).sum)) ((pK t ws.sum ws).map λx:Nat=>(x:Int))
def fJ(t:Int)(l:List Int):List Int×Int:=
 if 1000<l.length then([],3)
 else if t<0\/(l.any λx=>decide (x<0))=true then([],2)
 else if¬ed l.sum then([],6)
 else if t=0 then(List.replicate l.length 0,0)
 else if l.sum=0 then([],10)
 else(tG t.toNat (l.map Int.toNat),0)
def Ol{n:Nat}{T:TypeId}{rs:Vt_}{r:List Nat}{i k:Nat}(j:hC w n #[rs] T)(g:Bj w rs (r.map λx:Nat=>(x:Int)))(hi:i<r.length)(o:k<r.length)
  (e:∀s,M0 w s->K (gI (yO r (i:Int) (k:Int))) s):Ca pQ 358 #[.int .i64 (i:Int),gI (k:Int),.pointer (some ⟨n,0,none⟩)] w K:=by
 refine cN Tryz.func358 ?_;obtain⟨a,c,y,-⟩:=g.isSl;obtain⟨p,u,v⟩:=g.el (i:=i) (by simpa using hi);obtain⟨q,t,z⟩:=g.el (i:=k) (by simpa using o);have d:∀W,M0 w W->(iL 39 (bO n 0)).run pQ W=.ok rs W:=λW m=>by have:=m.hpk j id;rw[y]at this|-;simp[go_sem,this]
 have h:∀W,M0 w W->(iL 37 p).run pQ W=.ok (gQ ((r[i]:Nat):Int)) W:=λW m=>by
  have:=(v W _ (g.mod m d9) (by simpa using hi)).1;simpa using this
 have f:∀W,M0 w W->(iL 37 q).run pQ W=.ok (gQ ((r[k]:Nat):Int)) W:=λW m=>by
  have:=(z W _ (g.mod m d9) (by simpa using o)).1;simpa using this
 have md:M0 w w.drew:=vz;have b:M0 w w.drew.drew:=md.drew
 have A:yO r (i:Int) (k:Int)=if r[k]<r[i]then -1 else if r[i]<r[k]then 1 else 0:=by
  unfold yO;rw[gV,gV,jg,jg,av hi,av o,dC,dC]
 rw[A]at e;refine cK (d _ md) (cx (λW=>u .i64 W) (cK (h _ md) (cK (d _ md) (cx (λW=>t .i64 W) (cK (f _ md) ?_)))));refine sB ?_;by_cases h1:r[k]<r[i]
 ·rw[oB h1];rw[ae h1]at e;exact e _ md
 ·rw[ay,aa (by grind)];rw[aa h1]at e;refine cK (d _ b) (cx (λW=>u .i64 W) (cK (h _ b) (cK (d _ b) (cx (λW=>t .i64 W) (cK (f _ b) ?_)))));refine sB ?_;by_cases l:r[i]<r[k]
  ·rw[oB l];rw[ae l]at e;exact e _ b
  ·rw[ay,aa (by grind)];rw[aa l]at e;exact e _ b
end Go.Proofs
namespace Go.Proofs
open Go Go.Vc Go.Srt
attribute [local congr] bj
def AG{α:Type}{A:List α}{z:α}{n i:Nat}(b:A.length=n)(hi:i<n):(A.take i++List.replicate (n - i) z).set i (A[i]'qZ)=A.take (i+1)++List.replicate (n - (i+1)) z:=by
 have h1:(A.take i).length=i:=by grind
 obtain⟨k,a⟩:∃k,n - i=k+1:=⟨n - i - 1,qZ⟩
 rw[cI _ _ qZ,h1,ou,a,List.replicate_succ,List.set_cons_zero,show n - (i+1)=k by omega];have e:=bR (l:=A) (i:=i) qZ;rw[e,ar];rfl
def AP:∀{p:List Int} {k:Nat} (b:k<p.length) (x:Int),(p.set k x).sum=p.sum - p[k]+x
 |a::p,0,_,x=>by simp;omega
 |a::p,k+1,b,x=>by
  have:=AP (p:=p) (k:=k) (by simpa using b) x;simp only[List.set_cons_succ,bH,iB];omega
def Yt{p:List Int}(h:∀x∈p,0<=x):0<=p.sum:=by
 induction p with
 |nil=>simp
 |cons a p b=>
  have h1:=b λx c=>h x (by simp[c]);have d:=h a (by simp);rw[bH];omega
def EH:∀{p:List Int},(∀x∈p,0<=x)->∀x∈p,x<=p.sum
 |a::p,h,x,b=>by
  have e:=h a (by simp);have c:∀y∈p,0<=y:=λy d=>h y (by simp[d]);have f:0<=p.sum:=Yt c;rw[bH];rcases ax.1 b with rfl|b
  ·omega
  ·have:=EH c x b;omega
def KV:∀{p:List Nat} {x:Nat},x∈p->x<=p.sum
 |a::p,x,b=>by
  rw[bH];rcases ax.1 b with rfl|b
  ·omega
  ·have:=KV b;omega
def tN:∀(ws:List Nat),(ws.map λx:Nat=>(x:Int)).sum=(ws.sum:Int)
 | []=>rfl
 |x::ws=>by rw[aI,bH,bH,tN ws,jM]
def Hl{w:Wt_}{K:aZ}{s:Vt_}{l:List Int}{t:Int}(h:Rd w 1 s l.length (l.flatMap t8))(hl:∀x∈l,ed x)(ht:ed t)(hn:l.length<=100000)
  (hK:∀s' w',ub w' s' (fJ t l).1->M0 w w' ->(∀b,aF s' b->w.heap.size<=b)->K (.tuple #[s',gI (fJ t l).2]) w'):Ca pQ 306 #[.int .i64 t,s] w K:=by
 refine cN Tryz.func306 ?_;obtain⟨a,c,hs⟩:=h.isSl;have A:∀{W:Wt_},(builtin .len #[297] 3 #[false] #[s]).run pQ W=.ok (.value (gI (l.length:Int))) W:=λ{W}=>by rw[hs];simp[go_sem]
 have bad:∀e,fJ t l=([],e)->K (.tuple #[.slice none 0 0,gI e]) w:=λe he=>by
  have hk:=hK (.slice none 0 0) w (by rw[he];exact ic.nil _ _ _) rZ λb d=>by cases d
  rw[he]at hk;exact hk
 apply uz A;by_cases o:1000<l.length
 ·have B:(1000:Int)<(l.length:Int):=qZ;refine dY B ?_;exact bad 3 (by unfold fJ;rw[ae o])
 have B:¬(1000:Int)<(l.length:Int):=qZ;refine fF B ?_;refine cT.at (λst W=>st=(.bool (decide (t<0\/(l.any λx=>decide (x<0))=true)),())/\W=w) ?_ ?_
 ·by_cases v:t<0
  ·refine dY v ?_;exact⟨by simp[v],rfl⟩
  ·refine fF v ?_;apply MJ h qZ;refine⟨?_,rfl⟩
   have e:decide (t<0\/(l.any λx=>decide (x<0))=true)=l.any λx=>decide (x<0):=by
    rw[dh,decide_eq_true_iff];exact⟨λh=>h.resolve_left v,.inr⟩
   rw[e]
 rintro _ W ⟨rfl,rfl⟩;refine kR ?_;intro _;by_cases j:t<0\/(l.any λx=>decide (x<0))=true
 ·rw[oB j];exact bad 2 (by unfold fJ;rw[aa o,ae j])
 rw[JP j];apply Eh h qZ hl;by_cases hR:ed l.sum
 case neg=>
  have hs6:tC l=(0,6):=by unfold tC;rw[aa hR]
  rw[hs6];refine dI ?_;refine dI ?_;refine lh ?_;exact bad 6 (by unfold fJ;rw[aa o,aa j,ae hR])
 have hs0:tC l=(l.sum,0):=by unfold tC;rw[ae hR]
 rw[hs0];refine dI ?_;refine dI ?_;refine eU ?_;apply uz A;refine mkZ xQ VN (z:=gI 0) cV rfl rfl qZ qZ λE w1 o1 m1 n1=>?_;rw[YT]at o1
 have o1:ub w1 E (List.replicate l.length 0):=by
  unfold ub;rw[dx];exact o1
 by_cases v:t=0
 ·refine dY v ?_;have e:fJ t l=(List.replicate l.length 0,0):=by unfold fJ;rw[aa o,aa j,aa (by simpa using hR),ae v]
  rw[e]at hK;exact hK E w1 o1 m1 n1
 refine fF v ?_;by_cases L:l.sum=0
 ·refine dY L ?_;have e:fJ t l=([],10):=by unfold fJ;rw[aa o,aa j,aa (by simpa using hR),aa v,ae L]
  rw[e]at hK;exact hK (.slice none 0 0) w1 (ic.nil _ _ _) m1 λb d=>by cases d
 refine fF L ?_;have e:fJ t l=(tG t.toNat (l.map Int.toNat),0):=by unfold fJ;rw[aa o,aa j,aa (by simpa using hR),aa v,aa L]
 rw[e]at hK
 have hnn:∀x∈l,0<=x:=λx D=>by
  apply aQ;intro hc;exact j (.inr (im.2 ⟨x,D,by simp;omega⟩))
 obtain⟨f,hws⟩:=di (l.map Int.toNat)
 have hlw:l=f.map λx:Nat=>(x:Int):=by
  rw[hws,dQ]
  conv=>lhs;rw[<-kX l]
  exact eh λx D=>by show x=((x.toNat:Nat):Int);have:=hnn x D;omega
 obtain⟨T,hT⟩:=di (t.toNat:Nat)
 have htT:t=(T:Int):=by
  have:¬t<0:=λh=>j (.inl h);omega
 have hsw:l.sum=(f.sum:Int):=by rw[hlw,tN]
 obtain⟨S,hS⟩:=di f.sum;obtain⟨n,hnd⟩:=di l.length;have hwl:f.length=n:=by rw[hws,ah,hnd]
 rw[<-hws,<-hT]at hK;rw[<-hnd]at A o1;have Z:0<S:=qZ
 have hn0:0<n:=by
  apply aQ;intro hc;have:f=[]:=kG qZ;rw[this]at hS;simp at hS;omega
 clear j bad;apply uz A;refine mkZ yf Oa (z:=gQ 0) cV rfl rfl qZ qZ λrs w2 o2 m2 n2=>?_;rw[ak5]at o2;have o2:Bj w2 rs (List.replicate n 0):=by unfold Bj;rw[dx];exact o2
 obtain⟨ra,rc,hrs,-⟩:=o2.isSl;obtain⟨M,hvp⟩:=di w2.heap.size;have m3:M0 w2 (w2.alloc (.cells #[.slice none 0 0] 39)):=mG;have b3:hC (w2.alloc (.cells #[.slice none 0 0] 39)) M #[.slice none 0 0] 39:=by rw[hvp];simp[go_sem]
 apply ao (bO M 0) (w2.alloc (.cells #[.slice none 0 0] 39)) (by rw[hvp];simp[go_sem]);generalize w2.alloc (.cells #[.slice none 0 0] 39)=w3 at m3 b3|-;apply nE (w3.setCell ⟨M,0,none⟩ rs) (by rw[hrs];simp[go_sem,b3]);have m4:aR (λx=>x=M) w3 (w3.setCell ⟨M,0,none⟩ rs):=(aR.refl (λx=>x=M) w3).sc;have b4:hC (w3.setCell ⟨M,0,none⟩ rs) M #[rs] 39:=by simp[go_sem,b3]
 generalize w3.setCell ⟨M,0,none⟩ rs=w4 at m4 b4|-;have M24:M0 w2 w4:=m3.on m4 λx D=>gr;rw[htT];apply ao (gQ (T:Int)) w4 (by simp[go_sem];rw[RE]);apply uz A;refine mkZ LU YU (z:=gI 0) cV rfl rfl qZ qZ λos w5 o5 m5 n5=>?_;rw[YT]at o5;have o5:GS w5 os (List.replicate n 0):=by unfold GS;rw[dx];exact o5
 apply uz A;have J:∀b,aF E b->b<w1.heap.size:=λb d=>o1.lt d;have I:∀b,aF rs b->w1.heap.size<=b/\b<M:=λb d=>⟨n2 b d,by rw[hvp];exact o2.lt d⟩
 have hz4:=aB b4;have u:∀b,aF os b->M<b:=λb d=>by have:=n5 b d;omega
 have hs1:=m1.size;have hs2:=m2.size;have hq:=FC Z T (ws:=f) qZ;have ql:(pK T S f).length=n:=by unfold pK;rw[ah,hwl]
 have rl:(rk T S f).length=n:=by unfold rk;rw[ah,hwl]
 have M15:M0 W w5:=((m1.trans m2).trans M24).trans m5;let m:Nat->Int:=λx=>(x:Int)
 refine d8 (λst R=>∃(i left:Nat),st=(gQ (left:Int),gI i,())/\i<=n/\left+(pK T S (f.take i)).sum=T/\ub R E (((pK T S f).map m).take i++List.replicate (n - i) 0)/\Bj R rs (((rk T S f).map m).take i++List.replicate (n - i) 0)/\
   GS R os (((List.range n).map m).take i++List.replicate (n - i) 0)/\hC R M #[rs] 39/\M0 W R)
  (λst _=>match st.2.1 with| .int _ i=>n - i.toNat|_=>0) ⟨0,T,rfl,qZ,by simp[pK],?_,?_,?_,m5.hpk b4 id,M15⟩ ?_
 ·rw[cU,dL,kq];exact o1.mod ((m2.trans M24).trans m5) d9
 ·rw[cU,dL,kq];exact o2.mod (M24.trans m5) d9
 ·rw[cU,dL,kq];exact o5
 rintro⟨_,_,_⟩ W6 ⟨i,left,⟨⟩,hi,hleft,j1,j2,j3,j4,j5⟩ KN hKN;refine lV ?_;intro _;have hcl:((pK T S f).map m).length=n:=by rw[ah,ql]
 have hcl2:((rk T S f).map m).length=n:=by rw[ah,rl]
 have hcl3:((List.range n).map m).length=n:=by rw[ah,List.length_range]
 by_cases G:i<n
 ·have hlt' :(i:Int)<(n:Int):=qZ;have hil:i<l.length:=qZ;have hiw:i<f.length:=qZ;rw[<-hnd]at h;refine dY G ?_;obtain⟨b,off,e1,C,e',fz,hC,hCx⟩:=Kb oY (h.mod j5 d9) hnd xQ PT hil rfl;apply bo (e1 .i64);have hli:l[i]=((f[i]:Nat):Int):=by simp only[hlw,cG]
  obtain⟨x,D⟩:=di (f[i]);rw[<-D]at hli;have hxS:x<=S:=by rw[D,hS];exact KV (aq hiw)
  apply ao (gI (x:Int)) W6 (by rw[hli]at hCx;simp[go_sem,hC,hCx]);apply ao (gQ (T:Int)) W6 (by simp[go_sem];rw[RE]);apply ao (gQ (x:Int)) W6 (by simp[go_sem];rw[RE]);apply Py qZ qZ;refine dI ?_;refine dI ?_;rw[hsw,<-hS];apply ao (gQ (S:Int)) W6 (by simp[go_sem];rw[RE])
  have hp1:T*x<S*18446744073709551616:=by
   have h1:T*x<=T*S:=lL T hxS;have h2:T*S<18446744073709551616*S:=Nat.mul_lt_mul_of_pos_right qZ Z;rw[eA S];omega
  refine Qg ((gw (show 0<18446744073709551616 by omega)).2 hp1) qZ (gx _ qZ) λQ m7=>?_;rw[nN (T*x) 18446744073709551616];obtain⟨q,Y⟩:=di (T*x / S);obtain⟨r,hrd⟩:=di (T*x%S);rw[<-Y,<-hrd]
  have hqT:q<=T:=by
   rw[Y];have:T*x<=S*T:=by rw[eA S];exact lL T hxS
   exact Nat.div_le_of_le_mul this
  refine dI ?_;refine dI ?_;have md:M0 W6 Q.drew:=m7.drew;have k1:ub Q.drew E _:=j1.mod md d9;have k2:Bj Q.drew rs _:=j2.mod md d9;have k3:GS Q.drew os _:=j3.mod md d9;have k4:=md.hpk j4 id;have k5:=j5.trans md
  dsimp only
  generalize Q.drew=W8 at md k1 k2 k3 k4 k5|-;apply lN rs (by rw[hrs]at k4|-;simp[go_sem,k4]);apply lN (gI (q:Int)) (by simp[go_sem];rw[mR]);obtain⟨p1,f1,g1⟩:=k1.el (i:=i) (by rw[af,az,dx];omega);obtain⟨p2,f2,g2⟩:=k2.el (i:=i) (by rw[af,az,dx];omega);obtain⟨p3,f3,g3⟩:=k3.el (i:=i) (by rw[af,az,dx];omega);apply cx (λW=>f1 .i64 W);obtain⟨W9,s1,q1,H⟩:=(g1 _ _ k1 (by rw[af,az,dx];omega)).2 (q:Int);apply iE s1;have c4:=H.hpk k4 λd=>by have:=J _ d;omega
  refine⟨by rw[hrs]at c4|-;simp[go_sem,c4],?_⟩;apply cx (λW=>f2 .i64 W);have c2:Bj W9 rs _:=k2.mod H λb d g=>by have:=J _ g;have:=I _ d;omega
  obtain⟨W10,s2,q2,V⟩:=(g2 _ _ c2 (by rw[af,az,dx];omega)).2 (r:Int);apply iE s2;apply cx (λW=>f3 W);have c3:GS W10 os _:=(k3.mod H λb d g=>by have:=J _ g;have:=u _ d;omega).mod V λb d g=>by have:=I _ g;have:=u _ d;omega
  obtain⟨W11,s3,q3,X⟩:=(g3 _ _ c3 (by rw[af,az,dx];omega)).2 (i:Int);apply iE s3
  have hqs:(pK T S (f.take (i+1))).sum=(pK T S (f.take i)).sum+q:=by
   rw[bR hiw];unfold pK;rw[aM,fU,Y,D];simp
  have hqs2:(pK T S (f.take (i+1))).sum<=T:=FC Z T (by
   rw[hS]
   conv=>rhs;rw[<-cJ (i+1) f]
   rw[fU];omega)
  apply ao (gQ ((left - q:Nat):Int)) W11 (by simp[go_sem];rw[RE];omega);apply ao (gI ((i+1:Nat):Int)) W11 (by simp[go_sem];rw[mR]);refine hKN _ _ ⟨i+1,left - q,rfl,qZ,qZ,?_,?_,?_,?_,?_⟩ (by show n - (((i+1:Nat):Int)).toNat<n - ((i:Int)).toNat;omega)
  ·have e1:((pK T S f).map m)[i]'qZ=(q:Int):=by
    rw[cG];show((_:Nat):Int)=_;unfold pK;rw[cG,Y,D]
   rw[<-AG hcl G,e1];exact(q1.mod V λb d g=>by have:=J _ d;have:=I _ g;omega).mod X λb d g=>by have:=J _ d;have:=u _ g;have:=hz4;omega
  ·have e1:((rk T S f).map m)[i]'qZ=(r:Int):=by
    rw[cG];show((_:Nat):Int)=_;unfold rk;rw[cG,hrd,D]
   rw[<-AG hcl2 G,e1];exact q2.mod X λb d g=>by have:=I _ d;have:=u _ g;omega
  ·have e1:((List.range n).map m)[i]'qZ=(i:Int):=by
    rw[cG];show((_:Nat):Int)=_;rw[List.getElem_range]
   rw[<-AG hcl3 G,e1];exact q3
  ·exact X.hpk (V.hpk c4 λd=>by have:=I _ d;omega) λd=>by have:=u _ d;omega
  ·refine((k5.on H λb d=>.inr (n1 b d)).on V λb d=>.inr ?_).on X λb d=>.inr ?_
   ·have:=I b d;omega
   ·have:=u b d;omega
 have hin:i=n:=qZ;subst hin;have hlt' :¬(i:Int)<(i:Int):=qZ;refine fF hlt' ?_;rw[aC qZ,ou,List.replicate_zero,aN]at j1 j2 j3;rw[aC qZ]at hleft;have N:((List.range i).map m).length=i:=hcl3;refine QV (cf:=yO (rk T S f)) j3 (by rw[N];omega) ⟨_,_,rfl,λx D y hy R mW K' hK' =>?_⟩ λQ o7 m7=>?_
 ·obtain⟨xi,hxi,rfl⟩:=aL.1 D;obtain⟨yi,hyi,rfl⟩:=aL.1 hy;exact Ol (mW.hpk j4 λd=>by have:=u _ d;omega) (j2.mod mW λb d g=>by have:=I _ d;have:=u _ g;omega) (by rw[rl];exact eZ.1 hxi) (by rw[rl];exact eZ.1 hyi) hK'
 have hord:vH (rk T S f)=Srt.stable (pX (yO (rk T S f))) ((List.range i).map m):=by unfold vH;rw[rl]
 rw[<-hord]at o7;have hop:(vH (rk T S f)).Perm ((List.range i).map m):=by rw[hord];exact stable_perm _ _
 have U:(vH (rk T S f)).length=i:=by rw[hop.length_eq,N]
 obtain⟨O,hO⟩:=di (vH (rk T S f));rw[<-hO]at o7 hop U;have hll:=Ir Z T (ws:=f) hS.symm;have hleft2:left=T - (pK T S f).sum:=qZ;rw[hwl]at hll;obtain⟨ob,F,orest,rfl,oc,oh,orl,or1⟩:=o7.pos qZ;have hk1:ub Q E ((pK T S f).map m):=j1.mod m7 λb d g=>by have:=J _ d;have:=u _ g;omega
 have M7:M0 W Q:=j5.on m7 λb d=>.inr (by have:=u _ d;omega);apply bo (IN LU ac4 (show left<=F by omega) qZ Q)
 have hov:GS Q (.slice (some ⟨ob,0,none⟩) left F) (O.take left):=by
  have G:(O.take left).length=left:=by rw[az,U];omega
  refine⟨by rw[uB oY],.inr ⟨ob,F,(O.drop left).flatMap t8++orest,by rw[G],by rw[G];omega,?_,?_,?_⟩⟩
  ·rw[oh,<-ar,<-cE,cJ]
  ·rw[af,uB oY,bC,orl,G,U];omega
  ·rw[eB,MS vA,or1];rfl
 have hob:aF (.slice (some ⟨ob,0,none⟩) O.length F) ob:=rfl;have hobv:=u ob hob;obtain⟨v83,P⟩:=di (.slice (some ⟨ob,0,none⟩) left F:Vt_);rw[<-P]at hov|-;have hOt:(O.take left).length=left:=by rw[az,U];omega
 have hvb:∀b,aF v83 b->M<b:=λb d=>by rw[P]at d;have:b=ob:=(by cases d;rfl);omega
 apply iI (gI (left:Int)) Q (by rw[P];simp[go_sem])
 refine d8 (λst R=>∃(k:Nat) (p:List Int),st=(gI k,())/\k<=left/\ub R E p/\qV ((O.take left).drop k) p=tG T f/\p.length=i/\(∀x∈p,0<=x)/\p.sum+left=T+k/\GS R v83 (O.take left)/\M0 W R)
  (λst _=>match st.1 with| .int _ k=>left - k.toNat|_=>0) ⟨0,_,rfl,qZ,hk1,?_,hcl,λx D=>?_,?_,hov,M7⟩ ?_
 ·unfold tG;rw[<-hS,<-hO,<-hleft2,dW]
 ·obtain⟨y,-,rfl⟩:=aL.1 D;exact Int.natCast_nonneg y
 ·have:((pK T S f).map m).sum=((pK T S f).sum:Int):=tN _;rw[this];omega
 rintro⟨_,_⟩ W8 ⟨k,p,⟨⟩,hk,p1,p2,p3,p4,p5,p6,p7⟩ KN hKN;refine lV ?_;intro _;by_cases hkl:k<left
 ·have hkl' :(k:Int)<(left:Int):=qZ;refine dY hkl ?_;obtain⟨a1,f1,g1⟩:=p6.el (i:=k) qZ;apply bo (f1 W8);apply bo (g1 _ _ p6 qZ).1;have hmem:(O.take left)[k]'qZ∈(List.range i).map m:=hop.mem_iff.1 (bF (aq _));obtain⟨y,hy,hye⟩:=aL.1 hmem;have hyi:=eZ.1 hy;rw[<-hye];obtain⟨a2,f2,g2⟩:=p1.el (i:=y) qZ;apply bo (f2 .i64 W8);apply bo (g2 _ _ p1 qZ).1;have hpy:=p4 _ (aq (show y<p.length by omega));have hpy2:=EH p4 _ (aq (show y<p.length by omega));apply ao (gI (p[y]'qZ+1)) W8 (by simp[go_sem];rw[mR]);apply bo (f2 .i64 W8);obtain⟨W9,s1,q1,H⟩:=(g2 _ _ p1 qZ).2 (p[y]'qZ+1);apply iE s1;apply ao (gI ((k+1:Nat):Int)) W9 (by simp[go_sem];rw[mR]);refine hKN _ _ ⟨k+1,_,rfl,qZ,q1,?_,by rw[bN];exact p3,λx D=>?_,?_,p6.mod H λb d g=>by have:=hvb _ d;have:=J _ g;omega,p7.on H λb d=>.inr (n1 b d)⟩ (by show left - (((k+1:Nat):Int)).toNat<left - ((k:Int)).toNat;omega)
  ·rw[<-p2];have hd:(O.take left).drop k=(O.take left)[k]'qZ::(O.take left).drop (k+1):=(ci qZ).symm;rw[hd,qV,<-hye];congr 1;show p.set y _=p.set ((y:Nat):Int).toNat (p.getD ((y:Nat):Int).toNat 0+1);rw[gV,jg,av qZ,dC]
  ·rcases eD D with D|rfl
   ·exact p4 x D
   ·omega
  ·rw[AP qZ];omega
 ·have hkl' :k=left:=qZ;have hnl:¬(k:Int)<(left:Int):=qZ;refine fF hkl ?_;rw[hkl',cn qZ,qV]at p2;subst p2;exact hK E W8 p1 p7 n1
end Go.Proofs
namespace Go.Proofs
open Go Go.Vc
attribute [local congr] bj
variable {w:Wt_}
section
variable{α:Type}{f:α->List Value}{S:Nat}
def Hf{w:Wt_}{e:TypeId}{sl:Vt_}{l:List α}(g:∀x,(f x).length=S)(h:ic w e S sl l.length (l.flatMap f)){i:Nat}(hi:i<l.length):
  ∃b a rest,sl=.slice (some ⟨b,0,none⟩) l.length a/\hC w b (l.flatMap f++rest).toArray e/\At w b (i*S) (f l[i])/\∀j,j<S->(l.flatMap f++rest)[i*S+j]? =(f l[i])[j]? :=by
 obtain⟨b,a,rest,rfl,r,d,q⟩:=h.pos qZ;have k:=h.1;have o:(i+1)*S<=l.length*S:=cH S hi;rw[ej,Nat.one_mul]at o;have c:At w b 0 (l.flatMap f++rest):=At.all (bT d);have h1:=c.sub (i*S) S (by grind);rw[dq (by rw[k];omega),aO (by grind),lY f S l i (λx _=>g x) hi,cX]at h1;refine⟨b,a,rest,rfl,bT d,h1,λj p=>?_⟩;rw[cg (by rw[k];omega)];have n:=lY f S l i (λx _=>g x) hi;have m:(((l.flatMap f).drop (i*S)).take S)[j]? =(f l[i])[j]? :=by rw[n]
 rw[fj,ae p,fl]at m;exact m
def Bt{w:Wt_}{e:TypeId}{b cap:Nat}{l:List α}(n:∀x,(f x).length=S)(h:ic w e S (.slice (some ⟨b,0,none⟩) l.length cap) l.length (l.flatMap f)){i:Nat}(hi:i<l.length){j:Nat}(t:j<S){v:Vt_}{k' :α}(c:(f l[i]).set j v=f k'):
  ic (w.setCell ⟨b,i*S+j,none⟩ v) e S (.slice (some ⟨b,0,none⟩) (l.set i k').length cap) (l.set i k').length ((l.set i k').flatMap f):=by
 obtain⟨k,a,rest,r,u,m,p,g⟩:=h.pos qZ;obtain⟨rfl,rfl⟩:b=k/\cap=a:=by simpa using r
 have o:=h.1;have q:(i+1)*S<=l.length*S:=cH S hi;rw[ej,Nat.one_mul]at q
 have d:∀(l:List α) (i:Nat) (hi:i<l.length),(f l[i]).set j v=f k' ->(l.flatMap f).set (i*S+j) v=(l.set i k').flatMap f:=by
  intro l;induction l with
  |nil=>intro i hi;simp at hi
  |cons x l s=>
   intro i hi c;cases i with
   |zero=>
    simp only[eW]at c;rw[bm,kp,cX,dX _ _ (by rw[n];omega),c];rfl
   |succ i=>
    have e:(i+1)*S+j=(f x).length+(i*S+j):=by grind
    rw[bm,e,cI _ _ qZ,fZ,s i (by simpa using hi) (by simpa using c)];rfl
 refine⟨by grind,.inr ⟨b,cap,rest,by grind,by grind,?_,by grind,g⟩⟩;rw[kE,ae rfl,m,jJ,ek,dX _ _ (by rw[o];omega),d l i hi c]
end
structure Du where
 acct:Int
 cash:Int
 v:Int
structure Sd where
 acct:Int
 cash:Int
 dfl:Bool
 cut:Int
def Kp(d:Du):List Value:=[.int .u32 d.acct,gI d.cash,gI d.v]
def xn(d:Sd):List Value:=[.int .u32 d.acct,gI d.cash,.bool d.dfl,gI d.cut]
def Vq(d:Du):(Kp d).length=3:=rfl
def oU(d:Sd):(xn d).length=4:=rfl
def Ty(d:Sd):(xn d).all (·.oneCell')=true:=rfl
def duV(d:Du):Value:=.agg (Kp d).toArray
def aa6:Tryz.prog.underlying 367=some (.slice 369):=cV
def XH:Tryz.prog.underlying 370=some (.slice 374):=cV
def nSd:Tryz.prog.cellsOf 374=3+1:=cV
def yA(n:Int):Bool:=aY n 0 1000000000000000
def Dv{n:Int}{K:aZ}(a:K (.bool (yA n)) w):Ca pQ 352 #[.int .i64 n] w K:=by
 refine cN Tryz.func352 ?_;unfold yA aY at a;by_cases h:0<=n
 ·simp[go_sem,h]at a|-;exact a
 ·simp[go_sem,h]at a|-;exact a
def Du.Fit(d:Du):Prop:=iU d.acct/\ed d.cash/\ed d.v
def Du.ok(d:Du):Bool:=yA d.cash&& aY d.v (-100000000000000000) 100000000000000000
def HQ:Int->List Du->Bool
 |_,[]=>true
 |last,d::l=>decide (last<d.acct)&& d.ok&& HQ d.acct l
def rG(fund:Int)(l:List Du):Bool:=HQ 0 l&& yA fund
def ab1{s:Vt_}{l:List Du}(h:Rd w 3 s l.length (l.flatMap Kp)){i:Nat}(hi:i<l.length):
  ∃p,(iX 367 s (gI (i:Int))).run pQ w=.ok p w/\(iL 369 p).run pQ w=.ok (duV l[i]) w:=by
 obtain⟨b,d,n,a,k,o⟩:=h.item Vq hi rfl;obtain⟨C,e,q,hC,c⟩:=o.get;have j:=c 0 (gU l[i].acct) rfl;have m:=c 1 (gI l[i].cash) rfl;have g:=c 2 (gI l[i].v) rfl;simp only[ey,cB]at j m g;exact⟨.pointer (some ⟨b,d+i*3,none⟩),by rw[a];simp[go_sem,hi,bK,aa6],by simp[go_sem,bT hC,j,m,g,duV,Kp]⟩
def VT(d:Du)(w:Wt_):∃a c,(iA 369 true (.tuple #[])).run pQ w=.ok (bO w.heap.size 0) a/\(iS 369 (bO w.heap.size 0) (duV d)).run pQ a=.ok () c/\hC c w.heap.size (Kp d).toArray 369/\M0 w c:=by
 obtain⟨a,b⟩:=di (w.alloc (.cells #[.int .u32 0,gI 0,gI 0] 369));have g:M0 w a:=by rw[b];exact(aR.refl _ w).alloc _
 have e:hC a w.heap.size #[.int .u32 0,gI 0,gI 0] 369:=by rw[b];simp[go_sem]
 refine⟨a,((a.setCell ⟨w.heap.size,0,none⟩ (gU d.acct)).setCell ⟨w.heap.size,1,none⟩ (gI d.cash)).setCell ⟨w.heap.size,2,none⟩ (gI d.v),by rw[b];simp[go_sem],by simp[go_sem,e,duV,Kp],by simp[go_sem,e,Kp],?_⟩;exact g.on ((((aR.refl (λx=>x=w.heap.size) a).sc).sc).sc) λx h=>gr
def JK{K:aZ}{s:Vt_}{l:List Du}{fund:Int}(h:Rd w 3 s l.length (l.flatMap Kp))(Q:l.length<=1000000)(H:∀d∈l,d.Fit)
  (B:∀y,M0 w y->K (.bool (rG fund l)) y):Ca pQ 305 #[.int .i64 fund,s] w K:=by
 refine cN Tryz.func305 ?_;obtain⟨a,c,J⟩:=h.isSl;apply iI (gI (l.length:Int)) w (by rw[J];simp[go_sem])
 refine d8 (λst W=>∃(i:Nat) (last:Int) (x:Vt_),i<=l.length/\st=(x,gU last,gI i,())/\M0 w W/\HQ 0 l=HQ last (l.drop i))
  (λst _=>match st.2.2.1 with| .int _ i=>l.length - i.toNat|_=>0) ⟨0,0,_,qZ,rfl,rZ,rfl⟩ ?_
 rintro⟨_,_,_,_⟩ W ⟨i,last,x,P,⟨⟩,n,e⟩ O o;refine lV ?_;intro _;by_cases k:i<l.length
 ·have m:(i:Int)<(l.length:Int):=qZ;refine dY m ?_;obtain⟨p,L,G⟩:=ab1 (h.mod n d9) k;refine bo L (bo G ?_);obtain⟨N,M,C,D,b,I⟩:=VT l[i] W;obtain⟨q,F⟩:=di W.heap.size;rw[<-F]at C D b;refine bo C (iE D ?_);obtain⟨d,v⟩:=di (l[i]);rw[<-v]at b;have r:=H d (by grind);have g:l.drop i=d::l.drop (i+1):=by rw[v];exact(ci k).symm
  rw[g,HQ]at e;unfold Kp at b;have E:=n.trans I;refine cT.at (λst u=>st=(.bool (!(decide (last<d.acct)&& d.ok)),())/\u=M) ?_ ?_
  ·refine dI ?_;refine dN b ?_;by_cases h1:d.acct<=last
   ·refine dY h1 ?_
    exact⟨by
      have:¬last<d.acct:=qZ;simp[this],rfl⟩
   ·refine fF h1 ?_;have t:last<d.acct:=qZ;refine dI ?_;refine dN b ?_;simp only[eX];apply Dv;refine dI ?_;cases z:yA d.cash with
    |false=>
     rw[ay,ae (show(!false)=true from rfl)];exact⟨by simp[Du.ok,z],rfl⟩
    |true=>
     rw[ay,aa (by simp)];refine dI ?_;refine dN b ?_;apply gM r.2.2 qZ;refine dI ?_;exact⟨by simp[Du.ok,z,t],rfl⟩
  rintro _ u ⟨rfl,rfl⟩;refine kR ?_;intro _;cases A:(decide (last<d.acct)&& d.ok)with
  |false=>
   rw[ay,ae (show(!false)=true from rfl)];rw[A,fE]at e;have j:=B _ E;unfold rG at j;rw[e,fE]at j;exact j
  |true=>
   rw[ay,aa (by simp)];rw[A,lj]at e;refine dI ?_;refine dN b ?_;apply ao (gI ((i+1:Nat):Int)) u (by simp[go_sem];rw[mR]);exact o _ _ ⟨i+1,_,_,qZ,rfl,E,e⟩ (by grind)
 ·obtain rfl:i=l.length:=qZ;refine eU ?_;simp only[eX];apply Dv;rw[cn (aD _),HQ]at e;have j:=B _ n;unfold rG at j;rw[e,lj]at j;exact j
end Go.Proofs
namespace Go.Proofs
open Go Go.Vc
attribute [local congr] bj
def AK(d:Du):Sd:=if d.cash+d.v<0 then⟨d.acct,0,true,0⟩else⟨d.acct,d.cash+d.v,false,0⟩
def iY(d:Du):Int:=if d.cash+d.v<0 then -(d.cash+d.v)else 0
def lB(l:List Du):List Int:=(l.filter λd=>decide (0<d.v)).map (·.v)
def mj:Nat->List Du->List Nat
 |_,[]=>[]
 |i,d::l=>if 0<d.v then i::mj (i+1) l else mj (i+1) l
def lC:List Nat->List Int->List Sd->List Sd
 |i::ix,p::ps,o=>lC ix ps (match o[i]? with|some x=>o.set i {x with cut:=p,cash:=IntKind.i64.wrap (x.cash - p)}|none=>o)
 |_,_,o=>o
def ie(fund:Int)(l:List Du):List Sd×Int×Int:=
 if 64<l.length then([],0,3)
 else if rG fund l=false then([],0,2)
 else if(tC (l.map (·.v))).2≠0\/(tC (l.map (·.v))).1≠0 then([],0,130)
 else if(fJ ((l.map iY).sum - min fund (l.map iY).sum) (lB l)).2≠0 then([],0,(fJ ((l.map iY).sum - min fund (l.map iY).sum) (lB l)).2)
 else(lC (mj 0 l) (fJ ((l.map iY).sum - min fund (l.map iY).sum) (lB l)).1 (l.map AK),fund - min fund (l.map iY).sum,0)
def AX:∀(l:List Du) (i:Nat) (d:Du),mj i (l++[d])=mj i l++(if 0<d.v then [i+l.length]else [])
 | [],i,d=>by simp[mj]
 |x::l,i,d=>by
  rw[eF,mj,mj,AX l (i+1) d,be];have e:i+1+l.length=i+(l.length+1):=qZ;rw[e];split<;>simp
def DY(l:List Du)(d:Du):lB (l++[d])=lB l++(if 0<d.v then [d.v]else []):=by
 unfold lB;rw[cy,aM];congr 1;by_cases h:0<d.v<;>simp[h]
def xR:∀(l:List Du) (i:Nat),(mj i l).length=(lB l).length
 | [],i=>rfl
 |d::l,i=>by
  unfold lB;rw[mj];have:=xR l (i+1);unfold lB at this;by_cases h:0<d.v
  ·grind
  ·grind
def xw:∀(l:List Du) (i:Nat),∀x∈mj i l,i<=x/\x<i+l.length
 | [],i,x,a=>by simp[mj]at a
 |d::l,i,x,a=>by
  rw[mj]at a;rw[be];by_cases h:0<d.v
  ·rw[ae h]at a;rcases ax.1 a with rfl|a
   ·omega
   ·have:=xw l (i+1) x a;omega
  ·rw[aa h]at a;have:=xw l (i+1) x a;omega
abbrev J1(w:Wt_)(sl:Vt_)(l:List Sd):Prop:=ic w 374 4 sl l.length (l.flatMap xn)
def S4(d:Sd):Value:=.agg (xn d).toArray
def JX:Sd:=⟨0,0,false,0⟩
def J1.el{w:Wt_}{sl:Vt_}{l:List Sd}(h:J1 w sl l){i:Nat}(hi:i<l.length):
  ∃b,aF sl b/\(∀W,(iX 370 sl (gI (i:Int))).run pQ W=.ok (bO b (i*4)) W)/\∀(W:Wt_) (c:List Sd),J1 W sl c->∀g:i<c.length,
   (iL 2 (bO b (i*4+1))).run pQ W=.ok (gI c[i].cash) W/\
   (∀x:Int,∃f,(iS 2 (bO b (i*4+1)) (gI x)).run pQ W=.ok () f/\J1 f sl (c.set i {c[i]with cash:=x})/\aR (aF sl) W f)/\
   (∀x:Bool,∃f,(iS 4 (bO b (i*4+2)) (.bool x)).run pQ W=.ok () f/\J1 f sl (c.set i {c[i]with dfl:=x})/\aR (aF sl) W f)/\
   (∀x:Int,∃f,(iS 2 (bO b (i*4+3)) (gI x)).run pQ W=.ok () f/\J1 f sl (c.set i {c[i]with cut:=x})/\aR (aF sl) W f)/\
   (∀x:Sd,∃f,(iS 374 (bO b (i*4)) (S4 x)).run pQ W=.ok () f/\J1 f sl (c.set i x)/\aR (aF sl) W f):=by
 obtain⟨b,d,rest,rfl,T,V,U⟩:=Hf oU h hi;have r:aF (.slice (some ⟨b,0,none⟩) l.length d) b:=rfl;refine⟨b,r,λW=>by simp[go_sem,hi,bK,XH],λW c H g=>?_⟩
 have B:c.length=l.length:=by
  obtain⟨G,q,a,M,-⟩:=H.pos qZ;have:l.length=c.length:=by grind
  exact this.symm
 have s:ic W 374 4 (.slice (some ⟨b,0,none⟩) c.length d) c.length (c.flatMap xn):=by
  have L:ic W 374 4 (.slice (some ⟨b,0,none⟩) l.length d) c.length (c.flatMap xn):=H;rw[<-B]at L;exact L
 obtain⟨G,q,a,M,k,-,p⟩:=Hf oU s g;obtain⟨rfl,rfl⟩:b=G/\d=q:=by simpa using M
 have S:=p 0 qZ;have J:=p 1 qZ;have R:=p 2 qZ;have N:=p 3 qZ;simp only[cB]at S;have md:∀j v,aR (aF (.slice (some ⟨b,0,none⟩) l.length d)) W (W.setCell ⟨b,j,none⟩ v):=λj v=>(aR.refl _ W).setCell (.inl r) _ _;have A:∀{W:Wt_} {o:List Sd},o.length=l.length->ic W 374 4 (.slice (some ⟨b,0,none⟩) o.length d) o.length (o.flatMap xn)->J1 W (.slice (some ⟨b,0,none⟩) l.length d) o:=λe h=>by grind
 refine⟨by simp[go_sem,k,J,xn],λx=>⟨_,by simp[go_sem,k,J,xn],A (by grind) (Bt oU s g (j:=1) qZ rfl),md _ _⟩,λx=>⟨_,by simp[go_sem,k,R,xn],A (by grind) (Bt oU s g (j:=2) qZ rfl),md _ _⟩,
  λx=>⟨_,by simp[go_sem,k,N,xn],A (by grind) (Bt oU s g (j:=3) qZ rfl),md _ _⟩,λx=>?_⟩
 have D:i*4+4<=(c.flatMap xn++a).toArray.size:=by
  have:=(aJ.1 (N.trans rfl)).1;rw[dv];omega
 have C:=vu (P:=pQ) (t:=374) (w:=W) (b:=b) (off:=i*4) (cs:=xn x) (n:=3) nSd rfl k (by rw[oU];exact D) (Ty x);refine⟨_,C,?_,(aR.refl _ W).setRow (.inl r) _⟩;obtain⟨Q,y,m,E,O,z,I,F⟩:=s.pos qZ;obtain⟨rfl,rfl⟩:b=Q/\d=y:=by simpa using E
 have K:=s.1
 have u:a=m:=by
  have e:hp W b=some (.cells (c.flatMap xn++m).toArray 374 (0,0)):=z;rw[k]at e;simpa using e
 subst u;refine A (by grind) ⟨by rw[uB oU,bN],.inr ⟨b,d,a,by grind,by grind,?_,by grind,F⟩⟩;rw[eK,ae rfl,z]
 have e:jp (c.flatMap xn++a) (i*4) (xn x)=(c.set i x).flatMap xn++a:=by
  unfold jp;rw[aO (by rw[K];omega),Ta oU,oU,dq (by rw[K];omega),show i*4+4=(i+1)*4 by omega,V5 oU,List.set_eq_take_append_cons_drop,ae g];simp
 rw[<-e]
end Go.Proofs
