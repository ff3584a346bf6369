/- Part of a proof. -/
import Derived.Test.YtekbnpagidkbbaaGreatQ13
set_option linter.all false
set_option maxRecDepth 100000
set_option maxHeartbeats 1000000
namespace Go.Proofs
open Go Go.Vc Go.Srt
attribute [local congr] aZ
variable {l:List Od}{sl:Vt_}
def qp.el{w:Wt_}(h:qp w sl l){i:Nat}(hi:i<l.length):
  ∃p,(∀W,(iX 146 sl (gI (i:Int))).run pQ W=.ok p W)/\∀(W:Wt_) (d:List Od),qp W sl d->∀f:i<d.length,
   (iL ji p).run pQ W=.ok (jQ d[i]) W/\∀x:Od,∃k,(iS ji p (jQ x)).run pQ W=.ok () k/\qp k sl (d.set i x)/\aS (aK sl) W k:=by
 obtain⟨b,c,rest,rfl,E,C,D⟩:=h.pos qZ;refine⟨.pointer (some ⟨b,i*5,none⟩),λW=>by simp[go_sem,hi,bD,gX],λW d m f=>?_⟩;obtain⟨v,g,a,B,y,j,u,o⟩:=id (m.pos qZ);obtain⟨rfl,t,rfl⟩:b=v/\l.length=d.length/\c=g:=by simpa using B
 obtain⟨A,wq,z,s,q⟩:=m.load f;have n:b=A/\c=wq:=by grind
 obtain⟨rfl,rfl⟩:=n;have r:=m.1;refine⟨q,λx=>⟨W.setRow b (iC (d.flatMap dx++a) (i*5) (dx x)).toArray,XX (bT j) (by grind),⟨by rw[tN dP,bK],.inr ⟨b,c,a,by grind,by grind,?_,by grind,o⟩⟩,(aS.refl _ W).setRow (.inl (show aK (.slice (some ⟨b,0,none⟩) l.length c) b from rfl)) _⟩⟩;rw[d9,ae rfl,j]
 have e:iC (d.flatMap dx++a) (i*5) (dx x)=(d.set i x).flatMap dx++a:=by
  unfold iC;rw[aN (by rw[r];omega),Rv dP,dP,dc (by rw[r];omega),show i*5+5=(i+1)*5 by omega,Us dP,List.set_eq_take_append_cons_drop,ae f];simp
 rw[e]
def Sx(w0:Wt_)(sl:Vt_)(fv:Vt_)(cf:Od->Od->Int)(l0:List Od):Prop:=
 ∃g cp,fv=.func (.func g) #[] cp/\∀x∈l0,∀y∈l0,∀W,aS (aK sl) w0 W->∀K:aY,(∀W',M0 W W' ->K (gI (cf x y)) W')->Ca pQ g ⟨[jQ x,jQ y]++cp.toList⟩ W K
structure rT(w0:Wt_)(sl:Vt_)(l0:List Od)(W:Wt_)(l:List Od):Prop where
 own:qp W sl l
 pm:l.Perm l0
 md:aS (aK sl) w0 W
def rT.on{w0 W b:Wt_}{l0:List Od}(h:rT w0 sl l0 W l)(a:M0 W b):rT w0 sl l0 b l:=⟨h.own.mod a dS,h.pm,h.md.trans (a.to)⟩
def rT.swap{w0 W:Wt_}{l0:List Od}(h:rT w0 sl l0 W l){i j:Nat}(hi:i<l.length)(c:j<l.length):
  ∃p q,(∀W,(iX 146 sl (gI (i:Int))).run pQ W=.ok p W)/\(∀W,(iX 146 sl (gI (j:Int))).run pQ W=.ok q W)/\
   (iL ji p).run pQ W=.ok (jQ l[i]) W/\(iL ji q).run pQ W=.ok (jQ l[j]) W/\
   ∃a b,(iS ji p (jQ l[j])).run pQ W=.ok () a/\(iS ji q (jQ l[i])).run pQ a=.ok () b/\rT w0 sl l0 b (swp l i j):=by
 obtain⟨p,v,k⟩:=h.own.el hi;obtain⟨q,o,d⟩:=h.own.el c;obtain⟨s,s1⟩:=k W l h.own hi;obtain⟨g,-⟩:=d W l h.own c;obtain⟨a,t,r,u⟩:=s1 l[j];obtain⟨-,m⟩:=d a _ r (by grind);obtain⟨b,e,n,f⟩:=m l[i];refine⟨p,q,v,o,s,g,a,b,t,e,?_,(swp_perm l i j).trans h.pm,(h.md.trans u).trans f⟩;rw[swp_eq hi c];exact n
section
variable{w0:Wt_}{sl fv:Vt_}{cf:Od->Od->Int}{l0:List Od}
abbrev nX(cf:Od->Od->Int):Od->Od->Bool:=λx y=>decide (cf x y<0)
def Jq{W:Wt_}{l:List Od}{K:aY}{a b:Nat}(O:Sx w0 sl fv cf l0)(h:rT w0 sl l0 W l)(hn:l0.length<=100000)(H:a<=b)(Z:b<=l0.length)
  (C:∀B,rT w0 sl l0 B (insSort (nX cf) a b l)->K (.tuple #[]) B):Ca pQ 379 #[sl,gI (a:Int),gI (b:Int),fv] W K:=by
 obtain⟨g,cp,rfl,A⟩:=O;refine cN Tryz.func379 ?_;refine ax (gI ((a+1:Nat):Int)) W (by simp[go_sem];rw[fI qZ qZ]) ?_
 refine d8 (λst W=>∃(i k:Nat) (t:List Od),st=(gI i,())/\rT w0 sl l0 W t/\insFrom (nX cf) a i k t=insSort (nX cf) a b l/\a<i/\k=b - i)
  (λst _=>match st.1 with| .int _ i=>b - i.toNat|_=>0) ⟨a+1,b - (a+1),l,rfl,h,rfl,qZ,rfl⟩ ?_
 rintro⟨_,_⟩ W ⟨i,k,t,⟨⟩,F,D,V,hk⟩ X x;refine lE ?_;intro _;by_cases M:i<b
 ·have n:(i:Int)<(b:Int):=qZ;refine dB n ?_;obtain⟨k,rfl⟩:∃P,k=P+1:=⟨k - 1,qZ⟩
  refine d8 (λst W=>∃(j:Nat) (m:List Od),st=(gI j,())/\rT w0 sl l0 W m/\insIn (nX cf) a j m=insIn (nX cf) a i t/\j<=i)
   (λst _=>match st.1 with| .int _ j=>j.toNat|_=>0) ⟨i,t,rfl,F,rfl,az _⟩ ?_
  rintro⟨_,_⟩ W ⟨j,m,⟨⟩,c,E,N⟩ KM w;have J:=c.pm.length_eq;refine lE ?_;intro _;refine cG.at (λst W=>st=(.bool (decide (a<j/\ltAt (nX cf) m j (j - 1)=true)),())/\rT w0 sl l0 W m) ?_ ?_
  ·by_cases s:a<j
   ·have o:(a:Int)<(j:Int):=qZ;refine Ih o ?_;have d:=c.on (aS.refl _ W).drew;obtain⟨p,v,L⟩:=d.own.el (show j<m.length by omega);obtain⟨q,u,U⟩:=d.own.el (show j - 1<m.length by omega);refine bQ v ?_;refine cK (L _ _ d.own qZ).1 ?_;refine cT (gI ((j - 1:Nat):Int)) (λ_=>by simp[go_sem];rw[fI qZ qZ];omega) ?_;refine bQ u ?_;refine cK (U _ _ d.own qZ).1 ?_;simp only[fR];refine A _ (c.pm.mem_iff.1 (av _)) _ (c.pm.mem_iff.1 (av _)) _ d.md _ λB S=>?_;refine rD ?_;refine⟨?_,d.on S⟩
    have e:decide (a<j/\ltAt (nX cf) m j (j - 1)=true)=decide (cf m[j] m[j - 1]<0):=by
     rw[ltAt_eq _ qZ qZ];simp[s]
    rw[e]
   ·have o:¬(a:Int)<(j:Int):=qZ;refine IR o ?_;exact⟨by simp[s],c.on (aS.refl _ W).drew⟩
  rintro _ W ⟨rfl,c⟩;refine jG ?_;intro _;by_cases f:a<j/\ltAt (nX cf) m j (j - 1)=true
  ·rw[mP f];have r:j - 1+1=j:=qZ;have d:=c.on (aS.refl _ W).drew;obtain⟨p,q,v,u,Q,I,W1,T,R,G,z⟩:=d.swap (i:=j) (j:=j - 1) qZ qZ;refine cT (gI ((j - 1:Nat):Int)) (λ_=>by simp[go_sem];rw[fI qZ qZ];omega) ?_;refine cT (gI ((j - 1:Nat):Int)) (λ_=>by simp[go_sem];rw[fI qZ qZ];omega) ?_;refine bQ u (cK I (bQ v (cK Q (bQ v (gg R (bQ u (gg G ?_)))))));refine ax (gI ((j - 1:Nat):Int)) T (by simp[go_sem];rw[fI qZ qZ];omega) ?_;refine w _ _ ⟨j - 1,swp m j (j - 1),rfl,z,?_,qZ⟩ (by grind);rw[<-E]
   conv=>rhs;rw[<-r]
   rw[insIn,r,ae f]
  ·rw[aw,aa (by grind)];refine ax (gI ((i+1:Nat):Int)) W (by simp[go_sem];rw[fI qZ qZ]) ?_;refine x _ _ ⟨i+1,k,m,rfl,c,?_,qZ,qZ⟩ (by grind);rw[<-D,insFrom,<-E];congr 1;cases j with
   |zero=>rfl
   |succ Y=>
    rw[jz]at f;rw[insIn,aa f]
 ·have n:¬(i:Int)<(b:Int):=qZ;refine ey n ?_;have y:k=0:=qZ;subst y;rw[<-D]at C;exact C _ F
def DR{W:Wt_}{l:List Od}{K:aY}{a b n:Nat}(h:rT w0 sl l0 W l)(H:l0.length<=100000)(I:a+n<=l0.length)(F:b+n<=l0.length)
  (o:∀w,rT w0 sl l0 w (swR l a b 0 n)->K (.tuple #[]) w):Ca pQ 389 #[sl,gI (a:Int),gI (b:Int),gI (n:Int),fv] W K:=by
 refine cN Tryz.func389 ?_
 refine d8 (λst W=>∃(i:Nat) (e:List Od),st=(gI i,())/\rT w0 sl l0 W e/\swR e a b i n=swR l a b 0 n/\i<=n)
  (λst _=>match st.1 with| .int _ i=>n - i.toNat|_=>0) ⟨0,l,rfl,h,rfl,qZ⟩ ?_
 rintro⟨_,_⟩ W ⟨i,e,⟨⟩,m,t,B⟩ E f;refine lE ?_;intro _;have C:=m.pm.length_eq;by_cases d:i<n
 ·have c:(i:Int)<(n:Int):=qZ;refine dB c ?_;have g:=m.on (aS.refl _ W).drew;obtain⟨p,q,u,r,z,y,G,D,A,x,k⟩:=g.swap (i:=a+i) (j:=b+i) qZ qZ;have v:∀W,(gx .add 3 false (gI (a:Int)) (gI (i:Int))).run pQ W=.ok (gI ((a+i:Nat):Int)) W:=λ_=>by simp[go_sem];rw[fI qZ qZ]
  have s:∀W,(gx .add 3 false (gI (b:Int)) (gI (i:Int))).run pQ W=.ok (gI ((b+i:Nat):Int)) W:=λ_=>by simp[go_sem];rw[fI qZ qZ]
  refine bQ v (bQ s (bQ s (bQ r (cK y (bQ v (bQ u (cK z (bQ u (gg A (bQ r (gg x ?_)))))))))));refine ax (gI ((i+1:Nat):Int)) D (by simp[go_sem];rw[fI qZ qZ]) ?_;refine f _ _ ⟨i+1,_,rfl,k,?_,qZ⟩ (by grind);rw[<-t]
  conv=>rhs;rw[swR]
  rw[ae d]
 ·have c:¬(i:Int)<(n:Int):=qZ;refine ey c ?_;have:swR e a b i n=e:=by rw[swR,aa d]
  rw[<-t,this]at o;exact o _ m
def RI{W:Wt_}{l:List Od}{K:aY}{a m b:Nat}(h:rT w0 sl l0 W l)(t:l0.length<=100000)(z:a<m)(A:m<b)(D:b<=l0.length)
  (w:∀f,rT w0 sl l0 f (rot m l (m - a) (b - m))->K (.tuple #[]) f):Ca pQ 386 #[sl,gI (a:Int),gI (m:Int),gI (b:Int),fv] W K:=by
 refine cN Tryz.func386 ?_;have sub:∀{x y:Nat} (W:Wt_),y<=x->x<=100000->(gx .sub 3 false (gI (x:Int)) (gI (y:Int))).run pQ W=.ok (gI ((x - y:Nat):Int)) W:=λW h1 C=>by simp[go_sem];rw[fI qZ qZ];omega
 refine bh (sub W qZ qZ) (bh (sub W qZ qZ) ?_)
 refine d8 (λst W=>∃(i j:Nat) (o:List Od),st=(gI i,gI j,())/\rT w0 sl l0 W o/\rot m o i j=rot m l (m - a) (b - m)/\0<i/\0<j/\i<=m/\m+j<=l0.length)
  (λst _=>match st.1,st.2.1 with| .int _ i,.int _ j=>i.toNat+j.toNat|_,_=>0) ⟨m - a,b - m,l,rfl,h,rfl,qZ,qZ,qZ,qZ⟩ ?_
 rintro⟨_,_,_⟩ W ⟨i,j,o,⟨⟩,v,r,s,u,q,p⟩ B k;refine lE ?_;intro _;by_cases e:i=j
 ·subst e;refine eK ?_;refine bh (sub W qZ qZ) ?_;refine DR v t qZ qZ λf d=>?_;have:rot m o i i=swR o (m - i) m 0 i:=by rw[rot,aa (by simp)]
  rw[<-r,this]at w;exact w _ d
 ·have n:¬(i:Int)=(j:Int):=qZ;refine ax (.bool true) W (by simp only[go_sem];simp;exact n) ?_;rw[jV];by_cases g:j<i
  ·have c:(j:Int)<(i:Int):=qZ;refine dB c ?_;refine bh (sub W qZ qZ) ?_;refine DR v t qZ qZ λf d=>?_;refine bh (sub f qZ qZ) ?_;refine k _ _ ⟨i - j,j,_,rfl,d,?_,qZ,u,qZ,p⟩ (by grind);rw[<-r]
   conv=>rhs;rw[rot]
   rw[ae ⟨e,s,u⟩,ae g]
  ·have c:¬(j:Int)<(i:Int):=qZ;refine ey c ?_;refine bh (sub W qZ qZ) ?_;refine ax (gI ((m+j:Nat):Int)) W (by simp[go_sem];rw[fI qZ qZ]) ?_;refine bh (sub W qZ qZ) ?_;refine DR v t qZ qZ λf d=>?_;refine bh (sub f qZ qZ) ?_;refine k _ _ ⟨i,j - i,_,rfl,d,?_,s,qZ,q,qZ⟩ (by grind);rw[<-r]
   conv=>rhs;rw[rot]
   rw[ae ⟨e,s,u⟩,aa g]
end
section
variable{w0:Wt_}{sl fv:Vt_}{cf:Od->Od->Int}{l0:List Od}
def rT.cmp{g:FuncId}{f:Array Value}{W:Wt_}{l:List Od}{K:aY}{i j:Nat}(e:∀x∈l0,∀y∈l0,∀W,aS (aK sl) w0 W->∀K:aY,(∀b,M0 W b->K (gI (cf x y)) b)->Ca pQ g ⟨[jQ x,jQ y]++f.toList⟩ W K)(d:rT w0 sl l0 W l)(hi:i<l.length)(c:j<l.length)
  (k:∀b,rT w0 sl l0 b l->K (.bool (ltAt (nX cf) l i j)) b):
  ∃p q,(∀W,(iX 146 sl (gI (i:Int))).run pQ W=.ok p W)/\(∀W,(iX 146 sl (gI (j:Int))).run pQ W=.ok q W)/\
   (iL ji p).run pQ W.drew=.ok (jQ l[i]) W.drew/\(iL ji q).run pQ W.drew=.ok (jQ l[j]) W.drew/\
   mM pQ (.func (.func g) #[] f) [jQ l[i],jQ l[j]] W.drew λv w=>g9 pQ (gx .lss 3 true v (gI 0)) λn=>K n w:=by
 have a:=d.on (aS.refl _ W).drew;obtain⟨p,s,h⟩:=a.own.el hi;obtain⟨q,m,r⟩:=a.own.el c;refine⟨p,q,s,m,(h _ _ a.own hi).1,(r _ _ a.own c).1,?_⟩;simp only[fR];refine e _ (d.pm.mem_iff.1 (av _)) _ (d.pm.mem_iff.1 (av _)) _ a.md _ λb o=>?_;refine rD ?_;have:=k _ (a.on o)
 rwa[ltAt_eq _ hi c]at this
def Wi{W:Wt_}{l:List Od}{K:aY}{a i:Nat}{y:Vt_}(h:rT w0 sl l0 W l)(E:l0.length<=100000)(hi:1<=i)(A:i<=l0.length)
  (n:∀t,rT w0 sl l0 t (mvUp l a (i - 1))->K (.tuple #[]) t):nU (S:=Value×Unit) (QA (gI (i:Int),y,()) sl K) (gI (a:Int),()) W:=by
 refine d8 (λst W=>∃(k:Nat) (c:List Od),st=(gI k,())/\rT w0 sl l0 W c/\mvUp c k (i - 1)=mvUp l a (i - 1))
  (λst _=>match st.1 with| .int _ k=>i - k.toNat|_=>0) ⟨a,l,rfl,h,rfl⟩ ?_
 rintro⟨_,_⟩ W ⟨k,c,⟨⟩,g,r⟩ B d;unfold QA;intro _;have z:=g.pm.length_eq;refine bh (uV (y:=1) W hi qZ true) (bh (qF W false) ?_);by_cases b:k<i - 1
 ·rw[mP b];have e:=g.on (aS.refl _ W).drew;obtain⟨p,q,s,o,w,v,C,D,x,u,f⟩:=e.swap (i:=k) (j:=k+1) qZ qZ;have m:∀W,(gx .add 3 true (gI (k:Int)) (gI 1)).run pQ W=.ok (gI ((k+1:Nat):Int)) W:=λW=>pZ (y:=1) W qZ true;refine bQ m (bQ m (bQ o (cK v (bQ s (cK w (bQ s (gg x (bQ o (gg u (bh (m _) ?_))))))))));refine d _ _ ⟨k+1,_,rfl,f,?_⟩ (by grind);rw[<-r]
  conv=>rhs;rw[mvUp]
  rw[ae b]
 ·rw[aw,aa (by grind)];have:mvUp c k (i - 1)=c:=by rw[mvUp,aa b]
  rw[<-r,this]at n;exact n _ g
def WA{W:Wt_}{l:List Od}{K:aY}{m i:Nat}{y:Vt_}(h:rT w0 sl l0 W l)(E:l0.length<=100000)(F:m<l0.length)
  (n:∀t,rT w0 sl l0 t (mvDn l m i)->K (.tuple #[]) t):nU (S:=Value×Unit) (N5 (gI (i:Int),y,()) sl K) (gI (m:Int),()) W:=by
 refine d8 (λst W=>∃(k:Nat) (b:List Od),st=(gI k,())/\rT w0 sl l0 W b/\mvDn b k i=mvDn l m i/\k<=m)
  (λst _=>match st.1 with| .int _ k=>k.toNat|_=>0) ⟨m,l,rfl,h,rfl,az _⟩ ?_
 rintro⟨_,_⟩ W ⟨k,b,⟨⟩,f,r,v⟩ B c;unfold N5;intro _;have A:=f.pm.length_eq;refine dq ?_;by_cases a:i<k
 ·rw[mP a];have d:=f.on (aS.refl _ W).drew;obtain⟨p,q,s,o,x,w,C,D,z,u,e⟩:=d.swap (i:=k) (j:=k - 1) qZ qZ;have g:∀W,(gx .sub 3 true (gI (k:Int)) (gI 1)).run pQ W=.ok (gI ((k - 1:Nat):Int)) W:=λW=>uV (y:=1) W qZ qZ true;refine bQ g (bQ g (bQ o (cK w (bQ s (cK x (bQ s (gg z (bQ o (gg u (bh (g _) ?_))))))))));refine c _ _ ⟨k - 1,_,rfl,e,?_,qZ⟩ (by grind);rw[<-r]
  conv=>rhs;rw[mvDn]
  rw[ae a]
 ·rw[aw,aa (by grind)];have:mvDn b k i=b:=by rw[mvDn,aa a]
  rw[<-r,this]at n;exact n _ f
def Ku(hc:Sx w0 sl fv cf l0)(hn:l0.length<=100000):∀(d:Nat) {W:Wt_} {l:List Od} {K:aY} {a m b:Nat},b - a<=d->rT w0 sl l0 W l->a<m->m<b->b<=l0.length->
  (∀r,rT w0 sl l0 r (symM (nX cf) a m b l)->K (.tuple #[]) r)->Ca pQ 380 #[sl,gI (a:Int),gI (m:Int),gI (b:Int),fv] W K:=by
 obtain⟨g,cp,rfl,X⟩:=hc;intro d;induction d with
 |zero=>intro W l K a m b h1 _ R Y;omega
 |succ d ih=>
 intro W l K a m b hd h ham hmb hb v;have hl:=h.pm.length_eq;refine cN Tryz.func380 ?_;refine bh (uV W qZ qZ false) ?_;refine bh (Kf W) ?_;by_cases M:m - a=1
 ·rw[mP M];have s:symM (nX cf) a m b l=mvUp l a (bsG (λh=>ltAt (nX cf) l h a) m b - 1):=by rw[symM,ae M]
  rw[s]at v
  refine d8 (λst W=>∃i j:Nat,st=(gI i,gI j,())/\rT w0 sl l0 W l/\bsG (λh=>ltAt (nX cf) l h a) i j=bsG (λh=>ltAt (nX cf) l h a) m b/\m<=i/\i<=j/\j<=b)
   (λst _=>match st.1,st.2.1 with| .int _ i,.int _ j=>j.toNat - i.toNat|_,_=>0) ⟨m,b,rfl,h,rfl,qZ,qZ,qZ⟩ ?_
  rintro⟨_,_,_⟩ W ⟨i,j,⟨⟩,N,n,h1,R,Y⟩ O t;refine lE ?_;intro _;refine bh (qF W false) ?_;by_cases k:i<j
  ·rw[mP k];refine bh (pZ W qZ false) ?_;obtain⟨x,P,y,T,V⟩:=yo k qZ W;refine bh P (bh T (bh V ?_));rw[bsG_go k]at n;obtain⟨o,J⟩:=df ((i+j) / 2);rw[<-J]at n|-
   obtain⟨p,q,c1,c2,c3,c4,c5⟩:=rT.cmp (i:=o) (j:=a) (K:=λv2 w=>qr v2 (rv pQ (gx .add 3 true (gI (o:Int)) (gI 1)) w λE H=>O (E,gI (j:Int),()) H) (O (gI (i:Int),gI (o:Int),()) w)) X N qZ qZ (by
    intro r z;cases u:ltAt (nX cf) l o a with
    |true=>
     rw[jV];rw[ae u]at n;refine bh (pZ (y:=1) r qZ true) ?_;exact t _ _ ⟨o+1,j,rfl,z,n,qZ,qZ,Y⟩ (by grind)
    |false=>
     rw[ij];rw[aa (by rw[u];simp)]at n;exact t _ _ ⟨i,o,rfl,z,n,h1,qZ,qZ⟩ (by grind))
   exact bQ c1 (cK c3 (bQ c2 (cK c4 c5)))
  ·rw[aw,aa (by grind)];rw[bsG_end k]at n;rw[<-n]at v;exact Wi N hn qZ qZ v
 rw[aw,aa (by grind)];refine bh (uV W qZ qZ false) ?_;refine bh (Kf W) ?_;by_cases U:b - m=1
 ·rw[mP U];have s:symM (nX cf) a m b l=mvDn l m (bsG (λh=> !ltAt (nX cf) l m h) a m):=by rw[symM,aa M,ae U]
  rw[s]at v
  refine d8 (λst W=>∃i j:Nat,st=(gI i,gI j,())/\rT w0 sl l0 W l/\bsG (λh=> !ltAt (nX cf) l m h) i j=bsG (λh=> !ltAt (nX cf) l m h) a m/\a<=i/\i<=j/\j<=m)
   (λst _=>match st.1,st.2.1 with| .int _ i,.int _ j=>j.toNat - i.toNat|_,_=>0) ⟨a,m,rfl,h,rfl,qZ,qZ,qZ⟩ ?_
  rintro⟨_,_,_⟩ W ⟨i,j,⟨⟩,N,n,h1,R,Y⟩ O t;refine lE ?_;intro _;refine bh (qF W false) ?_;by_cases k:i<j
  ·rw[mP k];refine bh (pZ W qZ false) ?_;obtain⟨x,P,y,T,V⟩:=yo k qZ W;refine bh P (bh T (bh V ?_));rw[bsG_go k]at n;obtain⟨o,J⟩:=df ((i+j) / 2);rw[<-J]at n|-
   obtain⟨p,q,c1,c2,c3,c4,c5⟩:=rT.cmp (i:=m) (j:=o) (K:=λv2 w=>g9 pQ (Op.unary .not v2) λS=>qr S (rv pQ (gx .add 3 true (gI (o:Int)) (gI 1)) w λE H=>O (E,gI (j:Int),()) H) (O (gI (i:Int),gI (o:Int),()) w)) X N qZ qZ (by
    intro r z;refine rD ?_;cases u:ltAt (nX cf) l m o with
    |false=>
     rw[aw,ae (show(!false)=true from rfl)];rw[ae (by rw[u];rfl)]at n;refine bh (pZ (y:=1) r qZ true) ?_;exact t _ _ ⟨o+1,j,rfl,z,n,qZ,qZ,Y⟩ (by grind)
    |true=>
     rw[aw,aa (by simp)];rw[aa (by rw[u];simp)]at n;exact t _ _ ⟨i,o,rfl,z,n,h1,qZ,qZ⟩ (by grind))
   exact bQ c1 (cK c3 (bQ c2 (cK c4 c5)))
  ·rw[aw,aa (by grind)];rw[bsG_end k]at n;rw[<-n]at v;exact WA N hn qZ v
 rw[aw,aa (by grind)];refine bh (pZ W qZ false) ?_;obtain⟨x,P,y,T,V⟩:=yo (show a<b by omega) qZ W;refine bh P (bh T (bh V ?_))
 have s:symM (nX cf) a m b l=(let st:=stOf (nX cf) l a m b
   let C:=(a+b) / 2+m - st;let Z:=if st<m/\m<C then rot m l (m - st) (C - m)else l
   let l2:=if h:a<st/\st<(a+b) / 2 then symM (nX cf) a st ((a+b) / 2) Z else Z
   if h:(a+b) / 2<C/\C<b/\a<(a+b) / 2 then symM (nX cf) ((a+b) / 2) C b l2 else l2):=by
  conv=>lhs;rw[symM]
  rw[aa M,aa U]
 rw[s]at v;clear s;have hst:stOf (nX cf) l a m b=if(a+b) / 2<m then bsG (λc=> !ltAt (nX cf) l ((a+b) / 2+m - 1 - c) c) ((a+b) / 2+m - b) ((a+b) / 2)else bsG (λc=> !ltAt (nX cf) l ((a+b) / 2+m - 1 - c) c) a m:=rfl
 obtain⟨f,hmid⟩:=df ((a+b) / 2);rw[<-hmid]at v hst|-;have hmb1:a<f/\f<b:=qZ;refine bh (pZ W qZ false) ?_;obtain⟨L,A⟩:=df (if f<m then f+m - b else a);obtain⟨r0,B⟩:=df (if f<m then f else m)
 have hst2:stOf (nX cf) l a m b=bsG (λc=> !ltAt (nX cf) l (f+m - 1 - c) c) L r0:=by
  rw[hst,A,B];by_cases D:f<m
  ·grind
  ·grind
 have Q:L<=r0/\a<=L/\r0<=m/\r0<=f/\(∀c,L<=c->c<r0->f+m - 1 - c<b/\c<f+m - 1)/\(∀c,L<=c->c<=r0->m<=f+m - c/\f+m - c<=b/\f<=f+m - c):=by
  by_cases D:f<m
  ·rw[ae D]at A B;exact⟨qZ,qZ,qZ,qZ,λc h1 R=>qZ,λc h1 R=>qZ⟩
  ·rw[aa D]at A B;exact⟨qZ,qZ,qZ,qZ,λc h1 R=>qZ,λc h1 R=>qZ⟩
 refine cG.at (λst r=>st=(gI (L:Int),gI (r0:Int),())/\r=W) ?_ ?_
 ·refine dq ?_;by_cases D:f<m
  ·rw[mP D];rw[ae D]at A B;refine bh (uV W qZ qZ false) ?_;exact⟨by rw[A,B],rfl⟩
  ·rw[aw,aa (by grind)];rw[aa D]at A B;exact⟨by rw[A,B],rfl⟩
 rintro _ W ⟨rfl,rfl⟩;refine jG ?_;intro _;refine bh (uV (y:=1) W qZ qZ true) ?_
 refine d8 (λst W=>∃i j:Nat,st=(gI j,gI i,())/\rT w0 sl l0 W l/\bsG (λc=> !ltAt (nX cf) l (f+m - 1 - c) c) i j=bsG (λc=> !ltAt (nX cf) l (f+m - 1 - c) c) L r0/\L<=i/\i<=j/\j<=r0)
  (λst _=>match st.2.1,st.1 with| .int _ i,.int _ j=>j.toNat - i.toNat|_,_=>0) ⟨L,r0,rfl,h,rfl,qZ,Q.1,qZ⟩ ?_
 rintro⟨_,_,_⟩ W ⟨i,j,⟨⟩,N,n,h1,R,Y⟩ O t;refine lE ?_;intro _;refine bh (qF W false) ?_;by_cases k:i<j
 ·rw[mP k];refine bh (pZ W qZ false) ?_;obtain⟨x,P,y,T,V⟩:=yo k qZ W;refine bh P (bh T (bh V ?_));rw[bsG_go k]at n;obtain⟨o,J⟩:=df ((i+j) / 2);rw[<-J]at n|-;have hhb:=Q.2.2.2.2.1 o qZ qZ;refine bQ (λW=>uV W qZ qZ false) ?_
  obtain⟨p,q,c1,c2,c3,c4,c5⟩:=rT.cmp (i:=f+m - 1 - o) (j:=o) (K:=λv2 w=>g9 pQ (Op.unary .not v2) λS=>qr S (rv pQ (gx .add 3 true (gI (o:Int)) (gI 1)) w λE H=>O (gI (j:Int),E,()) H) (O (gI (o:Int),gI (i:Int),()) w)) X N qZ qZ (by
   intro r z;refine rD ?_;cases u:ltAt (nX cf) l (f+m - 1 - o) o with
   |false=>
    rw[aw,ae (show(!false)=true from rfl)];rw[ae (by rw[u];rfl)]at n;refine bh (pZ (y:=1) r qZ true) ?_;exact t _ _ ⟨o+1,j,rfl,z,n,qZ,qZ,Y⟩ (by grind)
   |true=>
    rw[aw,aa (by simp)];rw[aa (by rw[u];simp)]at n;exact t _ _ ⟨i,o,rfl,z,n,h1,qZ,qZ⟩ (by grind))
  exact bQ c1 (cK c3 (bQ c2 (cK c4 c5)))
 rw[aw,aa (by grind)];rw[bsG_end k,<-hst2]at n;rw[<-n]at v;simp only at v;have hib:=Q.2.2.2.2.2 i qZ qZ;refine bh (uV W qZ qZ false) ?_;obtain⟨C,hen⟩:=df (f+m - i);rw[<-hen]at v hib|-;obtain⟨Z,F⟩:=df (if i<m/\m<C then rot m l (m - i) (C - m)else l);rw[<-F]at v;refine cG.at (λ_ r=>rT w0 sl l0 r Z) ?_ ?_
 ·refine cG.at (λst r=>st=(.bool (decide (i<m/\m<C)),())/\r=W) ?_ ?_
  ·refine bh (qF W false) ?_;by_cases e:i<m
   ·rw[mP e];refine bh (qF W false) ?_;exact⟨by simp[e],rfl⟩
   ·rw[aw,aa (by grind)];exact⟨by simp[e],rfl⟩
  rintro _ r ⟨rfl,rfl⟩;refine jG ?_;intro _;by_cases e:i<m/\m<C
  ·rw[mP e];rw[ae e]at F;refine RI N hn e.1 e.2 qZ λW'' G=>?_;rw[F];exact G
  ·rw[aw,aa (by grind)];rw[aa e]at F;rw[F];exact N
 rintro _ W hS1;refine jG ?_;intro _;obtain⟨l2,I⟩:=df (if h:a<i/\i<f then symM (nX cf) a i f Z else Z);rw[<-I]at v;refine cG.at (λ_ r=>rT w0 sl l0 r l2) ?_ ?_
 ·refine cG.at (λst r=>st=(.bool (decide (a<i/\i<f)),())/\r=W) ?_ ?_
  ·refine bh (qF W false) ?_;by_cases e:a<i
   ·rw[mP e];refine bh (qF W false) ?_;exact⟨by simp[e],rfl⟩
   ·rw[aw,aa (by grind)];exact⟨by simp[e],rfl⟩
  rintro _ r ⟨rfl,rfl⟩;refine jG ?_;intro _;by_cases e:a<i/\i<f
  ·rw[mP e];rw[pu e]at I;refine ih qZ hS1 e.1 e.2 qZ λW'' G=>?_;rw[I];exact G
  ·rw[aw,aa (by grind)];rw[dif_neg e]at I;rw[I];exact hS1
 rintro _ W hS2;refine jG ?_;intro _;refine cG.at (λst r=>st=(.bool (decide (f<C/\C<b)),())/\r=W) ?_ ?_
 ·refine bh (qF W false) ?_;by_cases e:f<C
  ·rw[mP e];refine bh (qF W false) ?_;exact⟨by simp[e],rfl⟩
  ·rw[aw,aa (by grind)];exact⟨by simp[e],rfl⟩
 rintro _ r ⟨rfl,rfl⟩;refine jG ?_;intro _;by_cases e:f<C/\C<b
 ·rw[mP e];rw[pu ⟨e.1,e.2,hmb1.1⟩]at v;exact ih qZ hS2 e.1 e.2 hb v
 ·rw[aw,aa (by grind)];rw[dif_neg (λh=>e ⟨h.1,h.2.1⟩)]at v;exact v _ hS2
end
section
variable{w0:Wt_}{sl fv:Vt_}{cf:Od->Od->Int}{l0:List Od}
def Ps(v:Sx w0 sl fv cf l0)(w:l0.length<=100000){W:Wt_}{K:aY}(h:rT w0 sl l0 W l0)
  (u:∀i,rT w0 sl l0 i (Srt.stable (nX cf) l0)->K (.tuple #[]) i):Ca pQ 361 #[sl,gI (l0.length:Int),fv] W K:=by
 obtain⟨n,t⟩:=df l0.length;have B:Srt.stable (nX cf) l0=mrg (nX cf) n 20 (blk (nX cf) n 0 20 l0):=by rw[t];rfl
 rw[B]at u;rw[<-t];refine cN Tryz.func361 ?_
 refine d8 (λst W=>∃(a b:Nat) (l:List Od),st=(gI a,gI b,())/\rT w0 sl l0 W l/\blk (nX cf) n a b l=blk (nX cf) n 0 20 l0/\a<=n/\b=a+20)
  (λst _=>match st.2.1 with| .int _ b=>n+20 - b.toNat|_=>0) ⟨0,20,l0,rfl,h,rfl,qZ,rfl⟩ ?_
 rintro⟨_,_,_⟩ W ⟨a,b,l,⟨⟩,k,H,q,N⟩ I j;refine lE ?_;intro _;refine bh (RN W false) ?_;by_cases d:b<=n
 ·rw[mP d];refine Jq v k w qZ qZ λi g=>?_;refine bh (pZ (y:=20) i qZ true) ?_;refine j _ _ ⟨b,b+20,_,rfl,g,?_,d,rfl⟩ (by grind);rw[<-H]
  conv=>rhs;rw[blk]
  rw[ae d]
 rw[aw,aa (by grind)];refine Jq v k w q qZ λW k=>?_
 have r:insSort (nX cf) a n l=blk (nX cf) n 0 20 l0:=by
  rw[<-H]
  conv=>rhs;rw[blk]
  rw[aa d]
 rw[r]at k;clear H r j I;obtain⟨F,E⟩:=df (blk (nX cf) n 0 20 l0);rw[<-E]at k u
 refine d8 (λst W=>∃(c:Nat) (x y:Vt_) (l:List Od),st=(gI c,x,y,())/\rT w0 sl l0 W l/\mrg (nX cf) n c l=mrg (nX cf) n 20 F/\0<c/\c<=2*n+20)
  (λst _=>match st.1 with| .int _ b=>2*n+40 - b.toNat|_=>0) ⟨20,_,_,F,rfl,k,rfl,qZ,qZ⟩ ?_
 rintro⟨_,_,_,_⟩ W ⟨c,x,y,l,⟨⟩,k,J,p,L⟩ I j;refine lE ?_;intro _;refine bh (qF W false) ?_;by_cases m:c<n
 ·rw[mP m]
  have s:mrg (nX cf) n (c*2) (mrgPass (nX cf) c n 0 (2*c) l)=mrg (nX cf) n 20 F:=by
   rw[<-J]
   conv=>rhs;rw[mrg]
   rw[ae ⟨m,p⟩]
  refine bh (Jt W qZ) ?_
  refine d8 (λst W=>∃(a b:Nat) (o:List Od),st=(gI a,gI b,())/\rT w0 sl l0 W o/\mrgPass (nX cf) c n a b o=mrgPass (nX cf) c n 0 (2*c) l/\b=a+2*c/\a<=n)
   (λst _=>match st.2.1 with| .int _ b=>n+1+2*c - b.toNat|_=>0) ⟨0,2*c,l,rfl,k,rfl,qZ,qZ⟩ ?_
  rintro⟨_,_,_⟩ W ⟨a,b,o,⟨⟩,g,M,O,q⟩ P A;refine lE ?_;intro _;refine bh (RN W false) ?_;by_cases d:b<=n
  ·rw[mP d];refine bh (pZ W qZ false) ?_;refine Ku v w (b - a) (az _) g qZ qZ qZ λi f=>?_;refine bh (Jt i qZ) ?_;refine bh (pZ i qZ false) ?_;refine A _ _ ⟨b,b+2*c,_,rfl,f,?_,rfl,d⟩ (by grind);rw[<-M]
   conv=>rhs;rw[mrgPass]
   rw[ae ⟨d,p⟩]
  ·rw[aw,aa (by grind)];obtain⟨G,e⟩:=df (if a+c<n then symM (nX cf) a (a+c) n o else o);have C:mrgPass (nX cf) c n a b o=G:=by rw[mrgPass,aa (λh=>d h.1),e]
   rw[<-M,C]at s;refine cG.at (λ_ i=>rT w0 sl l0 i G) ?_ ?_
   ·refine bh (pZ W qZ false) (bh (qF W false) ?_);by_cases z:a+c<n
    ·rw[mP z];rw[ae z]at e;refine Ku v w (n - a) (az _) g qZ z qZ λi f=>?_;rw[e];exact f
    ·rw[aw,aa (by grind)];rw[aa z]at e;rw[e];exact g
   rintro _ W D;refine jG ?_;intro _;refine bh (OV W qZ) ?_;exact j _ _ ⟨c*2,_,_,G,rfl,D,s,qZ,qZ⟩ (by grind)
 ·rw[aw,aa (by grind)];have:mrg (nX cf) n c l=l:=by rw[mrg,aa (λh=>m h.1)]
  rw[<-J,this]at u;exact u _ k
end
def Qt{w:Wt_}{fv:Vt_}{cf:Od->Od->Int}{K:aY}(h:qp w sl l)(i:l.length<=100000)(f:Sx w sl fv cf l)
  (e:∀b,qp b sl (Srt.stable (nX cf) l)->aS (aK sl) w b->K (.tuple #[]) b):Ca pQ 316 #[sl,fv] w K:=by
 refine cN Tryz.func316 ?_;obtain⟨a,c,g,-⟩:=h.isSl;refine iq (gI (l.length:Int)) w (by rw[g];simp[go_sem]) ?_;refine Ps f i ⟨h,cR _,aS.refl _ _⟩ λj d=>?_;exact e _ d.own d.md
end Go.Proofs
set_option maxRecDepth 100000
set_option maxHeartbeats 1000000
namespace Go.Proofs
open Go Go.Vc Go.Srt
attribute [local congr] aZ
variable {l:List Int}{s:Nat}{w:Wt_}{K:aY}
def Og:Tryz.prog.cellsOf 2=0+1:=cy
def YV:Tryz.prog.cellsOf 37=0+1:=cy
abbrev te(w:Wt_)(sl:Vt_)(l:List Int):Prop:=gD w 2 1 sl l.length (l.flatMap sZ)
abbrev Ah(w:Wt_)(sl:Vt_)(l:List Int):Prop:=gD w 37 1 sl l.length (l.flatMap ua)
def Je(l:List Int):l.flatMap ua=l.map λx=>gQ x:=by
 induction l with
 |nil=>rfl
 |cons x l a=>rw[bR,a];rfl
def te.el{sl:Vt_}(h:te w sl l){i:Nat}(hi:i<l.length):
  ∃p,(∀(k:IntKind) W,(iX 297 sl (.int k (i:Int))).run pQ W=.ok p W)/\∀(W:Wt_) (c:List Int),te W sl c->∀d:i<c.length,
   (iL 2 p).run pQ W=.ok (gI c[i]) W/\∀x:Int,∃j,(iS 2 p (gI x)).run pQ W=.ok () j/\te j sl (c.set i x)/\aS (aK sl) W j:=by
 obtain⟨b,e,rest,rfl,z,v,y⟩:=h.pos qZ;refine⟨.pointer (some ⟨b,i,none⟩),λk W=>by simp[go_sem,hi,bD,wE,Program.elem,Go.Vc.kZ Og],λW c s d=>?_⟩;obtain⟨r,g,a,u,t,f,q,m⟩:=s.pos qZ;obtain⟨rfl,o,rfl⟩:b=r/\l.length=c.length/\e=g:=by simpa using u
 have n:(c.flatMap sZ++a)[i]? =some (gI c[i]):=by
  rw[BA,cn (by simpa using d),cz,aq d];rfl
 refine⟨by simp[go_sem,bT f,n],λx=>⟨W.setCell ⟨b,i,none⟩ (gI x),by simp[go_sem,bT f,n],⟨by rw[tN ou,bK],.inr ⟨b,e,a,by grind,by grind,?_,by grind,m⟩⟩,(aS.refl _ W).setCell (.inl (show aK (.slice (some ⟨b,0,none⟩) l.length e) b from rfl)) _ _⟩⟩;rw[jU,ae rfl,f,eM,bP,eh _ _ (by rw[tN ou];omega),BA,BA,gy]
def Hg(x:Int):(ua x).length=1:=rfl
def Ah.el{sl:Vt_}(h:Ah w sl l){i:Nat}(hi:i<l.length):
  ∃p,(∀(k:IntKind) W,(iX 39 sl (.int k (i:Int))).run pQ W=.ok p W)/\∀(W:Wt_) (c:List Int),Ah W sl c->∀d:i<c.length,
   (iL 37 p).run pQ W=.ok (gQ c[i]) W/\∀x:Int,∃j,(iS 37 p (gQ x)).run pQ W=.ok () j/\Ah j sl (c.set i x)/\aS (aK sl) W j:=by
 obtain⟨b,e,rest,rfl,z,v,y⟩:=h.pos qZ;refine⟨.pointer (some ⟨b,i,none⟩),λk W=>by simp[go_sem,hi,bD,wS,Program.elem,Go.Vc.kZ YV],λW c s d=>?_⟩;obtain⟨r,g,a,u,t,f,q,m⟩:=s.pos qZ;obtain⟨rfl,o,rfl⟩:b=r/\l.length=c.length/\e=g:=by simpa using u
 have n:(c.flatMap ua++a)[i]? =some (gQ c[i]):=by
  rw[Je,cn (by simpa using d),cz,aq d];rfl
 refine⟨by simp[go_sem,bT f,n],λx=>⟨W.setCell ⟨b,i,none⟩ (gQ x),by simp[go_sem,bT f,n],⟨by rw[tN Hg,bK],.inr ⟨b,e,a,by grind,by grind,?_,by grind,m⟩⟩,(aS.refl _ W).setCell (.inl (show aK (.slice (some ⟨b,0,none⟩) l.length e) b from rfl)) _ _⟩⟩;rw[jU,ae rfl,f,eM,bP,eh _ _ (by rw[tN Hg];omega),Je,Je,gy]
def mkZ{t e:TypeId}{by_:Nat}{z:Vt_}{n:Nat}(h:Tryz.prog.underlying t=some (.slice e))(l:gP pQ e 1 by_=true)(k:(Tryz.prog.info? e).bind (·.zero)=some z)(g:z.cells= #[z])(j:z.oneCell' =true)(f:by_<=1000)(m:n<=1000000)
  (i:∀a c,gD c e 1 a n (List.replicate n z)->M0 w c->(∀b,aK a b->w.heap.size<=b)->K a c):rx pQ (Da t (gI (n:Int)) (gI (n:Int))) w K:=by
 have d:(by_:Int)*(n:Int)<=281474976710656:=by
  have:by_*n<=1000*1000000:=fL f m;omega
 apply JU (z:=z) h (dp l) qZ qZ d k;rw[show(n:Int).toNat=n from rfl]
 have o:madeCells z.cells (n*1)=(List.replicate n z).toArray:=by
  apply kg;rw[g,toList_madeCells_one,oD]
 rw[o];refine i _ _ ⟨by simp,.inr ⟨w.heap.size,n,[],rfl,az _,by rw[ec,ae rfl,bg],by simp,rfl⟩⟩ kU λb d=>?_;have:b=w.heap.size:=by cases d;rfl
 omega
def XB(n:Nat):(List.replicate n (gI 0):LV_)=(List.replicate n (0:Int)).flatMap sZ:=by rw[BA,List.map_replicate]
def ae8(n:Nat):(List.replicate n (gQ 0):LV_)=(List.replicate n (0:Int)).flatMap ua:=by rw[Je,List.map_replicate]
def L8{x:Int}(a:K (.bool (decide (x<0))) w):Ca pQ 354 #[.int .i64 x] w K:=by
 refine cN Tryz.func354 ?_;exact lY (.bool (decide (x<0))) a
def K9{s:Vt_}(h:Rd w 1 s l.length (l.flatMap sZ))(H:l.length<=1000000)(g:K (.bool (l.any λx=>decide (x<0))) w):
  Ca pQ 353 #[s,.func (.func 354) #[] #[]] w K:=by
 refine cN Tryz.func353 ?_
 have m:Ca pQ 376 #[s,.func (.func 354) #[] #[]] w λv q=>rv pQ (gx .geq 3 true v (gI 0)) q λy r=>K y r:=by
  refine cN Tryz.func376 ?_;obtain⟨a,c,z⟩:=h.isSl;apply iq (gI (l.length:Int)) w (by rw[z];simp[go_sem])
  refine d8 (λst W=>∃(i:Nat) (x:Vt_),i<=l.length/\st=(x,gI i,())/\W=w/\∀j:Nat,∀k:j<l.length,j<i->¬l[j]<0)
   (λst _=>match st.2.1 with| .int _ i=>l.length - i.toNat|_=>0) ⟨0,gI 0,qZ,rfl,rfl,λj _ h=>qZ⟩ ?_
  rintro⟨_,_⟩ W ⟨i,x,G,⟨⟩,rfl,n⟩ D o;refine lE ?_;intro _;by_cases e:i<l.length
  ·have f:(i:Int)<(l.length:Int):=qZ;refine dB f ?_;obtain⟨b,u,A,C,F,E,hC,p⟩:=IM ou h rfl wE Og e rfl;apply bh (A .i64);refine mK hC p ?_;simp only[fR];apply L8;by_cases d:l[i]<0
   ·rw[mP d];have:(l.any λx=>decide (x<0))=true:=g8.2 ⟨_,av e,by simpa using d⟩;rw[this]at g;exact lY (.bool true) g
   ·rw[Hm d];apply ax (gI ((i+1:Nat):Int)) W (by simp[go_sem];rw[lL]);refine o _ _ ⟨i+1,_,qZ,rfl,rfl,λj k t=>?_⟩ (by grind);by_cases B:j=i
    ·subst B;exact d
    ·grind
  ·obtain rfl:i=l.length:=qZ;refine eK ?_
   have:(l.any λx=>decide (x<0))=false:=by
    rw[List.any_eq_false];intro x d;obtain⟨j,k,rfl⟩:=bM d;simpa using n j k k
   rw[this]at g;exact lY (.bool false) g
 exact m
def oR(t s:Nat)(ws:List Nat):List Nat:=ws.map λx=>t*x / s
def qE(t s:Nat)(ws:List Nat):List Nat:=ws.map λx=>t*x%s
def JL(t s:Nat)(ws:List Nat):s*(oR t s ws).sum+(qE t s ws).sum=t*ws.sum:=by
 induction ws with
 |nil=>simp[oR,qE]
 |cons x ws a=>
  unfold oR qE at*;simp only[aD,bC];have:=lq (t*x) s;rw[ov,ov];omega
def RK(hs:0<s)(t:Nat)(ws:List Nat):(qE t s ws).sum<=ws.length*s:=by
 induction ws with
 |nil=>simp[qE]
 |cons x ws a=>
  unfold qE at*;simp only[aD,bC,be];have:=gp (t*x) hs;rw[nD];omega
def Ei(hs:0<s)(t:Nat){ws:List Nat}(h:ws.sum<=s):(oR t s ws).sum<=t:=by
 have h1:=JL t s ws;have b:t*ws.sum<=t*s:=lj t h;have a:s*(oR t s ws).sum<=s*t:=by grind
 exact Nat.le_of_mul_le_mul_left a hs
def G0(hs:0<s)(t:Nat){ws:List Nat}(h:ws.sum=s):t - (oR t s ws).sum<=ws.length:=by
 have h1:=JL t s ws;have b:=RK hs t ws;rw[h,eE t s]at h1
 have a:s*(t - (oR t s ws).sum)<=s*ws.length:=by
  rw[Nat.mul_sub,eE s ws.length];omega
 exact Nat.le_of_mul_le_mul_left a hs
def xI(r:List Nat)(i k:Int):Int:=if r.getD k.toNat 0<r.getD i.toNat 0 then -1 else if r.getD i.toNat 0<r.getD k.toNat 0 then 1 else 0
def uC(r:List Nat):List Int:=Srt.stable (pz (xI r)) ((List.range r.length).map λi:Nat=>(i:Int))
def qu:List Int->List Int->List Int
 | [],p=>p
 |i::ix,p=>qu ix (p.set i.toNat (p.getD i.toNat 0+1))
def su(t:Nat)(ws:List Nat):List Int:=
 qu ((uC (qE t ws.sum ws)).take (t - (oR t ws.sum ws).sum)) ((oR t ws.sum ws).map λx:Nat=>(x:Int))
def ft(t:Int)(l:List Int):List Int×Int:=
 if 1000<l.length then([],3)
 else if t<0\/(l.any λx=>decide (x<0))=true then([],2)
 else if¬eP l.sum then([],6)
 else if t=0 then(List.replicate l.length 0,0)
 else if l.sum=0 then([],10)
 else(su t.toNat (l.map Int.toNat),0)
def MC{n:Nat}{T:TypeId}{rs:Vt_}{r:List Nat}{i k:Nat}(j:hC w n #[rs] T)(g:Ah w rs (r.map λx:Nat=>(x:Int)))(hi:i<r.length)(o:k<r.length)
  (e:∀s,M0 w s->K (gI (xI r (i:Int) (k:Int))) s):Ca pQ 358 #[.int .i64 (i:Int),gI (k:Int),.pointer (some ⟨n,0,none⟩)] w K:=by
 refine cN Tryz.func358 ?_;obtain⟨a,c,y,-⟩:=g.isSl;obtain⟨p,u,v⟩:=g.el (i:=i) (by simpa using hi);obtain⟨q,t,z⟩:=g.el (i:=k) (by simpa using o);have d:∀W,M0 w W->(iL 39 (bO n 0)).run pQ W=.ok rs W:=λW m=>by have:=m.hpk j id;rw[y]at this|-;simp[go_sem,this]
 have h:∀W,M0 w W->(iL 37 p).run pQ W=.ok (gQ ((r[i]:Nat):Int)) W:=λW m=>by
  have:=(v W _ (g.mod m dS) (by simpa using hi)).1;simpa using this
 have f:∀W,M0 w W->(iL 37 q).run pQ W=.ok (gQ ((r[k]:Nat):Int)) W:=λW m=>by
  have:=(z W _ (g.mod m dS) (by simpa using o)).1;simpa using this
 have md:M0 w w.drew:=sK;have b:M0 w w.drew.drew:=md.drew
 have A:xI r (i:Int) (k:Int)=if r[k]<r[i]then -1 else if r[i]<r[k]then 1 else 0:=by
  unfold xI;rw[gH,gH,iH,iH,aq hi,aq o,dt,dt]
 rw[A]at e;refine cK (d _ md) (bQ (λW=>u .i64 W) (cK (h _ md) (cK (d _ md) (bQ (λW=>t .i64 W) (cK (f _ md) ?_)))));refine rD ?_;by_cases h1:r[k]<r[i]
 ·rw[mP h1];rw[ae h1]at e;exact e _ md
 ·rw[aw,aa (by grind)];rw[aa h1]at e;refine cK (d _ b) (bQ (λW=>u .i64 W) (cK (h _ b) (cK (d _ b) (bQ (λW=>t .i64 W) (cK (f _ b) ?_)))));refine rD ?_;by_cases l:r[i]<r[k]
  ·rw[mP l];rw[ae l]at e;exact e _ b
  ·rw[aw,aa (by grind)];rw[aa l]at e;exact e _ b
end Go.Proofs
set_option maxRecDepth 100000
set_option maxHeartbeats 1000000
namespace Go.Proofs
open Go Go.Vc Go.Srt
attribute [local congr] aZ
def zu{α:Type}{A:List α}{z:α}{n i:Nat}(b:A.length=n)(hi:i<n):(A.take i++List.replicate (n - i) z).set i (A[i]'qZ)=A.take (i+1)++List.replicate (n - (i+1)) z:=by
 have h1:(A.take i).length=i:=by grind
 obtain⟨k,a⟩:∃k,n - i=k+1:=⟨n - i - 1,qZ⟩
 rw[dO _ _ qZ,h1,Nat.sub_self,a,List.replicate_succ,List.set_cons_zero,show n - (i+1)=k by omega];have e:=cq (l:=A) (i:=i) qZ;rw[e,aH];rfl
def zD:∀{p:List Int} {k:Nat} (b:k<p.length) (x:Int),(p.set k x).sum=p.sum - p[k]+x
 |a::p,0,_,x=>by simp;omega
 |a::p,k+1,b,x=>by
  have:=zD (p:=p) (k:=k) (by simpa using b) x;simp only[List.set_cons_succ,bC,il];omega
def WR{p:List Int}(h:∀x∈p,0<=x):0<=p.sum:=by
 induction p with
 |nil=>simp
 |cons a p b=>
  have h1:=b λx c=>h x (by simp[c]);have d:=h a (by simp);rw[bC];omega
def Dx:∀{p:List Int},(∀x∈p,0<=x)->∀x∈p,x<=p.sum
 |a::p,h,x,b=>by
  have e:=h a (by simp);have c:∀y∈p,0<=y:=λy d=>h y (by simp[d]);have f:0<=p.sum:=WR c;rw[bC];rcases ar.1 b with rfl|b
  ·omega
  ·have:=Dx c x b;omega
def Ju:∀{p:List Nat} {x:Nat},x∈p->x<=p.sum
 |a::p,x,b=>by
  rw[bC];rcases ar.1 b with rfl|b
  ·omega
  ·have:=Ju b;omega
def sE:∀(ws:List Nat),(ws.map λx:Nat=>(x:Int)).sum=(ws.sum:Int)
 | []=>rfl
 |x::ws=>by rw[aD,bC,bC,sE ws,jp]
def FA{w:Wt_}{K:aY}{s:Vt_}{l:List Int}{t:Int}(h:Rd w 1 s l.length (l.flatMap sZ))(hl:∀x∈l,eP x)(ht:eP t)(hn:l.length<=100000)
  (hK:∀s' w',te w' s' (ft t l).1->M0 w w' ->(∀b,aK s' b->w.heap.size<=b)->K (.tuple #[s',gI (ft t l).2]) w'):Ca pQ 306 #[.int .i64 t,s] w K:=by
 refine cN Tryz.func306 ?_;obtain⟨a,c,hs⟩:=h.isSl;have A:∀{W:Wt_},(builtin .len #[297] 3 #[false] #[s]).run pQ W=.ok (.value (gI (l.length:Int))) W:=λ{W}=>by rw[hs];simp[go_sem]
 have bad:∀e,ft t l=([],e)->K (.tuple #[.slice none 0 0,gI e]) w:=λe he=>by
  have hk:=hK (.slice none 0 0) w (by rw[he];exact gD.nil _ _ _) oU λb d=>by cases d
  rw[he]at hk;exact hk
 apply sr A;by_cases o:1000<l.length
 ·have B:(1000:Int)<(l.length:Int):=qZ;refine dB B ?_;exact bad 3 (by unfold ft;rw[ae o])
 have B:¬(1000:Int)<(l.length:Int):=qZ;refine ey B ?_;refine cG.at (λst W=>st=(.bool (decide (t<0\/(l.any λx=>decide (x<0))=true)),())/\W=w) ?_ ?_
 ·by_cases v:t<0
  ·refine dB v ?_;exact⟨by simp[v],rfl⟩
  ·refine ey v ?_;apply K9 h qZ;refine⟨?_,rfl⟩
   have e:decide (t<0\/(l.any λx=>decide (x<0))=true)=l.any λx=>decide (x<0):=by
    rw[dr,decide_eq_true_iff];exact⟨λh=>h.resolve_left v,.inr⟩
   rw[e]
 rintro _ W ⟨rfl,rfl⟩;refine jG ?_;intro _;by_cases j:t<0\/(l.any λx=>decide (x<0))=true
 ·rw[mP j];exact bad 2 (by unfold ft;rw[aa o,ae j])
 rw[Hm j];apply De h qZ hl;by_cases hR:eP l.sum
 case neg=>
  have hs6:sm l=(0,6):=by unfold sm;rw[aa hR]
  rw[hs6];refine dq ?_;refine dq ?_;refine jZ ?_;exact bad 6 (by unfold ft;rw[aa o,aa j,ae hR])
 have hs0:sm l=(l.sum,0):=by unfold sm;rw[ae hR]
 rw[hs0];refine dq ?_;refine dq ?_;refine eK ?_;apply sr A;refine mkZ wE T4 (z:=gI 0) cy rfl rfl qZ qZ λE w1 o1 m1 n1=>?_;rw[XB]at o1
 have o1:te w1 E (List.replicate l.length 0):=by
  unfold te;rw[di];exact o1
 by_cases v:t=0
 ·refine dB v ?_;have e:ft t l=(List.replicate l.length 0,0):=by unfold ft;rw[aa o,aa j,aa (by simpa using hR),ae v]
  rw[e]at hK;exact hK E w1 o1 m1 n1
 refine ey v ?_;by_cases L:l.sum=0
 ·refine dB L ?_;have e:ft t l=([],10):=by unfold ft;rw[aa o,aa j,aa (by simpa using hR),aa v,ae L]
  rw[e]at hK;exact hK (.slice none 0 0) w1 (gD.nil _ _ _) m1 λb d=>by cases d
 refine ey L ?_;have e:ft t l=(su t.toNat (l.map Int.toNat),0):=by unfold ft;rw[aa o,aa j,aa (by simpa using hR),aa v,aa L]
 rw[e]at hK
 have hnn:∀x∈l,0<=x:=λx D=>by
  apply aI;intro hc;exact j (.inr (g8.2 ⟨x,D,by simp;omega⟩))
 obtain⟨f,hws⟩:=df (l.map Int.toNat)
 have hlw:l=f.map λx:Nat=>(x:Int):=by
  rw[hws,dK]
  conv=>lhs;rw[<-kD l]
  exact dZ λx D=>by show x=((x.toNat:Nat):Int);have:=hnn x D;omega
 obtain⟨T,hT⟩:=df (t.toNat:Nat)
 have htT:t=(T:Int):=by
  have:¬t<0:=λh=>j (.inl h);omega
 have hsw:l.sum=(f.sum:Int):=by rw[hlw,sE]
 obtain⟨S,hS⟩:=df f.sum;obtain⟨n,hnd⟩:=df l.length;have hwl:f.length=n:=by rw[hws,ah,hnd]
 rw[<-hws,<-hT]at hK;rw[<-hnd]at A o1;have Z:0<S:=qZ
 have hn0:0<n:=by
  apply aI;intro hc;have:f=[]:=gZ qZ;rw[this]at hS;simp at hS;omega
 clear j bad;apply sr A;refine mkZ wS Ms (z:=gQ 0) cy rfl rfl qZ qZ λrs w2 o2 m2 n2=>?_;rw[ae8]at o2;have o2:Ah w2 rs (List.replicate n 0):=by unfold Ah;rw[di];exact o2
 obtain⟨ra,rc,hrs,-⟩:=o2.isSl;obtain⟨M,hvp⟩:=df w2.heap.size;have m3:M0 w2 (w2.alloc (.cells #[.slice none 0 0] 39)):=kU;have b3:hC (w2.alloc (.cells #[.slice none 0 0] 39)) M #[.slice none 0 0] 39:=by rw[hvp];simp[go_sem]
 apply ax (bO M 0) (w2.alloc (.cells #[.slice none 0 0] 39)) (by rw[hvp];simp[go_sem]);generalize w2.alloc (.cells #[.slice none 0 0] 39)=w3 at m3 b3|-;apply pl (w3.setCell ⟨M,0,none⟩ rs) (by rw[hrs];simp[go_sem,b3]);have m4:aS (λx=>x=M) w3 (w3.setCell ⟨M,0,none⟩ rs):=(aS.refl (λx=>x=M) w3).sc;have b4:hC (w3.setCell ⟨M,0,none⟩ rs) M #[rs] 39:=by simp[go_sem,b3]
 generalize w3.setCell ⟨M,0,none⟩ rs=w4 at m4 b4|-;have M24:M0 w2 w4:=m3.on m4 λx D=>fM;rw[htT];apply ax (gQ (T:Int)) w4 (by simp[go_sem];rw[Iy]);apply sr A;refine mkZ Kh XC (z:=gI 0) cy rfl rfl qZ qZ λos w5 o5 m5 n5=>?_;rw[XB]at o5;have o5:E8 w5 os (List.replicate n 0):=by unfold E8;rw[di];exact o5
 apply sr A;have J:∀b,aK E b->b<w1.heap.size:=λb d=>o1.lt d;have I:∀b,aK rs b->w1.heap.size<=b/\b<M:=λb d=>⟨n2 b d,by rw[hvp];exact o2.lt d⟩
 have hz4:=ay b4;have u:∀b,aK os b->M<b:=λb d=>by have:=n5 b d;omega
 have hs1:=m1.size;have hs2:=m2.size;have hq:=Ei Z T (ws:=f) qZ;have ql:(oR T S f).length=n:=by unfold oR;rw[ah,hwl]
 have rl:(qE T S f).length=n:=by unfold qE;rw[ah,hwl]
 have M15:M0 W w5:=((m1.trans m2).trans M24).trans m5;let m:Nat->Int:=λx=>(x:Int)
 refine d8 (λst R=>∃(i left:Nat),st=(gQ (left:Int),gI i,())/\i<=n/\left+(oR T S (f.take i)).sum=T/\te R E (((oR T S f).map m).take i++List.replicate (n - i) 0)/\Ah R rs (((qE T S f).map m).take i++List.replicate (n - i) 0)/\
   E8 R os (((List.range n).map m).take i++List.replicate (n - i) 0)/\hC R M #[rs] 39/\M0 W R)
  (λst _=>match st.2.1 with| .int _ i=>n - i.toNat|_=>0) ⟨0,T,rfl,qZ,by simp[oR],?_,?_,?_,m5.hpk b4 id,M15⟩ ?_
 ·rw[dR,eX,jL];exact o1.mod ((m2.trans M24).trans m5) dS
 ·rw[dR,eX,jL];exact o2.mod (M24.trans m5) dS
 ·rw[dR,eX,jL];exact o5
 rintro⟨_,_,_⟩ W6 ⟨i,left,⟨⟩,hi,hleft,j1,j2,j3,j4,j5⟩ KN hKN;refine lE ?_;intro _;have hcl:((oR T S f).map m).length=n:=by rw[ah,ql]
 have hcl2:((qE T S f).map m).length=n:=by rw[ah,rl]
 have hcl3:((List.range n).map m).length=n:=by rw[ah,List.length_range]
 by_cases G:i<n
 ·have hlt' :(i:Int)<(n:Int):=qZ;have hil:i<l.length:=qZ;have hiw:i<f.length:=qZ;rw[<-hnd]at h;refine dB G ?_;obtain⟨b,off,e1,C,e',fz,hC,hCx⟩:=IM ou (h.mod j5 dS) hnd wE Og hil rfl;apply bh (e1 .i64);have hli:l[i]=((f[i]:Nat):Int):=by simp only[hlw,cD]
  obtain⟨x,D⟩:=df (f[i]);rw[<-D]at hli;have hxS:x<=S:=by rw[D,hS];exact Ju (av hiw)
  apply ax (gI (x:Int)) W6 (by rw[hli]at hCx;simp[go_sem,hC,hCx]);apply ax (gQ (T:Int)) W6 (by simp[go_sem];rw[Iy]);apply ax (gQ (x:Int)) W6 (by simp[go_sem];rw[Iy]);apply NS qZ qZ;refine dq ?_;refine dq ?_;rw[hsw,<-hS];apply ax (gQ (S:Int)) W6 (by simp[go_sem];rw[Iy])
  have hp1:T*x<S*18446744073709551616:=by
   have h1:T*x<=T*S:=lj T hxS;have h2:T*S<18446744073709551616*S:=Nat.mul_lt_mul_of_pos_right qZ Z;rw[eE S];omega
  refine OJ ((gm (show 0<18446744073709551616 by omega)).2 hp1) qZ (gp _ qZ) λQ m7=>?_;rw[ni (T*x) 18446744073709551616];obtain⟨q,Y⟩:=df (T*x / S);obtain⟨r,hrd⟩:=df (T*x%S);rw[<-Y,<-hrd]
  have hqT:q<=T:=by
   rw[Y];have:T*x<=S*T:=by rw[eE S];exact lj T hxS
   exact Nat.div_le_of_le_mul this
  refine dq ?_;refine dq ?_;have md:M0 W6 Q.drew:=m7.drew;have k1:te Q.drew E _:=j1.mod md dS;have k2:Ah Q.drew rs _:=j2.mod md dS;have k3:E8 Q.drew os _:=j3.mod md dS;have k4:=md.hpk j4 id;have k5:=j5.trans md
  dsimp only
  generalize Q.drew=W8 at md k1 k2 k3 k4 k5|-;apply qy rs (by rw[hrs]at k4|-;simp[go_sem,k4]);apply qy (gI (q:Int)) (by simp[go_sem];rw[lL]);obtain⟨p1,f1,g1⟩:=k1.el (i:=i) (by rw[ag,aB,di];omega);obtain⟨p2,f2,g2⟩:=k2.el (i:=i) (by rw[ag,aB,di];omega);obtain⟨p3,f3,g3⟩:=k3.el (i:=i) (by rw[ag,aB,di];omega);apply bQ (λW=>f1 .i64 W);obtain⟨W9,s1,q1,H⟩:=(g1 _ _ k1 (by rw[ag,aB,di];omega)).2 (q:Int);apply gg s1;have c4:=H.hpk k4 λd=>by have:=J _ d;omega
  refine⟨by rw[hrs]at c4|-;simp[go_sem,c4],?_⟩;apply bQ (λW=>f2 .i64 W);have c2:Ah W9 rs _:=k2.mod H λb d g=>by have:=J _ g;have:=I _ d;omega
  obtain⟨W10,s2,q2,V⟩:=(g2 _ _ c2 (by rw[ag,aB,di];omega)).2 (r:Int);apply gg s2;apply bQ (λW=>f3 W);have c3:E8 W10 os _:=(k3.mod H λb d g=>by have:=J _ g;have:=u _ d;omega).mod V λb d g=>by have:=I _ g;have:=u _ d;omega
  obtain⟨W11,s3,q3,X⟩:=(g3 _ _ c3 (by rw[ag,aB,di];omega)).2 (i:Int);apply gg s3
  have hqs:(oR T S (f.take (i+1))).sum=(oR T S (f.take i)).sum+q:=by
   rw[cq hiw];unfold oR;rw[aM,fN,Y,D];simp
  have hqs2:(oR T S (f.take (i+1))).sum<=T:=Ei Z T (by
   rw[hS]
   conv=>rhs;rw[<-cH (i+1) f]
   rw[fN];omega)
  apply ax (gQ ((left - q:Nat):Int)) W11 (by simp[go_sem];rw[Iy];omega);apply ax (gI ((i+1:Nat):Int)) W11 (by simp[go_sem];rw[lL]);refine hKN _ _ ⟨i+1,left - q,rfl,qZ,qZ,?_,?_,?_,?_,?_⟩ (by show n - (((i+1:Nat):Int)).toNat<n - ((i:Int)).toNat;omega)
  ·have e1:((oR T S f).map m)[i]'qZ=(q:Int):=by
    rw[cD];show((_:Nat):Int)=_;unfold oR;rw[cD,Y,D]
   rw[<-zu hcl G,e1];exact(q1.mod V λb d g=>by have:=J _ d;have:=I _ g;omega).mod X λb d g=>by have:=J _ d;have:=u _ g;have:=hz4;omega
  ·have e1:((qE T S f).map m)[i]'qZ=(r:Int):=by
    rw[cD];show((_:Nat):Int)=_;unfold qE;rw[cD,hrd,D]
   rw[<-zu hcl2 G,e1];exact q2.mod X λb d g=>by have:=I _ d;have:=u _ g;omega
  ·have e1:((List.range n).map m)[i]'qZ=(i:Int):=by
    rw[cD];show((_:Nat):Int)=_;rw[List.getElem_range]
   rw[<-zu hcl3 G,e1];exact q3
  ·exact X.hpk (V.hpk c4 λd=>by have:=I _ d;omega) λd=>by have:=u _ d;omega
  ·refine((k5.on H λb d=>.inr (n1 b d)).on V λb d=>.inr ?_).on X λb d=>.inr ?_
   ·have:=I b d;omega
   ·have:=u b d;omega
 have hin:i=n:=qZ;subst hin;have hlt' :¬(i:Int)<(i:Int):=qZ;refine ey hlt' ?_;rw[aC qZ,Nat.sub_self,List.replicate_zero,bg]at j1 j2 j3;rw[aC qZ]at hleft;have N:((List.range i).map m).length=i:=hcl3;refine Pp (cf:=xI (qE T S f)) j3 (by rw[N];omega) ⟨_,_,rfl,λx D y hy R mW K' hK' =>?_⟩ λQ o7 m7=>?_
 ·obtain⟨xi,hxi,rfl⟩:=aL.1 D;obtain⟨yi,hyi,rfl⟩:=aL.1 hy;exact MC (mW.hpk j4 λd=>by have:=u _ d;omega) (j2.mod mW λb d g=>by have:=I _ d;have:=u _ g;omega) (by rw[rl];exact eR.1 hxi) (by rw[rl];exact eR.1 hyi) hK'
 have hord:uC (qE T S f)=Srt.stable (pz (xI (qE T S f))) ((List.range i).map m):=by unfold uC;rw[rl]
 rw[<-hord]at o7;have hop:(uC (qE T S f)).Perm ((List.range i).map m):=by rw[hord];exact stable_perm _ _
 have U:(uC (qE T S f)).length=i:=by rw[hop.length_eq,N]
 obtain⟨O,hO⟩:=df (uC (qE T S f));rw[<-hO]at o7 hop U;have hll:=G0 Z T (ws:=f) hS.symm;have hleft2:left=T - (oR T S f).sum:=qZ;rw[hwl]at hll;obtain⟨ob,F,orest,rfl,oc,oh,orl,or1⟩:=o7.pos qZ;have hk1:te Q E ((oR T S f).map m):=j1.mod m7 λb d g=>by have:=J _ d;have:=u _ g;omega
 have M7:M0 W Q:=j5.on m7 λb d=>.inr (by have:=u _ d;omega);apply bh (Hx Kh Zi (show left<=F by omega) qZ Q)
 have hov:E8 Q (.slice (some ⟨ob,0,none⟩) left F) (O.take left):=by
  have G:(O.take left).length=left:=by rw[aB,U];omega
  refine⟨by rw[tN ou],.inr ⟨ob,F,(O.drop left).flatMap sZ++orest,by rw[G],by rw[G];omega,?_,?_,?_⟩⟩
  ·rw[oh,<-aH,<-cJ,cH]
  ·rw[ag,tN ou,bq,orl,G,U];omega
  ·rw[ek,Lj uw,or1];rfl
 have hob:aK (.slice (some ⟨ob,0,none⟩) O.length F) ob:=rfl;have hobv:=u ob hob;obtain⟨v83,P⟩:=df (.slice (some ⟨ob,0,none⟩) left F:Vt_);rw[<-P]at hov|-;have hOt:(O.take left).length=left:=by rw[aB,U];omega
 have hvb:∀b,aK v83 b->M<b:=λb d=>by rw[P]at d;have:b=ob:=(by cases d;rfl);omega
 apply iq (gI (left:Int)) Q (by rw[P];simp[go_sem])
 refine d8 (λst R=>∃(k:Nat) (p:List Int),st=(gI k,())/\k<=left/\te R E p/\qu ((O.take left).drop k) p=su T f/\p.length=i/\(∀x∈p,0<=x)/\p.sum+left=T+k/\E8 R v83 (O.take left)/\M0 W R)
  (λst _=>match st.1 with| .int _ k=>left - k.toNat|_=>0) ⟨0,_,rfl,qZ,hk1,?_,hcl,λx D=>?_,?_,hov,M7⟩ ?_
 ·unfold su;rw[<-hS,<-hO,<-hleft2,eT]
 ·obtain⟨y,-,rfl⟩:=aL.1 D;exact Int.natCast_nonneg y
 ·have:((oR T S f).map m).sum=((oR T S f).sum:Int):=sE _;rw[this];omega
 rintro⟨_,_⟩ W8 ⟨k,p,⟨⟩,hk,p1,p2,p3,p4,p5,p6,p7⟩ KN hKN;refine lE ?_;intro _;by_cases hkl:k<left
 ·have hkl' :(k:Int)<(left:Int):=qZ;refine dB hkl ?_;obtain⟨a1,f1,g1⟩:=p6.el (i:=k) qZ;apply bh (f1 W8);apply bh (g1 _ _ p6 qZ).1;have hmem:(O.take left)[k]'qZ∈(List.range i).map m:=hop.mem_iff.1 (cE (av _));obtain⟨y,hy,hye⟩:=aL.1 hmem;have hyi:=eR.1 hy;rw[<-hye];obtain⟨a2,f2,g2⟩:=p1.el (i:=y) qZ;apply bh (f2 .i64 W8);apply bh (g2 _ _ p1 qZ).1;have hpy:=p4 _ (av (show y<p.length by omega));have hpy2:=Dx p4 _ (av (show y<p.length by omega));apply ax (gI (p[y]'qZ+1)) W8 (by simp[go_sem];rw[lL]);apply bh (f2 .i64 W8);obtain⟨W9,s1,q1,H⟩:=(g2 _ _ p1 qZ).2 (p[y]'qZ+1);apply gg s1;apply ax (gI ((k+1:Nat):Int)) W9 (by simp[go_sem];rw[lL]);refine hKN _ _ ⟨k+1,_,rfl,qZ,q1,?_,by rw[bK];exact p3,λx D=>?_,?_,p6.mod H λb d g=>by have:=hvb _ d;have:=J _ g;omega,p7.on H λb d=>.inr (n1 b d)⟩ (by show left - (((k+1:Nat):Int)).toNat<left - ((k:Int)).toNat;omega)
  ·rw[<-p2];have hd:(O.take left).drop k=(O.take left)[k]'qZ::(O.take left).drop (k+1):=(ce qZ).symm;rw[hd,qu,<-hye];congr 1;show p.set y _=p.set ((y:Nat):Int).toNat (p.getD ((y:Nat):Int).toNat 0+1);rw[gH,iH,aq qZ,dt]
  ·rcases ep D with D|rfl
   ·exact p4 x D
   ·omega
  ·rw[zD qZ];omega
 ·have hkl' :k=left:=qZ;have hnl:¬(k:Int)<(left:Int):=qZ;refine ey hkl ?_;rw[hkl',ck qZ,qu]at p2;subst p2;exact hK E W8 p1 p7 n1
end Go.Proofs
set_option maxRecDepth 100000
set_option maxHeartbeats 1000000
namespace Go.Proofs
open Go Go.Vc
attribute [local congr] aZ
variable {w:Wt_}
section
variable{α:Type}{f:α->List Value}{S:Nat}
def Fu{w:Wt_}{e:TypeId}{sl:Vt_}{l:List α}(g:∀x,(f x).length=S)(h:gD w e S sl l.length (l.flatMap f)){i:Nat}(hi:i<l.length):
  ∃b a rest,sl=.slice (some ⟨b,0,none⟩) l.length a/\hC w b (l.flatMap f++rest).toArray e/\At w b (i*S) (f l[i])/\∀j,j<S->(l.flatMap f++rest)[i*S+j]? =(f l[i])[j]? :=by
 obtain⟨b,a,rest,rfl,r,d,q⟩:=h.pos qZ;have k:=h.1;have o:(i+1)*S<=l.length*S:=cF S hi;rw[er,Nat.one_mul]at o;have c:At w b 0 (l.flatMap f++rest):=At.all (bT d);have h1:=c.sub (i*S) S (by grind);rw[dc (by rw[k];omega),aN (by grind),lA f S l i (λx _=>g x) hi,cM]at h1;refine⟨b,a,rest,rfl,bT d,h1,λj p=>?_⟩;rw[cn (by rw[k];omega)];have n:=lA f S l i (λx _=>g x) hi;have m:(((l.flatMap f).drop (i*S)).take S)[j]? =(f l[i])[j]? :=by rw[n]
 rw[fb,ae p,fe]at m;exact m
def Au{w:Wt_}{e:TypeId}{b cap:Nat}{l:List α}(n:∀x,(f x).length=S)(h:gD w e S (.slice (some ⟨b,0,none⟩) l.length cap) l.length (l.flatMap f)){i:Nat}(hi:i<l.length){j:Nat}(t:j<S){v:Vt_}{k' :α}(c:(f l[i]).set j v=f k'):
  gD (w.setCell ⟨b,i*S+j,none⟩ v) e S (.slice (some ⟨b,0,none⟩) (l.set i k').length cap) (l.set i k').length ((l.set i k').flatMap f):=by
 obtain⟨k,a,rest,r,u,m,p,g⟩:=h.pos qZ;obtain⟨rfl,rfl⟩:b=k/\cap=a:=by simpa using r
 have o:=h.1;have q:(i+1)*S<=l.length*S:=cF S hi;rw[er,Nat.one_mul]at q
 have d:∀(l:List α) (i:Nat) (hi:i<l.length),(f l[i]).set j v=f k' ->(l.flatMap f).set (i*S+j) v=(l.set i k').flatMap f:=by
  intro l;induction l with
  |nil=>intro i hi;simp at hi
  |cons x l s=>
   intro i hi c;cases i with
   |zero=>
    simp only[eO]at c;rw[bR,jK,cM,eh _ _ (by rw[n];omega),c];rfl
   |succ i=>
    have e:(i+1)*S+j=(f x).length+(i*S+j):=by grind
    rw[bR,e,dO _ _ qZ,fS,s i (by simpa using hi) (by simpa using c)];rfl
 refine⟨by grind,.inr ⟨b,cap,rest,by grind,by grind,?_,by grind,g⟩⟩;rw[jU,ae rfl,m,eM,bP,eh _ _ (by rw[o];omega),d l i hi c]
end
structure Du where
 acct:Int
 cash:Int
 v:Int
structure Sd where
 acct:Int
 cash:Int
 dfl:Bool
 cut:Int
def I1(d:Du):List Value:=[.int .u32 d.acct,gI d.cash,gI d.v]
def vY(d:Sd):List Value:=[.int .u32 d.acct,gI d.cash,.bool d.dfl,gI d.cut]
def TE(d:Du):(I1 d).length=3:=rfl
def oo(d:Sd):(vY d).length=4:=rfl
def RS(d:Sd):(vY d).all (·.oneCell')=true:=rfl
def Z6(d:Du):Value:=.agg (I1 d).toArray
def YX:Tryz.prog.underlying 367=some (.slice 369):=cy
def V7:Tryz.prog.underlying 370=some (.slice 374):=cy
def nSd:Tryz.prog.cellsOf 374=3+1:=cy
def xr(n:Int):Bool:=aW n 0 1000000000000000
def Cq{n:Int}{K:aY}(a:K (.bool (xr n)) w):Ca pQ 352 #[.int .i64 n] w K:=by
 refine cN Tryz.func352 ?_;unfold xr aW at a;by_cases h:0<=n
 ·simp[go_sem,h]at a|-;exact a
 ·simp[go_sem,h]at a|-;exact a
def Du.Fit(d:Du):Prop:=kV d.acct/\eP d.cash/\eP d.v
def Du.ok(d:Du):Bool:=xr d.cash&& aW d.v (-100000000000000000) 100000000000000000
def Gm:Int->List Du->Bool
 |_,[]=>true
 |last,d::l=>decide (last<d.acct)&& d.ok&& Gm d.acct l
def qO(fund:Int)(l:List Du):Bool:=Gm 0 l&& xr fund
def Y3{s:Vt_}{l:List Du}(h:Rd w 3 s l.length (l.flatMap I1)){i:Nat}(hi:i<l.length):
  ∃p,(iX 367 s (gI (i:Int))).run pQ w=.ok p w/\(iL 369 p).run pQ w=.ok (Z6 l[i]) w:=by
 obtain⟨b,d,n,a,k,o⟩:=h.item TE hi rfl;obtain⟨C,e,q,hC,c⟩:=o.get;have j:=c 0 (gU l[i].acct) rfl;have m:=c 1 (gI l[i].cash) rfl;have g:=c 2 (gI l[i].v) rfl;simp only[eD,cx]at j m g;exact⟨.pointer (some ⟨b,d+i*3,none⟩),by rw[a];simp[go_sem,hi,bD,YX],by simp[go_sem,bT hC,j,m,g,Z6,I1]⟩
def Ug(d:Du)(w:Wt_):∃a c,(iA 369 true (.tuple #[])).run pQ w=.ok (bO w.heap.size 0) a/\(iS 369 (bO w.heap.size 0) (Z6 d)).run pQ a=.ok () c/\hC c w.heap.size (I1 d).toArray 369/\M0 w c:=by
 obtain⟨a,b⟩:=df (w.alloc (.cells #[.int .u32 0,gI 0,gI 0] 369));have g:M0 w a:=by rw[b];exact(aS.refl _ w).alloc _
 have e:hC a w.heap.size #[.int .u32 0,gI 0,gI 0] 369:=by rw[b];simp[go_sem]
 refine⟨a,((a.setCell ⟨w.heap.size,0,none⟩ (gU d.acct)).setCell ⟨w.heap.size,1,none⟩ (gI d.cash)).setCell ⟨w.heap.size,2,none⟩ (gI d.v),by rw[b];simp[go_sem],by simp[go_sem,e,Z6,I1],by simp[go_sem,e,I1],?_⟩;exact g.on ((((aS.refl (λx=>x=w.heap.size) a).sc).sc).sc) λx h=>fM
def Io{K:aY}{s:Vt_}{l:List Du}{fund:Int}(h:Rd w 3 s l.length (l.flatMap I1))(Q:l.length<=1000000)(H:∀d∈l,d.Fit)
  (B:∀y,M0 w y->K (.bool (qO fund l)) y):Ca pQ 305 #[.int .i64 fund,s] w K:=by
 refine cN Tryz.func305 ?_;obtain⟨a,c,J⟩:=h.isSl;apply iq (gI (l.length:Int)) w (by rw[J];simp[go_sem])
 refine d8 (λst W=>∃(i:Nat) (last:Int) (x:Vt_),i<=l.length/\st=(x,gU last,gI i,())/\M0 w W/\Gm 0 l=Gm last (l.drop i))
  (λst _=>match st.2.2.1 with| .int _ i=>l.length - i.toNat|_=>0) ⟨0,0,_,qZ,rfl,oU,rfl⟩ ?_
 rintro⟨_,_,_,_⟩ W ⟨i,last,x,P,⟨⟩,n,e⟩ O o;refine lE ?_;intro _;by_cases k:i<l.length
 ·have m:(i:Int)<(l.length:Int):=qZ;refine dB m ?_;obtain⟨p,L,G⟩:=Y3 (h.mod n dS) k;refine bh L (bh G ?_);obtain⟨N,M,C,D,b,I⟩:=Ug l[i] W;obtain⟨q,F⟩:=df W.heap.size;rw[<-F]at C D b;refine bh C (gg D ?_);obtain⟨d,v⟩:=df (l[i]);rw[<-v]at b;have r:=H d (by grind);have g:l.drop i=d::l.drop (i+1):=by rw[v];exact(ce k).symm
  rw[g,Gm]at e;unfold I1 at b;have E:=n.trans I;refine cG.at (λst u=>st=(.bool (!(decide (last<d.acct)&& d.ok)),())/\u=M) ?_ ?_
  ·refine dq ?_;refine dE b ?_;by_cases h1:d.acct<=last
   ·refine dB h1 ?_
    exact⟨by
      have:¬last<d.acct:=qZ;simp[this],rfl⟩
   ·refine ey h1 ?_;have t:last<d.acct:=qZ;refine dq ?_;refine dE b ?_;simp only[fR];apply Cq;refine dq ?_;cases z:xr d.cash with
    |false=>
     rw[aw,ae (show(!false)=true from rfl)];exact⟨by simp[Du.ok,z],rfl⟩
    |true=>
     rw[aw,aa (by simp)];refine dq ?_;refine dE b ?_;apply gF r.2.2 qZ;refine dq ?_;exact⟨by simp[Du.ok,z,t],rfl⟩
  rintro _ u ⟨rfl,rfl⟩;refine jG ?_;intro _;cases A:(decide (last<d.acct)&& d.ok)with
  |false=>
   rw[aw,ae (show(!false)=true from rfl)];rw[A,fl]at e;have j:=B _ E;unfold qO at j;rw[e,fl]at j;exact j
  |true=>
   rw[aw,aa (by simp)];rw[A,kH]at e;refine dq ?_;refine dE b ?_;apply ax (gI ((i+1:Nat):Int)) u (by simp[go_sem];rw[lL]);exact o _ _ ⟨i+1,_,_,qZ,rfl,E,e⟩ (by grind)
 ·obtain rfl:i=l.length:=qZ;refine eK ?_;simp only[fR];apply Cq;rw[ck (az _),Gm]at e;have j:=B _ n;unfold qO at j;rw[e,kH]at j;exact j
end Go.Proofs
namespace Go.Proofs
open Go Go.Vc
attribute [local congr] aZ
def zy(d:Du):Sd:=if d.cash+d.v<0 then⟨d.acct,0,true,0⟩else⟨d.acct,d.cash+d.v,false,0⟩
def iE(d:Du):Int:=if d.cash+d.v<0 then -(d.cash+d.v)else 0
def kS(l:List Du):List Int:=(l.filter λd=>decide (0<d.v)).map (·.v)
def lK:Nat->List Du->List Nat
 |_,[]=>[]
 |i,d::l=>if 0<d.v then i::lK (i+1) l else lK (i+1) l
def kT:List Nat->List Int->List Sd->List Sd
 |i::ix,p::ps,o=>kT ix ps (match o[i]? with|some x=>o.set i {x with cut:=p,cash:=IntKind.i64.wrap (x.cash - p)}|none=>o)
 |_,_,o=>o
def gR(fund:Int)(l:List Du):List Sd×Int×Int:=
 if 64<l.length then([],0,3)
 else if qO fund l=false then([],0,2)
 else if(sm (l.map (·.v))).2≠0\/(sm (l.map (·.v))).1≠0 then([],0,130)
 else if(ft ((l.map iE).sum - min fund (l.map iE).sum) (kS l)).2≠0 then([],0,(ft ((l.map iE).sum - min fund (l.map iE).sum) (kS l)).2)
 else(kT (lK 0 l) (ft ((l.map iE).sum - min fund (l.map iE).sum) (kS l)).1 (l.map zy),fund - min fund (l.map iE).sum,0)
def zL:∀(l:List Du) (i:Nat) (d:Du),lK i (l++[d])=lK i l++(if 0<d.v then [i+l.length]else [])
 | [],i,d=>by simp[lK]
 |x::l,i,d=>by
  rw[fg,lK,lK,zL l (i+1) d,be];have e:i+1+l.length=i+(l.length+1):=qZ;rw[e];split<;>simp
def CU(l:List Du)(d:Du):kS (l++[d])=kS l++(if 0<d.v then [d.v]else []):=by
 unfold kS;rw[cw,aM];congr 1;by_cases h:0<d.v<;>simp[h]
def wF:∀(l:List Du) (i:Nat),(lK i l).length=(kS l).length
 | [],i=>rfl
 |d::l,i=>by
  unfold kS;rw[lK];have:=wF l (i+1);unfold kS at this;by_cases h:0<d.v
  ·grind
  ·grind
def wi:∀(l:List Du) (i:Nat),∀x∈lK i l,i<=x/\x<i+l.length
 | [],i,x,a=>by simp[lK]at a
 |d::l,i,x,a=>by
  rw[lK]at a;rw[be];by_cases h:0<d.v
  ·rw[ae h]at a;rcases ar.1 a with rfl|a
   ·omega
   ·have:=wi l (i+1) x a;omega
  ·rw[aa h]at a;have:=wi l (i+1) x a;omega
abbrev IG(w:Wt_)(sl:Vt_)(l:List Sd):Prop:=gD w 374 4 sl l.length (l.flatMap vY)
def Rm(d:Sd):Value:=.agg (vY d).toArray
def IC:Sd:=⟨0,0,false,0⟩
def IG.el{w:Wt_}{sl:Vt_}{l:List Sd}(h:IG w sl l){i:Nat}(hi:i<l.length):
  ∃b,aK sl b/\(∀W,(iX 370 sl (gI (i:Int))).run pQ W=.ok (bO b (i*4)) W)/\∀(W:Wt_) (c:List Sd),IG W sl c->∀g:i<c.length,
   (iL 2 (bO b (i*4+1))).run pQ W=.ok (gI c[i].cash) W/\
   (∀x:Int,∃f,(iS 2 (bO b (i*4+1)) (gI x)).run pQ W=.ok () f/\IG f sl (c.set i {c[i]with cash:=x})/\aS (aK sl) W f)/\
   (∀x:Bool,∃f,(iS 4 (bO b (i*4+2)) (.bool x)).run pQ W=.ok () f/\IG f sl (c.set i {c[i]with dfl:=x})/\aS (aK sl) W f)/\
   (∀x:Int,∃f,(iS 2 (bO b (i*4+3)) (gI x)).run pQ W=.ok () f/\IG f sl (c.set i {c[i]with cut:=x})/\aS (aK sl) W f)/\
   (∀x:Sd,∃f,(iS 374 (bO b (i*4)) (Rm x)).run pQ W=.ok () f/\IG f sl (c.set i x)/\aS (aK sl) W f):=by
 obtain⟨b,d,rest,rfl,T,V,U⟩:=Fu oo h hi;have r:aK (.slice (some ⟨b,0,none⟩) l.length d) b:=rfl;refine⟨b,r,λW=>by simp[go_sem,hi,bD,V7],λW c H g=>?_⟩
 have B:c.length=l.length:=by
  obtain⟨G,q,a,M,-⟩:=H.pos qZ;have:l.length=c.length:=by grind
  exact this.symm
 have s:gD W 374 4 (.slice (some ⟨b,0,none⟩) c.length d) c.length (c.flatMap vY):=by
  have L:gD W 374 4 (.slice (some ⟨b,0,none⟩) l.length d) c.length (c.flatMap vY):=H;rw[<-B]at L;exact L
 obtain⟨G,q,a,M,k,-,p⟩:=Fu oo s g;obtain⟨rfl,rfl⟩:b=G/\d=q:=by simpa using M
 have S:=p 0 qZ;have J:=p 1 qZ;have R:=p 2 qZ;have N:=p 3 qZ;simp only[cx]at S;have md:∀j v,aS (aK (.slice (some ⟨b,0,none⟩) l.length d)) W (W.setCell ⟨b,j,none⟩ v):=λj v=>(aS.refl _ W).setCell (.inl r) _ _;have A:∀{W:Wt_} {o:List Sd},o.length=l.length->gD W 374 4 (.slice (some ⟨b,0,none⟩) o.length d) o.length (o.flatMap vY)->IG W (.slice (some ⟨b,0,none⟩) l.length d) o:=λe h=>by grind
 refine⟨by simp[go_sem,k,J,vY],λx=>⟨_,by simp[go_sem,k,J,vY],A (by grind) (Au oo s g (j:=1) qZ rfl),md _ _⟩,λx=>⟨_,by simp[go_sem,k,R,vY],A (by grind) (Au oo s g (j:=2) qZ rfl),md _ _⟩,
  λx=>⟨_,by simp[go_sem,k,N,vY],A (by grind) (Au oo s g (j:=3) qZ rfl),md _ _⟩,λx=>?_⟩
 have D:i*4+4<=(c.flatMap vY++a).toArray.size:=by
  have:=(aF.1 (N.trans rfl)).1;rw[cI];omega
 have C:=sy (P:=pQ) (t:=374) (w:=W) (b:=b) (off:=i*4) (cs:=vY x) (n:=3) nSd rfl k (by rw[oo];exact D) (RS x);refine⟨_,C,?_,(aS.refl _ W).setRow (.inl r) _⟩;obtain⟨Q,y,m,E,O,z,I,F⟩:=s.pos qZ;obtain⟨rfl,rfl⟩:b=Q/\d=y:=by simpa using E
 have K:=s.1
 have u:a=m:=by
  have e:hp W b=some (.cells (c.flatMap vY++m).toArray 374 (0,0)):=z;rw[k]at e;simpa using e
 subst u;refine A (by grind) ⟨by rw[tN oo,bK],.inr ⟨b,d,a,by grind,by grind,?_,by grind,F⟩⟩;rw[d9,ae rfl,z]
 have e:iC (c.flatMap vY++a) (i*4) (vY x)=(c.set i x).flatMap vY++a:=by
  unfold iC;rw[aN (by rw[K];omega),Rv oo,oo,dc (by rw[K];omega),show i*4+4=(i+1)*4 by omega,Us oo,List.set_eq_take_append_cons_drop,ae g];simp
 rw[<-e]
end Go.Proofs
