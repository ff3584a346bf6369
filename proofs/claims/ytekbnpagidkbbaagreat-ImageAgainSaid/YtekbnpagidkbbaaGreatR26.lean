/- Part of a proof. -/
import Derived.Test.YtekbnpagidkbbaaGreatR25
set_option linter.all false
set_option maxRecDepth 100000
set_option maxHeartbeats 4000000
namespace Go.Proofs
open Go Go.Vc
variable {S:bt}
def vB{α β:Type}{f g:α->List β}:∀{l:List α},(∀x∈l,f x=g x)->l.flatMap f=l.flatMap g
 | [],_=>rfl
 |x::l,h=>by rw[bm,bm,h x aw,vB λy a=>h y (ag _ a)]
def za:∀(l a:List (Int×Od)) (U:List Int) (S:bt),nY (l++a) U S=(nY l U S).bind λx=>nY a x.1 x.2
 | [],a,U,S=>rfl
 |x::l,a,U,S=>by
  simp only[eF,nY];split
  ·rfl
  ·split
   ·rfl
   ·exact za l a _ _
def Nt{L:List Od}{o:Od}(h:∀x∈L,gz o x.price=false):jr (!o.buy) L o.price o.acct=0:=by
 unfold jr
 have:L.takeWhile (λx=> !iG (!o.buy) o.price x.price)=[]:=by
  cases L with
  |nil=>rfl
  |cons b r=>
   rw[List.takeWhile_cons_of_neg];have h1:=h b aw;unfold gz at h1;unfold iG;cases a:o.buy with
   |true=>rw[a]at h1;simp at h1|-;omega
   |false=>rw[a]at h1;simp at h1|-;omega
 rw[this];rfl
def FA{B:Bk}{n:Int}(h:∀d,∀x∈B d,x.num≠n):B.find n=none:=by
 unfold Bk.find;rw[wy (h true),wy (h false)]
def VF{B:Bk}{o:Od}(e:o.may=true)(h:∀d,∀x∈B d,x.num≠o.num)(j:(B o.buy).length<100)(a:∀x∈B !o.buy,gz o x.price=false)(hs:∀x∈B o.buy,iG o.buy o.price x.price=false):
  db B o 4=(0,B.set o.buy (B o.buy++[o]),⟨[],[],0,o.left⟩):=by
 have i:=jD e;have k:=Nt a;unfold db;rw[aa (by simp[e]),FA h,aa (by simp),aa qZ,aa qZ,aa qZ]
 have c:eT o o.left (B !o.buy)=(o.left,B !o.buy,[],[],0):=ur (by
  cases g:B !o.buy with
  |nil=>exact .inr (.inl rfl)
  |cons b r=>exact .inr (.inr ⟨b,r,rfl,a b (by rw[g];exact aw)⟩))
 have f:(pN o.buy (B o.buy) {o with left:=o.left}).2=B o.buy++[o]:=by
  unfold pN;rw[aa (by simp[e]),aa,aa qZ]
  ·show tB o.buy (B o.buy) o=_;unfold tB Fy;have:(B o.buy).findIdx? (λx=>iG o.buy o.price x.price)=none:=dH.2 λx a=>hs x a;rw[this];simp
  ·grind
 unfold fC;simp only;rw[c];simp only;rw[ae ⟨by decide,qZ⟩,Bk.set_same,f]
def L4{T:bt}(h:S.Ok)(s:wh S)(w:T.cal=S.cal)(q:T.led=S.led)(t:T.next=S.next){n:Int}{o:Od}(c:o∈S.ords n){lots:Bool}(j:lots=true->∃d,o∈S.bk n d){U:List Int}(l:o.num ∉ U):T.stnd lots U (n,o)=true:=by
 have a:=h.ord.alive c;obtain⟨k,e,-⟩:=oI a;have b:=h.ord.std n o c;obtain⟨p,i⟩:=s.spc n k e;unfold bt.stnd;rw[w,q,t]
 have u:S.led.stB o.acct=true:=by
  obtain⟨x,h1,g,r⟩:=b.acc;unfold bJ.stB
  have:o.acct≠0:=by
   have:=b.may;unfold Od.may at this;simp only[ai,aS]at this;exact this.1.1.2
  rw[oS this,h1];simp[g,r]
 have m:dO S.cal.l n=(k,0):=by unfold dO;rw[e]
 have v:(!lots||k.spec.isQty o.left)=true:=by
  cases lots with
  |false=>rfl
  |true=>
   obtain⟨d,f⟩:=j rfl;rw[i d o f];rfl
 show(decide (bG S.cal.l n=0)&& (S.led.stB o.acct&& (o.may&& ((dO S.cal.l n).1.spec.isPrice o.price&& ((!lots||(dO S.cal.l n).1.spec.isQty o.left)&& (decide (o.num<S.next)&& !U.contains o.num))))))=true;rw[u,m,aW a,b.may,p o c,v,aW b.num];simpa using l
def yQ{S:bt}(h:S.Ok)(p:wh S){n:Int}{d:Bool}:∀(b l1:List Od) (U:List Int) (T:bt),S.bk n d=l1++b->T.cal=S.cal->T.led=S.led->T.next=S.next->T.bk n d=l1->(∀e,∀x∈T.bk n e,x∈S.bk n e)->(∀o∈b,o.num ∉ U)->(∀x∈T.bk n (!d),∀o∈b,x.num≠o.num)->
  nY (b.map λo=>(n,o)) U T=some ((b.map (·.num)).reverse++U,{T with bk:=eS T.bk n ((T.bk n).set d (l1++b))})
 | [],l1,U,T,h1,r,z,u,q,A,C,w=>by
  have:eS T.bk n ((T.bk n).set d (l1++[]))=T.bk:=by rw[aN,<-q,Bk.set_same,Ix]
  rw[this];rfl
 |o::b,l1,U,T,h1,r,z,u,q,A,C,w=>by
  have j:o∈S.bk n d:=by rw[h1];simp
  have m:=(h.ord.bkNd n).side d;rw[h1,aM,aI,dD,ce]at m;obtain⟨E,⟨G,F⟩,v⟩:=m;have c:=(h.ord.side n d).2 o j;have l:=(h.ord.side n d).1;rw[h1,af,be]at l;have t:=L4 (T:=T) (lots:=true) h p r z u (iz j) (λ_=>⟨d,j⟩) (C o aw);have i:=(p.bks n).srt d;unfold xm at i;rw[h1,dt]at i
  have s:db (T.bk n) o 4=(0,(T.bk n).set d (l1++[o]),⟨[],[],0,o.left⟩):=by
   have:=VF (B:=T.bk n) (o:=o) (h.ord.std n o (iz j)).may (λe x a=>?_) (by rw[c,q];omega) (λx a=>?_) (λx a=>?_)
   ·grind
   ·by_cases g:e=d
    ·subst g;rw[q]at a;exact λe=>v _ (aX (f:=(·.num)) a) _ aw e
    ·obtain rfl:e= !d:=by cases e<;>cases d<;>simp_all
     exact w x a o aw
   ·rw[c]at a;have k:=A _ x a;unfold gz;rw[c];cases d with
    |true=>have:=(p.bks n).unc o j x k;simp;omega
    |false=>have:=(p.bks n).unc x k o j;simp;omega
   ·grind
  rw[aI,nY];rw[aa (by rw[t];simp),s,aa (by simp)];have I:=yQ h p b (l1++[o]) (o.num::U) {T with bk:=eS T.bk n ((T.bk n).set d (l1++[o]))} (by rw[h1];simp) r z u (by show eS T.bk n _ n d=_;rw[cQ,Bk.set_self]) (λe x a=>?_) (λy D=>?_) λx a y D=>?_
  ·refine I.trans ?_
   have H:eS (eS T.bk n ((T.bk n).set d (l1++[o]))) n ((eS T.bk n ((T.bk n).set d (l1++[o])) n).set d (l1++[o]++b))=eS T.bk n ((T.bk n).set d (l1++o::b)):=by
    rw[Ay,cQ];congr 1;funext e;by_cases g:e=d
    ·subst g;rw[Bk.set_self,Bk.set_self];simp
    ·rw[Bk.set_ne _ _ g,Bk.set_ne _ _ g,Bk.set_ne _ _ g]
   show some (_,({T with bk:=eS (eS T.bk n ((T.bk n).set d (l1++[o]))) n ((eS T.bk n ((T.bk n).set d (l1++[o])) n).set d (l1++[o]++b))}:bt))=_;rw[H];simp
  ·replace a:x∈eS T.bk n ((T.bk n).set d (l1++[o])) n e:=a;rw[cQ]at a;by_cases g:e=d
   ·subst g;rw[Bk.set_self]at a;rw[h1];rcases bf.1 a with k|k
    ·grind
    ·grind
   ·rw[Bk.set_ne _ _ g]at a;exact A e x a
  ·intro J;rcases ax.1 J with k|k
   ·grind
   ·grind
  ·replace a:x∈eS T.bk n ((T.bk n).set d (l1++[o])) n (!d):=a;rw[cQ,Bk.set_other]at a;exact w x a y (ag _ D)
def Ux(h:S.Ok)(m:wh S){n:Int}{U:List Int}{T:bt}(i:T.cal=S.cal)(l:T.led=S.led)(j:T.next=S.next)(c:T.bk n=Bk.empty)(k:∀o∈(S.bk n).all,o.num ∉ U):
  nY ((S.bk n).all.map λo=>(n,o)) U T=some (((S.bk n).all.map (·.num)).reverse++U,{T with bk:=eS T.bk n (S.bk n)}):=by
 have b:=h.ord.bkNd n;unfold uH Bk.all at b;rw[aM,dD]at b;unfold Bk.all at k|-;rw[aM,za];rw[yQ (d:=true) h m (S.bk n true) [] U T rfl i l j (by rw[c];rfl) (λe x a=>by rw[c]at a;cases a) (λo g=>k o (de _ g)) (λx a=>by rw[c]at a;cases a)];rw[Option.bind_some]
 have:=yQ (d:=false) h m (S.bk n false) [] (((S.bk n true).map (·.num)).reverse++U) {T with bk:=eS T.bk n ((T.bk n).set true ([]++S.bk n true))} rfl i l j
  (by show eS T.bk n _ n false=_;rw[cQ,Bk.set_ne _ _ (by decide),c];rfl) (λe x a=>?_) (λo g=>?_) λx a o g=>?_
 ·refine this.trans ?_
  have q:eS (eS T.bk n ((T.bk n).set true ([]++S.bk n true))) n ((eS T.bk n ((T.bk n).set true ([]++S.bk n true)) n).set false ([]++S.bk n false))=eS T.bk n (S.bk n):=by
   rw[Ay,cQ];congr 1;funext e;cases e
   ·rw[Bk.set_self];rfl
   ·rw[Bk.set_ne _ _ (by decide),Bk.set_self];rfl
  show some (_,({T with bk:=eS (eS T.bk n ((T.bk n).set true ([]++S.bk n true))) n ((eS T.bk n ((T.bk n).set true ([]++S.bk n true)) n).set false ([]++S.bk n false))}:bt))=_;rw[q,aM,List.reverse_append,ar]
 ·replace a:x∈eS T.bk n ((T.bk n).set true ([]++S.bk n true)) n e:=a;rw[cQ]at a;cases e
  ·rw[Bk.set_ne _ _ (by decide),c]at a;cases a
  ·rw[Bk.set_self]at a;exact a
 ·intro r;rcases bf.1 r with p|p
  ·grind
  ·grind
 ·replace a:x∈eS T.bk n ((T.bk n).set true ([]++S.bk n true)) n true:=a;rw[cQ,Bk.set_self]at a;exact b.2.2 _ (aX (f:=(·.num)) a) _ (aX (f:=(·.num)) g)
def H7{S:bt}(h:S.Ok)(u:wh S):∀(b P:List Int) (U:List Int) (T:bt),(P++b).Nodup->T.cal=S.cal->T.led=S.led->T.next=S.next->T.bd=(λ_=>[])->(∀m,T.bk m=if m∈P then S.bk m else Bk.empty)->(∀x∈U,∃m∈P,∃o∈(S.bk m).all,o.num=x)->
  ∃p a,nY (b.flatMap λn=>(S.bk n).all.map λo=>(n,o)) U T=some (p,a)/\a.cal=S.cal/\a.led=S.led/\a.next=S.next/\a.bd=(λ_=>[])/\(∀m,a.bk m=if m∈P++b then S.bk m else Bk.empty)/\∀x∈p,∃m∈P++b,∃o∈(S.bk m).all,o.num=x
 | [],P,U,T,l,d,g,f,r,j,q=>⟨U,T,rfl,d,g,f,r,by rw[aN];exact j,by rw[aN];exact q⟩
 |n::b,P,U,T,l,d,g,f,r,j,q=>by
  have c:n ∉ P:=λt=>(dD.1 l).2.2 n t n aw rfl
  have e:=Ux h u (n:=n) (U:=U) (T:=T) d g f (by rw[j,aa c]) λo v t=>by
   obtain⟨m,i,y,s,A⟩:=q _ t;have:=h.ord.apart m n y o (de _ s) (de _ v) A;exact c (this▸i)
  rw[bm,za,e,Option.bind_some];refine Exists.elim (H7 h u b (P++[n]) (((S.bk n).all.map (·.num)).reverse++U) {T with bk:=eS T.bk n (S.bk n)} (by rw[ar];exact l) d g f r (λm=>?_) (λx k=>?_)) λp ⟨a,G,H,C,E,D,F,B⟩=>?_
  rotate_right 1
  ·grind
  ·show eS T.bk n (S.bk n) m=_;by_cases i:m=n
   ·subst i;rw[cQ,ae (by simp)]
   ·rw[eR _ _ _ i,j];by_cases w:m∈P
    ·grind
    ·grind
  ·rcases bf.1 k with z|z
   ·grind
   ·grind
def L6{S:bt}(h:S.Ok)(i:wh S){n:Int}(rest:List (Int×Od)):∀(c l1:List Od) (d:Option Int) (last:Int) (U:List Int) (T:bt),S.bd n=l1++c->T.cal=S.cal->T.led=S.led->T.next=S.next->T.bd n=l1->(∀o∈c,o.num ∉ U)->(∀o∈c,(if d≠none/\d≠some n then 0 else last)<o.num)->
  ∃b a f,oV (c.map (λo=>(n,o))++rest) d last U T=oV rest b a f {T with bd:=eS T.bd n (l1++c)}/\((b=d/\a=last)\/b=some n)/\∀x∈f,x∈U\/∃o∈c,o.num=x
 | [],l1,d,last,U,T,h1,m,s,q,k,t,u=>⟨d,last,U,by
   have:eS T.bd n (l1++[])=T.bd:=by rw[aN,<-k,Ix]
   rw[this];rfl,.inl ⟨rfl,rfl⟩,λx i=>.inl i⟩
 |o::c,l1,d,last,U,T,h1,m,s,q,k,t,u=>by
  have z:o∈S.bd n:=by rw[h1];simp
  have p:=L4 (T:=T) (lots:=false) h i m s q (jB z) (λh=>by cases h) (t o aw);have g:=h.ord.bdl n;rw[h1,af,be]at g;have A:=i.bdn n;rw[h1,dt,bY]at A;have r:=h.ord.bdNd n;rw[h1,aM,aI,dD,ce]at r;rw[aI,eF,oV];rw[aa (by rw[p];simp),aa (by have:=u o aw;simp only;omega),aa (by simp only;rw[k];omega)];refine Exists.elim (L6 (n:=n) h i rest c (l1++[o]) (some n) o.num (o.num::U) {T with bd:=eS T.bd n (T.bd n++[o])} (by rw[h1];simp) m s q (by show eS T.bd n _ n=_;rw[cQ,k]) (λy v C=>?_) (λy v=>?_)) λb ⟨a,f,B,j,w⟩=>?_
  rotate_right 1
  ·refine⟨b,a,f,B.trans ?_,.inr (by rcases j with j|j;exact j.1;exact j),λx l=>?_⟩
   ·show oV rest b a f {T with bd:=eS (eS T.bd n (T.bd n++[o])) n (l1++[o]++c)}=_;rw[Ay,ar];rfl
   ·rcases w x l with e|⟨y,v,D⟩
    ·rcases ax.1 e with e|e
     ·grind
     ·exact .inl e
    ·grind
  ·rcases ax.1 C with e|e
   ·grind
   ·grind
  ·grind
def Ig{S:bt}(h:S.Ok)(F:wh S):∀(e P:List Int) (a:Option Int) (last:Int) (U:List Int) (T:bt),(P++e).Nodup->T.cal=S.cal->T.led=S.led->T.next=S.next->T.bk=S.bk->(∀m,T.bd m=if m∈P then S.bd m else [])->(∀x∈U,∃m o,o∈S.ords m/\o.num=x/\(m∈P\/o∈(S.bk m).all))->((a=none/\last=0)\/∃k∈P,a=some k)->
  ∃d,oV (e.flatMap λn=>(S.bd n).map λo=>(n,o)) a last U T=some d/\d.cal=S.cal/\d.led=S.led/\d.next=S.next/\d.bk=S.bk/\∀m,d.bd m=if m∈P++e then S.bd m else []
 | [],P,a,last,U,T,v,i,p,q,z,s,B,r=>⟨T,rfl,i,p,q,z,by rw[aN];exact s⟩
 |n::e,P,a,last,U,T,v,i,p,q,z,s,B,r=>by
  have j:n ∉ P:=λA=>(dD.1 v).2.2 n A n aw rfl
  have w:(if a≠none/\a≠some n then 0 else last)=0:=by
   rcases r with⟨t,C⟩|⟨k,I,t⟩
   ·rw[t,C];simp
   ·grind
  refine Exists.elim (L6 h F (n:=n) (e.flatMap λn=>(S.bd n).map λo=>(n,o)) (S.bd n) [] a last U T rfl i p q (by rw[s,aa j]) (λo g A=>?_) (λo g=>?_)) λy ⟨b,H,O,Q,J⟩=>?_
  rotate_right 1
  ·rw[bm,O];refine Exists.elim (Ig h F e (P++[n]) y b H {T with bd:=eS T.bd n ([]++S.bd n)} (by rw[ar];exact v) i p q z (λm=>?_) (λx u=>?_) ?_) λd ⟨R,Y,X,Z,V,W⟩=>?_
   rotate_right 1
   ·grind
   ·show eS T.bd n ([]++S.bd n) m=_;by_cases G:m=n
    ·subst G;rw[cQ,ae (by simp)];rfl
    ·rw[eR _ _ _ G,s];by_cases L:m∈P
     ·grind
     ·grind
   ·rcases J x u with h9|⟨o,g,N⟩
    ·grind
    ·exact⟨n,o,jB g,N,.inl (by simp)⟩
   ·rcases Q with⟨t,C⟩|t
    ·rcases r with r|⟨k,I,e3⟩
     ·grind
     ·grind
    ·grind
  ·obtain⟨m,M,K,D,l⟩:=B _ A;have:=h.ord.apart m n M o K (jB g) D;subst this;rcases l with l|l
   ·exact j l
   ·have c:=h.ord.nd m;unfold bt.ords at c;rw[aM,dD]at c;exact c.2.2 _ (aX (f:=(·.num)) l) _ (aX (f:=(·.num)) g) D
  ·rw[w];have E:=h.ord.std n o (jB g);have h1:=E.may;unfold Od.may at h1;simp only[ai,aS]at h1;have i:=E.fit.1.1;have p:=h1.1.1.1;omega
def DX:∀(b:List Int) (H:List Po),b.Pairwise (· < ·)->kP H->(∀p∈H,p.c∈b)->(b.flatMap λn=>H.filter λp=>decide (p.c=n))=H
 | [],H,_,_,h=>by
  cases H with
  |nil=>rfl
  |cons p H=>exact absurd (h p aw) (by simp)
 |n::b,H,o,e,h=>by
  obtain⟨f,g⟩:=bY.1 o
  have key:∀H:List Po,kP H->(∀p∈H,p.c∈n::b)->H=(H.filter λp=>decide (p.c=n))++H.filter λp=>decide (p.c≠n):=by
   intro H;induction H with
   |nil=>intro _ _;rfl
   |cons p H i=>
    intro e h;obtain⟨s1,j⟩:=bY.1 e;by_cases hp:p.c=n
    ·rw[bL (by simpa using hp),aV (by simpa using hp)];have:=i j λq a=>h q (ag _ a);rw[eF,<-this]
    ·have c:∀q∈H,q.c≠n:=λq a t=>by
      have h1:=s1 q a;rw[ox]at h1;simp only[Po.key]at h1;have d:=h p aw;rcases ax.1 d with d|d
      ·exact hp d
      ·grind
     rw[aV (by simpa using hp),bL (by simpa using hp)];have s:H.filter (λp=>decide (p.c=n))=[]:=gl.2 λq a=>by simpa using c q a
     have k:H.filter (λp=>decide (p.c≠n))=H:=cO.2 λq a=>by simpa using c q a
     rw[s,k];rfl
  have i:=DX b (H.filter λp=>decide (p.c≠n)) g (e.sublist eI) λp hp=>by
   rw[aU,aS]at hp;exact(ax.1 (h p hp.1)).resolve_left hp.2
  rw[bm]
  conv=>rhs;rw[key H e h]
  congr 1;rw[<-i];refine vB λm r=>?_;have l:=f m r;rw[gt];refine dM λp _=>?_;by_cases hp:p.c=m
  ·simp[hp];omega
  ·simp[hp]
def D6(h:S.Ok):S.nums.Pairwise (· < ·):=by
 unfold bt.nums;exact eL.2 h.cal.srt
def oE(h:S.Ok):S.state.poss=S.led.held:=
 DX S.nums S.led.held (D6 h) h.led.led.sp λp hp=>A8 (h.led.held p hp)
def vP(h:S.Ok):S.state.Fit:=by
 have e:=h.next;have i:=h.led.led.fund;unfold MF at i;unfold jZ at e;refine⟨h.cal.day,⟨by show 0<=S.next;omega,by show S.next<_;omega⟩,⟨by show _<=S.led.fund;omega,by show S.led.fund<_;omega⟩,λa f=>?_,λk g=>(h.cal.ok k g).1,λp hp=>?_,λx c=>?_,λx c=>?_⟩
 ·have:=h.led.led.acc a f;unfold MF at this;exact⟨⟨qZ,qZ⟩,by constructor<;>omega⟩
 ·rw[oE h]at hp;have:=h.led.led.pos p hp;obtain⟨a,f,l⟩:=this.2.2.2.2.2.2.2;have j:=h.led.led.acc a f;unfold MF MP at this;exact⟨⟨⟨qZ,qZ⟩,qZ,qZ⟩,by constructor<;>omega,by constructor<;>omega⟩
 ·replace c:x∈S.nums.flatMap λn=>(S.bk n).all.map λo=>(n,o):=c;obtain⟨n,e,c⟩:=List.mem_flatMap.1 c;obtain⟨o,d,rfl⟩:=aL.1 c;have b:o∈S.ords n:=de _ d;exact⟨ng h.cal (h.ord.alive b),(h.ord.std n o b).fit⟩
 ·replace c:x∈S.nums.flatMap λn=>(S.bd n).map λo=>(n,o):=c;obtain⟨n,e,c⟩:=List.mem_flatMap.1 c;obtain⟨o,d,rfl⟩:=aL.1 c;have b:o∈S.ords n:=fN _ d;exact⟨ng h.cal (h.ord.alive b),(h.ord.std n o b).fit⟩
def H5(h:S.Ok):wu S.state:=by
 have b:=h.led.led;refine⟨h.cal.len,?_,?_,h.next,λp hp=>?_⟩
 ·refine Ik (λk m=>?_) h.cal.srt;obtain⟨k1,k2,k3,k4,k5⟩:=h.cal.ok k m;refine⟨?_,k4,k5,k3⟩;unfold Sp.may at k2;simp only[ai,aS]at k2;have h1:=k1.1.1.1;have e:k.spec.num≠0:=k2.1.1.1.1.1.1.1.2;omega
 ·refine⟨b.len,fX.2 b.fund,⟨b.sa,λa d=>⟨(b.acc a d).1,fX.2 (b.acc a d).2.2⟩⟩,h.fnd,by rw[oE h];exact b.sp,λp hp=>?_,λc=>?_⟩
  ·rw[oE h]at hp;obtain⟨r,q,f,i,g,j,l,n⟩:=b.pos p hp;obtain⟨a,d,o⟩:=n;exact⟨qZ,by have:=(b.acc a d).1;omega,⟨a,d,o⟩,f,fX.2 ⟨i,g⟩,fX.2 ⟨j,l⟩⟩
  ·rw[oE h];have h1:=h.led.zero c;have e:=H3 S.led.held c;rw[e.1,e.2]at h1;exact h1
 ·rw[oE h]at hp;exact h.led.held p hp
def LV(h:S.Ok){n:Int}(e:n ∉ S.nums):S.bk n=Bk.empty/\S.bd n=[]:=by
 have b:=h.ord.out n λc=>e (A8 c);constructor
 ·funext d;cases a:S.bk n d with
  |nil=>rfl
  |cons x l=>
   have:x∈S.ords n:=iz (d:=d) (by rw[a];exact aw);rw[b]at this;cases this
 ·cases a:S.bd n with
  |nil=>rfl
  |cons x l=>
   have:x∈S.ords n:=jB (by rw[a];exact aw);rw[b]at this;cases this
def Jt(h:S.Ok)(b:wh S):tn S.state=some S:=by
 have e:S.nums.Nodup:=(D6 h).imp λu=>by omega
 obtain⟨U,T,H,I,A,D,B,E,w⟩:=H7 h b S.nums [] [] (tK S.state) e rfl (by show(⟨S.led.fund,S.led.all,S.state.poss⟩:bJ)=_;rw[oE h]) rfl rfl (λm=>rfl) (λx b=>by cases b)
 have i:T.bk=S.bk:=by
  funext m;rw[E];by_cases a:m∈ []++S.nums
  ·rw[ae a]
  ·rw[aa a,(LV h a).1]
 obtain⟨j,v,s,q,t,p,y⟩:=Ig h b S.nums [] none 0 U T e I A D i (λm=>by rw[B];rfl) (λx b=>by
  obtain⟨m,-,o,r,G⟩:=w x b;exact⟨m,o,de _ r,G,.inr r⟩) (.inl ⟨rfl,rfl⟩)
 have f:j.bd=S.bd:=by
  funext m;rw[y];by_cases a:m∈ []++S.nums
  ·rw[ae a]
  ·rw[aa a,(LV h a).2]
 have z:j=S:=by
  obtain⟨c,l,k,d,n⟩:=j;simp only at s q t p f;subst s q t p f;rfl
 have g:zD S.state=some S:=by
  unfold zD;have F:nY S.state.ords [] (tK S.state)=some (U,T):=H;have C:oV S.state.bids none 0 U T=some S:=z▸v;rw[F,Option.bind_some];exact C
 unfold tn;rw[ae (H5 h),g,Option.bind_some,ae ⟨rfl,rfl⟩]
end Go.Proofs
namespace Go.Proofs
open Go Go.Vc
attribute [local congr] bj
variable {ss:Nat->Value}{w:Wt_}{s:uR}
abbrev sX(w:Wt_)(ss:Nat->Value)(s:uR):Prop:=∀i,3<=i->i<=7->Rd w (Qo i) (ss i) (LN s.accts s.cts s.poss s.ords s.bids i) (LC s.accts s.cts s.poss s.ords s.bids i)
def aj2(s:uR)(ss:Nat->Value):Value:=Fb s.day s.next s.fund ss
def sX.md0{w' :Wt_}(h:sX w ss s)(m:M0 w w'):sX w' ss s:=λi h1 a=>(h i h1 a).mod m d9
def sX.sl(h:sX w ss s):∀i,3<=i->i<=7->∃a n c,ss i=.slice a n c:=λi h1 b=>by
 obtain⟨a,c,e⟩:=(h i h1 b).isSl;exact⟨a,_,c,e⟩
def sX.accts(h:sX w ss s):Rd w 4 (ss 3) s.accts.length (s.accts.flatMap cY):=h 3 qZ qZ
def sX.cts(h:sX w ss s):Rd w 27 (ss 4) s.cts.length (s.cts.flatMap dA):=h 4 qZ qZ
def sX.poss(h:sX w ss s):Rd w 4 (ss 5) s.poss.length (s.poss.flatMap dy):=h 5 qZ qZ
def sX.ords(h:sX w ss s):Rd w 6 (ss 6) s.ords.length (s.ords.flatMap kC):=h 6 qZ qZ
def sX.bids(h:sX w ss s):Rd w 6 (ss 7) s.bids.length (s.bids.flatMap kC):=h 7 qZ qZ
abbrev kw(w:Wt_)(b:Nat)(d nx fu:Int)(ss:Nat->Value):Prop:=hp w b=some (.cells (z9 d nx fu ss).toArray yu (0,0))
def IT(d nx b:Int)(ss:Nat->Value)(w:Wt_):∃a,(Instr.box yu (Fb d nx b ss)).run pQ w=.ok (bO w.heap.size 0) a/\kw a w.heap.size d nx b ss/\M0 w a:=
 ⟨w.alloc (.cells (z9 d nx b ss).toArray yu),rfl,by show hp _ _=_;simp[go_sem],(aR.refl _ w).alloc _⟩
def IB{b:Nat}{d nx g:Int}(h:kw w b d nx g ss)(hs:∀i,3<=i->i<=7->∃a n c,ss i=.slice a n c)(i:Nat)(hi:3<=i)(j:i<=7):(iL (FI i) (bO b i)).run pQ w=.ok (ss i) w:=by
 have f:hp w b=some (.cells (z9 d nx g ss).toArray yu (0,0)):=h;obtain⟨a,n,c,e⟩:=hs i hi j;have:i=3\/i=4\/i=5\/i=6\/i=7:=qZ;rcases this with rfl|rfl|rfl|rfl|rfl<;>(simp only[FI];rw[e];simp only[z9]at f;rw[e]at f;simp[go_sem,f])
def vC{b:Nat}{d nx c:Int}(h:kw w b d nx c ss):(iL 45 (bO b 0)).run pQ w=.ok (gU d) w/\(iL 37 (bO b 1)).run pQ w=.ok (gQ nx) w/\(iL 2 (bO b 2)).run pQ w=.ok (gI c) w:=by
 have a:hp w b=some (.cells (z9 d nx c ss).toArray yu (0,0)):=h;simp only[z9]at a;exact⟨by simp[go_sem,a],by simp[go_sem,a],by simp[go_sem,a]⟩
end Go.Proofs
namespace Go.Proofs
open Go Go.Vc
attribute [local congr] bj
variable {k:Ct}{p:Nat}{W:Wt_}{K:aZ}
def Es{off:Nat}(h:At W p off (dA k)):At W p off (eV k.spec):=by
 have:=h.sub 0 25 (by rw[bM];omega)
 have e:((dA k).drop 0).take 25=eV k.spec:=by
  show(eV k.spec++_).take 25=_;rw[<-br k.spec,dU]
 rw[e]at this;exact this
abbrev Dm(W:Wt_)(p:Nat)(k:Ct):Prop:=hp W p=some (.cells (dA k).toArray jW (0,0))
def JQ{k' :Ct}{K:World->Prop}(h:Dm W p k)(c:∀a,Dm a p k' ->aR (λy=>y=p) W a->K a):yS pQ (rS jW (bO p 0) (.agg (dA k').toArray)) W K:=by
 have b:W.heap[p]? =some (.cells (dA k).toArray jW (0,0)):=h
 have h1:(dA k').all (·.oneCell')=true:=by
  unfold dA;rw[eB,qw];rfl
 refine uU sI (bM k') b (by rw[dv,bM,bM];omega) h1 (c _ ?_ ((aR.refl (λy=>y=p) W).setRow (.inl rfl) _));show(W.setRow p _).heap[p]? =_;rw[eK,ae rfl,b,lF (by rw[bM];simp[bM])]
def yD(w:Wt_)(b:∀a,Dm a w.heap.size CR->M0 w a->K (bO w.heap.size 0) a):rx pQ (uK jW) w K:=by
 refine rC Zy ?_;rw[Ju];exact b _ (by show hp _ _=_;simp[go_sem]) ((aR.refl _ w).alloc _)
def TY(h:Dm W p k):(iL 45 (bO p 0)).run pQ W=.ok (gU k.spec.num) W:=by
 have a:hp W p=some (.cells (dA k).toArray jW (0,0)):=h;simp[go_sem,a,P3]
def Df(h:Dm W p k):(iL 118 (bO p 25)).run pQ W=.ok (gB k.st) W:=by
 have a:hp W p=some (.cells (dA k).toArray jW (0,0)):=h;simp[go_sem,a,C7]
def Lu(h:Dm W p k):(iL 2 (bO p 26)).run pQ W=.ok (gI k.price) W:=by
 have a:hp W p=some (.cells (dA k).toArray jW (0,0)):=h;simp[go_sem,a,Qt]
def Gp(p:Nat)(W:Wt_):(iF jW (bO p 0) 0).run pQ W=.ok (bO p 0) W/\(iF jW (bO p 0) 1).run pQ W=.ok (bO p 25) W/\(iF jW (bO p 0) 2).run pQ W=.ok (bO p 26) W/\(iF 48 (bO p 0) 0).run pQ W=.ok (bO p 0) W:=⟨by simp[go_sem],by simp[go_sem],by simp[go_sem],by simp[go_sem]⟩
def II(n:Int)(k:Ct)(l:List Ct):tP n (k::l)=(decide (n<k.spec.num)&& (decide (1<=k.st)&& (decide (k.st<=3)&& (k.spec.isPrice k.price&& tP k.spec.num l)))):=rfl
def IX{w:Wt_}{sl:Vt_}{day:Int}{l:List Ct}(h:Rd w 27 sl l.length (l.flatMap dA))(hl:l.length<=100000)(hf:∀k∈l,k.Fit)(hd:iU day)
  (I:l.length<=16->tP 0 l=true->∀c F o,mC o c F ⟨day,l⟩->M0 w o->(∀b,F b->w.heap.size<=b)->K (.tuple #[fO c,gI 0]) o)
  (u:¬(l.length<=16/\tP 0 l=true)->∀o,M0 w o->K (.tuple #[.pointer none,gI 2]) o):Ca pQ 49 #[.int .u32 day,sl] w K:=by
 obtain⟨sa,sc,L⟩:=h.isSl;refine cN Tryz.func49 ?_;have ln:∀W,(builtin .len #[Im] 3 #[false] #[sl]).run pQ W=.ok (.value (gI (l.length:Int))) W:=λW=>by rw[L];simp[go_sem]
 refine uz (ln _) ?_;refine ao (.bool (decide (16<l.length))) w (by simp[go_sem];omega) ?_;by_cases t:16<l.length
 ·rw[ay,ae (by simpa using t)];exact u (λa=>qZ) _ (aR.refl _ _)
 rw[ay,aa (by simpa using t)];refine uz (ln _) ?_
 refine d8 (λst W=>∃(i:Nat) (last:Int) (x y:Vt_),i<=l.length/\st=(x,y,gU last,gI i,())/\tP 0 l=tP last (l.drop i)/\M0 w W)
  (λst _=>match st.2.2.2.1 with| .int _ i=>l.length - i.toNat|_=>0) ⟨0,0,_,_,qZ,rfl,rfl,aR.refl _ _⟩ ?_
 rintro⟨_,_⟩ W ⟨i,last,x,y,hi,⟨⟩,d,v⟩ KN J;refine lV ?_;intro _;refine ao (.bool (decide (i<l.length))) W (by simp[go_sem]) ?_;by_cases f:i<l.length
 ·rw[ay,ae (by simpa using f)];obtain⟨b,N,cap,P,S,Z⟩:=(h.mod v d9).item bM f rfl;have A:=hf l[i] (aq f);rw[cD f]at d;generalize l[i]=k at Z A d;refine ao (bO b (N+i*27)) W (by rw[P];simp[go_sem,f,bK,qM]) ?_;refine fH (dA k) 26 CP sI (bM k) Z ?_;refine yD _ λw1 X m1=>?_;obtain⟨p,Q⟩:=di W.heap.size;rw[<-Q]at X|-;refine JQ (k' :=k) X λs r m2=>?_;have M2:M0 W s:=m1.on m2 λy hy=>.inr qZ;obtain⟨f0,f1,f2,f3⟩:=Gp p s;rw[II]at d;refine cT.at (λst W' =>st=(.bool (!(decide (last<k.spec.num)&& (decide (1<=k.st)&& (decide (k.st<=3)&& k.spec.isPrice k.price)))),())/\M0 s W') ?_ ?_
  ·refine bo f0 (bo f3 (bo (TY r) ?_));refine ao (.bool (decide (k.spec.num<=last))) s (by simp[go_sem]) ?_;by_cases c1:k.spec.num<=last
   ·rw[ay,ae (by simpa using c1)];have:¬last<k.spec.num:=qZ;exact⟨by simp[this],aR.refl _ _⟩
   rw[ay,aa (by simpa using c1)];have O:last<k.spec.num:=qZ;refine bo f1 (bo (Df r) ?_);refine ao (.bool (decide (k.st<1))) s (by simp[go_sem]) ?_;by_cases T:k.st<1
   ·rw[ay,ae (by simpa using T)];have:¬1<=k.st:=qZ;exact⟨by simp[this],aR.refl _ _⟩
   rw[ay,aa (by simpa using T)];have M:1<=k.st:=qZ;refine bo f1 (bo (Df r) ?_);refine ao (.bool (decide (3<k.st))) s (by simp[go_sem]) ?_;by_cases c3:3<k.st
   ·rw[ay,ae (by simpa using c3)];have:¬k.st<=3:=qZ;exact⟨by simp[this],aR.refl _ _⟩
   rw[ay,aa (by simpa using c3)];have R:k.st<=3:=qZ;refine bo f0 (fH (eV k.spec) 24 zi we (br _) (Es (At.all r)) ?_);refine bo f2 (bo (Lu r) ?_);refine qk A.1 λe j=>?_;refine ao (.bool (!k.spec.isPrice k.price)) e (by simp[go_sem]) ?_;exact⟨by simp[O,M,R],j⟩
  rintro _ e ⟨rfl,j⟩;refine kR ?_;intro _;have M3:=(v.trans M2).trans j;cases a:(decide (last<k.spec.num)&& (decide (1<=k.st)&& (decide (k.st<=3)&& k.spec.isPrice k.price)))with
  |false=>
   rw[show(!false)=true from rfl,ay,ae rfl];refine u (λB=>?_) _ M3;rw[d]at B;have:=B.2;simp only[ai,aS]at this a;simp only[Bool.and_eq_false_iff,fy]at a;obtain⟨D,z,C,n,-⟩:=this;rcases a with a|a|a|a
   ·exact a D
   ·exact a z
   ·exact a C
   ·rw[n]at a;cases a
  |true=>
   rw[show(!true)=false from rfl,ay,aa dp];have b3:Dm e p k:=j.hpk r id;obtain⟨g0,g1,g2,g3⟩:=Gp p e;refine bo g0 (bo g3 (bo (TY b3) ?_));refine ao (gI ((i+1:Nat):Int)) e (by simp[go_sem];rw[ew qZ qZ]) ?_;refine J _ _ ⟨i+1,k.spec.num,_,_,qZ,rfl,?_,M3⟩ (by show l.length - (((i+1:Nat):Int)).toNat<l.length - ((i:Int)).toNat;omega);rw[d];simp only[ai,aS]at a;obtain⟨D,z,C,n⟩:=a;simp[D,z,C,n]
 ·obtain rfl:i=l.length:=qZ;rw[ay,aa (by simp)];rw[eE]at d;have g:tP 0 l=true:=d;refine wI (l:=l) (h.mod v d9) qZ λm e H j n3=>?_;obtain⟨ta,tc,E,-⟩:=H.isSl;refine ao (.agg #[.bool true,gU day,m]) e (by rw[E];simp[go_sem]) ?_;obtain⟨q,hq⟩:=di e.heap.size;have V:M0 e (e.alloc (.cells #[.bool true,gU day,m] 172)):=(aR.refl _ _).alloc _;have b4:hp (e.alloc (.cells #[.bool true,gU day,m] 172)) q=some (.cells #[.bool true,gU day,m] 172 (0,0)):=by rw[hq];simp[go_sem]
  refine ao (fO q) (e.alloc (.cells #[.bool true,gU day,m] 172)) (by rw[hq];rfl) ?_;have hs:=v.size;have U:=j.size;obtain⟨u1,u2⟩:=sr g;refine I qZ g q (λb=>b=q\/aF m b) _ ⟨⟨m,b4,H.mod V d9,λb=>aG,λa=>by have:=H.lt a;omega⟩,by show l.length<=16;omega,hd,λk Y=>?_,u2⟩ ((v.trans j).trans V) λb G=>?_
  ·obtain⟨D,z,C,n⟩:=u1 k Y;have:=n;unfold Sp.isPrice at this;exact⟨hf k Y,(ai _ _▸this).1,n,z,C⟩
  ·rcases G with rfl|G
   ·omega
   ·have:=n3 b G;omega
def Rl(l:List Ct)(n:Int):decide (bG l n=0)=(decide ((dO l n).2=0)&& decide ((dO l n).1.st≠3)):=by
 unfold bG dO;cases cj l n with
 |none=>simp
 |some k=>
  by_cases h:k.st=3
  ·simp[h]
  ·simp[h]
def Di{w:Wt_}{v c l mb md:Nat}{A:List (Int×Nat)}{D:List (Int×Value)}{J:Pt->Nat->Prop}{S:bt}{n:Int}(h:qs w v c l mb md A D J S)
  (d:∀z,M0 w z->K (.tuple #[.agg (dA (dO S.cal.l n).1).toArray,.bool (decide (bG S.cal.l n=0))]) z):Ca pQ 53 #[ec v,gU n] w K:=by
 unfold ec;refine cN Tryz.func53 ?_;rw[Rl]at d;refine yD _ λN t m=>?_;obtain⟨p,o⟩:=di w.heap.size;rw[<-o]at t|-;have h1:=h.md0 m;simp only[ec,bU];refine bo (uY 0 qZ _) (bo (ld0 _ h1.blk) ?_);refine LZ h1.cal λH j=>?_;generalize dO S.cal.l n=x at d|-;refine bo (by simp[-Int.natCast_add,go_sem]<;>first|exact⟨rfl,rfl⟩|exact rfl) ?_;refine bo (by simp[-Int.natCast_add,go_sem]<;>first|exact⟨rfl,rfl⟩|exact rfl) ?_;have F:Dm H p CR:=j.hpk t id;refine yD _ λO C B=>?_;obtain⟨q,k⟩:=di H.heap.size;rw[<-k]at C|-;refine JQ (k' :=x.1) C λb L G=>?_;have I:p<q:=by have:=aB F;omega
 have md:=(aR.refl (λ_=>False) b).drew;have a:Dm b.drew q x.1:=md.hpk L id;have g:Dm b.drew p CR:=md.hpk (G.hpk (B.hpk F id) qZ) id;have s:M0 w b.drew:=(((m.trans j).trans B).on G λy E=>.inr (by have:=m.size;have:=j.size;omega)).trans md;generalize b.drew=u at a g s|-;have M:w.heap.size<=p:=qZ;refine kA (dA x.1) 26 CP sI (bM _) (At.all a) ?_;refine du (.bool (decide (x.2=0))) (λW=>by simp[go_sem];try rw[dh];simp) ?_;by_cases f:x.2=0
 ·rw[ay,ae (by simpa using f)];refine cx (λW=>(Gp q W).2.1) (cK (Df a) ?_);refine du (.bool (decide (x.1.st≠3))) (λW=>by simp[go_sem];try rw[dh];simp) ?_;refine JQ (k' :=x.1) g λr i e=>?_;refine⟨Df (e.hpk a qZ),?_⟩;refine kA (dA x.1) 26 CP sI (bM _) (At.all i) ?_;have:=d r (s.on e λy E=>.inr qZ);rw[f]at this;simpa using this
 ·rw[ay,aa (by simpa using f)];refine JQ (k' :=x.1) g λr i e=>?_;refine kA (dA x.1) 26 CP sI (bM _) (At.all i) ?_;have:=d r (s.on e λy E=>.inr qZ);simpa [f]using this
end Go.Proofs
namespace Go.Proofs
open Go Go.Vc
attribute [local congr] bj
variable {x:Int×Od}{U:List Int}{a p:Nat}{w W:Wt_}
abbrev QA:TypeId:=243
def ad2:lT pQ 3=some (gI 0):=cV
def pC(w:Wt_)(mn:Nat)(U:List Int):Prop:=∃L:List (Int×Int),eM EC Mq w mn L/\∀n,(lk L n).getD 0=if n∈U then 1 else 0
def pC.mod{F:NP_}{w' :Wt_}(h:pC w a U)(b:aR F w w')(h1:¬F a):pC w' a U:=by
 obtain⟨L,c,d⟩:=h;exact⟨L,c.mod b h1,d⟩
def pC.lt(h:pC w a U):a<w.heap.size:=by
 obtain⟨L,b,c⟩:=h;exact b.lt
def pC.look(h:pC w a U)(n:Int):(jQ QA (.map (some a)) (gQ n) false).run pQ w=.ok (gI (if n∈U then 1 else 0)) w:=by
 obtain⟨L,c,d⟩:=h;have:=mY (ok:=false) (x:=n) GD Qz ad2 (.inr ⟨a,rfl,c⟩:Af EC Mq w (.map (some a)) L);rw[<-d n];cases b:lk L n with
 |none=>rw[b]at this;exact this
 |some x=>rw[b]at this;exact this
theorem pC.add{b:Nat}{n:Int}{K:World->Prop}(h:pC w b U)(j:n ∉ U)(e:∀a,pC a b (n::U)->aR (λy=>y=b) w a->K a):yS pQ (qX QA (.map (some b)) (gQ n) (gI 1)) w K:=by
 obtain⟨L,d,i⟩:=h;refine gZ (enc:=EC) (ev:=Mq) (x:=n) (v:=1) GD Qz d λa c f _=>e a ⟨_,c,λm=>?_⟩ f;rw[lm];by_cases g:n=m
 ·grind
 ·grind
abbrev vl:TypeId:=132
def CU(x:Int×Od):Value:=.agg (kC x).toArray
abbrev Ah(W:Wt_)(p:Nat)(x:Int×Od):Prop:=hp W p=some (.cells (kC x).toArray vl (0,0))
def Wf(x:Int×Od)(w:Wt_):∃a,(Instr.box vl (CU x)).run pQ w=.ok (bO w.heap.size 0) a/\Ah a w.heap.size x/\M0 w a:=
 ⟨w.alloc (.cells (kC x).toArray vl),rfl,by show hp _ _=_;simp[go_sem],(aR.refl _ w).alloc _⟩
def uX(p:Nat)(W:Wt_):(iF vl (bO p 0) 0).run pQ W=.ok (bO p 0) W/\(iF vl (bO p 0) 1).run pQ W=.ok (bO p 1) W:=⟨by simp[go_sem],by simp[go_sem]⟩
def BJ(h:Ah W p x):(iL 45 (bO p 0)).run pQ W=.ok (gU x.1) W:=by
 have a:hp W p=some (.cells (kC x).toArray vl (0,0)):=h;simp only[kC,dF]at a;simp[go_sem,a]
def Vn(h:Ah W p x):(iL jG (bO p 1)).run pQ W=.ok (kx x.2) W:=by
 have a:At W p 0 (kC x):=At.all h;have:=a.sub 1 5 (by show 1+5<=6;omega);have e:((kC x).drop 1).take 5=dF x.2:=rfl;rw[e,cX]at this;exact lE this
def Nv(i:Nat)(hi:i<5)(p:Nat)(W:Wt_):(iF jG (bO p 0) i).run pQ W=.ok (bO p i) W:=by
 have:i=0\/i=1\/i=2\/i=3\/i=4:=qZ;rcases this with rfl|rfl|rfl|rfl|rfl<;>simp[go_sem]
abbrev UV(W:Wt_)(p:Nat)(o:Od):Prop:=hp W p=some (.cells (dF o).toArray jG (0,0))
def JZ{o:Od}(h:UV W p o):(iL 37 (bO p 0)).run pQ W=.ok (gQ o.num) W/\(iL 45 (bO p 1)).run pQ W=.ok (gU o.acct) W/\(iL 2 (bO p 3)).run pQ W=.ok (gI o.price) W/\(iL 2 (bO p 4)).run pQ W=.ok (gI o.left) W:=by
 have a:hp W p=some (.cells (dF o).toArray jG (0,0)):=h;simp only[dF]at a;exact⟨by simp[go_sem,a],by simp[go_sem,a],by simp[go_sem,a],by simp[go_sem,a]⟩
abbrev O1(W:Wt_)(p:Nat)(a:Ac):Prop:=hp W p=some (.cells (cY a).toArray 100 (0,0))
def ae2(p:Nat)(W:Wt_):(iF 100 (bO p 0) 2).run pQ W=.ok (bO p 2) W/\(iF 100 (bO p 0) 3).run pQ W=.ok (bO p 3) W:=⟨by simp[go_sem],by simp[go_sem]⟩
def Eo{a:Ac}(h:O1 W p a):(iL 4 (bO p 2)).run pQ W=.ok (.bool a.kil) W/\(iL 4 (bO p 3)).run pQ W=.ok (.bool a.dfl) W:=by
 have b:hp W p=some (.cells (cY a).toArray 100 (0,0)):=h;simp only[cY]at b;exact⟨by simp[go_sem,b],by simp[go_sem,b]⟩
def Ps(W:Wt_):∃a,(iA 100 true (.tuple #[])).run pQ W=.ok (bO W.heap.size 0) a/\O1 a W.heap.size ⟨0,0,false,false⟩/\M0 W a:=
 ⟨W.alloc (.cells (cY ⟨0,0,false,false⟩).toArray 100),by simp[go_sem,cY],by show hp _ _=_;simp[go_sem],(aR.refl _ W).alloc _⟩
def SH{a:Ac}(b:Ac)(h:O1 W p a):∃d,(iS 100 (bO p 0) (jX b)).run pQ W=.ok () d/\O1 d p b/\aR (λy=>y=p) W d:=by
 have c:hp W p=some (.cells (cY a).toArray 100 (0,0)):=h;simp only[cY]at c;exact⟨(((W.setCell ⟨p,0,none⟩ (gU b.num)).setCell ⟨p,1,none⟩ (gI b.cash)).setCell ⟨p,2,none⟩ (.bool b.kil)).setCell ⟨p,3,none⟩ (.bool b.dfl),by simp[go_sem,c,jX],by show hp _ _=_;simp[go_sem,c,cY],((((aR.refl (λy=>y=p) W).setCell (.inl rfl) _ _).setCell (.inl rfl) _ _).setCell (.inl rfl) _ _).setCell (.inl rfl) _ _⟩
def XG(L:bJ)(a:Int):L.stB a=(decide ((L.getV a).2=0)&& (!(L.getV a).1.dfl&& !(L.getV a).1.kil)):=by
 unfold bJ.stB bJ.getV;cases L.getO a with
 |none=>simp
 |some x=>simp
def Cz{K:aZ}{v c l mb md L:Nat}{A:List (Int×Nat)}{D:List (Int×Value)}{fp:Pt->Nat->Prop}{S:bt}{lots:Bool}(h:qs w v c l mb md A D fp S)(hN:pC w L U)(hmn:¬lq fp L)
  (hK1:S.stnd lots U x=true->∀s,qs s v c l mb md A D fp S->pC s L (x.2.num::U)->aR (λy=>y=L) w s->K (.bool true) s)
  (hK0:S.stnd lots U x=false->∀s,M0 w s->K (.bool false) s):Ca pQ 154 #[ec v,CU x,.bool lots,.map (some L)] w K:=by
 unfold ec;refine cN Tryz.func154 ?_;obtain⟨w1,e1,Z,m1⟩:=Wf x w;obtain⟨p,hp0⟩:=di w.heap.size;rw[<-hp0]at e1 Z;refine bo e1 (bo (uX p _).2 (bo (Vn Z) ?_));obtain⟨w2,e2,b2,m2⟩:=jY w1;obtain⟨q,hq0⟩:=di w1.heap.size;rw[<-hq0]at e2 b2;refine bo e2 ?_;obtain⟨w3,e3,b3,m3⟩:=jE (o' :=x.2) b2;refine iE e3 ?_;have hpq:p<q:=by have:=aB Z;omega
 have M3:M0 w w3:=(m1.trans m2).on m3 λy P=>.inr qZ;have b13:Ah w3 p x:=m3.hpk (m2.hpk Z id) qZ;refine bo (uX p _).1 (bo (BJ b13) ?_);refine Di (h.md0 M3) λw4 m4=>?_;have o4:UV w4 q x.2:=m4.hpk b3 id;obtain⟨k,hk⟩:=di (dO S.cal.l x.1);rw[<-hk];refine dI ?_;refine dI ?_;refine yD _ λw5 b5 m5=>?_;obtain⟨z,hz0⟩:=di w4.heap.size;rw[<-hz0]at b5|-;have hqz:q<z:=by have:=aB o4;omega
 refine JQ (k' :=k.1) b5 λO b6 m6=>?_;have md:=(aR.refl (λ_=>False) O).drew;have o6:UV O.drew q x.2:=md.hpk (m6.hpk (m5.hpk o4 id) qZ) id;have N:Dm O.drew z k.1:=md.hpk b6 id;have hw0:w.heap.size<=p:=qZ;have X:M0 w O.drew:=(((M3.trans m4).trans m5).on m6 λy P=>.inr qZ).trans md;have M:=h.md0 X;have Q:=hN.mod X id;generalize O.drew=u at o6 N X M Q|-;obtain⟨g,hg⟩:=di (S.led.getV x.2.acct);refine cT.at (λst W=>∃pa,st=(.pointer (some ⟨pa,0,none⟩),gI g.2,())/\O1 W pa g.1/\M0 u W) ?_ ?_
 ·simp only[ec,bU];refine cx (λW=>uY 1 qZ W) (cK (ld1 _ M.blk) ?_);refine cx (λW=>Nv 1 qZ q W) (cK (JZ o6).2.1 ?_);refine⟨?_,?_⟩
  ·refine EG M.led λb B=>?_;rw[<-hg];refine du (jX g.1) (λW=>by simp[go_sem]) (du (gI g.2) (λW=>by simp[go_sem]) ?_);obtain⟨w8,e8,b8,J⟩:=Ps b;obtain⟨w9,e9,V,C⟩:=SH g.1 b8;refine bo e8 (iE e9 ?_);exact⟨_,rfl,V,(B.trans J).on C λy P=>.inr (by have:=B.size;omega)⟩
  ·obtain⟨w8,e8,b8,J⟩:=Ps u;refine bo e8 ?_;refine⟨(JZ (J.hpk o6 id)).2.1,ld1 _ (M.md0 J).blk,?_⟩;refine EG (M.md0 J).led λw9 C=>?_;rw[<-hg];refine du (jX g.1) (λW=>by simp[go_sem]) (du (gI g.2) (λW=>by simp[go_sem]) ?_);obtain⟨r,e10,H,i⟩:=SH g.1 (C.hpk b8 id);refine iE e10 ?_;exact⟨_,rfl,H,(J.trans C).on i λy P=>.inr qZ⟩
 rintro _ b ⟨pa,rfl,a7,B⟩;refine kR ?_;intro _;have h7:=M.md0 B;have o7:UV b q x.2:=B.hpk o6 id;have b7:Dm b z k.1:=B.hpk N id;have N7:=Q.mod B id;have M7:=X.trans B
 have a:S.stnd lots U x=(decide (bG S.cal.l x.1=0)&& ((decide (g.2=0)&& (!g.1.dfl&& !g.1.kil))&& (x.2.may&& (k.1.spec.isPrice x.2.price&& ((!lots||k.1.spec.isQty x.2.left)&& (decide (x.2.num<S.next)&& !U.contains x.2.num)))))):=by
  unfold bt.stnd;rw[XG,<-hg,<-hk]
 refine cT.at (λst W=>st=(.bool (!S.stnd lots U x),())/\M0 b W) ?_ ?_
 ·refine du (.bool (!decide (bG S.cal.l x.1=0))) (λW=>by simp[go_sem]) ?_;have f:=(aR.refl (λ_=>False) b).drew;by_cases d:bG S.cal.l x.1=0
  rotate_left
  ·rw[ay,ae (by simpa using d)];exact⟨by rw[a];simp[d],f⟩
  rw[ay,aa (by simpa using d)]
  have T:k.1.Fit:=by
   obtain⟨k0,a1,-,-,a2⟩:=oI d;have:k=(k0,0):=by rw[hk];unfold dO;rw[a1]
   rw[this];exact(h.cal.ok k0 a2).1
  refine du (.bool (decide (g.2≠0))) (λW=>by simp[go_sem];try rw[dh];simp) ?_;by_cases j:g.2=0
  rotate_left
  ·rw[ay,ae (by simpa using j)];exact⟨by rw[a];simp[d,j],f⟩
  rw[ay,aa (by simpa using j)];have a8:O1 b.drew pa g.1:=f.hpk a7 id;have o8:UV b.drew q x.2:=f.hpk o7 id;have b8:Dm b.drew z k.1:=f.hpk b7 id;have h8:=h7.md0 f;have N8:=N7.mod f id;generalize b.drew=w8 at f a8 o8 b8 h8 N8|-;refine cx (λW=>(ae2 pa W).2) (cK (Eo a8).2 ?_);cases I:g.1.dfl with
  |true=>
   rw[kJ];exact⟨by rw[a];simp[d,j,I],f⟩
  |false=>
  rw[jO];refine cx (λW=>(ae2 pa W).1) (cK (Eo a8).1 ?_);cases R:g.1.kil with
  |true=>
   rw[kJ];exact⟨by rw[a];simp[d,j,I,R],f⟩
  |false=>
  rw[jO];refine cK (lE (o:=x.2) (At.all o8)) ?_;refine vS λw9 C=>?_;refine du (.bool (!x.2.may)) (λW=>by simp[go_sem]) ?_;have M9:=f.trans C;cases c5:x.2.may with
  |false=>
   rw[show(!false)=true from rfl,ay,ae rfl];exact⟨by rw[a];simp[d,j,I,R,c5],M9⟩
  |true=>
  rw[show(!true)=false from rfl,ay,aa dp];have o9:UV w9 q x.2:=C.hpk o8 id;have V:Dm w9 z k.1:=C.hpk b8 id;refine cx (λW=>(Gp z W).1) (kA (eV k.1.spec) 24 zi we (br _) (Es (At.all V)) ?_);refine cx (λW=>Nv 3 qZ q W) (cK (JZ o9).2.2.1 ?_);refine qk T.1 λr i=>?_;refine du (.bool (!k.1.spec.isPrice x.2.price)) (λW=>by simp[go_sem]) ?_;have n:=M9.trans i;cases c6:k.1.spec.isPrice x.2.price with
  |false=>
   rw[show(!false)=true from rfl,ay,ae rfl];exact⟨by rw[a];simp[d,j,I,R,c5,c6],n⟩
  |true=>
  rw[show(!true)=false from rfl,ay,aa dp];have o10:UV r q x.2:=i.hpk o9 id;have H:Dm r z k.1:=i.hpk V id
  have fin:∀W,M0 b W->(!lots||k.1.spec.isQty x.2.left)=true->∀K2:Value×Unit->World->Prop,K2 (.bool (!S.stnd lots U x),()) W->
    jC pQ (iF jG (bO q 0) 0) λv71=>nV pQ (iL 37 v71) W λv72=>pJ (bO v 0) λv73=>jC pQ (iF A6 v73 4) λv74=>nV pQ (iL 37 v74) W λv75=>
     jC pQ (io .geq 37 false v72 v75) λv76=>sx v76 (K2 (.bool true,()) W) (jC pQ (iF jG (bO q 0) 0) λv77=>nV pQ (iL 37 v77) W λv78=>ID pQ (jQ QA (.map (some L)) v78 false) W λv79=>jC pQ (io .gtr 3 true v79 (gI 0)) λv80=>K2 (v80,()) W):=by
   intro W m c7 K2 F;have Y:UV W q x.2:=m.hpk o7 id;refine cx (λW=>Nv 0 qZ q W) (cK (JZ Y).1 ?_);rw[bU];refine cx (λW=>uY 4 qZ W) (cK (ld4 _ (h7.md0 m).blk) ?_);refine du (.bool (decide (S.next<=x.2.num))) (λW=>by simp[go_sem]) ?_;by_cases c8:S.next<=x.2.num
   ·rw[ay,ae (by simpa using c8)];have t:¬x.2.num<S.next:=qZ;have:S.stnd lots U x=false:=by rw[a];simp[t]
    rw[this]at F;exact F
   rw[ay,aa (by simpa using c8)];have t:x.2.num<S.next:=qZ;refine cx (λW=>Nv 0 qZ q W) (cK (JZ Y).1 ?_);refine sk ((N7.mod m id).look x.2.num) ?_;refine du (.bool (!S.stnd lots U x)) (λW=>?_) F;rw[a,c7];by_cases c9:x.2.num∈U
   ·simp[go_sem,d,j,I,R,c5,c6,t,c9]
   ·simp[go_sem,d,j,I,R,c5,c6,t,c9]
  cases lots with
  |true=>
   rw[kJ];refine cx (λW=>(Gp z W).1) (kA (eV k.1.spec) 24 zi we (br _) (Es (At.all H)) ?_);refine cx (λW=>Nv 4 qZ q W) (cK (JZ o10).2.2.2 ?_);refine HX T.1 λw11 m11=>?_;refine du (.bool (!k.1.spec.isQty x.2.left)) (λW=>by simp[go_sem]) ?_;have G:=n.trans m11;cases c7:k.1.spec.isQty x.2.left with
   |false=>
    rw[show(!false)=true from rfl,ay,ae rfl];exact⟨by rw[a];simp[c7],G⟩
   |true=>
    rw[show(!true)=false from rfl,ay,aa dp];exact fin w11 G (by simp[c7]) (λst W=>st=(.bool (!S.stnd true U x),())/\M0 b W) ⟨rfl,G⟩
  |false=>
   rw[jO];exact fin r n rfl (λst W=>st=(.bool (!S.stnd false U x),())/\M0 b W) ⟨rfl,n⟩
 rintro _ W ⟨rfl,mW⟩;refine kR ?_;intro _;have MW:=M7.trans mW;cases hs:S.stnd lots U x with
 |false=>
  rw[show(!false)=true from rfl,ay,ae rfl];exact hK0 hs W MW
 |true=>
  rw[show(!true)=false from rfl,ay,aa dp];have Y:UV W q x.2:=mW.hpk o7 id;have NW:=N7.mod mW id;have E:=(EO hs).new;refine bo (Nv 0 qZ q W) (bo (JZ Y).1 ?_);refine kY (NW.look x.2.num) ?_;rw[aa E];refine ao (gI 1) W (by simp[go_sem];decide) ?_;refine NW.add E λs N' m' =>?_;exact hK1 hs s ((h.md0 MW).mod m' λpt y P e=>hmn ⟨pt,e▸P⟩) N' ((MW.to).trans m')
end Go.Proofs
