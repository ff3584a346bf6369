/- Part of a proof. -/
import Derived.Test.YtekbnpagidkbbaaGreatQ1
set_option linter.all false
namespace Go.Vc
open Go Go.Vc
variable {ds:List Nat}{ops:List Oper}{t:Nat}{P:Program}{s:Sem Value}{K a:Value->Prop}{v:Vt_}{w:Wt_}{E:fi}
def Bc{d:Option Nat}(h:d≠some t):(E.put d v).get t=E.get t:=by
 cases d with
 |none=>rfl
 |some d=>rw[fi.get_put,aa (λe=>h (by rw[e]))]
def Ds{d:Option Nat}(h:d≠some t):(E.skip d).get t=E.get t:=by
 cases d with
 |none=>rfl
 |some d=>rw[fi.get_skip,aa (λe=>h (by rw[e]))]
def yc(E:fi)(d:Option Nat)(v:Vt_):(E.put d v).ds=E.ds:=by cases d<;>rfl
def zB(E:fi)(d:Option Nat):(E.skip d).ds=E.ds:=by cases d<;>rfl
def qH{d:Nat}:(E.put (some d) v).get d=v:=by rw[fi.get_put,ae rfl]
def vj{d:Nat}:(E.skip (some d)).get d=undef:=by rw[fi.get_skip,ae rfl]
section
variable{P:Program}{ops:List Oper}{n:Nat}{L A done:List Nat}{pend:uY}{E:fi}{a:Act}{w:Wt_}
def CR.same(h:CR P ops n L A done pend E a w){E' :fi}(hs:E.Same E')(b:qY P ops=true):CR P ops n L A done pend E' a w:=
 {h with
  defs:=by rw[hs.2];exact h.defs
  frame:=λt c=>(h.frame t c).trans (hs.1 t).symm
  val:=λi d=>(h.val i d).env b (λ_ _ t _=>hs.1 t) (λ_ e=>e)}
def CR.look(h:CR P ops n L A done pend E a w)(g:qY P ops=true){j:Nat}{p:Oper}(k:ops[j]? =some p)(s:j ∉ L)(q:∀d∈lM ops j,d∈L):
  ∀t∈p.looksAt ops.toArray,a.tmps.getD t undef=E.get t:=by
 intro t l;refine h.frame t λi m r b c=>?_;obtain⟨u,f,o,_⟩:=h.val i m;rw[b]at f;cases f;by_cases e:i=j
 ·subst e;rw[k]at b;cases b;exact Ba g k o c l
 ·have:=((qT g b k o e).1 t c).2 l;exact h.apart i m (zx h.closed q i this)
def CR.ahead(h:CR P ops n L A done pend E a w)(g:qY P ops=true){i:Nat}{o:Oper}(hi:ops[i]? =some o)(D:Qh P o<3)(M:i∈Eu ops done){E' :fi}{b:uY}
  (C:(∀t,o.dst≠some t->E'.get t=E.get t)/\E'.ds=E.ds)(hp:∀x∈pend,x∈b)
  (O:(jT ops E o=true/\∃v,(∀d,o.dst=some d->E'.get d=v)/\(execOp (ev E) o).run P w=.ok (.value v) w/\
    ((∀p,(execOp (ev E) o).run P p=.ok (.value v) p)\/∃s,(i,s,v)∈b/\∀p,s.run P p=.ok v p->(execOp (ev E) o).run P p=.ok (.value v) p))\/
   (jT ops E o=false/\∀d,o.dst=some d->E'.get d=undef)):
  CR P ops n L (i::A) (i::done) b E' a w:=by
 obtain⟨I,q,r⟩:=qM.1 M;have B:i ∉ A:=λK=>q ((h.doneIff i).2 (.inr K));have F:i ∉ L:=λJ=>q ((h.doneIff i).2 (.inl J));refine⟨λk=>?_,λk c=>?_,bY.2 ⟨B,h.nodup⟩,⟨λd y=>(h.doneIff d).1 (r d y),h.ord⟩,h.closed,h.size,by rw[C.2];exact h.defs,λt j=>?_,λk c=>?_⟩
 ·simp only[ar,h.doneIff];constructor
  ·rintro(h1|h1|h1)
   ·exact .inr (.inl h1)
   ·exact .inl h1
   ·exact .inr (.inr h1)
  ·rintro(h1|h1|h1)
   ·exact .inr (.inl h1)
   ·exact .inl h1
   ·exact .inr (.inr h1)
 ·rcases ar.1 c with rfl|c
  ·exact F
  ·exact h.apart k c
 ·rw[h.frame t (λk c=>j k (af _ c))];exact(C.1 t (j i ai o hi)).symm
 ·have u:∀t∈o.looksAt ops.toArray,E'.get t=E.get t:=λt j=>C.1 t λy=>Ba g hi D y j;rcases ar.1 c with rfl|c
  ·have H:=Gj (P:=P) (nB g hi) u;refine⟨o,hi,D,?_⟩;rw[H.1,H.2];exact O
  ·refine(h.val k c).env g (λok f t j=>C.1 t λy=>?_) hp;have z:k≠i:=λe=>B (e▸c);obtain⟨N,m,Q,_⟩:=h.val k c;rw[f]at m;cases m;rcases j with j|j
   ·have:=((qT g hi f D (lv z)).1 t y).2 j;have l:∀d∈lM ops k,d∈done:=λd G=>h.closedDone k ((h.doneIff k).2 (.inr c)) d G;exact q (zx h.closedDone l i this)
   ·exact((qT g hi f D (lv z)).1 t y).1 j
def adv(m:qY P ops=true){K:fi->World->Prop}{j:Nat}(Z:j∈Eu ops L):∀(e:Nat) (A done:List Nat) (pend:uY) (E:fi),
  CR P ops n L A done pend E a w->yS P ops e done pend E w K->
  ∃(F:Nat) (X f:List Nat) (r:uY) (E' :fi),CR P ops n L X f r E' a w/\yS P ops F f r E' w K/\
   (j∈X\/(j ∉ f/\(Eu ops f).find? (Sc P ops)=none)):=by
 intro e;induction e with
 |zero=>intro A done pend E _ h;exact h.elim
 |succ e S=>
  intro A done pend E R h;by_cases Y:j∈A
  ·grind
  ·cases Q:(Eu ops done).find? (Sc P ops)with
   |none=>
    refine⟨e+1,A,done,pend,E,R,h,.inr ⟨λM=>?_,Q⟩⟩;rcases(R.doneIff j).1 M with h1|h1
    ·exact(qM.1 Z).2.1 h1
    ·exact Y h1
   |some i=>
    have z:i∈Eu ops done:=dz Q;have hp:=lh Q;simp only[yS,Q]at h;unfold Sc at hp;cases J:ops[i]? with
    |none=>rw[J]at h;exact h.elim
    |some o=>
     rw[J]at h hp;simp only at hp;have T:Qh P o<3:=by simpa [lC]using hp
     simp only at h;rcases xH h with⟨W,l,O,b⟩|⟨W,l,O,U⟩
     ·have q:=R.same O m;have u:jT ops l o=true:=by rw[O.wanted];exact W
      have G:∀v,(∀t,o.dst≠some t->(l.put o.dst v).get t=l.get t)/\(l.put o.dst v).ds=l.ds:=λv=>⟨λt V=>Bc V,yc _ _ _⟩
      have k:∀v d,o.dst=some d->(l.put o.dst v).get d=v:=λv d M=>by rw[M];exact qH
      cases I:Qh P o with
      |zero=>
       simp only[I]at b;obtain⟨v,C,N⟩:=D8 (P:=P) b;exact S _ _ _ _ (q.ahead m J T z (G v) (λ_ y=>y) (.inl ⟨u,v,k v,C w,.inl C⟩)) N
      |succ c=>
       cases c with
       |zero=>
        simp only[I]at b;cases g:wl P (ev l) o.op with
        |none=>rw[g]at b;exact b.elim
        |some s=>
         rw[g]at b
         have H:g9 P s λv=>yS P ops e (i::done) pend (l.put o.dst v) w K:=by
          simp only at b;split at b
          ·exact b.out
          ·exact b
         obtain⟨v,C,N⟩:=H.out;have y:=Ek g;have p:∀B,(execOp (ev l) o).run P B=.ok (.value v) B:=λB=>by rw[y];exact Cb P s B v B (C B)
         exact S _ _ _ _ (q.ahead m J T z (G v) (λ_ y=>y) (.inl ⟨u,v,k v,p w,.inl p⟩)) N
       |succ c=>
        simp only[I]at b;cases g:wt P (ev l) o with
        |none=>rw[g]at b;exact b.elim
        |some s=>
         rw[g]at b
         have H:l8 P s w λv=>yS P ops e (i::done) ((i,s,v)::pend) (l.put o.dst v) w K:=by
          simp only at b;split at b
          ·exact b.out
          ·exact b
         clear b;have b:=H;simp only[xd,Fe]at b;cases C:s.run P w with
         |halt x B=>rw[C]at b;exact b.elim
         |ok v B=>
          rw[C]at b;obtain⟨rfl,N⟩:=b;have y:=DS g;have p:∀D,s.run P D=.ok v D->(execOp (ev l) o).run P D=.ok (.value v) D:=λD h1=>by rw[y];exact Cb P s D v D h1
          exact S _ _ _ _ (q.ahead m J T z (G v) (λ_ y=>af _ y)
           (.inl ⟨u,v,k v,p _ C,.inr ⟨s,ai,p⟩⟩)) N
     ·have q:=R.same O m;have u:jT ops l o=false:=by rw[O.wanted];exact W
      exact S _ _ _ _ (q.ahead m J T z ⟨λt V=>Ds V,zB _ _⟩ (λ_ y=>y)
       (.inr ⟨u,λd M=>by rw[M];exact vj⟩)) U
def EE{F:NP_}:∀{l:List Nat},K3 F l->∀j∈l,F j
 | [],_,j,b=>by cases b
 | [k],h,j,b=>by rcases bN.1 b with rfl;exact h
 |k::m::l,h,j,b=>by
  rcases ar.1 b with rfl|b
  ·exact h.1
  ·exact EE h.2 j b
def Ci{P:Program}{w:Wt_}{R:Prop}:∀{p:uY},Ab P w p R->R/\∀i s v,(i,s,v)∈p->s.run P w=.ok v w
 | [],h=>⟨h,λ_ _ _ b=>by cases b⟩
 |(i,s,v)::r,h=>by
  obtain⟨h1,f⟩:=Ci h.2;refine⟨h1,λg c d b=>?_⟩;rcases ar.1 b with e|b
  ·cases e;exact h.1
  ·exact f g c d b
def CR.took(h:CR P ops n L A done pend E a w)(u:qY P ops=true){j:Nat}{o:Oper}(z:ops[j]? =some o)(s:j∈A)(e:∀d∈lM ops j,d∈L){v:Vt_}
  (x:∀d,o.dst=some d->E.get d=v)(i:u0 n o.dst=true):CR P ops n (j::L) (A.erase j) done pend E (a.put o.dst v) w:=by
 have b:ul n (({l:=[],g:=λt=>a.tmps.getD t undef,ds:=E.ds}:fi).put o.dst v) (a.put o.dst v):=ul.put (E:=({l:=[],g:=λt=>a.tmps.getD t undef,ds:=E.ds}:fi)) ⟨h.size,λ_=>rfl,h.defs⟩ i v;refine⟨λk=>?_,λk f q=>?_,h.nodup.erase j,h.ord.erase,h.closed.cons e,b.size,by have:=b.defs;rwa[yc]at this,λt y=>?_,λk f=>h.val k (List.mem_of_mem_erase f)⟩
 ·rw[h.doneIff];by_cases m:k=j
  ·subst m;simp[s]
  ·grind
 ·have p:=List.mem_of_mem_erase f;rcases ar.1 q with rfl|q
  ·exact(h.nodup.not_mem_erase) f
  ·exact h.apart k p q
 ·rw[b.get];by_cases c:o.dst=some t
  ·rw[c,qH,x t c]
  ·rw[Bc c];refine h.frame t λk f ok r=>?_;by_cases m:k=j
   ·grind
   ·grind
def CR.acted(h:CR P ops n L A done pend E a w)(D:qY P ops=true){j:Nat}{o:Oper}(S:ops[j]? =some o)(J:j ∉ done)(c:∀d∈lM ops j,d∈L){v:Vt_}{E' :fi}{w' :Wt_}
  (M:(∀t,o.dst≠some t->E'.get t=E.get t)/\E'.ds=E.ds/\(∀d,o.dst=some d->E'.get d=v))(H:u0 n o.dst=true)
  (hp:∀i s u,(i,s,u)∈(pend.filter λp=> !(BC ops j).contains p.1)->w' =w\/s.run P w' =.ok u w'):
  CR P ops n (j::L) A (j::done) (pend.filter λp=> !(BC ops j).contains p.1) E' (a.put o.dst v) w' :=by
 have G:j ∉ A:=λT=>J ((h.doneIff j).2 (.inr T));have f:ul n (({l:=[],g:=λt=>a.tmps.getD t undef,ds:=E.ds}:fi).put o.dst v) (a.put o.dst v):=ul.put (E:=({l:=[],g:=λt=>a.tmps.getD t undef,ds:=E.ds}:fi)) ⟨h.size,λ_=>rfl,h.defs⟩ H v;have r:∀i∈A,i ∉ BC ops j:=λi V C=>h.apart i V (zx h.closed c i C);refine⟨λk=>?_,λk z N=>?_,h.nodup,h.ord.mono (λx O=>af _ O),h.closed.cons c,f.size,by have:=f.defs;rw[yc]at this;rw[M.2.1];exact this,λt B=>?_,λk z=>?_⟩
 ·simp only[ar,h.doneIff,or_assoc]
 ·rcases ar.1 N with rfl|N
  ·exact G z
  ·exact h.apart k z N
 ·rw[f.get];by_cases q:o.dst=some t
  ·rw[q,qH,M.2.2 t q]
  ·rw[Bc q,M.1 t q];exact h.frame t B
 ·have h1:UF P ops E' w pend k:=by
   refine(h.val k z).env D (λok b t B=>M.1 t λR=>?_) (λ_ O=>O);obtain⟨U,y,K,_⟩:=h.val k z;rw[b]at y;cases y;have I:k≠j:=λe=>G (e▸z);rcases B with B|B
   ·rcases(qT D b S K I).2 t R B with C|C
    ·have m:∀d∈lM ops k,d∈done:=λd Q=>h.closedDone k ((h.doneIff k).2 (.inr z)) d Q;exact J (zx h.closedDone m j C)
    ·exact r k z C
   ·exact((qT D b S K I).1 t B).1 R
  refine h1.world λs v C=>?_;have F:(k,s,v)∈pend.filter λp=> !(BC ops j).contains p.1:=aT.2 ⟨C,by grind⟩;exact⟨F,hp k s v F⟩
end
def xQ{L:List Nat}{b:Array Bool}(o:∀i,i<ops.length->(b.getD i true=true↔i∈L))(p:b.size=ops.length)(h:∀i∈L,i<ops.length){i:Nat}:
  i∈Region.ready .any ops.toArray b↔i∈Eu ops L:=by
 rw[qM];unfold Region.ready;simp only[aT,eR,cI,ao];constructor
 ·rintro⟨h1,l,g⟩;refine⟨h1,λr=>?_,λd c=>?_⟩
  ·grind
  ·have f:ops[i]? =some ops[i]:=aq h1;simp only[cQ,f,eI,dt]at g;simp only[lM,f,D3,aL,aT]at c;obtain⟨e,⟨k,j⟩,rfl⟩:=c;have m:=(jC.1 g) e (by simpa using k);simp only[j,jk,fG]at m;by_cases q:e.on<ops.length
   ·grind
   ·grind
 ·rintro⟨h1,l,g⟩;refine⟨h1,?_,?_⟩
  ·grind
  ·have f:ops[i]? =some ops[i]:=aq h1;simp only[cQ,f,eI,dt];refine jC.2 λe k=>?_;cases j:Region.binds .any e with
   |false=>rfl
   |true=>
    have c:e.on∈L:=g e.on (by simp only[lM,f,D3,aL,aT];exact⟨e,⟨by simpa using k,j⟩,rfl⟩);have:=(o _ (h _ c)).2 c;rw[fV]at this|-;rw[gz (by grind)]at this|-;simpa using this
def Mn(hP:tP P=true){ro:Option Nat}{n:Nat}{ops:List Oper}(y:qY P ops=true)(hdst:(ops.all λo=>u0 n o.dst)=true)
  {Q:Exit->Act->World->Prop}{K:fi->World->Prop}(hK:∀E a w,ul n E a->K E w->Q .normal a w):
  ∀(m:Nat) (L A done:List Nat) (pend:uY) (E:fi) (a:Act) (w:Wt_) (l:Nat) (b:Array Bool),
   CR P ops n L A done pend E a w->(∀i,i<ops.length->(b.getD i true=true↔i∈L))->b.size=ops.length->(∀i∈L,i<ops.length)->
   ((List.range ops.length).filter λi=> !L.contains i).length<=m->yS P ops l done pend E w K->
   wpAnyIn (FR ro) 0 P .any ops.toArray Q m b a w:=by
 have F:∀(L A done:List Nat) (pend:uY) (E:fi) (a:Act) (w:Wt_) (l:Nat),CR P ops n L A done pend E a w->Eu ops L=[]->yS P ops l done pend E w K->Q .normal a w:=by
  intro L A done pend E a w l N W h
  have hA:A=[]:=by
   apply aI;intro hne;obtain⟨i,B,M⟩:=N.ord.first hne;obtain⟨o,ho,_⟩:=N.val i B;have:i∈Eu ops L:=qM.2 ⟨(aF.1 ho).1,N.apart i B,M⟩;rw[W]at this;cases this
  subst hA
  have hrd:Eu ops done=[]:=by
   apply fy.2;intro i B;obtain⟨h1,h2,h3⟩:=qM.1 B;have e:∀k,k∈done↔k∈L:=λk=>by rw[N.doneIff];simp
   have:i∈Eu ops L:=qM.2 ⟨h1,λhm=>h2 ((e i).2 hm),λd M=>(e d).1 (h3 d M)⟩;rw[W]at this;cases this
  cases l with
  |zero=>exact h.elim
  |succ l=>
   simp only[yS,hrd,List.find?_nil]at h;exact hK E a w ⟨N.size,λt=>N.frame t (λi B=>by cases B),N.defs⟩ h
 intro m;induction m with
 |zero=>
  intro L A done pend E a w l b N hL I O hm h
  have W:Eu ops L=[]:=by
   apply fy.2;intro i B;obtain⟨h1,h2,_⟩:=qM.1 B;have:i∈(List.range ops.length).filter λi=> !L.contains i:=aT.2 ⟨eR.2 h1,by simpa using h2⟩;have:=List.length_pos_of_mem this;omega
  refine⟨?_,F L A done pend E a w l N W h⟩;apply fy.2;intro i B;rw[xQ hL I O,W]at B;cases B
 |succ m ih=>
  intro L A done pend E a w l b N hL I O hm h;refine⟨λW=>F L A done pend E a w l N ?_ h,λj hj=>?_⟩
  ·apply fy.2;intro i B;rw[<-xQ hL I O,W]at B;cases B
  ·have hjr:j∈Eu ops L:=(xQ hL I O).1 hj;obtain⟨C,hjL,J⟩:=qM.1 hjr;have z:ops[j]? =some ops[j]:=aq C;have V:u0 n (ops[j]).dst=true:=bf.1 hdst _ (av C)
   have U:∀i,i<ops.length->((b.setIfInBounds j true).getD i true=true↔i∈j::L):=by
    intro i B;by_cases Z:j=i
    ·subst Z;simp[I,B]
    ·have:(b.setIfInBounds j true).getD i true=b.getD i true:=by
      simp[Z]
     rw[this,hL i B];simp[lv Z]
   have G:(b.setIfInBounds j true).size=ops.length:=by simpa using I
   have H:∀i∈j::L,i<ops.length:=λi B=>by
    rcases ar.1 B with rfl|B
    ·exact C
    ·exact O i B
   have T:((List.range ops.length).filter λi=> !(j::L).contains i).length<=m:=by
    have e:((List.range ops.length).filter λi=> !(j::L).contains i)=(((List.range ops.length).filter λi=> !L.contains i).filter λi=> !(i==j)):=by
     rw[gl];apply dH;intro x _;simp only[lH,Bool.not_or]
    have hmem:j∈(List.range ops.length).filter λi=> !L.contains i:=aT.2 ⟨eR.2 C,by simpa using hjL⟩
    have h5:(((List.range ops.length).filter λi=> !L.contains i).filter λi=> !(i==j)).length<((List.range ops.length).filter λi=> !L.contains i).length:=
     gY.2 ⟨j,hmem,by simp⟩
    rw[e];omega
   obtain⟨g,A',r,q,E',D,h',hcase⟩:=adv y hjr l A done pend E N h;have R:=D.look y z hjL J;have hex:=DT (a:=a) (E:=E') (nB y z) R;have hwa:=AW (a:=a) (E:=E') (o:=ops[j]) R;unfold wpOpIn;simp only[cQ,z];rw[hwa];rcases hcase with hA|⟨hnd,X⟩
   ·obtain⟨o,ho,hc,hv⟩:=D.val j hA;rw[z]at ho;cases ho;rcases hv with⟨hw,v,M,W,_⟩|⟨hw,M⟩
    ·rw[ae hw];refine⟨λf _=>FR.fn ro f,?_⟩;rw[FR.round,Oper.semAt_eq ro a.eval _ (λc hc' =>by have:=nB y z;rw[hc']at this;cases this),hex,W];exact ih _ _ _ _ _ _ _ g _ (D.took y z hA J M V) U G H T h'
    ·rw[aa (by rw[hw];simp)];exact⟨λf _=>FR.fn ro f,ih _ _ _ _ _ _ _ g _ (D.took y z hA J M V) U G H T h'⟩
   ·cases g with
    |zero=>exact h'.elim
    |succ g=>
     have S:j∈Eu ops r:=qM.2 ⟨C,hnd,λd M=>(D.doneIff d).2 (.inl (J d M))⟩;simp only[yS,X]at h'
     have h2:∀rs,Eu ops r=rs->(match rs with| []=>K E' w|rs=>K3 (λj=>match ops[j]? with
       |none=>False
       |some o=>Rn ops o E' (λE=>Rf P (ev E) o w λv w' =>Ab P w' (q.filter λp=> !(BC ops j).contains p.1) (yS P ops g (j::r) (q.filter λp=> !(BC ops j).contains p.1) (E.put o.dst v) w' K))
        (λE=>yS P ops g (j::r) (q.filter λp=> !(BC ops j).contains p.1) (E.skip o.dst) w K)) rs)->
       Rn ops ops[j] E' (λE=>Rf P (ev E) ops[j] w λv w' =>Ab P w' (q.filter λp=> !(BC ops j).contains p.1) (yS P ops g (j::r) (q.filter λp=> !(BC ops j).contains p.1) (E.put (ops[j]).dst v) w' K))
        (λE=>yS P ops g (j::r) (q.filter λp=> !(BC ops j).contains p.1) (E.skip (ops[j]).dst) w K):=by
      intro rs hrs hh;cases rs with
      |nil=>rw[hrs]at S;cases S
      |cons k rs=>
       have:=EE hh j (hrs▸S);rw[z]at this;exact this
     have h3:=h2 _ rfl h';rcases xH h3 with⟨hw,E1,hs,hy⟩|⟨hw,E1,hs,hno⟩
     ·rw[ae hw];have Y:=D.same hs y;refine AT (ρ:=ev E1) (nB y z) (by rw[hex,hs.ev]) (BS hP (JS E1) hy) λv w' hv=>?_;obtain⟨hv1,hv2⟩:=Ci hv;exact ih _ _ _ _ _ _ _ g _ (Y.acted y z hnd J ⟨λt ht=>Bc ht,yc _ _ _,λd M=>by rw[M];exact qH⟩ V (λi s u hm=>.inr (hv2 i s u hm))) U G H T hv1
     ·rw[aa (by rw[hw];simp)];have Y:=D.same hs y;refine⟨λf _=>FR.fn ro f,?_⟩;have hI2:=Y.acted (v:=undef) (w' :=w) (E' :=E1.skip (ops[j]).dst) y z hnd J ⟨λt ht=>Ds ht,zB _ _,λd M=>by rw[M];exact vj⟩ V (λi s u hm=>.inl rfl);exact ih _ _ _ _ _ _ _ g _ hI2 U G H T hno
def gh:Code->List Nat
 | .region _ ops _=>ops.toList.filterMap (·.dst)
 | .seq a b=>gh a++gh b
 | .cond _ a b=>gh a++gh b
 | .block _ c=>gh c
 | .loop c=>gh c
 | .scope c=>gh c
 |_=>[]
def mC:Code->Bool
 | .seq a b=>mC a||mC b
 | .cond _ a b=>mC a||mC b
 | .block _ c=>mC c
 | .loop c=>mC c
 | .scope c=>mC c
 | .rangeFunc .. =>true
 |_=>false
def fO(ds:List Nat):List (Nat×Option Value)->List Nat->List Nat
 | [],acc=>acc
 |(k,_)::r,acc=>
  match ds.contains k&& !acc.contains k with
  |true=>fO ds r (k::acc)
  |false=>fO ds r acc
def DP:List Nat->Type
 | []=>Unit
 |_::l=>Value×DP l
def kN(E:fi):(l:List Nat)->DP l
 | []=>()
 |t::l=>(E.get t,kN E l)
def ri:(l:List Nat)->DP l->List (Nat×Option Value)->List (Nat×Option Value)
 | [],_,r=>r
 |t::l,s,r=>(t,some s.1)::ri l s.2 r
def yy{α:Type}{β:Sort _}:List α->(List α->β)->β
 | [],k=>k []
 |x::xs,k=>yy xs λl=>k (x::l)
def ud{α:Type}{β:Sort _}:∀(l:List α) (k:List α->β),yy l k=k l
 | [],_=>rfl
 |x::a,k=>by rw[yy,ud a]
def Oo:Operand->Option Nat
 | .tmp t=>some t
 |_=>none
def rt:Code->List Nat
 | .region _ ops _=>ops.toList.flatMap λo=>o.op.operands.toList.filterMap Oo
 | .seq a b=>rt a++rt b
 | .cond c a b=>(Oo c).toList++rt a++rt b
 | .block _ c=>rt c
 | .loop c=>rt c
 | .scope c=>rt c
 | .rangeFunc gv _ a b=>(Oo gv).toList++rt a++rt b
 |_=>[]
def D5(ds:List Nat):List Nat->List Nat->List Nat
 | [],acc=>acc
 |k::r,acc=>
  match ds.contains k&& !acc.contains k with
  |true=>D5 ds r (k::acc)
  |false=>D5 ds r acc
def KB(ds:List Nat)(l:List (Nat×Option Value))(us:List Nat):List Nat:=D5 ds us (fO ds l [])
def wq:Nat->Nat
 |0=>0
 |1=>1
 |_=>2
def YN:Code->Nat
 | .region _ ops _=>ops.toList.length
 | .seq a b=>YN a+YN b
 | .cond _ _ _=>9
 | .block _ c=>YN c
 | .loop _=>9
 | .rangeFunc _ _ _ _=>9
 |_=>0
def ad9:Op->Bool
 | .alloc _=>true
 | .box _ _=>true
 | .buildSlice _ _ _=>true
 | .makeSlice _ _ _=>true
 | .makeMap _ _=>true
 | .call _=>true
 | .store _ _ _=>true
 | .mapUpdate _ _ _ _=>true
 | .insert _ _ _ _=>true
 | .mapEntry _ _ _=>true
 | .entryStore _ _ _ _=>true
 |_=>false
def Sh(ops:List Oper):Bool:=
 let es:=(List.range ops.length).filter λi=>match ops[i]? with|some o=>ad9 o.op|none=>false
 es.any λj=>yy (BC ops j) λaj=>es.any λi=>Nat.blt i j&& !aj.contains i&& !(BC ops i).contains j
def Nm:Code->Option Nat->Nat
 | .region _ ops draw,i=>match i with
  |none=>match (ops.toList.any λo=>o.guard.isSome)||(draw&& Sh ops.toList)with|true=>2|false=>1
  |some _=>0
 | .seq a b,i=>
  let na:=match Nat.ble 2 (Nm a none)&& !mC a&& Nat.ble 3 (YN b)with|true=>1|false=>Nm a none
  match i with
  |none=>wq (na*Nm b none)
  |some i=>wq (Nm a (some i)+na*Nm b (some i))
 | .cond _ a b,i=>wq (Nm a i+Nm b i)
 | .block id c,i=>match i with
  |none=>wq (Nm c none+Nm c (some id))
  |some i=>Nm c (some i)
 | .loop c,i=>match i with
  |none=>0
  |some i=>Nm c (some i)
 | .exit id,i=>match i with
  |none=>0
  |some i=>match Nat.beq i id with|true=>1|false=>0
 | .ret,_=>0
 | .refuse _,_=>0
 | .goto _,_=>0
 |_,i=>match i with
  |none=>1
  |some _=>0
def Gi(a b:Code):Bool:=Nat.ble 2 (Nm a none)&& !mC a&& Nat.ble 3 (YN b)
structure cG{S:Type}(A:(S->World->Prop)->Prop)(B:S->World->Prop):Prop where
 out:∃J:S->World->Prop,(∀s w,J s w->B s w)/\A J
def cG.at{S:Type}{A:(S->World->Prop)->Prop}{B:S->World->Prop}(J:S->World->Prop)(h:A J)(a:∀s w,J s w->B s w):cG A B:=⟨⟨J,a,h⟩⟩
def oK(E:fi)(ds live:List Nat)(s:DP live)(g:Nat->Value)(marks:List Nat):fi:=
 {l:=ri live s E.l,g:=λt=>match ds.contains t with|true=>g t|false=>E.g t,ds:=marks}
structure nU{S:Type}(body:S->World->(S->World->Prop)->Prop)(s:S)(w:Wt_):Prop where
 out:∃(I:S->World->Prop) (m:S->World->Nat),I s w/\∀s w,I s w->body s w λs' w' =>I s' w' /\m s' w' <m s w
def Qr(ro:Option Nat)(w:Wt_)(K:Nat->List Nat->World->Prop):Prop:=
 match ro with
 |none=>K w.heap.size [w.heap.size] (w.alloc (.deferred (some [])))
 |some l0=>∃r,w.heap[l0]? =some (.loop r)/\K r.defers [] w
def tO(W:Wt_)(l:Nat)(r:Loop):Prop:=W.heap[l]? =some (.loop r)
def O3(W:Wt_)(l:Nat)(rec:Loop):Prop:=∃st pend,tO W l {rec with state:=st,pending:=pend}
def Z2(P:Program)(ro:Option Nat)(gv:Vt_)(w:Wt_)(np:Nat)
  (rnd:Nat->List Value->World->(World->Prop)->(Code->World->Prop)->Prop)(after:List Nat->Option Code->World->Prop):Prop:=
 match gv with
 | .func (.func f) first captured=>
  Qr ro w λD mk w1=>∀rec:Loop,rec.state=.ready->rec.pending=none->rec.defers=D->
   (∀(args:LV_) (W:Wt_) (K:aY),args.length=np->O3 W w1.heap.size rec->
    rnd w1.heap.size args W
     (λW' =>∃r,tO W' w1.heap.size r/\K (.bool true) (W'.putObj w1.heap.size (.loop {r with state:=.ready,pending:=none})))
     (λc W' =>∃r,tO W' w1.heap.size r/\K (.bool false) (W'.putObj w1.heap.size (.loop {r with state:=.done,pending:=some c})))->
    Yl P w1.heap.size ⟨args⟩ W K)->
   Ca P f ⟨first.toList++(.func (.yield w1.heap.size) #[] #[]::captured.toList)⟩ (w1.alloc (.loop rec)) λ_ W=>
    ∃r,tO W w1.heap.size r/\r.state≠ .busy/\after mk r.pending (W.putObj w1.heap.size (.loop {r with state:=.exhausted}))
 |_=>False
structure Et(P:Program)(ro:Option Nat)(gv:Vt_)(w:Wt_)(np:Nat)
  (rnd:Nat->List Value->World->(World->Prop)->(Code->World->Prop)->Prop)(after:List Nat->Option Code->World->Prop):Prop where
 out:Z2 P ro gv w np rnd after
def sV{ro:Option Nat}{d:Vt_}{c:Nat}
  {b:Nat->List Value->World->(World->Prop)->(Code->World->Prop)->Prop}{a:List Nat->Option Code->World->Prop}:Et P ro d w c b a↔Z2 P ro d w c b a:=⟨Et.out,Et.mk⟩
def Vq(l:Nat)(W:Wt_)(K:World->Prop):Prop:=∃r,tO W l r/\r.state=.ready/\K (W.putObj l (.loop {r with state:=.busy}))
structure pP(l:Nat)(W:Wt_)(K:World->Prop):Prop where
 out:Vq l W K
def vt:List Nat->Nat->List Value->List (Nat×Option Value)->List (Nat×Option Value)
 |t::ts,i,vs,r=>vt ts (i+1) vs ((t,some (vs.getD i undef))::r)
 | [],_,_,r=>r
def jx(N R:World->Prop)(X:Nat->World->Prop)(pend:Option Code)(W:Wt_):Prop:=
 match pend with
 |none=>N W
 |some .ret=>R W
 |some (.exit id)=>X id W
 |_=>False
def vc(P:Program)(jn:Bool)(ro:Option Nat):Code->(Exit->fi->World->Prop)->fi->World->Prop
 | .skip,Q,E,w=>Q .normal E w
 | .region _ ops draw,Q,E,w=>
  match draw with
  |false=>xX P ops.toList ops.toList E w (Q .normal)
  |true=>yS P ops.toList (ops.toList.length+1) [] [] E w.drew (Q .normal)
 | .seq a b,Q,E,w=>
  match jn&& Gi a b with
  |false=>vc P jn ro a (λe E w=>match e with| .normal=>vc P jn ro b Q E w|e=>Q e E w) E w
  |true=>
   yy E.l λel=>yy (KB (gh a) el (rt b)) λlive=>
   cG (S:=DP live) (λJ=>vc P jn ro a (λe E' w' =>match e with| .normal=>J (kN E' live) w' |e=>Q e E' w') {E with l:=el} w)
    (λs w' =>∀g,vc P jn ro b Q (oK {E with l:=el} (gh a) live s g E.ds) w')
 | .cond c t f,Q,E,w=>Ep (ev E c) λb=>bc b (vc P jn ro t Q E w) (vc P jn ro f Q E w)
 | .block id c,Q,E,w=>vc P jn ro c (λe E w=>match e with| .exit i=>bc (Nat.beq i id) (Q .normal E w) (Q (.exit i) E w)|e=>Q e E w) E w
 | .loop c,Q,E,w=>
  yy E.l λel=>yy (fO (gh c) el []) λlive=>
  match mC c with
  |false=>nU (S:=DP live) (λs w K=>∀g,vc P jn ro c (λe E' w' =>match e with| .normal=>K (kN E' live) w' |e=>Q e E' w')
    (oK {E with l:=el} (gh c) live s g E.ds) w) (kN {E with l:=el} live) w
  |true=>nU (S:=DP live×List Nat) (λs w K=>∀g,vc P jn ro c (λe E' w' =>match e with| .normal=>K (kN E' live,E'.ds) w' |e=>Q e E' w')
    (oK {E with l:=el} (gh c) live s.1 g s.2) w) (kN {E with l:=el} live,E.ds) w
 | .rangeFunc gv ps assign body,Q,E,w=>
  Et P ro (ev E gv) w ps.toList.length
   (λl args W KN KJ=>vc P jn (some l) assign (λe E W=>match e with
     | .normal=>pP l W λW=>vc P jn (some l) body (λe _ W=>match e with
      | .normal=>KN W
      | .ret=>KJ .ret W
      | .exit id=>KJ (.exit id) W
      |_=>False) E W
     |_=>False) {E with l:=vt ps.toList 0 args E.l,ds:=[]} W)
   (λmk pend W=>jx (λW=>Q .normal {E with ds:=mk++E.ds} W) (λW=>Q .ret {E with ds:=mk++E.ds} W)
    (λid W=>Q (.exit id) {E with ds:=mk++E.ds} W) pend W)
 | .exit id,Q,E,w=>Q (.exit id) E w
 | .ret,Q,E,w=>Q .ret E w
 | .label _,Q,E,w=>Q .normal E w
 | .scope c,Q,E,w=>match ro with
  |none=>vc P jn none c (λe E w=>match e with| .goto _=>False|e=>Q e E w) E w
  |some _=>False
 | .goto _,_,_,_=>False
 | .refuse _,_,_,_=>False
def Hu(P:Program)(n:Nat):Code->Bool
 | .region _ ops draw=>(ops.toList.all λo=>u0 n o.dst)&& (!draw||(P.follows .mixedOrders&& qY P ops.toList))
 | .seq a b=>Hu P n a&& Hu P n b
 | .cond _ a b=>Hu P n a&& Hu P n b
 | .block _ c=>Hu P n c
 | .loop c=>Hu P n c
 | .scope c=>Hu P n c
 | .rangeFunc _ ps a b=>(ps.toList.all λd=>Nat.blt d n)&& Hu P n a&& Hu P n b
 |_=>true
def D0{K b:aY}(h:rv P s w K)(c:∀v a,K v a->b v a):rv P s w b:=by
 rw[A2]at*;unfold UJ at*;split at h
 ·exact c _ _ h
 ·exact h.elim
def Dp{s:Sem Unit}{K b:World->Prop}(h:ru P s w K)(c:∀a,K a->b a):ru P s w b:=by
 rw[Ax]at*;unfold Up at*;split at h
 ·exact c _ h
 ·exact h.elim
def zq{s:Sem Next}{K c:aY}(h:rn P s w K)(a:∀v b,K v b->c v b):rn P s w c:=by
 rw[py]at*;unfold Nu at*;split at h
 ·exact a _ _ h
 ·exact a _ _ h
 ·exact Ca.mono h a
 ·exact h.mono λ_ _ ⟨v,e,d⟩=>⟨v,e,a _ _ d⟩
 ·exact h.elim
def A7{K a:Bool->Prop}(h:Ep v K)(c:∀b,K b->a b):Ep v a:=by
 unfold Ep at*;split at h
 ·exact c _ h
 ·exact h.elim
def CC(h:oQ v K)(c:∀b,K b->a b):oQ v a:=by
 unfold oQ at*;split at h
 ·exact c _ h
 ·exact h.elim
def HZ{fv:Vt_}{a:LV_}{K d:aY}(h:mM P fv a w K)(b:∀v c,K v c->d v c):mM P fv a w d:=by
 rw[kE]at*;unfold JH at*;split at h
 ·exact Ca.mono h b
 ·exact Yl.mono h b
 ·exact h.elim
def GE(h:l8 P s w K)(b:∀v,K v->a v):l8 P s w a:=by
 rw[xd]at*;unfold Fe at*;split at h
 ·grind
 ·exact h.elim
def DK{K b:aY}(h:rx P s w K)(c:∀v a,K v a->b v a):rx P s w b:=⟨D0 h.out c⟩
def EY{s:Sem Unit}{K b:World->Prop}(h:vD P s w K)(c:∀a,K a->b a):vD P s w b:=⟨Dp h.out c⟩
def NC(h:BL P s w K)(b:∀v,K v->a v):BL P s w a:=⟨GE h.out b⟩
def GQ(h:g9 P s K)(b:∀v,K v->a v):g9 P s a:=
 let⟨v,h1,h2⟩:=h.out
 ⟨⟨v,h1,b _ h2⟩⟩
def KU(h:DI P s K)(b:∀v,K v->a v):DI P s a:=⟨GQ h.out b⟩
def FE{ρ:Operand->Value}{a:Op}{c:Value->Prop}(h:xB ρ a K)(b:∀v,K v->c v):xB ρ a c:=by
 unfold xB at*;cases a<;>simp only at h|- <;>first|exact b _ h|exact A7 h (λ_=>b _)|exact CC h b|exact h.elim
def Hi{ρ:Operand->Value}{o:Oper}{K i:aY}(h:Rf P ρ o w K)(a:∀v g,K v g->i v g):Rf P ρ o w i:=by
 unfold Rf at*
 cases d:o.op<;>rw[d]at h<;>simp only at h|- <;>
  first
   |exact D0 h a
   |exact DK h a
   |exact Dp h (λ_=>a _ _)
   |exact EY h (λ_=>a _ _)
   |exact a _ _ h
   |exact A7 h (λ_=>a _ _)
   |exact CC h (λ_=>a _ _)
   |exact zq h a
   |exact h.elim
   |(split at h<;>first|exact D0 h a|exact DK h a|exact Dp h (λ_=>a _ _)|exact EY h (λ_=>a _ _))
   |skip
 rename_i c
 cases e:c.callee with
 |value f=>
  rw[e]at h;cases f<;>simp only at h|- <;>first|exact HZ h a|(split at h<;>first|exact⟨zq h.out a⟩|exact Ca.mono h a)
 |builtin b=>rw[e]at h;cases b<;>first|exact DK h a|exact zq h a
 |invoke r m=>rw[e]at h;exact zq h a
def zP{o:Oper}{f no a e:fi->Prop}(h:Rn ops o E f no)
  (n:∀c,E.Same c->f c->a c)(i:∀c,E.Same c->no c->e c):Rn ops o E a e:=by
 unfold Rn at*;cases l:o.guard with
 |none=>rw[l]at h;exact n E (.refl E) h
 |some g=>
  obtain⟨j,d⟩:=g;rw[l]at h;simp only at h|-;cases p:Bb ops j with
  |none=>rw[p]at h;exact i E (.refl E) h
  |some s=>
   rw[p]at h;simp only at h|-;cases m:E.skipped s with
   |true=>rw[m]at h;exact i E (.refl E) h
   |false=>
    rw[m]at h;simp only[Ep]at h|-;cases k:E.get s<;>rw[k]at h<;>first|exact h.elim|skip
    rename_i b
    cases b<;>cases d<;>first|exact n _ (fi.same_put k) h|exact i _ (fi.same_put k) h
def Fr(ds:List Nat)(E E' :fi):Prop:=∀t,t ∉ ds->E'.get t=E.get t
def Fr.refl(ds:List Nat)(E:fi):Fr ds E E:=λ_ _=>rfl
def Fr.trans{E1 b:fi}(h:Fr ds E E1)(c:Fr ds E1 b):Fr ds E b:=λt a=>(c t a).trans (h t a)
def Fr.mono{a:List Nat}{E1:fi}(h:Fr ds E E1)(hs:∀t∈ds,t∈a):Fr a E E1:=λt c=>h t λb=>c (hs t b)
def Fr.put(E:fi){d:Option Nat}(v:Vt_)(a:∀t,d=some t->t∈ds):Fr ds E (E.put d v):=λt b=>Bc λe=>b (a t e)
def Fr.skip(E:fi){d:Option Nat}(a:∀t,d=some t->t∈ds):Fr ds E (E.skip d):=λt b=>Ds λe=>b (a t e)
def Fr.of_same{E' :fi}(h:E.Same E'):Fr ds E E' :=λt _=>h.1 t
def Ev{K q:fi->World->Prop}:∀(l:List Oper),(∀o∈l,∀t,o.dst=some t->t∈ds)->∀(E:fi) (w:Wt_),xX P ops l E w K->
  (∀a f,Fr ds E a->a.ds=E.ds->K a f->q a f)->xX P ops l E w q:=by
 intro l;induction l with
 |nil=>exact λ_ E w h d=>d E w (.refl _ _) rfl h
 |cons o rest p=>
  intro m E w h d;have k:=m o ai;have n:∀o∈rest,∀t,o.dst=some t->t∈ds:=λu r=>m u (af _ r);refine zP h (λj c s=>Hi s λv f y=>p n _ _ y λa b i e g=>d a b ?_ ?_ g) (λj c x=>p n _ _ x λa b i e g=>d a b ?_ ?_ g)
  ·exact((Fr.of_same c).trans (Fr.put j v k)).trans i
  ·rw[e,yc,c.2]
  ·exact((Fr.of_same c).trans (Fr.skip j k)).trans i
  ·rw[e,zB,c.2]
def BU{F G:NP_}(h:∀j,F j->G j):∀{l:List Nat},K3 F l->K3 G l
 | [],_=>trivial
 | [_],a=>h _ a
 |_::k::l,a=>⟨h _ a.1,BU h (l:=k::l) a.2⟩
def Bf{P:Program}{w:Wt_}{R b:Prop}(h:R->b):∀{p:uY},Ab P w p R->Ab P w p b
 | [],a=>h a
 |_::_,a=>⟨a.1,Bf h a.2⟩
def Qd{K s:fi->World->Prop}(B:∀o∈ops,∀t,o.dst=some t->t∈ds):∀(f:Nat) (done:List Nat) (m:uY) (E:fi) (w:Wt_),yS P ops f done m E w K->
  (∀d k,Fr ds E d->d.ds=E.ds->K d k->s d k)->yS P ops f done m E w s:=by
 intro f;induction f with
 |zero=>intro _ _ _ _ h;exact h.elim
 |succ f q=>
  intro done m E w h x
  have b:∀(o:Oper) (v:Vt_) (c:fi),o∈ops->E.Same c->∀d k,Fr ds (c.put o.dst v) d->d.ds=(c.put o.dst v).ds->K d k->s d k:=by
   intro o v c p e d k z u y;exact x d k (((Fr.of_same e).trans (Fr.put c v (B o p))).trans z) (by rw[u,yc,e.2]) y
  have l:∀(o:Oper) (c:fi),o∈ops->E.Same c->∀d k,Fr ds (c.skip o.dst) d->d.ds=(c.skip o.dst).ds->K d k->s d k:=by
   intro o c p e d k z u y;exact x d k (((Fr.of_same e).trans (Fr.skip c (B o p))).trans z) (by rw[u,zB,e.2]) y
  simp only[yS]at h|-;split at h
  ·rename_i i D
   split at h
   ·exact h.elim
   ·rename_i o p
    have a:o∈ops:=cX p;refine zP h (λc e g=>?_) (λc e A=>q _ _ _ _ A (l o c a e));split at g
    ·exact FE g λv n=>q _ _ _ _ n (b o v c a e)
    ·split at g
     · (split at g<;>first|exact GQ g λv n=>q _ _ _ _ n (b o v c a e)|exact KU g λv n=>q _ _ _ _ n (b o v c a e))
     ·exact g.elim
    ·split at g
     · (split at g<;>first|exact GE g λv n=>q _ _ _ _ n (b o v c a e)|exact NC g λv n=>q _ _ _ _ n (b o v c a e))
     ·exact g.elim
  ·split at h
   ·exact x E w (.refl _ _) rfl h
   ·refine BU (λj r=>?_) h;cases p:ops[j]? with
    |none=>rw[p]at r;exact r.elim
    |some o=>
     rw[p]at r;have a:o∈ops:=cX p;exact zP r (λc e g=>Hi g λv k n=>Bf (λC=>q _ _ _ _ C (b o v c a e)) n) (λc e A=>q _ _ _ _ A (l o c a e))
def nU.mono{S:Type}{body a:S->World->(S->World->Prop)->Prop}{s:S}(h:nU body s w)
  (b:∀s w K,body s w K->a s w K):nU a s w:=
 let⟨I,m,h0,h1⟩:=h.out
 ⟨⟨I,m,h0,λs w c=>b _ _ _ (h1 s w c)⟩⟩
def nP{r:List (Nat×Option Value)}{t:Nat}:∀{l:List Nat} {s:DP l},t ∉ l->fi.look (ri l s r) t=fi.look r t
 | [],_,_=>rfl
 |k::l,s,b=>by
  have a:Nat.beq k t=false:=by
   cases d:Nat.beq k t with
   |false=>rfl
   |true=>exact absurd (by rw[dN d];exact ai) b
  simp only[ri,fi.look,a,cond_false];exact nP λc=>b (af _ c)
def oy{r:List (Nat×Option Value)}{t:Nat}{E:fi}:∀{l:List Nat},t∈l->fi.look (ri l (kN E l) r) t=some (some (E.get t))
 |k::l,b=>by
  simp only[ri,kN,fi.look];cases a:Nat.beq k t with
  |true=>rw[dN a];rfl
  |false=>
   simp only[cond_false];apply oy;rcases ar.1 b with e|e
   ·subst e;simp at a
   ·exact e
def ti{ds:List Nat}:∀{l:List (Nat×Option Value)} {acc:List Nat},(∀t∈acc,t∈ds)->∀t∈fO ds l acc,t∈ds
 | [],acc,b,t,a=>b t (by simpa [fO]using a)
 |(k,v)::r,acc,b,t,a=>by
  unfold fO at a;cases d:ds.contains k&& !acc.contains k with
  |true=>
   rw[d]at a;refine ti (λx c=>?_) t a;rcases ar.1 c with rfl|c
   ·grind
   ·exact b x c
  |false=>rw[d]at a;exact ti b t a
def sR{ds:List Nat}:∀{l:List (Nat×Option Value)} {acc:List Nat} {t:Nat},t∈acc->t∈fO ds l acc
 | [],acc,t,a=>by simpa [fO]using a
 |(k,v)::r,acc,t,a=>by
  unfold fO;cases ds.contains k&& !acc.contains k with
  |true=>exact sR (af _ a)
  |false=>exact sR a
def qV{ds:List Nat}:∀{l:List (Nat×Option Value)} {acc:List Nat} {t:Nat},t∈ds->fi.look l t≠none->t∈fO ds l acc
 | [],_,_,_,h=>absurd rfl h
 |(k,v)::r,acc,t,a,h=>by
  unfold fO;cases b:Nat.beq k t with
  |true=>
   obtain rfl:=dN b;have c:ds.contains k=true:=by simpa using a
   cases e:acc.contains k with
   |true=>
    simp only[c,jk,oH];exact sR (by simpa using e)
   |false=>
    simp only[c,Bool.not_false,Bool.and_true];exact sR ai
  |false=>
   have d:fi.look r t≠none:=by simpa [fi.look,b]using h
   cases ds.contains k&& !acc.contains k with
   |true=>exact qV a d
   |false=>exact qV a d
def Aa{ds:List Nat}:∀{l acc:List Nat},(∀t∈acc,t∈ds)->∀t∈D5 ds l acc,t∈ds
 | [],acc,b,t,a=>b t (by simpa [D5]using a)
 |k::r,acc,b,t,a=>by
  unfold D5 at a;cases d:ds.contains k&& !acc.contains k with
  |true=>
   rw[d]at a;refine Aa (λx c=>?_) t a;rcases ar.1 c with rfl|c
   ·grind
   ·exact b x c
  |false=>rw[d]at a;exact Aa b t a
def Aq{ds:List Nat}:∀{l acc:List Nat} {t:Nat},t∈acc->t∈D5 ds l acc
 | [],acc,t,a=>by simpa [D5]using a
 |k::r,acc,t,a=>by
  unfold D5;cases ds.contains k&& !acc.contains k with
  |true=>exact Aq (af _ a)
  |false=>exact Aq a
def B9{l:List (Nat×Option Value)}{a:List Nat}:∀t∈KB ds l a,t∈ds:=Aa (ti (by simp))
def Lp{l:List (Nat×Option Value)}{a:List Nat}(b:t∈ds)(h:fi.look l t≠none):t∈KB ds l a:=Aq (qV b h)
def C4{a:List Nat}{s:DP a}{g:Nat->Value}{mk:List Nat}(hs:∀t∈a,t∈ds):Fr ds E (oK E ds a s g mk):=by
 intro t b;have d:t ∉ a:=λc=>b (hs t c);have e:ds.contains t=false:=by simpa using b
 unfold fi.get oK;simp only[nP d,e]
def Fz{a b:Code}(h:Gi a b=true):mC a=false:=by
 simp only[Gi,ao,Bool.not_eq_true']at h;exact h.1.2
def sH{s:DP (fO ds E.l [])}{g:Nat->Value}{mk:List Nat}:Fr ds E (oK E ds (fO ds E.l []) s g mk):=by
 intro t a;have c:t ∉ fO ds E.l []:=λb=>a (ti (by simp) t b);have d:ds.contains t=false:=by simpa using a
 unfold fi.get oK;simp only[nP c,d]
def Eh{jn:Bool}:∀(c:Code) (ro:Option Nat) (Q z:Exit->fi->World->Prop) (E:fi) (w:Wt_),vc P jn ro c Q E w->
  (∀e u B,Fr (gh c) E u->(mC c=false->u.ds=E.ds)->Q e u B->z e u B)->vc P jn ro c z E w:=by
 intro c;induction c with
 |skip=>intro ro Q z E w h d;exact d _ _ _ (.refl _ _) (λ_=>rfl) h
 |region id ops H=>
  intro ro Q z E w h d;have m:∀o∈ops.toList,∀t,o.dst=some t->t∈gh (.region id ops H):=λo ho t A=>lJ.2 ⟨o,ho,A⟩;cases H with
  |false=>exact Ev _ m _ _ h λu B n L hK=>d _ _ _ n (λ_=>L) hK
  |true=>exact Qd m _ _ _ _ _ h λu B n L hK=>d _ _ _ n (λ_=>L) hK
 |seq a b V T=>
  intro ro Q z E w h d;simp only[vc]at h|-;cases X:jn&& Gi a b with
  |true=>
   rw[X]at h;simp only[ud]at h|-;obtain⟨J,hJ,hA⟩:=h.out;simp only[ao]at X;have x:=Fz X.2;refine⟨⟨J,λs I hs g=>T ro _ _ _ I (hJ s I hs g) λe u B n m j=>d e u B (((C4 B9).mono λt A=>cY _ A).trans (n.mono λt A=>fE _ A)) (λp=>m (by simp only[mC,gG]at p;exact p.2)) j,?_⟩⟩;refine V ro _ _ E w hA λe u B n m j=>?_;have k:Fr (gh (.seq a b)) E u:=n.mono λt A=>cY _ A;cases e with
   |normal=>exact j
   |exit id=>exact d _ _ _ k (λ_=>m x) j
   |goto id=>exact d _ _ _ k (λ_=>m x) j
   |ret=>exact d _ _ _ k (λ_=>m x) j
   |panic S=>exact d _ _ _ k (λ_=>m x) j
   |outgrown=>exact d _ _ _ k (λ_=>m x) j
  |false=>
  rw[X]at h;refine V ro _ _ E w h λe E1 I hf1 hd1 j=>?_;have y:Fr (gh (.seq a b)) E E1:=hf1.mono λt A=>cY _ A;have C:mC (.seq a b)=false->E1.ds=E.ds:=λp=>hd1 (by simp only[mC,gG]at p;exact p.1);cases e with
  |normal=>
   refine T ro _ _ E1 I j λe E2 w2 hf2 hd2 Y=>d e E2 w2 (y.trans (hf2.mono λt A=>fE _ A)) (λp=>?_) Y;rw[hd2 (by simp only[mC,gG]at p;exact p.2),C p]
  |exit id=>exact d _ _ _ y C j
  |goto id=>exact d _ _ _ y C j
  |ret=>exact d _ _ _ y C j
  |panic S=>exact d _ _ _ y C j
  |outgrown=>exact d _ _ _ y C j
 |cond c t f iht ihf=>
  intro ro Q z E w h d;refine A7 h λb D=>?_;cases b with
  |true=>exact iht ro _ _ E w D λe u B n m j=>d e u B (n.mono λt A=>cY _ A) (λp=>m (by simp only[mC,gG]at p;exact p.1)) j
  |false=>exact ihf ro _ _ E w D λe u B n m j=>d e u B (n.mono λt A=>fE _ A) (λp=>m (by simp only[mC,gG]at p;exact p.2)) j
 |block id c O=>
  intro ro Q z E w h d;refine O ro _ _ E w h λe u B n m j=>?_;cases e with
  |exit i=>
   simp only at j|-;cases D:Nat.beq i id<;>rw[D]at j<;>exact d _ _ _ n m j
  |normal=>exact d _ _ _ n m j
  |goto id=>exact d _ _ _ n m j
  |ret=>exact d _ _ _ n m j
  |panic S=>exact d _ _ _ n m j
  |outgrown=>exact d _ _ _ n m j
 |loop c O=>
  intro ro Q z E w h d;simp only[vc,ud]at h|-;cases x:mC c with
  |false=>
   rw[x]at h;refine h.mono λs I K D g=>O ro _ _ _ I (D g) λe u B n m j=>?_;have k:Fr (gh (.loop c)) E u:=sH.trans n;have q:mC (.loop c)=false->u.ds=E.ds:=λp=>m x;cases e with
   |normal=>exact j
   |exit id=>exact d _ _ _ k q j
   |goto id=>exact d _ _ _ k q j
   |ret=>exact d _ _ _ k q j
   |panic S=>exact d _ _ _ k q j
   |outgrown=>exact d _ _ _ k q j
  |true=>
   rw[x]at h;refine h.mono λs I K D g=>O ro _ _ _ I (D g) λe u B n m j=>?_;have k:Fr (gh (.loop c)) E u:=sH.trans n;have q:mC (.loop c)=false->u.ds=E.ds:=λp=>by simp only[mC]at p;rw[x]at p;cases p
   cases e with
   |normal=>exact j
   |exit id=>exact d _ _ _ k q j
   |goto id=>exact d _ _ _ k q j
   |ret=>exact d _ _ _ k q j
   |panic S=>exact d _ _ _ k q j
   |outgrown=>exact d _ _ _ k q j
 |rangeFunc gv ps G U _ _=>
  intro ro Q z E w h d;simp only[vc,sV,Z2]at h|-;split at h
  ·rename_i f first R hgv
   unfold Qr at h|-;have M:∀mk:List Nat,Fr (gh (.rangeFunc gv ps G U)) E {E with ds:=mk++E.ds}:=λmk t _=>rfl
   have key:∀(mk:List Nat) (F:Option Code) (W:Wt_),
     jx (λW=>Q .normal {E with ds:=mk++E.ds} W) (λW=>Q .ret {E with ds:=mk++E.ds} W) (λid W=>Q (.exit id) {E with ds:=mk++E.ds} W) F W->
     jx (λW=>z .normal {E with ds:=mk++E.ds} W) (λW=>z .ret {E with ds:=mk++E.ds} W) (λid W=>z (.exit id) {E with ds:=mk++E.ds} W) F W:=by
    intro mk F W p;unfold jx at*;split at p
    ·exact d _ _ _ (M mk) (λh=>by cases h) p
    ·exact d _ _ _ (M mk) (λh=>by cases h) p
    ·exact d _ _ _ (M mk) (λh=>by cases h) p
    ·exact p.elim
   cases ro with
   |none=>
    intro N h1 h2 Z hy;apply(h N h1 h2 Z hy).mono;rintro v W ⟨r,hr,D,ha⟩;exact⟨r,hr,D,key _ _ _ ha⟩
   |some l0=>
    obtain⟨r0,hr0,h⟩:=h;refine⟨r0,hr0,λN h1 h2 Z hy=>?_⟩;apply(h N h1 h2 Z hy).mono;rintro v W ⟨r,hr,D,ha⟩;exact⟨r,hr,D,key _ _ _ ha⟩
  ·exact h.elim
 |exit id=>intro ro Q z E w h d;exact d _ _ _ (.refl _ _) (λ_=>rfl) h
 |scope c O=>
  intro ro Q z E w h d;cases ro with
  |some l=>exact h.elim
  |none=>
   refine O none _ _ E w h λe u B n m j=>?_;cases e with
   |goto l=>exact j.elim
   |exit id=>exact d _ _ _ n m j
   |normal=>exact d _ _ _ n m j
   |ret=>exact d _ _ _ n m j
   |panic S=>exact d _ _ _ n m j
   |outgrown=>exact d _ _ _ n m j
 |label l=>intro ro Q z E w h d;exact d _ _ _ (.refl _ _) (λ_=>rfl) h
 |goto l=>intro ro Q z E w h d;exact h.elim
 |ret=>intro ro Q z E w h d;exact d _ _ _ (.refl _ _) (λ_=>rfl) h
 |refuse why=>intro ro Q z E w h d;exact h.elim
end Go.Vc
