/- Part of a proof. -/
import Derived.Test.YtekbnpagidkbbaaGreatT1
set_option linter.all false
set_option maxRecDepth 100000
set_option maxHeartbeats 4000000
namespace Go.Vc
open Go Go.Vc
variable {ds:List Nat}{ops:List Oper}{t:Nat}{P:Program}{s:Sem Value}{S:Type}{K a:Value->Prop}{v:Vt_}{w:Wt_}{E:fa}
def B7{d:Option Nat}(h:d≠some t):(E.put d v).get t=E.get t:=by
 cases d with
 |none=>rfl
 |some d=>rw[fa.get_put,aa (λe=>h (by rw[e]))]
def EE{d:Option Nat}(h:d≠some t):(E.skip d).get t=E.get t:=by
 cases d with
 |none=>rfl
 |some d=>rw[fa.get_skip,aa (λe=>h (by rw[e]))]
def yU(E:fa)(d:Option Nat)(v:Vt_):(E.put d v).ds=E.ds:=by cases d<;>rfl
def AI(E:fa)(d:Option Nat):(E.skip d).ds=E.ds:=by cases d<;>rfl
def qB{d:Nat}:(E.put (some d) v).get d=v:=by rw[fa.get_put,ab rfl]
def vH{d:Nat}:(E.skip (some d)).get d=undef:=by rw[fa.get_skip,ab rfl]
section
variable{P:Program}{ops:List Oper}{n:Nat}{L A done:List Nat}{pend:vw}{E:fa}{a:Act}{w:Wt_}
def DY.same(h:DY P ops n L A done pend E a w){E' :fa}(hs:E.Same E')(b:qU P ops=true):DY P ops n L A done pend E' a w:=
 {h with
  defs:=by rw[hs.2];exact h.defs
  frame:=λt c=>(h.frame t c).trans (hs.1 t).symm
  val:=λi d=>(h.val i d).env b (λ_ _ t _=>hs.1 t) (λ_ e=>e)}
def DY.look(h:DY P ops n L A done pend E a w)(g:qU P ops=true){j:Nat}{p:Oper}(k:ops[j]? =some p)(s:j ∉ L)(q:∀d∈lM ops j,d∈L):
  ∀t∈p.looksAt ops.toArray,a.tmps.getD t undef=E.get t:=by
 intro t l;refine h.frame t λi m r b c=>?_;obtain⟨u,f,o,_⟩:=h.val i m;rw[b]at f;cases f;by_cases e:i=j
 ·subst e;rw[k]at b;cases b;exact B5 g k o c l
 ·have:=((qQ g b k o e).1 t c).2 l;exact h.apart i m (AF h.closed q i this)
def DY.ahead(h:DY P ops n L A done pend E a w)(j:qU P ops=true){i:Nat}{o:Oper}(hi:ops[i]? =some o)(F:R9 P o<3)(N:i∈FM ops done){E' :fa}{b:vw}
  (D:(∀t,o.dst≠some t->E'.get t=E.get t)/\E'.ds=E.ds)(hp:∀x∈pend,x∈b)
  (Q:(jP ops E o=true/\∃v,(∀d,o.dst=some d->E'.get d=v)/\(execOp (ev E) o).run P w=.ok (.value v) w/\
    ((∀q,(execOp (ev E) o).run P q=.ok (.value v) q)\/∃s,(i,s,v)∈b/\∀q,s.run P q=.ok v q->(execOp (ev E) o).run P q=.ok (.value v) q))\/
   (jP ops E o=false/\∀d,o.dst=some d->E'.get d=undef)):
  DY P ops n L (i::A) (i::done) b E' a w:=by
 obtain⟨J,r,u⟩:=qI.1 N;have C:i ∉ A:=λM=>r ((h.doneIff i).2 (.inr M));have G:i ∉ L:=λK=>r ((h.doneIff i).2 (.inl K));refine⟨λk=>?_,λk c=>?_,bO.2 ⟨C,h.nodup⟩,⟨λd z=>(h.doneIff d).1 (u d z),h.ord⟩,h.closed,h.size,by rw[D.2];exact h.defs,λt l=>?_,λk c=>?_⟩
 ·simp only[aq,h.doneIff];constructor
  ·rintro(g|g|g)
   ·exact .inr (.inl g)
   ·exact .inl g
   ·exact .inr (.inr g)
  ·rintro(g|g|g)
   ·exact .inr (.inl g)
   ·exact .inl g
   ·exact .inr (.inr g)
 ·rcases aq.1 c with rfl|c
  ·exact G
  ·exact h.apart k c
 ·rw[h.frame t (λk c=>l k (ae _ c))];exact(D.1 t (l i ai o hi)).symm
 ·have y:∀t∈o.looksAt ops.toArray,E'.get t=E.get t:=λt l=>D.1 t λz=>B5 j hi F z l;rcases aq.1 c with rfl|c
  ·have I:=HP (P:=P) (nD j hi) y;refine⟨o,hi,F,?_⟩;rw[I.1,I.2];exact Q
  ·refine(h.val k c).env j (λok f t l=>D.1 t λz=>?_) hp;have B:k≠i:=λe=>C (e▸c);obtain⟨O,p,R,_⟩:=h.val k c;rw[f]at p;cases p;rcases l with l|l
   ·have:=((qQ j hi f F (jW B)).1 t z).2 l;have m:∀d∈lM ops k,d∈done:=λd H=>h.closedDone k ((h.doneIff k).2 (.inr c)) d H;exact r (AF h.closedDone m i this)
   ·exact((qQ j hi f F (jW B)).1 t z).1 l
def adv(m:qU P ops=true){K:fa->World->Prop}{j:Nat}(Z:j∈FM ops L):∀(e:Nat) (A done:List Nat) (pend:vw) (E:fa),
  DY P ops n L A done pend E a w->z8 P ops e done pend E w K->
  ∃(F:Nat) (A' f:List Nat) (r:vw) (E' :fa),DY P ops n L A' f r E' a w/\z8 P ops F f r E' w K/\
   (j∈A' \/(j ∉ f/\(FM ops f).find? (Uj P ops)=none)):=by
 intro e;induction e with
 |zero=>intro A done pend E _ h;exact h.elim
 |succ e T=>
  intro A done pend E S h;by_cases Y:j∈A
  ·grind
  ·cases R:(FM ops done).find? (Uj P ops)with
   |none=>
    refine⟨e+1,A,done,pend,E,S,h,.inr ⟨λM=>?_,R⟩⟩;rcases(S.doneIff j).1 M with O|O
    ·exact(qI.1 Z).2.1 O
    ·exact Y O
   |some i=>
    have z:i∈FM ops done:=dt R;have hp:=kZ R;simp only[z8,R]at h;unfold Uj at hp;cases J:ops[i]? with
    |none=>rw[J]at h;exact h.elim
    |some o=>
     rw[J]at h hp;simp only at hp;have U:R9 P o<3:=by simpa [lB]using hp
     simp only at h;rcases yB h with⟨X,l,Q,b⟩|⟨X,l,Q,V⟩
     ·have q:=S.same Q m;have u:jP ops l o=true:=by rw[Q.wanted];exact X
      have G:∀v,(∀t,o.dst≠some t->(l.put o.dst v).get t=l.get t)/\(l.put o.dst v).ds=l.ds:=λv=>⟨λt W=>B7 W,yU _ _ _⟩
      have k:∀v d,o.dst=some d->(l.put o.dst v).get d=v:=λv d M=>by rw[M];exact qB
      cases I:R9 P o with
      |zero=>
       simp only[I]at b;obtain⟨v,C,N⟩:=Fp (P:=P) b;exact T _ _ _ _ (q.ahead m J U z (G v) (λ_ y=>y) (.inl ⟨u,v,k v,C w,.inl C⟩)) N
      |succ c=>
       cases c with
       |zero=>
        simp only[I]at b;cases g:wT P (ev l) o.op with
        |none=>rw[g]at b;exact b.elim
        |some s=>
         rw[g]at b
         have H:qM P s λv=>z8 P ops e (i::done) pend (l.put o.dst v) w K:=by
          simp only at b;split at b
          ·exact b.out
          ·exact b
         obtain⟨v,C,N⟩:=H.out;have y:=FG g;have p:∀B,(execOp (ev l) o).run P B=.ok (.value v) B:=λB=>by rw[y];exact De P s B v B (C B)
         exact T _ _ _ _ (q.ahead m J U z (G v) (λ_ y=>y) (.inl ⟨u,v,k v,p w,.inl p⟩)) N
       |succ c=>
        simp only[I]at b;cases g:xf P (ev l) o with
        |none=>rw[g]at b;exact b.elim
        |some s=>
         rw[g]at b
         have H:rV P s w λv=>z8 P ops e (i::done) ((i,s,v)::pend) (l.put o.dst v) w K:=by
          simp only at b;split at b
          ·exact b.out
          ·exact b
         clear b;have b:=H;simp only[xX,GS]at b;cases C:s.run P w with
         |halt x B=>rw[C]at b;exact b.elim
         |ok v B=>
          rw[C]at b;obtain⟨rfl,N⟩:=b;have y:=E6 g;have p:∀D,s.run P D=.ok v D->(execOp (ev l) o).run P D=.ok (.value v) D:=λD O=>by rw[y];exact De P s D v D O
          exact T _ _ _ _ (q.ahead m J U z (G v) (λ_ y=>ae _ y)
           (.inl ⟨u,v,k v,p _ C,.inr ⟨s,ai,p⟩⟩)) N
     ·have q:=S.same Q m;have u:jP ops l o=false:=by rw[Q.wanted];exact X
      exact T _ _ _ _ (q.ahead m J U z ⟨λt W=>EE W,AI _ _⟩ (λ_ y=>y)
       (.inr ⟨u,λd M=>by rw[M];exact vH⟩)) V
def Gc{F:NP_}:∀{l:List Nat},Ng F l->∀j∈l,F j
 | [],_,j,b=>by cases b
 | [k],h,j,b=>by rcases bX.1 b with rfl;exact h
 |k::m::l,h,j,b=>by
  rcases aq.1 b with rfl|b
  ·exact h.1
  ·exact Gc h.2 j b
def Dl{P:Program}{w:Wt_}{R:Prop}:∀{p:vw},A5 P w p R->R/\∀i s v,(i,s,v)∈p->s.run P w=.ok v w
 | [],h=>⟨h,λ_ _ _ b=>by cases b⟩
 |(i,s,v)::r,h=>by
  obtain⟨g,f⟩:=Dl h.2;refine⟨g,λj c d b=>?_⟩;rcases aq.1 b with e|b
  ·cases e;exact h.1
  ·exact f j c d b
def DY.took(h:DY P ops n L A done pend E a w)(u:qU P ops=true){j:Nat}{o:Oper}(z:ops[j]? =some o)(s:j∈A)(e:∀d∈lM ops j,d∈L){v:Vt_}
  (x:∀d,o.dst=some d->E.get d=v)(i:vA n o.dst=true):DY P ops n (j::L) (A.erase j) done pend E (a.put o.dst v) w:=by
 have b:uz n (({l:=[],g:=λt=>a.tmps.getD t undef,ds:=E.ds}:fa).put o.dst v) (a.put o.dst v):=uz.put (E:=({l:=[],g:=λt=>a.tmps.getD t undef,ds:=E.ds}:fa)) ⟨h.size,λ_=>rfl,h.defs⟩ i v;refine⟨λk=>?_,λk f q=>?_,h.nodup.erase j,h.ord.erase,h.closed.cons e,b.size,by have:=b.defs;rwa[yU]at this,λt y=>?_,λk f=>h.val k (List.mem_of_mem_erase f)⟩
 ·rw[h.doneIff];by_cases m:k=j
  ·subst m;simp[s]
  ·grind
 ·have p:=List.mem_of_mem_erase f;rcases aq.1 q with rfl|q
  ·exact(h.nodup.not_mem_erase) f
  ·exact h.apart k p q
 ·rw[b.get];by_cases c:o.dst=some t
  ·rw[c,qB,x t c]
  ·rw[B7 c];refine h.frame t λk f ok r=>?_;by_cases m:k=j
   ·grind
   ·grind
def DY.acted(h:DY P ops n L A done pend E a w)(D:qU P ops=true){j:Nat}{o:Oper}(S:ops[j]? =some o)(J:j ∉ done)(c:∀d∈lM ops j,d∈L){v:Vt_}{E' :fa}{w' :Wt_}
  (M:(∀t,o.dst≠some t->E'.get t=E.get t)/\E'.ds=E.ds/\(∀d,o.dst=some d->E'.get d=v))(H:vA n o.dst=true)
  (hp:∀i s u,(i,s,u)∈(pend.filter λp=> !(CF ops j).contains p.1)->w' =w\/s.run P w' =.ok u w'):
  DY P ops n (j::L) A (j::done) (pend.filter λp=> !(CF ops j).contains p.1) E' (a.put o.dst v) w' :=by
 have G:j ∉ A:=λU=>J ((h.doneIff j).2 (.inr U));have f:uz n (({l:=[],g:=λt=>a.tmps.getD t undef,ds:=E.ds}:fa).put o.dst v) (a.put o.dst v):=uz.put (E:=({l:=[],g:=λt=>a.tmps.getD t undef,ds:=E.ds}:fa)) ⟨h.size,λ_=>rfl,h.defs⟩ H v;have r:∀i∈A,i ∉ CF ops j:=λi W C=>h.apart i W (AF h.closed c i C);refine⟨λk=>?_,λk z N=>?_,h.nodup,h.ord.mono (λx O=>ae _ O),h.closed.cons c,f.size,by have:=f.defs;rw[yU]at this;rw[M.2.1];exact this,λt B=>?_,λk z=>?_⟩
 ·simp only[aq,h.doneIff,or_assoc]
 ·rcases aq.1 N with rfl|N
  ·exact G z
  ·exact h.apart k z N
 ·rw[f.get];by_cases q:o.dst=some t
  ·rw[q,qB,M.2.2 t q]
  ·rw[B7 q,M.1 t q];exact h.frame t B
 ·have T:WI P ops E' w pend k:=by
   refine(h.val k z).env D (λok b t B=>M.1 t λR=>?_) (λ_ O=>O);obtain⟨V,y,K,_⟩:=h.val k z;rw[b]at y;cases y;have I:k≠j:=λe=>G (e▸z);rcases B with B|B
   ·rcases(qQ D b S K I).2 t R B with C|C
    ·have m:∀d∈lM ops k,d∈done:=λd Q=>h.closedDone k ((h.doneIff k).2 (.inr z)) d Q;exact J (AF h.closedDone m j C)
    ·exact r k z C
   ·exact((qQ D b S K I).1 t B).1 R
  refine T.world λs v C=>?_;have F:(k,s,v)∈pend.filter λp=> !(CF ops j).contains p.1:=aM.2 ⟨C,by grind⟩;exact⟨F,hp k s v F⟩
end
def yK{L:List Nat}{b:Array Bool}(p:∀i,i<ops.length->(b.getD i true=true↔i∈L))(q:b.size=ops.length)(j:∀i∈L,i<ops.length){i:Nat}:
  i∈Region.ready .any ops.toArray b↔i∈FM ops L:=by
 rw[qI];unfold Region.ready;simp only[aM,d8,dC,ah];constructor
 ·rintro⟨f,m,h⟩;refine⟨f,λs=>?_,λd c=>?_⟩
  ·grind
  ·have g:ops[i]? =some ops[i]:=ao f;simp only[cG,g,eA,cR]at h;simp only[lM,g,Fi,aD,aM]at c;obtain⟨e,⟨l,k⟩,rfl⟩:=c;have o:=(jD.1 h) e (by simpa using l);simp only[k,iE,eZ]at o;by_cases r:e.on<ops.length
   ·grind
   ·grind
 ·rintro⟨f,m,h⟩;refine⟨f,?_,?_⟩
  ·grind
  ·have g:ops[i]? =some ops[i]:=ao f;simp only[cG,g,eA,cR];refine jD.2 λe l=>?_;cases k:Region.binds .any e with
   |false=>rfl
   |true=>
    have c:e.on∈L:=h e.on (by simp only[lM,g,Fi,aD,aM];exact⟨e,⟨by simpa using l,k⟩,rfl⟩);have:=(p _ (j _ c)).2 c;rw[fX]at this|-;rw[gz (by grind)]at this|-;simpa using this
def Of(hP:tV P=true){ro:Option Nat}{n:Nat}{ops:List Oper}(y:qU P ops=true)(hdst:(ops.all λo=>vA n o.dst)=true)
  {Q:Exit->Act->World->Prop}{K:fa->World->Prop}(hK:∀E a w,uz n E a->K E w->Q .normal a w):
  ∀(m:Nat) (L A done:List Nat) (pend:vw) (E:fa) (a:Act) (w:Wt_) (l:Nat) (b:Array Bool),
   DY P ops n L A done pend E a w->(∀i,i<ops.length->(b.getD i true=true↔i∈L))->b.size=ops.length->(∀i∈L,i<ops.length)->
   ((List.range ops.length).filter λi=> !L.contains i).length<=m->z8 P ops l done pend E w K->
   wpAnyIn (FR ro) 0 P .any ops.toArray Q m b a w:=by
 have F:∀(L A done:List Nat) (pend:vw) (E:fa) (a:Act) (w:Wt_) (l:Nat),DY P ops n L A done pend E a w->FM ops L=[]->z8 P ops l done pend E w K->Q .normal a w:=by
  intro L A done pend E a w l N W h
  have hA:A=[]:=by
   apply aS;intro hne;obtain⟨i,B,M⟩:=N.ord.first hne;obtain⟨o,ho,_⟩:=N.val i B;have:i∈FM ops L:=qI.2 ⟨(aF.1 ho).1,N.apart i B,M⟩;rw[W]at this;cases this
  subst hA
  have hrd:FM ops done=[]:=by
   apply fx.2;intro i B;obtain⟨h1,h2,h3⟩:=qI.1 B;have e:∀k,k∈done↔k∈L:=λk=>by rw[N.doneIff];simp
   have:i∈FM ops L:=qI.2 ⟨h1,λhm=>h2 ((e i).2 hm),λd M=>(e d).1 (h3 d M)⟩;rw[W]at this;cases this
  cases l with
  |zero=>exact h.elim
  |succ l=>
   simp only[z8,hrd,List.find?_nil]at h;exact hK E a w ⟨N.size,λt=>N.frame t (λi B=>by cases B),N.defs⟩ h
 intro m;induction m with
 |zero=>
  intro L A done pend E a w l b N hL I O hm h
  have W:FM ops L=[]:=by
   apply fx.2;intro i B;obtain⟨h1,h2,_⟩:=qI.1 B;have:i∈(List.range ops.length).filter λi=> !L.contains i:=aM.2 ⟨d8.2 h1,by simpa using h2⟩;have:=List.length_pos_of_mem this;omega
  refine⟨?_,F L A done pend E a w l N W h⟩;apply fx.2;intro i B;rw[yK hL I O,W]at B;cases B
 |succ m ih=>
  intro L A done pend E a w l b N hL I O hm h;refine⟨λW=>F L A done pend E a w l N ?_ h,λj hj=>?_⟩
  ·apply fx.2;intro i B;rw[<-yK hL I O,W]at B;cases B
  ·have hjr:j∈FM ops L:=(yK hL I O).1 hj;obtain⟨C,hjL,J⟩:=qI.1 hjr;have z:ops[j]? =some ops[j]:=ao C;have V:vA n (ops[j]).dst=true:=aW.1 hdst _ (ar C)
   have U:∀i,i<ops.length->((b.setIfInBounds j true).getD i true=true↔i∈j::L):=by
    intro i B;by_cases Z:j=i
    ·subst Z;simp[I,B]
    ·have:(b.setIfInBounds j true).getD i true=b.getD i true:=by
      simp[Z]
     rw[this,hL i B];simp[jW Z]
   have G:(b.setIfInBounds j true).size=ops.length:=by simpa using I
   have H:∀i∈j::L,i<ops.length:=λi B=>by
    rcases aq.1 B with rfl|B
    ·exact C
    ·exact O i B
   have T:((List.range ops.length).filter λi=> !(j::L).contains i).length<=m:=by
    have e:((List.range ops.length).filter λi=> !(j::L).contains i)=(((List.range ops.length).filter λi=> !L.contains i).filter λi=> !(i==j)):=by
     rw[gl];apply dx;intro x _;simp only[lF,Bool.not_or]
    have hmem:j∈(List.range ops.length).filter λi=> !L.contains i:=aM.2 ⟨d8.2 C,by simpa using hjL⟩
    have h5:(((List.range ops.length).filter λi=> !L.contains i).filter λi=> !(i==j)).length<((List.range ops.length).filter λi=> !L.contains i).length:=
     gZ.2 ⟨j,hmem,by simp⟩
    rw[e];omega
   obtain⟨g,A',r,q,E',D,h',hcase⟩:=adv y hjr l A done pend E N h;have R:=D.look y z hjL J;have hex:=E7 (a:=a) (E:=E') (nD y z) R;have hwa:=BT (a:=a) (E:=E') (o:=ops[j]) R;unfold wpOpIn;simp only[cG,z];rw[hwa];rcases hcase with hA|⟨hnd,X⟩
   ·obtain⟨o,ho,hc,hv⟩:=D.val j hA;rw[z]at ho;cases ho;rcases hv with⟨hw,v,M,W,_⟩|⟨hw,M⟩
    ·rw[ab hw];refine⟨λf _=>FR.fn ro f,?_⟩;rw[FR.round,Oper.semAt_eq ro a.eval _ (λc hc' =>by have:=nD y z;rw[hc']at this;cases this),hex,W];exact ih _ _ _ _ _ _ _ g _ (D.took y z hA J M V) U G H T h'
    ·rw[aa (by rw[hw];simp)];exact⟨λf _=>FR.fn ro f,ih _ _ _ _ _ _ _ g _ (D.took y z hA J M V) U G H T h'⟩
   ·cases g with
    |zero=>exact h'.elim
    |succ g=>
     have S:j∈FM ops r:=qI.2 ⟨C,hnd,λd M=>(D.doneIff d).2 (.inl (J d M))⟩;simp only[z8,X]at h'
     have h2:∀rs,FM ops r=rs->(match rs with| []=>K E' w|rs=>Ng (λj=>match ops[j]? with
       |none=>False
       |some o=>Tq ops o E' (λE=>Ti P (ev E) o w λv w' =>A5 P w' (q.filter λp=> !(CF ops j).contains p.1) (z8 P ops g (j::r) (q.filter λp=> !(CF ops j).contains p.1) (E.put o.dst v) w' K))
        (λE=>z8 P ops g (j::r) (q.filter λp=> !(CF ops j).contains p.1) (E.skip o.dst) w K)) rs)->
       Tq ops ops[j] E' (λE=>Ti P (ev E) ops[j] w λv w' =>A5 P w' (q.filter λp=> !(CF ops j).contains p.1) (z8 P ops g (j::r) (q.filter λp=> !(CF ops j).contains p.1) (E.put (ops[j]).dst v) w' K))
        (λE=>z8 P ops g (j::r) (q.filter λp=> !(CF ops j).contains p.1) (E.skip (ops[j]).dst) w K):=by
      intro rs hrs hh;cases rs with
      |nil=>rw[hrs]at S;cases S
      |cons k rs=>
       have:=Gc hh j (hrs▸S);rw[z]at this;exact this
     have h3:=h2 _ rfl h';rcases yB h3 with⟨hw,E1,hs,hy⟩|⟨hw,E1,hs,hno⟩
     ·rw[ab hw];have Y:=D.same hs y;refine BQ (ρ:=ev E1) (nD y z) (by rw[hex,hs.ev]) (CX hP (LK E1) hy) λv w' hv=>?_;obtain⟨hv1,hv2⟩:=Dl hv;exact ih _ _ _ _ _ _ _ g _ (Y.acted y z hnd J ⟨λt ht=>B7 ht,yU _ _ _,λd M=>by rw[M];exact qB⟩ V (λi s u hm=>.inr (hv2 i s u hm))) U G H T hv1
     ·rw[aa (by rw[hw];simp)];have Y:=D.same hs y;refine⟨λf _=>FR.fn ro f,?_⟩;have hI2:=Y.acted (v:=undef) (w' :=w) (E' :=E1.skip (ops[j]).dst) y z hnd J ⟨λt ht=>EE ht,AI _ _,λd M=>by rw[M];exact vH⟩ V (λi s u hm=>.inl rfl);exact ih _ _ _ _ _ _ _ g _ hI2 U G H T hno
def gg:Code->List Nat
 | .region _ ops _=>ops.toList.filterMap (·.dst)
 | .seq a b=>gg a++gg b
 | .cond _ a b=>gg a++gg b
 | .block _ c=>gg c
 | .loop c=>gg c
 | .scope c=>gg c
 |_=>[]
def mJ:Code->Bool
 | .seq a b=>mJ a||mJ b
 | .cond _ a b=>mJ a||mJ b
 | .block _ c=>mJ c
 | .loop c=>mJ c
 | .scope c=>mJ c
 | .rangeFunc .. =>true
 |_=>false
def fL(ds:List Nat):List (Nat×Option Value)->List Nat->List Nat
 | [],acc=>acc
 |(k,_)::r,acc=>
  match ds.contains k&& !acc.contains k with
  |true=>fL ds r (k::acc)
  |false=>fL ds r acc
def E3:List Nat->Type
 | []=>Unit
 |_::l=>Value×E3 l
def kN(E:fa):(l:List Nat)->E3 l
 | []=>()
 |t::l=>(E.get t,kN E l)
def rh:(l:List Nat)->E3 l->List (Nat×Option Value)->List (Nat×Option Value)
 | [],_,r=>r
 |t::l,s,r=>(t,some s.1)::rh l s.2 r
def zr{α:Type}{β:Sort _}:List α->(List α->β)->β
 | [],k=>k []
 |x::xs,k=>zr xs λl=>k (x::l)
def uk{α:Type}{β:Sort _}:∀(l:List α) (k:List α->β),zr l k=k l
 | [],_=>rfl
 |x::a,k=>by rw[zr,uk a]
def P9:Operand->Option Nat
 | .tmp t=>some t
 |_=>none
def rt:Code->List Nat
 | .region _ ops _=>ops.toList.flatMap λo=>o.op.operands.toList.filterMap P9
 | .seq a b=>rt a++rt b
 | .cond c a b=>(P9 c).toList++rt a++rt b
 | .block _ c=>rt c
 | .loop c=>rt c
 | .scope c=>rt c
 | .rangeFunc gv _ a b=>(P9 gv).toList++rt a++rt b
 |_=>[]
def Fk(ds:List Nat):List Nat->List Nat->List Nat
 | [],acc=>acc
 |k::r,acc=>
  match ds.contains k&& !acc.contains k with
  |true=>Fk ds r (k::acc)
  |false=>Fk ds r acc
def MC(ds:List Nat)(l:List (Nat×Option Value))(us:List Nat):List Nat:=Fk ds us (fL ds l [])
def wZ:Nat->Nat
 |0=>0
 |1=>1
 |_=>2
def szC:Code->Nat
 | .region _ ops _=>ops.toList.length
 | .seq a b=>szC a+szC b
 | .cond _ _ _=>9
 | .block _ c=>szC c
 | .loop _=>9
 | .rangeFunc _ _ _ _=>9
 |_=>0
def an7:Op->Bool
 | .alloc _=>true
 | .box _ _=>true
 | .buildSlice _ _ _=>true
 | .makeSlice _ _ _=>true
 | .makeMap _ _=>true
 | .call _=>true
 | .store _ _ _=>true
 | .mapUpdate _ _ _ _=>true
 | .insert _ _ _ _=>true
 | .mapEntry _ _ _=>true
 | .entryStore _ _ _ _=>true
 |_=>false
def Un(ops:List Oper):Bool:=
 let es:=(List.range ops.length).filter λi=>match ops[i]? with|some o=>an7 o.op|none=>false
 es.any λj=>zr (CF ops j) λaj=>es.any λi=>Nat.blt i j&& !aj.contains i&& !(CF ops i).contains j
def O7:Code->Option Nat->Nat
 | .region _ ops draw,i=>match i with
  |none=>match (ops.toList.any λo=>o.guard.isSome)||(draw&& Un ops.toList)with|true=>2|false=>1
  |some _=>0
 | .seq a b,i=>
  let na:=match Nat.ble 2 (O7 a none)&& !mJ a&& Nat.ble 3 (szC b)with|true=>1|false=>O7 a none
  match i with
  |none=>wZ (na*O7 b none)
  |some i=>wZ (O7 a (some i)+na*O7 b (some i))
 | .cond _ a b,i=>wZ (O7 a i+O7 b i)
 | .block id c,i=>match i with
  |none=>wZ (O7 c none+O7 c (some id))
  |some i=>O7 c (some i)
 | .loop c,i=>match i with
  |none=>0
  |some i=>O7 c (some i)
 | .exit id,i=>match i with
  |none=>0
  |some i=>match Nat.beq i id with|true=>1|false=>0
 | .ret,_=>0
 | .refuse _,_=>0
 | .goto _,_=>0
 |_,i=>match i with
  |none=>1
  |some _=>0
def HO(a b:Code):Bool:=Nat.ble 2 (O7 a none)&& !mJ a&& Nat.ble 3 (szC b)
structure dU{S:Type}(A:(S->World->Prop)->Prop)(B:S->World->Prop):Prop where
 out:∃J:S->World->Prop,(∀s w,J s w->B s w)/\A J
def dU.on{A:(S->World->Prop)->Prop}{B:S->World->Prop}(h:A B):dU A B:=⟨⟨B,eI,h⟩⟩
def dU.at{A:(S->World->Prop)->Prop}{B:S->World->Prop}(J:S->World->Prop)(h:A J)(a:∀s w,J s w->B s w):dU A B:=⟨⟨J,a,h⟩⟩
def oO(E:fa)(ds live:List Nat)(s:E3 live)(g:Nat->Value)(marks:List Nat):fa:=
 {l:=rh live s E.l,g:=λt=>match ds.contains t with|true=>g t|false=>E.g t,ds:=marks}
structure qV{S:Type}(body:S->World->(S->World->Prop)->Prop)(s:S)(w:Wt_):Prop where
 out:∃(I:S->World->Prop) (m:S->World->Nat),I s w/\∀s w,I s w->body s w λs' w' =>I s' w' /\m s' w' <m s w
def So(ro:Option Nat)(w:Wt_)(K:Nat->List Nat->World->Prop):Prop:=
 match ro with
 |none=>K w.heap.size [w.heap.size] (w.alloc (.deferred (some [])))
 |some l0=>∃r,w.heap[l0]? =some (.loop r)/\K r.defers [] w
def sM(W:Wt_)(l:Nat)(r:Loop):Prop:=W.heap[l]? =some (.loop r)
def QK(W:Wt_)(l:Nat)(rec:Loop):Prop:=∃st pend,sM W l {rec with state:=st,pending:=pend}
def RFD(P:Program)(ro:Option Nat)(gv:Vt_)(w:Wt_)(np:Nat)
  (rnd:Nat->List Value->World->(World->Prop)->(Code->World->Prop)->Prop)(after:List Nat->Option Code->World->Prop):Prop:=
 match gv with
 | .func (.func f) first captured=>
  So ro w λD mk w1=>∀rec:Loop,rec.state=.ready->rec.pending=none->rec.defers=D->
   (∀(args:LV_) (W:Wt_) (K:be),args.length=np->QK W w1.heap.size rec->
    rnd w1.heap.size args W
     (λW' =>∃r,sM W' w1.heap.size r/\K (.bool true) (W'.putObj w1.heap.size (.loop {r with state:=.ready,pending:=none})))
     (λc W' =>∃r,sM W' w1.heap.size r/\K (.bool false) (W'.putObj w1.heap.size (.loop {r with state:=.done,pending:=some c})))->
    Yl P w1.heap.size ⟨args⟩ W K)->
   Ca P f ⟨first.toList++(.func (.yield w1.heap.size) #[] #[]::captured.toList)⟩ (w1.alloc (.loop rec)) λ_ W=>
    ∃r,sM W w1.heap.size r/\r.state≠ .busy/\after mk r.pending (W.putObj w1.heap.size (.loop {r with state:=.exhausted}))
 |_=>False
structure HD(P:Program)(ro:Option Nat)(gv:Vt_)(w:Wt_)(np:Nat)
  (rnd:Nat->List Value->World->(World->Prop)->(Code->World->Prop)->Prop)(after:List Nat->Option Code->World->Prop):Prop where
 out:RFD P ro gv w np rnd after
def rG{ro:Option Nat}{gv:Vt_}{c:Nat}
  {b:Nat->List Value->World->(World->Prop)->(Code->World->Prop)->Prop}{a:List Nat->Option Code->World->Prop}:HD P ro gv w c b a↔RFD P ro gv w c b a:=⟨HD.out,HD.mk⟩
def XE(l:Nat)(W:Wt_)(K:World->Prop):Prop:=∃r,sM W l r/\r.state=.ready/\K (W.putObj l (.loop {r with state:=.busy}))
structure qr(l:Nat)(W:Wt_)(K:World->Prop):Prop where
 out:XE l W K
def vN:List Nat->Nat->List Value->List (Nat×Option Value)->List (Nat×Option Value)
 |t::ts,i,vs,r=>vN ts (i+1) vs ((t,some (vs.getD i undef))::r)
 | [],_,_,r=>r
def lP(N R:World->Prop)(X:Nat->World->Prop)(pend:Option Code)(W:Wt_):Prop:=
 match pend with
 |none=>N W
 |some .ret=>R W
 |some (.exit id)=>X id W
 |_=>False
def vc(P:Program)(jn:Bool)(ro:Option Nat):Code->(Exit->fa->World->Prop)->fa->World->Prop
 | .skip,Q,E,w=>Q .normal E w
 | .region _ ops draw,Q,E,w=>
  match draw with
  |false=>yP P ops.toList ops.toList E w (Q .normal)
  |true=>z8 P ops.toList (ops.toList.length+1) [] [] E w.drew (Q .normal)
 | .seq a b,Q,E,w=>
  match jn&& HO a b with
  |false=>vc P jn ro a (λe E w=>match e with| .normal=>vc P jn ro b Q E w|e=>Q e E w) E w
  |true=>
   zr E.l λel=>zr (MC (gg a) el (rt b)) λlive=>
   dU (S:=E3 live) (λJ=>vc P jn ro a (λe E' w' =>match e with| .normal=>J (kN E' live) w' |e=>Q e E' w') {E with l:=el} w)
    (λs w' =>∀g,vc P jn ro b Q (oO {E with l:=el} (gg a) live s g E.ds) w')
 | .cond c t f,Q,E,w=>FI (ev E c) λb=>bc b (vc P jn ro t Q E w) (vc P jn ro f Q E w)
 | .block id c,Q,E,w=>vc P jn ro c (λe E w=>match e with| .exit i=>bc (Nat.beq i id) (Q .normal E w) (Q (.exit i) E w)|e=>Q e E w) E w
 | .loop c,Q,E,w=>
  zr E.l λel=>zr (fL (gg c) el []) λlive=>
  match mJ c with
  |false=>qV (S:=E3 live) (λs w K=>∀g,vc P jn ro c (λe E' w' =>match e with| .normal=>K (kN E' live) w' |e=>Q e E' w')
    (oO {E with l:=el} (gg c) live s g E.ds) w) (kN {E with l:=el} live) w
  |true=>qV (S:=E3 live×List Nat) (λs w K=>∀g,vc P jn ro c (λe E' w' =>match e with| .normal=>K (kN E' live,E'.ds) w' |e=>Q e E' w')
    (oO {E with l:=el} (gg c) live s.1 g s.2) w) (kN {E with l:=el} live,E.ds) w
 | .rangeFunc gv ps assign body,Q,E,w=>
  HD P ro (ev E gv) w ps.toList.length
   (λl args W KN KJ=>vc P jn (some l) assign (λe E W=>match e with
     | .normal=>qr l W λW=>vc P jn (some l) body (λe _ W=>match e with
      | .normal=>KN W
      | .ret=>KJ .ret W
      | .exit id=>KJ (.exit id) W
      |_=>False) E W
     |_=>False) {E with l:=vN ps.toList 0 args E.l,ds:=[]} W)
   (λmk pend W=>lP (λW=>Q .normal {E with ds:=mk++E.ds} W) (λW=>Q .ret {E with ds:=mk++E.ds} W)
    (λid W=>Q (.exit id) {E with ds:=mk++E.ds} W) pend W)
 | .exit id,Q,E,w=>Q (.exit id) E w
 | .ret,Q,E,w=>Q .ret E w
 | .label _,Q,E,w=>Q .normal E w
 | .scope c,Q,E,w=>match ro with
  |none=>vc P jn none c (λe E w=>match e with| .goto _=>False|e=>Q e E w) E w
  |some _=>False
 | .goto _,_,_,_=>False
 | .refuse _,_,_,_=>False
def IR(P:Program)(n:Nat):Code->Bool
 | .region _ ops draw=>(ops.toList.all λo=>vA n o.dst)&& (!draw||(P.follows .mixedOrders&& qU P ops.toList))
 | .seq a b=>IR P n a&& IR P n b
 | .cond _ a b=>IR P n a&& IR P n b
 | .block _ c=>IR P n c
 | .loop c=>IR P n c
 | .scope c=>IR P n c
 | .rangeFunc _ ps a b=>(ps.toList.all λd=>Nat.blt d n)&& IR P n a&& IR P n b
 |_=>true
def Ff{K b:be}(h:rv P s w K)(c:∀v a,K v a->b v a):rv P s w b:=by
 rw[E5]at*;unfold YC at*;split at h
 ·exact c _ _ h
 ·exact h.elim
def EB{s:Sem Unit}{K b:World->Prop}(h:ru P s w K)(c:∀a,K a->b a):ru P s w b:=by
 rw[EC]at*;unfold XZ at*;split at h
 ·exact c _ h
 ·exact h.elim
def AB{s:Sem Next}{K c:be}(h:rn P s w K)(a:∀v b,K v b->c v b):rn P s w c:=by
 rw[pm]at*;unfold Pc at*;split at h
 ·exact a _ _ h
 ·exact a _ _ h
 ·exact Ca.mono h a
 ·exact h.mono λ_ _ ⟨v,e,d⟩=>⟨v,e,a _ _ d⟩
 ·exact h.elim
def B3{K a:Bool->Prop}(h:FI v K)(c:∀b,K b->a b):FI v a:=by
 unfold FI at*;split at h
 ·exact c _ h
 ·exact h.elim
def DF(h:qC v K)(c:∀b,K b->a b):qC v a:=by
 unfold qC at*;split at h
 ·exact c _ h
 ·exact h.elim
def Jv{fv:Vt_}{a:LV_}{K d:be}(h:om P fv a w K)(b:∀v c,K v c->d v c):om P fv a w d:=by
 rw[jf]at*;unfold Lq at*;split at h
 ·exact Ca.mono h b
 ·exact Yl.mono h b
 ·exact h.elim
def H6(h:rV P s w K)(b:∀v,K v->a v):rV P s w a:=by
 rw[xX]at*;unfold GS at*;split at h
 ·grind
 ·exact h.elim
def ET{K b:be}(h:rx P s w K)(c:∀v a,K v a->b v a):rx P s w b:=⟨Ff h.out c⟩
def GD{s:Sem Unit}{K b:World->Prop}(h:DD P s w K)(c:∀a,K a->b a):DD P s w b:=⟨EB h.out c⟩
def Pj(h:IG P s w K)(b:∀v,K v->a v):IG P s w a:=⟨H6 h.out b⟩
def Im(h:qM P s K)(b:∀v,K v->a v):qM P s a:=
 let⟨v,h1,h2⟩:=h.out
 ⟨⟨v,h1,b _ h2⟩⟩
def MV(h:Hf P s K)(b:∀v,K v->a v):Hf P s a:=⟨Im h.out b⟩
def Hn{ρ:Operand->Value}{a:Op}{c:Value->Prop}(h:yw ρ a K)(b:∀v,K v->c v):yw ρ a c:=by
 unfold yw at*;cases a<;>simp only at h|- <;>first|exact b _ h|exact B3 h (λ_=>b _)|exact DF h b|exact h.elim
def ID{ρ:Operand->Value}{o:Oper}{K i:be}(h:Ti P ρ o w K)(a:∀v g,K v g->i v g):Ti P ρ o w i:=by
 unfold Ti at*
 cases d:o.op<;>rw[d]at h<;>simp only at h|- <;>
  first
   |exact Ff h a
   |exact ET h a
   |exact EB h (λ_=>a _ _)
   |exact GD h (λ_=>a _ _)
   |exact a _ _ h
   |exact B3 h (λ_=>a _ _)
   |exact DF h (λ_=>a _ _)
   |exact AB h a
   |exact h.elim
   |(split at h<;>first|exact Ff h a|exact ET h a|exact EB h (λ_=>a _ _)|exact GD h (λ_=>a _ _))
   |skip
 rename_i c
 cases e:c.callee with
 |value f=>
  rw[e]at h;cases f<;>simp only at h|- <;>first|exact Jv h a|(split at h<;>first|exact⟨AB h.out a⟩|exact Ca.mono h a)
 |builtin b=>rw[e]at h;cases b<;>first|exact ET h a|exact AB h a
 |invoke r m=>rw[e]at h;exact AB h a
def AV{o:Oper}{f no a e:fa->Prop}(h:Tq ops o E f no)
  (n:∀c,E.Same c->f c->a c)(i:∀c,E.Same c->no c->e c):Tq ops o E a e:=by
 unfold Tq at*;cases l:o.guard with
 |none=>rw[l]at h;exact n E (.refl E) h
 |some g=>
  obtain⟨j,d⟩:=g;rw[l]at h;simp only at h|-;cases p:B6 ops j with
  |none=>rw[p]at h;exact i E (.refl E) h
  |some s=>
   rw[p]at h;simp only at h|-;cases m:E.skipped s with
   |true=>rw[m]at h;exact i E (.refl E) h
   |false=>
    rw[m]at h;simp only[FI]at h|-;cases k:E.get s<;>rw[k]at h<;>first|exact h.elim|skip
    rename_i b
    cases b<;>cases d<;>first|exact n _ (fa.same_put k) h|exact i _ (fa.same_put k) h
def Fr(ds:List Nat)(E E' :fa):Prop:=∀t,t ∉ ds->E'.get t=E.get t
def Fr.refl(ds:List Nat)(E:fa):Fr ds E E:=λ_ _=>rfl
def Fr.trans{E1 b:fa}(h:Fr ds E E1)(c:Fr ds E1 b):Fr ds E b:=λt a=>(c t a).trans (h t a)
def Fr.mono{a:List Nat}{E1:fa}(h:Fr ds E E1)(hs:∀t∈ds,t∈a):Fr a E E1:=λt c=>h t λb=>c (hs t b)
def Fr.put(E:fa){d:Option Nat}(v:Vt_)(a:∀t,d=some t->t∈ds):Fr ds E (E.put d v):=λt b=>B7 λe=>b (a t e)
def Fr.skip(E:fa){d:Option Nat}(a:∀t,d=some t->t∈ds):Fr ds E (E.skip d):=λt b=>EE λe=>b (a t e)
def Fr.of_same{E' :fa}(h:E.Same E'):Fr ds E E' :=λt _=>h.1 t
def FP{K q:fa->World->Prop}:∀(l:List Oper),(∀o∈l,∀t,o.dst=some t->t∈ds)->∀(E:fa) (w:Wt_),yP P ops l E w K->
  (∀a f,Fr ds E a->a.ds=E.ds->K a f->q a f)->yP P ops l E w q:=by
 intro l;induction l with
 |nil=>exact λ_ E w h d=>d E w (.refl _ _) rfl h
 |cons o rest p=>
  intro m E w h d;have k:=m o ai;have n:∀o∈rest,∀t,o.dst=some t->t∈ds:=λu r=>m u (ae _ r);refine AV h (λj c s=>ID s λv f y=>p n _ _ y λa b i e g=>d a b ?_ ?_ g) (λj c x=>p n _ _ x λa b i e g=>d a b ?_ ?_ g)
  ·exact((Fr.of_same c).trans (Fr.put j v k)).trans i
  ·rw[e,yU,c.2]
  ·exact((Fr.of_same c).trans (Fr.skip j k)).trans i
  ·rw[e,AI,c.2]
def CZ{F G:NP_}(h:∀j,F j->G j):∀{l:List Nat},Ng F l->Ng G l
 | [],_=>trivial
 | [_],a=>h _ a
 |_::k::l,a=>⟨h _ a.1,CZ h (l:=k::l) a.2⟩
def B9{P:Program}{w:Wt_}{R b:Prop}(h:R->b):∀{p:vw},A5 P w p R->A5 P w p b
 | [],a=>h a
 |_::_,a=>⟨a.1,B9 h a.2⟩
def R4{K s:fa->World->Prop}(hl:∀o∈ops,∀t,o.dst=some t->t∈ds):∀(f:Nat) (done:List Nat) (m:vw) (E:fa) (w:Wt_),z8 P ops f done m E w K->
  (∀d k,Fr ds E d->d.ds=E.ds->K d k->s d k)->z8 P ops f done m E w s:=by
 intro f;induction f with
 |zero=>intro _ _ _ _ h;exact h.elim
 |succ f q=>
  intro done m E w h x
  have b:∀(o:Oper) (v:Vt_) (c:fa),o∈ops->E.Same c->∀d k,Fr ds (c.put o.dst v) d->d.ds=(c.put o.dst v).ds->K d k->s d k:=by
   intro o v c p e d k z u y;exact x d k (((Fr.of_same e).trans (Fr.put c v (hl o p))).trans z) (by rw[u,yU,e.2]) y
  have l:∀(o:Oper) (c:fa),o∈ops->E.Same c->∀d k,Fr ds (c.skip o.dst) d->d.ds=(c.skip o.dst).ds->K d k->s d k:=by
   intro o c p e d k z u y;exact x d k (((Fr.of_same e).trans (Fr.skip c (hl o p))).trans z) (by rw[u,AI,e.2]) y
  simp only[z8]at h|-;split at h
  ·rename_i i C
   split at h
   ·exact h.elim
   ·rename_i o p
    have a:o∈ops:=cP p;refine AV h (λc e g=>?_) (λc e A=>q _ _ _ _ A (l o c a e));split at g
    ·exact Hn g λv n=>q _ _ _ _ n (b o v c a e)
    ·split at g
     · (split at g<;>first|exact Im g λv n=>q _ _ _ _ n (b o v c a e)|exact MV g λv n=>q _ _ _ _ n (b o v c a e))
     ·exact g.elim
    ·split at g
     · (split at g<;>first|exact H6 g λv n=>q _ _ _ _ n (b o v c a e)|exact Pj g λv n=>q _ _ _ _ n (b o v c a e))
     ·exact g.elim
  ·split at h
   ·exact x E w (.refl _ _) rfl h
   ·refine CZ (λj r=>?_) h;cases p:ops[j]? with
    |none=>rw[p]at r;exact r.elim
    |some o=>
     rw[p]at r;have a:o∈ops:=cP p;exact AV r (λc e g=>ID g λv k n=>B9 (λB=>q _ _ _ _ B (b o v c a e)) n) (λc e A=>q _ _ _ _ A (l o c a e))
def qV.mono{body a:S->World->(S->World->Prop)->Prop}{s:S}(h:qV body s w)
  (b:∀s w K,body s w K->a s w K):qV a s w:=
 let⟨I,m,h0,h1⟩:=h.out
 ⟨⟨I,m,h0,λs w c=>b _ _ _ (h1 s w c)⟩⟩
def nY{r:List (Nat×Option Value)}{t:Nat}:∀{l:List Nat} {s:E3 l},t ∉ l->fa.look (rh l s r) t=fa.look r t
 | [],_,_=>rfl
 |k::l,s,b=>by
  have a:Nat.beq k t=false:=by
   cases d:Nat.beq k t with
   |false=>rfl
   |true=>exact absurd (by rw[dK d];exact ai) b
  simp only[rh,fa.look,a,cond_false];exact nY λc=>b (ae _ c)
def oF{r:List (Nat×Option Value)}{t:Nat}{E:fa}:∀{l:List Nat},t∈l->fa.look (rh l (kN E l) r) t=some (some (E.get t))
 |k::l,b=>by
  simp only[rh,kN,fa.look];cases a:Nat.beq k t with
  |true=>rw[dK a];rfl
  |false=>
   simp only[cond_false];apply oF;rcases aq.1 b with e|e
   ·subst e;simp at a
   ·exact e
def tB{ds:List Nat}:∀{l:List (Nat×Option Value)} {acc:List Nat},(∀t∈acc,t∈ds)->∀t∈fL ds l acc,t∈ds
 | [],acc,b,t,a=>b t (by simpa [fL]using a)
 |(k,v)::r,acc,b,t,a=>by
  unfold fL at a;cases d:ds.contains k&& !acc.contains k with
  |true=>
   rw[d]at a;refine tB (λx c=>?_) t a;rcases aq.1 c with rfl|c
   ·grind
   ·exact b x c
  |false=>rw[d]at a;exact tB b t a
def tg{ds:List Nat}:∀{l:List (Nat×Option Value)} {acc:List Nat} {t:Nat},t∈acc->t∈fL ds l acc
 | [],acc,t,a=>by simpa [fL]using a
 |(k,v)::r,acc,t,a=>by
  unfold fL;cases ds.contains k&& !acc.contains k with
  |true=>exact tg (ae _ a)
  |false=>exact tg a
def qT{ds:List Nat}:∀{l:List (Nat×Option Value)} {acc:List Nat} {t:Nat},t∈ds->fa.look l t≠none->t∈fL ds l acc
 | [],_,_,_,h=>absurd rfl h
 |(k,v)::r,acc,t,a,h=>by
  unfold fL;cases b:Nat.beq k t with
  |true=>
   obtain rfl:=dK b;have c:ds.contains k=true:=by simpa using a
   cases e:acc.contains k with
   |true=>
    simp only[c,iE,oL];exact tg (by simpa using e)
   |false=>
    simp only[c,Bool.not_false,Bool.and_true];exact tg ai
  |false=>
   have d:fa.look r t≠none:=by simpa [fa.look,b]using h
   cases ds.contains k&& !acc.contains k with
   |true=>exact qT a d
   |false=>exact qT a d
def A4{ds:List Nat}:∀{l acc:List Nat},(∀t∈acc,t∈ds)->∀t∈Fk ds l acc,t∈ds
 | [],acc,b,t,a=>b t (by simpa [Fk]using a)
 |k::r,acc,b,t,a=>by
  unfold Fk at a;cases d:ds.contains k&& !acc.contains k with
  |true=>
   rw[d]at a;refine A4 (λx c=>?_) t a;rcases aq.1 c with rfl|c
   ·grind
   ·exact b x c
  |false=>rw[d]at a;exact A4 b t a
def Bi{ds:List Nat}:∀{l acc:List Nat} {t:Nat},t∈acc->t∈Fk ds l acc
 | [],acc,t,a=>by simpa [Fk]using a
 |k::r,acc,t,a=>by
  unfold Fk;cases ds.contains k&& !acc.contains k with
  |true=>exact Bi (ae _ a)
  |false=>exact Bi a
def Dd{l:List (Nat×Option Value)}{a:List Nat}:∀t∈MC ds l a,t∈ds:=A4 (tB (by simp))
def NA{l:List (Nat×Option Value)}{a:List Nat}(b:t∈ds)(h:fa.look l t≠none):t∈MC ds l a:=Bi (qT b h)
def D9{a:List Nat}{s:E3 a}{g:Nat->Value}{mk:List Nat}(hs:∀t∈a,t∈ds):Fr ds E (oO E ds a s g mk):=by
 intro t b;have d:t ∉ a:=λc=>b (hs t c);have e:ds.contains t=false:=by simpa using b
 unfold fa.get oO;simp only[nY d,e]
def Hi{a b:Code}(h:HO a b=true):mJ a=false:=by
 simp only[HO,ah,Bool.not_eq_true']at h;exact h.1.2
def sU{s:E3 (fL ds E.l [])}{g:Nat->Value}{mk:List Nat}:Fr ds E (oO E ds (fL ds E.l []) s g mk):=by
 intro t a;have c:t ∉ fL ds E.l []:=λb=>a (tB (by simp) t b);have d:ds.contains t=false:=by simpa using a
 unfold fa.get oO;simp only[nY c,d]
def FC{jn:Bool}:∀(c:Code) (ro:Option Nat) (Q z:Exit->fa->World->Prop) (E:fa) (w:Wt_),vc P jn ro c Q E w->
  (∀e u B,Fr (gg c) E u->(mJ c=false->u.ds=E.ds)->Q e u B->z e u B)->vc P jn ro c z E w:=by
 intro c;induction c with
 |skip=>intro ro Q z E w h d;exact d _ _ _ (.refl _ _) (λ_=>rfl) h
 |region id ops H=>
  intro ro Q z E w h d;have m:∀o∈ops.toList,∀t,o.dst=some t->t∈gg (.region id ops H):=λo ho t A=>lJ.2 ⟨o,ho,A⟩;cases H with
  |false=>exact FP _ m _ _ h λu B n L hK=>d _ _ _ n (λ_=>L) hK
  |true=>exact R4 m _ _ _ _ _ h λu B n L hK=>d _ _ _ n (λ_=>L) hK
 |seq a b V T=>
  intro ro Q z E w h d;simp only[vc]at h|-;cases X:jn&& HO a b with
  |true=>
   rw[X]at h;simp only[uk]at h|-;obtain⟨J,hJ,hA⟩:=h.out;simp only[ah]at X;have x:=Hi X.2;refine⟨⟨J,λs I hs g=>T ro _ _ _ I (hJ s I hs g) λe u B n m j=>d e u B (((D9 Dd).mono λt A=>cD _ A).trans (n.mono λt A=>er _ A)) (λp=>m (by simp only[mJ,gG]at p;exact p.2)) j,?_⟩⟩;refine V ro _ _ E w hA λe u B n m j=>?_;have k:Fr (gg (.seq a b)) E u:=n.mono λt A=>cD _ A;cases e with
   |normal=>exact j
   |exit id=>exact d _ _ _ k (λ_=>m x) j
   |goto id=>exact d _ _ _ k (λ_=>m x) j
   |ret=>exact d _ _ _ k (λ_=>m x) j
   |panic S=>exact d _ _ _ k (λ_=>m x) j
   |outgrown=>exact d _ _ _ k (λ_=>m x) j
  |false=>
  rw[X]at h;refine V ro _ _ E w h λe E1 I hf1 hd1 j=>?_;have y:Fr (gg (.seq a b)) E E1:=hf1.mono λt A=>cD _ A;have C:mJ (.seq a b)=false->E1.ds=E.ds:=λp=>hd1 (by simp only[mJ,gG]at p;exact p.1);cases e with
  |normal=>
   refine T ro _ _ E1 I j λe E2 w2 hf2 hd2 Y=>d e E2 w2 (y.trans (hf2.mono λt A=>er _ A)) (λp=>?_) Y;rw[hd2 (by simp only[mJ,gG]at p;exact p.2),C p]
  |exit id=>exact d _ _ _ y C j
  |goto id=>exact d _ _ _ y C j
  |ret=>exact d _ _ _ y C j
  |panic S=>exact d _ _ _ y C j
  |outgrown=>exact d _ _ _ y C j
 |cond c t f iht ihf=>
  intro ro Q z E w h d;refine B3 h λb D=>?_;cases b with
  |true=>exact iht ro _ _ E w D λe u B n m j=>d e u B (n.mono λt A=>cD _ A) (λp=>m (by simp only[mJ,gG]at p;exact p.1)) j
  |false=>exact ihf ro _ _ E w D λe u B n m j=>d e u B (n.mono λt A=>er _ A) (λp=>m (by simp only[mJ,gG]at p;exact p.2)) j
 |block id c O=>
  intro ro Q z E w h d;refine O ro _ _ E w h λe u B n m j=>?_;cases e with
  |exit i=>
   simp only at j|-;cases D:Nat.beq i id<;>rw[D]at j<;>exact d _ _ _ n m j
  |normal=>exact d _ _ _ n m j
  |goto id=>exact d _ _ _ n m j
  |ret=>exact d _ _ _ n m j
  |panic S=>exact d _ _ _ n m j
  |outgrown=>exact d _ _ _ n m j
 |loop c O=>
  intro ro Q z E w h d;simp only[vc,uk]at h|-;cases x:mJ c with
  |false=>
   rw[x]at h;refine h.mono λs I K D g=>O ro _ _ _ I (D g) λe u B n m j=>?_;have k:Fr (gg (.loop c)) E u:=sU.trans n;have q:mJ (.loop c)=false->u.ds=E.ds:=λp=>m x;cases e with
   |normal=>exact j
   |exit id=>exact d _ _ _ k q j
   |goto id=>exact d _ _ _ k q j
   |ret=>exact d _ _ _ k q j
   |panic S=>exact d _ _ _ k q j
   |outgrown=>exact d _ _ _ k q j
  |true=>
   rw[x]at h;refine h.mono λs I K D g=>O ro _ _ _ I (D g) λe u B n m j=>?_;have k:Fr (gg (.loop c)) E u:=sU.trans n;have q:mJ (.loop c)=false->u.ds=E.ds:=λp=>by simp only[mJ]at p;rw[x]at p;cases p
   cases e with
   |normal=>exact j
   |exit id=>exact d _ _ _ k q j
   |goto id=>exact d _ _ _ k q j
   |ret=>exact d _ _ _ k q j
   |panic S=>exact d _ _ _ k q j
   |outgrown=>exact d _ _ _ k q j
 |rangeFunc gv ps G U _ _=>
  intro ro Q z E w h d;simp only[vc,rG,RFD]at h|-;split at h
  ·rename_i f first R hgv
   unfold So at h|-;have M:∀mk:List Nat,Fr (gg (.rangeFunc gv ps G U)) E {E with ds:=mk++E.ds}:=λmk t _=>rfl
   have key:∀(mk:List Nat) (F:Option Code) (W:Wt_),
     lP (λW=>Q .normal {E with ds:=mk++E.ds} W) (λW=>Q .ret {E with ds:=mk++E.ds} W) (λid W=>Q (.exit id) {E with ds:=mk++E.ds} W) F W->
     lP (λW=>z .normal {E with ds:=mk++E.ds} W) (λW=>z .ret {E with ds:=mk++E.ds} W) (λid W=>z (.exit id) {E with ds:=mk++E.ds} W) F W:=by
    intro mk F W p;unfold lP at*;split at p
    ·exact d _ _ _ (M mk) (λh=>by cases h) p
    ·exact d _ _ _ (M mk) (λh=>by cases h) p
    ·exact d _ _ _ (M mk) (λh=>by cases h) p
    ·exact p.elim
   cases ro with
   |none=>
    intro N h1 h2 Z hy;apply(h N h1 h2 Z hy).mono;rintro v W ⟨r,hr,D,ha⟩;exact⟨r,hr,D,key _ _ _ ha⟩
   |some l0=>
    obtain⟨r0,hr0,h⟩:=h;refine⟨r0,hr0,λN h1 h2 Z hy=>?_⟩;apply(h N h1 h2 Z hy).mono;rintro v W ⟨r,hr,D,ha⟩;exact⟨r,hr,D,key _ _ _ ha⟩
  ·exact h.elim
 |exit id=>intro ro Q z E w h d;exact d _ _ _ (.refl _ _) (λ_=>rfl) h
 |scope c O=>
  intro ro Q z E w h d;cases ro with
  |some l=>exact h.elim
  |none=>
   refine O none _ _ E w h λe u B n m j=>?_;cases e with
   |goto l=>exact j.elim
   |exit id=>exact d _ _ _ n m j
   |normal=>exact d _ _ _ n m j
   |ret=>exact d _ _ _ n m j
   |panic S=>exact d _ _ _ n m j
   |outgrown=>exact d _ _ _ n m j
 |label l=>intro ro Q z E w h d;exact d _ _ _ (.refl _ _) (λ_=>rfl) h
 |goto l=>intro ro Q z E w h d;exact h.elim
 |ret=>intro ro Q z E w h d;exact d _ _ _ (.refl _ _) (λ_=>rfl) h
 |refuse why=>intro ro Q z E w h d;exact h.elim
end Go.Vc
