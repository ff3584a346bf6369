/- Part of a proof. -/
import Derived.Test.YtekbnpagidkbbaaGreatR1
set_option linter.all false
set_option maxRecDepth 100000
set_option maxHeartbeats 4000000
namespace Go.Vc
open Go Go.Vc
variable {ds:List Nat}{ops:List Oper}{t:Nat}{P:Program}{s:Sem Value}{K a:Value->Prop}{v:Vt_}{w:Wt_}{E:ft}
def Cg{d:Option Nat}(h:d≠some t):(E.put d v).get t=E.get t:=by
 cases d with
 |none=>rfl
 |some d=>rw[ft.get_put,aa (λe=>h (by rw[e]))]
def EE{d:Option Nat}(h:d≠some t):(E.skip d).get t=E.get t:=by
 cases d with
 |none=>rfl
 |some d=>rw[ft.get_skip,aa (λe=>h (by rw[e]))]
def zg(E:ft)(d:Option Nat)(v:Vt_):(E.put d v).ds=E.ds:=by cases d<;>rfl
def AN(E:ft)(d:Option Nat):(E.skip d).ds=E.ds:=by cases d<;>rfl
def rt{d:Nat}:(E.put (some d) v).get d=v:=by rw[ft.get_put,ae rfl]
def wt{d:Nat}:(E.skip (some d)).get d=undef:=by rw[ft.get_skip,ae rfl]
section
variable{P:Program}{ops:List Oper}{n:Nat}{L A done:List Nat}{pend:wi}{E:ft}{a:Act}{w:Wt_}
def DW.same(h:DW P ops n L A done pend E a w){E' :ft}(hs:E.Same E')(b:rO P ops=true):DW P ops n L A done pend E' a w:=
 {h with
  defs:=by rw[hs.2];exact h.defs
  frame:=λt c=>(h.frame t c).trans (hs.1 t).symm
  val:=λi d=>(h.val i d).env b (λ_ _ t _=>hs.1 t) (λ_ e=>e)}
def DW.look(h:DW P ops n L A done pend E a w)(g:rO P ops=true){j:Nat}{p:Oper}(k:ops[j]? =some p)(s:j ∉ L)(q:∀d∈ml ops j,d∈L):
  ∀t∈p.looksAt ops.toArray,a.tmps.getD t undef=E.get t:=by
 intro t l;refine h.frame t λi m r b c=>?_;obtain⟨u,f,o,_⟩:=h.val i m;rw[b]at f;cases f;by_cases e:i=j
 ·subst e;rw[k]at b;cases b;exact Cd g k o c l
 ·have:=((rL g b k o e).1 t c).2 l;exact h.apart i m (AJ h.closed q i this)
def DW.ahead(h:DW P ops n L A done pend E a w)(g:rO P ops=true){i:Nat}{o:Oper}(hi:ops[i]? =some o)(D:RN P o<3)(M:i∈FP ops done){E' :ft}{b:wi}
  (C:(∀t,o.dst≠some t->E'.get t=E.get t)/\E'.ds=E.ds)(hp:∀x∈pend,x∈b)
  (O:(kD ops E o=true/\∃v,(∀d,o.dst=some d->E'.get d=v)/\(execOp (ev E) o).run P w=.ok (.value v) w/\
    ((∀p,(execOp (ev E) o).run P p=.ok (.value v) p)\/∃s,(i,s,v)∈b/\∀p,s.run P p=.ok v p->(execOp (ev E) o).run P p=.ok (.value v) p))\/
   (kD ops E o=false/\∀d,o.dst=some d->E'.get d=undef)):
  DW P ops n L (i::A) (i::done) b E' a w:=by
 obtain⟨I,q,r⟩:=rE.1 M;have B:i ∉ A:=λK=>q ((h.doneIff i).2 (.inr K));have F:i ∉ L:=λJ=>q ((h.doneIff i).2 (.inl J));refine⟨λk=>?_,λk c=>?_,ce.2 ⟨B,h.nodup⟩,⟨λd y=>(h.doneIff d).1 (r d y),h.ord⟩,h.closed,h.size,by rw[C.2];exact h.defs,λt j=>?_,λk c=>?_⟩
 ·simp only[ax,h.doneIff];constructor
  ·rintro(h1|h1|h1)
   ·exact .inr (.inl h1)
   ·exact .inl h1
   ·exact .inr (.inr h1)
  ·rintro(h1|h1|h1)
   ·exact .inr (.inl h1)
   ·exact .inl h1
   ·exact .inr (.inr h1)
 ·rcases ax.1 c with rfl|c
  ·exact F
  ·exact h.apart k c
 ·rw[h.frame t (λk c=>j k (ag _ c))];exact(C.1 t (j i aw o hi)).symm
 ·have u:∀t∈o.looksAt ops.toArray,E'.get t=E.get t:=λt j=>C.1 t λy=>Cd g hi D y j;rcases ax.1 c with rfl|c
  ·have H:=HO (P:=P) (oo g hi) u;refine⟨o,hi,D,?_⟩;rw[H.1,H.2];exact O
  ·refine(h.val k c).env g (λok f t j=>C.1 t λy=>?_) hp;have z:k≠i:=λe=>B (e▸c);obtain⟨N,m,Q,_⟩:=h.val k c;rw[f]at m;cases m;rcases j with j|j
   ·have:=((rL g hi f D (lR z)).1 t y).2 j;have l:∀d∈ml ops k,d∈done:=λd G=>h.closedDone k ((h.doneIff k).2 (.inr c)) d G;exact q (AJ h.closedDone l i this)
   ·exact((rL g hi f D (lR z)).1 t y).1 j
def adv(m:rO P ops=true){K:ft->World->Prop}{j:Nat}(Z:j∈FP ops L):∀(e:Nat) (A done:List Nat) (pend:wi) (E:ft),
  DW P ops n L A done pend E a w->Aa P ops e done pend E w K->
  ∃(F:Nat) (X f:List Nat) (r:wi) (E' :ft),DW P ops n L X f r E' a w/\Aa P ops F f r E' w K/\
   (j∈X\/(j ∉ f/\(FP ops f).find? (TS P ops)=none)):=by
 intro e;induction e with
 |zero=>intro A done pend E _ h;exact h.elim
 |succ e S=>
  intro A done pend E R h;by_cases Y:j∈A
  ·grind
  ·cases Q:(FP ops done).find? (TS P ops)with
   |none=>
    refine⟨e+1,A,done,pend,E,R,h,.inr ⟨λM=>?_,Q⟩⟩;rcases(R.doneIff j).1 M with h1|h1
    ·exact(rE.1 Z).2.1 h1
    ·exact Y h1
   |some i=>
    have z:i∈FP ops done:=dG Q;have hp:=lJ Q;simp only[Aa,Q]at h;unfold TS at hp;cases J:ops[i]? with
    |none=>rw[J]at h;exact h.elim
    |some o=>
     rw[J]at h hp;simp only at hp;have T:RN P o<3:=by simpa [l8]using hp
     simp only at h;rcases yN h with⟨W,l,O,b⟩|⟨W,l,O,U⟩
     ·have q:=R.same O m;have u:kD ops l o=true:=by rw[O.wanted];exact W
      have G:∀v,(∀t,o.dst≠some t->(l.put o.dst v).get t=l.get t)/\(l.put o.dst v).ds=l.ds:=λv=>⟨λt V=>Cg V,zg _ _ _⟩
      have k:∀v d,o.dst=some d->(l.put o.dst v).get d=v:=λv d M=>by rw[M];exact rt
      cases I:RN P o with
      |zero=>
       simp only[I]at b;obtain⟨v,C,N⟩:=Fp (P:=P) b;exact S _ _ _ _ (q.ahead m J T z (G v) (λ_ y=>y) (.inl ⟨u,v,k v,C w,.inl C⟩)) N
      |succ c=>
       cases c with
       |zero=>
        simp only[I]at b;cases g:xz P (ev l) o.op with
        |none=>rw[g]at b;exact b.elim
        |some s=>
         rw[g]at b
         have H:jC P s λv=>Aa P ops e (i::done) pend (l.put o.dst v) w K:=by
          simp only at b;split at b
          ·exact b.out
          ·exact b
         obtain⟨v,C,N⟩:=H.out;have y:=FE g;have p:∀B,(execOp (ev l) o).run P B=.ok (.value v) B:=λB=>by rw[y];exact Dg P s B v B (C B)
         exact S _ _ _ _ (q.ahead m J T z (G v) (λ_ y=>y) (.inl ⟨u,v,k v,p w,.inl p⟩)) N
       |succ c=>
        simp only[I]at b;cases g:xG P (ev l) o with
        |none=>rw[g]at b;exact b.elim
        |some s=>
         rw[g]at b
         have H:nV P s w λv=>Aa P ops e (i::done) ((i,s,v)::pend) (l.put o.dst v) w K:=by
          simp only at b;split at b
          ·exact b.out
          ·exact b
         clear b;have b:=H;simp only[yn,GV]at b;cases C:s.run P w with
         |halt x B=>rw[C]at b;exact b.elim
         |ok v B=>
          rw[C]at b;obtain⟨rfl,N⟩:=b;have y:=E4 g;have p:∀D,s.run P D=.ok v D->(execOp (ev l) o).run P D=.ok (.value v) D:=λD h1=>by rw[y];exact Dg P s D v D h1
          exact S _ _ _ _ (q.ahead m J T z (G v) (λ_ y=>ag _ y)
           (.inl ⟨u,v,k v,p _ C,.inr ⟨s,aw,p⟩⟩)) N
     ·have q:=R.same O m;have u:kD ops l o=false:=by rw[O.wanted];exact W
      exact S _ _ _ _ (q.ahead m J T z ⟨λt V=>EE V,AN _ _⟩ (λ_ y=>y)
       (.inr ⟨u,λd M=>by rw[M];exact wt⟩)) U
def Gc{F:NP_}:∀{l:List Nat},MD F l->∀j∈l,F j
 | [],_,j,b=>by cases b
 | [k],h,j,b=>by rcases cm.1 b with rfl;exact h
 |k::m::l,h,j,b=>by
  rcases ax.1 b with rfl|b
  ·exact h.1
  ·exact Gc h.2 j b
def Do{P:Program}{w:Wt_}{R:Prop}:∀{p:wi},Bf P w p R->R/\∀i s v,(i,s,v)∈p->s.run P w=.ok v w
 | [],h=>⟨h,λ_ _ _ b=>by cases b⟩
 |(i,s,v)::r,h=>by
  obtain⟨h1,f⟩:=Do h.2;refine⟨h1,λg c d b=>?_⟩;rcases ax.1 b with e|b
  ·cases e;exact h.1
  ·exact f g c d b
def DW.took(h:DW P ops n L A done pend E a w)(u:rO P ops=true){j:Nat}{o:Oper}(z:ops[j]? =some o)(s:j∈A)(e:∀d∈ml ops j,d∈L){v:Vt_}
  (x:∀d,o.dst=some d->E.get d=v)(i:wk n o.dst=true):DW P ops n (j::L) (A.erase j) done pend E (a.put o.dst v) w:=by
 have b:vi n (({l:=[],g:=λt=>a.tmps.getD t undef,ds:=E.ds}:ft).put o.dst v) (a.put o.dst v):=vi.put (E:=({l:=[],g:=λt=>a.tmps.getD t undef,ds:=E.ds}:ft)) ⟨h.size,λ_=>rfl,h.defs⟩ i v;refine⟨λk=>?_,λk f q=>?_,h.nodup.erase j,h.ord.erase,h.closed.cons e,b.size,by have:=b.defs;rwa[zg]at this,λt y=>?_,λk f=>h.val k (List.mem_of_mem_erase f)⟩
 ·rw[h.doneIff];by_cases m:k=j
  ·subst m;simp[s]
  ·grind
 ·have p:=List.mem_of_mem_erase f;rcases ax.1 q with rfl|q
  ·exact(h.nodup.not_mem_erase) f
  ·exact h.apart k p q
 ·rw[b.get];by_cases c:o.dst=some t
  ·rw[c,rt,x t c]
  ·rw[Cg c];refine h.frame t λk f ok r=>?_;by_cases m:k=j
   ·grind
   ·grind
def DW.acted(h:DW P ops n L A done pend E a w)(D:rO P ops=true){j:Nat}{o:Oper}(S:ops[j]? =some o)(J:j ∉ done)(c:∀d∈ml ops j,d∈L){v:Vt_}{E' :ft}{w' :Wt_}
  (M:(∀t,o.dst≠some t->E'.get t=E.get t)/\E'.ds=E.ds/\(∀d,o.dst=some d->E'.get d=v))(H:wk n o.dst=true)
  (hp:∀i s u,(i,s,u)∈(pend.filter λp=> !(CJ ops j).contains p.1)->w' =w\/s.run P w' =.ok u w'):
  DW P ops n (j::L) A (j::done) (pend.filter λp=> !(CJ ops j).contains p.1) E' (a.put o.dst v) w' :=by
 have G:j ∉ A:=λT=>J ((h.doneIff j).2 (.inr T));have f:vi n (({l:=[],g:=λt=>a.tmps.getD t undef,ds:=E.ds}:ft).put o.dst v) (a.put o.dst v):=vi.put (E:=({l:=[],g:=λt=>a.tmps.getD t undef,ds:=E.ds}:ft)) ⟨h.size,λ_=>rfl,h.defs⟩ H v;have r:∀i∈A,i ∉ CJ ops j:=λi V C=>h.apart i V (AJ h.closed c i C);refine⟨λk=>?_,λk z N=>?_,h.nodup,h.ord.mono (λx O=>ag _ O),h.closed.cons c,f.size,by have:=f.defs;rw[zg]at this;rw[M.2.1];exact this,λt B=>?_,λk z=>?_⟩
 ·simp only[ax,h.doneIff,or_assoc]
 ·rcases ax.1 N with rfl|N
  ·exact G z
  ·exact h.apart k z N
 ·rw[f.get];by_cases q:o.dst=some t
  ·rw[q,rt,M.2.2 t q]
  ·rw[Cg q,M.1 t q];exact h.frame t B
 ·have h1:Wi P ops E' w pend k:=by
   refine(h.val k z).env D (λok b t B=>M.1 t λR=>?_) (λ_ O=>O);obtain⟨U,y,K,_⟩:=h.val k z;rw[b]at y;cases y;have I:k≠j:=λe=>G (e▸z);rcases B with B|B
   ·rcases(rL D b S K I).2 t R B with C|C
    ·have m:∀d∈ml ops k,d∈done:=λd Q=>h.closedDone k ((h.doneIff k).2 (.inr z)) d Q;exact J (AJ h.closedDone m j C)
    ·exact r k z C
   ·exact((rL D b S K I).1 t B).1 R
  refine h1.world λs v C=>?_;have F:(k,s,v)∈pend.filter λp=> !(CJ ops j).contains p.1:=aU.2 ⟨C,by grind⟩;exact⟨F,hp k s v F⟩
end
def yV{L:List Nat}{b:Array Bool}(o:∀i,i<ops.length->(b.getD i true=true↔i∈L))(p:b.size=ops.length)(h:∀i∈L,i<ops.length){i:Nat}:
  i∈Region.ready .any ops.toArray b↔i∈FP ops L:=by
 rw[rE];unfold Region.ready;simp only[aU,eZ,dv,ai];constructor
 ·rintro⟨h1,l,g⟩;refine⟨h1,λr=>?_,λd c=>?_⟩
  ·grind
  ·have f:ops[i]? =some ops[i]:=av h1;simp only[cR,f,eQ,dC]at g;simp only[ml,f,Fi,aL,aU]at c;obtain⟨e,⟨k,j⟩,rfl⟩:=c;have m:=(jV.1 g) e (by simpa using k);simp only[j,jL,fP]at m;by_cases q:e.on<ops.length
   ·grind
   ·grind
 ·rintro⟨h1,l,g⟩;refine⟨h1,?_,?_⟩
  ·grind
  ·have f:ops[i]? =some ops[i]:=av h1;simp only[cR,f,eQ,dC];refine jV.2 λe k=>?_;cases j:Region.binds .any e with
   |false=>rfl
   |true=>
    have c:e.on∈L:=g e.on (by simp only[ml,f,Fi,aL,aU];exact⟨e,⟨by simpa using k,j⟩,rfl⟩);have:=(o _ (h _ c)).2 c;rw[gh]at this|-;rw[gG (by grind)]at this|-;simpa using this
def N0(hP:uD P=true){ro:Option Nat}{n:Nat}{ops:List Oper}(y:rO P ops=true)(hdst:(ops.all λo=>wk n o.dst)=true)
  {Q:Exit->Act->World->Prop}{K:ft->World->Prop}(hK:∀E a w,vi n E a->K E w->Q .normal a w):
  ∀(m:Nat) (L A done:List Nat) (pend:wi) (E:ft) (a:Act) (w:Wt_) (l:Nat) (b:Array Bool),
   DW P ops n L A done pend E a w->(∀i,i<ops.length->(b.getD i true=true↔i∈L))->b.size=ops.length->(∀i∈L,i<ops.length)->
   ((List.range ops.length).filter λi=> !L.contains i).length<=m->Aa P ops l done pend E w K->
   wpAnyIn (FR ro) 0 P .any ops.toArray Q m b a w:=by
 have F:∀(L A done:List Nat) (pend:wi) (E:ft) (a:Act) (w:Wt_) (l:Nat),DW P ops n L A done pend E a w->FP ops L=[]->Aa P ops l done pend E w K->Q .normal a w:=by
  intro L A done pend E a w l N W h
  have hA:A=[]:=by
   apply aQ;intro hne;obtain⟨i,B,M⟩:=N.ord.first hne;obtain⟨o,ho,_⟩:=N.val i B;have:i∈FP ops L:=rE.2 ⟨(aJ.1 ho).1,N.apart i B,M⟩;rw[W]at this;cases this
  subst hA
  have hrd:FP ops done=[]:=by
   apply fK.2;intro i B;obtain⟨h1,h2,h3⟩:=rE.1 B;have e:∀k,k∈done↔k∈L:=λk=>by rw[N.doneIff];simp
   have:i∈FP ops L:=rE.2 ⟨h1,λhm=>h2 ((e i).2 hm),λd M=>(e d).1 (h3 d M)⟩;rw[W]at this;cases this
  cases l with
  |zero=>exact h.elim
  |succ l=>
   simp only[Aa,hrd,List.find?_nil]at h;exact hK E a w ⟨N.size,λt=>N.frame t (λi B=>by cases B),N.defs⟩ h
 intro m;induction m with
 |zero=>
  intro L A done pend E a w l b N hL I O hm h
  have W:FP ops L=[]:=by
   apply fK.2;intro i B;obtain⟨h1,h2,_⟩:=rE.1 B;have:i∈(List.range ops.length).filter λi=> !L.contains i:=aU.2 ⟨eZ.2 h1,by simpa using h2⟩;have:=List.length_pos_of_mem this;omega
  refine⟨?_,F L A done pend E a w l N W h⟩;apply fK.2;intro i B;rw[yV hL I O,W]at B;cases B
 |succ m ih=>
  intro L A done pend E a w l b N hL I O hm h;refine⟨λW=>F L A done pend E a w l N ?_ h,λj hj=>?_⟩
  ·apply fK.2;intro i B;rw[<-yV hL I O,W]at B;cases B
  ·have hjr:j∈FP ops L:=(yV hL I O).1 hj;obtain⟨C,hjL,J⟩:=rE.1 hjr;have z:ops[j]? =some ops[j]:=av C;have V:wk n (ops[j]).dst=true:=bg.1 hdst _ (aq C)
   have U:∀i,i<ops.length->((b.setIfInBounds j true).getD i true=true↔i∈j::L):=by
    intro i B;by_cases Z:j=i
    ·subst Z;simp[I,B]
    ·have:(b.setIfInBounds j true).getD i true=b.getD i true:=by
      simp[Z]
     rw[this,hL i B];simp[lR Z]
   have G:(b.setIfInBounds j true).size=ops.length:=by simpa using I
   have H:∀i∈j::L,i<ops.length:=λi B=>by
    rcases ax.1 B with rfl|B
    ·exact C
    ·exact O i B
   have T:((List.range ops.length).filter λi=> !(j::L).contains i).length<=m:=by
    have e:((List.range ops.length).filter λi=> !(j::L).contains i)=(((List.range ops.length).filter λi=> !L.contains i).filter λi=> !(i==j)):=by
     rw[gt];apply dM;intro x _;simp only[mg,Bool.not_or]
    have hmem:j∈(List.range ops.length).filter λi=> !L.contains i:=aU.2 ⟨eZ.2 C,by simpa using hjL⟩
    have h5:(((List.range ops.length).filter λi=> !L.contains i).filter λi=> !(i==j)).length<((List.range ops.length).filter λi=> !L.contains i).length:=
     il.2 ⟨j,hmem,by simp⟩
    rw[e];omega
   obtain⟨g,A',r,q,E',D,h',hcase⟩:=adv y hjr l A done pend E N h;have R:=D.look y z hjL J;have hex:=E5 (a:=a) (E:=E') (oo y z) R;have hwa:=BX (a:=a) (E:=E') (o:=ops[j]) R;unfold wpOpIn;simp only[cR,z];rw[hwa];rcases hcase with hA|⟨hnd,X⟩
   ·obtain⟨o,ho,hc,hv⟩:=D.val j hA;rw[z]at ho;cases ho;rcases hv with⟨hw,v,M,W,_⟩|⟨hw,M⟩
    ·rw[ae hw];refine⟨λf _=>FR.fn ro f,?_⟩;rw[FR.round,Oper.semAt_eq ro a.eval _ (λc hc' =>by have:=oo y z;rw[hc']at this;cases this),hex,W];exact ih _ _ _ _ _ _ _ g _ (D.took y z hA J M V) U G H T h'
    ·rw[aa (by rw[hw];simp)];exact⟨λf _=>FR.fn ro f,ih _ _ _ _ _ _ _ g _ (D.took y z hA J M V) U G H T h'⟩
   ·cases g with
    |zero=>exact h'.elim
    |succ g=>
     have S:j∈FP ops r:=rE.2 ⟨C,hnd,λd M=>(D.doneIff d).2 (.inl (J d M))⟩;simp only[Aa,X]at h'
     have h2:∀rs,FP ops r=rs->(match rs with| []=>K E' w|rs=>MD (λj=>match ops[j]? with
       |none=>False
       |some o=>S5 ops o E' (λE=>SV P (ev E) o w λv w' =>Bf P w' (q.filter λp=> !(CJ ops j).contains p.1) (Aa P ops g (j::r) (q.filter λp=> !(CJ ops j).contains p.1) (E.put o.dst v) w' K))
        (λE=>Aa P ops g (j::r) (q.filter λp=> !(CJ ops j).contains p.1) (E.skip o.dst) w K)) rs)->
       S5 ops ops[j] E' (λE=>SV P (ev E) ops[j] w λv w' =>Bf P w' (q.filter λp=> !(CJ ops j).contains p.1) (Aa P ops g (j::r) (q.filter λp=> !(CJ ops j).contains p.1) (E.put (ops[j]).dst v) w' K))
        (λE=>Aa P ops g (j::r) (q.filter λp=> !(CJ ops j).contains p.1) (E.skip (ops[j]).dst) w K):=by
      intro rs hrs hh;cases rs with
      |nil=>rw[hrs]at S;cases S
      |cons k rs=>
       have:=Gc hh j (hrs▸S);rw[z]at this;exact this
     have h3:=h2 _ rfl h';rcases yN h3 with⟨hw,E1,hs,hy⟩|⟨hw,E1,hs,hno⟩
     ·rw[ae hw];have Y:=D.same hs y;refine BU (ρ:=ev E1) (oo y z) (by rw[hex,hs.ev]) (CX hP (Lk E1) hy) λv w' hv=>?_;obtain⟨hv1,hv2⟩:=Do hv;exact ih _ _ _ _ _ _ _ g _ (Y.acted y z hnd J ⟨λt ht=>Cg ht,zg _ _ _,λd M=>by rw[M];exact rt⟩ V (λi s u hm=>.inr (hv2 i s u hm))) U G H T hv1
     ·rw[aa (by rw[hw];simp)];have Y:=D.same hs y;refine⟨λf _=>FR.fn ro f,?_⟩;have hI2:=Y.acted (v:=undef) (w' :=w) (E' :=E1.skip (ops[j]).dst) y z hnd J ⟨λt ht=>EE ht,AN _ _,λd M=>by rw[M];exact wt⟩ V (λi s u hm=>.inl rfl);exact ih _ _ _ _ _ _ _ g _ hI2 U G H T hno
def gp:Code->List Nat
 | .region _ ops _=>ops.toList.filterMap (·.dst)
 | .seq a b=>gp a++gp b
 | .cond _ a b=>gp a++gp b
 | .block _ c=>gp c
 | .loop c=>gp c
 | .scope c=>gp c
 |_=>[]
def mZ:Code->Bool
 | .seq a b=>mZ a||mZ b
 | .cond _ a b=>mZ a||mZ b
 | .block _ c=>mZ c
 | .loop c=>mZ c
 | .scope c=>mZ c
 | .rangeFunc .. =>true
 |_=>false
def fV(ds:List Nat):List (Nat×Option Value)->List Nat->List Nat
 | [],acc=>acc
 |(k,_)::r,acc=>
  match ds.contains k&& !acc.contains k with
  |true=>fV ds r (k::acc)
  |false=>fV ds r acc
def EZ:List Nat->Type
 | []=>Unit
 |_::l=>Value×EZ l
def lv(E:ft):(l:List Nat)->EZ l
 | []=>()
 |t::l=>(E.get t,lv E l)
def rT:(l:List Nat)->EZ l->List (Nat×Option Value)->List (Nat×Option Value)
 | [],_,r=>r
 |t::l,s,r=>(t,some s.1)::rT l s.2 r
def zG{α:Type}{β:Sort _}:List α->(List α->β)->β
 | [],k=>k []
 |x::xs,k=>zG xs λl=>k (x::l)
def uV{α:Type}{β:Sort _}:∀(l:List α) (k:List α->β),zG l k=k l
 | [],_=>rfl
 |x::a,k=>by rw[zG,uV a]
def PZ:Operand->Option Nat
 | .tmp t=>some t
 |_=>none
def sn:Code->List Nat
 | .region _ ops _=>ops.toList.flatMap λo=>o.op.operands.toList.filterMap PZ
 | .seq a b=>sn a++sn b
 | .cond c a b=>(PZ c).toList++sn a++sn b
 | .block _ c=>sn c
 | .loop c=>sn c
 | .scope c=>sn c
 | .rangeFunc gv _ a b=>(PZ gv).toList++sn a++sn b
 |_=>[]
def Fk(ds:List Nat):List Nat->List Nat->List Nat
 | [],acc=>acc
 |k::r,acc=>
  match ds.contains k&& !acc.contains k with
  |true=>Fk ds r (k::acc)
  |false=>Fk ds r acc
def Mh(ds:List Nat)(l:List (Nat×Option Value))(us:List Nat):List Nat:=Fk ds us (fV ds l [])
def xE:Nat->Nat
 |0=>0
 |1=>1
 |_=>2
def Z7:Code->Nat
 | .region _ ops _=>ops.toList.length
 | .seq a b=>Z7 a+Z7 b
 | .cond _ _ _=>9
 | .block _ c=>Z7 c
 | .loop _=>9
 | .rangeFunc _ _ _ _=>9
 |_=>0
def aj7:Op->Bool
 | .alloc _=>true
 | .box _ _=>true
 | .buildSlice _ _ _=>true
 | .makeSlice _ _ _=>true
 | .makeMap _ _=>true
 | .call _=>true
 | .store _ _ _=>true
 | .mapUpdate _ _ _ _=>true
 | .insert _ _ _ _=>true
 | .mapEntry _ _ _=>true
 | .entryStore _ _ _ _=>true
 |_=>false
def TW(ops:List Oper):Bool:=
 let es:=(List.range ops.length).filter λi=>match ops[i]? with|some o=>aj7 o.op|none=>false
 es.any λj=>zG (CJ ops j) λaj=>es.any λi=>Nat.blt i j&& !aj.contains i&& !(CJ ops i).contains j
def IY:Code->Option Nat->Nat
 | .region _ ops draw,i=>match i with
  |none=>match (ops.toList.any λo=>o.guard.isSome)||(draw&& TW ops.toList)with|true=>2|false=>1
  |some _=>0
 | .seq a b,i=>
  let na:=match Nat.ble 2 (IY a none)&& !mZ a&& Nat.ble 3 (Z7 b)with|true=>1|false=>IY a none
  match i with
  |none=>xE (na*IY b none)
  |some i=>xE (IY a (some i)+na*IY b (some i))
 | .cond _ a b,i=>xE (IY a i+IY b i)
 | .block id c,i=>match i with
  |none=>xE (IY c none+IY c (some id))
  |some i=>IY c (some i)
 | .loop c,i=>match i with
  |none=>0
  |some i=>IY c (some i)
 | .exit id,i=>match i with
  |none=>0
  |some i=>match Nat.beq i id with|true=>1|false=>0
 | .ret,_=>0
 | .refuse _,_=>0
 | .goto _,_=>0
 |_,i=>match i with
  |none=>1
  |some _=>0
def HN(a b:Code):Bool:=Nat.ble 2 (IY a none)&& !mZ a&& Nat.ble 3 (Z7 b)
structure cT{S:Type}(A:(S->World->Prop)->Prop)(B:S->World->Prop):Prop where
 out:∃J:S->World->Prop,(∀s w,J s w->B s w)/\A J
def cT.at{S:Type}{A:(S->World->Prop)->Prop}{B:S->World->Prop}(J:S->World->Prop)(h:A J)(a:∀s w,J s w->B s w):cT A B:=⟨⟨J,a,h⟩⟩
def pB(E:ft)(ds live:List Nat)(s:EZ live)(g:Nat->Value)(marks:List Nat):ft:=
 {l:=rT live s E.l,g:=λt=>match ds.contains t with|true=>g t|false=>E.g t,ds:=marks}
structure oJ{S:Type}(body:S->World->(S->World->Prop)->Prop)(s:S)(w:Wt_):Prop where
 out:∃(I:S->World->Prop) (m:S->World->Nat),I s w/\∀s w,I s w->body s w λs' w' =>I s' w' /\m s' w' <m s w
def R0(ro:Option Nat)(w:Wt_)(K:Nat->List Nat->World->Prop):Prop:=
 match ro with
 |none=>K w.heap.size [w.heap.size] (w.alloc (.deferred (some [])))
 |some l0=>∃r,w.heap[l0]? =some (.loop r)/\K r.defers [] w
def uC(W:Wt_)(l:Nat)(r:Loop):Prop:=W.heap[l]? =some (.loop r)
def QC(W:Wt_)(l:Nat)(rec:Loop):Prop:=∃st pend,uC W l {rec with state:=st,pending:=pend}
def RFD(P:Program)(ro:Option Nat)(gv:Vt_)(w:Wt_)(np:Nat)
  (rnd:Nat->List Value->World->(World->Prop)->(Code->World->Prop)->Prop)(after:List Nat->Option Code->World->Prop):Prop:=
 match gv with
 | .func (.func f) first captured=>
  R0 ro w λD mk w1=>∀rec:Loop,rec.state=.ready->rec.pending=none->rec.defers=D->
   (∀(args:LV_) (W:Wt_) (K:aZ),args.length=np->QC W w1.heap.size rec->
    rnd w1.heap.size args W
     (λW' =>∃r,uC W' w1.heap.size r/\K (.bool true) (W'.putObj w1.heap.size (.loop {r with state:=.ready,pending:=none})))
     (λc W' =>∃r,uC W' w1.heap.size r/\K (.bool false) (W'.putObj w1.heap.size (.loop {r with state:=.done,pending:=some c})))->
    Yl P w1.heap.size ⟨args⟩ W K)->
   Ca P f ⟨first.toList++(.func (.yield w1.heap.size) #[] #[]::captured.toList)⟩ (w1.alloc (.loop rec)) λ_ W=>
    ∃r,uC W w1.heap.size r/\r.state≠ .busy/\after mk r.pending (W.putObj w1.heap.size (.loop {r with state:=.exhausted}))
 |_=>False
structure FO(P:Program)(ro:Option Nat)(gv:Vt_)(w:Wt_)(np:Nat)
  (rnd:Nat->List Value->World->(World->Prop)->(Code->World->Prop)->Prop)(after:List Nat->Option Code->World->Prop):Prop where
 out:RFD P ro gv w np rnd after
def t0{ro:Option Nat}{c:Vt_}{np:Nat}
  {b:Nat->List Value->World->(World->Prop)->(Code->World->Prop)->Prop}{a:List Nat->Option Code->World->Prop}:FO P ro c w np b a↔RFD P ro c w np b a:=⟨FO.out,FO.mk⟩
def WU(l:Nat)(W:Wt_)(K:World->Prop):Prop:=∃r,uC W l r/\r.state=.ready/\K (W.putObj l (.loop {r with state:=.busy}))
structure qt(l:Nat)(W:Wt_)(K:World->Prop):Prop where
 out:WU l W K
def wD:List Nat->Nat->List Value->List (Nat×Option Value)->List (Nat×Option Value)
 |t::ts,i,vs,r=>wD ts (i+1) vs ((t,some (vs.getD i undef))::r)
 | [],_,_,r=>r
def jR(N R:World->Prop)(X:Nat->World->Prop)(pend:Option Code)(W:Wt_):Prop:=
 match pend with
 |none=>N W
 |some .ret=>R W
 |some (.exit id)=>X id W
 |_=>False
def vc(P:Program)(jn:Bool)(ro:Option Nat):Code->(Exit->ft->World->Prop)->ft->World->Prop
 | .skip,Q,E,w=>Q .normal E w
 | .region _ ops draw,Q,E,w=>
  match draw with
  |false=>y8 P ops.toList ops.toList E w (Q .normal)
  |true=>Aa P ops.toList (ops.toList.length+1) [] [] E w.drew (Q .normal)
 | .seq a b,Q,E,w=>
  match jn&& HN a b with
  |false=>vc P jn ro a (λe E w=>match e with| .normal=>vc P jn ro b Q E w|e=>Q e E w) E w
  |true=>
   zG E.l λel=>zG (Mh (gp a) el (sn b)) λlive=>
   cT (S:=EZ live) (λJ=>vc P jn ro a (λe E' w' =>match e with| .normal=>J (lv E' live) w' |e=>Q e E' w') {E with l:=el} w)
    (λs w' =>∀g,vc P jn ro b Q (pB {E with l:=el} (gp a) live s g E.ds) w')
 | .cond c t f,Q,E,w=>FH (ev E c) λb=>bc b (vc P jn ro t Q E w) (vc P jn ro f Q E w)
 | .block id c,Q,E,w=>vc P jn ro c (λe E w=>match e with| .exit i=>bc (Nat.beq i id) (Q .normal E w) (Q (.exit i) E w)|e=>Q e E w) E w
 | .loop c,Q,E,w=>
  zG E.l λel=>zG (fV (gp c) el []) λlive=>
  match mZ c with
  |false=>oJ (S:=EZ live) (λs w K=>∀g,vc P jn ro c (λe E' w' =>match e with| .normal=>K (lv E' live) w' |e=>Q e E' w')
    (pB {E with l:=el} (gp c) live s g E.ds) w) (lv {E with l:=el} live) w
  |true=>oJ (S:=EZ live×List Nat) (λs w K=>∀g,vc P jn ro c (λe E' w' =>match e with| .normal=>K (lv E' live,E'.ds) w' |e=>Q e E' w')
    (pB {E with l:=el} (gp c) live s.1 g s.2) w) (lv {E with l:=el} live,E.ds) w
 | .rangeFunc gv ps assign body,Q,E,w=>
  FO P ro (ev E gv) w ps.toList.length
   (λl args W KN KJ=>vc P jn (some l) assign (λe E W=>match e with
     | .normal=>qt l W λW=>vc P jn (some l) body (λe _ W=>match e with
      | .normal=>KN W
      | .ret=>KJ .ret W
      | .exit id=>KJ (.exit id) W
      |_=>False) E W
     |_=>False) {E with l:=wD ps.toList 0 args E.l,ds:=[]} W)
   (λmk pend W=>jR (λW=>Q .normal {E with ds:=mk++E.ds} W) (λW=>Q .ret {E with ds:=mk++E.ds} W)
    (λid W=>Q (.exit id) {E with ds:=mk++E.ds} W) pend W)
 | .exit id,Q,E,w=>Q (.exit id) E w
 | .ret,Q,E,w=>Q .ret E w
 | .label _,Q,E,w=>Q .normal E w
 | .scope c,Q,E,w=>match ro with
  |none=>vc P jn none c (λe E w=>match e with| .goto _=>False|e=>Q e E w) E w
  |some _=>False
 | .goto _,_,_,_=>False
 | .refuse _,_,_,_=>False
def IL(P:Program)(n:Nat):Code->Bool
 | .region _ ops draw=>(ops.toList.all λo=>wk n o.dst)&& (!draw||(P.follows .mixedOrders&& rO P ops.toList))
 | .seq a b=>IL P n a&& IL P n b
 | .cond _ a b=>IL P n a&& IL P n b
 | .block _ c=>IL P n c
 | .loop c=>IL P n c
 | .scope c=>IL P n c
 | .rangeFunc _ ps a b=>(ps.toList.all λd=>Nat.blt d n)&& IL P n a&& IL P n b
 |_=>true
def Fg{K b:aZ}(h:rv P s w K)(c:∀v a,K v a->b v a):rv P s w b:=by
 rw[B4]at*;unfold Wn at*;split at h
 ·exact c _ _ h
 ·exact h.elim
def EB{s:Sem Unit}{K b:World->Prop}(h:ru P s w K)(c:∀a,K a->b a):ru P s w b:=by
 rw[Bv]at*;unfold V3 at*;split at h
 ·exact c _ h
 ·exact h.elim
def AD{s:Sem Next}{K c:aZ}(h:rn P s w K)(a:∀v b,K v b->c v b):rn P s w c:=by
 rw[pV]at*;unfold OZ at*;split at h
 ·exact a _ _ h
 ·exact a _ _ h
 ·exact Ca.mono h a
 ·exact h.mono λ_ _ ⟨v,e,d⟩=>⟨v,e,a _ _ d⟩
 ·exact h.elim
def B9{K a:Bool->Prop}(h:FH v K)(c:∀b,K b->a b):FH v a:=by
 unfold FH at*;split at h
 ·exact c _ h
 ·exact h.elim
def DF(h:pJ v K)(c:∀b,K b->a b):pJ v a:=by
 unfold pJ at*;split at h
 ·exact c _ h
 ·exact h.elim
def Jk{fv:Vt_}{a:LV_}{K d:aZ}(h:lA P fv a w K)(b:∀v c,K v c->d v c):lA P fv a w d:=by
 rw[kf]at*;unfold K7 at*;split at h
 ·exact Ca.mono h b
 ·exact Yl.mono h b
 ·exact h.elim
def H4(h:nV P s w K)(b:∀v,K v->a v):nV P s w a:=by
 rw[yn]at*;unfold GV at*;split at h
 ·grind
 ·exact h.elim
def EU{K b:aZ}(h:rx P s w K)(c:∀v a,K v a->b v a):rx P s w b:=⟨Fg h.out c⟩
def GG{s:Sem Unit}{K b:World->Prop}(h:yS P s w K)(c:∀a,K a->b a):yS P s w b:=⟨EB h.out c⟩
def Pa(h:ID P s w K)(b:∀v,K v->a v):ID P s w a:=⟨H4 h.out b⟩
def Ii(h:jC P s K)(b:∀v,K v->a v):jC P s a:=
 let⟨v,h1,h2⟩:=h.out
 ⟨⟨v,h1,b _ h2⟩⟩
def Mv(h:Hg P s K)(b:∀v,K v->a v):Hg P s a:=⟨Ii h.out b⟩
def Ho{ρ:Operand->Value}{a:Op}{c:Value->Prop}(h:yI ρ a K)(b:∀v,K v->c v):yI ρ a c:=by
 unfold yI at*;cases a<;>simp only at h|- <;>first|exact b _ h|exact B9 h (λ_=>b _)|exact DF h b|exact h.elim
def IC{ρ:Operand->Value}{o:Oper}{K i:aZ}(h:SV P ρ o w K)(a:∀v g,K v g->i v g):SV P ρ o w i:=by
 unfold SV at*
 cases d:o.op<;>rw[d]at h<;>simp only at h|- <;>
  first
   |exact Fg h a
   |exact EU h a
   |exact EB h (λ_=>a _ _)
   |exact GG h (λ_=>a _ _)
   |exact a _ _ h
   |exact B9 h (λ_=>a _ _)
   |exact DF h (λ_=>a _ _)
   |exact AD h a
   |exact h.elim
   |(split at h<;>first|exact Fg h a|exact EU h a|exact EB h (λ_=>a _ _)|exact GG h (λ_=>a _ _))
   |skip
 rename_i c
 cases e:c.callee with
 |value f=>
  rw[e]at h;cases f<;>simp only at h|- <;>first|exact Jk h a|(split at h<;>first|exact⟨AD h.out a⟩|exact Ca.mono h a)
 |builtin b=>rw[e]at h;cases b<;>first|exact EU h a|exact AD h a
 |invoke r m=>rw[e]at h;exact AD h a
def A3{o:Oper}{f no a e:ft->Prop}(h:S5 ops o E f no)
  (n:∀c,E.Same c->f c->a c)(i:∀c,E.Same c->no c->e c):S5 ops o E a e:=by
 unfold S5 at*;cases l:o.guard with
 |none=>rw[l]at h;exact n E (.refl E) h
 |some g=>
  obtain⟨j,d⟩:=g;rw[l]at h;simp only at h|-;cases p:Cf ops j with
  |none=>rw[p]at h;exact i E (.refl E) h
  |some s=>
   rw[p]at h;simp only at h|-;cases m:E.skipped s with
   |true=>rw[m]at h;exact i E (.refl E) h
   |false=>
    rw[m]at h;simp only[FH]at h|-;cases k:E.get s<;>rw[k]at h<;>first|exact h.elim|skip
    rename_i b
    cases b<;>cases d<;>first|exact n _ (ft.same_put k) h|exact i _ (ft.same_put k) h
def Fr(ds:List Nat)(E E' :ft):Prop:=∀t,t ∉ ds->E'.get t=E.get t
def Fr.refl(ds:List Nat)(E:ft):Fr ds E E:=λ_ _=>rfl
def Fr.trans{E1 b:ft}(h:Fr ds E E1)(c:Fr ds E1 b):Fr ds E b:=λt a=>(c t a).trans (h t a)
def Fr.mono{a:List Nat}{E1:ft}(h:Fr ds E E1)(hs:∀t∈ds,t∈a):Fr a E E1:=λt c=>h t λb=>c (hs t b)
def Fr.put(E:ft){d:Option Nat}(v:Vt_)(a:∀t,d=some t->t∈ds):Fr ds E (E.put d v):=λt b=>Cg λe=>b (a t e)
def Fr.skip(E:ft){d:Option Nat}(a:∀t,d=some t->t∈ds):Fr ds E (E.skip d):=λt b=>EE λe=>b (a t e)
def Fr.of_same{E' :ft}(h:E.Same E'):Fr ds E E' :=λt _=>h.1 t
def FT{K q:ft->World->Prop}:∀(l:List Oper),(∀o∈l,∀t,o.dst=some t->t∈ds)->∀(E:ft) (w:Wt_),y8 P ops l E w K->
  (∀a f,Fr ds E a->a.ds=E.ds->K a f->q a f)->y8 P ops l E w q:=by
 intro l;induction l with
 |nil=>exact λ_ E w h d=>d E w (.refl _ _) rfl h
 |cons o rest p=>
  intro m E w h d;have k:=m o aw;have n:∀o∈rest,∀t,o.dst=some t->t∈ds:=λu r=>m u (ag _ r);refine A3 h (λj c s=>IC s λv f y=>p n _ _ y λa b i e g=>d a b ?_ ?_ g) (λj c x=>p n _ _ x λa b i e g=>d a b ?_ ?_ g)
  ·exact((Fr.of_same c).trans (Fr.put j v k)).trans i
  ·rw[e,zg,c.2]
  ·exact((Fr.of_same c).trans (Fr.skip j k)).trans i
  ·rw[e,AN,c.2]
def CZ{F G:NP_}(h:∀j,F j->G j):∀{l:List Nat},MD F l->MD G l
 | [],_=>trivial
 | [_],a=>h _ a
 |_::k::l,a=>⟨h _ a.1,CZ h (l:=k::l) a.2⟩
def Ci{P:Program}{w:Wt_}{R b:Prop}(h:R->b):∀{p:wi},Bf P w p R->Bf P w p b
 | [],a=>h a
 |_::_,a=>⟨a.1,Ci h a.2⟩
def RK{K s:ft->World->Prop}(B:∀o∈ops,∀t,o.dst=some t->t∈ds):∀(f:Nat) (done:List Nat) (m:wi) (E:ft) (w:Wt_),Aa P ops f done m E w K->
  (∀d k,Fr ds E d->d.ds=E.ds->K d k->s d k)->Aa P ops f done m E w s:=by
 intro f;induction f with
 |zero=>intro _ _ _ _ h;exact h.elim
 |succ f q=>
  intro done m E w h x
  have b:∀(o:Oper) (v:Vt_) (c:ft),o∈ops->E.Same c->∀d k,Fr ds (c.put o.dst v) d->d.ds=(c.put o.dst v).ds->K d k->s d k:=by
   intro o v c p e d k z u y;exact x d k (((Fr.of_same e).trans (Fr.put c v (B o p))).trans z) (by rw[u,zg,e.2]) y
  have l:∀(o:Oper) (c:ft),o∈ops->E.Same c->∀d k,Fr ds (c.skip o.dst) d->d.ds=(c.skip o.dst).ds->K d k->s d k:=by
   intro o c p e d k z u y;exact x d k (((Fr.of_same e).trans (Fr.skip c (B o p))).trans z) (by rw[u,AN,e.2]) y
  simp only[Aa]at h|-;split at h
  ·rename_i i D
   split at h
   ·exact h.elim
   ·rename_i o p
    have a:o∈ops:=dc p;refine A3 h (λc e g=>?_) (λc e A=>q _ _ _ _ A (l o c a e));split at g
    ·exact Ho g λv n=>q _ _ _ _ n (b o v c a e)
    ·split at g
     · (split at g<;>first|exact Ii g λv n=>q _ _ _ _ n (b o v c a e)|exact Mv g λv n=>q _ _ _ _ n (b o v c a e))
     ·exact g.elim
    ·split at g
     · (split at g<;>first|exact H4 g λv n=>q _ _ _ _ n (b o v c a e)|exact Pa g λv n=>q _ _ _ _ n (b o v c a e))
     ·exact g.elim
  ·split at h
   ·exact x E w (.refl _ _) rfl h
   ·refine CZ (λj r=>?_) h;cases p:ops[j]? with
    |none=>rw[p]at r;exact r.elim
    |some o=>
     rw[p]at r;have a:o∈ops:=dc p;exact A3 r (λc e g=>IC g λv k n=>Ci (λC=>q _ _ _ _ C (b o v c a e)) n) (λc e A=>q _ _ _ _ A (l o c a e))
def oJ.mono{S:Type}{body a:S->World->(S->World->Prop)->Prop}{s:S}(h:oJ body s w)
  (b:∀s w K,body s w K->a s w K):oJ a s w:=
 let⟨I,m,h0,h1⟩:=h.out
 ⟨⟨I,m,h0,λs w c=>b _ _ _ (h1 s w c)⟩⟩
def oG{r:List (Nat×Option Value)}{t:Nat}:∀{l:List Nat} {s:EZ l},t ∉ l->ft.look (rT l s r) t=ft.look r t
 | [],_,_=>rfl
 |k::l,s,b=>by
  have a:Nat.beq k t=false:=by
   cases d:Nat.beq k t with
   |false=>rfl
   |true=>exact absurd (by rw[dS d];exact aw) b
  simp only[rT,ft.look,a,cond_false];exact oG λc=>b (ag _ c)
def oZ{r:List (Nat×Option Value)}{t:Nat}{E:ft}:∀{l:List Nat},t∈l->ft.look (rT l (lv E l) r) t=some (some (E.get t))
 |k::l,b=>by
  simp only[rT,lv,ft.look];cases a:Nat.beq k t with
  |true=>rw[dS a];rfl
  |false=>
   simp only[cond_false];apply oZ;rcases ax.1 b with e|e
   ·subst e;simp at a
   ·exact e
def uf{ds:List Nat}:∀{l:List (Nat×Option Value)} {acc:List Nat},(∀t∈acc,t∈ds)->∀t∈fV ds l acc,t∈ds
 | [],acc,b,t,a=>b t (by simpa [fV]using a)
 |(k,v)::r,acc,b,t,a=>by
  unfold fV at a;cases d:ds.contains k&& !acc.contains k with
  |true=>
   rw[d]at a;refine uf (λx c=>?_) t a;rcases ax.1 c with rfl|c
   ·grind
   ·exact b x c
  |false=>rw[d]at a;exact uf b t a
def tW{ds:List Nat}:∀{l:List (Nat×Option Value)} {acc:List Nat} {t:Nat},t∈acc->t∈fV ds l acc
 | [],acc,t,a=>by simpa [fV]using a
 |(k,v)::r,acc,t,a=>by
  unfold fV;cases ds.contains k&& !acc.contains k with
  |true=>exact tW (ag _ a)
  |false=>exact tW a
def rN{ds:List Nat}:∀{l:List (Nat×Option Value)} {acc:List Nat} {t:Nat},t∈ds->ft.look l t≠none->t∈fV ds l acc
 | [],_,_,_,h=>absurd rfl h
 |(k,v)::r,acc,t,a,h=>by
  unfold fV;cases b:Nat.beq k t with
  |true=>
   obtain rfl:=dS b;have c:ds.contains k=true:=by simpa using a
   cases e:acc.contains k with
   |true=>
    simp only[c,jL,pw];exact tW (by simpa using e)
   |false=>
    simp only[c,Bool.not_false,Bool.and_true];exact tW aw
  |false=>
   have d:ft.look r t≠none:=by simpa [ft.look,b]using h
   cases ds.contains k&& !acc.contains k with
   |true=>exact rN a d
   |false=>exact rN a d
def Be{ds:List Nat}:∀{l acc:List Nat},(∀t∈acc,t∈ds)->∀t∈Fk ds l acc,t∈ds
 | [],acc,b,t,a=>b t (by simpa [Fk]using a)
 |k::r,acc,b,t,a=>by
  unfold Fk at a;cases d:ds.contains k&& !acc.contains k with
  |true=>
   rw[d]at a;refine Be (λx c=>?_) t a;rcases ax.1 c with rfl|c
   ·grind
   ·exact b x c
  |false=>rw[d]at a;exact Be b t a
def Br{ds:List Nat}:∀{l acc:List Nat} {t:Nat},t∈acc->t∈Fk ds l acc
 | [],acc,t,a=>by simpa [Fk]using a
 |k::r,acc,t,a=>by
  unfold Fk;cases ds.contains k&& !acc.contains k with
  |true=>exact Br (ag _ a)
  |false=>exact Br a
def Dd{l:List (Nat×Option Value)}{a:List Nat}:∀t∈Mh ds l a,t∈ds:=Be (uf (by simp))
def Na{l:List (Nat×Option Value)}{a:List Nat}(b:t∈ds)(h:ft.look l t≠none):t∈Mh ds l a:=Br (rN b h)
def D8{a:List Nat}{s:EZ a}{g:Nat->Value}{mk:List Nat}(hs:∀t∈a,t∈ds):Fr ds E (pB E ds a s g mk):=by
 intro t b;have d:t ∉ a:=λc=>b (hs t c);have e:ds.contains t=false:=by simpa using b
 unfold ft.get pB;simp only[oG d,e]
def Hk{a b:Code}(h:HN a b=true):mZ a=false:=by
 simp only[HN,ai,Bool.not_eq_true']at h;exact h.1.2
def tO{s:EZ (fV ds E.l [])}{g:Nat->Value}{mk:List Nat}:Fr ds E (pB E ds (fV ds E.l []) s g mk):=by
 intro t a;have c:t ∉ fV ds E.l []:=λb=>a (uf (by simp) t b);have d:ds.contains t=false:=by simpa using a
 unfold ft.get pB;simp only[oG c,d]
def FB{jn:Bool}:∀(c:Code) (ro:Option Nat) (Q z:Exit->ft->World->Prop) (E:ft) (w:Wt_),vc P jn ro c Q E w->
  (∀e u B,Fr (gp c) E u->(mZ c=false->u.ds=E.ds)->Q e u B->z e u B)->vc P jn ro c z E w:=by
 intro c;induction c with
 |skip=>intro ro Q z E w h d;exact d _ _ _ (.refl _ _) (λ_=>rfl) h
 |region id ops H=>
  intro ro Q z E w h d;have m:∀o∈ops.toList,∀t,o.dst=some t->t∈gp (.region id ops H):=λo ho t A=>mi.2 ⟨o,ho,A⟩;cases H with
  |false=>exact FT _ m _ _ h λu B n L hK=>d _ _ _ n (λ_=>L) hK
  |true=>exact RK m _ _ _ _ _ h λu B n L hK=>d _ _ _ n (λ_=>L) hK
 |seq a b V T=>
  intro ro Q z E w h d;simp only[vc]at h|-;cases X:jn&& HN a b with
  |true=>
   rw[X]at h;simp only[uV]at h|-;obtain⟨J,hJ,hA⟩:=h.out;simp only[ai]at X;have x:=Hk X.2;refine⟨⟨J,λs I hs g=>T ro _ _ _ I (hJ s I hs g) λe u B n m j=>d e u B (((D8 Dd).mono λt A=>de _ A).trans (n.mono λt A=>fN _ A)) (λp=>m (by simp only[mZ,gT]at p;exact p.2)) j,?_⟩⟩;refine V ro _ _ E w hA λe u B n m j=>?_;have k:Fr (gp (.seq a b)) E u:=n.mono λt A=>de _ A;cases e with
   |normal=>exact j
   |exit id=>exact d _ _ _ k (λ_=>m x) j
   |goto id=>exact d _ _ _ k (λ_=>m x) j
   |ret=>exact d _ _ _ k (λ_=>m x) j
   |panic S=>exact d _ _ _ k (λ_=>m x) j
   |outgrown=>exact d _ _ _ k (λ_=>m x) j
  |false=>
  rw[X]at h;refine V ro _ _ E w h λe E1 I hf1 hd1 j=>?_;have y:Fr (gp (.seq a b)) E E1:=hf1.mono λt A=>de _ A;have C:mZ (.seq a b)=false->E1.ds=E.ds:=λp=>hd1 (by simp only[mZ,gT]at p;exact p.1);cases e with
  |normal=>
   refine T ro _ _ E1 I j λe E2 w2 hf2 hd2 Y=>d e E2 w2 (y.trans (hf2.mono λt A=>fN _ A)) (λp=>?_) Y;rw[hd2 (by simp only[mZ,gT]at p;exact p.2),C p]
  |exit id=>exact d _ _ _ y C j
  |goto id=>exact d _ _ _ y C j
  |ret=>exact d _ _ _ y C j
  |panic S=>exact d _ _ _ y C j
  |outgrown=>exact d _ _ _ y C j
 |cond c t f iht ihf=>
  intro ro Q z E w h d;refine B9 h λb D=>?_;cases b with
  |true=>exact iht ro _ _ E w D λe u B n m j=>d e u B (n.mono λt A=>de _ A) (λp=>m (by simp only[mZ,gT]at p;exact p.1)) j
  |false=>exact ihf ro _ _ E w D λe u B n m j=>d e u B (n.mono λt A=>fN _ A) (λp=>m (by simp only[mZ,gT]at p;exact p.2)) j
 |block id c O=>
  intro ro Q z E w h d;refine O ro _ _ E w h λe u B n m j=>?_;cases e with
  |exit i=>
   simp only at j|-;cases D:Nat.beq i id<;>rw[D]at j<;>exact d _ _ _ n m j
  |normal=>exact d _ _ _ n m j
  |goto id=>exact d _ _ _ n m j
  |ret=>exact d _ _ _ n m j
  |panic S=>exact d _ _ _ n m j
  |outgrown=>exact d _ _ _ n m j
 |loop c O=>
  intro ro Q z E w h d;simp only[vc,uV]at h|-;cases x:mZ c with
  |false=>
   rw[x]at h;refine h.mono λs I K D g=>O ro _ _ _ I (D g) λe u B n m j=>?_;have k:Fr (gp (.loop c)) E u:=tO.trans n;have q:mZ (.loop c)=false->u.ds=E.ds:=λp=>m x;cases e with
   |normal=>exact j
   |exit id=>exact d _ _ _ k q j
   |goto id=>exact d _ _ _ k q j
   |ret=>exact d _ _ _ k q j
   |panic S=>exact d _ _ _ k q j
   |outgrown=>exact d _ _ _ k q j
  |true=>
   rw[x]at h;refine h.mono λs I K D g=>O ro _ _ _ I (D g) λe u B n m j=>?_;have k:Fr (gp (.loop c)) E u:=tO.trans n;have q:mZ (.loop c)=false->u.ds=E.ds:=λp=>by simp only[mZ]at p;rw[x]at p;cases p
   cases e with
   |normal=>exact j
   |exit id=>exact d _ _ _ k q j
   |goto id=>exact d _ _ _ k q j
   |ret=>exact d _ _ _ k q j
   |panic S=>exact d _ _ _ k q j
   |outgrown=>exact d _ _ _ k q j
 |rangeFunc gv ps G U _ _=>
  intro ro Q z E w h d;simp only[vc,t0,RFD]at h|-;split at h
  ·rename_i f first R hgv
   unfold R0 at h|-;have M:∀mk:List Nat,Fr (gp (.rangeFunc gv ps G U)) E {E with ds:=mk++E.ds}:=λmk t _=>rfl
   have key:∀(mk:List Nat) (F:Option Code) (W:Wt_),
     jR (λW=>Q .normal {E with ds:=mk++E.ds} W) (λW=>Q .ret {E with ds:=mk++E.ds} W) (λid W=>Q (.exit id) {E with ds:=mk++E.ds} W) F W->
     jR (λW=>z .normal {E with ds:=mk++E.ds} W) (λW=>z .ret {E with ds:=mk++E.ds} W) (λid W=>z (.exit id) {E with ds:=mk++E.ds} W) F W:=by
    intro mk F W p;unfold jR at*;split at p
    ·exact d _ _ _ (M mk) (λh=>by cases h) p
    ·exact d _ _ _ (M mk) (λh=>by cases h) p
    ·exact d _ _ _ (M mk) (λh=>by cases h) p
    ·exact p.elim
   cases ro with
   |none=>
    intro N h1 h2 Z hy;apply(h N h1 h2 Z hy).mono;rintro v W ⟨r,hr,D,ha⟩;exact⟨r,hr,D,key _ _ _ ha⟩
   |some l0=>
    obtain⟨r0,hr0,h⟩:=h;refine⟨r0,hr0,λN h1 h2 Z hy=>?_⟩;apply(h N h1 h2 Z hy).mono;rintro v W ⟨r,hr,D,ha⟩;exact⟨r,hr,D,key _ _ _ ha⟩
  ·exact h.elim
 |exit id=>intro ro Q z E w h d;exact d _ _ _ (.refl _ _) (λ_=>rfl) h
 |scope c O=>
  intro ro Q z E w h d;cases ro with
  |some l=>exact h.elim
  |none=>
   refine O none _ _ E w h λe u B n m j=>?_;cases e with
   |goto l=>exact j.elim
   |exit id=>exact d _ _ _ n m j
   |normal=>exact d _ _ _ n m j
   |ret=>exact d _ _ _ n m j
   |panic S=>exact d _ _ _ n m j
   |outgrown=>exact d _ _ _ n m j
 |label l=>intro ro Q z E w h d;exact d _ _ _ (.refl _ _) (λ_=>rfl) h
 |goto l=>intro ro Q z E w h d;exact h.elim
 |ret=>intro ro Q z E w h d;exact d _ _ _ (.refl _ _) (λ_=>rfl) h
 |refuse why=>intro ro Q z E w h d;exact h.elim
end Go.Vc
