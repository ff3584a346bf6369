/- Part of a proof. -/
import Derived.Scope
import Derived.WalkKit
import Derived.WalkLawsBesides
import Derived.RowKit3
import Derived.Laws.Cover3
import Derived.Laws.CopyRow
import Derived.Laws.Append
import Derived.Laws.MakeOwn
import Derived.Laws.IdiomStrings
import Derived.Laws.BytesString
import Derived.MapKept
import Derived.ProofKit
import Derived.ChangeReads
import Derived.OpenShut
import Derived.ChangeKeysEq
import Derived.Test.YtnfloameajanhaaGreatY1
set_option linter.all false
namespace Go.Vc
open Go Go.Vc
variable {ds mk:List Nat}{n:Nat}{F G:Nat->Prop}{P:Program}{p:Prop}{a s:Sem Value}{v:Value}{w w' :World}{K:cG}{E:jg}
def tW{E E' :jg}(h:∀t,E'.get t=E.get t):∀l,oC E' l=oC E l
 | []=>rfl
 |t::l=>by
  simp only[oC,h t];rw[tW h l]
def EM:∀{l:List Nat} {s:Oj l} {r:List (Nat×Option Value)} {g:Nat->Value} {ds:List Nat},l.Nodup->oC {l:=uW l s r,g:=g,ds:=ds} l=s
 | [],_,_,_,_,_=>rfl
 |t::l,(v,s),r,g,ds,d=>by
  obtain⟨b,d⟩:=dA.1 d;simp only[oC];refine Prod.ext ?_ ?_
  ·simp[jg.get,uW,jg.look]
  ·simp only
   have e:∀a,t ∉ a->oC {l:=uW (t::l) (v,s) r,g:=g,ds:=ds} a=oC {l:=uW l s r,g:=g,ds:=ds} a:=by
    intro a;induction a with
    |nil=>intro _;rfl
    |cons k a j=>
     intro f
     have c:Nat.beq t k=false:=by
      cases h:Nat.beq t k with
      |false=>rfl
      |true=>exact absurd (by rw[fZ h];exact cw) f
     simp only[oC];rw[j λi=>f (cu _ i)];congr 1;simp[jg.get,uW,jg.look,c]
   rw[e l b];exact EM d
def wI{ds:List Nat}:∀{l:List (Nat×Option Value)} {acc:List Nat},acc.Nodup->(jG ds l acc).Nodup
 | [],acc,h=>by simpa [jG]using h
 |(k,v)::r,acc,h=>by
  unfold jG;cases a:ds.contains k&& !acc.contains k with
  |true=>
   simp only[cL]at a;exact wI (dA.2 ⟨by simpa using a.2,h⟩)
  |false=>exact wI h
def Bq{E1 e:jg}{a:Act}(i:Fr ds E e)(c:xm n e a)(h:e.ds=mk):
  xm n (sr E ds (jG ds E.l []) (oC e (jG ds E.l [])) (λt=>a.tmps.getD t undef) mk) a:=by
 refine⟨c.size,λt=>?_,by rw[c.defs,h];rfl⟩;by_cases d:t∈ds
 ·by_cases g:t∈jG ds E.l []
  ·unfold jg.get sr;simp only[rY g];exact c.get t
  ·have b:jg.look E.l t=none:=by
    apply dU;intro f;exact g (uG d f)
   unfold jg.get sr;have:ds.contains t=true:=by simpa using d
   simp only[rH g,b,this]
 ·rw[we t d,<-i t d];exact c.get t
def IX{h:jg}{b:List Nat}{a:Act}(d:∀t∈ds,jg.look E.l t≠none->t∈b)(e:∀t∈b,t∈ds)(l:Fr ds E h)(f:xm n h a)(k:h.ds=mk):
  xm n (sr E ds b (oC h b) (λt=>a.tmps.getD t undef) mk) a:=by
 refine⟨f.size,λt=>?_,by rw[f.defs,k];rfl⟩;by_cases g:t∈ds
 ·by_cases j:t∈b
  ·unfold jg.get sr;simp only[rY j];exact f.get t
  ·have c:jg.look E.l t=none:=by
    apply dU;intro i;exact j (d t g i)
   unfold jg.get sr;have:ds.contains t=true:=by simpa using g
   simp only[rH j,c,this]
 ·rw[E0 e t g,<-l t g];exact f.get t
def CA:∀t,(sr E ds (jG ds E.l []) (oC E (jG ds E.l [])) E.g E.ds).get t=E.get t:=by
 intro t;by_cases d:t∈ds
 ·by_cases c:t∈jG ds E.l []
  ·simp only[jg.get,sr,rY c]
  ·have a:jg.look E.l t=none:=by
    apply dU;intro b;exact c (uG d b)
   have:ds.contains t=true:=by simpa using d
   simp only[jg.get,sr,rH c,this,a]
 ·exact we t d
def BI{s:Oj (jG ds E.l [])}{g:Nat->Value}:oC (sr E ds (jG ds E.l []) s g mk) (jG ds E.l [])=s:=
 EM (wI nB)
def Yv(a:Act):jg:={l:=[],g:=λt=>a.tmps.getD t undef,ds:=a.defers.map λd=>match d.target with| .collected r=>r|_=>0}
def xm.actE{a:Act}(h:xm n E a):(∀t,(Vc.Yv a).get t=E.get t)/\(Vc.Yv a).ds=E.ds:=by
 refine⟨h.get,?_⟩;unfold Vc.Yv;simp only;rw[h.defs,dQ]
 conv=>rhs;rw[<-iP E.ds]
 exact dt λ_ _=>rfl
def BX(g:wV P=true){f:FuncId}{a:Array Value}{w w1:World}{K:cG}(h:Ca P f a w K):
  (callFunc f a).run P w1=.ok (.enter f a) w1:=by
 obtain⟨fn,e,i⟩:=h.bodied
 have d:(fn.name== "runtime.NumGoroutine")=false:=by
  have:=(nh.1 g) fn (Array.mem_of_getElem? e);simpa using this
 have b:¬fn.name= "runtime.NumGoroutine" :=by simpa using d
 have c:¬fn.body=none:=by grind
 unfold callFunc;simp[fE,Result.andThen,e,b,c]
def CS{n:Nat}:∀(f:List Nat) (i:Nat) (b:List Value) (E:jg) (c:Array Value),(f.all λd=>Nat.blt d n)=true->b.length=i+f.length->xm n E {tmps:=c,defers:=[]}->
  xm n {E with l:=yC f i b E.l} {tmps:=(f.zip (b.drop i)).foldl (λc (t,a)=>c.setIfInBounds t a) c,defers:=[]}
 | [],_,_,E,c,_,_,h=>by simpa [yC]using h
 |t::f,i,b,E,c,e,g,h=>by
  simp only[qq,cL]at e;simp only[dc]at g;have j:i<b.length:=qZ;have k:=fF j;have m:b.getD i undef=b[i]:=by simp[j]
  have o:xm n (E.put (some t) b[i]) (({tmps:=c,defers:=[]}:Act).put (some t) b[i]):=h.put (d:=some t) e.1 _;have:=CS f (i+1) b (E.put (some t) b[i]) (c.setIfInBounds t b[i]) e.2 qZ o;rw[k];simpa only[yC,jg.put,m,List.zip_cons_cons,ig]using this
def NX(d:Array Nat)(c:List Value)(b:Array Value):
  (d.zip ⟨c⟩).foldl (λb (t,a)=>b.setIfInBounds t a) b=(d.toList.zip c).foldl (λb (t,a)=>b.setIfInBounds t a) b:=by
 rw[<-Array.foldl_toList];simp
def yb{l0:Nat}{r:Loop}(h:w.heap[l0]? =some (.loop r))(fn:FuncId)(tmps:Array Value)(a:Array Tmp)(assign body:Code):
  (Instr.enterLoop fn tmps a assign body (some l0)).run P w=
   .ok (w.heap.size,[]) (w.alloc (.loop {state:=.ready,pending:=none,fn,tmps,params:=a,assign,body,defers:=r.defers})):=by
 unfold Instr.enterLoop;simp only[fE,run_getLoop h,Result.andThen,ly,run_newObj_alloc]
def PH{jn:Bool}(hP:wV P=true){n:Nat}:∀c B Q H E a w,
  IS P n c=true->xm n E a->(∀e E a w,xm n E a->Q e E w->H e a w)->vc P jn B c Q E w->c.wpIn (FR B) 0 P H a w:=by
 intro c;induction c with
 |skip=>intro B Q H E a w _ A p h;exact wpIn_skip (p _ _ _ _ A h)
 |region id R draw=>
  intro B Q H E a w q A p h;simp only[IS,cL]at q;cases draw with
  |false=>exact wpIn_region_list (Fi (ops:=R.toList) hP (p .normal) R.toList q.1 E a w A h)
  |true=>
   have V:=q.2;simp only[mL,jz,cL]at V;apply wpIn_region_any V.1
   have:=NC (ro:=B) (ops:=R.toList) hP V.2 q.1 (p .normal) R.size [] [] [] [] E a w.drew (R.toList.length+1) (Array.replicate R.size false)
    ⟨(λi=>by simp),(λi hi=>by cases hi),nB,trivial,(λi hi=>by cases hi),A.size,A.defs,(λt _=>A.get t),(λi hi=>by cases hi)⟩
    (λi hi=>by simp at hi;simp[hi]) (by simp) (by simp) (by grind) h
   simpa using this
 |seq x y ihx ihy=>
  intro B Q H E a w q A p h;simp only[IS,cL]at q;simp only[vc]at h;cases hj:jn&& H8 x y with
  |true=>
   rw[hj]at h;simp only[xe]at h;obtain⟨J,hJ,hA⟩:=h.out;simp only[cL]at hj;have hrf:=HC hj.2
   have hA' :=Gk x B _ (λe L T=>(match e with| .normal=>J (oC L (L3 (kn x) E.l (vi y))) T|e=>Q e L T)/\Fr (kn x) E L/\L.ds=E.ds) _ w hA
    (λe L T X hd o=>⟨by grind,X,hd hrf⟩)
   refine wpIn_seq (ihx B _ _ E a w q.1 A (λe E1 Y u k o=>?_) hA');obtain⟨o,X,hd⟩:=o;cases e with
   |normal=>exact ihy B Q H _ Y u q.2 (IX (λt ht hne=>MK ht hne) Eb X k hd) p (hJ _ _ o _)
   |exit id=>exact p _ _ _ _ k o
   |goto id=>exact p _ _ _ _ k o
   |ret=>exact p _ _ _ _ k o
   |panic ch=>exact p _ _ _ _ k o
   |outgrown=>exact p _ _ _ _ k o
  |false=>
  rw[hj]at h;refine wpIn_seq (ihx B _ _ E a w q.1 A (λe E1 Y u k o=>?_) h);cases e with
  |normal=>exact ihy B Q H E1 Y u q.2 k p o
  |exit id=>exact p _ _ _ _ k o
  |goto id=>exact p _ _ _ _ k o
  |ret=>exact p _ _ _ _ k o
  |panic ch=>exact p _ _ _ _ k o
  |outgrown=>exact p _ _ _ _ k o
 |cond c t f iht ihf=>
  intro B Q H E a w q A p h;simp only[IS,cL]at q;simp only[vc,Gz]at h;split at h
  ·rename_i b U
   have hb' :a.eval c=.bool b:=by rw[A.ev];exact U
   cases b with
   |true=>exact wpIn_cond hb' (iht B Q H E a w q.1 A p h)
   |false=>exact wpIn_cond hb' (ihf B Q H E a w q.2 A p h)
  ·exact h.elim
 |block id c ih=>
  intro B Q H E a w q A p h;refine wpIn_block (ih B _ _ E a w q A (λe E1 Y u k o=>?_) h);cases e with
  |exit i=>
   simp only at o;cases U:Nat.beq i id with
   |true=>
    rw[U]at o;simp only[bc]at o;simp only[Exit.inBlock,fZ U,fh];exact p _ _ _ _ k o
   |false=>
    rw[U]at o;have hne:¬i=id:=λe=>by subst e;simp at U
    simp only[Exit.inBlock,hne,eW];exact p _ _ _ _ k o
  |normal=>exact p _ _ _ _ k o
  |goto id=>exact p _ _ _ _ k o
  |ret=>exact p _ _ _ _ k o
  |panic ch=>exact p _ _ _ _ k o
  |outgrown=>exact p _ _ _ _ k o
 |loop c ih=>
  intro B Q H E a w q A p h;simp only[vc,xe]at h;cases hrf:qm c with
  |false=>
   rw[hrf]at h;obtain⟨I,m,h0,h1⟩:=h.out
   refine wpIn_loop (λa w=>∃s g,xm n (sr E (kn c) (jG (kn c) E.l []) s g E.ds) a/\I s w) (λa w=>m (oC (Yv a) (jG (kn c) E.l [])) w)
    ⟨_,E.g,A.of_get CA rfl,h0⟩ ?_
   rintro Y u ⟨s,g,k,hI⟩
   have U:=Gk c B _ (λe L T=>(match e with| .normal=>I (oC L (jG (kn c) E.l [])) T/\m (oC L (jG (kn c) E.l [])) T<m s u|e=>Q e L T)/\Fr (kn c) E L/\L.ds=E.ds) _ u (h1 s u hI g)
    (λe L T X hd o=>⟨by grind,we.trans X,hd hrf⟩)
   refine ih B _ _ _ Y u q k (λe E2 a2 w2 z o=>?_) U;obtain⟨o,X,hd⟩:=o;cases e with
   |normal=>
    refine⟨⟨_,_,Bq (E1:=E) X z hd,o.1⟩,?_⟩;rw[tW (z.actE.1),tW (k.actE.1),BI];exact o.2
   |exit id=>exact p _ _ _ _ z o
   |goto id=>exact p _ _ _ _ z o
   |ret=>exact p _ _ _ _ z o
   |panic ch=>exact p _ _ _ _ z o
   |outgrown=>exact p _ _ _ _ z o
  |true=>
   rw[hrf]at h;obtain⟨I,m,h0,h1⟩:=h.out
   refine wpIn_loop (λa w=>∃s g,xm n (sr E (kn c) (jG (kn c) E.l []) s.1 g s.2) a/\I s w) (λa w=>m (oC (Yv a) (jG (kn c) E.l []),(Yv a).ds) w)
    ⟨(_,E.ds),E.g,A.of_get CA rfl,h0⟩ ?_
   rintro Y u ⟨s,g,k,hI⟩
   have U:=Gk c B _ (λe L T=>(match e with| .normal=>I (oC L (jG (kn c) E.l []),L.ds) T/\m (oC L (jG (kn c) E.l []),L.ds) T<m s u|e=>Q e L T)/\Fr (kn c) E L) _ u (h1 s u hI g)
    (λe L T X hd o=>⟨by grind,we.trans X⟩)
   refine ih B _ _ _ Y u q k (λe E2 a2 w2 z o=>?_) U;obtain⟨o,X⟩:=o;cases e with
   |normal=>
    refine⟨⟨(_,E2.ds),_,Bq (E1:=E) X z rfl,o.1⟩,?_⟩;rw[tW (z.actE.1),tW (k.actE.1),BI,z.actE.2,k.actE.2];exact o.2
   |exit id=>exact p _ _ _ _ z o
   |goto id=>exact p _ _ _ _ z o
   |ret=>exact p _ _ _ _ z o
   |panic ch=>exact p _ _ _ _ z o
   |outgrown=>exact p _ _ _ _ z o
 |rangeFunc gv ps assign body iha ihb=>
  intro B Q H E a w q A p h;simp only[IS,cL]at q;obtain⟨⟨hps,hoka⟩,hokb⟩:=q;simp only[vc,wu,RFD]at h;split at h
  ·rename_i f first j hgv
   have hgv' :a.eval gv=.func (.func f) first j:=by rw[A.ev];exact hgv
   have main:∀(u:World) (D:Nat) (mk:List Nat) (fn:FuncId),
     (∀rec:Loop,rec.state=.ready->rec.pending=none->rec.defers=D->
      (∀(C:List Value) (W:World) (K:cG),C.length=ps.toList.length->P9 W u.heap.size rec->
       vc P jn (some u.heap.size) assign (λe E W=>match e with
        | .normal=>lC u.heap.size W λW=>vc P jn (some u.heap.size) body (λe _ W=>match e with
         | .normal=>∃r,wU W u.heap.size r/\K (.bool true) (W.putObj u.heap.size (.loop {r with state:=.ready,pending:=none}))
         | .ret=>∃r,wU W u.heap.size r/\K (.bool false) (W.putObj u.heap.size (.loop {r with state:=.done,pending:=some .ret}))
         | .exit id=>∃r,wU W u.heap.size r/\K (.bool false) (W.putObj u.heap.size (.loop {r with state:=.done,pending:=some (.exit id)}))
         |_=>False) E W
        |_=>False) {E with l:=yC ps.toList 0 C E.l,ds:=[]} W->
       Yl P u.heap.size ⟨C⟩ W K)->
      Ca P f ⟨first.toList++(.func (.yield u.heap.size) #[] #[]::j.toList)⟩ (u.alloc (.loop rec)) λ_ W=>
       ∃r,wU W u.heap.size r/\r.state≠ .busy/\iJ (λW=>Q .normal {E with ds:=mk++E.ds} W) (λW=>Q .ret {E with ds:=mk++E.ds} W)
        (λid W=>Q (.exit id) {E with ds:=mk++E.ds} W) r.pending (W.putObj u.heap.size (.loop {r with state:=.exhausted})))->
     let rc:Loop:={state:=.ready,pending:=none,fn,tmps:=a.tmps,params:=ps,assign,body,defers:=D}
     let a' :Act:={a with defers:=(mk.map λd=>{target:=.collected d,args:=#[]})++a.defers}
     CallsIn (FR B) 0 P f ⟨first.toList++(.func (.yield u.heap.size) #[] #[]::j.toList)⟩ (u.alloc (.loop rc)) (rangePost (FR B) 0 P u.heap.size H a')/\
      ∀w2,(callFunc f ⟨first.toList++(.func (.yield u.heap.size) #[] #[]::j.toList)⟩).run P w2=.ok (.enter f ⟨first.toList++(.func (.yield u.heap.size) #[] #[]::j.toList)⟩) w2:=by
    intro u D mk fn hh rc a'
    have hca:=hh rc rfl rfl rfl (λC W K hlen hrec hrnd=>by
     obtain⟨st,pend,hat⟩:=hrec;refine⟨_,_,_,_,run_yield hat (by simpa using hlen),?_⟩;apply roundIn_of_wpIn (F:=Fence.wide) trivial
     have hrel:xm n {E with l:=yC ps.toList 0 C E.l,ds:=[]} {tmps:=(ps.zip ⟨C⟩).foldl (λO (t,a)=>O.setIfInBounds t a) a.tmps,defers:=[]}:=by
      rw[NX];exact CS ps.toList 0 C {E with ds:=[]} a.tmps hps (by simpa using hlen) ⟨A.size,A.get,rfl⟩
     refine iha (some u.heap.size) _ _ _ _ W hoka hrel (λe E1 Y W1 k o=>?_) hrnd;cases e with
     |normal=>
      obtain⟨r,hra,hst,hbody⟩:=o.out;refine⟨_,run_beginRound hra hst,?_⟩;refine ihb (some u.heap.size) _ _ E1 Y _ hokb k (λe E2 a2 W2 z S=>?_) hbody;cases e with
      |normal=>
       obtain⟨r2,N,hK⟩:=S;exact⟨_,_,run_endRound none N,_,rfl,hK⟩
      |ret=>
       obtain⟨r2,N,hK⟩:=S;exact⟨_,_,run_endRound _ N,_,rfl,hK⟩
      |exit id=>
       obtain⟨r2,N,hK⟩:=S;exact⟨_,_,run_endRound _ N,_,rfl,hK⟩
      |goto id=>exact S.elim
      |panic ch=>exact S.elim
      |outgrown=>exact S.elim
     |exit id=>exact o.elim
     |goto id=>exact o.elim
     |ret=>exact o.elim
     |panic ch=>exact o.elim
     |outgrown=>exact o.elim)
    refine⟨FR.calls (nM hca.out ?_),λw2=>BX hP hca⟩;rintro e W ⟨v,rfl,r,hra,U,M⟩;refine⟨_,_,run_endLoop hra U,?_⟩;have hr' :xm n {E with ds:=mk++E.ds} a' :=⟨A.size,A.get,by simp only[a',A.defs,dy]⟩
    generalize W.putObj u.heap.size (.loop {r with state:=.exhausted})=W4 at M|-;unfold iJ at M;split at M
    ·grind
    ·rename_i hp;rw[hp];exact wpIn_ret (p _ _ _ _ hr' M)
    ·rename_i hp;rw[hp];exact wpIn_exit (p _ _ _ _ hr' M)
    ·exact M.elim
   refine wpIn_rangeFunc λfn _=>?_
   have hinv:∀l,(do let d<-resolve a.eval (rangeCall gv l) 0;invoke d.target d.args:Sem Next)=callFunc f ⟨first.toList++(.func (.yield l) #[] #[]::j.toList)⟩:=by
    intro l;have e1:resolve a.eval (rangeCall gv l) 0=Deferred.ofValue (a.eval gv) #[.func (.yield l) #[] #[]]:=by simp[resolve,Act.eval]
    rw[e1,hgv'];have e2:(do let d<-Deferred.ofValue (.func (.func f) first j) #[.func (.yield l) #[] #[]];invoke d.target d.args:Sem Next)=callFunc f (first++ #[.func (.yield l) #[] #[]]++j):=rfl;rw[e2];congr 1;apply nQ;simp
   have hres:∀l u,(resolve a.eval (rangeCall gv l) 0).run P u=.ok {target:=.fn (.func f) j,args:=first++ #[.func (.yield l) #[] #[]]} u:=by
    intro l u;have e1:resolve a.eval (rangeCall gv l) 0=Deferred.ofValue (a.eval gv) #[.func (.yield l) #[] #[]]:=by simp[resolve,Act.eval]
    rw[e1,hgv'];rfl
   have hinv2:∀l,(invoke (.fn (.func f) j) (first++ #[.func (.yield l) #[] #[]]):Sem Next)=callFunc f ⟨first.toList++(.func (.yield l) #[] #[]::j.toList)⟩:=by
    intro l;have e2:(invoke (.fn (.func f) j) (first++ #[.func (.yield l) #[] #[]]):Sem Next)=callFunc f (first++ #[.func (.yield l) #[] #[]]++j):=rfl;rw[e2];congr 1;apply nQ;simp
   cases B with
   |none=>
    have hm:=main (w.alloc (.deferred (some []))) w.heap.size [w.heap.size] fn h;obtain⟨W1,Z⟩:=dW ((w.alloc (.deferred (some []))).alloc (.loop {state:=.ready,pending:=none,fn,tmps:=a.tmps,params:=ps,assign,body,defers:=w.heap.size}));have hm1:=hm.1;have hm2:=hm.2 W1;rw[eG]at hm1 hm2;refine⟨w.heap.size+1,[{target:=.collected w.heap.size,args:=#[]}],W1,_,W1,f,⟨first.toList++(.func (.yield (w.heap.size+1)) #[] #[]::j.toList)⟩,W1,?_,hres _ _,λ_ _=>FR.fn none _,?_,(λhh=>by rw[FR.depth]at hh;cases hh),?_⟩
    ·rw[Z];exact run_enterLoop_outer fn a.tmps ps assign body
    ·rw[hinv2];exact hm2
    ·rw[Z];exact hm1
   |some l0=>
    obtain⟨r0,hr0,h⟩:=h;have hm:=main w r0.defers [] fn h;obtain⟨W1,Z⟩:=dW (w.alloc (.loop {state:=.ready,pending:=none,fn,tmps:=a.tmps,params:=ps,assign,body,defers:=r0.defers}));refine⟨w.heap.size,[],W1,_,W1,f,⟨first.toList++(.func (.yield w.heap.size) #[] #[]::j.toList)⟩,W1,?_,hres _ _,λ_ _=>FR.fn (some l0) _,?_,(λhh=>by rw[FR.depth]at hh;cases hh),?_⟩
    ·rw[FR.round,Z];exact yb hr0 fn a.tmps ps assign body
    ·grind
    ·rw[Z];exact hm.1
  ·exact h.elim
 |exit id=>intro B Q H E a w _ A p h;exact wpIn_exit (p _ _ _ _ A h)
 |scope c ih=>
  intro B Q H E a w q A p h;cases B with
  |some l=>exact h.elim
  |none=>
   refine wpIn_wide.2 (wp_scope_straight ((wpIn_wide (n:=0)).1 ?_));refine ih none (λe E w=>match e with| .goto _=>False|e=>Q e E w) (Exit.noGoto H) E a w q A (λe E1 Y u k o=>?_) h;cases e with
   |goto l=>exact o.elim
   |exit id=>exact p _ _ _ _ k o
   |normal=>exact p _ _ _ _ k o
   |ret=>exact p _ _ _ _ k o
   |panic ch=>exact p _ _ _ _ k o
   |outgrown=>exact p _ _ _ _ k o
 |label l=>intro B Q H E a w _ A p h;exact wpIn_label (p _ _ _ _ A h)
 |goto l=>intro B Q H E a w _ A p h;exact h.elim
 |ret=>intro B Q H E a w _ A p h;exact wpIn_ret (p _ _ _ _ A h)
 |refuse why=>intro B Q H E a w _ A p h;exact h.elim
def lj:List Nat->World->(World->Prop)->Prop
 | [],w,K=>K w
 |d::ds,w,K=>w.heap[d]? =some (.deferred (some []))/\lj ds (w.putObj d (.deferred none)) K
def Fh(P:Program):List ResultVar->jg->World->(List Value->Prop)->Prop
 | [],_,_,K=>K []
 | .tmp t::r,E,w,K=>Fh P r E w λvs=>K (E.get t::vs)
 | .cell a t::r,E,w,K=>match DU P t with
  |true=>pS P (fH t (E.get a)) w λv=>Fh P r E w λvs=>K (v::vs)
  |false=>uc P (Instr.loadAt t (E.get a)) w λv=>Fh P r E w λvs=>K (v::vs)
def Hj:List Value->Value
 | [v]=>v
 |vs=>.tuple ⟨vs⟩
def EB:Nat->List Value->List (Nat×Option Value)
 |_,[]=>[]
 |i,v::r=>(i,some v)::EB (i+1) r
def O4(P:Program)(jn:Bool)(fn:Func)(args:List Value)(w:World)(K:cG):Prop:=
 match fn.body with
 |none=>False
 |some c=>vc P jn none c (λe E w=>match e with
   | .normal=>lj E.ds w λw=>Fh P fn.results.toList E w λvs=>K (Hj vs) w
   | .ret=>lj E.ds w λw=>Fh P fn.results.toList E w λvs=>K (Hj vs) w
   |_=>False) {l:=EB 0 args,g:=λ_=>undef,ds:=[]} w
def VH(P:Program)(fn:Func)(args:List Value)(w:World)(K:cG):Prop:=O4 P true fn args w K
def okF(P:Program)(fn:Func)(k:Nat):Bool:=
 Nat.ble k fn.ntmps&& match fn.body with
 |none=>false
 |some c=>IS P fn.ntmps c
def DG(t:Nat):∀l i,jg.look (EB i l) t=if i<=t then(l[t - i]?).map some else none
 | [],i=>by simp[EB,jg.look]
 |v::r,i=>by
  simp only[EB,jg.look];cases a:Nat.beq i t with
  |true=>have:=fZ a;subst this;simp
  |false=>
   have b:i≠t:=λe=>by subst e;simp at a
   simp only[cond_false];rw[DG t r (i+1)];by_cases h:i+1<=t
   ·grind
   ·grind
def Ms(a:List Value)(n:Nat)(h:a.length<=n):
  xm n {l:=EB 0 a,g:=λ_=>undef,ds:=[]} {tmps:=(⟨a⟩:Array Value)++Array.replicate (n - a.length) undef,defers:=[]}:=by
 refine⟨by simp;omega,λt=>?_,rfl⟩;unfold jg.get;rw[DG];simp only[nY,fh,lz];by_cases b:t<a.length
 ·rw[jS,Array.getElem?_append_left (by simpa using b)];simp[cE b]
 ·rw[ky qZ];rw[jS,Array.getElem?_append_right (by grind)];simp only[Option.map_none];cases c:(Array.replicate (n - a.length) undef)[t - (⟨a⟩:Array Value).size]? with
  |none=>rfl
  |some v=>
   have:=(js.1 c).2;simp at this;simp[this]
def DC(tmps:Array Value):ResultVar->Sem Value
 | .tmp t=>pure (tmps.getD t undef)
 | .cell a t=>do loadVar t (<-asAddr (tmps.getD a undef))
def Dw{P:Program}{b:Array Value}{E:jg}{w:World}(e:∀t,b.getD t undef=E.get t):∀l K,Fh P l E w K->
  ∃c,(l.mapM (DC b)).run P w=.ok c w/\K c
 | [],K,h=>⟨[],rfl,h⟩
 | .tmp t::r,K,h=>by
  obtain⟨c,g,f⟩:=Dw e r _ h;refine⟨_,?_,f⟩;have i:(DC b (.tmp t)).run P w=.ok (E.get t) w:=by rw[<-e];rfl
  simp only[sh,fE,ly,Result.andThen,i,g]
 | .cell a t::r,K,h=>by
  have h:uc P (Instr.loadAt t (E.get a)) w λv=>Fh P r E w λc=>K (v::c):=by
   simp only[Fh]at h;cases k:DU P t with
   |true=>rw[k]at h;exact h.out
   |false=>rw[k]at h;exact h
  simp only[Am,Hl]at h;split at h
  ·rename_i v j d
   obtain⟨rfl,h⟩:=h;obtain⟨c,g,f⟩:=Dw e r _ h;refine⟨_,?_,f⟩
   have i:(DC b (.cell a t)).run P j=.ok v j:=by
    have m:DC b (.cell a t)=(do loadVar t (<-asAddr (b.getD a undef))):=rfl;rw[m,e];unfold Instr.loadAt at d;cases n:E.get a<;>rw[n]at d<;>first|(simp[Instr.sureAddr,stuck,fE,Sem.run,Result.andThen]at d;done)|skip
    rename_i p
    cases p with
    |none=>simp[Instr.sureAddr,stuck,fE,Sem.run,Result.andThen]at d
    |some p=>
     simp only[Instr.sureAddr,asAddr,fE,ly,Result.andThen]at d|-;exact d
   simp only[sh,fE,ly,Result.andThen,i,g]
  ·exact h.elim
def Kf(fn:Func)(a:Array Value):results fn a=(do
  let b<-fn.results.mapM (DC a)
  pure (if h:b.size=1 then b[0]else .tuple b)):=by
 unfold results;congr 1
def AU{P:Program}{fn:Func}{a:Array Value}{E:jg}{K:cG}(c:∀t,a.getD t undef=E.get t):∀ds w,
  lj ds w (λw=>Fh P fn.results.toList E w λb=>K (Hj b) w)->
  LeavesInM Fence.wide 0 P fn a (λe f=>∃v,e=.returned v/\K v f) (ds.map λd=>{target:=.collected d,args:=#[]}) .returning w
 | [],w,h=>by
  obtain⟨b,i,g⟩:=Dw c _ _ h;refine⟨Hj b,?_,_,rfl,g⟩;rw[Kf,Array.mapM_eq_mapM_toList];simp only[fE,Sem.run_map,i,Result.andThen,ly];congr 1
  match b with
  | []=>rfl
  | [v]=>rfl
  |v::u::r=>simp[Hj]
 |d::ds,w,h=>by
  refine⟨by simp,.inl ⟨d,_,rfl,run_takeDeferred h.1,AU c ds _ h.2⟩⟩
def MC{o:Bool}(q:wV P=true){f:FuncId}{fn:Func}{b:List Value}{w:World}{K:cG}(p:P.funcs[f]? =some fn)(d:okF P fn b.length=true)
  (h:O4 P o fn b w K):Ca P f ⟨b⟩ w K:=by
 unfold okF at d;unfold O4 at h;simp only[cL]at d;obtain⟨i,d⟩:=d;cases m:fn.body with
 |none=>rw[m]at h;exact h.elim
 |some c=>
  rw[m]at h d;refine⟨(callsIn_wide (n:=0)).1 (callsIn_of_wp_marks p m trivial ?_ rfl)⟩;have j:=Ms b fn.ntmps (by simpa [Nat.ble_eq]using i);refine PH (n:=fn.ntmps) q c none _ _ _ _ w d j (λe E a r l g=>?_) h;cases e with
  |normal=>have k:=AU (K:=K) l.get _ _ g;rw[<-l.defs]at k;exact k
  |ret=>have k:=AU (K:=K) l.get _ _ g;rw[<-l.defs]at k;exact k
  |exit id=>exact g.elim
  |goto id=>exact g.elim
  |panic s=>exact g.elim
  |outgrown=>exact g.elim
def NY(d:wV P=true){f:FuncId}{fn:Func}{a:List Value}{w:World}{K:cG}(c:P.funcs[f]? =some fn)(b:okF P fn a.length=true)
  (h:VH P fn a w K):Ca P f ⟨a⟩ w K:=MC d c b h
@[simp,go_sem] theorem cy (b:Bool) (T F:Prop):cV (.bool b) T F↔if b=true then T else F:=by cases b<;>simp[cV,Gz,bc]
def kx(A B:Prop):cV (.bool true) A B=A:=by rw[cy,bZ rfl]
def gP(A B:Prop):cV (.bool false) A B=B:=by rw[cy,aZ gL]
def qo  [Decidable p]{A B:Prop}(h:p):cV (.bool (decide p)) A B=A:=by rw[cy,bZ (db h)]
def DN  [Decidable p]{A B:Prop}(h:¬p):cV (.bool (decide p)) A B=B:=by rw[cy,aZ (by rw[dN];exact h)]
@[simp,go_sem] theorem ac5 (b:Bool) (K:Bool->Prop):Gz (.bool b) K↔K b:=fd
@[simp,go_sem] theorem dr (a:Addr) (K:Value->Prop):ez (.pointer (some a)) K↔K (.pointer (some a)):=fd
@[simp,go_sem] theorem aF0 (b:Bool) (T F:Prop):bc b T F↔if b=true then T else F:=by cases b<;>simp[bc]
@[simp,go_sem] theorem as9 (b:Bool) (x y:Value):Uv b x y=if b=true then x else y:=by cases b<;>rfl
def Ru(c:s=a)(b:w=w'):rv P s w K=rv P a w' K:=by rw[c,b]
def Ph{s a:Sem Unit}{K:World->Prop}(c:s=a)(b:w=w'):ru P s w K=ru P a w' K:=by rw[c,b]
def QF{s a:Sem Next}(c:s=a)(b:w=w'):rn P s w K=rn P a w' K:=by rw[c,b]
def Oa{K:Value->Prop}(c:s=a)(b:w=w'):uc P s w K=uc P a w' K:=by rw[c,b]
def Nw{K:Value->Prop}(b:s=a):wS P s K=wS P a K:=by rw[b]
def SF{f:FuncId}{a b:Array Value}(d:a=b)(c:w=w'):Ca P f a w K=Ca P f b w' K:=by rw[d,c]
def HU{f c:Value}{a b:List Value}(g:f=c)(e:a=b)(d:w=w'):iv P f a w K=iv P c b w' K:=by rw[g,e,d]
def J0{a:Value}{K:Value->Prop}(h:v=a):ez v K=ez a K:=by rw[h]
def ND{a:Value}{K:Bool->Prop}(h:v=a):Gz v K=Gz a K:=by rw[h]
def Mf{a:Value}{T F:Prop}(h:v=a):cV v T F=cV a T F:=by rw[h]
def Ic{S:Type}{body:S->World->(S->World->Prop)->Prop}{s a:S}(c:s=a)(b:w=w'):lG body s w=lG body a w' :=by rw[c,b]
def Pg(c:s=a)(b:w=w'):rx P s w K=rx P a w' K:=by rw[c,b]
def Mk{s a:Sem Unit}{K:World->Prop}(c:s=a)(b:w=w'):nj P s w K=nj P a w' K:=by rw[c,b]
def NH{K:Value->Prop}(c:s=a)(b:w=w'):pS P s w K=pS P a w' K:=by rw[c,b]
def JV{K:Value->Prop}(b:s=a):DS P s K=DS P a K:=by rw[b]
attribute [congr] Pg Mk NH JV Ru Ph QF Oa Nw SF HU J0 ND Mf Ic
attribute [go_sem] FN Yq Fo XO sN Ol Am Hl Tt Yb qE eqG
@[go_sem] theorem kE {P:Program} {f:FuncId} {first a:Array Value} {b:List Value} {w:World} {K:cG}:iv P (.func (.func f) first a) b w K↔Ca P f ⟨first.toList++(b++a.toList)⟩ w K:=oe
def Dx(P:Program)(t:TypeId):Bool:=match P.underlying t with|some (.map ..)=>true|_=>false
def Aj(P:Program)(t:TypeId):Bool:=match P.underlying t with|some (.slice ..)=>true|_=>false
@[go_sem] theorem yL {P:Program} {t:TypeId}:Dx P t=true↔∃k e,P.underlying t=some (.map k e):=by
 unfold Dx;split<;>simp_all
@[go_sem] theorem zL {P:Program} {t:TypeId}:Aj P t=true↔∃e,P.underlying t=some (.slice e):=by
 unfold Aj;split<;>simp_all
@[go_sem] theorem RE {P:Program} {w:World} (t:TypeId) (m:Option Nat) (h:Dx P t=true):(binOp .eql t (.map m) (.map none)).run P w=.ok (.bool m.isNone) w:=by
 obtain⟨k,e,h⟩:=yL.1 h;simp only[binOp];simp[run_equal_map_nil w t k e m h]
@[go_sem] theorem Qp {P:Program} {w:World} (t:TypeId) (m:Option Nat) (h:Dx P t=true):(binOp .neq t (.map m) (.map none)).run P w=.ok (.bool (!m.isNone)) w:=by
 obtain⟨k,e,h⟩:=yL.1 h;simp only[binOp];simp[run_equal_map_nil w t k e m h]
@[go_sem] theorem Mo {P:Program} {w:World} (t:TypeId) (a:Option Addr) (l c:Nat) (h:Aj P t=true):(binOp .eql t (.slice a l c) (.slice none 0 0)).run P w=.ok (.bool a.isNone) w:=by
 obtain⟨e,h⟩:=zL.1 h;simp only[binOp];simp[run_equal_slice_nil w t e a l c h]
@[go_sem] theorem NJ {P:Program} {w:World} (t:TypeId) (a:Option Addr) (l c:Nat) (h:Aj P t=true):(binOp .neq t (.slice a l c) (.slice none 0 0)).run P w=.ok (.bool (!a.isNone)) w:=by
 obtain⟨e,h⟩:=zL.1 h;simp only[binOp];simp[run_equal_slice_nil w t e a l c h]
@[go_sem] theorem Xh {P:Program} {w:World} (t:TypeId):(Instr.makeMap t none).run P w=.ok (.map (some w.heap.size)) (w.alloc (.map #[] 0)):=by
 simp[Instr.makeMap]
@[go_sem] theorem Om {P:Program} {w:World} (t:TypeId) (k:IntKind) (n:Int) (h:Dx P t=true):(Instr.makeMap t (some (.int k n))).run P w=.ok (.map (some w.heap.size)) (w.alloc (.map #[] 0)):=by
 obtain⟨k,e,h⟩:=yL.1 h;simp[Instr.makeMap,dx h,asInt,asIntOf,Result.andThen]
def FE(o:Option Obj)(i:Nat)(v:Value):Option Obj:=
 match o with
 |some (.cells c t fz)=>some (.cells (c.setIfInBounds i v) t fz)
 |o=>o
@[simp] theorem iK (c:Array Value) (t:TypeId) (fz:Nat×Nat) (i:Nat) (v:Value):FE (some (.cells c t fz)) i v=some (.cells (c.setIfInBounds i v) t fz):=rfl
def nL(w:World)(b i:Nat)(v:Value)(a:Nat):(w.setCell ⟨b,i,none⟩ v).heap[a]? =if a=b then FE w.heap[b]? i v else w.heap[a]? :=by
 unfold World.setCell;simp only[Option.isSome_none,dE,eW];rw[nT];by_cases h:b=a
 ·subst h;simp only[fh];cases c:w.heap[b]? with
  |none=>rfl
  |some o=>cases o<;>rfl
 ·grind
def gy(w:World)(o:Obj)(a:Nat):(w.alloc o).heap[a]? =if a=w.heap.size then some o else w.heap[a]? :=by
 show(w.heap.push o)[a]? =_;rw[Array.getElem?_push]
def fY(w:World)(b:Nat)(o:Obj)(c:Nat):(w.putObj b o).heap[c]? =if c=b then(w.heap[b]?).map (λ_=>o)else w.heap[c]? :=by
 unfold World.putObj;simp only;rw[Array.getElem?_setIfInBounds];by_cases h:b=c
 ·subst h;simp only[fh];by_cases a:b<w.heap.size
  ·simp[a]
  ·simp[a]
 ·grind
def wt(w:World)(a:Addr)(v:Value):(w.setCell a v).heap.size=w.heap.size:=by simp[World.setCell]
def cB{b:Nat}{o:Obj}(h:w.heap[b]? =some o):b<w.heap.size:=(js.1 h).1
def hp(w:World)(b:Nat):Option Obj:=w.heap[b]?
@[simp] abbrev hC (w:World) (b:Nat) (x:Array Value) (t:TypeId):Prop:=hp w b=some (.cells x t (0,0))
def py{q:Prop} [Decidable p] [Decidable q](h:decide p=true:=by decide)(g:decide q=true:=by decide):p/\q:=⟨dR h,dR g⟩
def fy{b:Nat}{o:Option Obj}(h:w.heap[b]? =o):hp w b=o:=h
@[go_sem] theorem at0 (w:World) (a:Addr):w.cell? a=match hp w a.block with|some (.cells c _ _)=>if a.spot.isSome then none else c[a.off]? |_=>none:=rfl
@[go_sem] theorem Zd (w:World) (a:Addr):w.frozen? a=match hp w a.block with|some (.cells _ _ (b,c))=>b<=a.off&& a.off<c|_=>false:=rfl
@[go_sem] theorem nO (w:World) (b i:Nat) (v:Value) (a:Nat):hp (w.setCell ⟨b,i,none⟩ v) a=if a=b then FE (hp w b) i v else hp w a:=nL w b i v a
@[go_sem] theorem SD (w:World) (o:Obj) (a:Nat):hp (w.alloc o) a=if a=w.heap.size then some o else hp w a:=gy w o a
@[go_sem] theorem MU (w:World) (b:Nat) (o:Obj) (a:Nat):hp (w.putObj b o) a=if a=b then(hp w b).map (λ_=>o)else hp w a:=fY w b o a
@[go_sem] theorem as8 (w:World) (b:Nat):hp w.drew b=hp w b:=rfl
attribute [go_sem] wt World.size_alloc World.putObj_size
@[go_sem] theorem Ed (w:World):w.drew.heap.size=w.heap.size:=rfl
def Yi{d:Nat}(h:d<n):¬d=n/\(∀k,¬d=n+k)/\¬n=d/\∀k,¬n+k=d:=⟨qZ,λk=>qZ,qZ,λk=>qZ⟩
@[go_sem] theorem at3 (n a b:Nat):n+a+b=n+(a+b):=jU n a b
structure de(F:Nat->Prop)(w w' :World):Prop where
 size:w.heap.size<=w'.heap.size
 out:w'.output=w.output
 os:w'.os=w.os
 blk:∀b,b<w.heap.size->¬F b->w'.heap[b]? =w.heap[b]?
abbrev M0:=de λ_=>False
def de.refl(F:Nat->Prop)(w:World):de F w w:=⟨cJ _,rfl,rfl,λ_ _ _=>rfl⟩
def de.trans{w1 d:World}(h:de F w w1)(a:de F w1 d):de F w d:=
 ⟨dD h.size a.size,a.out.trans h.out,a.os.trans h.os,λb e c=>(a.blk b (ep e h.size) c).trans (h.blk b e c)⟩
def de.mono(h:de F w w')(d:∀b,b<w.heap.size->F b->G b):de G w w' :=
 ⟨h.size,h.out,h.os,λb a e=>h.blk b a λc=>e (d b a c)⟩
def de.to(h:de (λ_=>False) w w'):de G w w' :=h.mono λ_ _ h=>h.elim
def de.alloc(h:de F w w')(o:Obj):de F w (w'.alloc o):=
 ⟨by rw[eG];exact Nat.le_succ_of_le h.size,h.out,h.os,λb c a=>by
  rw[gy,aZ (by have:=h.size;omega)];exact h.blk b c a⟩
def de.drew(h:de F w w'):de F w w'.drew:=⟨h.size,h.out,h.os,h.blk⟩
def lX:de F w w:=.refl _ _
def lm{o:Obj}:de F w (w.alloc o):=(de.refl _ _).alloc _
def mP:de F w w.drew:=(de.refl _ _).drew
def sI{α β:Sort _}{a:α}{b:β}:a=a/\b=b:=⟨rfl,rfl⟩
def gz{q:Prop}(h:q:=by omega):p\/q:=.inr h
def de.setCell(h:de F w w'){b:Nat}(f:F b\/w.heap.size<=b)(i:Nat)(v:Value):de F w (w'.setCell ⟨b,i,none⟩ v):=
 ⟨by rw[wt];exact h.size,h.out,h.os,λd a c=>by
  rw[nL,aZ (λe=>by grind)];exact h.blk d a c⟩
def de.sc(h:de F w w'){b i:Nat}{v:Value}(a:F b:=by exact rfl):de F w (w'.setCell ⟨b,i,none⟩ v):=h.setCell (.inl a) i v
def de.putObj(h:de F w w'){b:Nat}(f:F b\/w.heap.size<=b)(o:Obj):de F w (w'.putObj b o):=
 ⟨by rw[lQ];exact h.size,h.out,h.os,λd a c=>by
  rw[fY,aZ (λe=>by grind)];exact h.blk d a c⟩
def de.on{w1 d:World}(h:de F w w1)(a:de G w1 d)(g:∀b,G b->F b\/w.heap.size<=b):de F w d:=
 ⟨dD h.size a.size,a.out.trans h.out,a.os.trans h.os,λb e c=>(a.blk b (ep e h.size) λf=>(g b f).elim c qZ).trans (h.blk b e c)⟩
def de.keep(h:de F w w'){b:Nat}{o:Obj}(a:w.heap[b]? =some o)(c:¬F b):w'.heap[b]? =some o:=
 (h.blk b (cB a) c).trans a
end Go.Vc
namespace Go.Vc
open Go Go.Vc
variable {cells:Array Value}{cs c:List Value}{b off n sz:Nat}{F:Nat->Prop}{P:Program}{s:Sem Value}{t e:TypeId}{v:Value}{w w' :World}{K:cG}
def iW(h:s.run P w=.ok v w')(a:K v w'):rx P s w K:=
 ⟨⟨by unfold Yq;rw[h];exact a⟩⟩
def sq(v:Value)(w' :World)(h:s.run P w=.ok v w')(a:K v w'):rx P s w K:=iW h a
def RF{s:Sem Unit}{K:World->Prop}(h:s.run P w=.ok () w')(a:K w'):nj P s w K:=
 ⟨⟨by unfold XO;rw[h];exact a⟩⟩
def li{K:Value->Prop}(h:s.run P w=.ok v w)(a:K v):pS P s w K:=
 ⟨⟨by unfold Hl;rw[h];exact⟨rfl,a⟩⟩⟩
def Te{K:Value->Prop}(h:∀w,s.run P w=.ok v w)(a:K v):DS P s K:=
 ⟨⟨⟨v,h,a⟩⟩⟩
def cS(b off i:Nat):(⟨b,off,none⟩:Addr).add i=⟨b,off+i,none⟩:=by
 unfold Addr.add;split<;>simp_all
def ij(w:World)(g:Nat)(cs:Array Value)(b:Nat):(w.setRow g cs).heap[b]? =if b=g then(match w.heap[g]? with|some (.cells _ t fz)=>some (.cells cs t fz)|o=>o)else w.heap[b]? :=by
 by_cases h:b=g
 ·subst h;rw[bZ rfl];cases a:w.heap[b]? with
  |none=>
   simp only;have:w.heap.size<=b:=by simpa using a
   simp[World.setRow,this]
  |some o=>
   cases o<;>first|exact setRow_heap w b _ cs _ _ a|(simp only[World.setRow,nT,fh,a];rfl)
 ·rw[aZ h];exact setRow_other w g b cs h
@[go_sem] theorem ED (w:World) (g:Nat) (cs:Array Value) (b:Nat):hp (w.setRow g cs) b=if b=g then(match hp w g with|some (.cells _ t fz)=>some (.cells cs t fz)|o=>o)else hp w b:=ij w g cs b
attribute [go_sem] setRow_size
def de.setRow(h:de F w w'){b:Nat}(f:F b\/w.heap.size<=b)(cs:Array Value):de F w (w'.setRow b cs):=
 ⟨by rw[setRow_size];exact h.size,h.out,h.os,λd a c=>by
  rw[setRow_other _ _ _ _ (λe=>by grind)];exact h.blk d a c⟩
def At(w:World)(b off:Nat)(cs:List Value):Prop:=∃c e fz,w.heap[b]? =some (.cells c e fz)/\off+cs.length<=c.size/\(c.toList.drop off).take cs.length=cs
def At.cell(h:At w b off cs)(j:Nat)(v:Value)(a:cs[j]? =some v):w.cell? ⟨b,off+j,none⟩=some v:=by
 obtain⟨c,e,fz,g,i,f⟩:=h;have d:j<cs.length:=(cP.1 a).1;rw[<-f,iE,bZ d,iY]at a;simp only[World.cell?,g];simpa using a
def At.get(h:At w b off cs):∃C e fz,hp w b=some (.cells C e fz)/\∀j v,cs[j]? =some v->C[off+j]? =some v:=by
 obtain⟨c,e,fz,g,i,f⟩:=h;refine⟨c,e,fz,g,λj v a=>?_⟩;have d:j<cs.length:=(cP.1 a).1;rw[<-f,iE,bZ d,iY]at a;simpa using a
def At.loads(h:At w b off cs):(loadCells ⟨b,off,none⟩ cs.length).run P w=.ok cs.toArray w:=
 run_loadCells_list w _ cs λj v a=>by rw[cS];exact h.cell j v a
def At.keep(h:At w b off cs)(d:w'.heap[b]? =w.heap[b]?):At w' b off cs:=by
 obtain⟨c,e,fz,f,a⟩:=h;exact⟨c,e,fz,by rw[d];exact f,a⟩
def At.mod(h:At w b off cs)(a:de F w w')(d:¬F b):At w' b off cs:=by
 obtain⟨c,e,fz,g,f⟩:=h;exact⟨c,e,fz,a.keep g d,f⟩
def At.lt(h:At w b off cs):b<w.heap.size:=by
 obtain⟨c,e,fz,a,_⟩:=h;exact cB a
def At.sub(h:At w b off cs)(i k:Nat)(g:i+k<=cs.length):At w b (off+i) ((cs.drop i).take k):=by
 obtain⟨c,e,fz,f,j,d⟩:=h;have a:((cs.drop i).take k).length=k:=by simp;omega
 refine⟨c,e,fz,f,by rw[a];omega,?_⟩;rw[a]
 conv=>rhs;rw[<-d]
 rw[List.drop_take,List.take_take,eN,fS qZ]
def pY(P:Program)(t:TypeId):Bool:=
 match P.underlying t with
 |some (.struct _)|some (.array ..)=>true
 |_=>false
def AS(h:pY P t=true)(w:World):(isAgg t).run P w=.ok true w:=by
 unfold pY at h;unfold isAgg;split at h
 ·rename_i a;simp[fE,dx a,Result.andThen]
 ·rename_i a;simp[fE,dx a,Result.andThen]
 ·cases h
def tC(h:P.cellsOf t=n+1):∃i,P.info? t=some i/\i.size=n+1:=by
 unfold Program.cellsOf at h;cases a:P.info? t with
 |none=>simp[a]at h
 |some i=>exact⟨i,rfl,by simpa [a]using h⟩
def oK(h:P.cellsOf t=n+1)(w:World):(sizeOf t).run P w=.ok (n+1) w:=by
 obtain⟨i,b,a⟩:=tC h;simp[sizeOf,typeInfo,b,a]
def gm(d:pY P t=true)(c:P.cellsOf t=n+1)(a:cs.length=n+1)(h:At w b off cs):
  (fH t (.pointer (some ⟨b,off,none⟩))).run P w=.ok (.agg cs.toArray) w:=by
 have:=h.loads (P:=P);rw[a]at this;simp[fH,Instr.loadAt,Instr.sureAddr,loadVar,fE,AS d,oK c,Result.andThen,this]
def jq(cs:List Value)(n:Nat)(e:pY P t=true)(c:P.cellsOf t=n+1)(a:cs.length=n+1)(h:At w b off cs)(d:K (.agg cs.toArray) w):
  rx P (fH t (.pointer (some ⟨b,off,none⟩))) w K:=iW (gm e c a h) d
def sm{K:Value->Prop}(cs:List Value)(n:Nat)(e:pY P t=true)(c:P.cellsOf t=n+1)(a:cs.length=n+1)(h:At w b off cs)(d:K (.agg cs.toArray)):
  pS P (fH t (.pointer (some ⟨b,off,none⟩))) w K:=li (gm e c a h) d
def mh(c:List Value)(off:Nat)(cs:List Value):List Value:=c.take off++cs++c.drop (off+cs.length)
def ve(h:off+cs.length<=c.length):(mh c off cs).length=c.length:=by
 simp[mh];omega
def tp(h:cs.length=c.length):mh c 0 cs=cs:=by simp[mh,h]
def sU(h:cs.all (·.oneCell')=true):∀v∈cs,v.oneCell' =true:=λv a=>dF.1 h v a
def xw{c:Array Value}(f:P.cellsOf t=n+1)(d:cs.length=n+1)
  (h:w.heap[b]? =some (.cells c e (0,0)))(a:off+cs.length<=c.size)(g:cs.all (·.oneCell')=true):
  (jH t (.pointer (some ⟨b,off,none⟩)) (.agg cs.toArray)).run P w=.ok () (w.setRow b (mh c.toList off cs).toArray):=by
 have:=run_storeCells_at P b off e cs 0 c w h (by simpa using a) (sU g);simp only[dS]at this;simp[jH,Instr.storeAt,Instr.sureAddr,storeVar,fE,oK f,Value.cells,d,Result.andThen,this,mh]
def uH{K:World->Prop}{c:Array Value}(f:P.cellsOf t=n+1)(d:cs.length=n+1)
  (h:w.heap[b]? =some (.cells c e (0,0)))(a:off+cs.length<=c.size)(g:cs.all (·.oneCell')=true)(i:K (w.setRow b (mh c.toList off cs).toArray)):
  nj P (jH t (.pointer (some ⟨b,off,none⟩)) (.agg cs.toArray)) w K:=RF (xw f d h a g) i
def lT(P:Program)(t:TypeId):List Value:=
 match (P.info? t).bind (·.zero)with
 |some z=>z.cells.toList
 |none=>[]
def se(P:Program)(t:TypeId):Bool:=((P.info? t).bind (·.zero)).isSome
def Sh(c:se P t=true):
  (nE t).run P w=.ok (.pointer (some ⟨w.heap.size,0,none⟩)) (w.alloc (.cells (lT P t).toArray t)):=by
 unfold se at c;cases b:P.info? t with
 |none=>simp[b]at c
 |some i=>
  cases a:i.zero with
  |none=>simp[b,a]at c
  |some z=>simp[nE,Instr.alloc,zeroValue,typeInfo,b,a,newVar,newRow,lT]
def rg(b:se P t=true)(a:K (.pointer (some ⟨w.heap.size,0,none⟩)) (w.alloc (.cells (lT P t).toArray t))):
  rx P (nE t) w K:=iW (Sh b) a
def lL{a:Array (Nat×Value)}(h:P.built t a.toList=some cells)(b:K (.agg cells) w):
  rx P (rB t a) w K:=iW (by unfold rB;exact run_build w t a cells h) b
def AN{a:Array (Nat×Value)}{K:Value->Prop}(h:P.built t a.toList=some cells)(b:K (.agg cells)):
  DS P (rB t a) K:=Te (λw=>by unfold rB;exact run_build w t a cells h) b
def R1{a:List Value}(h:off+(a.length+1)<=c.length):mh (c.set off v) (off+1) a=mh c off (v::a):=by
 simp only[mh,dc]
 have b:(c.set off v).take (off+1)=c.take off++[v]:=by
  rw[List.take_succ_eq_append_getElem (by simp;omega),List.take_set_of_le (cJ _)];simp
 have d:(c.set off v).drop (off+1+a.length)=c.drop (off+(a.length+1)):=by
  rw[List.drop_set_of_lt qZ,show off+1+a.length=off+(a.length+1) by omega]
 rw[b,d];simp
def D7(off:Nat):∀(a:List Value) (k:Nat) (c:Array Value),off+k+a.length<=c.size->
  ((a.zipIdx k).foldl (λb p=>b.setIfInBounds (off+p.2) p.1) c).toList=mh c.toList (off+k) a
 | [],k,c,_=>by simp[mh]
 |v::a,k,c,h=>by
  simp only[qJ,ig];simp only[dc]at h;rw[D7 off a (k+1) _ (by simp;omega),Array.toList_setIfInBounds,show off+(k+1)=off+k+1 by omega,R1 (by simp;omega)]
def uz{place:Nat->Option (Nat×Nat)}{cells:List Value}{i size:Nat}{rest:List (Nat×Value)}(hp:place i=some (off,size))(b:v.cells.size=size)(h:off+size<=cells.length):
  Instr.fill place cells.toArray ((i,v)::rest)=Instr.fill place (mh cells off v.cells.toList).toArray rest:=by
 have a:¬(v.cells.size≠size\/off+v.cells.size>cells.toArray.size):=by grind
 simp only[Instr.fill,hp];rw[aZ (by simpa using a)];congr 1;apply nQ;have:=D7 off v.cells.toList 0 cells.toArray (by simp;omega);simp only[dS]at this;rw[<-this,<-Array.toList_zipIdx,Array.foldl_toList]
def Dj{place:Nat->Option (Nat×Nat)}:Instr.fill place cells []=some cells:=rfl
def Rd(w:World)(sz:Nat)(v:Value)(n:Nat)(cs:List Value):Prop:=
 cs.length=n*sz/\((n=0/\∃a c,v=.slice a 0 c)\/∃b off cap,v=.slice (some ⟨b,off,none⟩) n cap/\n<=cap/\At w b off cs)
def BQ(v:Value)(b:Nat):Prop:=∃a n c,v=.slice (some a) n c/\n≠0/\a.block=b
def It:Value->Option Nat
 | .slice (some a) _ _=>some a.block
 |_=>none
def jo(w:World)(e:TypeId)(sz:Nat)(v:Value)(n:Nat)(cs:List Value):Prop:=
 cs.length=n*sz/\((v=.slice none 0 0/\n=0)\/∃b cap rest,v=.slice (some ⟨b,0,none⟩) n cap/\n<=cap/\w.heap[b]? =some (.cells (cs++rest).toArray e (0,0))/\rest.length=(cap - n)*sz/\(rest.all (·.oneCell')=true))
def cK(v:Value)(b:Nat):Prop:=It v=some b
def jo.keep(h:jo w e sz v n cs)(g:∀b,cK v b->w'.heap[b]? =w.heap[b]?):jo w' e sz v n cs:=by
 obtain⟨c,h|⟨b,a,rest,rfl,i,d,f⟩⟩:=h
 ·exact⟨c,.inl h⟩
 ·exact⟨c,.inr ⟨b,a,rest,rfl,i,by rw[g b rfl];exact d,f⟩⟩
def jo.lt(h:jo w e sz v n cs){b:Nat}(a:cK v b):b<w.heap.size:=by
 obtain⟨f,⟨rfl,_⟩|⟨i,d,rest,rfl,j,c,g⟩⟩:=h
 ·cases a
 ·cases a;exact cB c
def jo.nil(w:World)(e:TypeId)(sz:Nat):jo w e sz (.slice none 0 0) 0 []:=⟨by simp,.inl ⟨rfl,rfl⟩⟩
def jo.mod(h:jo w e sz v n cs)(c:de F w w')(d:∀b,cK v b->¬F b):jo w' e sz v n cs:=
 h.keep λb a=>c.blk b (h.lt a) (d b a)
def BQ.sl(h:BQ v b):cK v b:=by
 obtain⟨a,n,c,rfl,-,rfl⟩:=h;rfl
def jo.rd(h:jo w e sz v n cs):Rd w sz v n cs:=by
 obtain⟨c,⟨rfl,rfl⟩|⟨b,a,rest,rfl,f,d,g⟩⟩:=h
 ·exact⟨c,.inl ⟨rfl,_,_,rfl⟩⟩
 ·exact⟨c,.inr ⟨b,0,a,rfl,f,⟨_,_,_,d,by simp,by simp⟩⟩⟩
def Rd.keep(h:Rd w sz v n cs)(g:∀b,BQ v b->w'.heap[b]? =w.heap[b]?):Rd w' sz v n cs:=by
 obtain⟨c,h|⟨b,a,d,rfl,i,f⟩⟩:=h
 ·exact⟨c,.inl h⟩
 ·by_cases e:n=0
  ·subst e;exact⟨c,.inl ⟨rfl,_,_,rfl⟩⟩
  ·exact⟨c,.inr ⟨b,a,d,rfl,i,f.keep (g b ⟨_,_,_,rfl,e,rfl⟩)⟩⟩
def Rd.lt(h:Rd w sz v n cs){b:Nat}(f:BQ v b):b<w.heap.size:=by
 obtain⟨a,m,c,rfl,q,rfl⟩:=f;obtain⟨p,⟨rfl,l,k,e⟩|⟨b,i,g,e,s,j⟩⟩:=h
 ·grind
 ·injection e with d o r;injection d with d;subst d;exact j.lt
def Rd.mod(h:Rd w sz v n cs)(c:de F w w')(d:∀b,BQ v b->¬F b):Rd w' sz v n cs:=
 h.keep λb a=>c.blk b (h.lt a) (d b a)
def Rd.first(h:Rd w sz v n cs)(j:0<sz):
  (Builtin.firstCells sz n v).run P w=.ok cs.toArray w:=by
 obtain⟨d,⟨rfl,a,c,rfl⟩|⟨b,e,g,rfl,i,f⟩⟩:=h
 ·have:cs=[]:=by simpa using d
  subst this;cases a<;>simp[Builtin.firstCells,loadCells,loadCellsFrom]
 ·have:=f.loads (P:=P);rw[d]at this;simpa [Builtin.firstCells]using this
def Rd.isSl(h:Rd w sz v n cs):∃a c,v=.slice a n c:=by
 obtain⟨_,⟨rfl,a,c,rfl⟩|⟨b,d,e,rfl,_⟩⟩:=h
 ·exact⟨_,_,rfl⟩
 ·exact⟨_,_,rfl⟩
def Rd.lenOf(h:Rd w sz v n cs)(w1:World):(Builtin.lenOf v).run P w1=.ok n w1:=by
 obtain⟨f,⟨rfl,a,c,rfl⟩|⟨b,d,e,rfl,i,g⟩⟩:=h<;>rfl
end Go.Vc
namespace Go.Vc
open Go Go.Vc
variable {cs:List Value}{sz by_ n:Nat}{P:Program}{e t:TypeId}{s:Value}{w:World}{K:cG}
structure wd(P:Program)(e:TypeId)(sz by_:Nat):Prop where
 ok:∃i z,P.info? e=some i/\i.zero=some z/\i.size=sz/\i.bytes=by_/\z.cells.size=sz/\z.cells.toList.all (·.oneCell')=true
 pos:0<sz
 bpos:0<by_
def lN(P:Program)(e:TypeId)(sz by_:Nat):Bool:=
 Nat.blt 0 sz&& Nat.blt 0 by_&& match P.info? e with
 |none=>false
 |some i=>match i.zero with
  |none=>false
  |some z=>Nat.beq i.size sz&& Nat.beq i.bytes by_&& Nat.beq z.cells.size sz&& z.cells.toList.all (·.oneCell')
def eO(h:lN P e sz by_=true):wd P e sz by_:=by
 unfold lN at h;simp only[cL]at h;obtain⟨⟨g,d⟩,h⟩:=h;cases a:P.info? e with
 |none=>rw[a]at h;cases h
 |some i=>
  rw[a]at h;simp only at h;cases b:i.zero with
  |none=>rw[b]at h;cases h
  |some z=>
   rw[b]at h;simp only[cL]at h;obtain⟨⟨⟨k,f⟩,j⟩,c⟩:=h;exact⟨⟨i,z,a,b,fZ k,fZ f,fZ j,c⟩,by simpa [oX]using g,by simpa [oX]using d⟩
def tm{z:Array Value}(h:z.toList.all (·.oneCell')=true)(hp:0<z.size)(n:Nat):(Builtin.zeroCells z n).toList.all (·.oneCell')=true:=by
 unfold Builtin.zeroCells;simp only[Array.toList_map,List.all_map,dF];intro i _;have a:i%z.size<z.size:=gR _ hp;simp only[Function.comp_apply];rw[jP z _ a];exact dF.1 h _ (by simp)
def tv(z:Array Value)(n:Nat):(Builtin.zeroCells z n).toList.length=n*z.size:=by simp[Builtin.zeroCells]
def jR{u ty:TypeId}{x:Value}{m:Nat}{a:List Value}
  (M:P.underlying t=some (.slice e)){e' :TypeId}(V:P.underlying u=some (.slice e'))(hE:wd P e sz by_)
  (H:jo w e sz s n cs)(B:Rd w sz x m a)(h1:a.all (·.oneCell')=true)(G:(n+m)*by_<=140737488355328)
  (Q:∀I F,jo F e sz I (n+m) (cs++a)->de (cK s) w F->(∀b,cK I b->cK s b\/w.heap.size<=b)->K I F):
  rx P (eg #[t,u] ty [s,x]) w K:=by
 obtain⟨⟨i,z,W,hz,r,T,X,O⟩,k,q⟩:=hE;have S:n+m<=140737488355328:=dD (qj _ q) G;have l:cs.length=n*sz:=H.1;have g:a.length=m*sz:=B.1;have A:=λw1 (h:Rd w1 sz x m a)=>h.first (P:=P) k
 obtain⟨d,c,L,hcap,E⟩:∃d c,s=.slice d n c/\n<=c/\((d=none/\n=0/\c=0/\cs=[])\/∃b rest,d=some ⟨b,0,none⟩/\w.heap[b]? =some (.cells (cs++rest).toArray e (0,0))/\rest.length=(c - n)*sz/\rest.all (·.oneCell')=true):=by
  rcases H.2 with⟨rfl,rfl⟩|⟨b,c,rest,rfl,hc,U,hr⟩
  ·grind
  ·grind
 subst L;by_cases f:n+m<=c
 ·rcases E with⟨rfl,rfl,rfl,rfl⟩|⟨b,rest,rfl,U,D,hr1⟩
  ·have hm:m=0:=qZ;subst hm;have y:a=[]:=by simpa using g
   subst y;refine sq (.slice none 0 0) w ?_ (Q _ _ H lX (λb G=>.inl G));have:=A w B;simp[eg,Builtin.append_,dx M,sizeOf,typeInfo,W,r,dx V,B.lenOf,Result.andThen,this]
  ·have o:=run_storeCells_at P b (n*sz) e a 0 (cs++rest).toArray w U (by simp[l,D,g];exact dM _ qZ) (sU h1);simp only[dS]at o
   have p:(cs++rest).take (n*sz)++a++(cs++rest).drop (n*sz+a.length)=(cs++a)++rest.drop a.length:=by
    rw[<-l];simp[df]
   refine sq (.slice (some ⟨b,0,none⟩) (n+m) c) (w.setRow b ((cs++a)++rest.drop a.length).toArray) ?_ (Q _ _ ⟨?_,.inr ⟨b,c,rest.drop a.length,rfl,f,?_,?_,?_⟩⟩ ?_ ?_)
   ·have:=A w B;simp only[p]at o;have e0:(⟨b,0,none⟩:Addr).add (n*sz)=⟨b,n*sz,none⟩:=by rw[cS];simp
    simp[eg,Builtin.append_,dx M,sizeOf,typeInfo,W,r,dx V,B.lenOf,Result.andThen,this,f,e0,o]
   ·grind
   ·rw[ij,bZ rfl,U]
   ·simp[D,g];rw[<-qf];congr 1;omega
   ·grind
   ·exact(de.refl (cK (.slice (some ⟨b,0,none⟩) n c)) w).setRow (.inl (show cK _ b from rfl)) _
   ·intro b' C;exact .inl C
 ·have hfit:=growslice_fits (old:=c) (need:=n+m) (bytes:=by_) qZ G;have J:¬(281474976710656<Builtin.nextslicecap (n+m) c*i.bytes):=by rw[T];omega
  have R:¬(9223372036854775807<((n:Int)+(m:Int))):=qZ;have j:n+m<=grownCap w (n+m) c e:=by simp[grownCap,Question.cut]
  have N:Rd w.drew sz (.slice d n c) n cs:=H.rd.keep λ_ _=>rfl;have Z:=N.first (P:=P) k;have Y:=A w.drew (B.keep λ_ _=>rfl)
  refine iW (v:=.slice (some ⟨w.heap.size,0,none⟩) (n+m) (grownCap w (n+m) c e))
   (w' :=w.drew.alloc (.cells (cs.toArray++a.toArray++Builtin.zeroCells z.cells (grownCap w (n+m) c e - (n+m))) e)) ?_ (Q _ _ ⟨?_,.inr ⟨w.heap.size,_,(Builtin.zeroCells z.cells (grownCap w (n+m) c e - (n+m))).toList,rfl,j,?_,?_,?_⟩⟩ ?_ ?_)
  ·simp[eg,Builtin.append_,dx M,sizeOf,typeInfo,zeroValue,W,hz,r,dx V,B.lenOf,Result.andThen,f,R,J,Question.forced,Z,Y,newRow,grownCap];rw[<-Array.append_assoc];congr 2;simp
  ·grind
  ·rw[gy,bZ (show w.heap.size=w.drew.heap.size from rfl)];simp
  ·rw[tv,X]
  ·exact tm O (by grind) _
  ·exact mP.alloc _
  ·rintro b' C;cases C;exact .inr (cJ _)
def FW(w:World)(c:Array Value)(t:TypeId)(cs:Array Value):(w.alloc (.cells c t)).setRow w.heap.size cs=w.alloc (.cells cs t):=by
 unfold World.setRow World.alloc;simp only;congr 1;apply Array.ext
 ·simp
 ·intro i b a;simp only[Array.getElem_modify,Array.getElem_push];by_cases h:w.heap.size=i
  ·subst h;simp
  ·grind
def xM(n:Nat)(j:se P t=true)(f:P.cellsOf t=n+1)(b:cs.length=n+1)(a:(lT P t).length=n+1)(g:cs.all (·.oneCell')=true)
  (h:K (.pointer (some ⟨w.heap.size,0,none⟩)) (w.alloc (.cells cs.toArray t))):rx P (nE t) w λv d=>nj P (jH t v (.agg cs.toArray)) d λi=>K v i:=by
 apply rg j;apply uH (c:=(lT P t).toArray) (e:=t) f b (by rw[gy,bZ rfl]) (by simp[b,a]) g;rw[tp (by simp[b,a]),FW];exact h
def oB{α:Type}(f:α->List Value)(sz:Nat):∀(ws:List α) (i:Nat) (a:∀x∈ws,(f x).length=sz) (h:i<ws.length),((ws.flatMap f).drop (i*sz)).take sz=f ws[i]
 |x::ws,0,a,h=>by grind
 |x::ws,i+1,a,h=>by
  have e:(i+1)*sz=(f x).length+i*sz:=by grind
  simp only[eu,fA];rw[e,<-eN,fj];exact oB f sz ws i (λy b=>a y (by simp[b])) (by simpa using h)
def uE{α:Type}(f:α->List Value)(sz:Nat):∀(ws:List α) (a:∀x∈ws,(f x).length=sz),(ws.flatMap f).length=ws.length*sz
 | [],_=>by simp
 |x::ws,a=>by simp[a x (by simp),uE f sz ws λy b=>a y (by simp[b]),im];omega
def jo.isSl(h:jo w e sz s n cs):∃a c,s=.slice a n c/\n<=c:=by
 obtain⟨_,⟨rfl,rfl⟩|⟨b,d,_,rfl,f,_⟩⟩:=h
 ·grind
 ·grind
def jo.elem(h:jo w e sz s n cs){i:Nat}(hi:i<n):
  ∃b a,s=.slice (some ⟨b,0,none⟩) n a/\At w b (i*sz) ((cs.drop (i*sz)).take sz):=by
 obtain⟨f,⟨rfl,rfl⟩|⟨b,a,rest,rfl,k,g,j⟩⟩:=h
 ·omega
 ·have c:i*sz+sz<=cs.length:=by
   rw[f];have:(i+1)*sz<=n*sz:=dM _ hi;rw[im]at this;omega
  have d:At w b 0 cs:=⟨_,_,_,g,by simp,by simp⟩
  have:=d.sub (i*sz) sz c;exact⟨b,a,rfl,by simpa using this⟩
def Ll{kl k:IntKind}{l c:Int}{z:Value}(m:P.underlying t=some (.slice e))(s:wd P e sz by_)(n:0<=l)(g:l<=c)(o:(by_:Int)*c<=281474976710656)
  (y:(P.info? e).bind (·.zero)=some z)
  (r:K (.slice (some ⟨w.heap.size,0,none⟩) l.toNat c.toNat) (w.alloc (.cells (madeCells z.cells (c.toNat*sz)) e))):
  rx P (Ak t (.int kl l) (.int k c)) w K:=by
 obtain⟨⟨i,p,u,h,d,f,v,q⟩,j,a⟩:=s;have:z=p:=by grind
 subst this
 have b:c<=9223372036854775807:=by
  have x:(1:Int)*c<=(by_:Int)*c:=fU qZ qZ;omega
 exact iW (by unfold Ak;exact run_make w t e i z m u h kl k l c n g (by rw[f];exact o) b) (by rw[d];exact r)
def H7(sz:Nat):∀(b:List Value) (i:Nat) (a rest:List Value),(∀v∈b,v.cells.size=sz)->a.length=i*sz->rest.length=b.length*sz->
  Instr.fill (λi=>some (i*sz,sz)) (a++rest).toArray ((b.zipIdx i).map λp=>(p.2,p.1))=some (a++b.flatMap (·.cells.toList)).toArray
 | [],i,a,rest,_,_,d=>by
  have:rest=[]:=by simpa using d
  subst this;simp[Dj]
 |v::b,i,a,rest,g,hp,d=>by
  have c:=g v (by simp);have h:sz<=rest.length:=by rw[d,dc,im];omega
  simp only[qJ,cM];rw[uz (off:=i*sz) (size:=sz) rfl c (by simp;omega)]
  have e:mh (a++rest) (i*sz) v.cells.toList=(a++v.cells.toList)++rest.drop sz:=by
   have f:v.cells.toList.length=sz:=by simpa using c
   simp only[mh,f];rw[<-hp,fN,<-eN,fj]
  rw[e,H7 sz b (i+1) _ _ (λu j=>g u (by simp[j])) (by grind) (by simp[d,im])];simp
def oJ{a:List (Nat×Value)}(b:List Value)(m:P.underlying t=some (.slice e))(y:wd P e sz by_)
  (hp:a=b.zipIdx.map λp=>(p.2,p.1))(B:b.length=n)(D:∀v∈b,v.cells.size=sz)(E:n*sz<=16777216)
  (s:K (.slice (some ⟨w.heap.size,0,none⟩) n n) (w.alloc (.cells (b.flatMap (·.cells.toList)).toArray e))):rx P (jQ t n a) w K:=by
 obtain⟨⟨i,z,q,x,d,A,C,u⟩,o,k⟩:=y;subst hp;have l:¬(2 ^ 24<n*sz):=qZ;refine iW ?_ s
 have c:∀f:Array Value,(f.toList.length=n*sz)->Instr.fill (λi=>some (i*sz,sz)) f (b.zipIdx.map λp=>(p.2,p.1))=some (b.flatMap (·.cells.toList)).toArray:=λf j=>by
  have:=H7 sz b 0 [] f.toList D (by simp) (by rw[B];exact j);simpa using this
 by_cases g:n*sz=0
 ·have h:=c (Array.map (λ_=>default) (Array.range 0)) (by simp[g]);simp[jQ,Instr.buildSlice,dx m,sizeOf,typeInfo,q,d,g,h,newRow,Result.andThen]
 ·have h:=c ((Array.range (n*sz)).map (z.cells[·%z.cells.size]!)) (by simp);have r:Instr.fill (λi=>some (i*sz,sz)) ((Array.range (n*sz)).map (z.cells[·%sz]!)) (b.zipIdx.map λp=>(p.2,p.1))=some (b.flatMap (·.cells.toList)).toArray:=by grind
  simp[jQ,Instr.buildSlice,dx m,sizeOf,typeInfo,zeroValue,q,x,d,g,l,h,r,newRow,Result.andThen]
def bv(l:List UInt8):List Value:=l.map λu=>.int .u8 (u.toNat:Int)
@[simp] theorem Za (l:List UInt8):(bv l).length=l.length:=by simp[bv]
@[simp] theorem aD2:bv []=[]:=rfl
@[simp] theorem A4 (l l' :List UInt8):bv (l++l')=bv l++bv l' :=by simp[bv]
def Ud(l:List UInt8)(n:Nat):(bv l).drop n=bv (l.drop n):=by simp[bv]
def JE(l:List UInt8):(bv l).all (·.oneCell')=true:=by simp[bv,Value.oneCell']
def Mt(a:List UInt8):∀s:ByteArray,((a.map λu=>(u.toNat:Int)).foldl (λr n=>r.push (UInt8.ofNat n.toNat)) s)=⟨s.data++a.toArray⟩:=by
 induction a with
 |nil=>intro s;simp
 |cons n a b=>
  intro s;simp only[cM,ig];rw[b];simp[ByteArray.push]
def tY(l:List UInt8):ByteArray:=⟨l.toArray⟩
def AM{s d:TypeId}{v:Value}{l:List UInt8}
  (k:P.underlying s=some (.slice e))(m:P.underlying e=some (.int .u8))(i:P.underlying d=some .string)(h:Rd w 1 v n (bv l)):
  (uL s d v).run P w=.ok (.string (tY l)) w:=by
 have j:l.length=n:=by simpa using h.1
 obtain⟨_,⟨rfl,a,c,rfl⟩|⟨b,g,o,rfl,q,p⟩⟩:=h
 ·have:l=[]:=by simpa using j
  subst this;unfold uL;rw[run_convert_bytes_string w s d e _ _ _ k m i];cases a<;>rfl
 ·have f:(loadCells ⟨b,g,none⟩ n).run P w=.ok (bv l).toArray w:=by
   have:=p.loads (P:=P);simpa [j]using this
  unfold uL;rw[run_convert_bytes_string w s d e _ _ _ k m i,run_bytesToString w _ _ _ (l.map λu=>(u.toNat:Int)) (by rw[f];simp[bv]),Mt];simp[tY,ByteArray.empty,ByteArray.emptyWithCapacity];rfl
def xV{s d:TypeId}{K:Value->Prop}{v:Value}{l:List UInt8}
  (f:P.underlying s=some (.slice e))(b:P.underlying e=some (.int .u8))(a:P.underlying d=some .string)(h:Rd w 1 v n (bv l))(c:K (.string (tY l))):
  pS P (uL s d v) w K:=li (AM f b a h) c
@[simp] theorem TU (l l' :List UInt8):tY l++tY l' =tY (l++l'):=by
 apply ByteArray.ext;simp[tY]
@[simp] theorem XJ (l:List UInt8):(tY l).size=l.length:=by simp[tY,ByteArray.size]
@[simp] theorem TZ (l:List UInt8):(tY l).toList=l:=ByteArray.toList_mk l
@[simp] theorem Y8 {l l' :List UInt8}:tY l=tY l' ↔l=l' :=by
 refine⟨λh=>?_,λh=>by rw[h]⟩;have:=fC (λb:ByteArray=>b.data.toList) h;simpa [tY]using this
section
variable{κ ν:Type} [DecidableEq κ]
def lk:List (κ×ν)->κ->Option ν
 | [],_=>none
 |(a,b)::r,k=>if a=k then some b else lk r k
def put:List (κ×ν)->κ->ν->List (κ×ν)
 | [],k,v=>[(k,v)]
 |(a,b)::r,k,v=>if a=k then(k,v)::r else(a,b)::put r k v
def DF:List (κ×ν)->κ->List (κ×ν)
 | [],_=>[]
 |(a,b)::r,k=>if a=k then r else(a,b)::DF r k
def sn(L:List (κ×ν))(k j:κ)(v:ν):lk (put L k v) j=if k=j then some v else lk L j:=by
 induction L with
 |nil=>simp[put,lk]
 |cons p r c=>
  obtain⟨a,b⟩:=p;simp only[put];by_cases h:a=k
  ·subst h;rw[bZ rfl];simp only[lk];split<;>rfl
  ·rw[aZ h];simp only[lk,c];by_cases d:a=j
   ·grind
   ·grind
def rR{L:List (κ×ν)}{k:κ}(h:k ∉ L.map (·.1)):lk L k=none:=by
 induction L with
 |nil=>rfl
 |cons p r c=>
  obtain⟨a,b⟩:=p;simp only[cM,cH,mO]at h;simp only[lk];rw[aZ (λe=>h.1 e.symm)];exact c h.2
def Xo{L:List (κ×ν)}(c:(L.map (·.1)).Nodup)(k j:κ):lk (DF L k) j=if k=j then none else lk L j:=by
 induction L with
 |nil=>simp[DF,lk]
 |cons p r d=>
  obtain⟨a,b⟩:=p;simp only[cM,dA]at c;simp only[DF];by_cases h:a=k
  ·subst h;rw[bZ rfl];simp only[lk];split
   ·subst_vars;exact rR c.1
   ·rfl
  ·rw[aZ h];simp only[lk,d c.2];by_cases e:a=j
   ·grind
   ·grind
def QO(L:List (κ×ν))(k:κ)(v:ν):(put L k v).map (·.1)=if k∈L.map (·.1)then L.map (·.1)else L.map (·.1)++[k]:=by
 induction L with
 |nil=>simp[put]
 |cons p r c=>
  obtain⟨a,b⟩:=p;simp only[put];by_cases h:a=k
  ·subst h;simp
  ·grind
def Ea{L:List (κ×ν)}(h:(L.map (·.1)).Nodup)(k:κ)(v:ν):((put L k v).map (·.1)).Nodup:=by
 rw[QO];split
 ·exact h
 ·grind
def Us(L:List (κ×ν))(k:κ):(DF L k).Sublist L:=by
 induction L with
 |nil=>exact kJ _
 |cons p r c=>
  obtain⟨a,b⟩:=p;simp only[DF];split
  ·grind
  ·exact c.cons_cons _
def MT{L:List (κ×ν)}(h:(L.map (·.1)).Nodup)(k:κ):((DF L k).map (·.1)).Nodup:=h.sublist ((Us L k).map _)
def AC{L:List (κ×ν)}{k:κ}{v:ν}(h:lk L k=some v):(k,v)∈L:=by
 induction L with
 |nil=>cases h
 |cons q r c=>
  obtain⟨a,b⟩:=q;simp only[lk]at h;split at h
  ·grind
  ·grind
end
structure vB(P:Program)(k:TypeId){κ:Type} [DecidableEq κ](enc:κ->Value):Prop where
 check:∀(w:World) (em:Bool) (x:κ),(Instr.checkKey em 10000 k (enc x)).run P w=.ok () w
 same:∀(w:World) (x:κ) (es:List MapEntry) (ks:List κ),es.map (·.key)=ks.map enc->
  ((Instr.findKey k (enc x) es).run P w=.ok none w/\x ∉ ks)\/∃i v,(Instr.findKey k (enc x) es).run P w=.ok (some (i,v)) w/\(es[i]?).map (·.val)=some v/\ks[i]? =some x/\∀j,j<i->ks[j]? ≠some x
 stays:∀(w:World) (x:κ),(Instr.keyThatStays (enc x) (enc x)).run P w=.ok (enc x) w
section
variable{P:Program}{k:TypeId}{κ:Type} [DecidableEq κ]{enc:κ->Value}
def Bw(c:∀(w:World) (x y:κ),(Op.equal k (enc x) (enc y)).run P w=.ok (decide (x=y)) w)(w:World)(x:κ):
  ∀(b:List MapEntry) (a:List κ) (o:Nat),b.map (·.key)=a.map enc->
  ((Instr.findAsking k (enc x) b o).run P w=.ok none w/\x ∉ a)\/∃i v,(Instr.findAsking k (enc x) b o).run P w=.ok (some (o+i,v)) w/\(b[i]?).map (·.val)=some v/\a[i]? =some x/\∀j,j<i->a[j]? ≠some x
 | [],a,o,h=>by
  have:a=[]:=by cases a<;>simp_all
  subst this;exact .inl ⟨by simp[Instr.findAsking],by simp⟩
 |e::b,[],o,h=>by simp at h
 |e::b,y::a,o,h=>by
  simp only[cM,mR]at h;obtain⟨g,m⟩:=h;by_cases d:x=y
  ·subst d;refine .inr ⟨0,e.val,?_,by simp,by simp,λj l=>absurd l (Nat.not_lt_zero _)⟩;simp[Instr.findAsking,g,c,Result.andThen]
  ·have r:(Instr.findAsking k (enc x) (e::b) o).run P w=(Instr.findAsking k (enc x) b (o+1)).run P w:=by
    simp[Instr.findAsking,g,c,Result.andThen,d]
   rcases Bw c w x b a (o+1) m with⟨p,f⟩|⟨i,v,p,f,n,q⟩
   ·grind
   ·refine .inr ⟨i+1,v,by grind,by simpa using f,by simpa using n,λj l=>?_⟩;cases j with
    |zero=>simp;exact λe=>d e.symm
    |succ j=>simpa using q j qZ
def vB.asking{d:TypeDesc}(g:P.underlying k=some d)(c:∀x y,Instr.sameNow d (enc x) (enc y)=none)
  (f:∀(w:World) (x y:κ),(Op.equal k (enc x) (enc y)).run P w=.ok (decide (x=y)) w)
  (o:∀(w:World) (l:Bool) (x:κ),(Instr.checkKey l 10000 k (enc x)).run P w=.ok () w)(n:∀x,Instr.sameBits 10000 (enc x) (enc x)=true):vB P k enc where
 check:=o
 stays w x:=by simp[Instr.keyThatStays,n]
 same w x a b h:=by
  cases a with
  |nil=>
   have:b=[]:=by cases b<;>simp_all
   subst this;exact .inl ⟨by simp[Instr.findKey,dx g,Result.andThen,Instr.findNow],by simp⟩
  |cons e a=>
   cases b with
   |nil=>simp at h
   |cons y b=>
    have i:e.key=enc y:=by grind
    have j:Instr.findNow d (enc x) (e::a) 0=none:=by simp[Instr.findNow,i,c]
    have m:(Instr.findKey k (enc x) (e::a)).run P w=(Instr.findAsking k (enc x) (e::a)).run P w:=by
     simp[Instr.findKey,dx g,Result.andThen,j]
    rw[m];have:=Bw f w x (e::a) (y::b) 0 h;simpa using this
def Ib{d:TypeDesc}(a:∀x y,Instr.sameNow d (enc x) (enc y)=some (decide (x=y)))(x:κ):
  ∀(c:List MapEntry) (b:List κ) (o:Nat),c.map (·.key)=b.map enc->
  (Instr.findNow d (enc x) c o=some none/\x ∉ b)\/∃i v,Instr.findNow d (enc x) c o=some (some (o+i,v))/\(c[i]?).map (·.val)=some v/\b[i]? =some x/\∀j,j<i->b[j]? ≠some x
 | [],b,o,h=>by
  have:b=[]:=by cases b<;>simp_all
  subst this;exact .inl ⟨by simp[Instr.findNow],by simp⟩
 |e::c,[],o,h=>by simp at h
 |e::c,y::b,o,h=>by
  simp only[cM,mR]at h;obtain⟨l,n⟩:=h;by_cases f:x=y
  ·subst f;refine .inr ⟨0,e.val,?_,by simp,by simp,λj m=>absurd m (Nat.not_lt_zero _)⟩;simp[Instr.findNow,l,a]
  ·have s:Instr.findNow d (enc x) (e::c) o=Instr.findNow d (enc x) c (o+1):=by
    simp[Instr.findNow,l,a,f]
   rcases Ib a x c b (o+1) n with⟨q,g⟩|⟨i,v,q,g,p,r⟩
   ·grind
   ·refine .inr ⟨i+1,v,by grind,by simpa using g,by simpa using p,λj m=>?_⟩;cases j with
    |zero=>simp;exact λe=>f e.symm
    |succ j=>simpa using r j qZ
def vB.now{d:TypeDesc}(e:P.underlying k=some d)(a:∀x y,Instr.sameNow d (enc x) (enc y)=some (decide (x=y)))
  (j:∀(w:World) (f:Bool) (x:κ),(Instr.checkKey f 10000 k (enc x)).run P w=.ok () w)(g:∀x,Instr.sameBits 10000 (enc x) (enc x)=true):vB P k enc where
 check:=j
 stays w x:=by simp[Instr.keyThatStays,g]
 same w x es ks h:=by
  rcases Ib a x es ks 0 h with⟨c,b⟩|⟨i,v,c,b⟩
  ·exact .inl ⟨by simp[Instr.findKey,dx e,Result.andThen,c],b⟩
  ·exact .inr ⟨i,v,by simp[Instr.findKey,dx e,Result.andThen,c],b⟩
def vB.int{b:IntKind}(a:P.underlying k=some (.int b)):vB P k (λn:Int=>.int b n):=
 vB.now a (λx y=>by simp only[Instr.sameNow,fh];congr 1) (λw c x=>by
  unfold Instr.checkKey;simp[dx a,Result.andThen]) (λx=>by simp[Instr.sameBits])
end
section
variable{P:Program}{k:TypeId}{κ ν:Type} [DecidableEq κ]{enc:κ->Value}{ev:ν->Value}
def fB(enc:κ->Value)(ev:ν->Value)(w:World)(b:Nat)(L:List (κ×ν)):Prop:=
 (L.map (·.1)).Nodup/\∃es clock,w.heap[b]? =some (.map es clock)/\es.toList.map (λe=>(e.key,e.val))=L.map (λp=>(enc p.1,ev p.2))/\
  (∀x∈es.toList,x.born<clock)/\(es.toList.map (·.born)).Nodup
def fB.keep{w w' :World}{b:Nat}{L:List (κ×ν)}(h:fB enc ev w b L)(f:w'.heap[b]? =w.heap[b]?):fB enc ev w' b L:=by
 obtain⟨g,e,a,c,d⟩:=h;exact⟨g,e,a,by rw[f];exact c,d⟩
def fB.lt{w:World}{b:Nat}{L:List (κ×ν)}(h:fB enc ev w b L):b<w.heap.size:=by
 obtain⟨f,e,a,c,d⟩:=h;exact cB c
def fB.mod{F:Nat->Prop}{w w' :World}{b:Nat}{L:List (κ×ν)}(h:fB enc ev w b L)(a:de F w w')(c:¬F b):fB enc ev w' b L:=
 h.keep (a.blk b h.lt c)
def fB.new(w:World):fB enc ev (w.alloc (.map #[] 0)) w.heap.size ([]:List (κ×ν)):=
 ⟨by simp,#[],0,by rw[gy,bZ rfl],by simp,by simp,by simp⟩
def tx{a:List MapEntry}{L:List (κ×ν)}(h:a.map (λe=>(e.key,e.val))=L.map (λp=>(enc p.1,ev p.2))):a.map (·.key)=(L.map (·.1)).map enc:=by
 have:=fC (List.map Prod.fst) h;simp only[dQ]at this|-;exact this
def ZZ{L:List (κ×ν)}{x:κ}{i:Nat}{p:κ×ν}(c:L[i]? =some p)(d:p.1=x)(f:∀j,j<i->(L.map (·.1))[j]? ≠some x):lk L x=some p.2:=by
 induction L generalizing i with
 |nil=>simp at c
 |cons q r g=>
  obtain⟨a,b⟩:=q;cases i with
  |zero=>
   simp only[List.getElem?_cons_zero,jr]at c;subst c;simp only at d;simp[lk,d]
  |succ i=>
   have:a≠x:=λe=>f 0 qZ (by simp[e]);simp only[lk,aZ this];exact g (by simpa using c) (λj h=>by grind)
def Yj{L:List (κ×ν)}{x:κ}{v:ν}{i:Nat}(c:(L.map (·.1))[i]? =some x)(f:∀j,j<i->(L.map (·.1))[j]? ≠some x):put L x v=L.set i (x,v):=by
 induction L generalizing i with
 |nil=>simp at c
 |cons q r d=>
  obtain⟨a,b⟩:=q;cases i with
  |zero=>
   have:a=x:=by simpa using c
   simp[put,this]
  |succ i=>
   have:a≠x:=λe=>f 0 qZ (by simp[e]);simp only[put,aZ this,List.set_cons_succ];rw[d (by simpa using c) (λj g=>by grind)]
def YC{L:List (κ×ν)}{x:κ}{i:Nat}(c:(L.map (·.1))[i]? =some x)(f:∀j,j<i->(L.map (·.1))[j]? ≠some x):DF L x=L.eraseIdx i:=by
 induction L generalizing i with
 |nil=>simp at c
 |cons q r d=>
  obtain⟨a,b⟩:=q;cases i with
  |zero=>
   have:a=x:=by simpa using c
   simp[DF,this]
  |succ i=>
   have:a≠x:=λe=>f 0 qZ (by simp[e]);simp only[DF,aZ this,mT];rw[d (by simpa using c) (λj g=>by grind)]
def TH{L:List (κ×ν)}{x:κ}{v:ν}(h:x ∉ L.map (·.1)):put L x v=L++[(x,v)]:=by
 induction L with
 |nil=>rfl
 |cons q r c=>
  obtain⟨a,b⟩:=q;simp only[cM,cH,mO]at h;have d:¬a=x:=λe=>h.1 e.symm;simp only[put,aZ d,c h.2,List.cons_append]
def Ir{L:List (κ×ν)}{x:κ}(h:x ∉ L.map (·.1)):DF L x=L:=by
 induction L with
 |nil=>rfl
 |cons q r c=>
  obtain⟨a,b⟩:=q;simp only[cM,cH,mO]at h;have d:¬a=x:=λe=>h.1 e.symm;simp only[DF,aZ d,c h.2]
def qY{α β:Type}(f:α->β):∀(l:List α) (i:Nat),(l.eraseIdx i).map f=(l.map f).eraseIdx i
 | [],_=>rfl
 |_::_,0=>rfl
 |a::l,i+1=>by simp[qY f l i]
def qw(P:Program)(t:TypeId):Option Value:=(P.info? t).bind (·.zero)
def Bj{t:TypeId}{z:Value}(h:qw P t=some z)(w:World):(zeroValue t).run P w=.ok z w:=by
 unfold qw at h;cases a:P.info? t with
 |none=>simp[a]at h
 |some i=>simp[a]at h;simp[zeroValue,typeInfo,a,h]
def DR(enc:κ->Value)(ev:ν->Value)(w:World)(m:Value)(L:List (κ×ν)):Prop:=
 (m=.map none/\L=[])\/∃b,m=.map (some b)/\fB enc ev w b L
def rA{t e:TypeId}{w:World}{m:Value}{L:List (κ×ν)}{x:κ}{ok:Bool}{z:Value}(f:P.underlying t=some (.map k e))(c:vB P k enc)
  (n:qw P e=some z)(A:DR enc ev w m L):
  (Instr.lookup t m (enc x) ok).run P w=.ok (match lk L x with|some v=>if ok then .tuple #[ev v,.bool true]else ev v|none=>if ok then .tuple #[z,.bool false]else z) w:=by
 rcases A with⟨rfl,rfl⟩|⟨b,rfl,C,o,h,j,r,_⟩
 ·rcases c.same w x [] [] rfl with⟨d,_⟩|⟨i,v,_,a,_⟩
  ·simp[Instr.lookup,dx f,c.check,d,Bj n,Result.andThen,lk]
  ·simp at a
 ·rcases c.same w x o.toList (L.map (·.1)) (tx r)with⟨d,a⟩|⟨i,v,d,a,p,s⟩
  ·simp[Instr.lookup,dx f,MapKept.run_getObj_map j,c.check,d,Bj n,Result.andThen,rR a]
  ·have u:i<L.length:=by simpa using(cP.1 p).1
   have g:L[i]? =some L[i]:=cE u;have y:(L[i]).1=x:=by simpa [g]using p
   have B:v=ev (L[i]).2:=by
    have:=fC (λl=>(l[i]?).map Prod.snd) r;simp only[dO,g,Option.map_map,iD]at this;have q:(o.toList[i]?).map (·.val)=some (ev (L[i]).2):=by grind
    rw[a]at q;exact dB q
   simp[Instr.lookup,dx f,MapKept.run_getObj_map j,c.check,d,Result.andThen,ZZ g y s,B]
def vr{t e:TypeId}{w:World}{K:cG}{m:Value}{L:List (κ×ν)}{x:κ}(z:Value)(c:P.underlying t=some (.map k e))(b:vB P k enc)
  (d:qw P e=some z)(a:DR enc ev w m L)(f:K ((lk L x).elim z ev) w):rx P (ji t m (enc x) false) w K:=
 iW (by unfold ji;exact rA c b d a) (by grind)
def zC{t e:TypeId}{w:World}{K:cG}{m:Value}{L:List (κ×ν)}{x:κ}(z:Value)(c:P.underlying t=some (.map k e))(b:vB P k enc)
  (d:qw P e=some z)(a:DR enc ev w m L)(f:K (.tuple #[(lk L x).elim z ev,.bool (lk L x).isSome]) w):rx P (ji t m (enc x) true) w K:=
 iW (by unfold ji;exact rA c b d a) (by grind)
def NQ{t e:TypeId}{w:World}{K:Value->Prop}{m:Value}{L:List (κ×ν)}{x:κ}(z:Value)(c:P.underlying t=some (.map k e))(b:vB P k enc)
  (d:qw P e=some z)(a:DR enc ev w m L)(f:K (.tuple #[(lk L x).elim z ev,.bool (lk L x).isSome])):pS P (ji t m (enc x) true) w K:=
 li (by unfold ji;exact rA c b d a) (by grind)
def NR{c:List MapEntry}{L:List (κ×ν)}{i:Nat}{x:κ}{v:ν}{key val:Value}(h:c.map (λe=>(e.key,e.val))=L.map (λp=>(enc p.1,ev p.2)))(a:key=enc x)(b:val=ev v):
  (c.modify i λe=>{e with key:=key,val:=val}).map (λe=>(e.key,e.val))=(L.set i (x,v)).map (λp=>(enc p.1,ev p.2)):=by
 subst a b;apply ny;intro j;have g:=fC (λl=>l[j]?) h;simp only[dO]at g;simp only[dO,nX,List.getElem?_set];by_cases d:i=j
 ·subst d;simp only[fh];have m:c.length=L.length:=by simpa using fC List.length h
  by_cases f:i<L.length
  ·grind
  ·grind
 ·grind
def DV{t e:TypeId}{w:World}{b:Nat}{L:List (κ×ν)}{x:κ}{v:ν}(D:P.underlying t=some (.map k e))(q:vB P k enc)(H:fB enc ev w b L):
  ∃o,(Instr.mapUpdate t (.map (some b)) (enc x) (ev v)).run P w=.ok () (w.putObj b o)/\fB enc ev (w.putObj b o) b (put L x v):=by
 obtain⟨F,d,a,g,r,z,A⟩:=H;rcases q.same w x d.toList (L.map (·.1)) (tx r)with⟨s,C⟩|⟨i,u,s,C,B,G⟩
 ·refine⟨.map (d.push {key:=enc x,val:=ev v,born:=a}) (a+1),?_,Ea F x v,_,_,by rw[fY,bZ rfl,g];rfl,?_,?_,?_⟩
  ·simp[Instr.mapUpdate,dx D,MapKept.run_getObj_map g,q.check,s,MapKept.run_setObj_map _ g,Result.andThen,World.putObj]
  ·simp[r,TH C]
  ·intro y n;simp only[Array.toList_push,dg,eK]at n;rcases n with n|rfl
   ·grind
   ·grind
  ·grind
 ·have m:(Option.map (λe=>e.key) d[i]?).getD (enc x)=enc x:=by
   have:=fC (λl=>l[i]?) (tx r);simp only[dO]at this B;rw[B]at this;rw[nN]at this;rw[this];rfl
  have c:(d.modify i λe=>{e with key:=enc x,val:=ev v}).toList=d.toList.modify i λe=>{e with key:=enc x,val:=ev v}:=by simp
  refine⟨.map (d.modify i λe=>{e with key:=enc x,val:=ev v}) a,?_,Ea F x v,_,_,by rw[fY,bZ rfl,g];rfl,?_,?_,?_⟩
  ·simp[Instr.mapUpdate,dx D,MapKept.run_getObj_map g,q.check,s,MapKept.run_setObj_map _ g,Result.andThen,m,q.stays,World.putObj]
  ·rw[Yj B G,c];exact NR r rfl rfl
  ·rw[c];intro y n;obtain⟨j,p⟩:=List.mem_iff_getElem?.1 n;rw[nX]at p;cases f:d.toList[j]? with
   |none=>simp[f]at p
   |some E=>
    rw[f]at p;replace p:(if i=j then _ else E)=y:=dB p;have:=z E (dL f);by_cases h:i=j
    ·grind
    ·grind
  ·rw[c]
   have:(d.toList.modify i λe=>{e with key:=enc x,val:=ev v}).map (·.born)=d.toList.map (·.born):=by
    apply ny;intro j;simp only[dO,nX];by_cases h:i=j
    ·grind
    ·simp[h]
   rw[this];exact A
def kV{t e:TypeId}{w:World}{K:World->Prop}{b:Nat}{L:List (κ×ν)}{x:κ}{v:ν}(j:P.underlying t=some (.map k e))(d:vB P k enc)(c:fB enc ev w b L)
  (h:∀a,fB enc ev a b (put L x v)->de (λi=>i=b) w a->a.heap.size=w.heap.size->K a):nj P (nm t (.map (some b)) (enc x) (ev v)) w K:=by
 obtain⟨o,g,f⟩:=DV (v:=v) (x:=x) j d c;exact RF (by unfold nm;exact g) (h _ f ((de.refl _ w).putObj (b:=b) (.inl (by simp)) _) (lQ ..))
def Em{t u e:TypeId}{w:World}{K:cG}{ts:TypeId}{m:Value}{L:List (κ×ν)}{x:κ}(j:P.underlying t=some (.map k e))(g:vB P k enc)(B:DR enc ev w m L)
  (o:∀f,DR enc ev f m (DF L x)->de (λy=>m=.map (some y)) w f->f.heap.size=w.heap.size->K (.tuple #[]) f):rx P (wo #[t,u] ts [m,enc x]) w K:=by
 rcases B with⟨rfl,rfl⟩|⟨b,rfl,s,c,a,d,r,p,q⟩
 ·exact sq (.tuple #[]) w (by simp[wo,Builtin.delete_,dx j,g.check,Result.andThen]) (o _ (.inl ⟨rfl,rfl⟩) lX rfl)
 ·rcases g.same w x c.toList (L.map (·.1)) (tx r)with⟨n,h⟩|⟨i,v,n,h,A,z⟩
  ·refine sq (.tuple #[]) (w.putObj b (.map c a)) (by simp[wo,Builtin.delete_,dx j,MapKept.run_getObj_map d,g.check,n,MapKept.run_setObj_map _ d,Result.andThen,World.putObj])
    (o _ (.inr ⟨b,rfl,by rw[Ir h];exact s,c,a,by rw[fY,bZ rfl,d];rfl,by rw[Ir h];exact r,p,q⟩) ((de.refl _ w).putObj (b:=b) (.inl (by simp)) _) (lQ ..))
  ·have l:(c.eraseIdxIfInBounds i).toList=c.toList.eraseIdx i:=by simp
   refine sq (.tuple #[]) (w.putObj b (.map (c.eraseIdxIfInBounds i) a)) (by simp[wo,Builtin.delete_,dx j,MapKept.run_getObj_map d,g.check,n,MapKept.run_setObj_map _ d,Result.andThen,World.putObj])
    (o _ (.inr ⟨b,rfl,MT s x,c.eraseIdxIfInBounds i,a,by rw[fY,bZ rfl,d];rfl,?_,?_,?_⟩) ((de.refl _ w).putObj (b:=b) (.inl (by simp)) _) (lQ ..))
   ·rw[YC A z,l,qY,r,<-qY]
   ·grind
   ·grind
end
end Go.Vc
namespace Go.Vc
open Go Go.ChangeShapes Go.WideShapes Go.ChangeAt Go.RowKit
section
variable{H:Type}{enc:TypeId×Value->H}{P:Program}
def de.same{W a:World}(h:de (λ_=>False) W a){p:MemPlace}(hp:p.block<W.heap.size):W.sameAt a p:=by
 cases p with
 |cell b o=>exact World.cell?_of_block (w:=W) (h.blk b hp id)
 |map b=>exact h.blk b hp id
def de.frame{W a:World}(h:de (λ_=>False) W a)(may:MemPlace->Prop):W.keptBut a may:=by
 refine⟨h.os,h.out,λi b=>?_⟩;rw[h.blk i b id];split<;>simp_all
def yn{W k:World}(g:laidOutB P=true)(j:de (λ_=>False) W k):∀{ts:List TypeId} {e:List Value} {ds:List (DataW H)} {a:List MemPlace},
  (∀t∈ts,P.readableRec t=true/\t<P.types.size)->(∀x∈a,x.block<W.heap.size)->DataW.TrodAll enc P W 0 (λ_=>true) true ts e ds a->
  DataW.TrodAll enc P k 0 (λb=>decide (b<W.heap.size)) true ts e ds a
 | [],[],[],_,_,_,h=>h
 |t::ts,v::e,d::ds,a,f,hp,⟨p,q,m,l,n⟩=>by
  subst n;refine⟨p,q,?_,yn g j (λt h=>f t (cu _ h)) (λx c=>hp x (gg _ c)) l,rfl⟩;have i:=f t cw;exact WideElems.Trod_stays g i.1 i.2 m (λx c=>j.same (hp x (fk _ c))) (λx c=>by grind)
def post_of_mod{f:Func}{s:ChangeSpec}{d a:Bool}{W v:World}{b:Array Value}{ds gs:List (DataW H)}{c:List MemPlace}{n:TypeId}
  (z:laidOutB P=true)(w:(f.params.toList.all λt=>P.readableRec t&& Nat.blt t P.types.size)=true)(r:s.vars=[])
  (m:DataW.Whole enc P f.params.toList s.vars false W b.toList ds gs c)(o:de (λ_=>False) W v)
  (i:f.resultTypes= #[n])(l:P.underlying n=some .bool)(e:s.fn H (ds++gs)={results:=[.lit (.bool true)],args:=ds}):
  s.post enc P f false d a false W b (.bool true) v:=by
 have g:=m;obtain⟨p,q,y,u,rfl,C,A⟩:=m;rw[r]at u;obtain⟨rfl,rfl⟩:=trodVars_none u
 have k:∀t∈f.params.toList,P.readableRec t=true/\t<P.types.size:=λt h=>by
  have:=dF.1 w t h;simp only[cL,oX]at this;exact this
 have j:=g.lt;refine⟨ds,[],p++[],[],p,[],g,?_,?_,?_,o.frame _,λh=>by cases h⟩
 ·rw[e,i];exact trodAll_cons_mk (shut_bool l true) trodAll_mk0
 ·rw[e];exact yn z o k (λx B=>j x (by simpa using B)) y
 ·rw[r,e];rfl
def Jm{w:World}{a:Addr}{v:Value}(h:w.cell? a=some v):a.spot=none/\∃C e fz,w.heap[a.block]? =some (.cells C e fz)/\C[a.off]? =some v:=by
 unfold World.cell? at h;cases b:w.heap[a.block]? with
 |none=>rw[b]at h;cases h
 |some o=>
  rw[b]at h;cases o<;>simp at h
  obtain⟨c,d⟩:=h;exact⟨c,_,_,_,rfl,d⟩
def mJ{w:World}{a:Addr}{n cap sz:Nat}{cs:List Value}(s:n<=cap)(j:cs.length=n*sz)(d:∀i v,cs[i]? =some v->w.cell? (a.add i)=some v)(q:0<sz):Rd w sz (.slice (some a) n cap) n cs:=by
 by_cases o:n=0
 ·subst o;exact⟨j,.inl ⟨rfl,_,_,rfl⟩⟩
 have f:0<cs.length:=by rw[j];exact Nat.mul_pos (by omega) q
 obtain⟨b,c,k⟩:=a;obtain⟨g,C,e,fz,hC,-⟩:=Jm (by have:=d 0 _ (cE f);simpa [Addr.add]using this);simp only at g hC;subst g
 have h:∀i v,cs[i]? =some v->C[c+i]? =some v:=by
  intro i v m;have l:=d i v m;have r:(Addr.add ⟨b,c,none⟩ i)=⟨b,c+i,none⟩:=cS b c i;rw[r]at l;simpa [World.cell?,hC]using l
 have p:c+(cs.length - 1)<C.size:=(js.1 (h (cs.length - 1) _ (cE (by omega)))).1;refine⟨j,.inr ⟨b,c,cap,rfl,s,C,e,fz,hC,by omega,?_⟩⟩;apply ny;intro i;rw[iE];by_cases m:i<cs.length
 ·grind
 ·grind
end
section
variable{H:Type}{enc:TypeId×Value->H}{P:Program}{w:World}{base:Nat}{spare:Nat->Bool}{held:Bool}
def Wt(P:Program)(B:Nat)(t:TypeId)(d:DataW H):Prop:=∀m∈d.weights P t,m<=B
def zZ{g:Field->Option (DataW H×List MemPlace)}:∀{l:List Field} {r:List (DataW H×List MemPlace)},l.mapM g=some r->∀f∈l,∃y,g f=some y/\∀m∈y.1.weights P f.type,m∈DataW.weightsEach P (l.map (·.type)) (r.map (·.1))
 | [],_,_,x,c=>by cases c
 |a::l,r,h,x,c=>by
  rw[sh]at h;cases e:g a with
  |none=>simp[e]at h
  |some b=>
   cases d:l.mapM g with
   |none=>simp[e,d]at h
   |some n=>
    simp[e,d]at h;subst h;simp only[cM,DataW.weightsEach,dg];rcases cH.1 c with rfl|c
    ·grind
    ·obtain⟨y,j,i⟩:=zZ d x c;exact⟨y,j,λm k=>.inr (i m k)⟩
def ET{t:TypeId}{d:Array Field}{a:Nat}{cs:List Value}{x:DataW H×List MemPlace}{B:Nat}(c:P.underlying t=some (.struct d))(b:DataW.trod enc P w base spare held a t cs=some x)(l:Wt P B t x.1):
  ∀f∈d.toList,∃j y,DataW.trod enc P w base spare held j f.type ((cs.drop f.offset).take (P.cellsOf f.type))=some y/\Wt P B f.type y.1:=by
 cases a with
 |zero=>simp[DataW.trod]at b
 |succ n=>
  intro f h;simp only[DataW.trod,c]at b;split at b
  ·rw[Option.map_eq_some_iff]at b;obtain⟨o,e,rfl⟩:=b;obtain⟨y,i,g⟩:=zZ (P:=P) e f h;refine⟨n,y,i,λm k=>l m ?_⟩;simp only[DataW.weights,c];exact g m k
  ·cases b
end
end Go.Vc
namespace Go.Vc
open Go Go.Vc
structure CW(P:Program)(gv:Value)(xs:List (List Value))(Ok:World->Prop):Prop where
 out:∃f first captured,gv=.func (.func f) first captured/\∀(y:Value) (J:(Nat->Prop)->Nat->World->Prop) (Js:World->Prop) (W:World) (K:cG),Ok W->
  (∀Q W1,M0 W W1->(∀b,Q b->W.heap.size<=b/\b<W1.heap.size)->J Q 0 W1)->
  (∀Q i W W',J Q i W->M0 W W' ->J Q i W')->
  (∀Q i x W,xs[i]? =some x->J Q i W->∀K' :cG,(∀W',J Q (i+1) W' ->(∀b,Q b->W'.heap[b]? =W.heap[b]?)->K' (.bool true) W')->(∀W',Js W' ->K' (.bool false) W')->iv P y x W K')->
  (∀Q W,J Q xs.length W->K (.tuple #[]) W)->(∀W,Js W->K (.tuple #[]) W)->Ca P f ⟨first.toList++(y::captured.toList)⟩ W K
def ux{l:Nat}{W:World}{K:World->Prop}{r:Loop}(h:W.heap[l]? =some (.loop r))(b:r.state=.ready)(a:K (W.putObj l (.loop {r with state:=.busy}))):lC l W K:=
 ⟨⟨r,h,b,a⟩⟩
section
variable{P:Program}{gv:Value}{w1:World}{np:Nat}{rnd:Nat->List Value->World->(World->Prop)->(Code->World->Prop)->Prop}{after:List Nat->Option Code->World->Prop}
 {xs:List (List Value)}{Ok:World->Prop}
def Tj{f:FuncId}{first e:Array Value}{mk:List Nat}
  (B:∀(y:Value) (J:(Nat->Prop)->Nat->World->Prop) (V:World->Prop) (W:World) (K:cG),Ok W->
   (∀Q z,M0 W z->(∀b,Q b->W.heap.size<=b/\b<z.heap.size)->J Q 0 z)->
   (∀Q i W a,J Q i W->M0 W a->J Q i a)->
   (∀Q i x W,xs[i]? =some x->J Q i W->∀u:cG,(∀a,J Q (i+1) a->(∀b,Q b->a.heap[b]? =W.heap[b]?)->u (.bool true) a)->(∀a,V a->u (.bool false) a)->iv P y x W u)->
   (∀Q W,J Q xs.length W->K (.tuple #[]) W)->(∀W,V W->K (.tuple #[]) W)->Ca P f ⟨first.toList++(y::e.toList)⟩ W K)
  (O:∀x∈xs,x.length=np)(J:(Nat->Prop)->Nat->World->Prop)(I:Code->World->Prop)
  (N:∀o,Ok (w1.alloc (.loop o)))
  (Y:∀o Q W,M0 (w1.alloc (.loop o)) W->(∀b,Q b->w1.heap.size<b/\b<W.heap.size)->J Q 0 W)
  (l:∀Q i W a,J Q i W->de (λb=>b=w1.heap.size) W a->J Q i a)
  (q:∀Q i x W r,xs[i]? =some x->J Q i W->W.heap[w1.heap.size]? =some (.loop r)->r.state=.ready->∀R S,
   (∀a,J Q (i+1) a->a.heap[w1.heap.size]? =some (.loop {r with state:=.busy})->(∀b,Q b->a.heap[b]? =W.heap[b]?)->R a)->
   (∀c a,I c a->a.heap[w1.heap.size]? =some (.loop {r with state:=.busy})->S c a)->rnd w1.heap.size x W R S)
  (v:∀Q W o,J Q xs.length W->after mk none (W.putObj w1.heap.size (.loop o)))
  (s:∀c W o,I c W->after mk (some c) (W.putObj w1.heap.size (.loop o)))
  (d:Loop)(g:d.state=.ready)(j:d.pending=none)
  (hY:∀(h:List Value) (W:World) (K:cG),h.length=np->P9 W w1.heap.size d->
    rnd w1.heap.size h W
     (λa=>∃r,wU a w1.heap.size r/\K (.bool true) (a.putObj w1.heap.size (.loop {r with state:=.ready,pending:=none})))
     (λc a=>∃r,wU a w1.heap.size r/\K (.bool false) (a.putObj w1.heap.size (.loop {r with state:=.done,pending:=some c})))->
    Yl P w1.heap.size ⟨h⟩ W K):
  Ca P f ⟨first.toList++(.func (.yield w1.heap.size) #[] #[]::e.toList)⟩ (w1.alloc (.loop d)) λ_ W=>
    ∃r,wU W w1.heap.size r/\r.state≠ .busy/\after mk r.pending (W.putObj w1.heap.size (.loop {r with state:=.exhausted})):=by
 have D:∀(W:World) (o:Obj),de (λb=>b=w1.heap.size) W (W.putObj w1.heap.size o):=λW o=>(de.refl _ W).putObj (b:=w1.heap.size) (.inl (by simp)) o;have n:(w1.alloc (.loop d)).heap[w1.heap.size]? =some (.loop d):=by rw[gy,bZ rfl]
 have T:(w1.alloc (.loop d)).heap.size=w1.heap.size+1:=eG ..
 refine B _ (λQ i W=>J Q i W/\W.heap[w1.heap.size]? =some (.loop d)/\∀b,Q b->w1.heap.size<b)
  (λW=>∃c r t,I c t/\W=t.putObj w1.heap.size (.loop r)/\W.heap[w1.heap.size]? =some (.loop r)/\r.state=.done/\r.pending=some c) _ _ (N d) ?_ ?_ ?_ ?_ ?_
 ·intro Q z C w;refine⟨Y d Q z C λb E=>⟨?_,(w b E).2⟩,C.keep n id,λb E=>?_⟩
  ·grind
  ·grind
 ·rintro Q i W a ⟨A,m,w⟩ C;exact⟨l Q i W a A (C.mono λ_ _ hf=>hf.elim),C.keep m id,w⟩
 ·rintro Q i x W U ⟨A,m,w⟩ u hT hF;apply oe.2;show Yl P w1.heap.size ⟨_⟩ W u;have F:x.length=np:=O x (dL U);have e1:(#[]:Array Value).toList++x=x:=rfl;rw[e1];apply hY x W u F ⟨d.state,d.pending,m⟩;refine q Q i x W d U A m g _ _ ?_ ?_
  ·intro a G k Z;refine⟨_,k,hT _ ⟨l _ _ _ _ G (D _ _),?_,w⟩ λb E=>?_⟩
   ·rw[fY,bZ rfl,k];simp[<-g,<-j]
   ·rw[fY,aZ (by grind)];exact Z b E
  ·intro c a p k;refine⟨_,k,hF _ ⟨c,{d with state:=.done,pending:=some c},a,p,rfl,?_,rfl,rfl⟩⟩;rw[fY,bZ rfl,k];rfl
 ·rintro Q W ⟨A,m,_⟩;refine⟨d,m,by rw[g];decide,?_⟩;rw[j];exact v Q W _ A
 ·rintro W ⟨c,r,t,p,rfl,m,L,H⟩;refine⟨r,m,by rw[L];decide,?_⟩
  have X:∀o M:Obj,(t.putObj w1.heap.size o).putObj w1.heap.size M=t.putObj w1.heap.size M:=λo M=>by
   simp[World.putObj]
  rw[X,H];exact s c t _ p
def Is{w:World}(m:CW P gv xs Ok)(l:∀x∈xs,x.length=np)(J:(Nat->Prop)->Nat->World->Prop)(k:Code->World->Prop)
  (s:∀o,Ok ((w.alloc (.deferred (some []))).alloc (.loop o)))
  (A:∀o Q W,M0 ((w.alloc (.deferred (some []))).alloc (.loop o)) W->(∀b,Q b->w.heap.size+1<b/\b<W.heap.size)->J Q 0 W)
  (v:∀Q i W a,J Q i W->de (λb=>b=w.heap.size+1) W a->J Q i a)
  (p:∀Q i x W r,xs[i]? =some x->J Q i W->W.heap[w.heap.size+1]? =some (.loop r)->r.state=.ready->∀t y,
   (∀a,J Q (i+1) a->a.heap[w.heap.size+1]? =some (.loop {r with state:=.busy})->(∀b,Q b->a.heap[b]? =W.heap[b]?)->t a)->
   (∀c a,k c a->a.heap[w.heap.size+1]? =some (.loop {r with state:=.busy})->y c a)->rnd (w.heap.size+1) x W t y)
  (u:∀Q W o,J Q xs.length W->after [w.heap.size] none (W.putObj (w.heap.size+1) (.loop o)))
  (q:∀c W o,k c W->after [w.heap.size] (some c) (W.putObj (w.heap.size+1) (.loop o))):
  yP P none gv w np rnd after:=by
 obtain⟨f,first,g,rfl,h⟩:=m.out;apply wu.2;show∀j:Loop,_;intro j d e B z;have n:(w.alloc (.deferred (some []))).heap.size=w.heap.size+1:=eG ..;refine Tj (w1:=w.alloc (.deferred (some []))) h l J k s ?_ ?_ ?_ ?_ ?_ j d e z
 all_goals rw[n]
 all_goals assumption
end
def KL{C xs a:List Value}{o:Nat}(h:o+xs.length+a.length<=C.length):mh (mh C o xs) (o+xs.length) a=mh C o (xs++a):=by
 unfold mh
 have c:(C.take o++xs++C.drop (o+xs.length)).take (o+xs.length)=C.take o++xs:=by
  rw[dh (by simp;omega),cT (by simp;omega)]
 have b:(C.take o++xs++C.drop (o+xs.length)).drop (o+xs.length+a.length)=C.drop (o+(xs++a).length):=by
  rw[qF,List.drop_eq_nil_of_le (by simp;omega),jO,eN];congr 1;simp;omega
 rw[c,b];simp[df]
end Go.Vc
