/- Part of a proof. -/
import Derived.Scope
import Derived.WalkKit
import Derived.WalkLawsBesides
import Derived.RowKit3
import Derived.Laws.Cover3
import Derived.Laws.CopyRow
import Derived.Laws.Append
import Derived.Laws.MakeOwn
import Derived.Laws.IdiomStrings
import Derived.Laws.BytesString
import Derived.Test.YtekbnpagidkbbaaGreatQ2
set_option linter.all false
namespace Go.Vc
open Go Go.Vc
variable {ds mk:List Nat}{F:NP_}{n:Nat}{P:Program}{p:Prop}{a s:Sem Value}{v:Vt_}{w w' :Wt_}{K:aY}{E:fi}
def qk{E E' :fi}(h:∀t,E'.get t=E.get t):∀l,kN E' l=kN E l
 | []=>rfl
 |t::l=>by
  simp only[kN,h t];rw[qk h l]
def CN:∀{l:List Nat} {s:DP l} {r:List (Nat×Option Value)} {g:Nat->Value} {ds:List Nat},l.Nodup->kN {l:=ri l s r,g:=g,ds:=ds} l=s
 | [],_,_,_,_,_=>rfl
 |t::l,(v,s),r,g,ds,d=>by
  obtain⟨b,d⟩:=bY.1 d;simp only[kN];refine Prod.ext ?_ ?_
  ·simp[fi.get,ri,fi.look]
  ·simp only
   have e:∀a,t ∉ a->kN {l:=ri (t::l) (v,s) r,g:=g,ds:=ds} a=kN {l:=ri l s r,g:=g,ds:=ds} a:=by
    intro a;induction a with
    |nil=>intro _;rfl
    |cons k a j=>
     intro f
     have c:Nat.beq t k=false:=by
      cases h:Nat.beq t k with
      |false=>rfl
      |true=>exact absurd (by rw[dN h];exact ai) f
     simp only[kN];rw[j λi=>f (af _ i)];congr 1;simp[fi.get,ri,fi.look,c]
   rw[e l b];exact CN d
def tx{ds:List Nat}:∀{l:List (Nat×Option Value)} {acc:List Nat},acc.Nodup->(fO ds l acc).Nodup
 | [],acc,h=>by simpa [fO]using h
 |(k,v)::r,acc,h=>by
  unfold fO;cases a:ds.contains k&& !acc.contains k with
  |true=>
   simp only[ao]at a;exact tx (bY.2 ⟨by simpa using a.2,h⟩)
  |false=>exact tx h
def yB{E1 e:fi}{a:Act}(h1:Fr ds E e)(c:ul n e a)(h:e.ds=mk):
  ul n (oK E ds (fO ds E.l []) (kN e (fO ds E.l [])) (λt=>a.tmps.getD t undef) mk) a:=by
 refine⟨c.size,λt=>?_,by rw[c.defs,h];rfl⟩;by_cases d:t∈ds
 ·by_cases g:t∈fO ds E.l []
  ·unfold fi.get oK;simp only[oy g];exact c.get t
  ·have b:fi.look E.l t=none:=by
    apply aI;intro f;exact g (qV d f)
   unfold fi.get oK;have:ds.contains t=true:=by simpa using d
   simp only[nP g,b,this]
 ·rw[sH t d,<-h1 t d];exact c.get t
def HA{h:fi}{b:List Nat}{a:Act}(d:∀t∈ds,fi.look E.l t≠none->t∈b)(e:∀t∈b,t∈ds)(h1:Fr ds E h)(f:ul n h a)(k:h.ds=mk):
  ul n (oK E ds b (kN h b) (λt=>a.tmps.getD t undef) mk) a:=by
 refine⟨f.size,λt=>?_,by rw[f.defs,k];rfl⟩;by_cases g:t∈ds
 ·by_cases j:t∈b
  ·unfold fi.get oK;simp only[oy j];exact f.get t
  ·have c:fi.look E.l t=none:=by
    apply aI;intro i;exact j (d t g i)
   unfold fi.get oK;have:ds.contains t=true:=by simpa using g
   simp only[nP j,c,this]
 ·rw[C4 e t g,<-h1 t g];exact f.get t
def zR:∀t,(oK E ds (fO ds E.l []) (kN E (fO ds E.l [])) E.g E.ds).get t=E.get t:=by
 intro t;by_cases d:t∈ds
 ·by_cases c:t∈fO ds E.l []
  ·simp only[fi.get,oK,oy c]
  ·have a:fi.look E.l t=none:=by
    apply aI;intro b;exact c (qV d b)
   have:ds.contains t=true:=by simpa using d
   simp only[fi.get,oK,nP c,this,a]
 ·exact sH t d
def yP{s:DP (fO ds E.l [])}{g:Nat->Value}:kN (oK E ds (fO ds E.l []) s g mk) (fO ds E.l [])=s:=
 CN (tx iP)
def Wp(a:Act):fi:={l:=[],g:=λt=>a.tmps.getD t undef,ds:=a.defers.map λd=>match d.target with| .collected r=>r|_=>0}
def ul.actE{a:Act}(h:ul n E a):(∀t,(Vc.Wp a).get t=E.get t)/\(Vc.Wp a).ds=E.ds:=by
 refine⟨h.get,?_⟩;unfold Vc.Wp;simp only;rw[h.defs,dK]
 conv=>rhs;rw[<-kD E.ds]
 exact dZ λ_ _=>rfl
def yZ(g:tP P=true){f:FuncId}{a:Array Value}{w w1:Wt_}{K:aY}(h:Ca P f a w K):
  (callFunc f a).run P w1=.ok (.enter f a) w1:=by
 obtain⟨fn,e,i⟩:=h.bodied
 have d:(fn.name== "runtime.NumGoroutine")=false:=by
  have:=(jC.1 g) fn (Array.mem_of_getElem? e);simpa using this
 have b:¬fn.name= "runtime.NumGoroutine" :=by simpa using d
 have c:¬fn.body=none:=by grind
 unfold callFunc;simp[dh,Result.andThen,e,b,c]
def Az{n:Nat}:∀(f:List Nat) (i:Nat) (b:LV_) (E:fi) (c:Array Value),(f.all λd=>Nat.blt d n)=true->b.length=i+f.length->ul n E {tmps:=c,defers:=[]}->
  ul n {E with l:=vt f i b E.l} {tmps:=(f.zip (b.drop i)).foldl (λc (t,a)=>c.setIfInBounds t a) c,defers:=[]}
 | [],_,_,E,c,_,_,h=>by simpa [vt]using h
 |t::f,i,b,E,c,e,g,h=>by
  simp only[mH,ao]at e;simp only[be]at g;have j:i<b.length:=qZ;have k:=dA j;have m:b.getD i undef=b[i]:=by simp[j]
  have h1:ul n (E.put (some t) b[i]) (({tmps:=c,defers:=[]}:Act).put (some t) b[i]):=h.put (d:=some t) e.1 _;have:=Az f (i+1) b (E.put (some t) b[i]) (c.setIfInBounds t b[i]) e.2 qZ h1;rw[k];simpa only[vt,fi.put,m,List.zip_cons_cons,eV]using this
def MS(d:Array Nat)(c:LV_)(b:Array Value):
  (d.zip ⟨c⟩).foldl (λb (t,a)=>b.setIfInBounds t a) b=(d.toList.zip c).foldl (λb (t,a)=>b.setIfInBounds t a) b:=by
 rw[<-Array.foldl_toList];simp
def uU{l0:Nat}{r:Loop}(h:w.heap[l0]? =some (.loop r))(fn:FuncId)(tmps:Array Value)(a:Array Tmp)(assign body:Code):
  (Instr.enterLoop fn tmps a assign body (some l0)).run P w=
   .ok (w.heap.size,[]) (w.alloc (.loop {state:=.ready,pending:=none,fn,tmps,params:=a,assign,body,defers:=r.defers})):=by
 unfold Instr.enterLoop;simp only[dh,run_getLoop h,Result.andThen,ib,run_newObj_alloc]
def OE{jn:Bool}(hP:tP P=true){n:Nat}:∀c B Q H E a w,
  Hu P n c=true->ul n E a->(∀e E a w,ul n E a->Q e E w->H e a w)->vc P jn B c Q E w->c.wpIn (FR B) 0 P H a w:=by
 intro c;induction c with
 |skip=>intro B Q H E a w _ A p h;exact wpIn_skip (p _ _ _ _ A h)
 |region id ops draw=>
  intro B Q H E a w q A p h;simp only[Hu,ao]at q;cases draw with
  |false=>exact wpIn_region_list (Dk (ops:=ops.toList) hP (p .normal) ops.toList q.1 E a w A h)
  |true=>
   have U:=q.2;simp only[jk,fG,ao]at U;apply wpIn_region_any U.1
   have:=Mn (ro:=B) (ops:=ops.toList) hP U.2 q.1 (p .normal) ops.size [] [] [] [] E a w.drew (ops.toList.length+1) (Array.replicate ops.size false)
    ⟨(λi=>by simp),(λi hi=>by cases hi),iP,trivial,(λi hi=>by cases hi),A.size,A.defs,(λt _=>A.get t),(λi hi=>by cases hi)⟩
    (λi hi=>by simp at hi;simp[hi]) (by simp) (by simp) (by grind) h
   simpa using this
 |seq x y ihx ihy=>
  intro B Q H E a w q A p h;simp only[Hu,ao]at q;simp only[vc]at h;cases hj:jn&& Gi x y with
  |true=>
   rw[hj]at h;simp only[ud]at h;obtain⟨J,hJ,hA⟩:=h.out;simp only[ao]at hj;have Z:=Fz hj.2
   have hA' :=Eh x B _ (λe L S=>(match e with| .normal=>J (kN L (KB (gh x) E.l (rt y))) S|e=>Q e L S)/\Fr (gh x) E L/\L.ds=E.ds) _ w hA
    (λe L S V hd o=>⟨by grind,V,hd Z⟩)
   refine wpIn_seq (ihx B _ _ E a w q.1 A (λe E1 X u k o=>?_) hA');obtain⟨o,V,hd⟩:=o;cases e with
   |normal=>exact ihy B Q H _ X u q.2 (HA (λt ht hne=>Lp ht hne) B9 V k hd) p (hJ _ _ o _)
   |exit id=>exact p _ _ _ _ k o
   |goto id=>exact p _ _ _ _ k o
   |ret=>exact p _ _ _ _ k o
   |panic ch=>exact p _ _ _ _ k o
   |outgrown=>exact p _ _ _ _ k o
  |false=>
  rw[hj]at h;refine wpIn_seq (ihx B _ _ E a w q.1 A (λe E1 X u k o=>?_) h);cases e with
  |normal=>exact ihy B Q H E1 X u q.2 k p o
  |exit id=>exact p _ _ _ _ k o
  |goto id=>exact p _ _ _ _ k o
  |ret=>exact p _ _ _ _ k o
  |panic ch=>exact p _ _ _ _ k o
  |outgrown=>exact p _ _ _ _ k o
 |cond c t f iht ihf=>
  intro B Q H E a w q A p h;simp only[Hu,ao]at q;simp only[vc,Ep]at h;split at h
  ·rename_i b T
   have hb' :a.eval c=.bool b:=by rw[A.ev];exact T
   cases b with
   |true=>exact wpIn_cond hb' (iht B Q H E a w q.1 A p h)
   |false=>exact wpIn_cond hb' (ihf B Q H E a w q.2 A p h)
  ·exact h.elim
 |block id c ih=>
  intro B Q H E a w q A p h;refine wpIn_block (ih B _ _ E a w q A (λe E1 X u k o=>?_) h);cases e with
  |exit i=>
   simp only at o;cases T:Nat.beq i id with
   |true=>
    rw[T]at o;simp only[bc]at o;simp only[Exit.inBlock,dN T,cZ];exact p _ _ _ _ k o
   |false=>
    rw[T]at o;have hne:¬i=id:=λe=>by subst e;simp at T
    simp only[Exit.inBlock,hne,da];exact p _ _ _ _ k o
  |normal=>exact p _ _ _ _ k o
  |goto id=>exact p _ _ _ _ k o
  |ret=>exact p _ _ _ _ k o
  |panic ch=>exact p _ _ _ _ k o
  |outgrown=>exact p _ _ _ _ k o
 |loop c ih=>
  intro B Q H E a w q A p h;simp only[vc,ud]at h;cases Z:mC c with
  |false=>
   rw[Z]at h;obtain⟨I,m,h0,h1⟩:=h.out
   refine wpIn_loop (λa w=>∃s g,ul n (oK E (gh c) (fO (gh c) E.l []) s g E.ds) a/\I s w) (λa w=>m (kN (Wp a) (fO (gh c) E.l [])) w)
    ⟨_,E.g,A.of_get zR rfl,h0⟩ ?_
   rintro X u ⟨s,g,k,hI⟩
   have T:=Eh c B _ (λe L S=>(match e with| .normal=>I (kN L (fO (gh c) E.l [])) S/\m (kN L (fO (gh c) E.l [])) S<m s u|e=>Q e L S)/\Fr (gh c) E L/\L.ds=E.ds) _ u (h1 s u hI g)
    (λe L S V hd o=>⟨by grind,sH.trans V,hd Z⟩)
   refine ih B _ _ _ X u q k (λe E2 a2 w2 z o=>?_) T;obtain⟨o,V,hd⟩:=o;cases e with
   |normal=>
    refine⟨⟨_,_,yB (E1:=E) V z hd,o.1⟩,?_⟩;rw[qk (z.actE.1),qk (k.actE.1),yP];exact o.2
   |exit id=>exact p _ _ _ _ z o
   |goto id=>exact p _ _ _ _ z o
   |ret=>exact p _ _ _ _ z o
   |panic ch=>exact p _ _ _ _ z o
   |outgrown=>exact p _ _ _ _ z o
  |true=>
   rw[Z]at h;obtain⟨I,m,h0,h1⟩:=h.out
   refine wpIn_loop (λa w=>∃s g,ul n (oK E (gh c) (fO (gh c) E.l []) s.1 g s.2) a/\I s w) (λa w=>m (kN (Wp a) (fO (gh c) E.l []),(Wp a).ds) w)
    ⟨(_,E.ds),E.g,A.of_get zR rfl,h0⟩ ?_
   rintro X u ⟨s,g,k,hI⟩
   have T:=Eh c B _ (λe L S=>(match e with| .normal=>I (kN L (fO (gh c) E.l []),L.ds) S/\m (kN L (fO (gh c) E.l []),L.ds) S<m s u|e=>Q e L S)/\Fr (gh c) E L) _ u (h1 s u hI g)
    (λe L S V hd o=>⟨by grind,sH.trans V⟩)
   refine ih B _ _ _ X u q k (λe E2 a2 w2 z o=>?_) T;obtain⟨o,V⟩:=o;cases e with
   |normal=>
    refine⟨⟨(_,E2.ds),_,yB (E1:=E) V z rfl,o.1⟩,?_⟩;rw[qk (z.actE.1),qk (k.actE.1),yP,z.actE.2,k.actE.2];exact o.2
   |exit id=>exact p _ _ _ _ z o
   |goto id=>exact p _ _ _ _ z o
   |ret=>exact p _ _ _ _ z o
   |panic ch=>exact p _ _ _ _ z o
   |outgrown=>exact p _ _ _ _ z o
 |rangeFunc gv ps assign body iha ihb=>
  intro B Q H E a w q A p h;simp only[Hu,ao]at q;obtain⟨⟨hps,hoka⟩,hokb⟩:=q;simp only[vc,sV,Z2]at h;split at h
  ·rename_i f first j hgv
   have hgv' :a.eval gv=.func (.func f) first j:=by rw[A.ev];exact hgv
   have main:∀(u:Wt_) (D:Nat) (mk:List Nat) (fn:FuncId),
     (∀rec:Loop,rec.state=.ready->rec.pending=none->rec.defers=D->
      (∀(C:LV_) (W:Wt_) (K:aY),C.length=ps.toList.length->O3 W u.heap.size rec->
       vc P jn (some u.heap.size) assign (λe E W=>match e with
        | .normal=>pP u.heap.size W λW=>vc P jn (some u.heap.size) body (λe _ W=>match e with
         | .normal=>∃r,tO W u.heap.size r/\K (.bool true) (W.putObj u.heap.size (.loop {r with state:=.ready,pending:=none}))
         | .ret=>∃r,tO W u.heap.size r/\K (.bool false) (W.putObj u.heap.size (.loop {r with state:=.done,pending:=some .ret}))
         | .exit id=>∃r,tO W u.heap.size r/\K (.bool false) (W.putObj u.heap.size (.loop {r with state:=.done,pending:=some (.exit id)}))
         |_=>False) E W
        |_=>False) {E with l:=vt ps.toList 0 C E.l,ds:=[]} W->
       Yl P u.heap.size ⟨C⟩ W K)->
      Ca P f ⟨first.toList++(.func (.yield u.heap.size) #[] #[]::j.toList)⟩ (u.alloc (.loop rec)) λ_ W=>
       ∃r,tO W u.heap.size r/\r.state≠ .busy/\jx (λW=>Q .normal {E with ds:=mk++E.ds} W) (λW=>Q .ret {E with ds:=mk++E.ds} W)
        (λid W=>Q (.exit id) {E with ds:=mk++E.ds} W) r.pending (W.putObj u.heap.size (.loop {r with state:=.exhausted})))->
     let rc:Loop:={state:=.ready,pending:=none,fn,tmps:=a.tmps,params:=ps,assign,body,defers:=D}
     let a' :Act:={a with defers:=(mk.map λd=>{target:=.collected d,args:=#[]})++a.defers}
     CallsIn (FR B) 0 P f ⟨first.toList++(.func (.yield u.heap.size) #[] #[]::j.toList)⟩ (u.alloc (.loop rc)) (rangePost (FR B) 0 P u.heap.size H a')/\
      ∀w2,(callFunc f ⟨first.toList++(.func (.yield u.heap.size) #[] #[]::j.toList)⟩).run P w2=.ok (.enter f ⟨first.toList++(.func (.yield u.heap.size) #[] #[]::j.toList)⟩) w2:=by
    intro u D mk fn hh rc a'
    have hca:=hh rc rfl rfl rfl (λC W K hlen hrec hrnd=>by
     obtain⟨st,pend,hat⟩:=hrec;refine⟨_,_,_,_,run_yield hat (by simpa using hlen),?_⟩;apply roundIn_of_wpIn (F:=Fence.wide) trivial
     have hrel:ul n {E with l:=vt ps.toList 0 C E.l,ds:=[]} {tmps:=(ps.zip ⟨C⟩).foldl (λO (t,a)=>O.setIfInBounds t a) a.tmps,defers:=[]}:=by
      rw[MS];exact Az ps.toList 0 C {E with ds:=[]} a.tmps hps (by simpa using hlen) ⟨A.size,A.get,rfl⟩
     refine iha (some u.heap.size) _ _ _ _ W hoka hrel (λe E1 X W1 k o=>?_) hrnd;cases e with
     |normal=>
      obtain⟨r,hra,hst,hbody⟩:=o.out;refine⟨_,run_beginRound hra hst,?_⟩;refine ihb (some u.heap.size) _ _ E1 X _ hokb k (λe E2 a2 W2 z R=>?_) hbody;cases e with
      |normal=>
       obtain⟨r2,N,hK⟩:=R;exact⟨_,_,run_endRound none N,_,rfl,hK⟩
      |ret=>
       obtain⟨r2,N,hK⟩:=R;exact⟨_,_,run_endRound _ N,_,rfl,hK⟩
      |exit id=>
       obtain⟨r2,N,hK⟩:=R;exact⟨_,_,run_endRound _ N,_,rfl,hK⟩
      |goto id=>exact R.elim
      |panic ch=>exact R.elim
      |outgrown=>exact R.elim
     |exit id=>exact o.elim
     |goto id=>exact o.elim
     |ret=>exact o.elim
     |panic ch=>exact o.elim
     |outgrown=>exact o.elim)
    refine⟨FR.calls (jW hca.out ?_),λw2=>yZ hP hca⟩;rintro e W ⟨v,rfl,r,hra,T,M⟩;refine⟨_,_,run_endLoop hra T,?_⟩;have hr' :ul n {E with ds:=mk++E.ds} a' :=⟨A.size,A.get,by simp only[a',A.defs,aM]⟩
    generalize W.putObj u.heap.size (.loop {r with state:=.exhausted})=W4 at M|-;unfold jx at M;split at M
    ·grind
    ·rename_i hp;rw[hp];exact wpIn_ret (p _ _ _ _ hr' M)
    ·rename_i hp;rw[hp];exact wpIn_exit (p _ _ _ _ hr' M)
    ·exact M.elim
   refine wpIn_rangeFunc λfn _=>?_
   have hinv:∀l,(do let d<-resolve a.eval (rangeCall gv l) 0;invoke d.target d.args:Sem Next)=callFunc f ⟨first.toList++(.func (.yield l) #[] #[]::j.toList)⟩:=by
    intro l;have e1:resolve a.eval (rangeCall gv l) 0=Deferred.ofValue (a.eval gv) #[.func (.yield l) #[] #[]]:=by simp[resolve,Act.eval]
    rw[e1,hgv'];have e2:(do let d<-Deferred.ofValue (.func (.func f) first j) #[.func (.yield l) #[] #[]];invoke d.target d.args:Sem Next)=callFunc f (first++ #[.func (.yield l) #[] #[]]++j):=rfl;rw[e2];congr 1;apply kg;simp
   have hres:∀l u,(resolve a.eval (rangeCall gv l) 0).run P u=.ok {target:=.fn (.func f) j,args:=first++ #[.func (.yield l) #[] #[]]} u:=by
    intro l u;have e1:resolve a.eval (rangeCall gv l) 0=Deferred.ofValue (a.eval gv) #[.func (.yield l) #[] #[]]:=by simp[resolve,Act.eval]
    rw[e1,hgv'];rfl
   have hinv2:∀l,(invoke (.fn (.func f) j) (first++ #[.func (.yield l) #[] #[]]):Sem Next)=callFunc f ⟨first.toList++(.func (.yield l) #[] #[]::j.toList)⟩:=by
    intro l;have e2:(invoke (.fn (.func f) j) (first++ #[.func (.yield l) #[] #[]]):Sem Next)=callFunc f (first++ #[.func (.yield l) #[] #[]]++j):=rfl;rw[e2];congr 1;apply kg;simp
   cases B with
   |none=>
    have hm:=main (w.alloc (.deferred (some []))) w.heap.size [w.heap.size] fn h;obtain⟨W1,Y⟩:=df ((w.alloc (.deferred (some []))).alloc (.loop {state:=.ready,pending:=none,fn,tmps:=a.tmps,params:=ps,assign,body,defers:=w.heap.size}));have hm1:=hm.1;have hm2:=hm.2 W1;rw[cm]at hm1 hm2;refine⟨w.heap.size+1,[{target:=.collected w.heap.size,args:=#[]}],W1,_,W1,f,⟨first.toList++(.func (.yield (w.heap.size+1)) #[] #[]::j.toList)⟩,W1,?_,hres _ _,λ_ _=>FR.fn none _,?_,(λhh=>by rw[FR.depth]at hh;cases hh),?_⟩
    ·rw[Y];exact run_enterLoop_outer fn a.tmps ps assign body
    ·rw[hinv2];exact hm2
    ·rw[Y];exact hm1
   |some l0=>
    obtain⟨r0,hr0,h⟩:=h;have hm:=main w r0.defers [] fn h;obtain⟨W1,Y⟩:=df (w.alloc (.loop {state:=.ready,pending:=none,fn,tmps:=a.tmps,params:=ps,assign,body,defers:=r0.defers}));refine⟨w.heap.size,[],W1,_,W1,f,⟨first.toList++(.func (.yield w.heap.size) #[] #[]::j.toList)⟩,W1,?_,hres _ _,λ_ _=>FR.fn (some l0) _,?_,(λhh=>by rw[FR.depth]at hh;cases hh),?_⟩
    ·rw[FR.round,Y];exact uU hr0 fn a.tmps ps assign body
    ·grind
    ·rw[Y];exact hm.1
  ·exact h.elim
 |exit id=>intro B Q H E a w _ A p h;exact wpIn_exit (p _ _ _ _ A h)
 |scope c ih=>
  intro B Q H E a w q A p h;cases B with
  |some l=>exact h.elim
  |none=>
   refine wpIn_wide.2 (wp_scope_straight ((wpIn_wide (n:=0)).1 ?_));refine ih none (λe E w=>match e with| .goto _=>False|e=>Q e E w) (Exit.noGoto H) E a w q A (λe E1 X u k o=>?_) h;cases e with
   |goto l=>exact o.elim
   |exit id=>exact p _ _ _ _ k o
   |normal=>exact p _ _ _ _ k o
   |ret=>exact p _ _ _ _ k o
   |panic ch=>exact p _ _ _ _ k o
   |outgrown=>exact p _ _ _ _ k o
 |label l=>intro B Q H E a w _ A p h;exact wpIn_label (p _ _ _ _ A h)
 |goto l=>intro B Q H E a w _ A p h;exact h.elim
 |ret=>intro B Q H E a w _ A p h;exact wpIn_ret (p _ _ _ _ A h)
 |refuse why=>intro B Q H E a w _ A p h;exact h.elim
def zb:List Nat->World->(World->Prop)->Prop
 | [],w,K=>K w
 |d::ds,w,K=>w.heap[d]? =some (.deferred (some []))/\zb ds (w.putObj d (.deferred none)) K
def Dj(P:Program):List ResultVar->fi->World->(List Value->Prop)->Prop
 | [],_,_,K=>K []
 | .tmp t::r,E,w,K=>Dj P r E w λvs=>K (E.get t::vs)
 | .cell a t::r,E,w,K=>match BO P t with
  |true=>BL P (qm t (E.get a)) w λv=>Dj P r E w λvs=>K (v::vs)
  |false=>l8 P (iL t (E.get a)) w λv=>Dj P r E w λvs=>K (v::vs)
def Fb:List Value->Value
 | [v]=>v
 |vs=>.tuple ⟨vs⟩
def CD:Nat->List Value->List (Nat×Option Value)
 |_,[]=>[]
 |i,v::r=>(i,some v)::CD (i+1) r
def Oc(P:Program)(jn:Bool)(fn:Func)(args:LV_)(w:Wt_)(K:aY):Prop:=
 match fn.body with
 |none=>False
 |some c=>vc P jn none c (λe E w=>match e with
   | .normal=>zb E.ds w λw=>Dj P fn.results.toList E w λvs=>K (Fb vs) w
   | .ret=>zb E.ds w λw=>Dj P fn.results.toList E w λvs=>K (Fb vs) w
   |_=>False) {l:=CD 0 args,g:=λ_=>undef,ds:=[]} w
def PB(P:Program)(fn:Func)(args:LV_)(w:Wt_)(K:aY):Prop:=Oc P true fn args w K
def Y0(P:Program)(fn:Func)(k:Nat):Bool:=
 Nat.ble k fn.ntmps&& match fn.body with
 |none=>false
 |some c=>Hu P fn.ntmps c
def Bx(t:Nat):∀l i,fi.look (CD i l) t=if i<=t then(l[t - i]?).map some else none
 | [],i=>by simp[CD,fi.look]
 |v::r,i=>by
  simp only[CD,fi.look];cases a:Nat.beq i t with
  |true=>have:=dN a;subst this;simp
  |false=>
   have b:i≠t:=λe=>by subst e;simp at a
   simp only[cond_false];rw[Bx t r (i+1)];by_cases h:i+1<=t
   ·grind
   ·grind
def K5(a:LV_)(n:Nat)(h:a.length<=n):
  ul n {l:=CD 0 a,g:=λ_=>undef,ds:=[]} {tmps:=(⟨a⟩:Array Value)++Array.replicate (n - a.length) undef,defers:=[]}:=by
 refine⟨by simp;omega,λt=>?_,rfl⟩;unfold fi.get;rw[Bx];simp only[aJ,cZ,jL];by_cases b:t<a.length
 ·rw[fV,Array.getElem?_append_left (by simpa using b)];simp[aq b]
 ·rw[gr qZ];rw[fV,Array.getElem?_append_right (by grind)];simp only[Option.map_none];cases c:(Array.replicate (n - a.length) undef)[t - (⟨a⟩:Array Value).size]? with
  |none=>rfl
  |some v=>
   have:=(iI.1 c).2;simp at this;simp[this]
def Bo(tmps:Array Value):ResultVar->Sem Value
 | .tmp t=>pure (tmps.getD t undef)
 | .cell a t=>do loadVar t (<-asAddr (tmps.getD a undef))
def Bh{P:Program}{b:Array Value}{E:fi}{w:Wt_}(d:∀t,b.getD t undef=E.get t):∀rs K,Dj P rs E w K->
  ∃vs,(rs.mapM (Bo b)).run P w=.ok vs w/\K vs
 | [],K,h=>⟨[],rfl,h⟩
 | .tmp t::r,K,h=>by
  obtain⟨vs,h1,e⟩:=Bh d r _ h;refine⟨_,?_,e⟩;have f:(Bo b (.tmp t)).run P w=.ok (E.get t) w:=by rw[<-d];rfl
  simp only[oF,dh,ib,Result.andThen,f,h1]
 | .cell a t::r,K,h=>by
  have h:l8 P (Instr.loadAt t (E.get a)) w λv=>Dj P r E w λvs=>K (v::vs):=by
   simp only[Dj]at h;cases i:BO P t with
   |true=>rw[i]at h;exact h.out
   |false=>rw[i]at h;exact h
  simp only[xd,Fe]at h;split at h
  ·rename_i v g c
   obtain⟨rfl,h⟩:=h;obtain⟨vs,h1,e⟩:=Bh d r _ h;refine⟨_,?_,e⟩
   have f:(Bo b (.cell a t)).run P g=.ok v g:=by
    have j:Bo b (.cell a t)=(do loadVar t (<-asAddr (b.getD a undef))):=rfl;rw[j,d];unfold Instr.loadAt at c;cases k:E.get a<;>rw[k]at c<;>first|(simp[Instr.sureAddr,stuck,dh,Sem.run,Result.andThen]at c;done)|skip
    rename_i p
    cases p with
    |none=>simp[Instr.sureAddr,stuck,dh,Sem.run,Result.andThen]at c
    |some p=>
     simp only[Instr.sureAddr,asAddr,dh,ib,Result.andThen]at c|-;exact c
   simp only[oF,dh,ib,Result.andThen,f,h1]
  ·exact h.elim
def IS(fn:Func)(a:Array Value):results fn a=(do
  let vs<-fn.results.mapM (Bo a)
  pure (if h:vs.size=1 then vs[0]else .tuple vs)):=by
 unfold results;congr 1
def xV{P:Program}{fn:Func}{a:Array Value}{E:fi}{K:aY}(b:∀t,a.getD t undef=E.get t):∀ds w,
  zb ds w (λw=>Dj P fn.results.toList E w λvs=>K (Fb vs) w)->
  LeavesInM Fence.wide 0 P fn a (λe c=>∃v,e=.returned v/\K v c) (ds.map λd=>{target:=.collected d,args:=#[]}) .returning w
 | [],w,h=>by
  obtain⟨vs,h1,f⟩:=Bh b _ _ h;refine⟨Fb vs,?_,_,rfl,f⟩;rw[IS,Array.mapM_eq_mapM_toList];simp only[dh,Sem.run_map,h1,Result.andThen,ib];congr 1
  match vs with
  | []=>rfl
  | [v]=>rfl
  |v::u::r=>simp[Fb]
 |d::ds,w,h=>by
  refine⟨by simp,.inl ⟨d,_,rfl,run_takeDeferred h.1,xV b ds _ h.2⟩⟩
def Lh{o:Bool}(q:tP P=true){f:FuncId}{fn:Func}{b:LV_}{w:Wt_}{K:aY}(p:P.funcs[f]? =some fn)(d:Y0 P fn b.length=true)
  (h:Oc P o fn b w K):Ca P f ⟨b⟩ w K:=by
 unfold Y0 at d;unfold Oc at h;simp only[ao]at d;obtain⟨i,d⟩:=d;cases m:fn.body with
 |none=>rw[m]at h;exact h.elim
 |some c=>
  rw[m]at h d;refine⟨(callsIn_wide (n:=0)).1 (callsIn_of_wp_marks p m trivial ?_ rfl)⟩;have j:=K5 b fn.ntmps (by simpa [Nat.ble_eq]using i);refine OE (n:=fn.ntmps) q c none _ _ _ _ w d j (λe E a r l g=>?_) h;cases e with
  |normal=>have k:=xV (K:=K) l.get _ _ g;rw[<-l.defs]at k;exact k
  |ret=>have k:=xV (K:=K) l.get _ _ g;rw[<-l.defs]at k;exact k
  |exit id=>exact g.elim
  |goto id=>exact g.elim
  |panic s=>exact g.elim
  |outgrown=>exact g.elim
def Db(d:tP P=true){f:FuncId}{fn:Func}{a:LV_}{w:Wt_}{K:aY}(c:P.funcs[f]? =some fn)(b:Y0 P fn a.length=true)
  (h:PB P fn a w K):Ca P f ⟨a⟩ w K:=Lh d c b h
@[simp,go_sem] theorem aw (b:Bool) (T F:Prop):qr (.bool b) T F↔if b=true then T else F:=by cases b<;>simp[qr,Ep,bc]
def jV(A B:Prop):qr (.bool true) A B=A:=by rw[aw,ae rfl]
def ij(A B:Prop):qr (.bool false) A B=B:=by rw[aw,aa dw]
def mP  [Decidable p]{A B:Prop}(h:p):qr (.bool (decide p)) A B=A:=by rw[aw,ae (aQ h)]
def Hm  [Decidable p]{A B:Prop}(h:¬p):qr (.bool (decide p)) A B=B:=by rw[aw,aa (by rw[aX];exact h)]
@[simp,go_sem] theorem Yj (b:Bool) (K:Bool->Prop):Ep (.bool b) K↔K b:=aG
@[simp,go_sem] theorem cj (a:Addr) (K:Value->Prop):oQ (.pointer (some a)) K↔K (.pointer (some a)):=aG
@[simp,go_sem] theorem ag7 (b:Bool) (T F:Prop):bc b T F↔if b=true then T else F:=by cases b<;>simp[bc]
@[simp,go_sem] theorem Z4 (b:Bool) (x y:Vt_):Q9 b x y=if b=true then x else y:=by cases b<;>rfl
def Qe(h1:s=a)(b:w=w'):rv P s w K=rv P a w' K:=by rw[h1,b]
def Ol{s a:Sem Unit}{K:World->Prop}(h1:s=a)(b:w=w'):ru P s w K=ru P a w' K:=by rw[h1,b]
def PE{s a:Sem Next}(h1:s=a)(b:w=w'):rn P s w K=rn P a w' K:=by rw[h1,b]
def Nc{K:Value->Prop}(h1:s=a)(b:w=w'):l8 P s w K=l8 P a w' K:=by rw[h1,b]
def Mh{K:Value->Prop}(h1:s=a):g9 P s K=g9 P a K:=by rw[h1]
def Rk{f:FuncId}{a b:Array Value}(h1:a=b)(c:w=w'):Ca P f a w K=Ca P f b w' K:=by rw[h1,c]
def FY{f c:Vt_}{a b:LV_}(e:f=c)(h1:a=b)(d:w=w'):mM P f a w K=mM P c b w' K:=by rw[e,h1,d]
def II{a:Vt_}{K:Value->Prop}(h:v=a):oQ v K=oQ a K:=by rw[h]
def Mo{a:Vt_}{K:Bool->Prop}(h:v=a):Ep v K=Ep a K:=by rw[h]
def KQ{a:Vt_}{T F:Prop}(h:v=a):qr v T F=qr a T F:=by rw[h]
def Gq{S:Type}{body:S->World->(S->World->Prop)->Prop}{s a:S}(h1:s=a)(b:w=w'):nU body s w=nU body a w' :=by rw[h1,b]
def Oj(h1:s=a)(b:w=w'):rx P s w K=rx P a w' K:=by rw[h1,b]
def KX{s a:Sem Unit}{K:World->Prop}(h1:s=a)(b:w=w'):vD P s w K=vD P a w' K:=by rw[h1,b]
def Mt{K:Value->Prop}(h1:s=a)(b:w=w'):BL P s w K=BL P a w' K:=by rw[h1,b]
def IF{K:Value->Prop}(h1:s=a):DI P s K=DI P a K:=by rw[h1]
attribute [congr] Oj KX Mt IF Qe Ol PE Nc Mh Rk FY II Mo KQ Gq
attribute [go_sem] A2 UJ Ax Up py Nu xd Fe Su V1 gx ZM
@[go_sem] theorem fR {P:Program} {f:FuncId} {first a:Array Value} {b:LV_} {w:Wt_} {K:aY}:mM P (.func (.func f) first a) b w K↔Ca P f ⟨first.toList++(b++a.toList)⟩ w K:=kE
def X3{S:Type}{body:S->World->(S->World->Prop)->Prop}{s:S}(I:S->World->Prop)(m:S->World->Nat)(c:I s w)
  (h:∀s w,I s w->body s w λa b=>I a b/\m a b<m s w):nU body s w:=⟨I,m,c,h⟩
def Bj(P:Program)(t:TypeId):Bool:=match P.underlying t with|some (.map ..)=>true|_=>false
def wX(P:Program)(t:TypeId):Bool:=match P.underlying t with|some (.slice ..)=>true|_=>false
@[go_sem] theorem vK {P:Program} {t:TypeId}:Bj P t=true↔∃k e,P.underlying t=some (.map k e):=by
 unfold Bj;split<;>simp_all
@[go_sem] theorem wu {P:Program} {t:TypeId}:wX P t=true↔∃e,P.underlying t=some (.slice e):=by
 unfold wX;split<;>simp_all
@[go_sem] theorem Qk {P:Program} {w:Wt_} (t:TypeId) (m:Option Nat) (h:Bj P t=true):(binOp .eql t (.map m) (.map none)).run P w=.ok (.bool m.isNone) w:=by
 obtain⟨k,e,h⟩:=vK.1 h;simp only[binOp];simp[run_equal_map_nil w t k e m h]
@[go_sem] theorem Pl {P:Program} {w:Wt_} (t:TypeId) (m:Option Nat) (h:Bj P t=true):(binOp .neq t (.map m) (.map none)).run P w=.ok (.bool (!m.isNone)) w:=by
 obtain⟨k,e,h⟩:=vK.1 h;simp only[binOp];simp[run_equal_map_nil w t k e m h]
@[go_sem] theorem KZ {P:Program} {w:Wt_} (t:TypeId) (a:Option Addr) (l c:Nat) (h:wX P t=true):(binOp .eql t (.slice a l c) (.slice none 0 0)).run P w=.ok (.bool a.isNone) w:=by
 obtain⟨e,h⟩:=wu.1 h;simp only[binOp];simp[run_equal_slice_nil w t e a l c h]
@[go_sem] theorem My {P:Program} {w:Wt_} (t:TypeId) (a:Option Addr) (l c:Nat) (h:wX P t=true):(binOp .neq t (.slice a l c) (.slice none 0 0)).run P w=.ok (.bool (!a.isNone)) w:=by
 obtain⟨e,h⟩:=wu.1 h;simp only[binOp];simp[run_equal_slice_nil w t e a l c h]
@[go_sem] theorem zO {P:Program} {w:Wt_} (t:TypeId):(Instr.makeMap t none).run P w=.ok (.map (some w.heap.size)) (w.alloc (.map #[] 0)):=by
 simp[Instr.makeMap]
@[go_sem] theorem Nv {P:Program} {w:Wt_} (t:TypeId) (k:IntKind) (n:Int) (h:Bj P t=true):(Instr.makeMap t (some (.int k n))).run P w=.ok (.map (some w.heap.size)) (w.alloc (.map #[] 0)):=by
 obtain⟨k,e,h⟩:=vK.1 h;simp[Instr.makeMap,aO h,asInt,asIntOf,Result.andThen]
def DJ(o:Option Obj)(i:Nat)(v:Vt_):Option Obj:=
 match o with
 |some (.cells c t fz)=>some (.cells (c.setIfInBounds i v) t fz)
 |o=>o
@[simp] theorem eM (c:Array Value) (t:TypeId) (a:Nat×Nat) (i:Nat) (v:Vt_):DJ (some (.cells c t a)) i v=some (.cells (c.setIfInBounds i v) t a):=rfl
def jU(w:Wt_)(b i:Nat)(v:Vt_)(a:Nat):(w.setCell ⟨b,i,none⟩ v).heap[a]? =if a=b then DJ w.heap[b]? i v else w.heap[a]? :=by
 unfold World.setCell;simp only[Option.isSome_none,bj,da];rw[kp];by_cases h:b=a
 ·subst h;simp only[cZ];cases c:w.heap[b]? with
  |none=>rfl
  |some o=>cases o<;>rfl
 ·grind
def ec(w:Wt_)(o:Obj)(a:Nat):(w.alloc o).heap[a]? =if a=w.heap.size then some o else w.heap[a]? :=by
 show(w.heap.push o)[a]? =_;rw[Array.getElem?_push]
def dM(w:Wt_)(b:Nat)(o:Obj)(c:Nat):(w.putObj b o).heap[c]? =if c=b then(w.heap[b]?).map (λ_=>o)else w.heap[c]? :=by
 unfold World.putObj;simp only;rw[Array.getElem?_setIfInBounds];by_cases h:b=c
 ·subst h;simp only[cZ];by_cases a:b<w.heap.size
  ·simp[a]
  ·simp[a]
 ·grind
def sU(w:Wt_)(a:Addr)(v:Vt_):(w.setCell a v).heap.size=w.heap.size:=by simp[World.setCell]
def ay{b:Nat}{o:Obj}(h:w.heap[b]? =some o):b<w.heap.size:=(iI.1 h).1
def hp(w:Wt_)(b:Nat):Option Obj:=w.heap[b]?
@[simp] abbrev hC (w:Wt_) (b:Nat) (x:Array Value) (t:TypeId):Prop:=hp w b=some (.cells x t (0,0))
def lN{q:Prop} [Decidable p] [Decidable q](h:decide p=true:=by decide)(g:decide q=true:=by decide):p/\q:=⟨bF h,bF g⟩
def bT{b:Nat}{o:Option Obj}(h:w.heap[b]? =o):hp w b=o:=h
@[go_sem] theorem Z9 (w:Wt_) (a:Addr):w.cell? a=match hp w a.block with|some (.cells c _ _)=>if a.spot.isSome then none else c[a.off]? |_=>none:=rfl
@[go_sem] theorem Xr (w:Wt_) (a:Addr):w.frozen? a=match hp w a.block with|some (.cells _ _ (b,c))=>b<=a.off&& a.off<c|_=>false:=rfl
@[go_sem] theorem jY (w:Wt_) (b i:Nat) (v:Vt_) (a:Nat):hp (w.setCell ⟨b,i,none⟩ v) a=if a=b then DJ (hp w b) i v else hp w a:=jU w b i v a
@[go_sem] theorem xh (w:Wt_) (o:Obj) (a:Nat):hp (w.alloc o) a=if a=w.heap.size then some o else hp w a:=ec w o a
@[go_sem] theorem LF (w:Wt_) (b:Nat) (o:Obj) (a:Nat):hp (w.putObj b o) a=if a=b then(hp w b).map (λ_=>o)else hp w a:=dM w b o a
@[go_sem] theorem ZX (w:Wt_) (b:Nat):hp w.drew b=hp w b:=rfl
attribute [go_sem] sU World.size_alloc World.putObj_size
@[go_sem] theorem Ce (w:Wt_):w.drew.heap.size=w.heap.size:=rfl
def Wb{d:Nat}(h:d<n):¬d=n/\(∀k,¬d=n+k)/\¬n=d/\∀k,¬n+k=d:=⟨qZ,λk=>qZ,qZ,λk=>qZ⟩
@[go_sem] theorem aa0 (n a b:Nat):n+a+b=n+(a+b):=eD n a b
structure aS(F:NP_)(w w' :Wt_):Prop where
 size:w.heap.size<=w'.heap.size
 out:w'.output=w.output
 os:w'.os=w.os
 blk:∀b,b<w.heap.size->¬F b->w'.heap[b]? =w.heap[b]?
abbrev M0:=aS λ_=>False
def aS.refl(F:NP_)(w:Wt_):aS F w w:=⟨az _,rfl,rfl,λ_ _ _=>rfl⟩
def aS.trans{w1 d:Wt_}(h:aS F w w1)(a:aS F w1 d):aS F w d:=
 ⟨ci h.size a.size,a.out.trans h.out,a.os.trans h.os,λb e c=>(a.blk b (bJ e h.size) c).trans (h.blk b e c)⟩
def aS.mono{G:NP_}(h:aS F w w')(hs:∀b,b<w.heap.size->F b->G b):aS G w w' :=
 ⟨h.size,h.out,h.os,λb a d=>h.blk b a λc=>d (hs b a c)⟩
def aS.to{G:Nat->Prop}{w w' :World}(h:aS (λ_=>False) w w'):aS G w w' :=h.mono λ_ _ h=>h.elim
def aS.alloc(h:aS F w w')(o:Obj):aS F w (w'.alloc o):=
 ⟨by rw[cm];exact Nat.le_succ_of_le h.size,h.out,h.os,λb c a=>by
  rw[ec,aa (by have:=h.size;omega)];exact h.blk b c a⟩
def aS.drew(h:aS F w w'):aS F w w'.drew:=⟨h.size,h.out,h.os,h.blk⟩
def oU:aS F w w:=.refl _ _
def kU{o:Obj}:aS F w (w.alloc o):=(aS.refl _ _).alloc _
def sK:aS F w w.drew:=(aS.refl _ _).drew
def tF{α β:Sort _}{a:α}{b:β}:a=a/\b=b:=⟨rfl,rfl⟩
def fM{q:Prop}(h:q:=by omega):p\/q:=.inr h
def aS.setCell(h:aS F w w'){b:Nat}(f:F b\/w.heap.size<=b)(i:Nat)(v:Vt_):aS F w (w'.setCell ⟨b,i,none⟩ v):=
 ⟨by rw[sU];exact h.size,h.out,h.os,λd a c=>by
  rw[jU,aa (λe=>by grind)];exact h.blk d a c⟩
def aS.sc(h:aS F w w'){b i:Nat}{v:Vt_}(a:F b:=by exact rfl):aS F w (w'.setCell ⟨b,i,none⟩ v):=h.setCell (.inl a) i v
def aS.putObj(h:aS F w w'){b:Nat}(f:F b\/w.heap.size<=b)(o:Obj):aS F w (w'.putObj b o):=
 ⟨by rw[iM];exact h.size,h.out,h.os,λd a c=>by
  rw[dM,aa (λe=>by grind)];exact h.blk d a c⟩
def aS.on{G:NP_}{w1 d:Wt_}(h:aS F w w1)(a:aS G w1 d)(g:∀b,G b->F b\/w.heap.size<=b):aS F w d:=
 ⟨ci h.size a.size,a.out.trans h.out,a.os.trans h.os,λb e c=>(a.blk b (bJ e h.size) λf=>(g b f).elim c qZ).trans (h.blk b e c)⟩
def aS.keep(h:aS F w w'){b:Nat}{o:Obj}(a:w.heap[b]? =some o)(c:¬F b):w'.heap[b]? =some o:=
 (h.blk b (ay a) c).trans a
end Go.Vc
namespace Go.Vc
open Go Go.Vc
variable {cells:Array Value}{cs c:LV_}{F:NP_}{b off n sz:Nat}{P:Program}{s:Sem Value}{t e:TypeId}{v:Vt_}{w w' :Wt_}{K:aY}
def jP(h:s.run P w=.ok v w')(a:K v w'):rx P s w K:=
 ⟨⟨by unfold UJ;rw[h];exact a⟩⟩
def oI(v:Vt_)(w' :Wt_)(h:s.run P w=.ok v w')(a:K v w'):rx P s w K:=jP h a
def Qm{s:Sem Unit}{K:World->Prop}(h:s.run P w=.ok () w')(a:K w'):vD P s w K:=
 ⟨⟨by unfold Up;rw[h];exact a⟩⟩
def nt{K:Value->Prop}(h:s.run P w=.ok v w)(a:K v):BL P s w K:=
 ⟨⟨by unfold Fe;rw[h];exact⟨rfl,a⟩⟩⟩
def R3{K:Value->Prop}(h:∀w,s.run P w=.ok v w)(a:K v):DI P s K:=
 ⟨⟨⟨v,h,a⟩⟩⟩
def bD(b off i:Nat):(⟨b,off,none⟩:Addr).add i=⟨b,off+i,none⟩:=by
 unfold Addr.add;split<;>simp_all
def d9(w:Wt_)(g:Nat)(cs:Array Value)(b:Nat):(w.setRow g cs).heap[b]? =if b=g then(match w.heap[g]? with|some (.cells _ t c)=>some (.cells cs t c)|o=>o)else w.heap[b]? :=by
 by_cases h:b=g
 ·subst h;rw[ae rfl];cases a:w.heap[b]? with
  |none=>
   simp only;have:w.heap.size<=b:=by simpa using a
   simp[World.setRow,this]
  |some o=>
   cases o<;>first|exact setRow_heap w b _ cs _ _ a|(simp only[World.setRow,kp,cZ,a];rfl)
 ·rw[aa h];exact setRow_other w g b cs h
@[go_sem] theorem xM (w:Wt_) (g:Nat) (cs:Array Value) (b:Nat):hp (w.setRow g cs) b=if b=g then(match hp w g with|some (.cells _ t a)=>some (.cells cs t a)|o=>o)else hp w b:=d9 w g cs b
attribute [go_sem] setRow_size
def aS.setRow(h:aS F w w'){b:Nat}(f:F b\/w.heap.size<=b)(cs:Array Value):aS F w (w'.setRow b cs):=
 ⟨by rw[setRow_size];exact h.size,h.out,h.os,λd a c=>by
  rw[setRow_other _ _ _ _ (λe=>by grind)];exact h.blk d a c⟩
def At(w:Wt_)(b off:Nat)(cs:LV_):Prop:=∃c e fz,w.heap[b]? =some (.cells c e fz)/\off+cs.length<=c.size/\(c.toList.drop off).take cs.length=cs
def At.cell(h:At w b off cs)(j:Nat)(v:Vt_)(a:cs[j]? =some v):w.cell? ⟨b,off+j,none⟩=some v:=by
 obtain⟨c,e,i,g,k,f⟩:=h;have d:j<cs.length:=(aF.1 a).1;rw[<-f,fb,ae d,fe]at a;simp only[World.cell?,g];simpa using a
def At.get(h:At w b off cs):∃C e a,hp w b=some (.cells C e a)/\∀j v,cs[j]? =some v->C[off+j]? =some v:=by
 obtain⟨c,e,a,i,k,g⟩:=h;refine⟨c,e,a,i,λj v d=>?_⟩;have f:j<cs.length:=(aF.1 d).1;rw[<-g,fb,ae f,fe]at d;simpa using d
def At.loads(h:At w b off cs):(loadCells ⟨b,off,none⟩ cs.length).run P w=.ok cs.toArray w:=
 run_loadCells_list w _ cs λj v a=>by rw[bD];exact h.cell j v a
def At.keep(h:At w b off cs)(f:w'.heap[b]? =w.heap[b]?):At w' b off cs:=by
 obtain⟨c,e,a,g,d⟩:=h;exact⟨c,e,a,by rw[f];exact g,d⟩
def At.mod(h:At w b off cs)(d:aS F w w')(f:¬F b):At w' b off cs:=by
 obtain⟨c,e,a,i,g⟩:=h;exact⟨c,e,a,d.keep i f,g⟩
def At.lt(h:At w b off cs):b<w.heap.size:=by
 obtain⟨c,e,d,a,_⟩:=h;exact ay a
def At.sub(h:At w b off cs)(i k:Nat)(j:i+k<=cs.length):At w b (off+i) ((cs.drop i).take k):=by
 obtain⟨c,e,d,g,l,f⟩:=h;have a:((cs.drop i).take k).length=k:=by simp;omega
 refine⟨c,e,d,g,by rw[a];omega,?_⟩;rw[a]
 conv=>rhs;rw[<-f]
 rw[List.drop_take,List.take_take,cB,dF qZ]
def lI(P:Program)(t:TypeId):Bool:=
 match P.underlying t with
 |some (.struct _)|some (.array ..)=>true
 |_=>false
def xT(h:lI P t=true)(w:Wt_):(isAgg t).run P w=.ok true w:=by
 unfold lI at h;unfold isAgg;split at h
 ·rename_i a;simp[dh,aO a,Result.andThen]
 ·rename_i a;simp[dh,aO a,Result.andThen]
 ·cases h
def pU(h:P.cellsOf t=n+1):∃i,P.info? t=some i/\i.size=n+1:=by
 unfold Program.cellsOf at h;cases a:P.info? t with
 |none=>simp[a]at h
 |some i=>exact⟨i,rfl,by simpa [a]using h⟩
def kZ(h:P.cellsOf t=n+1)(w:Wt_):(sizeOf t).run P w=.ok (n+1) w:=by
 obtain⟨i,b,a⟩:=pU h;simp[sizeOf,typeInfo,b,a]
def fK(d:lI P t=true)(c:P.cellsOf t=n+1)(a:cs.length=n+1)(h:At w b off cs):
  (qm t (bO b off)).run P w=.ok (.agg cs.toArray) w:=by
 have:=h.loads (P:=P);rw[a]at this;simp[qm,Instr.loadAt,Instr.sureAddr,loadVar,dh,xT d,kZ c,Result.andThen,this]
def fX(cs:LV_)(n:Nat)(e:lI P t=true)(c:P.cellsOf t=n+1)(a:cs.length=n+1)(h:At w b off cs)(d:K (.agg cs.toArray) w):
  rx P (qm t (bO b off)) w K:=jP (fK e c a h) d
def kI{K:Value->Prop}(cs:LV_)(n:Nat)(e:lI P t=true)(c:P.cellsOf t=n+1)(a:cs.length=n+1)(h:At w b off cs)(d:K (.agg cs.toArray)):
  BL P (qm t (bO b off)) w K:=nt (fK e c a h) d
def iC(c:LV_)(off:Nat)(cs:LV_):List Value:=c.take off++cs++c.drop (off+cs.length)
def rk(h:off+cs.length<=c.length):(iC c off cs).length=c.length:=by
 simp[iC];omega
def lR(h:cs.length=c.length):iC c 0 cs=cs:=by simp[iC,h]
def pE(h:cs.all (·.oneCell')=true):∀v∈cs,v.oneCell' =true:=λv a=>bf.1 h v a
def sy{c:Array Value}(f:P.cellsOf t=n+1)(d:cs.length=n+1)
  (h:w.heap[b]? =some (.cells c e (0,0)))(a:off+cs.length<=c.size)(h1:cs.all (·.oneCell')=true):
  (oT t (bO b off) (.agg cs.toArray)).run P w=.ok () (w.setRow b (iC c.toList off cs).toArray):=by
 have:=run_storeCells_at P b off e cs 0 c w h (by simpa using a) (pE h1);simp only[cx]at this;simp[oT,Instr.storeAt,Instr.sureAddr,storeVar,dh,kZ f,Value.cells,d,Result.andThen,this,iC]
def qX{K:World->Prop}{c:Array Value}(f:P.cellsOf t=n+1)(d:cs.length=n+1)
  (h:w.heap[b]? =some (.cells c e (0,0)))(a:off+cs.length<=c.size)(h1:cs.all (·.oneCell')=true)(g:K (w.setRow b (iC c.toList off cs).toArray)):
  vD P (oT t (bO b off) (.agg cs.toArray)) w K:=Qm (sy f d h a h1) g
def iQ(P:Program)(t:TypeId):List Value:=
 match (P.info? t).bind (·.zero)with
 |some z=>z.cells.toList
 |none=>[]
def mG(P:Program)(t:TypeId):Bool:=((P.info? t).bind (·.zero)).isSome
def QS(c:mG P t=true):
  (tW t).run P w=.ok (bO w.heap.size 0) (w.alloc (.cells (iQ P t).toArray t)):=by
 unfold mG at c;cases b:P.info? t with
 |none=>simp[b]at c
 |some i=>
  cases a:i.zero with
  |none=>simp[b,a]at c
  |some z=>simp[tW,Instr.alloc,zeroValue,typeInfo,b,a,newVar,newRow,iQ]
def nE(b:mG P t=true)(a:K (bO w.heap.size 0) (w.alloc (.cells (iQ P t).toArray t))):
  rx P (tW t) w K:=jP (QS b) a
def lS{a:Array (Nat×Value)}(h:P.built t a.toList=some cells)(b:K (.agg cells) w):
  rx P (Bs t a) w K:=jP (by unfold Bs;exact run_build w t a cells h) b
def xN{a:Array (Nat×Value)}{K:Value->Prop}(h:P.built t a.toList=some cells)(b:K (.agg cells)):
  DI P (Bs t a) K:=R3 (λw=>by unfold Bs;exact run_build w t a cells h) b
def QJ{vs:LV_}(h:off+(vs.length+1)<=c.length):iC (c.set off v) (off+1) vs=iC c off (v::vs):=by
 simp only[iC,be]
 have a:(c.set off v).take (off+1)=c.take off++[v]:=by
  rw[List.take_succ_eq_append_getElem (by simp;omega),List.take_set_of_le (az _)];simp
 have b:(c.set off v).drop (off+1+vs.length)=c.drop (off+(vs.length+1)):=by
  rw[List.drop_set_of_lt qZ,show off+1+vs.length=off+(vs.length+1) by omega]
 rw[a,b];simp
def B6(off:Nat):∀(vs:LV_) (k:Nat) (c:Array Value),off+k+vs.length<=c.size->
  ((vs.zipIdx k).foldl (λa p=>a.setIfInBounds (off+p.2) p.1) c).toList=iC c.toList (off+k) vs
 | [],k,c,_=>by simp[iC]
 |v::vs,k,c,h=>by
  simp only[ng,eV];simp only[be]at h;rw[B6 off vs (k+1) _ (by simp;omega),Array.toList_setIfInBounds,show off+(k+1)=off+k+1 by omega,QJ (by simp;omega)]
def qS{place:Nat->Option (Nat×Nat)}{cells:LV_}{i size:Nat}{rest:List (Nat×Value)}(hp:place i=some (off,size))(b:v.cells.size=size)(h:off+size<=cells.length):
  Instr.fill place cells.toArray ((i,v)::rest)=Instr.fill place (iC cells off v.cells.toList).toArray rest:=by
 have a:¬(v.cells.size≠size\/off+v.cells.size>cells.toArray.size):=by grind
 simp only[Instr.fill,hp];rw[aa (by simpa using a)];congr 1;apply kg;have:=B6 off v.cells.toList 0 cells.toArray (by simp;omega);simp only[cx]at this;rw[<-this,<-Array.toList_zipIdx,Array.foldl_toList]
def A4{place:Nat->Option (Nat×Nat)}:Instr.fill place cells []=some cells:=rfl
def Rd(w:Wt_)(sz:Nat)(v:Vt_)(n:Nat)(cs:LV_):Prop:=
 cs.length=n*sz/\((n=0/\∃a c,v=.slice a 0 c)\/∃b off cap,v=.slice (some ⟨b,off,none⟩) n cap/\n<=cap/\At w b off cs)
def vw(v:Vt_)(b:Nat):Prop:=∃a n c,v=.slice (some a) n c/\n≠0/\a.block=b
def QM:Value->Option Nat
 | .slice (some a) _ _=>some a.block
 |_=>none
def gD(w:Wt_)(e:TypeId)(sz:Nat)(v:Vt_)(n:Nat)(cs:LV_):Prop:=
 cs.length=n*sz/\((v=.slice none 0 0/\n=0)\/∃b cap rest,v=.slice (some ⟨b,0,none⟩) n cap/\n<=cap/\w.heap[b]? =some (.cells (cs++rest).toArray e (0,0))/\rest.length=(cap - n)*sz/\(rest.all (·.oneCell')=true))
def aK(v:Vt_)(b:Nat):Prop:=QM v=some b
def gD.keep(h:gD w e sz v n cs)(g:∀b,aK v b->w'.heap[b]? =w.heap[b]?):gD w' e sz v n cs:=by
 obtain⟨c,h|⟨b,a,rest,rfl,i,d,f⟩⟩:=h
 ·exact⟨c,.inl h⟩
 ·exact⟨c,.inr ⟨b,a,rest,rfl,i,by rw[g b rfl];exact d,f⟩⟩
def gD.lt(h:gD w e sz v n cs){b:Nat}(a:aK v b):b<w.heap.size:=by
 obtain⟨f,⟨rfl,_⟩|⟨i,d,rest,rfl,j,c,g⟩⟩:=h
 ·cases a
 ·cases a;exact ay c
def gD.nil(w:Wt_)(e:TypeId)(sz:Nat):gD w e sz (.slice none 0 0) 0 []:=⟨by simp,.inl ⟨rfl,rfl⟩⟩
def gD.mod(h:gD w e sz v n cs)(c:aS F w w')(d:∀b,aK v b->¬F b):gD w' e sz v n cs:=
 h.keep λb a=>c.blk b (h.lt a) (d b a)
def vw.sl(h:vw v b):aK v b:=by
 obtain⟨a,n,c,rfl,-,rfl⟩:=h;rfl
def gD.rd(h:gD w e sz v n cs):Rd w sz v n cs:=by
 obtain⟨c,⟨rfl,rfl⟩|⟨b,a,rest,rfl,f,d,g⟩⟩:=h
 ·exact⟨c,.inl ⟨rfl,_,_,rfl⟩⟩
 ·exact⟨c,.inr ⟨b,0,a,rfl,f,⟨_,_,_,d,by simp,by simp⟩⟩⟩
def Rd.keep(h:Rd w sz v n cs)(g:∀b,vw v b->w'.heap[b]? =w.heap[b]?):Rd w' sz v n cs:=by
 obtain⟨c,h|⟨b,a,d,rfl,i,f⟩⟩:=h
 ·exact⟨c,.inl h⟩
 ·by_cases e:n=0
  ·subst e;exact⟨c,.inl ⟨rfl,_,_,rfl⟩⟩
  ·exact⟨c,.inr ⟨b,a,d,rfl,i,f.keep (g b ⟨_,_,_,rfl,e,rfl⟩)⟩⟩
def Rd.lt(h:Rd w sz v n cs){b:Nat}(f:vw v b):b<w.heap.size:=by
 obtain⟨a,m,c,rfl,q,rfl⟩:=f;obtain⟨p,⟨rfl,l,k,e⟩|⟨b,i,g,e,s,j⟩⟩:=h
 ·grind
 ·injection e with d o r;injection d with d;subst d;exact j.lt
def Rd.mod(h:Rd w sz v n cs)(c:aS F w w')(d:∀b,vw v b->¬F b):Rd w' sz v n cs:=
 h.keep λb a=>c.blk b (h.lt a) (d b a)
def Rd.first(h:Rd w sz v n cs)(j:0<sz):
  (Builtin.firstCells sz n v).run P w=.ok cs.toArray w:=by
 obtain⟨d,⟨rfl,a,c,rfl⟩|⟨b,e,g,rfl,i,f⟩⟩:=h
 ·have:cs=[]:=by simpa using d
  subst this;cases a<;>simp[Builtin.firstCells,loadCells,loadCellsFrom]
 ·have:=f.loads (P:=P);rw[d]at this;simpa [Builtin.firstCells]using this
def Rd.isSl(h:Rd w sz v n cs):∃a c,v=.slice a n c:=by
 obtain⟨_,⟨rfl,a,c,rfl⟩|⟨b,d,e,rfl,_⟩⟩:=h
 ·exact⟨_,_,rfl⟩
 ·exact⟨_,_,rfl⟩
def Rd.lenOf(h:Rd w sz v n cs)(w1:Wt_):(Builtin.lenOf v).run P w1=.ok n w1:=by
 obtain⟨f,⟨rfl,a,c,rfl⟩|⟨b,d,e,rfl,i,g⟩⟩:=h<;>rfl
end Go.Vc
namespace Go.Vc
open Go Go.Vc
variable {cs:LV_}{sz by_ n:Nat}{P:Program}{e t:TypeId}{s:Vt_}{w:Wt_}{K:aY}
structure vi(P:Program)(e:TypeId)(sz by_:Nat):Prop where
 ok:∃i z,P.info? e=some i/\i.zero=some z/\i.size=sz/\i.bytes=by_/\z.cells.size=sz/\z.cells.toList.all (·.oneCell')=true
 pos:0<sz
 bpos:0<by_
def gP(P:Program)(e:TypeId)(sz by_:Nat):Bool:=
 Nat.blt 0 sz&& Nat.blt 0 by_&& match P.info? e with
 |none=>false
 |some i=>match i.zero with
  |none=>false
  |some z=>Nat.beq i.size sz&& Nat.beq i.bytes by_&& Nat.beq z.cells.size sz&& z.cells.toList.all (·.oneCell')
def dp(h:gP P e sz by_=true):vi P e sz by_:=by
 unfold gP at h;simp only[ao]at h;obtain⟨⟨h1,d⟩,h⟩:=h;cases a:P.info? e with
 |none=>rw[a]at h;cases h
 |some i=>
  rw[a]at h;simp only at h;cases b:i.zero with
  |none=>rw[b]at h;cases h
  |some z=>
   rw[b]at h;simp only[ao]at h;obtain⟨⟨⟨j,f⟩,g⟩,c⟩:=h;exact⟨⟨i,z,a,b,dN j,dN f,dN g,c⟩,by simpa [lC]using h1,by simpa [lC]using d⟩
def pR{z:Array Value}(h:z.toList.all (·.oneCell')=true)(hp:0<z.size)(n:Nat):(Builtin.zeroCells z n).toList.all (·.oneCell')=true:=by
 unfold Builtin.zeroCells;simp only[Array.toList_map,List.all_map,bf];intro i _;have a:i%z.size<z.size:=gp _ hp;simp only[Function.comp_apply];rw[fT z _ a];exact bf.1 h _ (by simp)
def pS(z:Array Value)(n:Nat):(Builtin.zeroCells z n).toList.length=n*z.size:=by simp[Builtin.zeroCells]
def jJ{u ty:TypeId}{x:Vt_}{m:Nat}{a:LV_}
  (L:P.underlying t=some (.slice e)){e' :TypeId}(U:P.underlying u=some (.slice e'))(hE:vi P e sz by_)
  (hs:gD w e sz s n cs)(B:Rd w sz x m a)(h1:a.all (·.oneCell')=true)(G:(n+m)*by_<=140737488355328)
  (O:∀H F,gD F e sz H (n+m) (cs++a)->aS (aK s) w F->(∀b,aK H b->aK s b\/w.heap.size<=b)->K H F):
  rx P (eZ #[t,u] ty [s,x]) w K:=by
 obtain⟨⟨i,z,V,hz,r,S,W,N⟩,k,q⟩:=hE;have R:n+m<=140737488355328:=ci (mz _ q) G;have l:cs.length=n*sz:=hs.1;have g:a.length=m*sz:=B.1;have A:=λw1 (h:Rd w1 sz x m a)=>h.first (P:=P) k
 obtain⟨d,c,J,Z,E⟩:∃d c,s=.slice d n c/\n<=c/\((d=none/\n=0/\c=0/\cs=[])\/∃b rest,d=some ⟨b,0,none⟩/\w.heap[b]? =some (.cells (cs++rest).toArray e (0,0))/\rest.length=(c - n)*sz/\rest.all (·.oneCell')=true):=by
  rcases hs.2 with⟨rfl,rfl⟩|⟨b,c,rest,rfl,hc,T,hr⟩
  ·grind
  ·grind
 subst J;by_cases f:n+m<=c
 ·rcases E with⟨rfl,rfl,rfl,rfl⟩|⟨b,rest,rfl,T,D,hr1⟩
  ·have hm:m=0:=qZ;subst hm;have y:a=[]:=by simpa using g
   subst y;refine oI (.slice none 0 0) w ?_ (O _ _ hs oU (λb G=>.inl G));have:=A w B;simp[eZ,Builtin.append_,aO L,sizeOf,typeInfo,V,r,aO U,B.lenOf,Result.andThen,this]
  ·have o:=run_storeCells_at P b (n*sz) e a 0 (cs++rest).toArray w T (by simp[l,D,g];exact cF _ qZ) (pE h1);simp only[cx]at o
   have p:(cs++rest).take (n*sz)++a++(cs++rest).drop (n*sz+a.length)=(cs++a)++rest.drop a.length:=by
    rw[<-l];simp[aH]
   refine oI (.slice (some ⟨b,0,none⟩) (n+m) c) (w.setRow b ((cs++a)++rest.drop a.length).toArray) ?_ (O _ _ ⟨?_,.inr ⟨b,c,rest.drop a.length,rfl,f,?_,?_,?_⟩⟩ ?_ ?_)
   ·have:=A w B;simp only[p]at o;have e0:(⟨b,0,none⟩:Addr).add (n*sz)=⟨b,n*sz,none⟩:=by rw[bD];simp
    simp[eZ,Builtin.append_,aO L,sizeOf,typeInfo,V,r,aO U,B.lenOf,Result.andThen,this,f,e0,o]
   ·grind
   ·rw[d9,ae rfl,T]
   ·simp[D,g];rw[<-mq];congr 1;omega
   ·grind
   ·exact(aS.refl (aK (.slice (some ⟨b,0,none⟩) n c)) w).setRow (.inl (show aK _ b from rfl)) _
   ·intro b' C;exact .inl C
 ·have hfit:=growslice_fits (old:=c) (need:=n+m) (bytes:=by_) qZ G;have I:¬(281474976710656<Builtin.nextslicecap (n+m) c*i.bytes):=by rw[S];omega
  have Q:¬(9223372036854775807<((n:Int)+(m:Int))):=qZ;have j:n+m<=grownCap w (n+m) c e:=by simp[grownCap,Question.cut]
  have M:Rd w.drew sz (.slice d n c) n cs:=hs.rd.keep λ_ _=>rfl;have Y:=M.first (P:=P) k;have X:=A w.drew (B.keep λ_ _=>rfl)
  refine jP (v:=.slice (some ⟨w.heap.size,0,none⟩) (n+m) (grownCap w (n+m) c e))
   (w' :=w.drew.alloc (.cells (cs.toArray++a.toArray++Builtin.zeroCells z.cells (grownCap w (n+m) c e - (n+m))) e)) ?_ (O _ _ ⟨?_,.inr ⟨w.heap.size,_,(Builtin.zeroCells z.cells (grownCap w (n+m) c e - (n+m))).toList,rfl,j,?_,?_,?_⟩⟩ ?_ ?_)
  ·simp[eZ,Builtin.append_,aO L,sizeOf,typeInfo,zeroValue,V,hz,r,aO U,B.lenOf,Result.andThen,f,Q,I,Question.forced,Y,X,newRow,grownCap];rw[<-Array.append_assoc];congr 2;simp
  ·grind
  ·rw[ec,ae (show w.heap.size=w.drew.heap.size from rfl)];simp
  ·rw[pS,W]
  ·exact pR N (by grind) _
  ·exact sK.alloc _
  ·rintro b' C;cases C;exact .inr (az _)
def DY(w:Wt_)(c:Array Value)(t:TypeId)(cs:Array Value):(w.alloc (.cells c t)).setRow w.heap.size cs=w.alloc (.cells cs t):=by
 unfold World.setRow World.alloc;simp only;congr 1;apply Array.ext
 ·simp
 ·intro i h1 a;simp only[Array.getElem_modify,Array.getElem_push];by_cases h:w.heap.size=i
  ·subst h;simp
  ·grind
def uH(n:Nat)(i:mG P t=true)(f:P.cellsOf t=n+1)(b:cs.length=n+1)(a:(iQ P t).length=n+1)(h1:cs.all (·.oneCell')=true)
  (g:K (bO w.heap.size 0) (w.alloc (.cells cs.toArray t))):rx P (tW t) w λv d=>vD P (oT t v (.agg cs.toArray)) d λh=>K v h:=by
 apply nE i;apply qX (c:=(iQ P t).toArray) (e:=t) f b (by rw[ec,ae rfl]) (by simp[b,a]) h1;rw[lR (by simp[b,a]),DY];exact g
def lA{α:Type}(f:α->List Value)(sz:Nat):∀(ws:List α) (i:Nat) (a:∀x∈ws,(f x).length=sz) (h:i<ws.length),((ws.flatMap f).drop (i*sz)).take sz=f ws[i]
 |x::ws,0,a,h=>by grind
 |x::ws,i+1,a,h=>by
  have e:(i+1)*sz=(f x).length+i*sz:=by grind
  simp only[bR,il];rw[e,<-cB,cU];exact lA f sz ws i (λy b=>a y (by simp[b])) (by simpa using h)
def qU{α:Type}(f:α->List Value)(sz:Nat):∀(ws:List α) (a:∀x∈ws,(f x).length=sz),(ws.flatMap f).length=ws.length*sz
 | [],_=>by simp
 |x::ws,a=>by simp[a x (by simp),qU f sz ws λy b=>a y (by simp[b]),er];omega
def gD.isSl(h:gD w e sz s n cs):∃a c,s=.slice a n c/\n<=c:=by
 obtain⟨_,⟨rfl,rfl⟩|⟨b,d,_,rfl,f,_⟩⟩:=h
 ·grind
 ·grind
def gD.elem(h:gD w e sz s n cs){i:Nat}(hi:i<n):
  ∃b a,s=.slice (some ⟨b,0,none⟩) n a/\At w b (i*sz) ((cs.drop (i*sz)).take sz):=by
 obtain⟨f,⟨rfl,rfl⟩|⟨b,a,rest,rfl,k,g,j⟩⟩:=h
 ·omega
 ·have c:i*sz+sz<=cs.length:=by
   rw[f];have:(i+1)*sz<=n*sz:=cF _ hi;rw[er]at this;omega
  have d:At w b 0 cs:=⟨_,_,_,g,by simp,by simp⟩
  have:=d.sub (i*sz) sz c;exact⟨b,a,rfl,by simpa using this⟩
def JU{kl k:IntKind}{l c:Int}{z:Vt_}(m:P.underlying t=some (.slice e))(s:vi P e sz by_)(n:0<=l)(g:l<=c)(o:(by_:Int)*c<=281474976710656)
  (x:(P.info? e).bind (·.zero)=some z)
  (r:K (.slice (some ⟨w.heap.size,0,none⟩) l.toNat c.toNat) (w.alloc (.cells (madeCells z.cells (c.toNat*sz)) e))):
  rx P (Da t (.int kl l) (.int k c)) w K:=by
 obtain⟨⟨i,p,u,h,d,f,v,q⟩,j,a⟩:=s;have:z=p:=by grind
 subst this
 have b:c<=9223372036854775807:=by
  have h1:(1:Int)*c<=(by_:Int)*c:=gN qZ qZ;omega
 exact jP (by unfold Da;exact run_make w t e i z m u h kl k l c n g (by rw[f];exact o) b) (by rw[d];exact r)
def Gh(sz:Nat):∀(vs:LV_) (i:Nat) (a rest:LV_),(∀v∈vs,v.cells.size=sz)->a.length=i*sz->rest.length=vs.length*sz->
  Instr.fill (λi=>some (i*sz,sz)) (a++rest).toArray ((vs.zipIdx i).map λp=>(p.2,p.1))=some (a++vs.flatMap (·.cells.toList)).toArray
 | [],i,a,rest,_,_,c=>by
  have:rest=[]:=by simpa using c
  subst this;simp[A4]
 |v::vs,i,a,rest,f,hp,c=>by
  have b:=f v (by simp);have g:sz<=rest.length:=by rw[c,be,er];omega
  simp only[ng,aD];rw[qS (off:=i*sz) (size:=sz) rfl b (by simp;omega)]
  have e:iC (a++rest) (i*sz) v.cells.toList=(a++v.cells.toList)++rest.drop sz:=by
   have d:v.cells.toList.length=sz:=by simpa using b
   simp only[iC,d];rw[<-hp,dG,<-cB,cU]
  rw[e,Gh sz vs (i+1) _ _ (λu h=>f u (by simp[h])) (by grind) (by simp[c,er])];simp
def nK{a:List (Nat×Value)}(vs:LV_)(l:P.underlying t=some (.slice e))(x:vi P e sz by_)
  (hp:a=vs.zipIdx.map λp=>(p.2,p.1))(A:vs.length=n)(C:∀v∈vs,v.cells.size=sz)(D:n*sz<=16777216)
  (r:K (.slice (some ⟨w.heap.size,0,none⟩) n n) (w.alloc (.cells (vs.flatMap (·.cells.toList)).toArray e))):rx P (pN t n a) w K:=by
 obtain⟨⟨i,z,o,u,c,y,B,s⟩,m,j⟩:=x;subst hp;have k:¬(2 ^ 24<n*sz):=qZ;refine jP ?_ r
 have b:∀d:Array Value,(d.toList.length=n*sz)->Instr.fill (λi=>some (i*sz,sz)) d (vs.zipIdx.map λp=>(p.2,p.1))=some (vs.flatMap (·.cells.toList)).toArray:=λd g=>by
  have:=Gh sz vs 0 [] d.toList C (by simp) (by rw[A];exact g);simpa using this
 by_cases f:n*sz=0
 ·have h:=b (Array.map (λ_=>default) (Array.range 0)) (by simp[f]);simp[pN,Instr.buildSlice,aO l,sizeOf,typeInfo,o,c,f,h,newRow,Result.andThen]
 ·have h:=b ((Array.range (n*sz)).map (z.cells[·%z.cells.size]!)) (by simp);have q:Instr.fill (λi=>some (i*sz,sz)) ((Array.range (n*sz)).map (z.cells[·%sz]!)) (vs.zipIdx.map λp=>(p.2,p.1))=some (vs.flatMap (·.cells.toList)).toArray:=by grind
  simp[pN,Instr.buildSlice,aO l,sizeOf,typeInfo,zeroValue,o,u,c,f,k,h,q,newRow,Result.andThen]
def bv(l:List UInt8):List Value:=l.map λu=>gB (u.toNat:Int)
@[simp] theorem Xm (l:List UInt8):(bv l).length=l.length:=by simp[bv]
@[simp] theorem af7:bv []=[]:=rfl
@[simp] theorem yj (l a:List UInt8):bv (l++a)=bv l++bv a:=by simp[bv]
def Tr(l:List UInt8)(n:Nat):(bv l).drop n=bv (l.drop n):=by simp[bv]
def In(l:List UInt8):(bv l).all (·.oneCell')=true:=by simp[bv,Value.oneCell']
def K6(a:List UInt8):∀s:ByteArray,((a.map λu=>(u.toNat:Int)).foldl (λr n=>r.push (UInt8.ofNat n.toNat)) s)=⟨s.data++a.toArray⟩:=by
 induction a with
 |nil=>intro s;simp
 |cons n a b=>
  intro s;simp only[aD,eV];rw[b];simp[ByteArray.push]
def rr(l:List UInt8):ByteArray:=⟨l.toArray⟩
def CH{s d:TypeId}{v:Vt_}{l:List UInt8}
  (hs:P.underlying s=some (.slice e))(k:P.underlying e=some (.int .u8))(i:P.underlying d=some .string)(h:Rd w 1 v n (bv l)):
  (rI s d v).run P w=.ok (.string (rr l)) w:=by
 have j:l.length=n:=by simpa using h.1
 obtain⟨_,⟨rfl,a,c,rfl⟩|⟨b,g,m,rfl,p,o⟩⟩:=h
 ·have:l=[]:=by simpa using j
  subst this;unfold rI;rw[run_convert_bytes_string w s d e _ _ _ hs k i];cases a<;>rfl
 ·have f:(loadCells ⟨b,g,none⟩ n).run P w=.ok (bv l).toArray w:=by
   have:=o.loads (P:=P);simpa [j]using this
  unfold rI;rw[run_convert_bytes_string w s d e _ _ _ hs k i,run_bytesToString w _ _ _ (l.map λu=>(u.toNat:Int)) (by rw[f];simp[bv]),K6];simp[rr,ByteArray.empty,ByteArray.emptyWithCapacity];rfl
def CV{s d:TypeId}{K:Value->Prop}{v:Vt_}{l:List UInt8}
  (hs:P.underlying s=some (.slice e))(b:P.underlying e=some (.int .u8))(a:P.underlying d=some .string)(h:Rd w 1 v n (bv l))(c:K (.string (rr l))):
  BL P (rI s d v) w K:=nt (CH hs b a h) c
@[simp] theorem S8 (l a:List UInt8):rr l++rr a=rr (l++a):=by
 apply ByteArray.ext;simp[rr]
@[simp] theorem Vx (l:List UInt8):(rr l).size=l.length:=by simp[rr,ByteArray.size]
@[simp] theorem Te (l:List UInt8):(rr l).toList=l:=ByteArray.toList_mk l
@[simp] theorem Xl {l a:List UInt8}:rr l=rr a↔l=a:=by
 refine⟨λh=>?_,λh=>by rw[h]⟩;have:=dW (λb:ByteArray=>b.data.toList) h;simpa [rr]using this
end Go.Vc
