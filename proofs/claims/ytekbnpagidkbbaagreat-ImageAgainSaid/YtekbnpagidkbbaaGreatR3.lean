/- Part of a proof. -/
import Derived.Scope
import Derived.WalkKit
import Derived.WalkLawsBesides
import Derived.RowKit3
import Derived.Laws.Cover3
import Derived.Laws.CopyRow
import Derived.Laws.Append
import Derived.Laws.MakeOwn
import Derived.Laws.IdiomStrings
import Derived.Laws.BytesString
import Derived.Test.YtekbnpagidkbbaaGreatR2
set_option linter.all false
set_option maxRecDepth 100000
set_option maxHeartbeats 4000000
namespace Go.Vc
open Go Go.Vc
variable {ds mk:List Nat}{F:NP_}{n:Nat}{P:Program}{p:Prop}{a s:Sem Value}{v:Vt_}{w w' :Wt_}{K:aZ}{E:ft}
def qQ{E E' :ft}(h:∀t,E'.get t=E.get t):∀l,lv E' l=lv E l
 | []=>rfl
 |t::l=>by
  simp only[lv,h t];rw[qQ h l]
def DR:∀{l:List Nat} {s:EZ l} {r:List (Nat×Option Value)} {g:Nat->Value} {ds:List Nat},l.Nodup->lv {l:=rT l s r,g:=g,ds:=ds} l=s
 | [],_,_,_,_,_=>rfl
 |t::l,(v,s),r,g,ds,d=>by
  obtain⟨b,d⟩:=ce.1 d;simp only[lv];refine Prod.ext ?_ ?_
  ·simp[ft.get,rT,ft.look]
  ·simp only
   have e:∀a,t ∉ a->lv {l:=rT (t::l) (v,s) r,g:=g,ds:=ds} a=lv {l:=rT l s r,g:=g,ds:=ds} a:=by
    intro a;induction a with
    |nil=>intro _;rfl
    |cons k a j=>
     intro f
     have c:Nat.beq t k=false:=by
      cases h:Nat.beq t k with
      |false=>rfl
      |true=>exact absurd (by rw[dS h];exact aw) f
     simp only[lv];rw[j λi=>f (ag _ i)];congr 1;simp[ft.get,rT,ft.look,c]
   rw[e l b];exact DR d
def uk{ds:List Nat}:∀{l:List (Nat×Option Value)} {acc:List Nat},acc.Nodup->(fV ds l acc).Nodup
 | [],acc,h=>by simpa [fV]using h
 |(k,v)::r,acc,h=>by
  unfold fV;cases a:ds.contains k&& !acc.contains k with
  |true=>
   simp only[ai]at a;exact uk (ce.2 ⟨by simpa using a.2,h⟩)
  |false=>exact uk h
def zK{E1 e:ft}{a:Act}(h1:Fr ds E e)(c:vi n e a)(h:e.ds=mk):
  vi n (pB E ds (fV ds E.l []) (lv e (fV ds E.l [])) (λt=>a.tmps.getD t undef) mk) a:=by
 refine⟨c.size,λt=>?_,by rw[c.defs,h];rfl⟩;by_cases d:t∈ds
 ·by_cases g:t∈fV ds E.l []
  ·unfold ft.get pB;simp only[oZ g];exact c.get t
  ·have b:ft.look E.l t=none:=by
    apply aQ;intro f;exact g (rN d f)
   unfold ft.get pB;have:ds.contains t=true:=by simpa using d
   simp only[oG g,b,this]
 ·rw[tO t d,<-h1 t d];exact c.get t
def IR{h:ft}{b:List Nat}{a:Act}(d:∀t∈ds,ft.look E.l t≠none->t∈b)(e:∀t∈b,t∈ds)(h1:Fr ds E h)(f:vi n h a)(k:h.ds=mk):
  vi n (pB E ds b (lv h b) (λt=>a.tmps.getD t undef) mk) a:=by
 refine⟨f.size,λt=>?_,by rw[f.defs,k];rfl⟩;by_cases g:t∈ds
 ·by_cases j:t∈b
  ·unfold ft.get pB;simp only[oZ j];exact f.get t
  ·have c:ft.look E.l t=none:=by
    apply aQ;intro i;exact j (d t g i)
   unfold ft.get pB;have:ds.contains t=true:=by simpa using g
   simp only[oG j,c,this]
 ·rw[D8 e t g,<-h1 t g];exact f.get t
def A5:∀t,(pB E ds (fV ds E.l []) (lv E (fV ds E.l [])) E.g E.ds).get t=E.get t:=by
 intro t;by_cases d:t∈ds
 ·by_cases c:t∈fV ds E.l []
  ·simp only[ft.get,pB,oZ c]
  ·have a:ft.look E.l t=none:=by
    apply aQ;intro b;exact c (rN d b)
   have:ds.contains t=true:=by simpa using d
   simp only[ft.get,pB,oG c,this,a]
 ·exact tO t d
def zZ{s:EZ (fV ds E.l [])}{g:Nat->Value}:lv (pB E ds (fV ds E.l []) s g mk) (fV ds E.l [])=s:=
 DR (uk ju)
def XW(a:Act):ft:={l:=[],g:=λt=>a.tmps.getD t undef,ds:=a.defers.map λd=>match d.target with| .collected r=>r|_=>0}
def vi.actE{a:Act}(h:vi n E a):(∀t,(Vc.XW a).get t=E.get t)/\(Vc.XW a).ds=E.ds:=by
 refine⟨h.get,?_⟩;unfold Vc.XW;simp only;rw[h.defs,dQ]
 conv=>rhs;rw[<-kX E.ds]
 exact eh λ_ _=>rfl
def Aj(g:uD P=true){f:FuncId}{a:Array Value}{w w1:Wt_}{K:aZ}(h:Ca P f a w K):
  (callFunc f a).run P w1=.ok (.enter f a) w1:=by
 obtain⟨fn,e,i⟩:=h.bodied
 have d:(fn.name== "runtime.NumGoroutine")=false:=by
  have:=(jV.1 g) fn (Array.mem_of_getElem? e);simpa using this
 have b:¬fn.name= "runtime.NumGoroutine" :=by simpa using d
 have c:¬fn.body=none:=by grind
 unfold callFunc;simp[dw,Result.andThen,e,b,c]
def Bx{n:Nat}:∀(f:List Nat) (i:Nat) (b:LV_) (E:ft) (c:Array Value),(f.all λd=>Nat.blt d n)=true->b.length=i+f.length->vi n E {tmps:=c,defers:=[]}->
  vi n {E with l:=wD f i b E.l} {tmps:=(f.zip (b.drop i)).foldl (λc (t,a)=>c.setIfInBounds t a) c,defers:=[]}
 | [],_,_,E,c,_,_,h=>by simpa [wD]using h
 |t::f,i,b,E,c,e,g,h=>by
  simp only[nm,ai]at e;simp only[be]at g;have j:i<b.length:=qZ;have k:=cD j;have m:b.getD i undef=b[i]:=by simp[j]
  have h1:vi n (E.put (some t) b[i]) (({tmps:=c,defers:=[]}:Act).put (some t) b[i]):=h.put (d:=some t) e.1 _;have:=Bx f (i+1) b (E.put (some t) b[i]) (c.setIfInBounds t b[i]) e.2 qZ h1;rw[k];simpa only[wD,ft.put,m,List.zip_cons_cons,ff]using this
def OE(d:Array Nat)(c:LV_)(b:Array Value):
  (d.zip ⟨c⟩).foldl (λb (t,a)=>b.setIfInBounds t a) b=(d.toList.zip c).foldl (λb (t,a)=>b.setIfInBounds t a) b:=by
 rw[<-Array.foldl_toList];simp
def wd{l0:Nat}{r:Loop}(h:w.heap[l0]? =some (.loop r))(fn:FuncId)(tmps:Array Value)(a:Array Tmp)(assign body:Code):
  (Instr.enterLoop fn tmps a assign body (some l0)).run P w=
   .ok (w.heap.size,[]) (w.alloc (.loop {state:=.ready,pending:=none,fn,tmps,params:=a,assign,body,defers:=r.defers})):=by
 unfold Instr.enterLoop;simp only[dw,run_getLoop h,Result.andThen,ir,run_newObj_alloc]
def Qa{jn:Bool}(hP:uD P=true){n:Nat}:∀c B Q H E a w,
  IL P n c=true->vi n E a->(∀e E a w,vi n E a->Q e E w->H e a w)->vc P jn B c Q E w->c.wpIn (FR B) 0 P H a w:=by
 intro c;induction c with
 |skip=>intro B Q H E a w _ A p h;exact wpIn_skip (p _ _ _ _ A h)
 |region id ops draw=>
  intro B Q H E a w q A p h;simp only[IL,ai]at q;cases draw with
  |false=>exact wpIn_region_list (Eu (ops:=ops.toList) hP (p .normal) ops.toList q.1 E a w A h)
  |true=>
   have U:=q.2;simp only[jL,fP,ai]at U;apply wpIn_region_any U.1
   have:=N0 (ro:=B) (ops:=ops.toList) hP U.2 q.1 (p .normal) ops.size [] [] [] [] E a w.drew (ops.toList.length+1) (Array.replicate ops.size false)
    ⟨(λi=>by simp),(λi hi=>by cases hi),ju,trivial,(λi hi=>by cases hi),A.size,A.defs,(λt _=>A.get t),(λi hi=>by cases hi)⟩
    (λi hi=>by simp at hi;simp[hi]) (by simp) (by simp) (by grind) h
   simpa using this
 |seq x y ihx ihy=>
  intro B Q H E a w q A p h;simp only[IL,ai]at q;simp only[vc]at h;cases hj:jn&& HN x y with
  |true=>
   rw[hj]at h;simp only[uV]at h;obtain⟨J,hJ,hA⟩:=h.out;simp only[ai]at hj;have Z:=Hk hj.2
   have hA' :=FB x B _ (λe L S=>(match e with| .normal=>J (lv L (Mh (gp x) E.l (sn y))) S|e=>Q e L S)/\Fr (gp x) E L/\L.ds=E.ds) _ w hA
    (λe L S V hd o=>⟨by grind,V,hd Z⟩)
   refine wpIn_seq (ihx B _ _ E a w q.1 A (λe E1 X u k o=>?_) hA');obtain⟨o,V,hd⟩:=o;cases e with
   |normal=>exact ihy B Q H _ X u q.2 (IR (λt ht hne=>Na ht hne) Dd V k hd) p (hJ _ _ o _)
   |exit id=>exact p _ _ _ _ k o
   |goto id=>exact p _ _ _ _ k o
   |ret=>exact p _ _ _ _ k o
   |panic ch=>exact p _ _ _ _ k o
   |outgrown=>exact p _ _ _ _ k o
  |false=>
  rw[hj]at h;refine wpIn_seq (ihx B _ _ E a w q.1 A (λe E1 X u k o=>?_) h);cases e with
  |normal=>exact ihy B Q H E1 X u q.2 k p o
  |exit id=>exact p _ _ _ _ k o
  |goto id=>exact p _ _ _ _ k o
  |ret=>exact p _ _ _ _ k o
  |panic ch=>exact p _ _ _ _ k o
  |outgrown=>exact p _ _ _ _ k o
 |cond c t f iht ihf=>
  intro B Q H E a w q A p h;simp only[IL,ai]at q;simp only[vc,FH]at h;split at h
  ·rename_i b T
   have hb' :a.eval c=.bool b:=by rw[A.ev];exact T
   cases b with
   |true=>exact wpIn_cond hb' (iht B Q H E a w q.1 A p h)
   |false=>exact wpIn_cond hb' (ihf B Q H E a w q.2 A p h)
  ·exact h.elim
 |block id c ih=>
  intro B Q H E a w q A p h;refine wpIn_block (ih B _ _ E a w q A (λe E1 X u k o=>?_) h);cases e with
  |exit i=>
   simp only at o;cases T:Nat.beq i id with
   |true=>
    rw[T]at o;simp only[bc]at o;simp only[Exit.inBlock,dS T,df];exact p _ _ _ _ k o
   |false=>
    rw[T]at o;have hne:¬i=id:=λe=>by subst e;simp at T
    simp only[Exit.inBlock,hne,dg];exact p _ _ _ _ k o
  |normal=>exact p _ _ _ _ k o
  |goto id=>exact p _ _ _ _ k o
  |ret=>exact p _ _ _ _ k o
  |panic ch=>exact p _ _ _ _ k o
  |outgrown=>exact p _ _ _ _ k o
 |loop c ih=>
  intro B Q H E a w q A p h;simp only[vc,uV]at h;cases Z:mZ c with
  |false=>
   rw[Z]at h;obtain⟨I,m,h0,h1⟩:=h.out
   refine wpIn_loop (λa w=>∃s g,vi n (pB E (gp c) (fV (gp c) E.l []) s g E.ds) a/\I s w) (λa w=>m (lv (XW a) (fV (gp c) E.l [])) w)
    ⟨_,E.g,A.of_get A5 rfl,h0⟩ ?_
   rintro X u ⟨s,g,k,hI⟩
   have T:=FB c B _ (λe L S=>(match e with| .normal=>I (lv L (fV (gp c) E.l [])) S/\m (lv L (fV (gp c) E.l [])) S<m s u|e=>Q e L S)/\Fr (gp c) E L/\L.ds=E.ds) _ u (h1 s u hI g)
    (λe L S V hd o=>⟨by grind,tO.trans V,hd Z⟩)
   refine ih B _ _ _ X u q k (λe E2 a2 w2 z o=>?_) T;obtain⟨o,V,hd⟩:=o;cases e with
   |normal=>
    refine⟨⟨_,_,zK (E1:=E) V z hd,o.1⟩,?_⟩;rw[qQ (z.actE.1),qQ (k.actE.1),zZ];exact o.2
   |exit id=>exact p _ _ _ _ z o
   |goto id=>exact p _ _ _ _ z o
   |ret=>exact p _ _ _ _ z o
   |panic ch=>exact p _ _ _ _ z o
   |outgrown=>exact p _ _ _ _ z o
  |true=>
   rw[Z]at h;obtain⟨I,m,h0,h1⟩:=h.out
   refine wpIn_loop (λa w=>∃s g,vi n (pB E (gp c) (fV (gp c) E.l []) s.1 g s.2) a/\I s w) (λa w=>m (lv (XW a) (fV (gp c) E.l []),(XW a).ds) w)
    ⟨(_,E.ds),E.g,A.of_get A5 rfl,h0⟩ ?_
   rintro X u ⟨s,g,k,hI⟩
   have T:=FB c B _ (λe L S=>(match e with| .normal=>I (lv L (fV (gp c) E.l []),L.ds) S/\m (lv L (fV (gp c) E.l []),L.ds) S<m s u|e=>Q e L S)/\Fr (gp c) E L) _ u (h1 s u hI g)
    (λe L S V hd o=>⟨by grind,tO.trans V⟩)
   refine ih B _ _ _ X u q k (λe E2 a2 w2 z o=>?_) T;obtain⟨o,V⟩:=o;cases e with
   |normal=>
    refine⟨⟨(_,E2.ds),_,zK (E1:=E) V z rfl,o.1⟩,?_⟩;rw[qQ (z.actE.1),qQ (k.actE.1),zZ,z.actE.2,k.actE.2];exact o.2
   |exit id=>exact p _ _ _ _ z o
   |goto id=>exact p _ _ _ _ z o
   |ret=>exact p _ _ _ _ z o
   |panic ch=>exact p _ _ _ _ z o
   |outgrown=>exact p _ _ _ _ z o
 |rangeFunc gv ps assign body iha ihb=>
  intro B Q H E a w q A p h;simp only[IL,ai]at q;obtain⟨⟨hps,hoka⟩,hokb⟩:=q;simp only[vc,t0,RFD]at h;split at h
  ·rename_i f first j hgv
   have hgv' :a.eval gv=.func (.func f) first j:=by rw[A.ev];exact hgv
   have main:∀(u:Wt_) (D:Nat) (mk:List Nat) (fn:FuncId),
     (∀rec:Loop,rec.state=.ready->rec.pending=none->rec.defers=D->
      (∀(C:LV_) (W:Wt_) (K:aZ),C.length=ps.toList.length->QC W u.heap.size rec->
       vc P jn (some u.heap.size) assign (λe E W=>match e with
        | .normal=>qt u.heap.size W λW=>vc P jn (some u.heap.size) body (λe _ W=>match e with
         | .normal=>∃r,uC W u.heap.size r/\K (.bool true) (W.putObj u.heap.size (.loop {r with state:=.ready,pending:=none}))
         | .ret=>∃r,uC W u.heap.size r/\K (.bool false) (W.putObj u.heap.size (.loop {r with state:=.done,pending:=some .ret}))
         | .exit id=>∃r,uC W u.heap.size r/\K (.bool false) (W.putObj u.heap.size (.loop {r with state:=.done,pending:=some (.exit id)}))
         |_=>False) E W
        |_=>False) {E with l:=wD ps.toList 0 C E.l,ds:=[]} W->
       Yl P u.heap.size ⟨C⟩ W K)->
      Ca P f ⟨first.toList++(.func (.yield u.heap.size) #[] #[]::j.toList)⟩ (u.alloc (.loop rec)) λ_ W=>
       ∃r,uC W u.heap.size r/\r.state≠ .busy/\jR (λW=>Q .normal {E with ds:=mk++E.ds} W) (λW=>Q .ret {E with ds:=mk++E.ds} W)
        (λid W=>Q (.exit id) {E with ds:=mk++E.ds} W) r.pending (W.putObj u.heap.size (.loop {r with state:=.exhausted})))->
     let rc:Loop:={state:=.ready,pending:=none,fn,tmps:=a.tmps,params:=ps,assign,body,defers:=D}
     let a' :Act:={a with defers:=(mk.map λd=>{target:=.collected d,args:=#[]})++a.defers}
     CallsIn (FR B) 0 P f ⟨first.toList++(.func (.yield u.heap.size) #[] #[]::j.toList)⟩ (u.alloc (.loop rc)) (rangePost (FR B) 0 P u.heap.size H a')/\
      ∀w2,(callFunc f ⟨first.toList++(.func (.yield u.heap.size) #[] #[]::j.toList)⟩).run P w2=.ok (.enter f ⟨first.toList++(.func (.yield u.heap.size) #[] #[]::j.toList)⟩) w2:=by
    intro u D mk fn hh rc a'
    have hca:=hh rc rfl rfl rfl (λC W K hlen hrec hrnd=>by
     obtain⟨st,pend,hat⟩:=hrec;refine⟨_,_,_,_,run_yield hat (by simpa using hlen),?_⟩;apply roundIn_of_wpIn (F:=Fence.wide) trivial
     have hrel:vi n {E with l:=wD ps.toList 0 C E.l,ds:=[]} {tmps:=(ps.zip ⟨C⟩).foldl (λO (t,a)=>O.setIfInBounds t a) a.tmps,defers:=[]}:=by
      rw[OE];exact Bx ps.toList 0 C {E with ds:=[]} a.tmps hps (by simpa using hlen) ⟨A.size,A.get,rfl⟩
     refine iha (some u.heap.size) _ _ _ _ W hoka hrel (λe E1 X W1 k o=>?_) hrnd;cases e with
     |normal=>
      obtain⟨r,hra,hst,hbody⟩:=o.out;refine⟨_,run_beginRound hra hst,?_⟩;refine ihb (some u.heap.size) _ _ E1 X _ hokb k (λe E2 a2 W2 z R=>?_) hbody;cases e with
      |normal=>
       obtain⟨r2,N,hK⟩:=R;exact⟨_,_,run_endRound none N,_,rfl,hK⟩
      |ret=>
       obtain⟨r2,N,hK⟩:=R;exact⟨_,_,run_endRound _ N,_,rfl,hK⟩
      |exit id=>
       obtain⟨r2,N,hK⟩:=R;exact⟨_,_,run_endRound _ N,_,rfl,hK⟩
      |goto id=>exact R.elim
      |panic ch=>exact R.elim
      |outgrown=>exact R.elim
     |exit id=>exact o.elim
     |goto id=>exact o.elim
     |ret=>exact o.elim
     |panic ch=>exact o.elim
     |outgrown=>exact o.elim)
    refine⟨FR.calls (jI hca.out ?_),λw2=>Aj hP hca⟩;rintro e W ⟨v,rfl,r,hra,T,M⟩;refine⟨_,_,run_endLoop hra T,?_⟩;have hr' :vi n {E with ds:=mk++E.ds} a' :=⟨A.size,A.get,by simp only[a',A.defs,aM]⟩
    generalize W.putObj u.heap.size (.loop {r with state:=.exhausted})=W4 at M|-;unfold jR at M;split at M
    ·grind
    ·rename_i hp;rw[hp];exact wpIn_ret (p _ _ _ _ hr' M)
    ·rename_i hp;rw[hp];exact wpIn_exit (p _ _ _ _ hr' M)
    ·exact M.elim
   refine wpIn_rangeFunc λfn _=>?_
   have hinv:∀l,(do let d<-resolve a.eval (rangeCall gv l) 0;invoke d.target d.args:Sem Next)=callFunc f ⟨first.toList++(.func (.yield l) #[] #[]::j.toList)⟩:=by
    intro l;have e1:resolve a.eval (rangeCall gv l) 0=Deferred.ofValue (a.eval gv) #[.func (.yield l) #[] #[]]:=by simp[resolve,Act.eval]
    rw[e1,hgv'];have e2:(do let d<-Deferred.ofValue (.func (.func f) first j) #[.func (.yield l) #[] #[]];invoke d.target d.args:Sem Next)=callFunc f (first++ #[.func (.yield l) #[] #[]]++j):=rfl;rw[e2];congr 1;apply kM;simp
   have hres:∀l u,(resolve a.eval (rangeCall gv l) 0).run P u=.ok {target:=.fn (.func f) j,args:=first++ #[.func (.yield l) #[] #[]]} u:=by
    intro l u;have e1:resolve a.eval (rangeCall gv l) 0=Deferred.ofValue (a.eval gv) #[.func (.yield l) #[] #[]]:=by simp[resolve,Act.eval]
    rw[e1,hgv'];rfl
   have hinv2:∀l,(invoke (.fn (.func f) j) (first++ #[.func (.yield l) #[] #[]]):Sem Next)=callFunc f ⟨first.toList++(.func (.yield l) #[] #[]::j.toList)⟩:=by
    intro l;have e2:(invoke (.fn (.func f) j) (first++ #[.func (.yield l) #[] #[]]):Sem Next)=callFunc f (first++ #[.func (.yield l) #[] #[]]++j):=rfl;rw[e2];congr 1;apply kM;simp
   cases B with
   |none=>
    have hm:=main (w.alloc (.deferred (some []))) w.heap.size [w.heap.size] fn h;obtain⟨W1,Y⟩:=di ((w.alloc (.deferred (some []))).alloc (.loop {state:=.ready,pending:=none,fn,tmps:=a.tmps,params:=ps,assign,body,defers:=w.heap.size}));have hm1:=hm.1;have hm2:=hm.2 W1;rw[cw]at hm1 hm2;refine⟨w.heap.size+1,[{target:=.collected w.heap.size,args:=#[]}],W1,_,W1,f,⟨first.toList++(.func (.yield (w.heap.size+1)) #[] #[]::j.toList)⟩,W1,?_,hres _ _,λ_ _=>FR.fn none _,?_,(λhh=>by rw[FR.depth]at hh;cases hh),?_⟩
    ·rw[Y];exact run_enterLoop_outer fn a.tmps ps assign body
    ·rw[hinv2];exact hm2
    ·rw[Y];exact hm1
   |some l0=>
    obtain⟨r0,hr0,h⟩:=h;have hm:=main w r0.defers [] fn h;obtain⟨W1,Y⟩:=di (w.alloc (.loop {state:=.ready,pending:=none,fn,tmps:=a.tmps,params:=ps,assign,body,defers:=r0.defers}));refine⟨w.heap.size,[],W1,_,W1,f,⟨first.toList++(.func (.yield w.heap.size) #[] #[]::j.toList)⟩,W1,?_,hres _ _,λ_ _=>FR.fn (some l0) _,?_,(λhh=>by rw[FR.depth]at hh;cases hh),?_⟩
    ·rw[FR.round,Y];exact wd hr0 fn a.tmps ps assign body
    ·grind
    ·rw[Y];exact hm.1
  ·exact h.elim
 |exit id=>intro B Q H E a w _ A p h;exact wpIn_exit (p _ _ _ _ A h)
 |scope c ih=>
  intro B Q H E a w q A p h;cases B with
  |some l=>exact h.elim
  |none=>
   refine wpIn_wide.2 (wp_scope_straight ((wpIn_wide (n:=0)).1 ?_));refine ih none (λe E w=>match e with| .goto _=>False|e=>Q e E w) (Exit.noGoto H) E a w q A (λe E1 X u k o=>?_) h;cases e with
   |goto l=>exact o.elim
   |exit id=>exact p _ _ _ _ k o
   |normal=>exact p _ _ _ _ k o
   |ret=>exact p _ _ _ _ k o
   |panic ch=>exact p _ _ _ _ k o
   |outgrown=>exact p _ _ _ _ k o
 |label l=>intro B Q H E a w _ A p h;exact wpIn_label (p _ _ _ _ A h)
 |goto l=>intro B Q H E a w _ A p h;exact h.elim
 |ret=>intro B Q H E a w _ A p h;exact wpIn_ret (p _ _ _ _ A h)
 |refuse why=>intro B Q H E a w _ A p h;exact h.elim
def Ap:List Nat->World->(World->Prop)->Prop
 | [],w,K=>K w
 |d::ds,w,K=>w.heap[d]? =some (.deferred (some []))/\Ap ds (w.putObj d (.deferred none)) K
def Et(P:Program):List ResultVar->ft->World->(List Value->Prop)->Prop
 | [],_,_,K=>K []
 | .tmp t::r,E,w,K=>Et P r E w λvs=>K (E.get t::vs)
 | .cell a t::r,E,w,K=>match CS P t with
  |true=>ID P (qE t (E.get a)) w λv=>Et P r E w λvs=>K (v::vs)
  |false=>nV P (iL t (E.get a)) w λv=>Et P r E w λvs=>K (v::vs)
def GU:List Value->Value
 | [v]=>v
 |vs=>.tuple ⟨vs⟩
def DG:Nat->List Value->List (Nat×Option Value)
 |_,[]=>[]
 |i,v::r=>(i,some v)::DG (i+1) r
def PQ(P:Program)(jn:Bool)(fn:Func)(args:LV_)(w:Wt_)(K:aZ):Prop:=
 match fn.body with
 |none=>False
 |some c=>vc P jn none c (λe E w=>match e with
   | .normal=>Ap E.ds w λw=>Et P fn.results.toList E w λvs=>K (GU vs) w
   | .ret=>Ap E.ds w λw=>Et P fn.results.toList E w λvs=>K (GU vs) w
   |_=>False) {l:=DG 0 args,g:=λ_=>undef,ds:=[]} w
def Q3(P:Program)(fn:Func)(args:LV_)(w:Wt_)(K:aZ):Prop:=PQ P true fn args w K
def okF(P:Program)(fn:Func)(k:Nat):Bool:=
 Nat.ble k fn.ntmps&& match fn.body with
 |none=>false
 |some c=>IL P fn.ntmps c
def CF(t:Nat):∀l i,ft.look (DG i l) t=if i<=t then(l[t - i]?).map some else none
 | [],i=>by simp[DG,ft.look]
 |v::r,i=>by
  simp only[DG,ft.look];cases a:Nat.beq i t with
  |true=>have:=dS a;subst this;simp
  |false=>
   have b:i≠t:=λe=>by subst e;simp at a
   simp only[cond_false];rw[CF t r (i+1)];by_cases h:i+1<=t
   ·grind
   ·grind
def ME(a:LV_)(n:Nat)(h:a.length<=n):
  vi n {l:=DG 0 a,g:=λ_=>undef,ds:=[]} {tmps:=(⟨a⟩:Array Value)++Array.replicate (n - a.length) undef,defers:=[]}:=by
 refine⟨by simp;omega,λt=>?_,rfl⟩;unfold ft.get;rw[CF];simp only[aH,df,kq];by_cases b:t<a.length
 ·rw[gh,Array.getElem?_append_left (by simpa using b)];simp[av b]
 ·rw[gy qZ];rw[gh,Array.getElem?_append_right (by grind)];simp only[Option.map_none];cases c:(Array.replicate (n - a.length) undef)[t - (⟨a⟩:Array Value).size]? with
  |none=>rfl
  |some v=>
   have:=(ji.1 c).2;simp at this;simp[this]
def Cv(tmps:Array Value):ResultVar->Sem Value
 | .tmp t=>pure (tmps.getD t undef)
 | .cell a t=>do loadVar t (<-asAddr (tmps.getD a undef))
def Ck{P:Program}{b:Array Value}{E:ft}{w:Wt_}(d:∀t,b.getD t undef=E.get t):∀rs K,Et P rs E w K->
  ∃vs,(rs.mapM (Cv b)).run P w=.ok vs w/\K vs
 | [],K,h=>⟨[],rfl,h⟩
 | .tmp t::r,K,h=>by
  obtain⟨vs,h1,e⟩:=Ck d r _ h;refine⟨_,?_,e⟩;have f:(Cv b (.tmp t)).run P w=.ok (E.get t) w:=by rw[<-d];rfl
  simp only[pu,dw,ir,Result.andThen,f,h1]
 | .cell a t::r,K,h=>by
  have h:nV P (Instr.loadAt t (E.get a)) w λv=>Et P r E w λvs=>K (v::vs):=by
   simp only[Et]at h;cases i:CS P t with
   |true=>rw[i]at h;exact h.out
   |false=>rw[i]at h;exact h
  simp only[yn,GV]at h;split at h
  ·rename_i v g c
   obtain⟨rfl,h⟩:=h;obtain⟨vs,h1,e⟩:=Ck d r _ h;refine⟨_,?_,e⟩
   have f:(Cv b (.cell a t)).run P g=.ok v g:=by
    have j:Cv b (.cell a t)=(do loadVar t (<-asAddr (b.getD a undef))):=rfl;rw[j,d];unfold Instr.loadAt at c;cases k:E.get a<;>rw[k]at c<;>first|(simp[Instr.sureAddr,stuck,dw,Sem.run,Result.andThen]at c;done)|skip
    rename_i p
    cases p with
    |none=>simp[Instr.sureAddr,stuck,dw,Sem.run,Result.andThen]at c
    |some p=>
     simp only[Instr.sureAddr,asAddr,dw,ir,Result.andThen]at c|-;exact c
   simp only[pu,dw,ir,Result.andThen,f,h1]
  ·exact h.elim
def Kg(fn:Func)(a:Array Value):results fn a=(do
  let vs<-fn.results.mapM (Cv a)
  pure (if h:vs.size=1 then vs[0]else .tuple vs)):=by
 unfold results;congr 1
def y7{P:Program}{fn:Func}{a:Array Value}{E:ft}{K:aZ}(b:∀t,a.getD t undef=E.get t):∀ds w,
  Ap ds w (λw=>Et P fn.results.toList E w λvs=>K (GU vs) w)->
  LeavesInM Fence.wide 0 P fn a (λe c=>∃v,e=.returned v/\K v c) (ds.map λd=>{target:=.collected d,args:=#[]}) .returning w
 | [],w,h=>by
  obtain⟨vs,h1,f⟩:=Ck b _ _ h;refine⟨GU vs,?_,_,rfl,f⟩;rw[Kg,Array.mapM_eq_mapM_toList];simp only[dw,Sem.run_map,h1,Result.andThen,ir];congr 1
  match vs with
  | []=>rfl
  | [v]=>rfl
  |v::u::r=>simp[GU]
 |d::ds,w,h=>by
  refine⟨by simp,.inl ⟨d,_,rfl,run_takeDeferred h.1,y7 b ds _ h.2⟩⟩
def MQ{o:Bool}(q:uD P=true){f:FuncId}{fn:Func}{b:LV_}{w:Wt_}{K:aZ}(p:P.funcs[f]? =some fn)(d:okF P fn b.length=true)
  (h:PQ P o fn b w K):Ca P f ⟨b⟩ w K:=by
 unfold okF at d;unfold PQ at h;simp only[ai]at d;obtain⟨i,d⟩:=d;cases m:fn.body with
 |none=>rw[m]at h;exact h.elim
 |some c=>
  rw[m]at h d;refine⟨(callsIn_wide (n:=0)).1 (callsIn_of_wp_marks p m trivial ?_ rfl)⟩;have j:=ME b fn.ntmps (by simpa [Nat.ble_eq]using i);refine Qa (n:=fn.ntmps) q c none _ _ _ _ w d j (λe E a r l g=>?_) h;cases e with
  |normal=>have k:=y7 (K:=K) l.get _ _ g;rw[<-l.defs]at k;exact k
  |ret=>have k:=y7 (K:=K) l.get _ _ g;rw[<-l.defs]at k;exact k
  |exit id=>exact g.elim
  |goto id=>exact g.elim
  |panic s=>exact g.elim
  |outgrown=>exact g.elim
def Ee(d:uD P=true){f:FuncId}{fn:Func}{a:LV_}{w:Wt_}{K:aZ}(c:P.funcs[f]? =some fn)(b:okF P fn a.length=true)
  (h:Q3 P fn a w K):Ca P f ⟨a⟩ w K:=MQ d c b h
@[simp,go_sem] theorem ay (b:Bool) (T F:Prop):sx (.bool b) T F↔if b=true then T else F:=by cases b<;>simp[sx,FH,bc]
def kJ(A B:Prop):sx (.bool true) A B=A:=by rw[ay,ae rfl]
def jO(A B:Prop):sx (.bool false) A B=B:=by rw[ay,aa dp]
def oB  [Decidable p]{A B:Prop}(h:p):sx (.bool (decide p)) A B=A:=by rw[ay,ae (aW h)]
def JP  [Decidable p]{A B:Prop}(h:¬p):sx (.bool (decide p)) A B=B:=by rw[ay,aa (by rw[aS];exact h)]
@[simp,go_sem] theorem ZA (b:Bool) (K:Bool->Prop):FH (.bool b) K↔K b:=aG
@[simp,go_sem] theorem bU (a:Addr) (K:Value->Prop):pJ (.pointer (some a)) K↔K (.pointer (some a)):=aG
@[simp,go_sem] theorem am3 (b:Bool) (T F:Prop):bc b T F↔if b=true then T else F:=by cases b<;>simp[bc]
@[simp,go_sem] theorem af9 (b:Bool) (x y:Vt_):SP b x y=if b=true then x else y:=by cases b<;>rfl
def RL(h1:s=a)(b:w=w'):rv P s w K=rv P a w' K:=by rw[h1,b]
def PX{s a:Sem Unit}{K:World->Prop}(h1:s=a)(b:w=w'):ru P s w K=ru P a w' K:=by rw[h1,b]
def Q7{s a:Sem Next}(h1:s=a)(b:w=w'):rn P s w K=rn P a w' K:=by rw[h1,b]
def ON{K:Value->Prop}(h1:s=a)(b:w=w'):nV P s w K=nV P a w' K:=by rw[h1,b]
def NV{K:Value->Prop}(h1:s=a):jC P s K=jC P a K:=by rw[h1]
def S2{f:FuncId}{a b:Array Value}(h1:a=b)(c:w=w'):Ca P f a w K=Ca P f b w' K:=by rw[h1,c]
def HE{f c:Vt_}{a b:LV_}(e:f=c)(h1:a=b)(d:w=w'):lA P f a w K=lA P c b w' K:=by rw[e,h1,d]
def J5{a:Vt_}{K:Value->Prop}(h:v=a):pJ v K=pJ a K:=by rw[h]
def N1{a:Vt_}{K:Bool->Prop}(h:v=a):FH v K=FH a K:=by rw[h]
def Ms{a:Vt_}{T F:Prop}(h:v=a):sx v T F=sx a T F:=by rw[h]
def HT{S:Type}{body:S->World->(S->World->Prop)->Prop}{s a:S}(h1:s=a)(b:w=w'):oJ body s w=oJ body a w' :=by rw[h1,b]
def PW(h1:s=a)(b:w=w'):rx P s w K=rx P a w' K:=by rw[h1,b]
def My{s a:Sem Unit}{K:World->Prop}(h1:s=a)(b:w=w'):yS P s w K=yS P a w' K:=by rw[h1,b]
def Ob{K:Value->Prop}(h1:s=a)(b:w=w'):ID P s w K=ID P a w' K:=by rw[h1,b]
def J0{K:Value->Prop}(h1:s=a):Hg P s K=Hg P a K:=by rw[h1]
attribute [congr] PW My Ob J0 RL PX Q7 ON NV S2 HE J5 N1 Ms HT
attribute [go_sem] B4 Wn Bv V3 pV OZ yn GV T8 XC io eqG
@[go_sem] theorem eX {P:Program} {f:FuncId} {first a:Array Value} {b:LV_} {w:Wt_} {K:aZ}:lA P (.func (.func f) first a) b w K↔Ca P f ⟨first.toList++(b++a.toList)⟩ w K:=kf
def Zl{S:Type}{body:S->World->(S->World->Prop)->Prop}{s:S}(I:S->World->Prop)(m:S->World->Nat)(c:I s w)
  (h:∀s w,I s w->body s w λa b=>I a b/\m a b<m s w):oJ body s w:=⟨I,m,c,h⟩
def Cn(P:Program)(t:TypeId):Bool:=match P.underlying t with|some (.map ..)=>true|_=>false
def yj(P:Program)(t:TypeId):Bool:=match P.underlying t with|some (.slice ..)=>true|_=>false
@[go_sem] theorem wS {P:Program} {t:TypeId}:Cn P t=true↔∃k e,P.underlying t=some (.map k e):=by
 unfold Cn;split<;>simp_all
@[go_sem] theorem xI {P:Program} {t:TypeId}:yj P t=true↔∃e,P.underlying t=some (.slice e):=by
 unfold yj;split<;>simp_all
@[go_sem] theorem RS {P:Program} {w:Wt_} (t:TypeId) (m:Option Nat) (h:Cn P t=true):(binOp .eql t (.map m) (.map none)).run P w=.ok (.bool m.isNone) w:=by
 obtain⟨k,e,h⟩:=wS.1 h;simp only[binOp];simp[run_equal_map_nil w t k e m h]
@[go_sem] theorem QS {P:Program} {w:Wt_} (t:TypeId) (m:Option Nat) (h:Cn P t=true):(binOp .neq t (.map m) (.map none)).run P w=.ok (.bool (!m.isNone)) w:=by
 obtain⟨k,e,h⟩:=wS.1 h;simp only[binOp];simp[run_equal_map_nil w t k e m h]
@[go_sem] theorem MA {P:Program} {w:Wt_} (t:TypeId) (a:Option Addr) (l c:Nat) (h:yj P t=true):(binOp .eql t (.slice a l c) (.slice none 0 0)).run P w=.ok (.bool a.isNone) w:=by
 obtain⟨e,h⟩:=xI.1 h;simp only[binOp];simp[run_equal_slice_nil w t e a l c h]
@[go_sem] theorem Oh {P:Program} {w:Wt_} (t:TypeId) (a:Option Addr) (l c:Nat) (h:yj P t=true):(binOp .neq t (.slice a l c) (.slice none 0 0)).run P w=.ok (.bool (!a.isNone)) w:=by
 obtain⟨e,h⟩:=xI.1 h;simp only[binOp];simp[run_equal_slice_nil w t e a l c h]
@[go_sem] theorem A2 {P:Program} {w:Wt_} (t:TypeId):(Instr.makeMap t none).run P w=.ok (.map (some w.heap.size)) (w.alloc (.map #[] 0)):=by
 simp[Instr.makeMap]
@[go_sem] theorem O2 {P:Program} {w:Wt_} (t:TypeId) (k:IntKind) (n:Int) (h:Cn P t=true):(Instr.makeMap t (some (.int k n))).run P w=.ok (.map (some w.heap.size)) (w.alloc (.map #[] 0)):=by
 obtain⟨k,e,h⟩:=wS.1 h;simp[Instr.makeMap,aT h,asInt,asIntOf,Result.andThen]
def ET(o:Option Obj)(i:Nat)(v:Vt_):Option Obj:=
 match o with
 |some (.cells c t fz)=>some (.cells (c.setIfInBounds i v) t fz)
 |o=>o
@[simp] theorem jJ (c:Array Value) (t:TypeId) (a:Nat×Nat) (i:Nat) (v:Vt_):ET (some (.cells c t a)) i v=some (.cells (c.setIfInBounds i v) t a):=rfl
def kE(w:Wt_)(b i:Nat)(v:Vt_)(a:Nat):(w.setCell ⟨b,i,none⟩ v).heap[a]? =if a=b then ET w.heap[b]? i v else w.heap[a]? :=by
 unfold World.setCell;simp only[Option.isSome_none,bi,dg];rw[kN];by_cases h:b=a
 ·subst h;simp only[df];cases c:w.heap[b]? with
  |none=>rfl
  |some o=>cases o<;>rfl
 ·grind
def er(w:Wt_)(o:Obj)(a:Nat):(w.alloc o).heap[a]? =if a=w.heap.size then some o else w.heap[a]? :=by
 show(w.heap.push o)[a]? =_;rw[Array.getElem?_push]
def dR(w:Wt_)(b:Nat)(o:Obj)(c:Nat):(w.putObj b o).heap[c]? =if c=b then(w.heap[b]?).map (λ_=>o)else w.heap[c]? :=by
 unfold World.putObj;simp only;rw[Array.getElem?_setIfInBounds];by_cases h:b=c
 ·subst h;simp only[df];by_cases a:b<w.heap.size
  ·simp[a]
  ·simp[a]
 ·grind
def tZ(w:Wt_)(a:Addr)(v:Vt_):(w.setCell a v).heap.size=w.heap.size:=by simp[World.setCell]
def aB{b:Nat}{o:Obj}(h:w.heap[b]? =some o):b<w.heap.size:=(ji.1 h).1
def hp(w:Wt_)(b:Nat):Option Obj:=w.heap[b]?
@[simp] abbrev hC (w:Wt_) (b:Nat) (x:Array Value) (t:TypeId):Prop:=hp w b=some (.cells x t (0,0))
def dq_{q:Prop} [Decidable p] [Decidable q](h:decide p=true:=by decide)(g:decide q=true:=by decide):p/\q:=⟨bE h,bE g⟩
def bT{b:Nat}{o:Option Obj}(h:w.heap[b]? =o):hp w b=o:=h
@[go_sem] theorem ag0 (w:Wt_) (a:Addr):w.cell? a=match hp w a.block with|some (.cells c _ _)=>if a.spot.isSome then none else c[a.off]? |_=>none:=rfl
@[go_sem] theorem YP (w:Wt_) (a:Addr):w.frozen? a=match hp w a.block with|some (.cells _ _ (b,c))=>b<=a.off&& a.off<c|_=>false:=rfl
@[go_sem] theorem Bp (w:Wt_) (b i:Nat) (v:Vt_) (a:Nat):hp (w.setCell ⟨b,i,none⟩ v) a=if a=b then ET (hp w b) i v else hp w a:=kE w b i v a
@[go_sem] theorem vJ (w:Wt_) (o:Obj) (a:Nat):hp (w.alloc o) a=if a=w.heap.size then some o else hp w a:=er w o a
@[go_sem] theorem Nk (w:Wt_) (b:Nat) (o:Obj) (a:Nat):hp (w.putObj b o) a=if a=b then(hp w b).map (λ_=>o)else hp w a:=dR w b o a
@[go_sem] theorem af8 (w:Wt_) (b:Nat):hp w.drew b=hp w b:=rfl
attribute [go_sem] tZ World.size_alloc World.putObj_size
@[go_sem] theorem Dj (w:Wt_):w.drew.heap.size=w.heap.size:=rfl
def XK{d:Nat}(h:d<n):¬d=n/\(∀k,¬d=n+k)/\¬n=d/\∀k,¬n+k=d:=⟨qZ,λk=>qZ,qZ,λk=>qZ⟩
@[go_sem] theorem ag1 (n a b:Nat):n+a+b=n+(a+b):=ey n a b
structure aR(F:NP_)(w w' :Wt_):Prop where
 size:w.heap.size<=w'.heap.size
 out:w'.output=w.output
 os:w'.os=w.os
 blk:∀b,b<w.heap.size->¬F b->w'.heap[b]? =w.heap[b]?
abbrev M0:=aR λ_=>False
def aR.refl(F:NP_)(w:Wt_):aR F w w:=⟨aD _,rfl,rfl,λ_ _ _=>rfl⟩
def aR.trans{w1 d:Wt_}(h:aR F w w1)(a:aR F w1 d):aR F w d:=
 ⟨ck h.size a.size,a.out.trans h.out,a.os.trans h.os,λb e c=>(a.blk b (bI e h.size) c).trans (h.blk b e c)⟩
def aR.mono{G:NP_}(h:aR F w w')(hs:∀b,b<w.heap.size->F b->G b):aR G w w' :=
 ⟨h.size,h.out,h.os,λb a d=>h.blk b a λc=>d (hs b a c)⟩
def aR.to{G:Nat->Prop}{w w' :World}(h:aR (λ_=>False) w w'):aR G w w' :=h.mono λ_ _ h=>h.elim
def aR.alloc(h:aR F w w')(o:Obj):aR F w (w'.alloc o):=
 ⟨by rw[cw];exact Nat.le_succ_of_le h.size,h.out,h.os,λb c a=>by
  rw[er,aa (by have:=h.size;omega)];exact h.blk b c a⟩
def aR.drew(h:aR F w w'):aR F w w'.drew:=⟨h.size,h.out,h.os,h.blk⟩
def rZ:aR F w w:=.refl _ _
def mG{o:Obj}:aR F w (w.alloc o):=(aR.refl _ _).alloc _
def vz:aR F w w.drew:=(aR.refl _ _).drew
def xg{α β:Sort _}{a:α}{b:β}:a=a/\b=b:=⟨rfl,rfl⟩
def gr{q:Prop}(h:q:=by omega):p\/q:=.inr h
def aR.setCell(h:aR F w w'){b:Nat}(f:F b\/w.heap.size<=b)(i:Nat)(v:Vt_):aR F w (w'.setCell ⟨b,i,none⟩ v):=
 ⟨by rw[tZ];exact h.size,h.out,h.os,λd a c=>by
  rw[kE,aa (λe=>by grind)];exact h.blk d a c⟩
def aR.sc(h:aR F w w'){b i:Nat}{v:Vt_}(a:F b:=by exact rfl):aR F w (w'.setCell ⟨b,i,none⟩ v):=h.setCell (.inl a) i v
def aR.putObj(h:aR F w w'){b:Nat}(f:F b\/w.heap.size<=b)(o:Obj):aR F w (w'.putObj b o):=
 ⟨by rw[jq];exact h.size,h.out,h.os,λd a c=>by
  rw[dR,aa (λe=>by grind)];exact h.blk d a c⟩
def aR.on{G:NP_}{w1 d:Wt_}(h:aR F w w1)(a:aR G w1 d)(g:∀b,G b->F b\/w.heap.size<=b):aR F w d:=
 ⟨ck h.size a.size,a.out.trans h.out,a.os.trans h.os,λb e c=>(a.blk b (bI e h.size) λf=>(g b f).elim c qZ).trans (h.blk b e c)⟩
def aR.keep(h:aR F w w'){b:Nat}{o:Obj}(a:w.heap[b]? =some o)(c:¬F b):w'.heap[b]? =some o:=
 (h.blk b (aB a) c).trans a
end Go.Vc
namespace Go.Vc
open Go Go.Vc
variable {cells:Array Value}{cs c:LV_}{F:NP_}{b off n sz:Nat}{P:Program}{s:Sem Value}{t e:TypeId}{v:Vt_}{w w' :Wt_}{K:aZ}
def kY(h:s.run P w=.ok v w')(a:K v w'):rx P s w K:=
 ⟨⟨by unfold Wn;rw[h];exact a⟩⟩
def py(v:Vt_)(w' :Wt_)(h:s.run P w=.ok v w')(a:K v w'):rx P s w K:=kY h a
def RU{s:Sem Unit}{K:World->Prop}(h:s.run P w=.ok () w')(a:K w'):yS P s w K:=
 ⟨⟨by unfold V3;rw[h];exact a⟩⟩
def sk{K:Value->Prop}(h:s.run P w=.ok v w)(a:K v):ID P s w K:=
 ⟨⟨by unfold GV;rw[h];exact⟨rfl,a⟩⟩⟩
def TL{K:Value->Prop}(h:∀w,s.run P w=.ok v w)(a:K v):Hg P s K:=
 ⟨⟨⟨v,h,a⟩⟩⟩
def bK(b off i:Nat):(⟨b,off,none⟩:Addr).add i=⟨b,off+i,none⟩:=by
 unfold Addr.add;split<;>simp_all
def eK(w:Wt_)(g:Nat)(cs:Array Value)(b:Nat):(w.setRow g cs).heap[b]? =if b=g then(match w.heap[g]? with|some (.cells _ t c)=>some (.cells cs t c)|o=>o)else w.heap[b]? :=by
 by_cases h:b=g
 ·subst h;rw[ae rfl];cases a:w.heap[b]? with
  |none=>
   simp only;have:w.heap.size<=b:=by simpa using a
   simp[World.setRow,this]
  |some o=>
   cases o<;>first|exact setRow_heap w b _ cs _ _ a|(simp only[World.setRow,kN,df,a];rfl)
 ·rw[aa h];exact setRow_other w g b cs h
@[go_sem] theorem DI (w:Wt_) (g:Nat) (cs:Array Value) (b:Nat):hp (w.setRow g cs) b=if b=g then(match hp w g with|some (.cells _ t a)=>some (.cells cs t a)|o=>o)else hp w b:=eK w g cs b
attribute [go_sem] setRow_size
def aR.setRow(h:aR F w w'){b:Nat}(f:F b\/w.heap.size<=b)(cs:Array Value):aR F w (w'.setRow b cs):=
 ⟨by rw[setRow_size];exact h.size,h.out,h.os,λd a c=>by
  rw[setRow_other _ _ _ _ (λe=>by grind)];exact h.blk d a c⟩
def At(w:Wt_)(b off:Nat)(cs:LV_):Prop:=∃c e fz,w.heap[b]? =some (.cells c e fz)/\off+cs.length<=c.size/\(c.toList.drop off).take cs.length=cs
def At.cell(h:At w b off cs)(j:Nat)(v:Vt_)(a:cs[j]? =some v):w.cell? ⟨b,off+j,none⟩=some v:=by
 obtain⟨c,e,i,g,k,f⟩:=h;have d:j<cs.length:=(aJ.1 a).1;rw[<-f,fj,ae d,fl]at a;simp only[World.cell?,g];simpa using a
def At.get(h:At w b off cs):∃C e a,hp w b=some (.cells C e a)/\∀j v,cs[j]? =some v->C[off+j]? =some v:=by
 obtain⟨c,e,a,i,k,g⟩:=h;refine⟨c,e,a,i,λj v d=>?_⟩;have f:j<cs.length:=(aJ.1 d).1;rw[<-g,fj,ae f,fl]at d;simpa using d
def At.loads(h:At w b off cs):(loadCells ⟨b,off,none⟩ cs.length).run P w=.ok cs.toArray w:=
 run_loadCells_list w _ cs λj v a=>by rw[bK];exact h.cell j v a
def At.keep(h:At w b off cs)(f:w'.heap[b]? =w.heap[b]?):At w' b off cs:=by
 obtain⟨c,e,a,g,d⟩:=h;exact⟨c,e,a,by rw[f];exact g,d⟩
def At.mod(h:At w b off cs)(d:aR F w w')(f:¬F b):At w' b off cs:=by
 obtain⟨c,e,a,i,g⟩:=h;exact⟨c,e,a,d.keep i f,g⟩
def At.lt(h:At w b off cs):b<w.heap.size:=by
 obtain⟨c,e,d,a,_⟩:=h;exact aB a
def At.sub(h:At w b off cs)(i k:Nat)(j:i+k<=cs.length):At w b (off+i) ((cs.drop i).take k):=by
 obtain⟨c,e,d,g,l,f⟩:=h;have a:((cs.drop i).take k).length=k:=by simp;omega
 refine⟨c,e,d,g,by rw[a];omega,?_⟩;rw[a]
 conv=>rhs;rw[<-f]
 rw[List.drop_take,List.take_take,cL,dK qZ]
def mh(P:Program)(t:TypeId):Bool:=
 match P.underlying t with
 |some (.struct _)|some (.array ..)=>true
 |_=>false
def yY(h:mh P t=true)(w:Wt_):(isAgg t).run P w=.ok true w:=by
 unfold mh at h;unfold isAgg;split at h
 ·rename_i a;simp[dw,aT a,Result.andThen]
 ·rename_i a;simp[dw,aT a,Result.andThen]
 ·cases h
def qB(h:P.cellsOf t=n+1):∃i,P.info? t=some i/\i.size=n+1:=by
 unfold Program.cellsOf at h;cases a:P.info? t with
 |none=>simp[a]at h
 |some i=>exact⟨i,rfl,by simpa [a]using h⟩
def lI(h:P.cellsOf t=n+1)(w:Wt_):(sizeOf t).run P w=.ok (n+1) w:=by
 obtain⟨i,b,a⟩:=qB h;simp[sizeOf,typeInfo,b,a]
def jh(d:mh P t=true)(c:P.cellsOf t=n+1)(a:cs.length=n+1)(h:At w b off cs):
  (qE t (bO b off)).run P w=.ok (.agg cs.toArray) w:=by
 have:=h.loads (P:=P);rw[a]at this;simp[qE,Instr.loadAt,Instr.sureAddr,loadVar,dw,yY d,lI c,Result.andThen,this]
def fH(cs:LV_)(n:Nat)(e:mh P t=true)(c:P.cellsOf t=n+1)(a:cs.length=n+1)(h:At w b off cs)(d:K (.agg cs.toArray) w):
  rx P (qE t (bO b off)) w K:=kY (jh e c a h) d
def kA{K:Value->Prop}(cs:LV_)(n:Nat)(e:mh P t=true)(c:P.cellsOf t=n+1)(a:cs.length=n+1)(h:At w b off cs)(d:K (.agg cs.toArray)):
  ID P (qE t (bO b off)) w K:=sk (jh e c a h) d
def jp(c:LV_)(off:Nat)(cs:LV_):List Value:=c.take off++cs++c.drop (off+cs.length)
def sg(h:off+cs.length<=c.length):(jp c off cs).length=c.length:=by
 simp[jp];omega
def lF(h:cs.length=c.length):jp c 0 cs=cs:=by simp[jp,h]
def qh(h:cs.all (·.oneCell')=true):∀v∈cs,v.oneCell' =true:=λv a=>bg.1 h v a
def vu{c:Array Value}(f:P.cellsOf t=n+1)(d:cs.length=n+1)
  (h:w.heap[b]? =some (.cells c e (0,0)))(a:off+cs.length<=c.size)(h1:cs.all (·.oneCell')=true):
  (rS t (bO b off) (.agg cs.toArray)).run P w=.ok () (w.setRow b (jp c.toList off cs).toArray):=by
 have:=run_storeCells_at P b off e cs 0 c w h (by simpa using a) (qh h1);simp only[cB]at this;simp[rS,Instr.storeAt,Instr.sureAddr,storeVar,dw,lI f,Value.cells,d,Result.andThen,this,jp]
def uU{K:World->Prop}{c:Array Value}(f:P.cellsOf t=n+1)(d:cs.length=n+1)
  (h:w.heap[b]? =some (.cells c e (0,0)))(a:off+cs.length<=c.size)(h1:cs.all (·.oneCell')=true)(g:K (w.setRow b (jp c.toList off cs).toArray)):
  yS P (rS t (bO b off) (.agg cs.toArray)) w K:=RU (vu f d h a h1) g
def jf(P:Program)(t:TypeId):List Value:=
 match (P.info? t).bind (·.zero)with
 |some z=>z.cells.toList
 |none=>[]
def nj(P:Program)(t:TypeId):Bool:=((P.info? t).bind (·.zero)).isSome
def SA(c:nj P t=true):
  (uK t).run P w=.ok (bO w.heap.size 0) (w.alloc (.cells (jf P t).toArray t)):=by
 unfold nj at c;cases b:P.info? t with
 |none=>simp[b]at c
 |some i=>
  cases a:i.zero with
  |none=>simp[b,a]at c
  |some z=>simp[uK,Instr.alloc,zeroValue,typeInfo,b,a,newVar,newRow,jf]
def rC(b:nj P t=true)(a:K (bO w.heap.size 0) (w.alloc (.cells (jf P t).toArray t))):
  rx P (uK t) w K:=kY (SA b) a
def xH{a:Array (Nat×Value)}(h:P.built t a.toList=some cells)(b:K (.agg cells) w):
  rx P (CA t a) w K:=kY (by unfold CA;exact run_build w t a cells h) b
def DM{a:Array (Nat×Value)}{K:Value->Prop}(h:P.built t a.toList=some cells)(b:K (.agg cells)):
  Hg P (CA t a) K:=TL (λw=>by unfold CA;exact run_build w t a cells h) b
def Sn{vs:LV_}(h:off+(vs.length+1)<=c.length):jp (c.set off v) (off+1) vs=jp c off (v::vs):=by
 simp only[jp,be]
 have a:(c.set off v).take (off+1)=c.take off++[v]:=by
  rw[List.take_succ_eq_append_getElem (by simp;omega),List.take_set_of_le (aD _)];simp
 have b:(c.set off v).drop (off+1+vs.length)=c.drop (off+(vs.length+1)):=by
  rw[List.drop_set_of_lt qZ,show off+1+vs.length=off+(vs.length+1) by omega]
 rw[a,b];simp
def Da(off:Nat):∀(vs:LV_) (k:Nat) (c:Array Value),off+k+vs.length<=c.size->
  ((vs.zipIdx k).foldl (λa p=>a.setIfInBounds (off+p.2) p.1) c).toList=jp c.toList (off+k) vs
 | [],k,c,_=>by simp[jp]
 |v::vs,k,c,h=>by
  simp only[nM,ff];simp only[be]at h;rw[Da off vs (k+1) _ (by simp;omega),Array.toList_setIfInBounds,show off+(k+1)=off+k+1 by omega,Sn (by simp;omega)]
def qi{place:Nat->Option (Nat×Nat)}{cells:LV_}{i size:Nat}{rest:List (Nat×Value)}(hp:place i=some (off,size))(b:v.cells.size=size)(h:off+size<=cells.length):
  Instr.fill place cells.toArray ((i,v)::rest)=Instr.fill place (jp cells off v.cells.toList).toArray rest:=by
 have a:¬(v.cells.size≠size\/off+v.cells.size>cells.toArray.size):=by grind
 simp only[Instr.fill,hp];rw[aa (by simpa using a)];congr 1;apply kM;have:=Da off v.cells.toList 0 cells.toArray (by simp;omega);simp only[cB]at this;rw[<-this,<-Array.toList_zipIdx,Array.foldl_toList]
def B6{place:Nat->Option (Nat×Nat)}:Instr.fill place cells []=some cells:=rfl
def Rd(w:Wt_)(sz:Nat)(v:Vt_)(n:Nat)(cs:LV_):Prop:=
 cs.length=n*sz/\((n=0/\∃a c,v=.slice a 0 c)\/∃b off cap,v=.slice (some ⟨b,off,none⟩) n cap/\n<=cap/\At w b off cs)
def tq(v:Vt_)(b:Nat):Prop:=∃a n c,v=.slice (some a) n c/\n≠0/\a.block=b
def Sr:Value->Option Nat
 | .slice (some a) _ _=>some a.block
 |_=>none
def ic(w:Wt_)(e:TypeId)(sz:Nat)(v:Vt_)(n:Nat)(cs:LV_):Prop:=
 cs.length=n*sz/\((v=.slice none 0 0/\n=0)\/∃b cap rest,v=.slice (some ⟨b,0,none⟩) n cap/\n<=cap/\w.heap[b]? =some (.cells (cs++rest).toArray e (0,0))/\rest.length=(cap - n)*sz/\(rest.all (·.oneCell')=true))
def aF(v:Vt_)(b:Nat):Prop:=Sr v=some b
def ic.keep(h:ic w e sz v n cs)(g:∀b,aF v b->w'.heap[b]? =w.heap[b]?):ic w' e sz v n cs:=by
 obtain⟨c,h|⟨b,a,rest,rfl,i,d,f⟩⟩:=h
 ·exact⟨c,.inl h⟩
 ·exact⟨c,.inr ⟨b,a,rest,rfl,i,by rw[g b rfl];exact d,f⟩⟩
def ic.lt(h:ic w e sz v n cs){b:Nat}(a:aF v b):b<w.heap.size:=by
 obtain⟨f,⟨rfl,_⟩|⟨i,d,rest,rfl,j,c,g⟩⟩:=h
 ·cases a
 ·cases a;exact aB c
def ic.nil(w:Wt_)(e:TypeId)(sz:Nat):ic w e sz (.slice none 0 0) 0 []:=⟨by simp,.inl ⟨rfl,rfl⟩⟩
def ic.mod(h:ic w e sz v n cs)(c:aR F w w')(d:∀b,aF v b->¬F b):ic w' e sz v n cs:=
 h.keep λb a=>c.blk b (h.lt a) (d b a)
def tq.sl(h:tq v b):aF v b:=by
 obtain⟨a,n,c,rfl,-,rfl⟩:=h;rfl
def ic.rd(h:ic w e sz v n cs):Rd w sz v n cs:=by
 obtain⟨c,⟨rfl,rfl⟩|⟨b,a,rest,rfl,f,d,g⟩⟩:=h
 ·exact⟨c,.inl ⟨rfl,_,_,rfl⟩⟩
 ·exact⟨c,.inr ⟨b,0,a,rfl,f,⟨_,_,_,d,by simp,by simp⟩⟩⟩
def Rd.keep(h:Rd w sz v n cs)(g:∀b,tq v b->w'.heap[b]? =w.heap[b]?):Rd w' sz v n cs:=by
 obtain⟨c,h|⟨b,a,d,rfl,i,f⟩⟩:=h
 ·exact⟨c,.inl h⟩
 ·by_cases e:n=0
  ·subst e;exact⟨c,.inl ⟨rfl,_,_,rfl⟩⟩
  ·exact⟨c,.inr ⟨b,a,d,rfl,i,f.keep (g b ⟨_,_,_,rfl,e,rfl⟩)⟩⟩
def Rd.lt(h:Rd w sz v n cs){b:Nat}(f:tq v b):b<w.heap.size:=by
 obtain⟨a,m,c,rfl,q,rfl⟩:=f;obtain⟨p,⟨rfl,l,k,e⟩|⟨b,i,g,e,s,j⟩⟩:=h
 ·grind
 ·injection e with d o r;injection d with d;subst d;exact j.lt
def Rd.mod(h:Rd w sz v n cs)(c:aR F w w')(d:∀b,tq v b->¬F b):Rd w' sz v n cs:=
 h.keep λb a=>c.blk b (h.lt a) (d b a)
def Rd.first(h:Rd w sz v n cs)(j:0<sz):
  (Builtin.firstCells sz n v).run P w=.ok cs.toArray w:=by
 obtain⟨d,⟨rfl,a,c,rfl⟩|⟨b,e,g,rfl,i,f⟩⟩:=h
 ·have:cs=[]:=by simpa using d
  subst this;cases a<;>simp[Builtin.firstCells,loadCells,loadCellsFrom]
 ·have:=f.loads (P:=P);rw[d]at this;simpa [Builtin.firstCells]using this
def Rd.isSl(h:Rd w sz v n cs):∃a c,v=.slice a n c:=by
 obtain⟨_,⟨rfl,a,c,rfl⟩|⟨b,d,e,rfl,_⟩⟩:=h
 ·exact⟨_,_,rfl⟩
 ·exact⟨_,_,rfl⟩
def Rd.lenOf(h:Rd w sz v n cs)(w1:Wt_):(Builtin.lenOf v).run P w1=.ok n w1:=by
 obtain⟨f,⟨rfl,a,c,rfl⟩|⟨b,d,e,rfl,i,g⟩⟩:=h<;>rfl
end Go.Vc
namespace Go.Vc
open Go Go.Vc
variable {cs:LV_}{sz by_ n:Nat}{P:Program}{e t:TypeId}{s:Vt_}{w:Wt_}{K:aZ}
structure wq(P:Program)(e:TypeId)(sz by_:Nat):Prop where
 ok:∃i z,P.info? e=some i/\i.zero=some z/\i.size=sz/\i.bytes=by_/\z.cells.size=sz/\z.cells.toList.all (·.oneCell')=true
 pos:0<sz
 bpos:0<by_
def fY(P:Program)(e:TypeId)(sz by_:Nat):Bool:=
 Nat.blt 0 sz&& Nat.blt 0 by_&& match P.info? e with
 |none=>false
 |some i=>match i.zero with
  |none=>false
  |some z=>Nat.beq i.size sz&& Nat.beq i.bytes by_&& Nat.beq z.cells.size sz&& z.cells.toList.all (·.oneCell')
def dB(h:fY P e sz by_=true):wq P e sz by_:=by
 unfold fY at h;simp only[ai]at h;obtain⟨⟨h1,d⟩,h⟩:=h;cases a:P.info? e with
 |none=>rw[a]at h;cases h
 |some i=>
  rw[a]at h;simp only at h;cases b:i.zero with
  |none=>rw[b]at h;cases h
  |some z=>
   rw[b]at h;simp only[ai]at h;obtain⟨⟨⟨j,f⟩,g⟩,c⟩:=h;exact⟨⟨i,z,a,b,dS j,dS f,dS g,c⟩,by simpa [l8]using h1,by simpa [l8]using d⟩
def qu{z:Array Value}(h:z.toList.all (·.oneCell')=true)(hp:0<z.size)(n:Nat):(Builtin.zeroCells z n).toList.all (·.oneCell')=true:=by
 unfold Builtin.zeroCells;simp only[Array.toList_map,List.all_map,bg];intro i _;have a:i%z.size<z.size:=gx _ hp;simp only[Function.comp_apply];rw[fI z _ a];exact bg.1 h _ (by simp)
def qy(z:Array Value)(n:Nat):(Builtin.zeroCells z n).toList.length=n*z.size:=by simp[Builtin.zeroCells]
def kg{u ty:TypeId}{x:Vt_}{m:Nat}{a:LV_}
  (L:P.underlying t=some (.slice e)){e' :TypeId}(U:P.underlying u=some (.slice e'))(hE:wq P e sz by_)
  (hs:ic w e sz s n cs)(B:Rd w sz x m a)(h1:a.all (·.oneCell')=true)(G:(n+m)*by_<=140737488355328)
  (O:∀H F,ic F e sz H (n+m) (cs++a)->aR (aF s) w F->(∀b,aF H b->aF s b\/w.heap.size<=b)->K H F):
  rx P (fb #[t,u] ty [s,x]) w K:=by
 obtain⟨⟨i,z,V,hz,r,S,W,N⟩,k,q⟩:=hE;have R:n+m<=140737488355328:=ck (mV _ q) G;have l:cs.length=n*sz:=hs.1;have g:a.length=m*sz:=B.1;have A:=λw1 (h:Rd w1 sz x m a)=>h.first (P:=P) k
 obtain⟨d,c,J,Z,E⟩:∃d c,s=.slice d n c/\n<=c/\((d=none/\n=0/\c=0/\cs=[])\/∃b rest,d=some ⟨b,0,none⟩/\w.heap[b]? =some (.cells (cs++rest).toArray e (0,0))/\rest.length=(c - n)*sz/\rest.all (·.oneCell')=true):=by
  rcases hs.2 with⟨rfl,rfl⟩|⟨b,c,rest,rfl,hc,T,hr⟩
  ·grind
  ·grind
 subst J;by_cases f:n+m<=c
 ·rcases E with⟨rfl,rfl,rfl,rfl⟩|⟨b,rest,rfl,T,D,hr1⟩
  ·have hm:m=0:=qZ;subst hm;have y:a=[]:=by simpa using g
   subst y;refine py (.slice none 0 0) w ?_ (O _ _ hs rZ (λb G=>.inl G));have:=A w B;simp[fb,Builtin.append_,aT L,sizeOf,typeInfo,V,r,aT U,B.lenOf,Result.andThen,this]
  ·have o:=run_storeCells_at P b (n*sz) e a 0 (cs++rest).toArray w T (by simp[l,D,g];exact cH _ qZ) (qh h1);simp only[cB]at o
   have p:(cs++rest).take (n*sz)++a++(cs++rest).drop (n*sz+a.length)=(cs++a)++rest.drop a.length:=by
    rw[<-l];simp[ar]
   refine py (.slice (some ⟨b,0,none⟩) (n+m) c) (w.setRow b ((cs++a)++rest.drop a.length).toArray) ?_ (O _ _ ⟨?_,.inr ⟨b,c,rest.drop a.length,rfl,f,?_,?_,?_⟩⟩ ?_ ?_)
   ·have:=A w B;simp only[p]at o;have e0:(⟨b,0,none⟩:Addr).add (n*sz)=⟨b,n*sz,none⟩:=by rw[bK];simp
    simp[fb,Builtin.append_,aT L,sizeOf,typeInfo,V,r,aT U,B.lenOf,Result.andThen,this,f,e0,o]
   ·grind
   ·rw[eK,ae rfl,T]
   ·simp[D,g];rw[<-mQ];congr 1;omega
   ·grind
   ·exact(aR.refl (aF (.slice (some ⟨b,0,none⟩) n c)) w).setRow (.inl (show aF _ b from rfl)) _
   ·intro b' C;exact .inl C
 ·have hfit:=growslice_fits (old:=c) (need:=n+m) (bytes:=by_) qZ G;have I:¬(281474976710656<Builtin.nextslicecap (n+m) c*i.bytes):=by rw[S];omega
  have Q:¬(9223372036854775807<((n:Int)+(m:Int))):=qZ;have j:n+m<=grownCap w (n+m) c e:=by simp[grownCap,Question.cut]
  have M:Rd w.drew sz (.slice d n c) n cs:=hs.rd.keep λ_ _=>rfl;have Y:=M.first (P:=P) k;have X:=A w.drew (B.keep λ_ _=>rfl)
  refine kY (v:=.slice (some ⟨w.heap.size,0,none⟩) (n+m) (grownCap w (n+m) c e))
   (w' :=w.drew.alloc (.cells (cs.toArray++a.toArray++Builtin.zeroCells z.cells (grownCap w (n+m) c e - (n+m))) e)) ?_ (O _ _ ⟨?_,.inr ⟨w.heap.size,_,(Builtin.zeroCells z.cells (grownCap w (n+m) c e - (n+m))).toList,rfl,j,?_,?_,?_⟩⟩ ?_ ?_)
  ·simp[fb,Builtin.append_,aT L,sizeOf,typeInfo,zeroValue,V,hz,r,aT U,B.lenOf,Result.andThen,f,Q,I,Question.forced,Y,X,newRow,grownCap];rw[<-Array.append_assoc];congr 2;simp
  ·grind
  ·rw[er,ae (show w.heap.size=w.drew.heap.size from rfl)];simp
  ·rw[qy,W]
  ·exact qu N (by grind) _
  ·exact vz.alloc _
  ·rintro b' C;cases C;exact .inr (aD _)
def Fe(w:Wt_)(c:Array Value)(t:TypeId)(cs:Array Value):(w.alloc (.cells c t)).setRow w.heap.size cs=w.alloc (.cells cs t):=by
 unfold World.setRow World.alloc;simp only;congr 1;apply Array.ext
 ·simp
 ·intro i h1 a;simp only[Array.getElem_modify,Array.getElem_push];by_cases h:w.heap.size=i
  ·subst h;simp
  ·grind
def vL(n:Nat)(i:nj P t=true)(f:P.cellsOf t=n+1)(b:cs.length=n+1)(a:(jf P t).length=n+1)(h1:cs.all (·.oneCell')=true)
  (g:K (bO w.heap.size 0) (w.alloc (.cells cs.toArray t))):rx P (uK t) w λv d=>yS P (rS t v (.agg cs.toArray)) d λh=>K v h:=by
 apply rC i;apply uU (c:=(jf P t).toArray) (e:=t) f b (by rw[er,ae rfl]) (by simp[b,a]) h1;rw[lF (by simp[b,a]),Fe];exact g
def lY{α:Type}(f:α->List Value)(sz:Nat):∀(ws:List α) (i:Nat) (a:∀x∈ws,(f x).length=sz) (h:i<ws.length),((ws.flatMap f).drop (i*sz)).take sz=f ws[i]
 |x::ws,0,a,h=>by grind
 |x::ws,i+1,a,h=>by
  have e:(i+1)*sz=(f x).length+i*sz:=by grind
  simp only[bm,iB];rw[e,<-cL,da];exact lY f sz ws i (λy b=>a y (by simp[b])) (by simpa using h)
def rM{α:Type}(f:α->List Value)(sz:Nat):∀(ws:List α) (a:∀x∈ws,(f x).length=sz),(ws.flatMap f).length=ws.length*sz
 | [],_=>by simp
 |x::ws,a=>by simp[a x (by simp),rM f sz ws λy b=>a y (by simp[b]),ej];omega
def ic.isSl(h:ic w e sz s n cs):∃a c,s=.slice a n c/\n<=c:=by
 obtain⟨_,⟨rfl,rfl⟩|⟨b,d,_,rfl,f,_⟩⟩:=h
 ·grind
 ·grind
def ic.elem(h:ic w e sz s n cs){i:Nat}(hi:i<n):
  ∃b a,s=.slice (some ⟨b,0,none⟩) n a/\At w b (i*sz) ((cs.drop (i*sz)).take sz):=by
 obtain⟨f,⟨rfl,rfl⟩|⟨b,a,rest,rfl,k,g,j⟩⟩:=h
 ·omega
 ·have c:i*sz+sz<=cs.length:=by
   rw[f];have:(i+1)*sz<=n*sz:=cH _ hi;rw[ej]at this;omega
  have d:At w b 0 cs:=⟨_,_,_,g,by simp,by simp⟩
  have:=d.sub (i*sz) sz c;exact⟨b,a,rfl,by simpa using this⟩
def Lm{kl k:IntKind}{l c:Int}{z:Vt_}(m:P.underlying t=some (.slice e))(s:wq P e sz by_)(n:0<=l)(g:l<=c)(o:(by_:Int)*c<=281474976710656)
  (x:(P.info? e).bind (·.zero)=some z)
  (r:K (.slice (some ⟨w.heap.size,0,none⟩) l.toNat c.toNat) (w.alloc (.cells (madeCells z.cells (c.toNat*sz)) e))):
  rx P (Ec t (.int kl l) (.int k c)) w K:=by
 obtain⟨⟨i,p,u,h,d,f,v,q⟩,j,a⟩:=s;have:z=p:=by grind
 subst this
 have b:c<=9223372036854775807:=by
  have h1:(1:Int)*c<=(by_:Int)*c:=ia qZ qZ;omega
 exact kY (by unfold Ec;exact run_make w t e i z m u h kl k l c n g (by rw[f];exact o) b) (by rw[d];exact r)
def HM(sz:Nat):∀(vs:LV_) (i:Nat) (a rest:LV_),(∀v∈vs,v.cells.size=sz)->a.length=i*sz->rest.length=vs.length*sz->
  Instr.fill (λi=>some (i*sz,sz)) (a++rest).toArray ((vs.zipIdx i).map λp=>(p.2,p.1))=some (a++vs.flatMap (·.cells.toList)).toArray
 | [],i,a,rest,_,_,c=>by
  have:rest=[]:=by simpa using c
  subst this;simp[B6]
 |v::vs,i,a,rest,f,hp,c=>by
  have b:=f v (by simp);have g:sz<=rest.length:=by rw[c,be,ej];omega
  simp only[nM,aI];rw[qi (off:=i*sz) (size:=sz) rfl b (by simp;omega)]
  have e:jp (a++rest) (i*sz) v.cells.toList=(a++v.cells.toList)++rest.drop sz:=by
   have d:v.cells.toList.length=sz:=by simpa using b
   simp only[jp,d];rw[<-hp,dU,<-cL,da]
  rw[e,HM sz vs (i+1) _ _ (λu h=>f u (by simp[h])) (by grind) (by simp[c,ej])];simp
def nI{a:List (Nat×Value)}(vs:LV_)(l:P.underlying t=some (.slice e))(x:wq P e sz by_)
  (hp:a=vs.zipIdx.map λp=>(p.2,p.1))(A:vs.length=n)(C:∀v∈vs,v.cells.size=sz)(D:n*sz<=16777216)
  (r:K (.slice (some ⟨w.heap.size,0,none⟩) n n) (w.alloc (.cells (vs.flatMap (·.cells.toList)).toArray e))):rx P (rg t n a) w K:=by
 obtain⟨⟨i,z,o,u,c,y,B,s⟩,m,j⟩:=x;subst hp;have k:¬(2 ^ 24<n*sz):=qZ;refine kY ?_ r
 have b:∀d:Array Value,(d.toList.length=n*sz)->Instr.fill (λi=>some (i*sz,sz)) d (vs.zipIdx.map λp=>(p.2,p.1))=some (vs.flatMap (·.cells.toList)).toArray:=λd g=>by
  have:=HM sz vs 0 [] d.toList C (by simp) (by rw[A];exact g);simpa using this
 by_cases f:n*sz=0
 ·have h:=b (Array.map (λ_=>default) (Array.range 0)) (by simp[f]);simp[rg,Instr.buildSlice,aT l,sizeOf,typeInfo,o,c,f,h,newRow,Result.andThen]
 ·have h:=b ((Array.range (n*sz)).map (z.cells[·%z.cells.size]!)) (by simp);have q:Instr.fill (λi=>some (i*sz,sz)) ((Array.range (n*sz)).map (z.cells[·%sz]!)) (vs.zipIdx.map λp=>(p.2,p.1))=some (vs.flatMap (·.cells.toList)).toArray:=by grind
  simp[rg,Instr.buildSlice,aT l,sizeOf,typeInfo,zeroValue,o,u,c,f,k,h,q,newRow,Result.andThen]
def bv(l:List UInt8):List Value:=l.map λu=>gB (u.toNat:Int)
@[simp] theorem YM (l:List UInt8):(bv l).length=l.length:=by simp[bv]
@[simp] theorem al4:bv []=[]:=rfl
@[simp] theorem zo (l a:List UInt8):bv (l++a)=bv l++bv a:=by simp[bv]
def Va(l:List UInt8)(n:Nat):(bv l).drop n=bv (l.drop n):=by simp[bv]
def JJ(l:List UInt8):(bv l).all (·.oneCell')=true:=by simp[bv,Value.oneCell']
def MG(a:List UInt8):∀s:ByteArray,((a.map λu=>(u.toNat:Int)).foldl (λr n=>r.push (UInt8.ofNat n.toNat)) s)=⟨s.data++a.toArray⟩:=by
 induction a with
 |nil=>intro s;simp
 |cons n a b=>
  intro s;simp only[aI,ff];rw[b];simp[ByteArray.push]
def sm(l:List UInt8):ByteArray:=⟨l.toArray⟩
def NB{s d:TypeId}{v:Vt_}{l:List UInt8}
  (hs:P.underlying s=some (.slice e))(k:P.underlying e=some (.int .u8))(i:P.underlying d=some .string)(h:Rd w 1 v n (bv l)):
  (xA s d v).run P w=.ok (.string (sm l)) w:=by
 have j:l.length=n:=by simpa using h.1
 obtain⟨_,⟨rfl,a,c,rfl⟩|⟨b,g,m,rfl,p,o⟩⟩:=h
 ·have:l=[]:=by simpa using j
  subst this;unfold xA;rw[run_convert_bytes_string w s d e _ _ _ hs k i];cases a<;>rfl
 ·have f:(loadCells ⟨b,g,none⟩ n).run P w=.ok (bv l).toArray w:=by
   have:=o.loads (P:=P);simpa [j]using this
  unfold xA;rw[run_convert_bytes_string w s d e _ _ _ hs k i,run_bytesToString w _ _ _ (l.map λu=>(u.toNat:Int)) (by rw[f];simp[bv]),MG];simp[sm,ByteArray.empty,ByteArray.emptyWithCapacity];rfl
def Qv{s d:TypeId}{v:Vt_}{l:List UInt8}
  (hs:P.underlying s=some (.slice e))(b:P.underlying e=some (.int .u8))(a:P.underlying d=some .string)(h:Rd w 1 v n (bv l))(c:K (.string (sm l)) w):
  rx P (xA s d v) w K:=kY (NB hs b a h) c
@[simp] theorem UN (l a:List UInt8):sm l++sm a=sm (l++a):=by
 apply ByteArray.ext;simp[sm]
@[simp] theorem WZ (l:List UInt8):(sm l).size=l.length:=by simp[sm,ByteArray.size]
@[simp] theorem US (l:List UInt8):(sm l).toList=l:=ByteArray.toList_mk l
@[simp] theorem YL {l a:List UInt8}:sm l=sm a↔l=a:=by
 refine⟨λh=>?_,λh=>by rw[h]⟩;have:=ep (λb:ByteArray=>b.data.toList) h;simpa [sm]using this
end Go.Vc
