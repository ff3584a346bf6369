/- Part of a proof. -/
import Derived.Scope
import Derived.WalkKit
import Derived.WalkLawsBesides
import Derived.RowKit3
import Derived.Laws.Cover3
import Derived.Laws.CopyRow
import Derived.Laws.Append
import Derived.Laws.MakeOwn
import Derived.Laws.IdiomStrings
import Derived.Laws.BytesString
import Derived.Test.YtekbnpagidkbbaaGreatT2
set_option linter.all false
set_option maxRecDepth 100000
set_option maxHeartbeats 4000000
namespace Go.Vc
open Go Go.Vc
variable {ds mk:List Nat}{F:NP_}{n b:Nat}{P:Program}{p:Prop}{a s:Sem Value}{v:Vt_}{w w' :Wt_}{K:be}{E:fa}
def qi{E E' :fa}(h:∀t,E'.get t=E.get t):∀l,kN E' l=kN E l
 | []=>rfl
 |t::l=>by
  simp only[kN,h t];rw[qi h l]
def DS:∀{l:List Nat} {s:E3 l} {r:List (Nat×Option Value)} {g:Nat->Value} {ds:List Nat},l.Nodup->kN {l:=rh l s r,g:=g,ds:=ds} l=s
 | [],_,_,_,_,_=>rfl
 |t::l,(v,s),r,g,ds,d=>by
  obtain⟨b,d⟩:=bO.1 d;simp only[kN];refine Prod.ext ?_ ?_
  ·simp[fa.get,rh,fa.look]
  ·simp only
   have e:∀a,t ∉ a->kN {l:=rh (t::l) (v,s) r,g:=g,ds:=ds} a=kN {l:=rh l s r,g:=g,ds:=ds} a:=by
    intro a;induction a with
    |nil=>intro _;rfl
    |cons k a j=>
     intro f
     have c:Nat.beq t k=false:=by
      cases h:Nat.beq t k with
      |false=>rfl
      |true=>exact absurd (by rw[dK h];exact ai) f
     simp only[kN];rw[j λi=>f (ae _ i)];congr 1;simp[fa.get,rh,fa.look,c]
   rw[e l b];exact DS d
def tH{ds:List Nat}:∀{l:List (Nat×Option Value)} {acc:List Nat},acc.Nodup->(fL ds l acc).Nodup
 | [],acc,h=>by simpa [fL]using h
 |(k,v)::r,acc,h=>by
  unfold fL;cases a:ds.contains k&& !acc.contains k with
  |true=>
   simp only[ah]at a;exact tH (bO.2 ⟨by simpa using a.2,h⟩)
  |false=>exact tH h
def zx{E1 e:fa}{a:Act}(i:Fr ds E e)(c:uz n e a)(h:e.ds=mk):
  uz n (oO E ds (fL ds E.l []) (kN e (fL ds E.l [])) (λt=>a.tmps.getD t undef) mk) a:=by
 refine⟨c.size,λt=>?_,by rw[c.defs,h];rfl⟩;by_cases d:t∈ds
 ·by_cases g:t∈fL ds E.l []
  ·unfold fa.get oO;simp only[oF g];exact c.get t
  ·have b:fa.look E.l t=none:=by
    apply aS;intro f;exact g (qT d f)
   unfold fa.get oO;have:ds.contains t=true:=by simpa using d
   simp only[nY g,b,this]
 ·rw[sU t d,<-i t d];exact c.get t
def IV{h:fa}{b:List Nat}{a:Act}(d:∀t∈ds,fa.look E.l t≠none->t∈b)(e:∀t∈b,t∈ds)(l:Fr ds E h)(f:uz n h a)(k:h.ds=mk):
  uz n (oO E ds b (kN h b) (λt=>a.tmps.getD t undef) mk) a:=by
 refine⟨f.size,λt=>?_,by rw[f.defs,k];rfl⟩;by_cases g:t∈ds
 ·by_cases j:t∈b
  ·unfold fa.get oO;simp only[oF j];exact f.get t
  ·have c:fa.look E.l t=none:=by
    apply aS;intro i;exact j (d t g i)
   unfold fa.get oO;have:ds.contains t=true:=by simpa using g
   simp only[nY j,c,this]
 ·rw[D9 e t g,<-l t g];exact f.get t
def AX:∀t,(oO E ds (fL ds E.l []) (kN E (fL ds E.l [])) E.g E.ds).get t=E.get t:=by
 intro t;by_cases d:t∈ds
 ·by_cases c:t∈fL ds E.l []
  ·simp only[fa.get,oO,oF c]
  ·have a:fa.look E.l t=none:=by
    apply aS;intro b;exact c (qT d b)
   have:ds.contains t=true:=by simpa using d
   simp only[fa.get,oO,nY c,this,a]
 ·exact sU t d
def zQ{s:E3 (fL ds E.l [])}{g:Nat->Value}:kN (oO E ds (fL ds E.l []) s g mk) (fL ds E.l [])=s:=
 DS (tH je)
def YF(a:Act):fa:={l:=[],g:=λt=>a.tmps.getD t undef,ds:=a.defers.map λd=>match d.target with| .collected r=>r|_=>0}
def uz.actE{a:Act}(h:uz n E a):(∀t,(Vc.YF a).get t=E.get t)/\(Vc.YF a).ds=E.ds:=by
 refine⟨h.get,?_⟩;unfold Vc.YF;simp only;rw[h.defs,da]
 conv=>rhs;rw[<-kH E.ds]
 exact dN λ_ _=>rfl
def Ag(g:tV P=true){f:FuncId}{a:Array Value}{w w1:Wt_}{K:be}(h:Ca P f a w K):
  (callFunc f a).run P w1=.ok (.enter f a) w1:=by
 obtain⟨fn,e,i⟩:=h.bodied
 have d:(fn.name== "runtime.NumGoroutine")=false:=by
  have:=(jD.1 g) fn (Array.mem_of_getElem? e);simpa using this
 have b:¬fn.name= "runtime.NumGoroutine" :=by simpa using d
 have c:¬fn.body=none:=by grind
 unfold callFunc;simp[cY,Result.andThen,e,b,c]
def Bp{n:Nat}:∀(f:List Nat) (i:Nat) (b:LV_) (E:fa) (c:Array Value),(f.all λd=>Nat.blt d n)=true->b.length=i+f.length->uz n E {tmps:=c,defers:=[]}->
  uz n {E with l:=vN f i b E.l} {tmps:=(f.zip (b.drop i)).foldl (λc (t,a)=>c.setIfInBounds t a) c,defers:=[]}
 | [],_,_,E,c,_,_,h=>by simpa [vN]using h
 |t::f,i,b,E,c,e,g,h=>by
  simp only[mT,ah]at e;simp only[aR]at g;have j:i<b.length:=qZ;have k:=bN j;have m:b.getD i undef=b[i]:=by simp[j]
  have o:uz n (E.put (some t) b[i]) (({tmps:=c,defers:=[]}:Act).put (some t) b[i]):=h.put (d:=some t) e.1 _;have:=Bp f (i+1) b (E.put (some t) b[i]) (c.setIfInBounds t b[i]) e.2 qZ o;rw[k];simpa only[vN,fa.put,m,List.zip_cons_cons,eN]using this
def OR(d:Array Nat)(c:LV_)(b:Array Value):
  (d.zip ⟨c⟩).foldl (λb (t,a)=>b.setIfInBounds t a) b=(d.toList.zip c).foldl (λb (t,a)=>b.setIfInBounds t a) b:=by
 rw[<-Array.foldl_toList];simp
def vu{r:Loop}(h:w.heap[b]? =some (.loop r))(fn:FuncId)(tmps:Array Value)(a:Array Tmp)(assign body:Code):
  (Instr.enterLoop fn tmps a assign body (some b)).run P w=
   .ok (w.heap.size,[]) (w.alloc (.loop {state:=.ready,pending:=none,fn,tmps,params:=a,assign,body,defers:=r.defers})):=by
 unfold Instr.enterLoop;simp only[cY,run_getLoop h,Result.andThen,ii,run_newObj_alloc]
def Qk{jn:Bool}(hP:tV P=true){n:Nat}:∀c ro Q G E a w,
  IR P n c=true->uz n E a->(∀e E a w,uz n E a->Q e E w->G e a w)->vc P jn ro c Q E w->c.wpIn (FR ro) 0 P G a w:=by
 intro c;induction c with
 |skip=>intro ro Q G E a w _ A p h;exact wpIn_skip (p _ _ _ _ A h)
 |region id ops draw=>
  intro ro Q G E a w q A p h;simp only[IR,ah]at q;cases draw with
  |false=>exact wpIn_region_list (Eu (ops:=ops.toList) hP (p .normal) ops.toList q.1 E a w A h)
  |true=>
   have T:=q.2;simp only[iE,eZ,ah]at T;apply wpIn_region_any T.1
   have:=Of (ro:=ro) (ops:=ops.toList) hP T.2 q.1 (p .normal) ops.size [] [] [] [] E a w.drew (ops.toList.length+1) (Array.replicate ops.size false)
    ⟨(λi=>by simp),(λi hi=>by cases hi),je,trivial,(λi hi=>by cases hi),A.size,A.defs,(λt _=>A.get t),(λi hi=>by cases hi)⟩
    (λi hi=>by simp at hi;simp[hi]) (by simp) (by simp) (by grind) h
   simpa using this
 |seq x y ihx ihy=>
  intro ro Q G E a w q A p h;simp only[IR,ah]at q;simp only[vc]at h;cases hj:jn&& HO x y with
  |true=>
   rw[hj]at h;simp only[uk]at h;obtain⟨J,hJ,hA⟩:=h.out;simp only[ah]at hj;have Y:=Hi hj.2
   have hA' :=FC x ro _ (λe H R=>(match e with| .normal=>J (kN H (MC (gg x) E.l (rt y))) R|e=>Q e H R)/\Fr (gg x) E H/\H.ds=E.ds) _ w hA
    (λe H R U hd o=>⟨by grind,U,hd Y⟩)
   refine wpIn_seq (ihx ro _ _ E a w q.1 A (λe E1 V u k o=>?_) hA');obtain⟨o,U,hd⟩:=o;cases e with
   |normal=>exact ihy ro Q G _ V u q.2 (IV (λt ht hne=>NA ht hne) Dd U k hd) p (hJ _ _ o _)
   |exit id=>exact p _ _ _ _ k o
   |goto id=>exact p _ _ _ _ k o
   |ret=>exact p _ _ _ _ k o
   |panic ch=>exact p _ _ _ _ k o
   |outgrown=>exact p _ _ _ _ k o
  |false=>
  rw[hj]at h;refine wpIn_seq (ihx ro _ _ E a w q.1 A (λe E1 V u k o=>?_) h);cases e with
  |normal=>exact ihy ro Q G E1 V u q.2 k p o
  |exit id=>exact p _ _ _ _ k o
  |goto id=>exact p _ _ _ _ k o
  |ret=>exact p _ _ _ _ k o
  |panic ch=>exact p _ _ _ _ k o
  |outgrown=>exact p _ _ _ _ k o
 |cond c t f iht ihf=>
  intro ro Q G E a w q A p h;simp only[IR,ah]at q;simp only[vc,FI]at h;split at h
  ·rename_i b S
   have hb' :a.eval c=.bool b:=by rw[A.ev];exact S
   cases b with
   |true=>exact wpIn_cond hb' (iht ro Q G E a w q.1 A p h)
   |false=>exact wpIn_cond hb' (ihf ro Q G E a w q.2 A p h)
  ·exact h.elim
 |block id c ih=>
  intro ro Q G E a w q A p h;refine wpIn_block (ih ro _ _ E a w q A (λe E1 V u k o=>?_) h);cases e with
  |exit i=>
   simp only at o;cases S:Nat.beq i id with
   |true=>
    rw[S]at o;simp only[bc]at o;simp only[Exit.inBlock,dK S,de];exact p _ _ _ _ k o
   |false=>
    rw[S]at o;have hne:¬i=id:=λe=>by subst e;simp at S
    simp only[Exit.inBlock,hne,dB];exact p _ _ _ _ k o
  |normal=>exact p _ _ _ _ k o
  |goto id=>exact p _ _ _ _ k o
  |ret=>exact p _ _ _ _ k o
  |panic ch=>exact p _ _ _ _ k o
  |outgrown=>exact p _ _ _ _ k o
 |loop c ih=>
  intro ro Q G E a w q A p h;simp only[vc,uk]at h;cases Y:mJ c with
  |false=>
   rw[Y]at h;obtain⟨I,m,h0,h1⟩:=h.out
   refine wpIn_loop (λa w=>∃s g,uz n (oO E (gg c) (fL (gg c) E.l []) s g E.ds) a/\I s w) (λa w=>m (kN (YF a) (fL (gg c) E.l [])) w)
    ⟨_,E.g,A.of_get AX rfl,h0⟩ ?_
   rintro V u ⟨s,g,k,hI⟩
   have S:=FC c ro _ (λe H R=>(match e with| .normal=>I (kN H (fL (gg c) E.l [])) R/\m (kN H (fL (gg c) E.l [])) R<m s u|e=>Q e H R)/\Fr (gg c) E H/\H.ds=E.ds) _ u (h1 s u hI g)
    (λe H R U hd o=>⟨by grind,sU.trans U,hd Y⟩)
   refine ih ro _ _ _ V u q k (λe E2 a2 w2 z o=>?_) S;obtain⟨o,U,hd⟩:=o;cases e with
   |normal=>
    refine⟨⟨_,_,zx (E1:=E) U z hd,o.1⟩,?_⟩;rw[qi (z.actE.1),qi (k.actE.1),zQ];exact o.2
   |exit id=>exact p _ _ _ _ z o
   |goto id=>exact p _ _ _ _ z o
   |ret=>exact p _ _ _ _ z o
   |panic ch=>exact p _ _ _ _ z o
   |outgrown=>exact p _ _ _ _ z o
  |true=>
   rw[Y]at h;obtain⟨I,m,h0,h1⟩:=h.out
   refine wpIn_loop (λa w=>∃s g,uz n (oO E (gg c) (fL (gg c) E.l []) s.1 g s.2) a/\I s w) (λa w=>m (kN (YF a) (fL (gg c) E.l []),(YF a).ds) w)
    ⟨(_,E.ds),E.g,A.of_get AX rfl,h0⟩ ?_
   rintro V u ⟨s,g,k,hI⟩
   have S:=FC c ro _ (λe H R=>(match e with| .normal=>I (kN H (fL (gg c) E.l []),H.ds) R/\m (kN H (fL (gg c) E.l []),H.ds) R<m s u|e=>Q e H R)/\Fr (gg c) E H) _ u (h1 s u hI g)
    (λe H R U hd o=>⟨by grind,sU.trans U⟩)
   refine ih ro _ _ _ V u q k (λe E2 a2 w2 z o=>?_) S;obtain⟨o,U⟩:=o;cases e with
   |normal=>
    refine⟨⟨(_,E2.ds),_,zx (E1:=E) U z rfl,o.1⟩,?_⟩;rw[qi (z.actE.1),qi (k.actE.1),zQ,z.actE.2,k.actE.2];exact o.2
   |exit id=>exact p _ _ _ _ z o
   |goto id=>exact p _ _ _ _ z o
   |ret=>exact p _ _ _ _ z o
   |panic ch=>exact p _ _ _ _ z o
   |outgrown=>exact p _ _ _ _ z o
 |rangeFunc gv ps assign body iha ihb=>
  intro ro Q G E a w q A p h;simp only[IR,ah]at q;obtain⟨⟨hps,hoka⟩,hokb⟩:=q;simp only[vc,rG,RFD]at h;split at h
  ·rename_i f first j hgv
   have hgv' :a.eval gv=.func (.func f) first j:=by rw[A.ev];exact hgv
   have main:∀(u:Wt_) (D:Nat) (mk:List Nat) (fn:FuncId),
     (∀Z:Loop,Z.state=.ready->Z.pending=none->Z.defers=D->
      (∀(B:LV_) (W:Wt_) (K:be),B.length=ps.toList.length->QK W u.heap.size Z->
       vc P jn (some u.heap.size) assign (λe E W=>match e with
        | .normal=>qr u.heap.size W λW=>vc P jn (some u.heap.size) body (λe _ W=>match e with
         | .normal=>∃r,sM W u.heap.size r/\K (.bool true) (W.putObj u.heap.size (.loop {r with state:=.ready,pending:=none}))
         | .ret=>∃r,sM W u.heap.size r/\K (.bool false) (W.putObj u.heap.size (.loop {r with state:=.done,pending:=some .ret}))
         | .exit id=>∃r,sM W u.heap.size r/\K (.bool false) (W.putObj u.heap.size (.loop {r with state:=.done,pending:=some (.exit id)}))
         |_=>False) E W
        |_=>False) {E with l:=vN ps.toList 0 B E.l,ds:=[]} W->
       Yl P u.heap.size ⟨B⟩ W K)->
      Ca P f ⟨first.toList++(.func (.yield u.heap.size) #[] #[]::j.toList)⟩ (u.alloc (.loop Z)) λ_ W=>
       ∃r,sM W u.heap.size r/\r.state≠ .busy/\lP (λW=>Q .normal {E with ds:=mk++E.ds} W) (λW=>Q .ret {E with ds:=mk++E.ds} W)
        (λid W=>Q (.exit id) {E with ds:=mk++E.ds} W) r.pending (W.putObj u.heap.size (.loop {r with state:=.exhausted})))->
     let rc:Loop:={state:=.ready,pending:=none,fn,tmps:=a.tmps,params:=ps,assign,body,defers:=D}
     let a' :Act:={a with defers:=(mk.map λd=>{target:=.collected d,args:=#[]})++a.defers}
     CallsIn (FR ro) 0 P f ⟨first.toList++(.func (.yield u.heap.size) #[] #[]::j.toList)⟩ (u.alloc (.loop rc)) (rangePost (FR ro) 0 P u.heap.size G a')/\
      ∀w2,(callFunc f ⟨first.toList++(.func (.yield u.heap.size) #[] #[]::j.toList)⟩).run P w2=.ok (.enter f ⟨first.toList++(.func (.yield u.heap.size) #[] #[]::j.toList)⟩) w2:=by
    intro u D mk fn hh rc a'
    have hca:=hh rc rfl rfl rfl (λB W K hlen hrec hrnd=>by
     obtain⟨st,pend,hat⟩:=hrec;refine⟨_,_,_,_,run_yield hat (by simpa using hlen),?_⟩;apply roundIn_of_wpIn (F:=Fence.wide) trivial
     have hrel:uz n {E with l:=vN ps.toList 0 B E.l,ds:=[]} {tmps:=(ps.zip ⟨B⟩).foldl (λN (t,a)=>N.setIfInBounds t a) a.tmps,defers:=[]}:=by
      rw[OR];exact Bp ps.toList 0 B {E with ds:=[]} a.tmps hps (by simpa using hlen) ⟨A.size,A.get,rfl⟩
     refine iha (some u.heap.size) _ _ _ _ W hoka hrel (λe E1 V W1 k o=>?_) hrnd;cases e with
     |normal=>
      obtain⟨r,hra,hst,hbody⟩:=o.out;refine⟨_,run_beginRound hra hst,?_⟩;refine ihb (some u.heap.size) _ _ E1 V _ hokb k (λe E2 a2 W2 z O=>?_) hbody;cases e with
      |normal=>
       obtain⟨r2,M,hK⟩:=O;exact⟨_,_,run_endRound none M,_,rfl,hK⟩
      |ret=>
       obtain⟨r2,M,hK⟩:=O;exact⟨_,_,run_endRound _ M,_,rfl,hK⟩
      |exit id=>
       obtain⟨r2,M,hK⟩:=O;exact⟨_,_,run_endRound _ M,_,rfl,hK⟩
      |goto id=>exact O.elim
      |panic ch=>exact O.elim
      |outgrown=>exact O.elim
     |exit id=>exact o.elim
     |goto id=>exact o.elim
     |ret=>exact o.elim
     |panic ch=>exact o.elim
     |outgrown=>exact o.elim)
    refine⟨FR.calls (jr hca.out ?_),λw2=>Ag hP hca⟩;rintro e W ⟨v,rfl,r,hra,S,L⟩;refine⟨_,_,run_endLoop hra S,?_⟩;have hr' :uz n {E with ds:=mk++E.ds} a' :=⟨A.size,A.get,by simp only[a',A.defs,aK]⟩
    generalize W.putObj u.heap.size (.loop {r with state:=.exhausted})=W4 at L|-;unfold lP at L;split at L
    ·grind
    ·rename_i hp;rw[hp];exact wpIn_ret (p _ _ _ _ hr' L)
    ·rename_i hp;rw[hp];exact wpIn_exit (p _ _ _ _ hr' L)
    ·exact L.elim
   refine wpIn_rangeFunc λfn _=>?_
   have hinv:∀l,(do let d<-resolve a.eval (rangeCall gv l) 0;invoke d.target d.args:Sem Next)=callFunc f ⟨first.toList++(.func (.yield l) #[] #[]::j.toList)⟩:=by
    intro l;have e1:resolve a.eval (rangeCall gv l) 0=Deferred.ofValue (a.eval gv) #[.func (.yield l) #[] #[]]:=by simp[resolve,Act.eval]
    rw[e1,hgv'];have e2:(do let d<-Deferred.ofValue (.func (.func f) first j) #[.func (.yield l) #[] #[]];invoke d.target d.args:Sem Next)=callFunc f (first++ #[.func (.yield l) #[] #[]]++j):=rfl;rw[e2];congr 1;apply jU;simp
   have hres:∀l u,(resolve a.eval (rangeCall gv l) 0).run P u=.ok {target:=.fn (.func f) j,args:=first++ #[.func (.yield l) #[] #[]]} u:=by
    intro l u;have e1:resolve a.eval (rangeCall gv l) 0=Deferred.ofValue (a.eval gv) #[.func (.yield l) #[] #[]]:=by simp[resolve,Act.eval]
    rw[e1,hgv'];rfl
   have hinv2:∀l,(invoke (.fn (.func f) j) (first++ #[.func (.yield l) #[] #[]]):Sem Next)=callFunc f ⟨first.toList++(.func (.yield l) #[] #[]::j.toList)⟩:=by
    intro l;have e2:(invoke (.fn (.func f) j) (first++ #[.func (.yield l) #[] #[]]):Sem Next)=callFunc f (first++ #[.func (.yield l) #[] #[]]++j):=rfl;rw[e2];congr 1;apply jU;simp
   cases ro with
   |none=>
    have hm:=main (w.alloc (.deferred (some []))) w.heap.size [w.heap.size] fn h;obtain⟨W1,X⟩:=dW ((w.alloc (.deferred (some []))).alloc (.loop {state:=.ready,pending:=none,fn,tmps:=a.tmps,params:=ps,assign,body,defers:=w.heap.size}));have hm1:=hm.1;have hm2:=hm.2 W1;rw[ci]at hm1 hm2;refine⟨w.heap.size+1,[{target:=.collected w.heap.size,args:=#[]}],W1,_,W1,f,⟨first.toList++(.func (.yield (w.heap.size+1)) #[] #[]::j.toList)⟩,W1,?_,hres _ _,λ_ _=>FR.fn none _,?_,(λhh=>by rw[FR.depth]at hh;cases hh),?_⟩
    ·rw[X];exact run_enterLoop_outer fn a.tmps ps assign body
    ·rw[hinv2];exact hm2
    ·rw[X];exact hm1
   |some l0=>
    obtain⟨r0,hr0,h⟩:=h;have hm:=main w r0.defers [] fn h;obtain⟨W1,X⟩:=dW (w.alloc (.loop {state:=.ready,pending:=none,fn,tmps:=a.tmps,params:=ps,assign,body,defers:=r0.defers}));refine⟨w.heap.size,[],W1,_,W1,f,⟨first.toList++(.func (.yield w.heap.size) #[] #[]::j.toList)⟩,W1,?_,hres _ _,λ_ _=>FR.fn (some l0) _,?_,(λhh=>by rw[FR.depth]at hh;cases hh),?_⟩
    ·rw[FR.round,X];exact vu hr0 fn a.tmps ps assign body
    ·grind
    ·rw[X];exact hm.1
  ·exact h.elim
 |exit id=>intro ro Q G E a w _ A p h;exact wpIn_exit (p _ _ _ _ A h)
 |scope c ih=>
  intro ro Q G E a w q A p h;cases ro with
  |some l=>exact h.elim
  |none=>
   refine wpIn_wide.2 (wp_scope_straight ((wpIn_wide (n:=0)).1 ?_));refine ih none (λe E w=>match e with| .goto _=>False|e=>Q e E w) (Exit.noGoto G) E a w q A (λe E1 V u k o=>?_) h;cases e with
   |goto l=>exact o.elim
   |exit id=>exact p _ _ _ _ k o
   |normal=>exact p _ _ _ _ k o
   |ret=>exact p _ _ _ _ k o
   |panic ch=>exact p _ _ _ _ k o
   |outgrown=>exact p _ _ _ _ k o
 |label l=>intro ro Q G E a w _ A p h;exact wpIn_label (p _ _ _ _ A h)
 |goto l=>intro ro Q G E a w _ A p h;exact h.elim
 |ret=>intro ro Q G E a w _ A p h;exact wpIn_ret (p _ _ _ _ A h)
 |refuse why=>intro ro Q G E a w _ A p h;exact h.elim
def Ao:List Nat->World->(World->Prop)->Prop
 | [],w,K=>K w
 |d::ds,w,K=>w.heap[d]? =some (.deferred (some []))/\Ao ds (w.putObj d (.deferred none)) K
def Et(P:Program):List ResultVar->fa->World->(List Value->Prop)->Prop
 | [],_,_,K=>K []
 | .tmp t::r,E,w,K=>Et P r E w λvs=>K (E.get t::vs)
 | .cell a t::r,E,w,K=>match CS P t with
  |true=>IG P (pp t (E.get a)) w λv=>Et P r E w λvs=>K (v::vs)
  |false=>rV P (iL t (E.get a)) w λv=>Et P r E w λvs=>K (v::vs)
def GR:List Value->Value
 | [v]=>v
 |vs=>.tuple ⟨vs⟩
def DG:Nat->List Value->List (Nat×Option Value)
 |_,[]=>[]
 |i,v::r=>(i,some v)::DG (i+1) r
def P1(P:Program)(jn:Bool)(fn:Func)(args:LV_)(w:Wt_)(K:be):Prop:=
 match fn.body with
 |none=>False
 |some c=>vc P jn none c (λe E w=>match e with
   | .normal=>Ao E.ds w λw=>Et P fn.results.toList E w λvs=>K (GR vs) w
   | .ret=>Ao E.ds w λw=>Et P fn.results.toList E w λvs=>K (GR vs) w
   |_=>False) {l:=DG 0 args,g:=λ_=>undef,ds:=[]} w
def Ri(P:Program)(fn:Func)(args:LV_)(w:Wt_)(K:be):Prop:=P1 P true fn args w K
def okF(P:Program)(fn:Func)(k:Nat):Bool:=
 Nat.ble k fn.ntmps&& match fn.body with
 |none=>false
 |some c=>IR P fn.ntmps c
def CA(t:Nat):∀l i,fa.look (DG i l) t=if i<=t then(l[t - i]?).map some else none
 | [],i=>by simp[DG,fa.look]
 |v::r,i=>by
  simp only[DG,fa.look];cases a:Nat.beq i t with
  |true=>have:=dK a;subst this;simp
  |false=>
   have b:i≠t:=λe=>by subst e;simp at a
   simp only[cond_false];rw[CA t r (i+1)];by_cases h:i+1<=t
   ·grind
   ·grind
def Nh(a:LV_)(n:Nat)(h:a.length<=n):
  uz n {l:=DG 0 a,g:=λ_=>undef,ds:=[]} {tmps:=(⟨a⟩:Array Value)++Array.replicate (n - a.length) undef,defers:=[]}:=by
 refine⟨by simp;omega,λt=>?_,rfl⟩;unfold fa.get;rw[CA];simp only[aw,de,jL];by_cases b:t<a.length
 ·rw[fX,Array.getElem?_append_left (by simpa using b)];simp[ao b]
 ·rw[gt qZ];rw[fX,Array.getElem?_append_right (by grind)];simp only[Option.map_none];cases c:(Array.replicate (n - a.length) undef)[t - (⟨a⟩:Array Value).size]? with
  |none=>rfl
  |some v=>
   have:=(iT.1 c).2;simp at this;simp[this]
def Cn(tmps:Array Value):ResultVar->Sem Value
 | .tmp t=>pure (tmps.getD t undef)
 | .cell a t=>do loadVar t (<-asAddr (tmps.getD a undef))
def Cc{P:Program}{b:Array Value}{E:fa}{w:Wt_}(d:∀t,b.getD t undef=E.get t):∀rs K,Et P rs E w K->
  ∃vs,(rs.mapM (Cn b)).run P w=.ok vs w/\K vs
 | [],K,h=>⟨[],rfl,h⟩
 | .tmp t::r,K,h=>by
  obtain⟨vs,f,e⟩:=Cc d r _ h;refine⟨_,?_,e⟩;have g:(Cn b (.tmp t)).run P w=.ok (E.get t) w:=by rw[<-d];rfl
  simp only[List.mapM_cons,cY,ii,Result.andThen,g,f]
 | .cell a t::r,K,h=>by
  have h:rV P (Instr.loadAt t (E.get a)) w λv=>Et P r E w λvs=>K (v::vs):=by
   simp only[Et]at h;cases j:CS P t with
   |true=>rw[j]at h;exact h.out
   |false=>rw[j]at h;exact h
  simp only[xX,GS]at h;split at h
  ·rename_i v i c
   obtain⟨rfl,h⟩:=h;obtain⟨vs,f,e⟩:=Cc d r _ h;refine⟨_,?_,e⟩
   have g:(Cn b (.cell a t)).run P i=.ok v i:=by
    have k:Cn b (.cell a t)=(do loadVar t (<-asAddr (b.getD a undef))):=rfl;rw[k,d];unfold Instr.loadAt at c;cases l:E.get a<;>rw[l]at c<;>first|(simp[Instr.sureAddr,stuck,cY,Sem.run,Result.andThen]at c;done)|skip
    rename_i p
    cases p with
    |none=>simp[Instr.sureAddr,stuck,cY,Sem.run,Result.andThen]at c
    |some p=>
     simp only[Instr.sureAddr,asAddr,cY,ii,Result.andThen]at c|-;exact c
   simp only[List.mapM_cons,cY,ii,Result.andThen,g,f]
  ·exact h.elim
def Kp(fn:Func)(a:Array Value):results fn a=(do
  let vs<-fn.results.mapM (Cn a)
  pure (if h:vs.size=1 then vs[0]else .tuple vs)):=by
 unfold results;congr 1
def yN{P:Program}{fn:Func}{a:Array Value}{E:fa}{K:be}(b:∀t,a.getD t undef=E.get t):∀ds w,
  Ao ds w (λw=>Et P fn.results.toList E w λvs=>K (GR vs) w)->
  LeavesInM Fence.wide 0 P fn a (λe c=>∃v,e=.returned v/\K v c) (ds.map λd=>{target:=.collected d,args:=#[]}) .returning w
 | [],w,h=>by
  obtain⟨vs,g,f⟩:=Cc b _ _ h;refine⟨GR vs,?_,_,rfl,f⟩;rw[Kp,Array.mapM_eq_mapM_toList];simp only[cY,Sem.run_map,g,Result.andThen,ii];congr 1
  match vs with
  | []=>rfl
  | [v]=>rfl
  |v::u::r=>simp[GR]
 |d::ds,w,h=>by
  refine⟨by simp,.inl ⟨d,_,rfl,run_takeDeferred h.1,yN b ds _ h.2⟩⟩
def Nr{o:Bool}(q:tV P=true){f:FuncId}{fn:Func}{b:LV_}{w:Wt_}{K:be}(p:P.funcs[f]? =some fn)(d:okF P fn b.length=true)
  (h:P1 P o fn b w K):Ca P f ⟨b⟩ w K:=by
 unfold okF at d;unfold P1 at h;simp only[ah]at d;obtain⟨i,d⟩:=d;cases m:fn.body with
 |none=>rw[m]at h;exact h.elim
 |some c=>
  rw[m]at h d;refine⟨(callsIn_wide (n:=0)).1 (callsIn_of_wp_marks p m trivial ?_ rfl)⟩;have j:=Nh b fn.ntmps (by simpa [Nat.ble_eq]using i);refine Qk (n:=fn.ntmps) q c none _ _ _ _ w d j (λe E a r l g=>?_) h;cases e with
  |normal=>have k:=yN (K:=K) l.get _ _ g;rw[<-l.defs]at k;exact k
  |ret=>have k:=yN (K:=K) l.get _ _ g;rw[<-l.defs]at k;exact k
  |exit id=>exact g.elim
  |goto id=>exact g.elim
  |panic s=>exact g.elim
  |outgrown=>exact g.elim
def Ef(d:tV P=true){f:FuncId}{fn:Func}{a:LV_}{w:Wt_}{K:be}(c:P.funcs[f]? =some fn)(b:okF P fn a.length=true)
  (h:Ri P fn a w K):Ca P f ⟨a⟩ w K:=Nr d c b h
@[simp,go_sem] theorem bG (b:Bool) (T F:Prop):xe (.bool b) T F↔if b=true then T else F:=by cases b<;>simp[xe,FI,bc]
def nO(A B:Prop):xe (.bool true) A B=A:=by rw[bG,ab rfl]
def lW(A B:Prop):xe (.bool false) A B=B:=by rw[bG,aa fG]
def zZ  [Decidable p]{A B:Prop}(h:p):xe (.bool (decide p)) A B=A:=by rw[bG,ab (aA h)]
def JV  [Decidable p]{A B:Prop}(h:¬p):xe (.bool (decide p)) A B=B:=by rw[bG,aa (by rw[ax];exact h)]
@[simp,go_sem] theorem aa4 (b:Bool) (K:Bool->Prop):FI (.bool b) K↔K b:=aI
@[simp,go_sem] theorem cJ (a:Addr) (K:Value->Prop):qC (.pointer (some a)) K↔K (.pointer (some a)):=aI
@[simp,go_sem] theorem aq5 (b:Bool) (T F:Prop):bc b T F↔if b=true then T else F:=by cases b<;>simp[bc]
@[simp,go_sem] theorem aj1 (b:Bool) (x y:Vt_):Tb b x y=if b=true then x else y:=by cases b<;>rfl
def R7(c:s=a)(b:w=w'):rv P s w K=rv P a w' K:=by rw[c,b]
def P7{s a:Sem Unit}{K:World->Prop}(c:s=a)(b:w=w'):ru P s w K=ru P a w' K:=by rw[c,b]
def Rl{s a:Sem Next}(c:s=a)(b:w=w'):rn P s w K=rn P a w' K:=by rw[c,b]
def O1{K:Value->Prop}(c:s=a)(b:w=w'):rV P s w K=rV P a w' K:=by rw[c,b]
def Ob{K:Value->Prop}(b:s=a):qM P s K=qM P a K:=by rw[b]
def Tm{f:FuncId}{a b:Array Value}(d:a=b)(c:w=w'):Ca P f a w K=Ca P f b w' K:=by rw[d,c]
def HH{f c:Vt_}{a b:LV_}(g:f=c)(e:a=b)(d:w=w'):om P f a w K=om P c b w' K:=by rw[g,e,d]
def Ke{a:Vt_}{K:Value->Prop}(h:v=a):qC v K=qC a K:=by rw[h]
def Oh{a:Vt_}{K:Bool->Prop}(h:v=a):FI v K=FI a K:=by rw[h]
def MN{a:Vt_}{T F:Prop}(h:v=a):xe v T F=xe a T F:=by rw[h]
def HU{S:Type}{body:S->World->(S->World->Prop)->Prop}{s a:S}(c:s=a)(b:w=w'):qV body s w=qV body a w' :=by rw[c,b]
def P6(c:s=a)(b:w=w'):rx P s w K=rx P a w' K:=by rw[c,b]
def MY{s a:Sem Unit}{K:World->Prop}(c:s=a)(b:w=w'):DD P s w K=DD P a w' K:=by rw[c,b]
def Ot{K:Value->Prop}(c:s=a)(b:w=w'):IG P s w K=IG P a w' K:=by rw[c,b]
def J8{K:Value->Prop}(b:s=a):Hf P s K=Hf P a K:=by rw[b]
attribute [congr] P6 MY Ot J8 R7 P7 Rl O1 Ob Tm HH Ke Oh MN HU
attribute [go_sem] E5 YC EC XZ pm Pc xX GS Ux Yn nV eqG
@[go_sem] theorem iI {P:Program} {f:FuncId} {first a:Array Value} {b:LV_} {w:Wt_} {K:be}:om P (.func (.func f) first a) b w K↔Ca P f ⟨first.toList++(b++a.toList)⟩ w K:=jf
def Z4{S:Type}{body:S->World->(S->World->Prop)->Prop}{s:S}(I:S->World->Prop)(m:S->World->Nat)(c:I s w)
  (h:∀s w,I s w->body s w λa b=>I a b/\m a b<m s w):qV body s w:=⟨I,m,c,h⟩
def Cf(P:Program)(t:TypeId):Bool:=match P.underlying t with|some (.map ..)=>true|_=>false
def xR(P:Program)(t:TypeId):Bool:=match P.underlying t with|some (.slice ..)=>true|_=>false
@[go_sem] theorem wd {P:Program} {t:TypeId}:Cf P t=true↔∃k e,P.underlying t=some (.map k e):=by
 unfold Cf;split<;>simp_all
@[go_sem] theorem xn {P:Program} {t:TypeId}:xR P t=true↔∃e,P.underlying t=some (.slice e):=by
 unfold xR;split<;>simp_all
@[go_sem] theorem Sf {P:Program} {w:Wt_} (t:TypeId) (m:Option Nat) (h:Cf P t=true):(binOp .eql t (.map m) (.map none)).run P w=.ok (.bool m.isNone) w:=by
 obtain⟨k,e,h⟩:=wd.1 h;simp only[binOp];simp[run_equal_map_nil w t k e m h]
@[go_sem] theorem Q3 {P:Program} {w:Wt_} (t:TypeId) (m:Option Nat) (h:Cf P t=true):(binOp .neq t (.map m) (.map none)).run P w=.ok (.bool (!m.isNone)) w:=by
 obtain⟨k,e,h⟩:=wd.1 h;simp only[binOp];simp[run_equal_map_nil w t k e m h]
@[go_sem] theorem Nb {P:Program} {w:Wt_} (t:TypeId) (a:Option Addr) (l c:Nat) (h:xR P t=true):(binOp .eql t (.slice a l c) (.slice none 0 0)).run P w=.ok (.bool a.isNone) w:=by
 obtain⟨e,h⟩:=xn.1 h;simp only[binOp];simp[run_equal_slice_nil w t e a l c h]
@[go_sem] theorem Oy {P:Program} {w:Wt_} (t:TypeId) (a:Option Addr) (l c:Nat) (h:xR P t=true):(binOp .neq t (.slice a l c) (.slice none 0 0)).run P w=.ok (.bool (!a.isNone)) w:=by
 obtain⟨e,h⟩:=xn.1 h;simp only[binOp];simp[run_equal_slice_nil w t e a l c h]
@[go_sem] theorem AU {P:Program} {w:Wt_} (t:TypeId):(Instr.makeMap t none).run P w=.ok (.map (some w.heap.size)) (w.alloc (.map #[] 0)):=by
 simp[Instr.makeMap]
@[go_sem] theorem Pe {P:Program} {w:Wt_} (t:TypeId) (k:IntKind) (n:Int) (h:Cf P t=true):(Instr.makeMap t (some (.int k n))).run P w=.ok (.map (some w.heap.size)) (w.alloc (.map #[] 0)):=by
 obtain⟨k,e,h⟩:=wd.1 h;simp[Instr.makeMap,aO h,asInt,asIntOf,Result.andThen]
def ES(o:Option Obj)(i:Nat)(v:Vt_):Option Obj:=
 match o with
 |some (.cells c t fz)=>some (.cells (c.setIfInBounds i v) t fz)
 |o=>o
@[simp] theorem iN (c:Array Value) (t:TypeId) (a:Nat×Nat) (i:Nat) (v:Vt_):ES (some (.cells c t a)) i v=some (.cells (c.setIfInBounds i v) t a):=rfl
def jp(w:Wt_)(b i:Nat)(v:Vt_)(a:Nat):(w.setCell ⟨b,i,none⟩ v).heap[a]? =if a=b then ES w.heap[b]? i v else w.heap[a]? :=by
 unfold World.setCell;simp only[Option.isSome_none,bE,dB];rw[iO];by_cases h:b=a
 ·subst h;simp only[de];cases c:w.heap[b]? with
  |none=>rfl
  |some o=>cases o<;>rfl
 ·grind
def dZ(w:Wt_)(o:Obj)(a:Nat):(w.alloc o).heap[a]? =if a=w.heap.size then some o else w.heap[a]? :=by
 show(w.heap.push o)[a]? =_;rw[Array.getElem?_push]
def dJ(w:Wt_)(b:Nat)(o:Obj)(c:Nat):(w.putObj b o).heap[c]? =if c=b then(w.heap[b]?).map (λ_=>o)else w.heap[c]? :=by
 unfold World.putObj;simp only;rw[Array.getElem?_setIfInBounds];by_cases h:b=c
 ·subst h;simp only[de];by_cases a:b<w.heap.size
  ·simp[a]
  ·simp[a]
 ·grind
def tm(w:Wt_)(a:Addr)(v:Vt_):(w.setCell a v).heap.size=w.heap.size:=by simp[World.setCell]
def aJ{o:Obj}(h:w.heap[b]? =some o):b<w.heap.size:=(iT.1 h).1
def hp(w:Wt_)(b:Nat):Option Obj:=w.heap[b]?
@[simp] abbrev hC (w:Wt_) (b:Nat) (x:Array Value) (t:TypeId):Prop:=hp w b=some (.cells x t (0,0))
def dq_{q:Prop} [Decidable p] [Decidable q](h:decide p=true:=by decide)(g:decide q=true:=by decide):p/\q:=⟨bz h,bz g⟩
def cO{o:Option Obj}(h:w.heap[b]? =o):hp w b=o:=h
@[go_sem] theorem aj2 (w:Wt_) (a:Addr):w.cell? a=match hp w a.block with|some (.cells c _ _)=>if a.spot.isSome then none else c[a.off]? |_=>none:=rfl
@[go_sem] theorem Zt (w:Wt_) (a:Addr):w.frozen? a=match hp w a.block with|some (.cells _ _ (b,c))=>b<=a.off&& a.off<c|_=>false:=rfl
@[go_sem] theorem Bg (w:Wt_) (b i:Nat) (v:Vt_) (a:Nat):hp (w.setCell ⟨b,i,none⟩ v) a=if a=b then ES (hp w b) i v else hp w a:=jp w b i v a
@[go_sem] theorem uS (w:Wt_) (o:Obj) (a:Nat):hp (w.alloc o) a=if a=w.heap.size then some o else hp w a:=dZ w o a
@[go_sem] theorem Dz (w:Wt_) (b:Nat) (o:Obj) (a:Nat):hp (w.putObj b o) a=if a=b then(hp w b).map (λ_=>o)else hp w a:=dJ w b o a
@[go_sem] theorem aj0 (w:Wt_) (b:Nat):hp w.drew b=hp w b:=rfl
attribute [go_sem] tm World.size_alloc World.putObj_size
@[go_sem] theorem Dh (w:Wt_):w.drew.heap.size=w.heap.size:=rfl
def Yv{d:Nat}(h:d<n):¬d=n/\(∀k,¬d=n+k)/\¬n=d/\∀k,¬n+k=d:=⟨qZ,λk=>qZ,qZ,λk=>qZ⟩
@[go_sem] theorem aj3 (n a b:Nat):n+a+b=n+(a+b):=fd n a b
structure bn(F:NP_)(w w' :Wt_):Prop where
 size:w.heap.size<=w'.heap.size
 out:w'.output=w.output
 os:w'.os=w.os
 blk:∀b,b<w.heap.size->¬F b->w'.heap[b]? =w.heap[b]?
abbrev M0:=bn λ_=>False
def bn.refl(F:NP_)(w:Wt_):bn F w w:=⟨aB _,rfl,rfl,λ_ _ _=>rfl⟩
def bn.trans{w1 d:Wt_}(h:bn F w w1)(a:bn F w1 d):bn F w d:=
 ⟨bK h.size a.size,a.out.trans h.out,a.os.trans h.os,λb e c=>(a.blk b (br e h.size) c).trans (h.blk b e c)⟩
def bn.mono{G:NP_}(h:bn F w w')(hs:∀b,b<w.heap.size->F b->G b):bn G w w' :=
 ⟨h.size,h.out,h.os,λb a d=>h.blk b a λc=>d (hs b a c)⟩
def bn.to{G:Nat->Prop}{w w' :World}(h:bn (λ_=>False) w w'):bn G w w' :=h.mono λ_ _ h=>h.elim
def bn.alloc(h:bn F w w')(o:Obj):bn F w (w'.alloc o):=
 ⟨by rw[ci];exact Nat.le_succ_of_le h.size,h.out,h.os,λb c a=>by
  rw[dZ,aa (by have:=h.size;omega)];exact h.blk b c a⟩
def bn.drew(h:bn F w w'):bn F w w'.drew:=⟨h.size,h.out,h.os,h.blk⟩
def rC:bn F w w:=.refl _ _
def nl{o:Obj}:bn F w (w.alloc o):=(bn.refl _ _).alloc _
def wl:bn F w w.drew:=(bn.refl _ _).drew
def ww{α β:Sort _}{a:α}{b:β}:a=a/\b=b:=⟨rfl,rfl⟩
def gT{q:Prop}(h:q:=by omega):p\/q:=.inr h
def bn.setCell(h:bn F w w'){b:Nat}(f:F b\/w.heap.size<=b)(i:Nat)(v:Vt_):bn F w (w'.setCell ⟨b,i,none⟩ v):=
 ⟨by rw[tm];exact h.size,h.out,h.os,λd a c=>by
  rw[jp,aa (λe=>by grind)];exact h.blk d a c⟩
def bn.sc(h:bn F w w'){b i:Nat}{v:Vt_}(a:F b:=by exact rfl):bn F w (w'.setCell ⟨b,i,none⟩ v):=h.setCell (.inl a) i v
def bn.putObj(h:bn F w w'){b:Nat}(f:F b\/w.heap.size<=b)(o:Obj):bn F w (w'.putObj b o):=
 ⟨by rw[iW];exact h.size,h.out,h.os,λd a c=>by
  rw[dJ,aa (λe=>by grind)];exact h.blk d a c⟩
def bn.on{G:NP_}{w1 d:Wt_}(h:bn F w w1)(a:bn G w1 d)(g:∀b,G b->F b\/w.heap.size<=b):bn F w d:=
 ⟨bK h.size a.size,a.out.trans h.out,a.os.trans h.os,λb e c=>(a.blk b (br e h.size) λf=>(g b f).elim c qZ).trans (h.blk b e c)⟩
def bn.keep(h:bn F w w'){b:Nat}{o:Obj}(a:w.heap[b]? =some o)(c:¬F b):w'.heap[b]? =some o:=
 (h.blk b (aJ a) c).trans a
end Go.Vc
namespace Go.Vc
open Go Go.Vc
variable {cells:Array Value}{cs c:LV_}{F:NP_}{b off n sz:Nat}{P:Program}{s:Sem Value}{t e:TypeId}{v:Vt_}{w w' :Wt_}{K:be}
def kI(h:s.run P w=.ok v w')(a:K v w'):rx P s w K:=
 ⟨⟨by unfold YC;rw[h];exact a⟩⟩
def oM(v:Vt_)(w' :Wt_)(h:s.run P w=.ok v w')(a:K v w'):rx P s w K:=kI h a
def Sh{s:Sem Unit}{K:World->Prop}(h:s.run P w=.ok () w')(a:K w'):DD P s w K:=
 ⟨⟨by unfold XZ;rw[h];exact a⟩⟩
def yW{K:Value->Prop}(h:s.run P w=.ok v w)(a:K v):IG P s w K:=
 ⟨⟨by unfold GS;rw[h];exact⟨rfl,a⟩⟩⟩
def T8{K:Value->Prop}(h:∀w,s.run P w=.ok v w)(a:K v):Hf P s K:=
 ⟨⟨⟨v,h,a⟩⟩⟩
def bQ(b off i:Nat):(⟨b,off,none⟩:Addr).add i=⟨b,off+i,none⟩:=by
 unfold Addr.add;split<;>simp_all
def eU(w:Wt_)(g:Nat)(cs:Array Value)(b:Nat):(w.setRow g cs).heap[b]? =if b=g then(match w.heap[g]? with|some (.cells _ t c)=>some (.cells cs t c)|o=>o)else w.heap[b]? :=by
 by_cases h:b=g
 ·subst h;rw[ab rfl];cases a:w.heap[b]? with
  |none=>
   simp only;have:w.heap.size<=b:=by simpa using a
   simp[World.setRow,this]
  |some o=>
   cases o<;>first|exact setRow_heap w b _ cs _ _ a|(simp only[World.setRow,iO,de,a];rfl)
 ·rw[aa h];exact setRow_other w g b cs h
@[go_sem] theorem NR (w:Wt_) (g:Nat) (cs:Array Value) (b:Nat):hp (w.setRow g cs) b=if b=g then(match hp w g with|some (.cells _ t a)=>some (.cells cs t a)|o=>o)else hp w b:=eU w g cs b
attribute [go_sem] setRow_size
def bn.setRow(h:bn F w w'){b:Nat}(f:F b\/w.heap.size<=b)(cs:Array Value):bn F w (w'.setRow b cs):=
 ⟨by rw[setRow_size];exact h.size,h.out,h.os,λd a c=>by
  rw[setRow_other _ _ _ _ (λe=>by grind)];exact h.blk d a c⟩
def At(w:Wt_)(b off:Nat)(cs:LV_):Prop:=∃c e fz,w.heap[b]? =some (.cells c e fz)/\off+cs.length<=c.size/\(c.toList.drop off).take cs.length=cs
def At.cell(h:At w b off cs)(j:Nat)(v:Vt_)(a:cs[j]? =some v):w.cell? ⟨b,off+j,none⟩=some v:=by
 obtain⟨c,e,i,g,k,f⟩:=h;have d:j<cs.length:=(aF.1 a).1;rw[<-f,eB,ab d,eV]at a;simp only[World.cell?,g];simpa using a
def At.get(h:At w b off cs):∃C e a,hp w b=some (.cells C e a)/\∀j v,cs[j]? =some v->C[off+j]? =some v:=by
 obtain⟨c,e,a,i,k,g⟩:=h;refine⟨c,e,a,i,λj v d=>?_⟩;have f:j<cs.length:=(aF.1 d).1;rw[<-g,eB,ab f,eV]at d;simpa using d
def At.loads(h:At w b off cs):(loadCells ⟨b,off,none⟩ cs.length).run P w=.ok cs.toArray w:=
 run_loadCells_list w _ cs λj v a=>by rw[bQ];exact h.cell j v a
def At.keep(h:At w b off cs)(f:w'.heap[b]? =w.heap[b]?):At w' b off cs:=by
 obtain⟨c,e,a,g,d⟩:=h;exact⟨c,e,a,by rw[f];exact g,d⟩
def At.mod(h:At w b off cs)(d:bn F w w')(f:¬F b):At w' b off cs:=by
 obtain⟨c,e,a,i,g⟩:=h;exact⟨c,e,a,d.keep i f,g⟩
def At.lt(h:At w b off cs):b<w.heap.size:=by
 obtain⟨c,e,d,a,_⟩:=h;exact aJ a
def At.sub(h:At w b off cs)(i k:Nat)(j:i+k<=cs.length):At w b (off+i) ((cs.drop i).take k):=by
 obtain⟨c,e,d,g,l,f⟩:=h;have a:((cs.drop i).take k).length=k:=by simp;omega
 refine⟨c,e,d,g,by rw[a];omega,?_⟩;rw[a]
 conv=>rhs;rw[<-f]
 rw[List.drop_take,List.take_take,cw,cV qZ]
def lI(P:Program)(t:TypeId):Bool:=
 match P.underlying t with
 |some (.struct _)|some (.array ..)=>true
 |_=>false
def yL(h:lI P t=true)(w:Wt_):(isAgg t).run P w=.ok true w:=by
 unfold lI at h;unfold isAgg;split at h
 ·rename_i a;simp[cY,aO a,Result.andThen]
 ·rename_i a;simp[cY,aO a,Result.andThen]
 ·cases h
def pV(h:P.cellsOf t=n+1):∃i,P.info? t=some i/\i.size=n+1:=by
 unfold Program.cellsOf at h;cases a:P.info? t with
 |none=>simp[a]at h
 |some i=>exact⟨i,rfl,by simpa [a]using h⟩
def kY(h:P.cellsOf t=n+1)(w:Wt_):(sizeOf t).run P w=.ok (n+1) w:=by
 obtain⟨i,b,a⟩:=pV h;simp[sizeOf,typeInfo,b,a]
def ft(c:lI P t=true)(a:P.cellsOf t=n+1)(hl:cs.length=n+1)(h:At w b off cs):
  (pp t (cU b off)).run P w=.ok (.agg cs.toArray) w:=by
 have:=h.loads (P:=P);rw[hl]at this;simp[pp,Instr.loadAt,Instr.sureAddr,loadVar,cY,yL c,kY a,Result.andThen,this]
def iu(cs:LV_)(n:Nat)(d:lI P t=true)(a:P.cellsOf t=n+1)(hl:cs.length=n+1)(h:At w b off cs)(c:K (.agg cs.toArray) w):
  rx P (pp t (cU b off)) w K:=kI (ft d a hl h) c
def rj{K:Value->Prop}(cs:LV_)(n:Nat)(d:lI P t=true)(a:P.cellsOf t=n+1)(hl:cs.length=n+1)(h:At w b off cs)(c:K (.agg cs.toArray)):
  IG P (pp t (cU b off)) w K:=yW (ft d a hl h) c
def ji(c:LV_)(off:Nat)(cs:LV_):List Value:=c.take off++cs++c.drop (off+cs.length)
def rk(h:off+cs.length<=c.length):(ji c off cs).length=c.length:=by
 simp[ji];omega
def kv(h:cs.length=c.length):ji c 0 cs=cs:=by simp[ji,h]
def pz(h:cs.all (·.oneCell')=true):∀v∈cs,v.oneCell' =true:=λv a=>aW.1 h v a
def xI{c:Array Value}(d:P.cellsOf t=n+1)(hl:cs.length=n+1)
  (h:w.heap[b]? =some (.cells c e (0,0)))(a:off+cs.length<=c.size)(f:cs.all (·.oneCell')=true):
  (ur t (cU b off) (.agg cs.toArray)).run P w=.ok () (w.setRow b (ji c.toList off cs).toArray):=by
 have:=run_storeCells_at P b off e cs 0 c w h (by simpa using a) (pz f);simp only[bM]at this;simp[ur,Instr.storeAt,Instr.sureAddr,storeVar,cY,kY d,Value.cells,hl,Result.andThen,this,ji]
def Gq{K:World->Prop}{c:Array Value}(d:P.cellsOf t=n+1)(hl:cs.length=n+1)
  (h:w.heap[b]? =some (.cells c e (0,0)))(a:off+cs.length<=c.size)(f:cs.all (·.oneCell')=true)(g:K (w.setRow b (ji c.toList off cs).toArray)):
  DD P (ur t (cU b off) (.agg cs.toArray)) w K:=Sh (xI d hl h a f) g
def iK(P:Program)(t:TypeId):List Value:=
 match (P.info? t).bind (·.zero)with
 |some z=>z.cells.toList
 |none=>[]
def mR(P:Program)(t:TypeId):Bool:=((P.info? t).bind (·.zero)).isSome
def SU(c:mR P t=true):
  (vR t).run P w=.ok (cU w.heap.size 0) (w.alloc (.cells (iK P t).toArray t)):=by
 unfold mR at c;cases b:P.info? t with
 |none=>simp[b]at c
 |some i=>
  cases a:i.zero with
  |none=>simp[b,a]at c
  |some z=>simp[vR,Instr.alloc,zeroValue,typeInfo,b,a,newVar,newRow,iK]
def uZ(b:mR P t=true)(a:K (cU w.heap.size 0) (w.alloc (.cells (iK P t).toArray t))):
  rx P (vR t) w K:=kI (SU b) a
def Lt{a:Array (Nat×Value)}(h:P.built t a.toList=some cells)(b:K (.agg cells) w):
  rx P (CV t a) w K:=kI (by unfold CV;exact run_build w t a cells h) b
def DM{a:Array (Nat×Value)}{K:Value->Prop}(h:P.built t a.toList=some cells)(b:K (.agg cells)):
  Hf P (CV t a) K:=T8 (λw=>by unfold CV;exact run_build w t a cells h) b
def SM{vs:LV_}(h:off+(vs.length+1)<=c.length):ji (c.set off v) (off+1) vs=ji c off (v::vs):=by
 simp only[ji,aR]
 have a:(c.set off v).take (off+1)=c.take off++[v]:=by
  rw[List.take_succ_eq_append_getElem (by simp;omega),List.take_set_of_le (aB _)];simp
 have b:(c.set off v).drop (off+1+vs.length)=c.drop (off+(vs.length+1)):=by
  rw[List.drop_set_of_lt qZ,show off+1+vs.length=off+(vs.length+1) by omega]
 rw[a,b];simp
def C9(off:Nat):∀(vs:LV_) (k:Nat) (c:Array Value),off+k+vs.length<=c.size->
  ((vs.zipIdx k).foldl (λa p=>a.setIfInBounds (off+p.2) p.1) c).toList=ji c.toList (off+k) vs
 | [],k,c,_=>by simp[ji]
 |v::vs,k,c,h=>by
  simp only[ng,eN];simp only[aR]at h;rw[C9 off vs (k+1) _ (by simp;omega),Array.toList_setIfInBounds,show off+(k+1)=off+k+1 by omega,SM (by simp;omega)]
def pA{place:Nat->Option (Nat×Nat)}{cells:LV_}{i size:Nat}{rest:List (Nat×Value)}(hp:place i=some (off,size))(b:v.cells.size=size)(h:off+size<=cells.length):
  Instr.fill place cells.toArray ((i,v)::rest)=Instr.fill place (ji cells off v.cells.toList).toArray rest:=by
 have a:¬(v.cells.size≠size\/off+v.cells.size>cells.toArray.size):=by grind
 simp only[Instr.fill,hp];rw[aa (by simpa using a)];congr 1;apply jU;have:=C9 off v.cells.toList 0 cells.toArray (by simp;omega);simp only[bM]at this;rw[<-this,<-Array.toList_zipIdx,Array.foldl_toList]
def BY{place:Nat->Option (Nat×Nat)}:Instr.fill place cells []=some cells:=rfl
def Rd(w:Wt_)(sz:Nat)(v:Vt_)(n:Nat)(cs:LV_):Prop:=
 cs.length=n*sz/\((n=0/\∃a c,v=.slice a 0 c)\/∃b off cap,v=.slice (some ⟨b,off,none⟩) n cap/\n<=cap/\At w b off cs)
def vP(v:Vt_)(b:Nat):Prop:=∃a n c,v=.slice (some a) n c/\n≠0/\a.block=b
def Mm:Value->Option Nat
 | .slice (some a) _ _=>some a.block
 |_=>none
def il(w:Wt_)(e:TypeId)(sz:Nat)(v:Vt_)(n:Nat)(cs:LV_):Prop:=
 cs.length=n*sz/\((v=.slice none 0 0/\n=0)\/∃b cap rest,v=.slice (some ⟨b,0,none⟩) n cap/\n<=cap/\w.heap[b]? =some (.cells (cs++rest).toArray e (0,0))/\rest.length=(cap - n)*sz/\(rest.all (·.oneCell')=true))
def aQ(v:Vt_)(b:Nat):Prop:=Mm v=some b
def il.keep(h:il w e sz v n cs)(g:∀b,aQ v b->w'.heap[b]? =w.heap[b]?):il w' e sz v n cs:=by
 obtain⟨c,h|⟨b,a,rest,rfl,i,d,f⟩⟩:=h
 ·exact⟨c,.inl h⟩
 ·exact⟨c,.inr ⟨b,a,rest,rfl,i,by rw[g b rfl];exact d,f⟩⟩
def il.lt(h:il w e sz v n cs){b:Nat}(a:aQ v b):b<w.heap.size:=by
 obtain⟨f,⟨rfl,_⟩|⟨i,d,rest,rfl,j,c,g⟩⟩:=h
 ·cases a
 ·cases a;exact aJ c
def il.nil(w:Wt_)(e:TypeId)(sz:Nat):il w e sz (.slice none 0 0) 0 []:=⟨by simp,.inl ⟨rfl,rfl⟩⟩
def il.mod(h:il w e sz v n cs)(c:bn F w w')(d:∀b,aQ v b->¬F b):il w' e sz v n cs:=
 h.keep λb a=>c.blk b (h.lt a) (d b a)
def vP.sl(h:vP v b):aQ v b:=by
 obtain⟨a,n,c,rfl,-,rfl⟩:=h;rfl
def il.rd(h:il w e sz v n cs):Rd w sz v n cs:=by
 obtain⟨c,⟨rfl,rfl⟩|⟨b,a,rest,rfl,f,d,g⟩⟩:=h
 ·exact⟨c,.inl ⟨rfl,_,_,rfl⟩⟩
 ·exact⟨c,.inr ⟨b,0,a,rfl,f,⟨_,_,_,d,by simp,by simp⟩⟩⟩
def Rd.keep(h:Rd w sz v n cs)(g:∀b,vP v b->w'.heap[b]? =w.heap[b]?):Rd w' sz v n cs:=by
 obtain⟨c,h|⟨b,a,d,rfl,i,f⟩⟩:=h
 ·exact⟨c,.inl h⟩
 ·by_cases e:n=0
  ·subst e;exact⟨c,.inl ⟨rfl,_,_,rfl⟩⟩
  ·exact⟨c,.inr ⟨b,a,d,rfl,i,f.keep (g b ⟨_,_,_,rfl,e,rfl⟩)⟩⟩
def Rd.lt(h:Rd w sz v n cs){b:Nat}(f:vP v b):b<w.heap.size:=by
 obtain⟨a,m,c,rfl,q,rfl⟩:=f;obtain⟨p,⟨rfl,l,k,e⟩|⟨b,i,g,e,s,j⟩⟩:=h
 ·grind
 ·injection e with d o r;injection d with d;subst d;exact j.lt
def Rd.mod(h:Rd w sz v n cs)(c:bn F w w')(d:∀b,vP v b->¬F b):Rd w' sz v n cs:=
 h.keep λb a=>c.blk b (h.lt a) (d b a)
def Rd.first(h:Rd w sz v n cs)(j:0<sz):
  (Builtin.firstCells sz n v).run P w=.ok cs.toArray w:=by
 obtain⟨d,⟨rfl,a,c,rfl⟩|⟨b,e,g,rfl,i,f⟩⟩:=h
 ·have:cs=[]:=by simpa using d
  subst this;cases a<;>simp[Builtin.firstCells,loadCells,loadCellsFrom]
 ·have:=f.loads (P:=P);rw[d]at this;simpa [Builtin.firstCells]using this
def Rd.isSl(h:Rd w sz v n cs):∃a c,v=.slice a n c:=by
 obtain⟨_,⟨rfl,a,c,rfl⟩|⟨b,d,e,rfl,_⟩⟩:=h
 ·exact⟨_,_,rfl⟩
 ·exact⟨_,_,rfl⟩
def Rd.lenOf(h:Rd w sz v n cs)(w1:Wt_):(Builtin.lenOf v).run P w1=.ok n w1:=by
 obtain⟨f,⟨rfl,a,c,rfl⟩|⟨b,d,e,rfl,i,g⟩⟩:=h<;>rfl
end Go.Vc
namespace Go.Vc
open Go Go.Vc
variable {cs:LV_}{sz by_ n:Nat}{P:Program}{e t d:TypeId}{s:Vt_}{w:Wt_}{K:be}
structure vG(P:Program)(e:TypeId)(sz by_:Nat):Prop where
 ok:∃i z,P.info? e=some i/\i.zero=some z/\i.size=sz/\i.bytes=by_/\z.cells.size=sz/\z.cells.toList.all (·.oneCell')=true
 pos:0<sz
 bpos:0<by_
def fj(P:Program)(e:TypeId)(sz by_:Nat):Bool:=
 Nat.blt 0 sz&& Nat.blt 0 by_&& match P.info? e with
 |none=>false
 |some i=>match i.zero with
  |none=>false
  |some z=>Nat.beq i.size sz&& Nat.beq i.bytes by_&& Nat.beq z.cells.size sz&& z.cells.toList.all (·.oneCell')
def dG(h:fj P e sz by_=true):vG P e sz by_:=by
 unfold fj at h;simp only[ah]at h;obtain⟨⟨g,d⟩,h⟩:=h;cases a:P.info? e with
 |none=>rw[a]at h;cases h
 |some i=>
  rw[a]at h;simp only at h;cases b:i.zero with
  |none=>rw[b]at h;cases h
  |some z=>
   rw[b]at h;simp only[ah]at h;obtain⟨⟨⟨k,f⟩,j⟩,c⟩:=h;exact⟨⟨i,z,a,b,dK k,dK f,dK j,c⟩,by simpa [lB]using g,by simpa [lB]using d⟩
def pR{z:Array Value}(h:z.toList.all (·.oneCell')=true)(hp:0<z.size)(n:Nat):(Builtin.zeroCells z n).toList.all (·.oneCell')=true:=by
 unfold Builtin.zeroCells;simp only[Array.toList_map,List.all_map,aW];intro i _;have a:i%z.size<z.size:=fV _ hp;simp only[Function.comp_apply];rw[eW z _ a];exact aW.1 h _ (by simp)
def pT(z:Array Value)(n:Nat):(Builtin.zeroCells z n).toList.length=n*z.size:=by simp[Builtin.zeroCells]
def lA{u ty:TypeId}{x:Vt_}{m:Nat}{a:LV_}
  (L:P.underlying t=some (.slice e)){e' :TypeId}(U:P.underlying u=some (.slice e'))(hE:vG P e sz by_)
  (hs:il w e sz s n cs)(B:Rd w sz x m a)(h1:a.all (·.oneCell')=true)(G:(n+m)*by_<=140737488355328)
  (O:∀H F,il F e sz H (n+m) (cs++a)->bn (aQ s) w F->(∀b,aQ H b->aQ s b\/w.heap.size<=b)->K H F):
  rx P (ff #[t,u] ty [s,x]) w K:=by
 obtain⟨⟨i,z,V,hz,r,S,W,N⟩,k,q⟩:=hE;have R:n+m<=140737488355328:=bK (mG _ q) G;have l:cs.length=n*sz:=hs.1;have g:a.length=m*sz:=B.1;have A:=λw1 (h:Rd w1 sz x m a)=>h.first (P:=P) k
 obtain⟨d,c,J,Z,E⟩:∃d c,s=.slice d n c/\n<=c/\((d=none/\n=0/\c=0/\cs=[])\/∃b rest,d=some ⟨b,0,none⟩/\w.heap[b]? =some (.cells (cs++rest).toArray e (0,0))/\rest.length=(c - n)*sz/\rest.all (·.oneCell')=true):=by
  rcases hs.2 with⟨rfl,rfl⟩|⟨b,c,rest,rfl,hc,T,hr⟩
  ·grind
  ·grind
 subst J;by_cases f:n+m<=c
 ·rcases E with⟨rfl,rfl,rfl,rfl⟩|⟨b,rest,rfl,T,D,hr1⟩
  ·have hm:m=0:=qZ;subst hm;have y:a=[]:=by simpa using g
   subst y;refine oM (.slice none 0 0) w ?_ (O _ _ hs rC (λb G=>.inl G));have:=A w B;simp[ff,Builtin.append_,aO L,sizeOf,typeInfo,V,r,aO U,B.lenOf,Result.andThen,this]
  ·have o:=run_storeCells_at P b (n*sz) e a 0 (cs++rest).toArray w T (by simp[l,D,g];exact cz _ qZ) (pz h1);simp only[bM]at o
   have p:(cs++rest).take (n*sz)++a++(cs++rest).drop (n*sz+a.length)=(cs++a)++rest.drop a.length:=by
    rw[<-l];simp[ag]
   refine oM (.slice (some ⟨b,0,none⟩) (n+m) c) (w.setRow b ((cs++a)++rest.drop a.length).toArray) ?_ (O _ _ ⟨?_,.inr ⟨b,c,rest.drop a.length,rfl,f,?_,?_,?_⟩⟩ ?_ ?_)
   ·have:=A w B;simp only[p]at o;have e0:(⟨b,0,none⟩:Addr).add (n*sz)=⟨b,n*sz,none⟩:=by rw[bQ];simp
    simp[ff,Builtin.append_,aO L,sizeOf,typeInfo,V,r,aO U,B.lenOf,Result.andThen,this,f,e0,o]
   ·grind
   ·rw[eU,ab rfl,T]
   ·simp[D,g];rw[<-mB];congr 1;omega
   ·grind
   ·exact(bn.refl (aQ (.slice (some ⟨b,0,none⟩) n c)) w).setRow (.inl (show aQ _ b from rfl)) _
   ·intro b' C;exact .inl C
 ·have hfit:=growslice_fits (old:=c) (need:=n+m) (bytes:=by_) qZ G;have I:¬(281474976710656<Builtin.nextslicecap (n+m) c*i.bytes):=by rw[S];omega
  have Q:¬(9223372036854775807<((n:Int)+(m:Int))):=qZ;have j:n+m<=grownCap w (n+m) c e:=by simp[grownCap,Question.cut]
  have M:Rd w.drew sz (.slice d n c) n cs:=hs.rd.keep λ_ _=>rfl;have Y:=M.first (P:=P) k;have X:=A w.drew (B.keep λ_ _=>rfl)
  refine kI (v:=.slice (some ⟨w.heap.size,0,none⟩) (n+m) (grownCap w (n+m) c e))
   (w' :=w.drew.alloc (.cells (cs.toArray++a.toArray++Builtin.zeroCells z.cells (grownCap w (n+m) c e - (n+m))) e)) ?_ (O _ _ ⟨?_,.inr ⟨w.heap.size,_,(Builtin.zeroCells z.cells (grownCap w (n+m) c e - (n+m))).toList,rfl,j,?_,?_,?_⟩⟩ ?_ ?_)
  ·simp[ff,Builtin.append_,aO L,sizeOf,typeInfo,zeroValue,V,hz,r,aO U,B.lenOf,Result.andThen,f,Q,I,Question.forced,Y,X,newRow,grownCap];rw[<-Array.append_assoc];congr 2;simp
  ·grind
  ·rw[dZ,ab (show w.heap.size=w.drew.heap.size from rfl)];simp
  ·rw[pT,W]
  ·exact pR N (by grind) _
  ·exact wl.alloc _
  ·rintro b' C;cases C;exact .inr (aB _)
def Fc(w:Wt_)(c:Array Value)(t:TypeId)(cs:Array Value):(w.alloc (.cells c t)).setRow w.heap.size cs=w.alloc (.cells cs t):=by
 unfold World.setRow World.alloc;simp only;congr 1;apply Array.ext
 ·simp
 ·intro i b a;simp only[Array.getElem_modify,Array.getElem_push];by_cases h:w.heap.size=i
  ·subst h;simp
  ·grind
def uV(n:Nat)(i:mR P t=true)(d:P.cellsOf t=n+1)(hl:cs.length=n+1)(a:(iK P t).length=n+1)(f:cs.all (·.oneCell')=true)
  (g:K (cU w.heap.size 0) (w.alloc (.cells cs.toArray t))):rx P (vR t) w λv b=>DD P (ur t v (.agg cs.toArray)) b λh=>K v h:=by
 apply uZ i;apply Gq (c:=(iK P t).toArray) (e:=t) d hl (by rw[dZ,ab rfl]) (by simp[hl,a]) f;rw[kv (by simp[hl,a]),Fc];exact g
def lx{α:Type}(f:α->List Value)(sz:Nat):∀(ws:List α) (i:Nat) (a:∀x∈ws,(f x).length=sz) (h:i<ws.length),((ws.flatMap f).drop (i*sz)).take sz=f ws[i]
 |x::ws,0,a,h=>by grind
 |x::ws,i+1,a,h=>by
  have e:(i+1)*sz=(f x).length+i*sz:=by grind
  simp only[aT,io];rw[e,<-cw,ck];exact lx f sz ws i (λy b=>a y (by simp[b])) (by simpa using h)
def qS{α:Type}(f:α->List Value)(sz:Nat):∀(ws:List α) (a:∀x∈ws,(f x).length=sz),(ws.flatMap f).length=ws.length*sz
 | [],_=>by simp
 |x::ws,a=>by simp[a x (by simp),qS f sz ws λy b=>a y (by simp[b]),dY];omega
def il.isSl(h:il w e sz s n cs):∃a c,s=.slice a n c/\n<=c:=by
 obtain⟨_,⟨rfl,rfl⟩|⟨b,d,_,rfl,f,_⟩⟩:=h
 ·grind
 ·grind
def il.elem(h:il w e sz s n cs){i:Nat}(hi:i<n):
  ∃b a,s=.slice (some ⟨b,0,none⟩) n a/\At w b (i*sz) ((cs.drop (i*sz)).take sz):=by
 obtain⟨f,⟨rfl,rfl⟩|⟨b,a,rest,rfl,k,g,j⟩⟩:=h
 ·omega
 ·have c:i*sz+sz<=cs.length:=by
   rw[f];have:(i+1)*sz<=n*sz:=cz _ hi;rw[dY]at this;omega
  have d:At w b 0 cs:=⟨_,_,_,g,by simp,by simp⟩
  have:=d.sub (i*sz) sz c;exact⟨b,a,rfl,by simpa using this⟩
def LM{kl k:IntKind}{l c:Int}{z:Vt_}(m:P.underlying t=some (.slice e))(s:vG P e sz by_)(n:0<=l)(g:l<=c)(o:(by_:Int)*c<=281474976710656)
  (y:(P.info? e).bind (·.zero)=some z)
  (r:K (.slice (some ⟨w.heap.size,0,none⟩) l.toNat c.toNat) (w.alloc (.cells (madeCells z.cells (c.toNat*sz)) e))):
  rx P (Ed t (.int kl l) (.int k c)) w K:=by
 obtain⟨⟨i,p,u,h,d,f,v,q⟩,j,a⟩:=s;have:z=p:=by grind
 subst this
 have b:c<=9223372036854775807:=by
  have x:(1:Int)*c<=(by_:Int)*c:=gN qZ qZ;omega
 exact kI (by unfold Ed;exact run_make w t e i z m u h kl k l c n g (by rw[f];exact o) b) (by rw[d];exact r)
def HN(sz:Nat):∀(vs:LV_) (i:Nat) (a rest:LV_),(∀v∈vs,v.cells.size=sz)->a.length=i*sz->rest.length=vs.length*sz->
  Instr.fill (λi=>some (i*sz,sz)) (a++rest).toArray ((vs.zipIdx i).map λp=>(p.2,p.1))=some (a++vs.flatMap (·.cells.toList)).toArray
 | [],i,a,rest,_,_,c=>by
  have:rest=[]:=by simpa using c
  subst this;simp[BY]
 |v::vs,i,a,rest,f,hp,c=>by
  have b:=f v (by simp);have g:sz<=rest.length:=by rw[c,aR,dY];omega
  simp only[ng,aH];rw[pA (off:=i*sz) (size:=sz) rfl b (by simp;omega)]
  have e:ji (a++rest) (i*sz) v.cells.toList=(a++v.cells.toList)++rest.drop sz:=by
   have d:v.cells.toList.length=sz:=by simpa using b
   simp only[ji,d];rw[<-hp,df,<-cw,ck]
  rw[e,HN sz vs (i+1) _ _ (λu h=>f u (by simp[h])) (by grind) (by simp[c,dY])];simp
def oE{a:List (Nat×Value)}(vs:LV_)(l:P.underlying t=some (.slice e))(x:vG P e sz by_)
  (hp:a=vs.zipIdx.map λp=>(p.2,p.1))(A:vs.length=n)(C:∀v∈vs,v.cells.size=sz)(D:n*sz<=16777216)
  (r:K (.slice (some ⟨w.heap.size,0,none⟩) n n) (w.alloc (.cells (vs.flatMap (·.cells.toList)).toArray e))):rx P (qL t n a) w K:=by
 obtain⟨⟨i,z,o,u,c,y,B,s⟩,m,j⟩:=x;subst hp;have k:¬(2 ^ 24<n*sz):=qZ;refine kI ?_ r
 have b:∀d:Array Value,(d.toList.length=n*sz)->Instr.fill (λi=>some (i*sz,sz)) d (vs.zipIdx.map λp=>(p.2,p.1))=some (vs.flatMap (·.cells.toList)).toArray:=λd g=>by
  have:=HN sz vs 0 [] d.toList C (by simp) (by rw[A];exact g);simpa using this
 by_cases f:n*sz=0
 ·have h:=b (Array.map (λ_=>default) (Array.range 0)) (by simp[f]);simp[qL,Instr.buildSlice,aO l,sizeOf,typeInfo,o,c,f,h,newRow,Result.andThen]
 ·have h:=b ((Array.range (n*sz)).map (z.cells[·%z.cells.size]!)) (by simp);have q:Instr.fill (λi=>some (i*sz,sz)) ((Array.range (n*sz)).map (z.cells[·%sz]!)) (vs.zipIdx.map λp=>(p.2,p.1))=some (vs.flatMap (·.cells.toList)).toArray:=by grind
  simp[qL,Instr.buildSlice,aO l,sizeOf,typeInfo,zeroValue,o,u,c,f,k,h,q,newRow,Result.andThen]
def bv(l:List UInt8):List Value:=l.map λu=>gB (u.toNat:Int)
@[simp] theorem Zr (l:List UInt8):(bv l).length=l.length:=by simp[bv]
@[simp] theorem ap3:bv []=[]:=rfl
@[simp] theorem sX (l a:List UInt8):bv (l++a)=bv l++bv a:=by simp[bv]
def U5(l:List UInt8)(n:Nat):(bv l).take n=bv (l.take n):=by simp[bv]
def L5(l:List UInt8)(n:Nat):(bv l).drop n=bv (l.drop n):=by simp[bv]
def yI(l:List UInt8):(bv l).all (·.oneCell')=true:=by simp[bv,Value.oneCell']
def Ni(a:List UInt8):∀s:ByteArray,((a.map λu=>(u.toNat:Int)).foldl (λr n=>r.push (UInt8.ofNat n.toNat)) s)=⟨s.data++a.toArray⟩:=by
 induction a with
 |nil=>intro s;simp
 |cons n a b=>
  intro s;simp only[aH,eN];rw[b];simp[ByteArray.push]
def qy(l:List UInt8):ByteArray:=⟨l.toArray⟩
def DL{s:TypeId}{v:Vt_}{l:List UInt8}
  (hs:P.underlying s=some (.slice e))(k:P.underlying e=some (.int .u8))(i:P.underlying d=some .string)(h:Rd w 1 v n (bv l)):
  (sn s d v).run P w=.ok (.string (qy l)) w:=by
 have j:l.length=n:=by simpa using h.1
 obtain⟨_,⟨rfl,a,c,rfl⟩|⟨b,g,m,rfl,p,o⟩⟩:=h
 ·have:l=[]:=by simpa using j
  subst this;unfold sn;rw[run_convert_bytes_string w s d e _ _ _ hs k i];cases a<;>rfl
 ·have f:(loadCells ⟨b,g,none⟩ n).run P w=.ok (bv l).toArray w:=by
   have:=o.loads (P:=P);simpa [j]using this
  unfold sn;rw[run_convert_bytes_string w s d e _ _ _ hs k i,run_bytesToString w _ _ _ (l.map λu=>(u.toNat:Int)) (by rw[f];simp[bv]),Ni];simp[qy,ByteArray.empty,ByteArray.emptyWithCapacity];rfl
def QE{s:TypeId}{v:Vt_}{l:List UInt8}
  (hs:P.underlying s=some (.slice e))(b:P.underlying e=some (.int .u8))(a:P.underlying d=some .string)(h:Rd w 1 v n (bv l))(c:K (.string (qy l)) w):
  rx P (sn s d v) w K:=kI (DL hs b a h) c
@[simp] theorem U8 (l a:List UInt8):qy l++qy a=qy (l++a):=by
 apply ByteArray.ext;simp[qy]
@[simp] theorem XI (l:List UInt8):(qy l).size=l.length:=by simp[qy,ByteArray.size]
@[simp] theorem Vd (l:List UInt8):(qy l).toList=l:=ByteArray.toList_mk l
@[simp] theorem Zq {l a:List UInt8}:qy l=qy a↔l=a:=by
 refine⟨λh=>?_,λh=>by rw[h]⟩;have:=dP (λb:ByteArray=>b.data.toList) h;simpa [qy]using this
def Q8(fz:Nat×Nat)(n:Nat):Nat×Nat:=if fz.1==fz.2 then(n,n+1)else(min fz.1 n,max fz.2 (n+1))
def wC(w:Wt_)(b n a:Nat):(w.freeze ⟨b,n,none⟩ 1).heap[a]? =if a=b then(match w.heap[b]? with|some (.cells c e d)=>some (.cells c e (Q8 d n))|o=>o)else w.heap[a]? :=by
 unfold World.freeze;rw[aa (by decide)];simp only;rw[iO];by_cases h:b=a
 ·subst h;simp only[de];cases f:w.heap[b]? with
  |none=>rfl
  |some o=>cases o<;>rfl
 ·grind
def Ek(w:Wt_)(a:Addr):(w.freeze a 1).heap.size=w.heap.size:=by simp[World.freeze]
def bn.freeze{F:NP_}{w' :Wt_}(h:bn F w w'){b:Nat}(f:F b\/w.heap.size<=b)(n:Nat):bn F w (w'.freeze ⟨b,n,none⟩ 1):=
 ⟨by rw[Ek];exact h.size,h.out,h.os,λd a c=>by
  rw[wC,aa (λe=>by grind)];exact h.blk d a c⟩
def T6{b c:Nat}{C:Array Value}{f:Nat×Nat}(i:P.underlying t=some (.slice e))(g:P.underlying e=some (.int .u8))
  (j:w.heap[b]? =some (.cells C d f))(h:K (.slice (some ⟨b,0,none⟩) n c) (w.freeze ⟨b,C.size,none⟩ 1)):
  rx P (sn t t (.slice (some ⟨b,0,none⟩) n c)) w K:=by
 refine kI (v:=.slice (some ⟨b,0,none⟩) n c) ?_ h;have a:w.shape? b=some (d,C.size):=by simp[World.shape?,j]
 unfold sn;simp[convert,aO i,aO g,markStringish,a]
end Go.Vc
