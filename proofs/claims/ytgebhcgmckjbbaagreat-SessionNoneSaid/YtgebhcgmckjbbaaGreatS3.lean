/- Part of a proof. -/
import Derived.Scope
import Derived.WalkKit
import Derived.WalkLawsBesides
import Derived.RowKit3
import Derived.Laws.Cover3
import Derived.Laws.CopyRow
import Derived.Laws.Append
import Derived.Laws.MakeOwn
import Derived.Test.YtgebhcgmckjbbaaGreatS2
set_option linter.all false
namespace Go.Vc
open Go
theorem tupOf_congr{E E' :Env}(h:∀t,E'.get t=E.get t):∀l,tupOf E' l=tupOf E l
 | []=>rfl
 |t::l=>by
  simp only[tupOf,h t]
  rw[tupOf_congr h l]
theorem tupOf_put:∀{l:List Nat} {s:Tup l} {r:List (Nat×Option Value)} {g:Nat→Value} {ds:List Nat},l.Nodup→tupOf {l:=putTup l s r,g:=g,ds:=ds} l=s
 | [],_,_,_,_,_=>rfl
 |t::l,(v,s),r,g,ds,hn=>by
  obtain⟨hnt,hn⟩:=List.nodup_cons.1 hn
  simp only[tupOf]
  refine Prod.ext ?_ ?_
  ·simp[Env.get,putTup,Env.look]
  ·simp only
   have e:∀l' :List Nat,t ∉ l' →tupOf {l:=putTup (t::l) (v,s) r,g:=g,ds:=ds} l' =tupOf {l:=putTup l s r,g:=g,ds:=ds} l' :=by
    intro l'
    induction l' with
    |nil=>intro _;rfl
    |cons k l' ih=>
     intro hk
     have hkt:Nat.beq t k=false:=by
      cases hb:Nat.beq t k with
      |false=>rfl
      |true=>exact absurd (by rw[Nat.eq_of_beq_eq_true hb];exact List.mem_cons_self) hk
     simp only[tupOf]
     rw[ih λhm=>hk (List.mem_cons_of_mem _ hm)]
     congr 1
     simp[Env.get,putTup,Env.look,hkt]
   rw[e l hnt]
   exact tupOf_put hn
theorem liveOf_nodup{ds:List Nat}:∀{l:List (Nat×Option Value)} {acc:List Nat},acc.Nodup→(liveOf ds l acc).Nodup
 | [],acc,h=>by simpa [liveOf]using h
 |(k,v)::r,acc,h=>by
  unfold liveOf
  cases hc:ds.contains k&& !acc.contains k with
  |true=>
   simp only[Bool.and_eq_true]at hc
   exact liveOf_nodup (List.nodup_cons.2 ⟨by simpa using hc.2,h⟩)
  |false=>exact liveOf_nodup h
theorem headE_again{n:Nat}{E E1 E2:Env}{ds:List Nat}{a:Act}{mk:List Nat}(h1:Fr ds E E2)(hr:Rel n E2 a)(hm:E2.ds=mk):
  Rel n (headE E ds (liveOf ds E.l []) (tupOf E2 (liveOf ds E.l [])) (λt=>a.tmps.getD t undef) mk) a:=by
 refine⟨hr.size,λt=>?_,by rw[hr.defs,hm];rfl⟩
 by_cases ht:t∈ds
 ·by_cases hl:t∈liveOf ds E.l []
  ·unfold Env.get headE
   simp only[look_putTup_of hl]
   exact hr.get t
  ·have hnone:Env.look E.l t=none:=by
    apply Classical.byContradiction
    intro hne
    exact hl (liveOf_all ht hne)
   unfold Env.get headE
   have:ds.contains t=true:=by simpa using ht
   simp only[look_putTup hl,hnone,this]
 ·rw[headE_fr t ht,←h1 t ht]
  exact hr.get t
theorem headE_meet{n:Nat}{E E2:Env}{ds live:List Nat}{a:Act}{mk:List Nat}(hall:∀t∈ds,Env.look E.l t≠none→t∈live)(hsub:∀t∈live,t∈ds)(h1:Fr ds E E2)(hr:Rel n E2 a)(hm:E2.ds=mk):
  Rel n (headE E ds live (tupOf E2 live) (λt=>a.tmps.getD t undef) mk) a:=by
 refine⟨hr.size,λt=>?_,by rw[hr.defs,hm];rfl⟩
 by_cases ht:t∈ds
 ·by_cases hl:t∈live
  ·unfold Env.get headE
   simp only[look_putTup_of hl]
   exact hr.get t
  ·have hnone:Env.look E.l t=none:=by
    apply Classical.byContradiction
    intro hne
    exact hl (hall t ht hne)
   unfold Env.get headE
   have:ds.contains t=true:=by simpa using ht
   simp only[look_putTup hl,hnone,this]
 ·rw[headE_frJ hsub t ht,←h1 t ht]
  exact hr.get t
theorem headE_same{E:Env}{ds:List Nat}:∀t,(headE E ds (liveOf ds E.l []) (tupOf E (liveOf ds E.l [])) E.g E.ds).get t=E.get t:=by
 intro t
 by_cases ht:t∈ds
 ·by_cases hl:t∈liveOf ds E.l []
  ·simp only[Env.get,headE,look_putTup_of hl]
  ·have hnone:Env.look E.l t=none:=by
    apply Classical.byContradiction
    intro hne
    exact hl (liveOf_all ht hne)
   have:ds.contains t=true:=by simpa using ht
   simp only[Env.get,headE,look_putTup hl,this,hnone]
 ·exact headE_fr t ht
theorem tupOf_headE{E:Env}{ds:List Nat}{s:Tup (liveOf ds E.l [])}{g:Nat→Value}{mk:List Nat}:tupOf (headE E ds (liveOf ds E.l []) s g mk) (liveOf ds E.l [])=s:=
 tupOf_put (liveOf_nodup List.nodup_nil)
def actE(a:Act):Env:={l:=[],g:=λt=>a.tmps.getD t undef,ds:=a.defers.map λd=>match d.target with| .collected r=>r|_=>0}
theorem Rel.actE{n:Nat}{E:Env}{a:Act}(h:Rel n E a):(∀t,(Vc.actE a).get t=E.get t)∧(Vc.actE a).ds=E.ds:=by
 refine⟨h.get,?_⟩
 unfold Vc.actE
 simp only
 rw[h.defs,List.map_map]
 conv=>rhs;rw[←List.map_id E.ds]
 exact List.map_congr_left λ_ _=>rfl
theorem run_callFunc_of{P:Program}(hP:NoNum P=true){f:FuncId}{args:Array Value}{w w1:World}{K:Kont}(h:Ca P f args w K):
  (callFunc f args).run P w1=.ok (.enter f args) w1:=by
 obtain⟨fn,hf,hb⟩:=h.bodied
 have hname:(fn.name== "runtime.NumGoroutine")=false:=by
  have:=(Array.all_eq_true'.1 hP) fn (Array.mem_of_getElem? hf)
  simpa using this
 have hname' :¬fn.name= "runtime.NumGoroutine" :=by simpa using hname
 have hnone' :¬fn.body=none:=by intro hh;rw[hh]at hb;exact absurd hb (by simp)
 unfold callFunc
 simp[Sem.run_bind,Result.andThen,hf,hname',hnone']
theorem rel_putAll{n:Nat}:∀(ps:List Nat) (i:Nat) (args:List Value) (E:Env) (tmps:Array Value),(ps.all λd=>Nat.blt d n)=true→args.length=i+ps.length→Rel n E {tmps:=tmps,defers:=[]}→
  Rel n {E with l:=putAll ps i args E.l} {tmps:=(ps.zip (args.drop i)).foldl (λtmps (t,a)=>tmps.setIfInBounds t a) tmps,defers:=[]}
 | [],_,_,E,tmps,_,_,h=>by simpa [putAll]using h
 |t::ps,i,args,E,tmps,hps,hlen,h=>by
  simp only[List.all_cons,Bool.and_eq_true]at hps
  simp only[List.length_cons]at hlen
  have hi:i<args.length:=by omega
  have hd:args.drop i=args[i]::args.drop (i+1):=List.drop_eq_getElem_cons hi
  have hg:args.getD i undef=args[i]:=by simp[hi]
  have h1:Rel n (E.put (some t) args[i]) (({tmps:=tmps,defers:=[]}:Act).put (some t) args[i]):=h.put (d:=some t) hps.1 _
  have:=rel_putAll ps (i+1) args (E.put (some t) args[i]) (tmps.setIfInBounds t args[i]) hps.2 (by omega) h1
  rw[hd]
  simpa only[putAll,Env.put,hg,List.zip_cons_cons,List.foldl_cons]using this
theorem zip_foldl(ps:Array Nat)(args:List Value)(tmps:Array Value):
  (ps.zip ⟨args⟩).foldl (λtmps (t,a)=>tmps.setIfInBounds t a) tmps=(ps.toList.zip args).foldl (λtmps (t,a)=>tmps.setIfInBounds t a) tmps:=by
 rw[←Array.foldl_toList]
 simp
theorem run_enterLoop_inner{P:Program}{w:World}{l0:Nat}{r:Loop}(h:w.heap[l0]? =some (.loop r))(fn:FuncId)(tmps:Array Value)(ps:Array Tmp)(assign body:Code):
  (Instr.enterLoop fn tmps ps assign body (some l0)).run P w=
   .ok (w.heap.size,[]) (w.alloc (.loop {state:=.ready,pending:=none,fn,tmps,params:=ps,assign,body,defers:=r.defers})):=by
 unfold Instr.enterLoop
 simp only[Sem.run_bind,run_getLoop h,Result.andThen,Sem.run_pure,run_newObj_alloc]
theorem vc_sound{P:Program}{jn:Bool}(hP:NoNum P=true){n:Nat}:∀(c:Code) (ro:Option Nat) (Q:Exit→Env→World→Prop) (Q' :Exit→Act→World→Prop) (E:Env) (a:Act) (w:World),
  okC P n c=true→Rel n E a→(∀e E a w,Rel n E a→Q e E w→Q' e a w)→vc P jn ro c Q E w→c.wpIn (FR ro) 0 P Q' a w:=by
 intro c
 induction c with
 |skip=>intro ro Q Q' E a w _ hr hq h;exact wpIn_skip (hq _ _ _ _ hr h)
 |region id ops draw=>
  intro ro Q Q' E a w hok hr hq h
  simp only[okC,Bool.and_eq_true]at hok
  cases draw with
  |false=>exact wpIn_region_list (vcList_sound (ops:=ops.toList) hP (hq .normal) ops.toList hok.1 E a w hr h)
  |true=>
   have hok2:=hok.2
   simp only[Bool.not_true,Bool.false_or,Bool.and_eq_true]at hok2
   refine wpIn_region_any hok2.1 ?_
   have:=vcD_sound (ro:=ro) (ops:=ops.toList) hP hok2.2 hok.1 (hq .normal) ops.size [] [] [] [] E a w.drew (ops.toList.length+1) (Array.replicate ops.size false)
    ⟨(λi=>by simp),(λi hi=>by cases hi),List.nodup_nil,trivial,(λi hi=>by cases hi),hr.size,hr.defs,(λt _=>hr.get t),(λi hi=>by cases hi)⟩
    (λi hi=>by simp at hi;simp[hi]) (by simp) (by simp) (by simpa using List.length_filter_le _ (List.range ops.size)) h
   simpa using this
 |seq x y ihx ihy=>
  intro ro Q Q' E a w hok hr hq h
  simp only[okC,Bool.and_eq_true]at hok
  simp only[vc]at h
  cases hj:jn&& joins x y with
  |true=>
   rw[hj]at h
   simp only[force_eq]at h
   obtain⟨J,hJ,hA⟩:=h.out
   simp only[Bool.and_eq_true]at hj
   have hrf:=joins_rf hj.2
   have hA' :=vc_mono x ro _ (λe E' w' =>(match e with| .normal=>J (tupOf E' (liveJ (dstsOf x) E.l (usesOf y))) w' |e=>Q e E' w')∧Fr (dstsOf x) E E' ∧E'.ds=E.ds) _ w hA
    (λe E' w' hf hd hQ=>⟨by cases e<;>exact hQ,hf,hd hrf⟩)
   refine wpIn_seq (ihx ro _ _ E a w hok.1 hr (λe E1 a1 w1 hr1 hQ=>?_) hA')
   obtain⟨hQ,hf,hd⟩:=hQ
   cases e with
   |normal=>exact ihy ro Q Q' _ a1 w1 hok.2 (headE_meet (λt ht hne=>liveJ_all ht hne) liveJ_sub hf hr1 hd) hq (hJ _ _ hQ _)
   |exit id=>exact hq _ _ _ _ hr1 hQ
   |goto id=>exact hq _ _ _ _ hr1 hQ
   |ret=>exact hq _ _ _ _ hr1 hQ
   |panic ch=>exact hq _ _ _ _ hr1 hQ
   |outgrown=>exact hq _ _ _ _ hr1 hQ
  |false=>
  rw[hj]at h
  refine wpIn_seq (ihx ro _ _ E a w hok.1 hr (λe E1 a1 w1 hr1 hQ=>?_) h)
  cases e with
  |normal=>exact ihy ro Q Q' E1 a1 w1 hok.2 hr1 hq hQ
  |exit id=>exact hq _ _ _ _ hr1 hQ
  |goto id=>exact hq _ _ _ _ hr1 hQ
  |ret=>exact hq _ _ _ _ hr1 hQ
  |panic ch=>exact hq _ _ _ _ hr1 hQ
  |outgrown=>exact hq _ _ _ _ hr1 hQ
 |cond c t f iht ihf=>
  intro ro Q Q' E a w hok hr hq h
  simp only[okC,Bool.and_eq_true]at hok
  simp only[vc,isB]at h
  split at h
  ·rename_i b hb
   have hb' :a.eval c=.bool b:=by rw[hr.ev];exact hb
   cases b with
   |true=>exact wpIn_cond hb' (iht ro Q Q' E a w hok.1 hr hq h)
   |false=>exact wpIn_cond hb' (ihf ro Q Q' E a w hok.2 hr hq h)
  ·exact h.elim
 |block id c ih=>
  intro ro Q Q' E a w hok hr hq h
  refine wpIn_block (ih ro _ _ E a w hok hr (λe E1 a1 w1 hr1 hQ=>?_) h)
  cases e with
  |exit i=>
   simp only at hQ
   cases hb:Nat.beq i id with
   |true=>
    rw[hb]at hQ
    simp only[bc]at hQ
    simp only[Exit.inBlock,Nat.eq_of_beq_eq_true hb,if_true]
    exact hq _ _ _ _ hr1 hQ
   |false=>
    rw[hb]at hQ
    have hne:¬i=id:=λe=>by subst e;simp at hb
    simp only[Exit.inBlock,hne,if_false]
    exact hq _ _ _ _ hr1 hQ
  |normal=>exact hq _ _ _ _ hr1 hQ
  |goto id=>exact hq _ _ _ _ hr1 hQ
  |ret=>exact hq _ _ _ _ hr1 hQ
  |panic ch=>exact hq _ _ _ _ hr1 hQ
  |outgrown=>exact hq _ _ _ _ hr1 hQ
 |loop c ih=>
  intro ro Q Q' E a w hok hr hq h
  simp only[vc,force_eq]at h
  cases hrf:hasRF c with
  |false=>
   rw[hrf]at h
   obtain⟨I,m,h0,h1⟩:=h.out
   refine wpIn_loop (λa w=>∃s g,Rel n (headE E (dstsOf c) (liveOf (dstsOf c) E.l []) s g E.ds) a∧I s w) (λa w=>m (tupOf (actE a) (liveOf (dstsOf c) E.l [])) w)
    ⟨_,E.g,hr.of_get headE_same rfl,h0⟩ ?_
   rintro a1 w1 ⟨s,g,hr1,hI⟩
   have hb:=vc_mono c ro _ (λe E' w' =>(match e with| .normal=>I (tupOf E' (liveOf (dstsOf c) E.l [])) w' ∧m (tupOf E' (liveOf (dstsOf c) E.l [])) w' <m s w1|e=>Q e E' w')∧Fr (dstsOf c) E E' ∧E'.ds=E.ds) _ w1 (h1 s w1 hI g)
    (λe E' w' hf hd hQ=>⟨by cases e<;>exact hQ,headE_fr.trans hf,hd hrf⟩)
   refine ih ro _ _ _ a1 w1 hok hr1 (λe E2 a2 w2 hr2 hQ=>?_) hb
   obtain⟨hQ,hf,hd⟩:=hQ
   cases e with
   |normal=>
    refine⟨⟨_,_,headE_again (E1:=E) hf hr2 hd,hQ.1⟩,?_⟩
    rw[tupOf_congr (hr2.actE.1),tupOf_congr (hr1.actE.1),tupOf_headE]
    exact hQ.2
   |exit id=>exact hq _ _ _ _ hr2 hQ
   |goto id=>exact hq _ _ _ _ hr2 hQ
   |ret=>exact hq _ _ _ _ hr2 hQ
   |panic ch=>exact hq _ _ _ _ hr2 hQ
   |outgrown=>exact hq _ _ _ _ hr2 hQ
  |true=>
   rw[hrf]at h
   obtain⟨I,m,h0,h1⟩:=h.out
   refine wpIn_loop (λa w=>∃s g,Rel n (headE E (dstsOf c) (liveOf (dstsOf c) E.l []) s.1 g s.2) a∧I s w) (λa w=>m (tupOf (actE a) (liveOf (dstsOf c) E.l []),(actE a).ds) w)
    ⟨(_,E.ds),E.g,hr.of_get headE_same rfl,h0⟩ ?_
   rintro a1 w1 ⟨s,g,hr1,hI⟩
   have hb:=vc_mono c ro _ (λe E' w' =>(match e with| .normal=>I (tupOf E' (liveOf (dstsOf c) E.l []),E'.ds) w' ∧m (tupOf E' (liveOf (dstsOf c) E.l []),E'.ds) w' <m s w1|e=>Q e E' w')∧Fr (dstsOf c) E E') _ w1 (h1 s w1 hI g)
    (λe E' w' hf hd hQ=>⟨by cases e<;>exact hQ,headE_fr.trans hf⟩)
   refine ih ro _ _ _ a1 w1 hok hr1 (λe E2 a2 w2 hr2 hQ=>?_) hb
   obtain⟨hQ,hf⟩:=hQ
   cases e with
   |normal=>
    refine⟨⟨(_,E2.ds),_,headE_again (E1:=E) hf hr2 rfl,hQ.1⟩,?_⟩
    rw[tupOf_congr (hr2.actE.1),tupOf_congr (hr1.actE.1),tupOf_headE,hr2.actE.2,hr1.actE.2]
    exact hQ.2
   |exit id=>exact hq _ _ _ _ hr2 hQ
   |goto id=>exact hq _ _ _ _ hr2 hQ
   |ret=>exact hq _ _ _ _ hr2 hQ
   |panic ch=>exact hq _ _ _ _ hr2 hQ
   |outgrown=>exact hq _ _ _ _ hr2 hQ
 |rangeFunc gv ps assign body iha ihb=>
  intro ro Q Q' E a w hok hr hq h
  simp only[okC,Bool.and_eq_true]at hok
  obtain⟨⟨hps,hoka⟩,hokb⟩:=hok
  simp only[vc,RFW_iff,RFD]at h
  split at h
  ·rename_i f first captured hgv
   have hgv' :a.eval gv=.func (.func f) first captured:=by rw[hr.ev];exact hgv
   have main:∀(w1:World) (D:Nat) (mk:List Nat) (fn:FuncId),
     (∀rec:Loop,rec.state=.ready→rec.pending=none→rec.defers=D→
      (∀(args:List Value) (W:World) (K:Kont),args.length=ps.toList.length→RecOf W w1.heap.size rec→
       vc P jn (some w1.heap.size) assign (λe E W=>match e with
        | .normal=>beginK w1.heap.size W λW=>vc P jn (some w1.heap.size) body (λe _ W=>match e with
         | .normal=>∃r,RecAt W w1.heap.size r∧K (.bool true) (W.putObj w1.heap.size (.loop {r with state:=.ready,pending:=none}))
         | .ret=>∃r,RecAt W w1.heap.size r∧K (.bool false) (W.putObj w1.heap.size (.loop {r with state:=.done,pending:=some .ret}))
         | .exit id=>∃r,RecAt W w1.heap.size r∧K (.bool false) (W.putObj w1.heap.size (.loop {r with state:=.done,pending:=some (.exit id)}))
         |_=>False) E W
        |_=>False) {E with l:=putAll ps.toList 0 args E.l,ds:=[]} W→
       Yl P w1.heap.size ⟨args⟩ W K)→
      Ca P f ⟨first.toList++(.func (.yield w1.heap.size) #[] #[]::captured.toList)⟩ (w1.alloc (.loop rec)) λ_ W=>
       ∃r,RecAt W w1.heap.size r∧r.state≠ .busy∧afterK (λW=>Q .normal {E with ds:=mk++E.ds} W) (λW=>Q .ret {E with ds:=mk++E.ds} W)
        (λid W=>Q (.exit id) {E with ds:=mk++E.ds} W) r.pending (W.putObj w1.heap.size (.loop {r with state:=.exhausted})))→
     let rc:Loop:={state:=.ready,pending:=none,fn,tmps:=a.tmps,params:=ps,assign,body,defers:=D}
     let a' :Act:={a with defers:=(mk.map λd=>{target:=.collected d,args:=#[]})++a.defers}
     CallsIn (FR ro) 0 P f ⟨first.toList++(.func (.yield w1.heap.size) #[] #[]::captured.toList)⟩ (w1.alloc (.loop rc)) (rangePost (FR ro) 0 P w1.heap.size Q' a')∧
      ∀w2,(callFunc f ⟨first.toList++(.func (.yield w1.heap.size) #[] #[]::captured.toList)⟩).run P w2=.ok (.enter f ⟨first.toList++(.func (.yield w1.heap.size) #[] #[]::captured.toList)⟩) w2:=by
    intro w1 D mk fn hh rc a'
    have hca:=hh rc rfl rfl rfl (λargs W K hlen hrec hrnd=>by
     obtain⟨st,pend,hat⟩:=hrec
     refine⟨_,_,_,_,run_yield hat (by simpa using hlen),?_⟩
     refine roundIn_of_wpIn (F:=Fence.wide) trivial ?_
     have hrel:Rel n {E with l:=putAll ps.toList 0 args E.l,ds:=[]} {tmps:=(ps.zip ⟨args⟩).foldl (λtmps (t,a)=>tmps.setIfInBounds t a) a.tmps,defers:=[]}:=by
      rw[zip_foldl]
      exact rel_putAll ps.toList 0 args {E with ds:=[]} a.tmps hps (by simpa using hlen) ⟨hr.size,hr.get,rfl⟩
     refine iha (some w1.heap.size) _ _ _ _ W hoka hrel (λe E1 a1 W1 hr1 hQ=>?_) hrnd
     cases e with
     |normal=>
      obtain⟨r,hra,hst,hbody⟩:=hQ.out
      refine⟨_,run_beginRound hra hst,?_⟩
      refine ihb (some w1.heap.size) _ _ E1 a1 _ hokb hr1 (λe E2 a2 W2 hr2 hQ2=>?_) hbody
      cases e with
      |normal=>
       obtain⟨r2,hra2,hK⟩:=hQ2
       exact⟨_,_,run_endRound none hra2,_,rfl,hK⟩
      |ret=>
       obtain⟨r2,hra2,hK⟩:=hQ2
       exact⟨_,_,run_endRound _ hra2,_,rfl,hK⟩
      |exit id=>
       obtain⟨r2,hra2,hK⟩:=hQ2
       exact⟨_,_,run_endRound _ hra2,_,rfl,hK⟩
      |goto id=>exact hQ2.elim
      |panic ch=>exact hQ2.elim
      |outgrown=>exact hQ2.elim
     |exit id=>exact hQ.elim
     |goto id=>exact hQ.elim
     |ret=>exact hQ.elim
     |panic ch=>exact hQ.elim
     |outgrown=>exact hQ.elim)
    refine⟨FR.calls (Calls.mono hca.out ?_),λw2=>run_callFunc_of hP hca⟩
    rintro e W ⟨v,rfl,r,hra,hb,haft⟩
    refine⟨_,_,run_endLoop hra hb,?_⟩
    have hr' :Rel n {E with ds:=mk++E.ds} a' :=⟨hr.size,hr.get,by simp only[a',hr.defs,List.map_append]⟩
    generalize W.putObj w1.heap.size (.loop {r with state:=.exhausted})=W4 at haft⊢
    unfold afterK at haft
    split at haft
    ·rename_i hp;rw[hp];exact hq _ _ _ _ hr' haft
    ·rename_i hp;rw[hp];exact wpIn_ret (hq _ _ _ _ hr' haft)
    ·rename_i hp;rw[hp];exact wpIn_exit (hq _ _ _ _ hr' haft)
    ·exact haft.elim
   refine wpIn_rangeFunc λfn _=>?_
   have hinv:∀l:Nat,(do let d←resolve a.eval (rangeCall gv l) 0;invoke d.target d.args:Sem Next)=callFunc f ⟨first.toList++(.func (.yield l) #[] #[]::captured.toList)⟩:=by
    intro l
    have e1:resolve a.eval (rangeCall gv l) 0=Deferred.ofValue (a.eval gv) #[.func (.yield l) #[] #[]]:=by simp[resolve,Act.eval]
    rw[e1,hgv']
    have e2:(do let d←Deferred.ofValue (.func (.func f) first captured) #[.func (.yield l) #[] #[]];invoke d.target d.args:Sem Next)=callFunc f (first++ #[.func (.yield l) #[] #[]]++captured):=rfl
    rw[e2]
    congr 1
    apply Array.ext';simp
   have hres:∀(l:Nat) (w1:World),(resolve a.eval (rangeCall gv l) 0).run P w1=.ok {target:=.fn (.func f) captured,args:=first++ #[.func (.yield l) #[] #[]]} w1:=by
    intro l w1
    have e1:resolve a.eval (rangeCall gv l) 0=Deferred.ofValue (a.eval gv) #[.func (.yield l) #[] #[]]:=by simp[resolve,Act.eval]
    rw[e1,hgv'];rfl
   have hinv2:∀l:Nat,(invoke (.fn (.func f) captured) (first++ #[.func (.yield l) #[] #[]]):Sem Next)=callFunc f ⟨first.toList++(.func (.yield l) #[] #[]::captured.toList)⟩:=by
    intro l
    have e2:(invoke (.fn (.func f) captured) (first++ #[.func (.yield l) #[] #[]]):Sem Next)=callFunc f (first++ #[.func (.yield l) #[] #[]]++captured):=rfl
    rw[e2]
    congr 1
    apply Array.ext';simp
   cases ro with
   |none=>
    have hm:=main (w.alloc (.deferred (some []))) w.heap.size [w.heap.size] fn h
    obtain⟨W1,hW1⟩:∃W1,W1=(w.alloc (.deferred (some []))).alloc (.loop {state:=.ready,pending:=none,fn,tmps:=a.tmps,params:=ps,assign,body,defers:=w.heap.size}):=⟨_,rfl⟩
    have hm1:=hm.1
    have hm2:=hm.2 W1
    rw[World.size_alloc]at hm1 hm2
    refine⟨w.heap.size+1,[{target:=.collected w.heap.size,args:=#[]}],W1,_,W1,f,⟨first.toList++(.func (.yield (w.heap.size+1)) #[] #[]::captured.toList)⟩,W1,?_,hres _ _,λ_ _=>FR.fn none _,?_,(λhh=>by rw[FR.depth]at hh;cases hh),?_⟩
    ·rw[hW1];exact run_enterLoop_outer fn a.tmps ps assign body
    ·rw[hinv2];exact hm2
    ·rw[hW1];exact hm1
   |some l0=>
    obtain⟨r0,hr0,h⟩:=h
    have hm:=main w r0.defers [] fn h
    obtain⟨W1,hW1⟩:∃W1,W1=w.alloc (.loop {state:=.ready,pending:=none,fn,tmps:=a.tmps,params:=ps,assign,body,defers:=r0.defers}):=⟨_,rfl⟩
    refine⟨w.heap.size,[],W1,_,W1,f,⟨first.toList++(.func (.yield w.heap.size) #[] #[]::captured.toList)⟩,W1,?_,hres _ _,λ_ _=>FR.fn (some l0) _,?_,(λhh=>by rw[FR.depth]at hh;cases hh),?_⟩
    ·rw[FR.round,hW1];exact run_enterLoop_inner hr0 fn a.tmps ps assign body
    ·rw[hinv2];exact hm.2 _
    ·rw[hW1];exact hm.1
  ·exact h.elim
 |exit id=>intro ro Q Q' E a w _ hr hq h;exact wpIn_exit (hq _ _ _ _ hr h)
 |scope c ih=>
  intro ro Q Q' E a w hok hr hq h
  cases ro with
  |some l=>exact h.elim
  |none=>
   show Code.wpIn Fence.wide 0 P _ _ _ _
   refine wpIn_wide.2 (wp_scope_straight ((wpIn_wide (n:=0)).1 ?_))
   refine ih none (λe E w=>match e with| .goto _=>False|e=>Q e E w) (Exit.noGoto Q') E a w hok hr (λe E1 a1 w1 hr1 hQ=>?_) h
   cases e with
   |goto l=>exact hQ.elim
   |exit id=>exact hq _ _ _ _ hr1 hQ
   |normal=>exact hq _ _ _ _ hr1 hQ
   |ret=>exact hq _ _ _ _ hr1 hQ
   |panic ch=>exact hq _ _ _ _ hr1 hQ
   |outgrown=>exact hq _ _ _ _ hr1 hQ
 |label l=>intro ro Q Q' E a w _ hr hq h;exact wpIn_label (hq _ _ _ _ hr h)
 |goto l=>intro ro Q Q' E a w _ hr hq h;exact h.elim
 |ret=>intro ro Q Q' E a w _ hr hq h;exact wpIn_ret (hq _ _ _ _ hr h)
 |refuse why=>intro ro Q Q' E a w _ hr hq h;exact h.elim
def retD:List Nat→World→(World→Prop)→Prop
 | [],w,K=>K w
 |d::ds,w,K=>w.heap[d]? =some (.deferred (some []))∧retD ds (w.putObj d (.deferred none)) K
def resK(P:Program):List ResultVar→Env→World→(List Value→Prop)→Prop
 | [],_,_,K=>K []
 | .tmp t::r,E,w,K=>resK P r E w λvs=>K (E.get t::vs)
 | .cell a t::r,E,w,K=>match bigT P t with
  |true=>rdX P (bigS t (E.get a)) w λv=>resK P r E w λvs=>K (v::vs)
  |false=>rdW P (Instr.loadAt t (E.get a)) w λv=>resK P r E w λvs=>K (v::vs)
def packV:List Value→Value
 | [v]=>v
 |vs=>.tuple ⟨vs⟩
def args0:Nat→List Value→List (Nat×Option Value)
 |_,[]=>[]
 |i,v::r=>(i,some v)::args0 (i+1) r
def vcFnB(P:Program)(jn:Bool)(fn:Func)(args:List Value)(w:World)(K:Kont):Prop:=
 match fn.body with
 |none=>False
 |some c=>vc P jn none c (λe E w=>match e with
   | .normal=>retD E.ds w λw=>resK P fn.results.toList E w λvs=>K (packV vs) w
   | .ret=>retD E.ds w λw=>resK P fn.results.toList E w λvs=>K (packV vs) w
   |_=>False) {l:=args0 0 args,g:=λ_=>undef,ds:=[]} w
def vcFnJ(P:Program)(fn:Func)(args:List Value)(w:World)(K:Kont):Prop:=vcFnB P true fn args w K
def okF(P:Program)(fn:Func)(k:Nat):Bool:=
 Nat.ble k fn.ntmps&& match fn.body with
 |none=>false
 |some c=>okC P fn.ntmps c
theorem look_args0(t:Nat):∀(l:List Value) (i:Nat),Env.look (args0 i l) t=if i≤t then(l[t - i]?).map some else none
 | [],i=>by simp[args0,Env.look]
 |v::r,i=>by
  simp only[args0,Env.look]
  cases hb:Nat.beq i t with
  |true=>have:=Nat.eq_of_beq_eq_true hb;subst this;simp
  |false=>
   have hne:i≠t:=λe=>by subst e;simp at hb
   simp only[cond_false]
   rw[look_args0 t r (i+1)]
   by_cases h:i+1≤t
   ·have h2:i≤t:=by omega
    have h3:t - i=(t - (i+1))+1:=by omega
    simp[h,h2,h3]
   ·have h2:¬i≤t:=by omega
    simp[h,h2]
theorem rel_args0(args:List Value)(n:Nat)(h:args.length≤n):
  Rel n {l:=args0 0 args,g:=λ_=>undef,ds:=[]} {tmps:=(⟨args⟩:Array Value)++Array.replicate (n - args.length) undef,defers:=[]}:=by
 refine⟨by simp;omega,λt=>?_,rfl⟩
 unfold Env.get
 rw[look_args0]
 simp only[Nat.zero_le,if_true,Nat.sub_zero]
 by_cases ht:t<args.length
 ·rw[Array.getD_eq_getD_getElem?,Array.getElem?_append_left (by simpa using ht)]
  simp[List.getElem?_eq_getElem ht]
 ·rw[List.getElem?_eq_none (by omega)]
  rw[Array.getD_eq_getD_getElem?,Array.getElem?_append_right (by simpa using Nat.le_of_not_lt ht)]
  simp only[Option.map_none]
  cases hh:(Array.replicate (n - args.length) undef)[t - (⟨args⟩:Array Value).size]? with
  |none=>rfl
  |some v=>
   have:=(Array.getElem?_eq_some_iff.1 hh).2
   simp at this
   simp[this]
def resSem(tmps:Array Value):ResultVar→Sem Value
 | .tmp t=>pure (tmps.getD t undef)
 | .cell a t=>do loadVar t (←asAddr (tmps.getD a undef))
theorem resK_run{P:Program}{tmps:Array Value}{E:Env}{w:World}(hg:∀t,tmps.getD t undef=E.get t):∀(rs:List ResultVar) (K:List Value→Prop),resK P rs E w K→
  ∃vs,(rs.mapM (resSem tmps)).run P w=.ok vs w∧K vs
 | [],K,h=>⟨[],rfl,h⟩
 | .tmp t::r,K,h=>by
  obtain⟨vs,h1,h2⟩:=resK_run hg r _ h
  refine⟨_,?_,h2⟩
  have hl:(resSem tmps (.tmp t)).run P w=.ok (E.get t) w:=by rw[←hg];rfl
  simp only[List.mapM_cons,Sem.run_bind,Sem.run_pure,Result.andThen,hl,h1]
 | .cell a t::r,K,h=>by
  have h:rdW P (Instr.loadAt t (E.get a)) w λv=>resK P r E w λvs=>K (v::vs):=by
   simp only[resK]at h
   cases hb:bigT P t with
   |true=>rw[hb]at h;exact h.out
   |false=>rw[hb]at h;exact h
  simp only[rdW_iff,rdWD]at h
  split at h
  ·rename_i v w' hr
   obtain⟨rfl,h⟩:=h
   obtain⟨vs,h1,h2⟩:=resK_run hg r _ h
   refine⟨_,?_,h2⟩
   have hl:(resSem tmps (.cell a t)).run P w' =.ok v w' :=by
    have e0:resSem tmps (.cell a t)=(do loadVar t (←asAddr (tmps.getD a undef))):=rfl
    rw[e0,hg]
    unfold Instr.loadAt at hr
    cases hv:E.get a<;>rw[hv]at hr<;>first|(simp[Instr.sureAddr,stuck,Sem.run_bind,Sem.run,Result.andThen]at hr;done)|skip
    rename_i p
    cases p with
    |none=>simp[Instr.sureAddr,stuck,Sem.run_bind,Sem.run,Result.andThen]at hr
    |some p=>
     simp only[Instr.sureAddr,asAddr,Sem.run_bind,Sem.run_pure,Result.andThen]at hr⊢
     exact hr
   simp only[List.mapM_cons,Sem.run_bind,Sem.run_pure,Result.andThen,hl,h1]
  ·exact h.elim
theorem results_eq(fn:Func)(tmps:Array Value):results fn tmps=(do
  let vs←fn.results.mapM (resSem tmps)
  pure (if h:vs.size=1 then vs[0]else .tuple vs)):=by
 unfold results
 congr 1
theorem leaves_of{P:Program}{fn:Func}{tmps:Array Value}{E:Env}{K:Kont}(hg:∀t,tmps.getD t undef=E.get t):∀(ds:List Nat) (w:World),
  retD ds w (λw=>resK P fn.results.toList E w λvs=>K (packV vs) w)→
  LeavesInM Fence.wide 0 P fn tmps (λe w' =>∃v,e=.returned v∧K v w') (ds.map λd=>{target:=.collected d,args:=#[]}) .returning w
 | [],w,h=>by
  obtain⟨vs,h1,h2⟩:=resK_run hg _ _ h
  refine⟨packV vs,?_,_,rfl,h2⟩
  rw[results_eq,Array.mapM_eq_mapM_toList]
  simp only[Sem.run_bind,Sem.run_map,h1,Result.andThen,Sem.run_pure]
  congr 1
  match vs with
  | []=>rfl
  | [v]=>rfl
  |v::u::r=>simp[packV]
 |d::ds,w,h=>by
  refine⟨by simp,.inl ⟨d,_,rfl,run_takeDeferred h.1,leaves_of hg ds _ h.2⟩⟩
theorem ca_of_vcB{P:Program}{jn:Bool}(hP:NoNum P=true){f:FuncId}{fn:Func}{args:List Value}{w:World}{K:Kont}(hf:P.funcs[f]? =some fn)(hok:okF P fn args.length=true)
  (h:vcFnB P jn fn args w K):Ca P f ⟨args⟩ w K:=by
 unfold okF at hok
 unfold vcFnB at h
 simp only[Bool.and_eq_true]at hok
 obtain⟨hlen,hok⟩:=hok
 cases hb:fn.body with
 |none=>rw[hb]at h;exact h.elim
 |some c=>
  rw[hb]at h hok
  refine⟨(callsIn_wide (n:=0)).1 (callsIn_of_wp_marks hf hb trivial ?_ rfl)⟩
  have hrel:=rel_args0 args fn.ntmps (by simpa [Nat.ble_eq]using hlen)
  refine vc_sound (n:=fn.ntmps) hP c none _ _ _ _ w hok hrel (λe E a w' hr hQ=>?_) h
  cases e with
  |normal=>have hh:=leaves_of (K:=K) hr.get _ _ hQ;rw[←hr.defs]at hh;exact hh
  |ret=>have hh:=leaves_of (K:=K) hr.get _ _ hQ;rw[←hr.defs]at hh;exact hh
  |exit id=>exact hQ.elim
  |goto id=>exact hQ.elim
  |panic ch=>exact hQ.elim
  |outgrown=>exact hQ.elim
theorem ca_of_vcJ{P:Program}(hP:NoNum P=true){f:FuncId}{fn:Func}{args:List Value}{w:World}{K:Kont}(hf:P.funcs[f]? =some fn)(hok:okF P fn args.length=true)
  (h:vcFnJ P fn args w K):Ca P f ⟨args⟩ w K:=ca_of_vcB hP hf hok h
end Go.Vc
namespace Go.Vc
open Go
@[simp,go_sem] theorem ifB_bool (b:Bool) (T F:Prop):ifB (.bool b) T F↔if b=true then T else F:=by cases b<;>simp[ifB,isB,bc]
@[simp,go_sem] theorem isB_bool (b:Bool) (K:Bool→Prop):isB (.bool b) K↔K b:=Iff.rfl
@[simp,go_sem] theorem nilK_ptr (a:Addr) (K:Value→Prop):nilK (.pointer (some a)) K↔K (.pointer (some a)):=Iff.rfl
@[simp,go_sem] theorem bc_if (b:Bool) (T F:Prop):bc b T F↔if b=true then T else F:=by cases b<;>simp[bc]
@[simp,go_sem] theorem selV_if (b:Bool) (x y:Value):selV b x y=if b=true then x else y:=by cases b<;>rfl
theorem rv_congr{P:Program}{s s' :Sem Value}{w w' :World}{K:Kont}(h1:s=s')(h2:w=w'):rv P s w K=rv P s' w' K:=by rw[h1,h2]
theorem ru_congr{P:Program}{s s' :Sem Unit}{w w' :World}{K:World→Prop}(h1:s=s')(h2:w=w'):ru P s w K=ru P s' w' K:=by rw[h1,h2]
theorem rn_congr{P:Program}{s s' :Sem Next}{w w' :World}{K:Kont}(h1:s=s')(h2:w=w'):rn P s w K=rn P s' w' K:=by rw[h1,h2]
theorem rdW_congr{P:Program}{s s' :Sem Value}{w w' :World}{K:Value→Prop}(h1:s=s')(h2:w=w'):rdW P s w K=rdW P s' w' K:=by rw[h1,h2]
theorem rdP_congr{P:Program}{s s' :Sem Value}{K:Value→Prop}(h1:s=s'):rdP P s K=rdP P s' K:=by rw[h1]
theorem Ca_congr{P:Program}{f:FuncId}{a a' :Array Value}{w w' :World}{K:Kont}(h1:a=a')(h2:w=w'):Ca P f a w K=Ca P f a' w' K:=by rw[h1,h2]
theorem callV_congr{P:Program}{f f' :Value}{a a' :List Value}{w w' :World}{K:Kont}(h0:f=f')(h1:a=a')(h2:w=w'):callV P f a w K=callV P f' a' w' K:=by rw[h0,h1,h2]
theorem nilK_congr{v v' :Value}{K:Value→Prop}(h:v=v'):nilK v K=nilK v' K:=by rw[h]
theorem isB_congr{v v' :Value}{K:Bool→Prop}(h:v=v'):isB v K=isB v' K:=by rw[h]
theorem ifB_congr{v v' :Value}{T F:Prop}(h:v=v'):ifB v T F=ifB v' T F:=by rw[h]
theorem LoopW_congr{S:Type}{body:S→World→(S→World→Prop)→Prop}{s s' :S}{w w' :World}(h1:s=s')(h2:w=w'):LoopW body s w=LoopW body s' w' :=by rw[h1,h2]
theorem rx_congr{P:Program}{s s' :Sem Value}{w w' :World}{K:Kont}(h1:s=s')(h2:w=w'):rx P s w K=rx P s' w' K:=by rw[h1,h2]
theorem rux_congr{P:Program}{s s' :Sem Unit}{w w' :World}{K:World→Prop}(h1:s=s')(h2:w=w'):rux P s w K=rux P s' w' K:=by rw[h1,h2]
theorem rdX_congr{P:Program}{s s' :Sem Value}{w w' :World}{K:Value→Prop}(h1:s=s')(h2:w=w'):rdX P s w K=rdX P s' w' K:=by rw[h1,h2]
theorem rdPX_congr{P:Program}{s s' :Sem Value}{K:Value→Prop}(h1:s=s'):rdPX P s K=rdPX P s' K:=by rw[h1]
attribute [congr] rx_congr rux_congr rdX_congr rdPX_congr rv_congr ru_congr rn_congr rdW_congr rdP_congr Ca_congr callV_congr nilK_congr isB_congr ifB_congr LoopW_congr
attribute [go_sem] rv_iff rvD ru_iff ruD rn_iff rnD rdW_iff rdWD rdP_iff rdPD bin eqG
@[go_sem] theorem callV_func {P:Program} {f:FuncId} {first captured:Array Value} {args:List Value} {w:World} {K:Kont}:callV P (.func (.func f) first captured) args w K↔Ca P f ⟨first.toList++(args++captured.toList)⟩ w K:=callV_iff
def isMapT(P:Program)(t:TypeId):Bool:=match P.underlying t with|some (.map ..)=>true|_=>false
def isSliceT(P:Program)(t:TypeId):Bool:=match P.underlying t with|some (.slice ..)=>true|_=>false
@[go_sem] theorem isMapT_iff {P:Program} {t:TypeId}:isMapT P t=true↔∃k e,P.underlying t=some (.map k e):=by
 unfold isMapT
 split<;>simp_all
@[go_sem] theorem isSliceT_iff {P:Program} {t:TypeId}:isSliceT P t=true↔∃e,P.underlying t=some (.slice e):=by
 unfold isSliceT
 split<;>simp_all
@[go_sem] theorem vc_eql_map_nil {P:Program} {w:World} (t:TypeId) (m:Option Nat) (h:isMapT P t=true):(binOp .eql t (.map m) (.map none)).run P w=.ok (.bool m.isNone) w:=by
 obtain⟨k,e,h⟩:=isMapT_iff.1 h
 simp only[binOp]
 simp[run_equal_map_nil w t k e m h]
@[go_sem] theorem vc_neq_map_nil {P:Program} {w:World} (t:TypeId) (m:Option Nat) (h:isMapT P t=true):(binOp .neq t (.map m) (.map none)).run P w=.ok (.bool (!m.isNone)) w:=by
 obtain⟨k,e,h⟩:=isMapT_iff.1 h
 simp only[binOp]
 simp[run_equal_map_nil w t k e m h]
@[go_sem] theorem vc_eql_slice_nil {P:Program} {w:World} (t:TypeId) (a:Option Addr) (l c:Nat) (h:isSliceT P t=true):(binOp .eql t (.slice a l c) (.slice none 0 0)).run P w=.ok (.bool a.isNone) w:=by
 obtain⟨e,h⟩:=isSliceT_iff.1 h
 simp only[binOp]
 simp[run_equal_slice_nil w t e a l c h]
@[go_sem] theorem vc_neq_slice_nil {P:Program} {w:World} (t:TypeId) (a:Option Addr) (l c:Nat) (h:isSliceT P t=true):(binOp .neq t (.slice a l c) (.slice none 0 0)).run P w=.ok (.bool (!a.isNone)) w:=by
 obtain⟨e,h⟩:=isSliceT_iff.1 h
 simp only[binOp]
 simp[run_equal_slice_nil w t e a l c h]
@[go_sem] theorem vc_makeMap {P:Program} {w:World} (t:TypeId):(Instr.makeMap t none).run P w=.ok (.map (some w.heap.size)) (w.alloc (.map #[] 0)):=by
 simp[Instr.makeMap]
@[go_sem] theorem vc_makeMap_hint {P:Program} {w:World} (t:TypeId) (k:IntKind) (n:Int) (h:isMapT P t=true):(Instr.makeMap t (some (.int k n))).run P w=.ok (.map (some w.heap.size)) (w.alloc (.map #[] 0)):=by
 obtain⟨k,e,h⟩:=isMapT_iff.1 h
 simp[Instr.makeMap,run_underlying h,asInt,asIntOf,Result.andThen]
def setObj1(o:Option Obj)(i:Nat)(v:Value):Option Obj:=
 match o with
 |some (.cells c t fz)=>some (.cells (c.setIfInBounds i v) t fz)
 |o=>o
@[simp] theorem setObj1_cells (c:Array Value) (t:TypeId) (fz:Nat×Nat) (i:Nat) (v:Value):setObj1 (some (.cells c t fz)) i v=some (.cells (c.setIfInBounds i v) t fz):=rfl
theorem heap_setCell(w:World)(b i:Nat)(v:Value)(b' :Nat):(w.setCell ⟨b,i,none⟩ v).heap[b']? =if b' =b then setObj1 w.heap[b]? i v else w.heap[b']? :=by
 unfold World.setCell
 simp only[Option.isSome_none,Bool.false_eq_true,if_false]
 rw[Array.getElem?_modify]
 by_cases h:b=b'
 ·subst h
  simp only[if_true]
  cases hh:w.heap[b]? with
  |none=>rfl
  |some o=>cases o<;>rfl
 ·rw[if_neg h,if_neg (λe=>h e.symm)]
theorem heap_alloc(w:World)(o:Obj)(b' :Nat):(w.alloc o).heap[b']? =if b' =w.heap.size then some o else w.heap[b']? :=by
 show(w.heap.push o)[b']? =_
 rw[Array.getElem?_push]
theorem heap_putObj(w:World)(b:Nat)(o:Obj)(b' :Nat):(w.putObj b o).heap[b']? =if b' =b then(w.heap[b]?).map (λ_=>o)else w.heap[b']? :=by
 unfold World.putObj
 simp only
 rw[Array.getElem?_setIfInBounds]
 by_cases h:b=b'
 ·subst h
  simp only[if_true]
  by_cases hlt:b<w.heap.size
  ·simp[hlt]
  ·simp[hlt]
 ·rw[if_neg h,if_neg (λe=>h e.symm)]
theorem size_setCell(w:World)(a:Addr)(v:Value):(w.setCell a v).heap.size=w.heap.size:=by simp[World.setCell]
theorem lt_of_heap{w:World}{b:Nat}{o:Obj}(h:w.heap[b]? =some o):b<w.heap.size:=(Array.getElem?_eq_some_iff.1 h).1
def hp(w:World)(b:Nat):Option Obj:=w.heap[b]?
theorem hp_of{w:World}{b:Nat}{o:Option Obj}(h:w.heap[b]? =o):hp w b=o:=h
@[go_sem] theorem cell_hp (w:World) (a:Addr):w.cell? a=match hp w a.block with|some (.cells c _ _)=>if a.spot.isSome then none else c[a.off]? |_=>none:=rfl
@[go_sem] theorem frozen_hp (w:World) (a:Addr):w.frozen? a=match hp w a.block with|some (.cells _ _ (lo,hi))=>lo≤a.off&& a.off<hi|_=>false:=rfl
@[go_sem] theorem hp_setCell (w:World) (b i:Nat) (v:Value) (b' :Nat):hp (w.setCell ⟨b,i,none⟩ v) b' =if b' =b then setObj1 (hp w b) i v else hp w b' :=heap_setCell w b i v b'
@[go_sem] theorem hp_alloc (w:World) (o:Obj) (b' :Nat):hp (w.alloc o) b' =if b' =w.heap.size then some o else hp w b' :=heap_alloc w o b'
@[go_sem] theorem hp_putObj (w:World) (b:Nat) (o:Obj) (b' :Nat):hp (w.putObj b o) b' =if b' =b then(hp w b).map (λ_=>o)else hp w b' :=heap_putObj w b o b'
@[go_sem] theorem hp_drew (w:World) (b:Nat):hp w.drew b=hp w b:=rfl
attribute [go_sem] size_setCell World.size_alloc World.putObj_size
@[go_sem] theorem size_drew (w:World):w.drew.heap.size=w.heap.size:=rfl
theorem olds{d n:Nat}(h:d<n):¬d=n∧(∀k,¬d=n+k)∧¬n=d∧∀k,¬n+k=d:=⟨by omega,λk=>by omega,by omega,λk=>by omega⟩
@[go_sem] theorem add_lit (n a b:Nat):n+a+b=n+(a+b):=Nat.add_assoc n a b
structure Mod(F:Nat→Prop)(w w' :World):Prop where
 size:w.heap.size≤w'.heap.size
 out:w'.output=w.output
 os:w'.os=w.os
 blk:∀b,b<w.heap.size→¬F b→w'.heap[b]? =w.heap[b]?
theorem Mod.refl(F:Nat→Prop)(w:World):Mod F w w:=⟨Nat.le_refl _,rfl,rfl,λ_ _ _=>rfl⟩
theorem Mod.trans{F:Nat→Prop}{w w1 w2:World}(h:Mod F w w1)(h' :Mod F w1 w2):Mod F w w2:=
 ⟨Nat.le_trans h.size h'.size,h'.out.trans h.out,h'.os.trans h.os,λb hb hf=>(h'.blk b (Nat.lt_of_lt_of_le hb h.size) hf).trans (h.blk b hb hf)⟩
theorem Mod.mono{F G:Nat→Prop}{w w' :World}(h:Mod F w w')(hs:∀b,b<w.heap.size→F b→G b):Mod G w w' :=
 ⟨h.size,h.out,h.os,λb hb hg=>h.blk b hb λhf=>hg (hs b hb hf)⟩
theorem Mod.alloc{F:Nat→Prop}{w w' :World}(h:Mod F w w')(o:Obj):Mod F w (w'.alloc o):=
 ⟨by rw[World.size_alloc];exact Nat.le_succ_of_le h.size,h.out,h.os,λb hb hf=>by
  rw[heap_alloc,if_neg (by have:=h.size;omega)];exact h.blk b hb hf⟩
theorem Mod.drew{F:Nat→Prop}{w w' :World}(h:Mod F w w'):Mod F w w'.drew:=⟨h.size,h.out,h.os,h.blk⟩
theorem Mod.setCell{F:Nat→Prop}{w w' :World}(h:Mod F w w'){b:Nat}(hb:F b∨w.heap.size≤b)(i:Nat)(v:Value):Mod F w (w'.setCell ⟨b,i,none⟩ v):=
 ⟨by rw[size_setCell];exact h.size,h.out,h.os,λb' hb' hf=>by
  rw[heap_setCell,if_neg (λe=>by subst e;rcases hb with hb|hb;exact hf hb;omega)];exact h.blk b' hb' hf⟩
theorem Mod.putObj{F:Nat→Prop}{w w' :World}(h:Mod F w w'){b:Nat}(hb:F b∨w.heap.size≤b)(o:Obj):Mod F w (w'.putObj b o):=
 ⟨by rw[World.putObj_size];exact h.size,h.out,h.os,λb' hb' hf=>by
  rw[heap_putObj,if_neg (λe=>by subst e;rcases hb with hb|hb;exact hf hb;omega)];exact h.blk b' hb' hf⟩
theorem Mod.on{F G:Nat→Prop}{w w1 w2:World}(h:Mod F w w1)(h' :Mod G w1 w2)(hG:∀b,G b→F b∨w.heap.size≤b):Mod F w w2:=
 ⟨Nat.le_trans h.size h'.size,h'.out.trans h.out,h'.os.trans h.os,λb hb hf=>(h'.blk b (Nat.lt_of_lt_of_le hb h.size) λhg=>(hG b hg).elim hf (by omega)).trans (h.blk b hb hf)⟩
theorem Mod.keep{F:Nat→Prop}{w w' :World}(h:Mod F w w'){b:Nat}{o:Obj}(ho:w.heap[b]? =some o)(hf:¬F b):w'.heap[b]? =some o:=
 (h.blk b (lt_of_heap ho) hf).trans ho
end Go.Vc
namespace Go.Vc
open Go
theorem rx_of{P:Program}{s:Sem Value}{w:World}{K:Kont}{v:Value}{w' :World}(h:s.run P w=.ok v w')(hK:K v w'):rx P s w K:=
 ⟨⟨by unfold rvD;rw[h];exact hK⟩⟩
theorem rux_of{P:Program}{s:Sem Unit}{w:World}{K:World→Prop}{w' :World}(h:s.run P w=.ok () w')(hK:K w'):rux P s w K:=
 ⟨⟨by unfold ruD;rw[h];exact hK⟩⟩
theorem rdX_of{P:Program}{s:Sem Value}{w:World}{K:Value→Prop}{v:Value}(h:s.run P w=.ok v w)(hK:K v):rdX P s w K:=
 ⟨⟨by unfold rdWD;rw[h];exact⟨rfl,hK⟩⟩⟩
theorem rdPX_of{P:Program}{s:Sem Value}{K:Value→Prop}{v:Value}(h:∀w,s.run P w=.ok v w)(hK:K v):rdPX P s K:=
 ⟨⟨⟨v,h,hK⟩⟩⟩
theorem addr_add(b off i:Nat):(⟨b,off,none⟩:Addr).add i=⟨b,off+i,none⟩:=by
 unfold Addr.add;split<;>simp_all
theorem heap_setRow(w:World)(g:Nat)(cs:Array Value)(b:Nat):(w.setRow g cs).heap[b]? =if b=g then(match w.heap[g]? with|some (.cells _ t fz)=>some (.cells cs t fz)|o=>o)else w.heap[b]? :=by
 by_cases h:b=g
 ·subst h
  rw[if_pos rfl]
  cases hh:w.heap[b]? with
  |none=>
   simp only
   have:w.heap.size≤b:=by simpa using hh
   simp[World.setRow,this]
  |some o=>
   cases o<;>first|exact setRow_heap w b _ cs _ _ hh|(simp only[World.setRow,Array.getElem?_modify,if_true,hh];rfl)
 ·rw[if_neg h];exact setRow_other w g b cs h
@[go_sem] theorem hp_setRow (w:World) (g:Nat) (cs:Array Value) (b:Nat):hp (w.setRow g cs) b=if b=g then(match hp w g with|some (.cells _ t fz)=>some (.cells cs t fz)|o=>o)else hp w b:=heap_setRow w g cs b
attribute [go_sem] setRow_size
theorem Mod.setRow{F:Nat→Prop}{w w' :World}(h:Mod F w w'){b:Nat}(hb:F b∨w.heap.size≤b)(cs:Array Value):Mod F w (w'.setRow b cs):=
 ⟨by rw[setRow_size];exact h.size,h.out,h.os,λb' hb' hf=>by
  rw[setRow_other _ _ _ _ (λe=>by subst e;rcases hb with hb|hb;exact hf hb;omega)];exact h.blk b' hb' hf⟩
def At(w:World)(b off:Nat)(cs:List Value):Prop:=∃c e fz,w.heap[b]? =some (.cells c e fz)∧off+cs.length≤c.size∧(c.toList.drop off).take cs.length=cs
theorem At.cell{w:World}{b off:Nat}{cs:List Value}(h:At w b off cs)(j:Nat)(v:Value)(hv:cs[j]? =some v):w.cell? ⟨b,off+j,none⟩=some v:=by
 obtain⟨c,e,fz,hc,hl,ht⟩:=h
 have hj:j<cs.length:=(List.getElem?_eq_some_iff.1 hv).1
 rw[←ht,List.getElem?_take,if_pos hj,List.getElem?_drop]at hv
 simp only[World.cell?,hc]
 simpa using hv
theorem At.get{w:World}{b off:Nat}{cs:List Value}(h:At w b off cs):∃C e fz,hp w b=some (.cells C e fz)∧∀j v,cs[j]? =some v→C[off+j]? =some v:=by
 obtain⟨c,e,fz,hc,hl,ht⟩:=h
 refine⟨c,e,fz,hc,λj v hv=>?_⟩
 have hj:j<cs.length:=(List.getElem?_eq_some_iff.1 hv).1
 rw[←ht,List.getElem?_take,if_pos hj,List.getElem?_drop]at hv
 simpa using hv
theorem At.loads{P:Program}{w:World}{b off:Nat}{cs:List Value}(h:At w b off cs):(loadCells ⟨b,off,none⟩ cs.length).run P w=.ok cs.toArray w:=
 run_loadCells_list w _ cs λj v hv=>by rw[addr_add];exact h.cell j v hv
theorem At.keep{w w' :World}{b off:Nat}{cs:List Value}(h:At w b off cs)(hb:w'.heap[b]? =w.heap[b]?):At w' b off cs:=by
 obtain⟨c,e,fz,hc,hr⟩:=h
 exact⟨c,e,fz,by rw[hb];exact hc,hr⟩
theorem At.mod{F:Nat→Prop}{w w' :World}{b off:Nat}{cs:List Value}(h:At w b off cs)(hm:Mod F w w')(hf:¬F b):At w' b off cs:=by
 obtain⟨c,e,fz,hc,hr⟩:=h
 exact⟨c,e,fz,hm.keep hc hf,hr⟩
theorem At.lt{w:World}{b off:Nat}{cs:List Value}(h:At w b off cs):b<w.heap.size:=by
 obtain⟨c,e,fz,hc,_⟩:=h
 exact lt_of_heap hc
theorem At.sub{w:World}{b off:Nat}{cs:List Value}(h:At w b off cs)(i k:Nat)(hk:i+k≤cs.length):At w b (off+i) ((cs.drop i).take k):=by
 obtain⟨c,e,fz,hc,hl,ht⟩:=h
 have e1:((cs.drop i).take k).length=k:=by simp;omega
 refine⟨c,e,fz,hc,by rw[e1];omega,?_⟩
 rw[e1]
 conv=>rhs;rw[←ht]
 rw[List.drop_take,List.take_take,List.drop_drop,Nat.min_eq_left (by omega)]
def isAggT(P:Program)(t:TypeId):Bool:=
 match P.underlying t with
 |some (.struct _)|some (.array ..)=>true
 |_=>false
theorem run_isAgg{P:Program}{t:TypeId}(h:isAggT P t=true)(w:World):(isAgg t).run P w=.ok true w:=by
 unfold isAggT at h
 unfold isAgg
 split at h
 ·rename_i hu;simp[Sem.run_bind,run_underlying hu,Result.andThen]
 ·rename_i hu;simp[Sem.run_bind,run_underlying hu,Result.andThen]
 ·cases h
theorem info_of_cells{P:Program}{t:TypeId}{n:Nat}(h:P.cellsOf t=n+1):∃i,P.info? t=some i∧i.size=n+1:=by
 unfold Program.cellsOf at h
 cases hi:P.info? t with
 |none=>simp[hi]at h
 |some i=>exact⟨i,rfl,by simpa [hi]using h⟩
theorem run_sizeOf{P:Program}{t:TypeId}{n:Nat}(h:P.cellsOf t=n+1)(w:World):(sizeOf t).run P w=.ok (n+1) w:=by
 obtain⟨i,hi,hs⟩:=info_of_cells h
 simp[sizeOf,typeInfo,hi,hs]
theorem run_bigS{P:Program}{t:TypeId}{w:World}{b off:Nat}{cs:List Value}{n:Nat}(h0:isAggT P t=true)(hn:P.cellsOf t=n+1)(hl:cs.length=n+1)(h:At w b off cs):
  (bigS t (.pointer (some ⟨b,off,none⟩))).run P w=.ok (.agg cs.toArray) w:=by
 have:=h.loads (P:=P)
 rw[hl]at this
 simp[bigS,Instr.loadAt,Instr.sureAddr,loadVar,Sem.run_bind,run_isAgg h0,run_sizeOf hn,Result.andThen,this]
theorem rx_bigS{P:Program}{t:TypeId}{w:World}{K:Kont}{b off:Nat}(cs:List Value)(n:Nat)(h0:isAggT P t=true)(hn:P.cellsOf t=n+1)(hl:cs.length=n+1)(h:At w b off cs)(hK:K (.agg cs.toArray) w):
  rx P (bigS t (.pointer (some ⟨b,off,none⟩))) w K:=rx_of (run_bigS h0 hn hl h) hK
theorem rdX_bigS{P:Program}{t:TypeId}{w:World}{K:Value→Prop}{b off:Nat}(cs:List Value)(n:Nat)(h0:isAggT P t=true)(hn:P.cellsOf t=n+1)(hl:cs.length=n+1)(h:At w b off cs)(hK:K (.agg cs.toArray)):
  rdX P (bigS t (.pointer (some ⟨b,off,none⟩))) w K:=rdX_of (run_bigS h0 hn hl h) hK
def lay(c:List Value)(off:Nat)(cs:List Value):List Value:=c.take off++cs++c.drop (off+cs.length)
theorem lay_length{c:List Value}{off:Nat}{cs:List Value}(h:off+cs.length≤c.length):(lay c off cs).length=c.length:=by
 simp[lay];omega
theorem lay_all{c cs:List Value}(h:cs.length=c.length):lay c 0 cs=cs:=by simp[lay,h]
theorem oneAll_mem{cs:List Value}(h:cs.all (·.oneCell')=true):∀v∈cs,v.oneCell' =true:=λv hv=>List.all_eq_true.1 h v hv
theorem run_bigU{P:Program}{t:TypeId}{w:World}{b off:Nat}{cs:List Value}{n:Nat}{c:Array Value}{e:TypeId}(hn:P.cellsOf t=n+1)(hl:cs.length=n+1)
  (h:w.heap[b]? =some (.cells c e (0,0)))(hf:off+cs.length≤c.size)(h1:cs.all (·.oneCell')=true):
  (bigU t (.pointer (some ⟨b,off,none⟩)) (.agg cs.toArray)).run P w=.ok () (w.setRow b (lay c.toList off cs).toArray):=by
 have:=run_storeCells_at P b off e cs 0 c w h (by simpa using hf) (oneAll_mem h1)
 simp only[Nat.add_zero]at this
 simp[bigU,Instr.storeAt,Instr.sureAddr,storeVar,Sem.run_bind,run_sizeOf hn,Value.cells,hl,Result.andThen,this,lay]
theorem rux_bigU{P:Program}{t:TypeId}{w:World}{K:World→Prop}{b off:Nat}{cs:List Value}{n:Nat}{c:Array Value}{e:TypeId}(hn:P.cellsOf t=n+1)(hl:cs.length=n+1)
  (h:w.heap[b]? =some (.cells c e (0,0)))(hf:off+cs.length≤c.size)(h1:cs.all (·.oneCell')=true)(hK:K (w.setRow b (lay c.toList off cs).toArray)):
  rux P (bigU t (.pointer (some ⟨b,off,none⟩)) (.agg cs.toArray)) w K:=rux_of (run_bigU hn hl h hf h1) hK
def zeroC(P:Program)(t:TypeId):List Value:=
 match (P.info? t).bind (·.zero)with
 |some z=>z.cells.toList
 |none=>[]
def hasZero(P:Program)(t:TypeId):Bool:=((P.info? t).bind (·.zero)).isSome
theorem run_bigA{P:Program}{t:TypeId}{w:World}(hz:hasZero P t=true):
  (bigA t).run P w=.ok (.pointer (some ⟨w.heap.size,0,none⟩)) (w.alloc (.cells (zeroC P t).toArray t)):=by
 unfold hasZero at hz
 cases hi:P.info? t with
 |none=>simp[hi]at hz
 |some i=>
  cases hzz:i.zero with
  |none=>simp[hi,hzz]at hz
  |some z=>simp[bigA,Instr.alloc,zeroValue,typeInfo,hi,hzz,newVar,newRow,zeroC]
theorem rx_bigA{P:Program}{t:TypeId}{w:World}{K:Kont}(hz:hasZero P t=true)(hK:K (.pointer (some ⟨w.heap.size,0,none⟩)) (w.alloc (.cells (zeroC P t).toArray t))):
  rx P (bigA t) w K:=rx_of (run_bigA hz) hK
theorem rx_bigB{P:Program}{t:TypeId}{parts:Array (Nat×Value)}{w:World}{K:Kont}{cells:Array Value}(h:P.built t parts.toList=some cells)(hK:K (.agg cells) w):
  rx P (bigB t parts) w K:=rx_of (by unfold bigB;exact run_build w t parts cells h) hK
theorem rdPX_bigB{P:Program}{t:TypeId}{parts:Array (Nat×Value)}{K:Value→Prop}{cells:Array Value}(h:P.built t parts.toList=some cells)(hK:K (.agg cells)):
  rdPX P (bigB t parts) K:=rdPX_of (λw=>by unfold bigB;exact run_build w t parts cells h) hK
theorem lay_cons{c:List Value}{off:Nat}{v:Value}{vs:List Value}(h:off+(vs.length+1)≤c.length):lay (c.set off v) (off+1) vs=lay c off (v::vs):=by
 simp only[lay,List.length_cons]
 have e1:(c.set off v).take (off+1)=c.take off++[v]:=by
  rw[List.take_succ_eq_append_getElem (by simp;omega),List.take_set_of_le (Nat.le_refl _)]
  simp
 have e2:(c.set off v).drop (off+1+vs.length)=c.drop (off+(vs.length+1)):=by
  rw[List.drop_set_of_lt (by omega),show off+1+vs.length=off+(vs.length+1) by omega]
 rw[e1,e2]
 simp
theorem over_list(off:Nat):∀(vs:List Value) (k:Nat) (c:Array Value),off+k+vs.length≤c.size→
  ((vs.zipIdx k).foldl (λcs p=>cs.setIfInBounds (off+p.2) p.1) c).toList=lay c.toList (off+k) vs
 | [],k,c,_=>by simp[lay]
 |v::vs,k,c,h=>by
  simp only[List.zipIdx_cons,List.foldl_cons]
  simp only[List.length_cons]at h
  rw[over_list off vs (k+1) _ (by simp;omega),Array.toList_setIfInBounds,show off+(k+1)=off+k+1 by omega,lay_cons (by simp;omega)]
theorem fill_part{place:Nat→Option (Nat×Nat)}{cells:List Value}{i off size:Nat}{v:Value}{rest:List (Nat×Value)}(hp:place i=some (off,size))(hv:v.cells.size=size)(h:off+size≤cells.length):
  Instr.fill place cells.toArray ((i,v)::rest)=Instr.fill place (lay cells off v.cells.toList).toArray rest:=by
 have hb:¬(v.cells.size≠size∨off+v.cells.size>cells.toArray.size):=by simp only[List.size_toArray];omega
 simp only[Instr.fill,hp]
 rw[if_neg (by simpa using hb)]
 congr 1
 apply Array.ext'
 have:=over_list off v.cells.toList 0 cells.toArray (by simp;omega)
 simp only[Nat.add_zero]at this
 rw[←this,←Array.toList_zipIdx,Array.foldl_toList]
theorem fill_nil{place:Nat→Option (Nat×Nat)}{cells:Array Value}:Instr.fill place cells []=some cells:=rfl
def Rd(w:World)(sz:Nat)(v:Value)(n:Nat)(cs:List Value):Prop:=
 cs.length=n*sz∧((n=0∧∃a c,v=.slice a 0 c)∨∃b off cap,v=.slice (some ⟨b,off,none⟩) n cap∧n≤cap∧At w b off cs)
def inRd(v:Value)(b:Nat):Prop:=∃a n c,v=.slice (some a) n c∧n≠0∧a.block=b
def slBlk:Value→Option Nat
 | .slice (some a) _ _=>some a.block
 |_=>none
def Own(w:World)(e:TypeId)(sz:Nat)(v:Value)(n:Nat)(cs:List Value):Prop:=
 cs.length=n*sz∧((v=.slice none 0 0∧n=0)∨∃b cap rest,v=.slice (some ⟨b,0,none⟩) n cap∧n≤cap∧w.heap[b]? =some (.cells (cs++rest).toArray e (0,0))∧rest.length=(cap - n)*sz∧(rest.all (·.oneCell')=true))
def inSl(v:Value)(b:Nat):Prop:=slBlk v=some b
theorem Own.keep{w w' :World}{e:TypeId}{sz:Nat}{v:Value}{n:Nat}{cs:List Value}(h:Own w e sz v n cs)(hb:∀b,inSl v b→w'.heap[b]? =w.heap[b]?):Own w' e sz v n cs:=by
 obtain⟨hl,h|⟨b,cap,rest,rfl,hc,hh,hr⟩⟩:=h
 ·exact⟨hl,.inl h⟩
 ·exact⟨hl,.inr ⟨b,cap,rest,rfl,hc,by rw[hb b rfl];exact hh,hr⟩⟩
theorem Own.lt{w:World}{e:TypeId}{sz:Nat}{v:Value}{n:Nat}{cs:List Value}(h:Own w e sz v n cs){b:Nat}(hb:inSl v b):b<w.heap.size:=by
 obtain⟨hl,⟨rfl,_⟩|⟨b',cap,rest,rfl,hc,hh,hr⟩⟩:=h
 ·cases hb
 ·cases hb;exact lt_of_heap hh
theorem Own.nil(w:World)(e:TypeId)(sz:Nat):Own w e sz (.slice none 0 0) 0 []:=⟨by simp,.inl ⟨rfl,rfl⟩⟩
theorem Own.mod{F:Nat→Prop}{w w' :World}{e:TypeId}{sz:Nat}{v:Value}{n:Nat}{cs:List Value}(h:Own w e sz v n cs)(hm:Mod F w w')(hf:∀b,inSl v b→¬F b):Own w' e sz v n cs:=
 h.keep λb hb=>hm.blk b (h.lt hb) (hf b hb)
theorem inRd.sl{v:Value}{b:Nat}(h:inRd v b):inSl v b:=by
 obtain⟨a,n,c,rfl,-,rfl⟩:=h
 rfl
theorem Own.rd{w:World}{e:TypeId}{sz:Nat}{v:Value}{n:Nat}{cs:List Value}(h:Own w e sz v n cs):Rd w sz v n cs:=by
 obtain⟨hl,⟨rfl,rfl⟩|⟨b,cap,rest,rfl,hc,hh,hr⟩⟩:=h
 ·exact⟨hl,.inl ⟨rfl,_,_,rfl⟩⟩
 ·exact⟨hl,.inr ⟨b,0,cap,rfl,hc,⟨_,_,_,hh,by simp,by simp⟩⟩⟩
theorem Rd.keep{w w' :World}{sz:Nat}{v:Value}{n:Nat}{cs:List Value}(h:Rd w sz v n cs)(hb:∀b,inRd v b→w'.heap[b]? =w.heap[b]?):Rd w' sz v n cs:=by
 obtain⟨hl,h|⟨b,off,cap,rfl,hc,hh⟩⟩:=h
 ·exact⟨hl,.inl h⟩
 ·by_cases h0:n=0
  ·subst h0
   exact⟨hl,.inl ⟨rfl,_,_,rfl⟩⟩
  ·exact⟨hl,.inr ⟨b,off,cap,rfl,hc,hh.keep (hb b ⟨_,_,_,rfl,h0,rfl⟩)⟩⟩
theorem Rd.lt{w:World}{sz:Nat}{v:Value}{n:Nat}{cs:List Value}(h:Rd w sz v n cs){b:Nat}(hb:inRd v b):b<w.heap.size:=by
 obtain⟨a,m,c,rfl,hm,rfl⟩:=hb
 obtain⟨hl,⟨rfl,a',c',he⟩|⟨b,off,cap,he,hc,hh⟩⟩:=h
 ·injection he with e1 e2;omega
 ·injection he with e1 e2 e3
  injection e1 with e1
  subst e1
  exact hh.lt
theorem Rd.mod{F:Nat→Prop}{w w' :World}{sz:Nat}{v:Value}{n:Nat}{cs:List Value}(h:Rd w sz v n cs)(hm:Mod F w w')(hf:∀b,inRd v b→¬F b):Rd w' sz v n cs:=
 h.keep λb hb=>hm.blk b (h.lt hb) (hf b hb)
theorem Rd.first{P:Program}{w:World}{sz:Nat}{v:Value}{n:Nat}{cs:List Value}(h:Rd w sz v n cs)(hz:0<sz):
  (Builtin.firstCells sz n v).run P w=.ok cs.toArray w:=by
 obtain⟨hl,⟨rfl,a,c,rfl⟩|⟨b,off,cap,rfl,hc,hh⟩⟩:=h
 ·have:cs=[]:=by simpa using hl
  subst this
  cases a<;>simp[Builtin.firstCells,loadCells,loadCellsFrom]
 ·have:=hh.loads (P:=P)
  rw[hl]at this
  simpa [Builtin.firstCells]using this
theorem Rd.isSl{w:World}{sz:Nat}{v:Value}{n:Nat}{cs:List Value}(h:Rd w sz v n cs):∃a c,v=.slice a n c:=by
 obtain⟨_,⟨rfl,a,c,rfl⟩|⟨b,off,cap,rfl,_⟩⟩:=h
 ·exact⟨_,_,rfl⟩
 ·exact⟨_,_,rfl⟩
theorem Rd.lenOf{P:Program}{w:World}{sz:Nat}{v:Value}{n:Nat}{cs:List Value}(h:Rd w sz v n cs)(w1:World):(Builtin.lenOf v).run P w1=.ok n w1:=by
 obtain⟨hl,⟨rfl,a,c,rfl⟩|⟨b,off,cap,rfl,hc,hh⟩⟩:=h<;>rfl
end Go.Vc
