/- Part of a proof. -/
import Derived.Test.YtgebhcgmckjbbaaGreatS1
set_option linter.all false
namespace Go.Vc
open Go
theorem put_ne{E:Env}{d:Option Nat}{v:Value}{t:Nat}(h:d≠some t):(E.put d v).get t=E.get t:=by
 cases d with
 |none=>rfl
 |some d=>rw[Env.get_put,if_neg (λe=>h (by rw[e]))]
theorem skip_ne{E:Env}{d:Option Nat}{t:Nat}(h:d≠some t):(E.skip d).get t=E.get t:=by
 cases d with
 |none=>rfl
 |some d=>rw[Env.get_skip,if_neg (λe=>h (by rw[e]))]
theorem put_ds(E:Env)(d:Option Nat)(v:Value):(E.put d v).ds=E.ds:=by cases d<;>rfl
theorem skip_ds(E:Env)(d:Option Nat):(E.skip d).ds=E.ds:=by cases d<;>rfl
theorem put_get_self{E:Env}{d:Nat}{v:Value}:(E.put (some d) v).get d=v:=by rw[Env.get_put,if_pos rfl]
theorem skip_get_self{E:Env}{d:Nat}:(E.skip (some d)).get d=undef:=by rw[Env.get_skip,if_pos rfl]
section
variable{P:Program}{ops:List Oper}{n:Nat}{L A done:List Nat}{pend:Pend}{E:Env}{a:Act}{w:World}
theorem Inv.same(h:Inv P ops n L A done pend E a w){E' :Env}(hs:E.Same E')(hok:regOk P ops=true):Inv P ops n L A done pend E' a w:=
 {h with
  defs:=by rw[hs.2];exact h.defs
  frame:=λt ht=>(h.frame t ht).trans (hs.1 t).symm
  val:=λi hi=>(h.val i hi).env hok (λ_ _ t _=>hs.1 t) (λ_ hx=>hx)}
theorem Inv.look(h:Inv P ops n L A done pend E a w)(hok:regOk P ops=true){j:Nat}{oj:Oper}(hj:ops[j]? =some oj)(hL:j ∉ L)(hd:∀d∈depsOf ops j,d∈L):
  ∀t∈oj.looksAt ops.toArray,a.tmps.getD t undef=E.get t:=by
 intro t ht
 refine h.frame t λi hi oi hoi hdst=>?_
 obtain⟨o',ho',hc,_⟩:=h.val i hi
 rw[hoi]at ho';cases ho'
 by_cases hij:i=j
 ·subst hij
  rw[hj]at hoi;cases hoi
  exact regOk_self hok hj hc hdst ht
 ·have:=((regOk_pair hok hoi hj hc hij).1 t hdst).2 ht
  exact h.apart i hi (anc_sub h.closed hd i this)
theorem Inv.ahead(h:Inv P ops n L A done pend E a w)(hok:regOk P ops=true){i:Nat}{o:Oper}(hi:ops[i]? =some o)(hc:cls P o<3)(hr:i∈rdy ops done){E' :Env}{pend' :Pend}
  (hE:(∀t,o.dst≠some t→E'.get t=E.get t)∧E'.ds=E.ds)(hp:∀x∈pend,x∈pend')
  (hv:(wantedE ops E o=true∧∃v,(∀d,o.dst=some d→E'.get d=v)∧(execOp (ev E) o).run P w=.ok (.value v) w∧
    ((∀w',(execOp (ev E) o).run P w' =.ok (.value v) w')∨∃s,(i,s,v)∈pend' ∧∀w',s.run P w' =.ok v w' →(execOp (ev E) o).run P w' =.ok (.value v) w'))∨
   (wantedE ops E o=false∧∀d,o.dst=some d→E'.get d=undef)):
  Inv P ops n L (i::A) (i::done) pend' E' a w:=by
 obtain⟨hlt,hnd,hdeps⟩:=mem_rdy.1 hr
 have hnA:i ∉ A:=λhA=>hnd ((h.doneIff i).2 (.inr hA))
 have hnL:i ∉ L:=λhL=>hnd ((h.doneIff i).2 (.inl hL))
 refine⟨λk=>?_,λk hk=>?_,List.nodup_cons.2 ⟨hnA,h.nodup⟩,⟨λd hd=>(h.doneIff d).1 (hdeps d hd),h.ord⟩,h.closed,h.size,by rw[hE.2];exact h.defs,λt ht=>?_,λk hk=>?_⟩
 ·simp only[List.mem_cons,h.doneIff]
  constructor
  ·rintro(h1|h1|h1)
   ·exact .inr (.inl h1)
   ·exact .inl h1
   ·exact .inr (.inr h1)
  ·rintro(h1|h1|h1)
   ·exact .inr (.inl h1)
   ·exact .inl h1
   ·exact .inr (.inr h1)
 ·rcases List.mem_cons.1 hk with rfl|hk
  ·exact hnL
  ·exact h.apart k hk
 ·rw[h.frame t (λk hk=>ht k (List.mem_cons_of_mem _ hk))]
  exact(hE.1 t (ht i List.mem_cons_self o hi)).symm
 ·have hself:∀t∈o.looksAt ops.toArray,E'.get t=E.get t:=λt ht=>hE.1 t λhd=>regOk_self hok hi hc hd ht
  rcases List.mem_cons.1 hk with rfl|hk
  ·have he:=exec_env (P:=P) (regOk_noDefer hok hi) hself
   refine⟨o,hi,hc,?_⟩
   rw[he.1,he.2]
   exact hv
  ·refine(h.val k hk).env hok (λok hok' t ht=>hE.1 t λhd=>?_) hp
   have hki:k≠i:=λe=>hnA (e▸hk)
   obtain⟨ok',hok2,hck,_⟩:=h.val k hk
   rw[hok']at hok2;cases hok2
   rcases ht with ht|ht
   ·have:=((regOk_pair hok hi hok' hc (Ne.symm hki)).1 t hd).2 ht
    have hkdeps:∀d∈depsOf ops k,d∈done:=λd hd' =>h.closedDone k ((h.doneIff k).2 (.inr hk)) d hd'
    exact hnd (anc_sub h.closedDone hkdeps i this)
   ·exact((regOk_pair hok hi hok' hc (Ne.symm hki)).1 t hd).1 ht
theorem adv(hok:regOk P ops=true){K:Env→World→Prop}{j:Nat}(hj:j∈rdy ops L):∀(fuel:Nat) (A done:List Nat) (pend:Pend) (E:Env),
  Inv P ops n L A done pend E a w→vcD P ops fuel done pend E w K→
  ∃(fuel' :Nat) (A' done' :List Nat) (pend' :Pend) (E' :Env),Inv P ops n L A' done' pend' E' a w∧vcD P ops fuel' done' pend' E' w K∧
   (j∈A' ∨(j ∉ done' ∧(rdy ops done').find? (isRd P ops)=none)):=by
 intro fuel
 induction fuel with
 |zero=>intro A done pend E _ h;exact h.elim
 |succ fuel ih=>
  intro A done pend E hI h
  by_cases hA:j∈A
  ·exact⟨fuel+1,A,done,pend,E,hI,h,.inl hA⟩
  ·cases hf:(rdy ops done).find? (isRd P ops)with
   |none=>
    refine⟨fuel+1,A,done,pend,E,hI,h,.inr ⟨λhd=>?_,hf⟩⟩
    rcases(hI.doneIff j).1 hd with h1|h1
    ·exact(mem_rdy.1 hj).2.1 h1
    ·exact hA h1
   |some i=>
    have hir:i∈rdy ops done:=List.mem_of_find?_eq_some hf
    have hp:=List.find?_some hf
    simp only[vcD,hf]at h
    unfold isRd at hp
    cases hi:ops[i]? with
    |none=>rw[hi]at h;exact h.elim
    |some o=>
     rw[hi]at h hp
     simp only at hp
     have hc:cls P o<3:=by simpa [Nat.blt_eq]using hp
     simp only at h
     rcases grd_cases h with⟨hw,E1,hs,hy⟩|⟨hw,E1,hs,hno⟩
     ·have hI1:=hI.same hs hok
      have hw1:wantedE ops E1 o=true:=by rw[hs.wanted];exact hw
      have hEp:∀v,(∀t,o.dst≠some t→(E1.put o.dst v).get t=E1.get t)∧(E1.put o.dst v).ds=E1.ds:=λv=>⟨λt ht=>put_ne ht,put_ds _ _ _⟩
      have hself:∀v d,o.dst=some d→(E1.put o.dst v).get d=v:=λv d hd=>by rw[hd];exact put_get_self
      cases hcl:cls P o with
      |zero=>
       simp only[hcl]at hy
       obtain⟨v,hr,hk⟩:=quickK_sound (P:=P) hy
       exact ih _ _ _ _ (hI1.ahead hok hi hc hir (hEp v) (λ_ hx=>hx) (.inl ⟨hw1,v,hself v,hr w,.inl hr⟩)) hk
      |succ c=>
       cases c with
       |zero=>
        simp only[hcl]at hy
        cases hps:pureSem P (ev E1) o.op with
        |none=>rw[hps]at hy;exact hy.elim
        |some s=>
         rw[hps]at hy
         have hy' :rdP P s λv=>vcD P ops fuel (i::done) pend (E1.put o.dst v) w K:=by
          simp only at hy
          split at hy
          ·exact hy.out
          ·exact hy
         obtain⟨v,hr,hk⟩:=hy'.out
         have hx:=pureSem_exec hps
         have hr' :∀w',(execOp (ev E1) o).run P w' =.ok (.value v) w' :=λw' =>by rw[hx];exact run_value P s w' v w' (hr w')
         exact ih _ _ _ _ (hI1.ahead hok hi hc hir (hEp v) (λ_ hx=>hx) (.inl ⟨hw1,v,hself v,hr' w,.inl hr'⟩)) hk
       |succ c=>
        simp only[hcl]at hy
        cases hps:readSem P (ev E1) o with
        |none=>rw[hps]at hy;exact hy.elim
        |some s=>
         rw[hps]at hy
         have hy' :rdW P s w λv=>vcD P ops fuel (i::done) ((i,s,v)::pend) (E1.put o.dst v) w K:=by
          simp only at hy
          split at hy
          ·exact hy.out
          ·exact hy
         clear hy
         have hy:=hy'
         simp only[rdW_iff,rdWD]at hy
         cases hr:s.run P w with
         |halt x w' =>rw[hr]at hy;exact hy.elim
         |ok v w' =>
          rw[hr]at hy
          obtain⟨rfl,hk⟩:=hy
          have hx:=readSem_exec hps
          have hr' :∀w1,s.run P w1=.ok v w1→(execOp (ev E1) o).run P w1=.ok (.value v) w1:=λw1 h1=>by rw[hx];exact run_value P s w1 v w1 h1
          exact ih _ _ _ _ (hI1.ahead hok hi hc hir (hEp v) (λ_ hx=>List.mem_cons_of_mem _ hx)
           (.inl ⟨hw1,v,hself v,hr' _ hr,.inr ⟨s,List.mem_cons_self,hr'⟩⟩)) hk
     ·have hI1:=hI.same hs hok
      have hw1:wantedE ops E1 o=false:=by rw[hs.wanted];exact hw
      exact ih _ _ _ _ (hI1.ahead hok hi hc hir ⟨λt ht=>skip_ne ht,skip_ds _ _⟩ (λ_ hx=>hx)
       (.inr ⟨hw1,λd hd=>by rw[hd];exact skip_get_self⟩)) hno
theorem allL_mem{F:Nat→Prop}:∀{l:List Nat},allL F l→∀j∈l,F j
 | [],_,j,hj=>by cases hj
 | [k],h,j,hj=>by rcases List.mem_singleton.1 hj with rfl;exact h
 |k::m::l,h,j,hj=>by
  rcases List.mem_cons.1 hj with rfl|hj
  ·exact h.1
  ·exact allL_mem h.2 j hj
theorem reval_out{P:Program}{w:World}{R:Prop}:∀{p:Pend},reval P w p R→R∧∀i s v,(i,s,v)∈p→s.run P w=.ok v w
 | [],h=>⟨h,λ_ _ _ hm=>by cases hm⟩
 |(i,s,v)::r,h=>by
  obtain⟨h1,h2⟩:=reval_out h.2
  refine⟨h1,λi' s' v' hm=>?_⟩
  rcases List.mem_cons.1 hm with e|hm
  ·cases e;exact h.1
  ·exact h2 i' s' v' hm
theorem Inv.took(h:Inv P ops n L A done pend E a w)(hok:regOk P ops=true){j:Nat}{o:Oper}(hj:ops[j]? =some o)(hA:j∈A)(hdeps:∀d∈depsOf ops j,d∈L){v:Value}
  (hv:∀d,o.dst=some d→E.get d=v)(hdst:dstOk n o.dst=true):Inv P ops n (j::L) (A.erase j) done pend E (a.put o.dst v) w:=by
 have hput:Rel n (({l:=[],g:=λt=>a.tmps.getD t undef,ds:=E.ds}:Env).put o.dst v) (a.put o.dst v):=Rel.put (E:=({l:=[],g:=λt=>a.tmps.getD t undef,ds:=E.ds}:Env)) ⟨h.size,λ_=>rfl,h.defs⟩ hdst v
 refine⟨λk=>?_,λk hk hL=>?_,h.nodup.erase j,h.ord.erase,h.closed.cons hdeps,hput.size,by have:=hput.defs;rwa[put_ds]at this,λt ht=>?_,λk hk=>h.val k (List.mem_of_mem_erase hk)⟩
 ·rw[h.doneIff]
  by_cases hkj:k=j
  ·subst hkj;simp[hA]
  ·simp[hkj,List.mem_erase_of_ne hkj]
 ·have hkA:=List.mem_of_mem_erase hk
  rcases List.mem_cons.1 hL with rfl|hL
  ·exact(h.nodup.not_mem_erase) hk
  ·exact h.apart k hkA hL
 ·rw[hput.get]
  by_cases htj:o.dst=some t
  ·rw[htj,put_get_self,hv t htj]
  ·rw[put_ne htj]
   refine h.frame t λk hk ok hok' =>?_
   by_cases hkj:k=j
   ·subst hkj;rw[hj]at hok';cases hok';exact htj
   ·exact ht k ((List.mem_erase_of_ne hkj).2 hk) ok hok'
theorem Inv.acted(h:Inv P ops n L A done pend E a w)(hok:regOk P ops=true){j:Nat}{o:Oper}(hj:ops[j]? =some o)(hnd:j ∉ done)(hdeps:∀d∈depsOf ops j,d∈L){v:Value}{E' :Env}{w' :World}
  (hE:(∀t,o.dst≠some t→E'.get t=E.get t)∧E'.ds=E.ds∧(∀d,o.dst=some d→E'.get d=v))(hdst:dstOk n o.dst=true)
  (hp:∀i s u,(i,s,u)∈(pend.filter λp=> !(anc ops j).contains p.1)→w' =w∨s.run P w' =.ok u w'):
  Inv P ops n (j::L) A (j::done) (pend.filter λp=> !(anc ops j).contains p.1) E' (a.put o.dst v) w' :=by
 have hnA:j ∉ A:=λhA=>hnd ((h.doneIff j).2 (.inr hA))
 have hput:Rel n (({l:=[],g:=λt=>a.tmps.getD t undef,ds:=E.ds}:Env).put o.dst v) (a.put o.dst v):=Rel.put (E:=({l:=[],g:=λt=>a.tmps.getD t undef,ds:=E.ds}:Env)) ⟨h.size,λ_=>rfl,h.defs⟩ hdst v
 have hapart:∀i∈A,i ∉ anc ops j:=λi hi hm=>h.apart i hi (anc_sub h.closed hdeps i hm)
 refine⟨λk=>?_,λk hk hL=>?_,h.nodup,h.ord.mono (λx hx=>List.mem_cons_of_mem _ hx),h.closed.cons hdeps,hput.size,by have:=hput.defs;rw[put_ds]at this;rw[hE.2.1];exact this,λt ht=>?_,λk hk=>?_⟩
 ·simp only[List.mem_cons,h.doneIff,or_assoc]
 ·rcases List.mem_cons.1 hL with rfl|hL
  ·exact hnA hk
  ·exact h.apart k hk hL
 ·rw[hput.get]
  by_cases htj:o.dst=some t
  ·rw[htj,put_get_self,hE.2.2 t htj]
  ·rw[put_ne htj,hE.1 t htj]
   exact h.frame t ht
 ·have h1:Val P ops E' w pend k:=by
   refine(h.val k hk).env hok (λok hok' t ht=>hE.1 t λhd=>?_) (λ_ hx=>hx)
   obtain⟨ok',hok2,hck,_⟩:=h.val k hk
   rw[hok']at hok2;cases hok2
   have hkj:k≠j:=λe=>hnA (e▸hk)
   rcases ht with ht|ht
   ·rcases(regOk_pair hok hok' hj hck hkj).2 t hd ht with hm|hm
    ·have hkdeps:∀d∈depsOf ops k,d∈done:=λd hd' =>h.closedDone k ((h.doneIff k).2 (.inr hk)) d hd'
     exact hnd (anc_sub h.closedDone hkdeps j hm)
    ·exact hapart k hk hm
   ·exact((regOk_pair hok hok' hj hck hkj).1 t ht).1 hd
  refine h1.world λs v hm=>?_
  have hm' :(k,s,v)∈pend.filter λp=> !(anc ops j).contains p.1:=List.mem_filter.2 ⟨hm,by simpa using hapart k hk⟩
  exact⟨hm',hp k s v hm'⟩
end
theorem mem_ready{ops:List Oper}{L:List Nat}{listed:Array Bool}(hL:∀i,i<ops.length→(listed.getD i true=true↔i∈L))(hsz:listed.size=ops.length)(hlt:∀i∈L,i<ops.length){i:Nat}:
  i∈Region.ready .any ops.toArray listed↔i∈rdy ops L:=by
 rw[mem_rdy]
 unfold Region.ready
 simp only[List.mem_filter,List.mem_range,List.size_toArray,Bool.and_eq_true]
 constructor
 ·rintro⟨h1,h2,h3⟩
  refine⟨h1,λhm=>?_,λd hd=>?_⟩
  ·rw[(hL i h1).2 hm]at h2;simp at h2
  ·have hi:ops[i]? =some ops[i]:=List.getElem?_eq_getElem h1
   simp only[List.getElem?_toArray,hi,Option.map_some,Option.getD_some]at h3
   simp only[depsOf,hi,edgesOn,List.mem_map,List.mem_filter]at hd
   obtain⟨e,⟨he,hb⟩,rfl⟩:=hd
   have h4:=(Array.all_eq_true'.1 h3) e (by simpa using he)
   simp only[hb,Bool.not_true,Bool.false_or]at h4
   by_cases hd' :e.on<ops.length
   ·refine(hL _ hd').1 ?_
    rw[Array.getD_eq_getD_getElem?]at h4⊢
    rw[Array.getElem?_eq_getElem (by omega)]at h4⊢
    simpa using h4
   ·rw[Array.getD_eq_getD_getElem?,Array.getElem?_eq_none (by omega)]at h4
    simp at h4
 ·rintro⟨h1,h2,h3⟩
  refine⟨h1,?_,?_⟩
  ·cases hh:listed.getD i true with
   |false=>rfl
   |true=>exact absurd ((hL i h1).1 hh) h2
  ·have hi:ops[i]? =some ops[i]:=List.getElem?_eq_getElem h1
   simp only[List.getElem?_toArray,hi,Option.map_some,Option.getD_some]
   refine Array.all_eq_true'.2 λe he=>?_
   cases hb:Region.binds .any e with
   |false=>rfl
   |true=>
    have hd:e.on∈L:=h3 e.on (by simp only[depsOf,hi,edgesOn,List.mem_map,List.mem_filter];exact⟨e,⟨by simpa using he,hb⟩,rfl⟩)
    have:=(hL _ (hlt _ hd)).2 hd
    rw[Array.getD_eq_getD_getElem?]at this⊢
    rw[Array.getElem?_eq_getElem (by have:=hlt _ hd;omega)]at this⊢
    simpa using this
theorem vcD_sound{P:Program}(hP:NoNum P=true){ro:Option Nat}{n:Nat}{ops:List Oper}(hok:regOk P ops=true)(hdst:(ops.all λo=>dstOk n o.dst)=true)
  {Q:Exit→Act→World→Prop}{K:Env→World→Prop}(hK:∀E a w,Rel n E a→K E w→Q .normal a w):
  ∀(m:Nat) (L A done:List Nat) (pend:Pend) (E:Env) (a:Act) (w:World) (fuel:Nat) (listed:Array Bool),
   Inv P ops n L A done pend E a w→(∀i,i<ops.length→(listed.getD i true=true↔i∈L))→listed.size=ops.length→(∀i∈L,i<ops.length)→
   ((List.range ops.length).filter λi=> !L.contains i).length≤m→vcD P ops fuel done pend E w K→
   wpAnyIn (FR ro) 0 P .any ops.toArray Q m listed a w:=by
 have finish:∀(L A done:List Nat) (pend:Pend) (E:Env) (a:Act) (w:World) (fuel:Nat),Inv P ops n L A done pend E a w→rdy ops L=[]→vcD P ops fuel done pend E w K→Q .normal a w:=by
  intro L A done pend E a w fuel hI hr h
  have hA:A=[]:=by
   apply Classical.byContradiction
   intro hne
   obtain⟨i,hi,hd⟩:=hI.ord.first hne
   obtain⟨o,ho,_⟩:=hI.val i hi
   have:i∈rdy ops L:=mem_rdy.2 ⟨(List.getElem?_eq_some_iff.1 ho).1,hI.apart i hi,hd⟩
   rw[hr]at this;cases this
  subst hA
  have hrd:rdy ops done=[]:=by
   apply List.eq_nil_iff_forall_not_mem.2
   intro i hi
   obtain⟨h1,h2,h3⟩:=mem_rdy.1 hi
   have e:∀k,k∈done↔k∈L:=λk=>by rw[hI.doneIff];simp
   have:i∈rdy ops L:=mem_rdy.2 ⟨h1,λhm=>h2 ((e i).2 hm),λd hd=>(e d).1 (h3 d hd)⟩
   rw[hr]at this;cases this
  cases fuel with
  |zero=>exact h.elim
  |succ fuel=>
   simp only[vcD,hrd,List.find?_nil]at h
   exact hK E a w ⟨hI.size,λt=>hI.frame t (λi hi=>by cases hi),hI.defs⟩ h
 intro m
 induction m with
 |zero=>
  intro L A done pend E a w fuel listed hI hL hsz hlt hm h
  have hr:rdy ops L=[]:=by
   apply List.eq_nil_iff_forall_not_mem.2
   intro i hi
   obtain⟨h1,h2,_⟩:=mem_rdy.1 hi
   have:i∈(List.range ops.length).filter λi=> !L.contains i:=List.mem_filter.2 ⟨List.mem_range.2 h1,by simpa using h2⟩
   have:=List.length_pos_of_mem this
   omega
  refine⟨?_,finish L A done pend E a w fuel hI hr h⟩
  apply List.eq_nil_iff_forall_not_mem.2
  intro i hi
  rw[mem_ready hL hsz hlt,hr]at hi;cases hi
 |succ m ih=>
  intro L A done pend E a w fuel listed hI hL hsz hlt hm h
  refine⟨λhr=>finish L A done pend E a w fuel hI ?_ h,λj hj=>?_⟩
  ·apply List.eq_nil_iff_forall_not_mem.2
   intro i hi
   rw[←mem_ready hL hsz hlt,hr]at hi;cases hi
  ·have hjr:j∈rdy ops L:=(mem_ready hL hsz hlt).1 hj
   obtain⟨hjlt,hjL,hjd⟩:=mem_rdy.1 hjr
   have hjo:ops[j]? =some ops[j]:=List.getElem?_eq_getElem hjlt
   have hdj:dstOk n (ops[j]).dst=true:=List.all_eq_true.1 hdst _ (List.getElem_mem hjlt)
   have hL' :∀i,i<ops.length→((listed.setIfInBounds j true).getD i true=true↔i∈j::L):=by
    intro i hi
    by_cases hij:j=i
    ·subst hij;simp[hsz,hi]
    ·have:(listed.setIfInBounds j true).getD i true=listed.getD i true:=by
      simp[hij]
     rw[this,hL i hi]
     simp[Ne.symm hij]
   have hsz' :(listed.setIfInBounds j true).size=ops.length:=by simpa using hsz
   have hlt' :∀i∈j::L,i<ops.length:=λi hi=>by
    rcases List.mem_cons.1 hi with rfl|hi
    ·exact hjlt
    ·exact hlt i hi
   have hm' :((List.range ops.length).filter λi=> !(j::L).contains i).length≤m:=by
    have e:((List.range ops.length).filter λi=> !(j::L).contains i)=(((List.range ops.length).filter λi=> !L.contains i).filter λi=> !(i==j)):=by
     rw[List.filter_filter]
     apply List.filter_congr
     intro x _
     simp only[List.contains_cons,Bool.not_or]
    have hmem:j∈(List.range ops.length).filter λi=> !L.contains i:=List.mem_filter.2 ⟨List.mem_range.2 hjlt,by simpa using hjL⟩
    have h5:(((List.range ops.length).filter λi=> !L.contains i).filter λi=> !(i==j)).length<((List.range ops.length).filter λi=> !L.contains i).length:=
     List.length_filter_lt_length_iff_exists.2 ⟨j,hmem,by simp⟩
    rw[e]
    omega
   obtain⟨fuel',A',done',pend',E',hI',h',hcase⟩:=adv hok hjr fuel A done pend E hI h
   have hlook:=hI'.look hok hjo hjL hjd
   have hex:=execOp_agree (a:=a) (E:=E') (regOk_noDefer hok hjo) hlook
   have hwa:=yielded_eq (a:=a) (E:=E') (o:=ops[j]) hlook
   unfold wpOpIn
   simp only[List.getElem?_toArray,hjo]
   rw[hwa]
   rcases hcase with hA|⟨hnd,hnone⟩
   ·obtain⟨o,ho,hc,hv⟩:=hI'.val j hA
    rw[hjo]at ho;cases ho
    rcases hv with⟨hw,v,hd,hr,_⟩|⟨hw,hd⟩
    ·rw[if_pos hw]
     refine⟨λf _=>FR.fn ro f,?_⟩
     rw[FR.round,Oper.semAt_eq ro a.eval _ (λc hc' =>by have:=regOk_noDefer hok hjo;rw[hc']at this;cases this),hex,hr]
     exact ih _ _ _ _ _ _ _ fuel' _ (hI'.took hok hjo hA hjd hd hdj) hL' hsz' hlt' hm' h'
    ·rw[if_neg (by rw[hw];simp)]
     exact⟨λf _=>FR.fn ro f,ih _ _ _ _ _ _ _ fuel' _ (hI'.took hok hjo hA hjd hd hdj) hL' hsz' hlt' hm' h'⟩
   ·cases fuel' with
    |zero=>exact h'.elim
    |succ fuel' =>
     have hjr' :j∈rdy ops done' :=mem_rdy.2 ⟨hjlt,hnd,λd hd=>(hI'.doneIff d).2 (.inl (hjd d hd))⟩
     simp only[vcD,hnone]at h'
     have h2:∀rs,rdy ops done' =rs→(match rs with| []=>K E' w|rs=>allL (λj=>match ops[j]? with
       |none=>False
       |some o=>grd ops o E' (λE=>wOp P (ev E) o w λv w' =>reval P w' (pend'.filter λp=> !(anc ops j).contains p.1) (vcD P ops fuel' (j::done') (pend'.filter λp=> !(anc ops j).contains p.1) (E.put o.dst v) w' K))
        (λE=>vcD P ops fuel' (j::done') (pend'.filter λp=> !(anc ops j).contains p.1) (E.skip o.dst) w K)) rs)→
       grd ops ops[j] E' (λE=>wOp P (ev E) ops[j] w λv w' =>reval P w' (pend'.filter λp=> !(anc ops j).contains p.1) (vcD P ops fuel' (j::done') (pend'.filter λp=> !(anc ops j).contains p.1) (E.put (ops[j]).dst v) w' K))
        (λE=>vcD P ops fuel' (j::done') (pend'.filter λp=> !(anc ops j).contains p.1) (E.skip (ops[j]).dst) w K):=by
      intro rs hrs hh
      cases rs with
      |nil=>rw[hrs]at hjr';cases hjr'
      |cons k rs=>
       have:=allL_mem hh j (hrs▸hjr')
       rw[hjo]at this
       exact this
     have h3:=h2 _ rfl h'
     rcases grd_cases h3 with⟨hw,E1,hs,hy⟩|⟨hw,E1,hs,hno⟩
     ·rw[if_pos hw]
      have hI1:=hI'.same hs hok
      refine wpIn_of_rn (ρ:=ev E1) (regOk_noDefer hok hjo) (by rw[hex,hs.ev]) (wOp_sound hP (ev_func E1) hy) λv w' hv=>?_
      obtain⟨hv1,hv2⟩:=reval_out hv
      exact ih _ _ _ _ _ _ _ fuel' _ (hI1.acted hok hjo hnd hjd ⟨λt ht=>put_ne ht,put_ds _ _ _,λd hd=>by rw[hd];exact put_get_self⟩ hdj (λi s u hm=>.inr (hv2 i s u hm))) hL' hsz' hlt' hm' hv1
     ·rw[if_neg (by rw[hw];simp)]
      have hI1:=hI'.same hs hok
      refine⟨λf _=>FR.fn ro f,?_⟩
      have hI2:=hI1.acted (v:=undef) (w' :=w) (E' :=E1.skip (ops[j]).dst) hok hjo hnd hjd ⟨λt ht=>skip_ne ht,skip_ds _ _,λd hd=>by rw[hd];exact skip_get_self⟩ hdj (λi s u hm=>.inl rfl)
      exact ih _ _ _ _ _ _ _ fuel' _ hI2 hL' hsz' hlt' hm' hno
end Go.Vc
namespace Go.Vc
open Go
def dstsOf:Code→List Nat
 | .region _ ops _=>ops.toList.filterMap (·.dst)
 | .seq a b=>dstsOf a++dstsOf b
 | .cond _ a b=>dstsOf a++dstsOf b
 | .block _ c=>dstsOf c
 | .loop c=>dstsOf c
 | .scope c=>dstsOf c
 |_=>[]
def hasRF:Code→Bool
 | .seq a b=>hasRF a||hasRF b
 | .cond _ a b=>hasRF a||hasRF b
 | .block _ c=>hasRF c
 | .loop c=>hasRF c
 | .scope c=>hasRF c
 | .rangeFunc .. =>true
 |_=>false
def liveOf(ds:List Nat):List (Nat×Option Value)→List Nat→List Nat
 | [],acc=>acc
 |(k,_)::r,acc=>
  match ds.contains k&& !acc.contains k with
  |true=>liveOf ds r (k::acc)
  |false=>liveOf ds r acc
def Tup:List Nat→Type
 | []=>Unit
 |_::l=>Value×Tup l
def tupOf(E:Env):(l:List Nat)→Tup l
 | []=>()
 |t::l=>(E.get t,tupOf E l)
def putTup:(l:List Nat)→Tup l→List (Nat×Option Value)→List (Nat×Option Value)
 | [],_,r=>r
 |t::l,s,r=>(t,some s.1)::putTup l s.2 r
def force{α:Type}{β:Sort _}:List α→(List α→β)→β
 | [],k=>k []
 |x::xs,k=>force xs λl=>k (x::l)
theorem force_eq{α:Type}{β:Sort _}:∀(l:List α) (k:List α→β),force l k=k l
 | [],_=>rfl
 |x::xs,k=>by rw[force,force_eq xs]
def tmpOf:Operand→Option Nat
 | .tmp t=>some t
 |_=>none
def usesOf:Code→List Nat
 | .region _ ops _=>ops.toList.flatMap λo=>o.op.operands.toList.filterMap tmpOf
 | .seq a b=>usesOf a++usesOf b
 | .cond c a b=>(tmpOf c).toList++usesOf a++usesOf b
 | .block _ c=>usesOf c
 | .loop c=>usesOf c
 | .scope c=>usesOf c
 | .rangeFunc gv _ a b=>(tmpOf gv).toList++usesOf a++usesOf b
 |_=>[]
def addU(ds:List Nat):List Nat→List Nat→List Nat
 | [],acc=>acc
 |k::r,acc=>
  match ds.contains k&& !acc.contains k with
  |true=>addU ds r (k::acc)
  |false=>addU ds r acc
def liveJ(ds:List Nat)(l:List (Nat×Option Value))(us:List Nat):List Nat:=addU ds us (liveOf ds l [])
def cap2:Nat→Nat
 |0=>0
 |1=>1
 |_=>2
def szC:Code→Nat
 | .region _ ops _=>ops.toList.length
 | .seq a b=>szC a+szC b
 | .cond _ _ _=>9
 | .block _ c=>szC c
 | .loop _=>9
 | .rangeFunc _ _ _ _=>9
 |_=>0
def effK:Op→Bool
 | .alloc _=>true
 | .box _ _=>true
 | .buildSlice _ _ _=>true
 | .makeSlice _ _ _=>true
 | .makeMap _ _=>true
 | .call _=>true
 | .store _ _ _=>true
 | .mapUpdate _ _ _ _=>true
 | .insert _ _ _ _=>true
 | .mapEntry _ _ _=>true
 | .entryStore _ _ _ _=>true
 |_=>false
def openOrd(ops:List Oper):Bool:=
 let es:=(List.range ops.length).filter λi=>match ops[i]? with|some o=>effK o.op|none=>false
 es.any λj=>force (anc ops j) λaj=>es.any λi=>Nat.blt i j&& !aj.contains i&& !(anc ops i).contains j
def exC:Code→Option Nat→Nat
 | .region _ ops draw,i=>match i with
  |none=>match (ops.toList.any λo=>o.guard.isSome)||(draw&& openOrd ops.toList)with|true=>2|false=>1
  |some _=>0
 | .seq a b,i=>
  let na:=match Nat.ble 2 (exC a none)&& !hasRF a&& Nat.ble 3 (szC b)with|true=>1|false=>exC a none
  match i with
  |none=>cap2 (na*exC b none)
  |some i=>cap2 (exC a (some i)+na*exC b (some i))
 | .cond _ a b,i=>cap2 (exC a i+exC b i)
 | .block id c,i=>match i with
  |none=>cap2 (exC c none+exC c (some id))
  |some i=>exC c (some i)
 | .loop c,i=>match i with
  |none=>0
  |some i=>exC c (some i)
 | .exit id,i=>match i with
  |none=>0
  |some i=>match Nat.beq i id with|true=>1|false=>0
 | .ret,_=>0
 | .refuse _,_=>0
 | .goto _,_=>0
 |_,i=>match i with
  |none=>1
  |some _=>0
def joins(a b:Code):Bool:=Nat.ble 2 (exC a none)&& !hasRF a&& Nat.ble 3 (szC b)
structure JoinW{S:Type}(A:(S→World→Prop)→Prop)(B:S→World→Prop):Prop where
 out:∃J:S→World→Prop,(∀s w,J s w→B s w)∧A J
theorem JoinW.at{S:Type}{A:(S→World→Prop)→Prop}{B:S→World→Prop}(J:S→World→Prop)(h:A J)(h' :∀s w,J s w→B s w):JoinW A B:=⟨⟨J,h',h⟩⟩
def headE(E:Env)(ds live:List Nat)(s:Tup live)(g:Nat→Value)(marks:List Nat):Env:=
 {l:=putTup live s E.l,g:=λt=>match ds.contains t with|true=>g t|false=>E.g t,ds:=marks}
structure LoopW{S:Type}(body:S→World→(S→World→Prop)→Prop)(s:S)(w:World):Prop where
 out:∃(I:S→World→Prop) (m:S→World→Nat),I s w∧∀s w,I s w→body s w λs' w' =>I s' w' ∧m s' w' <m s w
def enterR(ro:Option Nat)(w:World)(K:Nat→List Nat→World→Prop):Prop:=
 match ro with
 |none=>K w.heap.size [w.heap.size] (w.alloc (.deferred (some [])))
 |some l0=>∃r,w.heap[l0]? =some (.loop r)∧K r.defers [] w
def RecAt(W:World)(l:Nat)(r:Loop):Prop:=W.heap[l]? =some (.loop r)
def RecOf(W:World)(l:Nat)(rec:Loop):Prop:=∃st pend,RecAt W l {rec with state:=st,pending:=pend}
def RFD(P:Program)(ro:Option Nat)(gv:Value)(w:World)(np:Nat)
  (rnd:Nat→List Value→World→(World→Prop)→(Code→World→Prop)→Prop)(after:List Nat→Option Code→World→Prop):Prop:=
 match gv with
 | .func (.func f) first captured=>
  enterR ro w λD mk w1=>∀rec:Loop,rec.state=.ready→rec.pending=none→rec.defers=D→
   (∀(args:List Value) (W:World) (K:Kont),args.length=np→RecOf W w1.heap.size rec→
    rnd w1.heap.size args W
     (λW' =>∃r,RecAt W' w1.heap.size r∧K (.bool true) (W'.putObj w1.heap.size (.loop {r with state:=.ready,pending:=none})))
     (λc W' =>∃r,RecAt W' w1.heap.size r∧K (.bool false) (W'.putObj w1.heap.size (.loop {r with state:=.done,pending:=some c})))→
    Yl P w1.heap.size ⟨args⟩ W K)→
   Ca P f ⟨first.toList++(.func (.yield w1.heap.size) #[] #[]::captured.toList)⟩ (w1.alloc (.loop rec)) λ_ W=>
    ∃r,RecAt W w1.heap.size r∧r.state≠ .busy∧after mk r.pending (W.putObj w1.heap.size (.loop {r with state:=.exhausted}))
 |_=>False
structure RFW(P:Program)(ro:Option Nat)(gv:Value)(w:World)(np:Nat)
  (rnd:Nat→List Value→World→(World→Prop)→(Code→World→Prop)→Prop)(after:List Nat→Option Code→World→Prop):Prop where
 out:RFD P ro gv w np rnd after
theorem RFW_iff{P:Program}{ro:Option Nat}{gv:Value}{w:World}{np:Nat}
  {rnd:Nat→List Value→World→(World→Prop)→(Code→World→Prop)→Prop}{after:List Nat→Option Code→World→Prop}:RFW P ro gv w np rnd after↔RFD P ro gv w np rnd after:=⟨RFW.out,RFW.mk⟩
def beginD(l:Nat)(W:World)(K:World→Prop):Prop:=∃r,RecAt W l r∧r.state=.ready∧K (W.putObj l (.loop {r with state:=.busy}))
structure beginK(l:Nat)(W:World)(K:World→Prop):Prop where
 out:beginD l W K
def putAll:List Nat→Nat→List Value→List (Nat×Option Value)→List (Nat×Option Value)
 |t::ts,i,vs,r=>putAll ts (i+1) vs ((t,some (vs.getD i undef))::r)
 | [],_,_,r=>r
def afterK(N R:World→Prop)(X:Nat→World→Prop)(pend:Option Code)(W:World):Prop:=
 match pend with
 |none=>N W
 |some .ret=>R W
 |some (.exit id)=>X id W
 |_=>False
def vc(P:Program)(jn:Bool)(ro:Option Nat):Code→(Exit→Env→World→Prop)→Env→World→Prop
 | .skip,Q,E,w=>Q .normal E w
 | .region _ ops draw,Q,E,w=>
  match draw with
  |false=>vcList P ops.toList ops.toList E w (Q .normal)
  |true=>vcD P ops.toList (ops.toList.length+1) [] [] E w.drew (Q .normal)
 | .seq a b,Q,E,w=>
  match jn&& joins a b with
  |false=>vc P jn ro a (λe E w=>match e with| .normal=>vc P jn ro b Q E w|e=>Q e E w) E w
  |true=>
   force E.l λel=>force (liveJ (dstsOf a) el (usesOf b)) λlive=>
   JoinW (S:=Tup live) (λJ=>vc P jn ro a (λe E' w' =>match e with| .normal=>J (tupOf E' live) w' |e=>Q e E' w') {E with l:=el} w)
    (λs w' =>∀g,vc P jn ro b Q (headE {E with l:=el} (dstsOf a) live s g E.ds) w')
 | .cond c t f,Q,E,w=>isB (ev E c) λb=>bc b (vc P jn ro t Q E w) (vc P jn ro f Q E w)
 | .block id c,Q,E,w=>vc P jn ro c (λe E w=>match e with| .exit i=>bc (Nat.beq i id) (Q .normal E w) (Q (.exit i) E w)|e=>Q e E w) E w
 | .loop c,Q,E,w=>
  force E.l λel=>force (liveOf (dstsOf c) el []) λlive=>
  match hasRF c with
  |false=>LoopW (S:=Tup live) (λs w K=>∀g,vc P jn ro c (λe E' w' =>match e with| .normal=>K (tupOf E' live) w' |e=>Q e E' w')
    (headE {E with l:=el} (dstsOf c) live s g E.ds) w) (tupOf {E with l:=el} live) w
  |true=>LoopW (S:=Tup live×List Nat) (λs w K=>∀g,vc P jn ro c (λe E' w' =>match e with| .normal=>K (tupOf E' live,E'.ds) w' |e=>Q e E' w')
    (headE {E with l:=el} (dstsOf c) live s.1 g s.2) w) (tupOf {E with l:=el} live,E.ds) w
 | .rangeFunc gv ps assign body,Q,E,w=>
  RFW P ro (ev E gv) w ps.toList.length
   (λl args W KN KJ=>vc P jn (some l) assign (λe E W=>match e with
     | .normal=>beginK l W λW=>vc P jn (some l) body (λe _ W=>match e with
      | .normal=>KN W
      | .ret=>KJ .ret W
      | .exit id=>KJ (.exit id) W
      |_=>False) E W
     |_=>False) {E with l:=putAll ps.toList 0 args E.l,ds:=[]} W)
   (λmk pend W=>afterK (λW=>Q .normal {E with ds:=mk++E.ds} W) (λW=>Q .ret {E with ds:=mk++E.ds} W)
    (λid W=>Q (.exit id) {E with ds:=mk++E.ds} W) pend W)
 | .exit id,Q,E,w=>Q (.exit id) E w
 | .ret,Q,E,w=>Q .ret E w
 | .label _,Q,E,w=>Q .normal E w
 | .scope c,Q,E,w=>match ro with
  |none=>vc P jn none c (λe E w=>match e with| .goto _=>False|e=>Q e E w) E w
  |some _=>False
 | .goto _,_,_,_=>False
 | .refuse _,_,_,_=>False
def okC(P:Program)(n:Nat):Code→Bool
 | .region _ ops draw=>(ops.toList.all λo=>dstOk n o.dst)&& (!draw||(P.follows .mixedOrders&& regOk P ops.toList))
 | .seq a b=>okC P n a&& okC P n b
 | .cond _ a b=>okC P n a&& okC P n b
 | .block _ c=>okC P n c
 | .loop c=>okC P n c
 | .scope c=>okC P n c
 | .rangeFunc _ ps a b=>(ps.toList.all λd=>Nat.blt d n)&& okC P n a&& okC P n b
 |_=>true
end Go.Vc
namespace Go.Vc
open Go
theorem rv_mono{P:Program}{s:Sem Value}{w:World}{K K' :Kont}(h:rv P s w K)(hk:∀v w',K v w' →K' v w'):rv P s w K' :=by
 rw[rv_iff]at*
 unfold rvD at*
 split at h
 ·exact hk _ _ h
 ·exact h.elim
theorem ru_mono{P:Program}{s:Sem Unit}{w:World}{K K' :World→Prop}(h:ru P s w K)(hk:∀w',K w' →K' w'):ru P s w K' :=by
 rw[ru_iff]at*
 unfold ruD at*
 split at h
 ·exact hk _ h
 ·exact h.elim
theorem rn_mono{P:Program}{s:Sem Next}{w:World}{K K' :Kont}(h:rn P s w K)(hk:∀v w',K v w' →K' v w'):rn P s w K' :=by
 rw[rn_iff]at*
 unfold rnD at*
 split at h
 ·exact hk _ _ h
 ·exact hk _ _ h
 ·exact Ca.mono h hk
 ·exact h.mono λ_ _ ⟨v,he,hv⟩=>⟨v,he,hk _ _ hv⟩
 ·exact h.elim
theorem isB_mono{v:Value}{K K' :Bool→Prop}(h:isB v K)(hk:∀b,K b→K' b):isB v K' :=by
 unfold isB at*
 split at h
 ·exact hk _ h
 ·exact h.elim
theorem nilK_mono{v:Value}{K K' :Value→Prop}(h:nilK v K)(hk:∀b,K b→K' b):nilK v K' :=by
 unfold nilK at*
 split at h
 ·exact hk _ h
 ·exact h.elim
theorem callV_mono{P:Program}{fv:Value}{args:List Value}{w:World}{K K' :Kont}(h:callV P fv args w K)(hk:∀v w',K v w' →K' v w'):callV P fv args w K' :=by
 rw[callV_iff]at*
 unfold callD at*
 split at h
 ·exact Ca.mono h hk
 ·exact Yl.mono h hk
 ·exact h.elim
theorem rdW_mono{P:Program}{s:Sem Value}{w:World}{K K' :Value→Prop}(h:rdW P s w K)(hk:∀v,K v→K' v):rdW P s w K' :=by
 rw[rdW_iff]at*
 unfold rdWD at*
 split at h
 ·exact⟨h.1,hk _ h.2⟩
 ·exact h.elim
theorem rx_mono{P:Program}{s:Sem Value}{w:World}{K K' :Kont}(h:rx P s w K)(hk:∀v w',K v w' →K' v w'):rx P s w K' :=⟨rv_mono h.out hk⟩
theorem rux_mono{P:Program}{s:Sem Unit}{w:World}{K K' :World→Prop}(h:rux P s w K)(hk:∀w',K w' →K' w'):rux P s w K' :=⟨ru_mono h.out hk⟩
theorem rdX_mono{P:Program}{s:Sem Value}{w:World}{K K' :Value→Prop}(h:rdX P s w K)(hk:∀v,K v→K' v):rdX P s w K' :=⟨rdW_mono h.out hk⟩
theorem rdP_mono{P:Program}{s:Sem Value}{K K' :Value→Prop}(h:rdP P s K)(hk:∀v,K v→K' v):rdP P s K' :=
 let⟨v,h1,h2⟩:=h.out
 ⟨⟨v,h1,hk _ h2⟩⟩
theorem rdPX_mono{P:Program}{s:Sem Value}{K K' :Value→Prop}(h:rdPX P s K)(hk:∀v,K v→K' v):rdPX P s K' :=⟨rdP_mono h.out hk⟩
theorem quickK_mono{ρ:Operand→Value}{op:Op}{K K' :Value→Prop}(h:quickK ρ op K)(hk:∀v,K v→K' v):quickK ρ op K' :=by
 unfold quickK at*
 cases op<;>simp only at h⊢ <;>first|exact hk _ h|exact isB_mono h (λ_=>hk _)|exact nilK_mono h hk|exact h.elim
theorem wOp_mono{P:Program}{ρ:Operand→Value}{o:Oper}{w:World}{K K' :Kont}(h:wOp P ρ o w K)(hk:∀v w',K v w' →K' v w'):wOp P ρ o w K' :=by
 unfold wOp at*
 cases hop:o.op<;>rw[hop]at h<;>simp only at h⊢ <;>
  first
   |exact rv_mono h hk
   |exact rx_mono h hk
   |exact ru_mono h (λ_=>hk _ _)
   |exact rux_mono h (λ_=>hk _ _)
   |exact hk _ _ h
   |exact isB_mono h (λ_=>hk _ _)
   |exact nilK_mono h (λ_=>hk _ _)
   |exact rn_mono h hk
   |exact h.elim
   |(split at h<;>first|exact rv_mono h hk|exact rx_mono h hk|exact ru_mono h (λ_=>hk _ _)|exact rux_mono h (λ_=>hk _ _))
   |skip
 rename_i c
 cases hc:c.callee with
 |value f=>
  rw[hc]at h
  cases f<;>simp only at h⊢ <;>first|exact callV_mono h hk|(split at h<;>first|exact⟨rn_mono h.out hk⟩|exact Ca.mono h hk)
 |builtin b=>rw[hc]at h;cases b<;>first|exact rx_mono h hk|exact rn_mono h hk
 |invoke r m=>rw[hc]at h;exact rn_mono h hk
theorem grd_mono{ops:List Oper}{o:Oper}{E:Env}{yes no yes' no' :Env→Prop}(h:grd ops o E yes no)
  (hy:∀E',E.Same E' →yes E' →yes' E')(hn:∀E',E.Same E' →no E' →no' E'):grd ops o E yes' no' :=by
 unfold grd at*
 cases hg:o.guard with
 |none=>rw[hg]at h;exact hy E (.refl E) h
 |some g=>
  obtain⟨j,want⟩:=g
  rw[hg]at h
  simp only at h⊢
  cases hs:gslot ops j with
  |none=>rw[hs]at h;exact hn E (.refl E) h
  |some s=>
   rw[hs]at h
   simp only at h⊢
   cases hk:E.skipped s with
   |true=>rw[hk]at h;exact hn E (.refl E) h
   |false=>
    rw[hk]at h
    simp only[isB]at h⊢
    cases hv:E.get s<;>rw[hv]at h<;>first|exact h.elim|skip
    rename_i b
    cases b<;>cases want<;>first|exact hy _ (Env.same_put hv) h|exact hn _ (Env.same_put hv) h
def Fr(ds:List Nat)(E E' :Env):Prop:=∀t,t ∉ ds→E'.get t=E.get t
theorem Fr.refl(ds:List Nat)(E:Env):Fr ds E E:=λ_ _=>rfl
theorem Fr.trans{ds:List Nat}{E E1 E2:Env}(h:Fr ds E E1)(h' :Fr ds E1 E2):Fr ds E E2:=λt ht=>(h' t ht).trans (h t ht)
theorem Fr.mono{ds ds' :List Nat}{E E1:Env}(h:Fr ds E E1)(hs:∀t∈ds,t∈ds'):Fr ds' E E1:=λt ht=>h t λhm=>ht (hs t hm)
theorem Fr.put{ds:List Nat}(E:Env){d:Option Nat}(v:Value)(hd:∀t,d=some t→t∈ds):Fr ds E (E.put d v):=λt ht=>put_ne λe=>ht (hd t e)
theorem Fr.skip{ds:List Nat}(E:Env){d:Option Nat}(hd:∀t,d=some t→t∈ds):Fr ds E (E.skip d):=λt ht=>skip_ne λe=>ht (hd t e)
theorem Fr.of_same{ds:List Nat}{E E' :Env}(h:E.Same E'):Fr ds E E' :=λt _=>h.1 t
theorem vcList_mono{P:Program}{ops:List Oper}{K K' :Env→World→Prop}{ds:List Nat}:∀(l:List Oper),(∀o∈l,∀t,o.dst=some t→t∈ds)→∀(E:Env) (w:World),vcList P ops l E w K→
  (∀E' w',Fr ds E E' →E'.ds=E.ds→K E' w' →K' E' w')→vcList P ops l E w K' :=by
 intro l
 induction l with
 |nil=>exact λ_ E w h hk=>hk E w (.refl _ _) rfl h
 |cons o rest ih=>
  intro hl E w h hk
  have ho:=hl o List.mem_cons_self
  have hr:∀o∈rest,∀t,o.dst=some t→t∈ds:=λo' h' =>hl o' (List.mem_cons_of_mem _ h')
  refine grd_mono h (λE1 hs hy=>wOp_mono hy λv w' hv=>ih hr _ _ hv λE' w'' hf hd hK=>hk E' w'' ?_ ?_ hK) (λE1 hs hn=>ih hr _ _ hn λE' w'' hf hd hK=>hk E' w'' ?_ ?_ hK)
  ·exact((Fr.of_same hs).trans (Fr.put E1 v ho)).trans hf
  ·rw[hd,put_ds,hs.2]
  ·exact((Fr.of_same hs).trans (Fr.skip E1 ho)).trans hf
  ·rw[hd,skip_ds,hs.2]
theorem allL_mono{F G:Nat→Prop}(h:∀j,F j→G j):∀{l:List Nat},allL F l→allL G l
 | [],_=>trivial
 | [_],hf=>h _ hf
 |_::k::l,hf=>⟨h _ hf.1,allL_mono h (l:=k::l) hf.2⟩
theorem reval_mono{P:Program}{w:World}{R R' :Prop}(h:R→R'):∀{p:Pend},reval P w p R→reval P w p R'
 | [],hr=>h hr
 |_::_,hr=>⟨hr.1,reval_mono h hr.2⟩
theorem vcD_mono{P:Program}{ops:List Oper}{K K' :Env→World→Prop}{ds:List Nat}(hl:∀o∈ops,∀t,o.dst=some t→t∈ds):∀(fuel:Nat) (done:List Nat) (pend:Pend) (E:Env) (w:World),vcD P ops fuel done pend E w K→
  (∀E' w',Fr ds E E' →E'.ds=E.ds→K E' w' →K' E' w')→vcD P ops fuel done pend E w K' :=by
 intro fuel
 induction fuel with
 |zero=>intro _ _ _ _ h;exact h.elim
 |succ fuel ih=>
  intro done pend E w h hk
  have stepP:∀(o:Oper) (v:Value) (E1:Env),o∈ops→E.Same E1→∀E' w',Fr ds (E1.put o.dst v) E' →E'.ds=(E1.put o.dst v).ds→K E' w' →K' E' w' :=by
   intro o v E1 ho hs E' w' hf hd hK
   exact hk E' w' (((Fr.of_same hs).trans (Fr.put E1 v (hl o ho))).trans hf) (by rw[hd,put_ds,hs.2]) hK
  have stepS:∀(o:Oper) (E1:Env),o∈ops→E.Same E1→∀E' w',Fr ds (E1.skip o.dst) E' →E'.ds=(E1.skip o.dst).ds→K E' w' →K' E' w' :=by
   intro o E1 ho hs E' w' hf hd hK
   exact hk E' w' (((Fr.of_same hs).trans (Fr.skip E1 (hl o ho))).trans hf) (by rw[hd,skip_ds,hs.2]) hK
  simp only[vcD]at h⊢
  split at h
  ·rename_i i hi
   split at h
   ·exact h.elim
   ·rename_i o ho
    have hmem:o∈ops:=List.mem_of_getElem? ho
    refine grd_mono h (λE1 hs hy=>?_) (λE1 hs hn=>ih _ _ _ _ hn (stepS o E1 hmem hs))
    split at hy
    ·exact quickK_mono hy λv hv=>ih _ _ _ _ hv (stepP o v E1 hmem hs)
    ·split at hy
     · (split at hy<;>first|exact rdP_mono hy λv hv=>ih _ _ _ _ hv (stepP o v E1 hmem hs)|exact rdPX_mono hy λv hv=>ih _ _ _ _ hv (stepP o v E1 hmem hs))
     ·exact hy.elim
    ·split at hy
     · (split at hy<;>first|exact rdW_mono hy λv hv=>ih _ _ _ _ hv (stepP o v E1 hmem hs)|exact rdX_mono hy λv hv=>ih _ _ _ _ hv (stepP o v E1 hmem hs))
     ·exact hy.elim
  ·split at h
   ·exact hk E w (.refl _ _) rfl h
   ·refine allL_mono (λj hj=>?_) h
    cases ho:ops[j]? with
    |none=>rw[ho]at hj;exact hj.elim
    |some o=>
     rw[ho]at hj
     have hmem:o∈ops:=List.mem_of_getElem? ho
     exact grd_mono hj (λE1 hs hy=>wOp_mono hy λv w' hv=>reval_mono (λhh=>ih _ _ _ _ hh (stepP o v E1 hmem hs)) hv) (λE1 hs hn=>ih _ _ _ _ hn (stepS o E1 hmem hs))
theorem LoopW.mono{S:Type}{body body' :S→World→(S→World→Prop)→Prop}{s:S}{w:World}(h:LoopW body s w)
  (hb:∀s w K,body s w K→body' s w K):LoopW body' s w:=
 let⟨I,m,h0,h1⟩:=h.out
 ⟨⟨I,m,h0,λs w hi=>hb _ _ _ (h1 s w hi)⟩⟩
theorem look_putTup{r:List (Nat×Option Value)}{t:Nat}:∀{l:List Nat} {s:Tup l},t ∉ l→Env.look (putTup l s r) t=Env.look r t
 | [],_,_=>rfl
 |k::l,s,ht=>by
  have hkt:Nat.beq k t=false:=by
   cases hb:Nat.beq k t with
   |false=>rfl
   |true=>exact absurd (by rw[Nat.eq_of_beq_eq_true hb];exact List.mem_cons_self) ht
  simp only[putTup,Env.look,hkt,cond_false]
  exact look_putTup λhm=>ht (List.mem_cons_of_mem _ hm)
theorem look_putTup_of{r:List (Nat×Option Value)}{t:Nat}{E:Env}:∀{l:List Nat},t∈l→Env.look (putTup l (tupOf E l) r) t=some (some (E.get t))
 |k::l,ht=>by
  simp only[putTup,tupOf,Env.look]
  cases hb:Nat.beq k t with
  |true=>rw[Nat.eq_of_beq_eq_true hb];rfl
  |false=>
   simp only[cond_false]
   refine look_putTup_of ?_
   rcases List.mem_cons.1 ht with e|e
   ·subst e;simp at hb
   ·exact e
theorem liveOf_sub{ds:List Nat}:∀{l:List (Nat×Option Value)} {acc:List Nat},(∀t∈acc,t∈ds)→∀t∈liveOf ds l acc,t∈ds
 | [],acc,ha,t,ht=>ha t (by simpa [liveOf]using ht)
 |(k,v)::r,acc,ha,t,ht=>by
  unfold liveOf at ht
  cases hc:ds.contains k&& !acc.contains k with
  |true=>
   rw[hc]at ht
   refine liveOf_sub (λx hx=>?_) t ht
   rcases List.mem_cons.1 hx with rfl|hx
   ·simp only[Bool.and_eq_true]at hc;simpa using hc.1
   ·exact ha x hx
  |false=>rw[hc]at ht;exact liveOf_sub ha t ht
theorem liveOf_acc{ds:List Nat}:∀{l:List (Nat×Option Value)} {acc:List Nat} {t:Nat},t∈acc→t∈liveOf ds l acc
 | [],acc,t,ht=>by simpa [liveOf]using ht
 |(k,v)::r,acc,t,ht=>by
  unfold liveOf
  cases ds.contains k&& !acc.contains k with
  |true=>exact liveOf_acc (List.mem_cons_of_mem _ ht)
  |false=>exact liveOf_acc ht
theorem liveOf_all{ds:List Nat}:∀{l:List (Nat×Option Value)} {acc:List Nat} {t:Nat},t∈ds→Env.look l t≠none→t∈liveOf ds l acc
 | [],_,_,_,h=>absurd rfl h
 |(k,v)::r,acc,t,ht,h=>by
  unfold liveOf
  cases hb:Nat.beq k t with
  |true=>
   obtain rfl:=Nat.eq_of_beq_eq_true hb
   have hk:ds.contains k=true:=by simpa using ht
   cases ha:acc.contains k with
   |true=>
    simp only[hk,Bool.not_true,Bool.and_false]
    exact liveOf_acc (by simpa using ha)
   |false=>
    simp only[hk,Bool.not_false,Bool.and_true]
    exact liveOf_acc List.mem_cons_self
  |false=>
   have h' :Env.look r t≠none:=by simpa [Env.look,hb]using h
   cases ds.contains k&& !acc.contains k with
   |true=>exact liveOf_all ht h'
   |false=>exact liveOf_all ht h'
theorem addU_sub{ds:List Nat}:∀{l acc:List Nat},(∀t∈acc,t∈ds)→∀t∈addU ds l acc,t∈ds
 | [],acc,ha,t,ht=>ha t (by simpa [addU]using ht)
 |k::r,acc,ha,t,ht=>by
  unfold addU at ht
  cases hc:ds.contains k&& !acc.contains k with
  |true=>
   rw[hc]at ht
   refine addU_sub (λx hx=>?_) t ht
   rcases List.mem_cons.1 hx with rfl|hx
   ·simp only[Bool.and_eq_true]at hc;simpa using hc.1
   ·exact ha x hx
  |false=>rw[hc]at ht;exact addU_sub ha t ht
theorem addU_acc{ds:List Nat}:∀{l acc:List Nat} {t:Nat},t∈acc→t∈addU ds l acc
 | [],acc,t,ht=>by simpa [addU]using ht
 |k::r,acc,t,ht=>by
  unfold addU
  cases ds.contains k&& !acc.contains k with
  |true=>exact addU_acc (List.mem_cons_of_mem _ ht)
  |false=>exact addU_acc ht
theorem liveJ_sub{ds:List Nat}{l:List (Nat×Option Value)}{us:List Nat}:∀t∈liveJ ds l us,t∈ds:=addU_sub (liveOf_sub (by simp))
theorem liveJ_all{ds:List Nat}{l:List (Nat×Option Value)}{us:List Nat}{t:Nat}(ht:t∈ds)(h:Env.look l t≠none):t∈liveJ ds l us:=addU_acc (liveOf_all ht h)
theorem headE_frJ{E:Env}{ds live:List Nat}{s:Tup live}{g:Nat→Value}{mk:List Nat}(hs:∀t∈live,t∈ds):Fr ds E (headE E ds live s g mk):=by
 intro t ht
 have hl:t ∉ live:=λhm=>ht (hs t hm)
 have hc:ds.contains t=false:=by simpa using ht
 unfold Env.get headE
 simp only[look_putTup hl,hc]
theorem joins_rf{a b:Code}(h:joins a b=true):hasRF a=false:=by
 simp only[joins,Bool.and_eq_true,Bool.not_eq_true']at h
 exact h.1.2
theorem headE_fr{E:Env}{ds:List Nat}{s:Tup (liveOf ds E.l [])}{g:Nat→Value}{mk:List Nat}:Fr ds E (headE E ds (liveOf ds E.l []) s g mk):=by
 intro t ht
 have hl:t ∉ liveOf ds E.l []:=λhm=>ht (liveOf_sub (by simp) t hm)
 have hc:ds.contains t=false:=by simpa using ht
 unfold Env.get headE
 simp only[look_putTup hl,hc]
theorem vc_mono{P:Program}{jn:Bool}:∀(c:Code) (ro:Option Nat) (Q Q' :Exit→Env→World→Prop) (E:Env) (w:World),vc P jn ro c Q E w→
  (∀e E' w',Fr (dstsOf c) E E' →(hasRF c=false→E'.ds=E.ds)→Q e E' w' →Q' e E' w')→vc P jn ro c Q' E w:=by
 intro c
 induction c with
 |skip=>intro ro Q Q' E w h hq;exact hq _ _ _ (.refl _ _) (λ_=>rfl) h
 |region id ops draw=>
  intro ro Q Q' E w h hq
  have hd:∀o∈ops.toList,∀t,o.dst=some t→t∈dstsOf (.region id ops draw):=λo ho t ht=>List.mem_filterMap.2 ⟨o,ho,ht⟩
  cases draw with
  |false=>exact vcList_mono _ hd _ _ h λE' w' hf hds hK=>hq _ _ _ hf (λ_=>hds) hK
  |true=>exact vcD_mono hd _ _ _ _ _ h λE' w' hf hds hK=>hq _ _ _ hf (λ_=>hds) hK
 |seq a b iha ihb=>
  intro ro Q Q' E w h hq
  simp only[vc]at h⊢
  cases hj:jn&& joins a b with
  |true=>
   rw[hj]at h
   simp only[force_eq]at h⊢
   obtain⟨J,hJ,hA⟩:=h.out
   simp only[Bool.and_eq_true]at hj
   have hrf:=joins_rf hj.2
   refine⟨⟨J,λs w1 hs g=>ihb ro _ _ _ w1 (hJ s w1 hs g) λe E' w' hf hd hQ=>hq e E' w' (((headE_frJ liveJ_sub).mono λt ht=>List.mem_append_left _ ht).trans (hf.mono λt ht=>List.mem_append_right _ ht)) (λhh=>hd (by simp only[hasRF,Bool.or_eq_false_iff]at hh;exact hh.2)) hQ,?_⟩⟩
   refine iha ro _ _ E w hA λe E' w' hf hd hQ=>?_
   have hf' :Fr (dstsOf (.seq a b)) E E' :=hf.mono λt ht=>List.mem_append_left _ ht
   cases e with
   |normal=>exact hQ
   |exit id=>exact hq _ _ _ hf' (λ_=>hd hrf) hQ
   |goto id=>exact hq _ _ _ hf' (λ_=>hd hrf) hQ
   |ret=>exact hq _ _ _ hf' (λ_=>hd hrf) hQ
   |panic ch=>exact hq _ _ _ hf' (λ_=>hd hrf) hQ
   |outgrown=>exact hq _ _ _ hf' (λ_=>hd hrf) hQ
  |false=>
  rw[hj]at h
  refine iha ro _ _ E w h λe E1 w1 hf1 hd1 hQ=>?_
  have hf1' :Fr (dstsOf (.seq a b)) E E1:=hf1.mono λt ht=>List.mem_append_left _ ht
  have hda:hasRF (.seq a b)=false→E1.ds=E.ds:=λhh=>hd1 (by simp only[hasRF,Bool.or_eq_false_iff]at hh;exact hh.1)
  cases e with
  |normal=>
   refine ihb ro _ _ E1 w1 hQ λe E2 w2 hf2 hd2 hQ2=>hq e E2 w2 (hf1'.trans (hf2.mono λt ht=>List.mem_append_right _ ht)) (λhh=>?_) hQ2
   rw[hd2 (by simp only[hasRF,Bool.or_eq_false_iff]at hh;exact hh.2),hda hh]
  |exit id=>exact hq _ _ _ hf1' hda hQ
  |goto id=>exact hq _ _ _ hf1' hda hQ
  |ret=>exact hq _ _ _ hf1' hda hQ
  |panic ch=>exact hq _ _ _ hf1' hda hQ
  |outgrown=>exact hq _ _ _ hf1' hda hQ
 |cond c t f iht ihf=>
  intro ro Q Q' E w h hq
  refine isB_mono h λb hb=>?_
  cases b with
  |true=>exact iht ro _ _ E w hb λe E' w' hf hd hQ=>hq e E' w' (hf.mono λt ht=>List.mem_append_left _ ht) (λhh=>hd (by simp only[hasRF,Bool.or_eq_false_iff]at hh;exact hh.1)) hQ
  |false=>exact ihf ro _ _ E w hb λe E' w' hf hd hQ=>hq e E' w' (hf.mono λt ht=>List.mem_append_right _ ht) (λhh=>hd (by simp only[hasRF,Bool.or_eq_false_iff]at hh;exact hh.2)) hQ
 |block id c ih=>
  intro ro Q Q' E w h hq
  refine ih ro _ _ E w h λe E' w' hf hd hQ=>?_
  cases e with
  |exit i=>
   simp only at hQ⊢
   cases hb:Nat.beq i id<;>rw[hb]at hQ<;>exact hq _ _ _ hf hd hQ
  |normal=>exact hq _ _ _ hf hd hQ
  |goto id=>exact hq _ _ _ hf hd hQ
  |ret=>exact hq _ _ _ hf hd hQ
  |panic ch=>exact hq _ _ _ hf hd hQ
  |outgrown=>exact hq _ _ _ hf hd hQ
 |loop c ih=>
  intro ro Q Q' E w h hq
  simp only[vc,force_eq]at h⊢
  cases hrf:hasRF c with
  |false=>
   rw[hrf]at h
   refine h.mono λs w1 K hb g=>ih ro _ _ _ w1 (hb g) λe E' w' hf hd hQ=>?_
   have hf' :Fr (dstsOf (.loop c)) E E' :=headE_fr.trans hf
   have hd' :hasRF (.loop c)=false→E'.ds=E.ds:=λhh=>hd hrf
   cases e with
   |normal=>exact hQ
   |exit id=>exact hq _ _ _ hf' hd' hQ
   |goto id=>exact hq _ _ _ hf' hd' hQ
   |ret=>exact hq _ _ _ hf' hd' hQ
   |panic ch=>exact hq _ _ _ hf' hd' hQ
   |outgrown=>exact hq _ _ _ hf' hd' hQ
  |true=>
   rw[hrf]at h
   refine h.mono λs w1 K hb g=>ih ro _ _ _ w1 (hb g) λe E' w' hf hd hQ=>?_
   have hf' :Fr (dstsOf (.loop c)) E E' :=headE_fr.trans hf
   have hd' :hasRF (.loop c)=false→E'.ds=E.ds:=λhh=>by simp only[hasRF]at hh;rw[hrf]at hh;cases hh
   cases e with
   |normal=>exact hQ
   |exit id=>exact hq _ _ _ hf' hd' hQ
   |goto id=>exact hq _ _ _ hf' hd' hQ
   |ret=>exact hq _ _ _ hf' hd' hQ
   |panic ch=>exact hq _ _ _ hf' hd' hQ
   |outgrown=>exact hq _ _ _ hf' hd' hQ
 |rangeFunc gv ps assign body _ _=>
  intro ro Q Q' E w h hq
  simp only[vc,RFW_iff,RFD]at h⊢
  split at h
  ·rename_i f first captured hgv
   unfold enterR at h⊢
   have hfr:∀mk:List Nat,Fr (dstsOf (.rangeFunc gv ps assign body)) E {E with ds:=mk++E.ds}:=λmk t _=>rfl
   have key:∀(mk:List Nat) (pend:Option Code) (W:World),
     afterK (λW=>Q .normal {E with ds:=mk++E.ds} W) (λW=>Q .ret {E with ds:=mk++E.ds} W) (λid W=>Q (.exit id) {E with ds:=mk++E.ds} W) pend W→
     afterK (λW=>Q' .normal {E with ds:=mk++E.ds} W) (λW=>Q' .ret {E with ds:=mk++E.ds} W) (λid W=>Q' (.exit id) {E with ds:=mk++E.ds} W) pend W:=by
    intro mk pend W hh
    unfold afterK at*
    split at hh
    ·exact hq _ _ _ (hfr mk) (λh=>by cases h) hh
    ·exact hq _ _ _ (hfr mk) (λh=>by cases h) hh
    ·exact hq _ _ _ (hfr mk) (λh=>by cases h) hh
    ·exact hh.elim
   cases ro with
   |none=>
    intro rec h1 h2 h3 hy
    refine(h rec h1 h2 h3 hy).mono ?_
    rintro v W ⟨r,hr,hb,ha⟩
    exact⟨r,hr,hb,key _ _ _ ha⟩
   |some l0=>
    obtain⟨r0,hr0,h⟩:=h
    refine⟨r0,hr0,λrec h1 h2 h3 hy=>?_⟩
    refine(h rec h1 h2 h3 hy).mono ?_
    rintro v W ⟨r,hr,hb,ha⟩
    exact⟨r,hr,hb,key _ _ _ ha⟩
  ·exact h.elim
 |exit id=>intro ro Q Q' E w h hq;exact hq _ _ _ (.refl _ _) (λ_=>rfl) h
 |scope c ih=>
  intro ro Q Q' E w h hq
  cases ro with
  |some l=>exact h.elim
  |none=>
   refine ih none _ _ E w h λe E' w' hf hd hQ=>?_
   cases e with
   |goto l=>exact hQ.elim
   |exit id=>exact hq _ _ _ hf hd hQ
   |normal=>exact hq _ _ _ hf hd hQ
   |ret=>exact hq _ _ _ hf hd hQ
   |panic ch=>exact hq _ _ _ hf hd hQ
   |outgrown=>exact hq _ _ _ hf hd hQ
 |label l=>intro ro Q Q' E w h hq;exact hq _ _ _ (.refl _ _) (λ_=>rfl) h
 |goto l=>intro ro Q Q' E w h hq;exact h.elim
 |ret=>intro ro Q Q' E w h hq;exact hq _ _ _ (.refl _ _) (λ_=>rfl) h
 |refuse why=>intro ro Q Q' E w h hq;exact h.elim
end Go.Vc
