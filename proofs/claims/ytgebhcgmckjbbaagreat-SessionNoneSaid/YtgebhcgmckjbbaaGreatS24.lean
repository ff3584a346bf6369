/- The statement SessionNone: for every input the law returns true; arguments stay. Conditions: none. -/
import Derived.Test.YtgebhcgmckjbbaaGreatS23
import Derived.Test.YtgebhcgmckjbbaaGreatS25
set_option linter.all false
namespace Go.Proofs
open Go Go.Vc
attribute [local congr] Ca_congV
section
variable{w:World}{gv:Value}{α:Type}{xs:List α}{T:TypeId}{g fv:α→Value}{fc:α→List Value}{body:List Value→Value→World→(World→Prop)→(Code→World→Prop)→Prop}{after:List Nat→Option Code→World→Prop}{X0:Nat→Prop}
theorem RF_list2(ht:TellsM gv (xs.map λa=>[g a,fv a]) w)(hv:VarOk T fv fc xs)
  (I:(Nat→Prop)→Nat→World→Prop)(Ex:Code→(Nat→Prop)→World→Prop)
  (hst:∀X i W W' H,I X i W→Mod H W W' →(∀b,X b→¬H b)→I X i W')
  (hsx:∀c X W W' H,Ex c X W→Mod H W W' →(∀b,X b→¬H b)→Ex c X W')
  (hX0:∀b,X0 b→b<w.heap.size)(h0:I X0 0 w)
  (hstep:∀X i (hi:i<xs.length) W q,I X i W→Mod X0 w W→(∀b,X b→b<q∧(X0 b∨w.heap.size+1<b))→w.heap.size+1<q→q<W.heap.size→hp W q=some (.cells (fc xs[i]).toArray T (0,0))→∀KN KJ,
   (∀X' W',I X' (i+1) W' →Mod X W W' →(∀b,X' b→(X b∨W.heap.size≤b)∧b<W'.heap.size)→KN W')→
   (∀c X' W',Ex c X' W' →Mod X W W' →(∀b,X' b→(X b∨W.heap.size≤b)∧b<W'.heap.size)→KJ c W')→body [g xs[i],fv xs[i]] (.pointer (some ⟨q,0,none⟩)) W KN KJ)
  (hend:∀X W d,d=w.heap.size→I X xs.length W→Mod X0 w W→hp W d=some (.deferred (some []))→(∀b,X b→b<W.heap.size∧(X0 b∨d+1<b))→after [d] none W)
  (hexit:∀c X W d,d=w.heap.size→Ex c X W→Mod X0 w W→hp W d=some (.deferred (some []))→(∀b,X b→b<W.heap.size∧(X0 b∨d+1<b))→after [d] (some c) W):
  RFW Tryz.prog none gv w 2 (λl x W KN KJ=>rv Tryz.prog (Instr.alloc T true (.tuple #[])) W λv w1=>ru Tryz.prog (Instr.storeAt T v (x.getD 1 undef)) w1 λw2=>beginK l w2 λw3=>body x v w3 KN KJ) after:=by
 obtain⟨⟨Ok,hit,hok⟩,-⟩:=ht
 obtain⟨f,first,captured,rfl,hit0⟩:=hit.out
 refine RFW_iff.2 ?_
 show∀rec:Loop,_
 intro rec hready hpend hD hY
 obtain⟨d,hd0⟩:∃d,d=w.heap.size:=⟨_,rfl⟩
 have hsz:(w.alloc (.deferred (some []))).heap.size=d+1:=by rw[World.size_alloc,hd0]
 obtain⟨wr,hwr⟩:∃wr,wr=(w.alloc (.deferred (some []))).alloc (.loop rec):=⟨_,rfl⟩
 have hrec0:wr.heap[d+1]? =some (.loop rec):=by rw[hwr,heap_alloc,if_pos hsz.symm]
 have hszr:wr.heap.size=d+2:=by rw[hwr,World.size_alloc,hsz]
 have hdef0:hp wr d=some (.deferred (some [])):=by rw[hwr];simp[go_sem,hd0]
 have hmr:Mod (λ_=>False) w wr:=by rw[hwr];exact((Mod.refl _ w).alloc _).alloc _
 have hput:∀(W:World) (o:Obj),Mod (λb=>b=d+1) W (W.putObj (d+1) o):=λW o=>(Mod.refl (λb=>b=d+1) W).putObj (b:=d+1) (.inl rfl) o
 rw[hsz]at hY⊢
 rw[←hwr]
 let J:(Nat→Prop)→Nat→World→Prop:=λQ i W=>∃X,I X i W∧Mod X0 w W∧hp W d=some (.deferred (some []))∧(∀b,X b→b<W.heap.size∧(X0 b∨d+1<b)∧¬Q b)∧W.heap[d+1]? =some (.loop rec)∧∀b,Q b→d+1<b∧b<W.heap.size
 let Js:(Nat→Prop)→World→Prop:=λQ W=>∃c X r,Ex c X W∧Mod X0 w W∧hp W d=some (.deferred (some []))∧(∀b,X b→b<W.heap.size∧(X0 b∨d+1<b)∧¬Q b)∧W.heap[d+1]? =some (.loop r)∧(∀b,Q b→d+1<b∧b<W.heap.size)∧r.state=.done∧r.pending=some c
 refine hit0 _ J Js _ _ (hok _ hmr) ?_ ?_ ?_ ?_ ?_ ?_
 ·intro Q W1 hm hQ
  refine⟨X0,hst _ _ _ _ _ h0 (hmr.trans hm) λ_ _ h=>h,(hmr.trans hm).mono λ_ _ h=>h.elim,hm.hpk hdef0 id,λb hb=>?_,hm.keep hrec0 id,λb hb=>?_⟩
  ·have h1:=hX0 b hb
   have h2:=hm.size
   exact⟨by omega,.inl hb,λhq=>by have:=(hQ b hq).1;omega⟩
  ·have:=hQ b hb;omega
 ·rintro Q Q' i W W' ⟨X,h1,h2,h3,h4,h5,h6⟩ hm hQ'
  have hl:=lt_of_heap h5
  refine⟨X,hst _ _ _ _ _ h1 hm λb hb=>(h4 b hb).2.2,h2.on hm λb hb=>.inr (by have:=h6 b hb;omega),hm.hpk h3 λhb=>by have:=h6 _ hb;omega,λb hb=>?_,hm.keep h5 λhb=>by have:=h6 _ hb;omega,λb hb=>?_⟩
  ·have ha:=h4 b hb
   refine⟨Nat.lt_of_lt_of_le ha.1 hm.size,ha.2.1,λhq=>?_⟩
   rcases(hQ' b hq).1 with h|h
   ·exact ha.2.2 h
   ·have:=ha.1;omega
  ·have ha:=hQ' b hb
   refine⟨?_,ha.2⟩
   rcases ha.1 with h|h
   ·exact(h6 b h).1
   ·omega
 ·rintro Q Q' W W' ⟨c,X,r,h1,h2,h3,h4,h5,h6,h7⟩ hm hQ'
  have hl:=lt_of_heap h5
  refine⟨c,X,r,hsx _ _ _ _ _ h1 hm λb hb=>(h4 b hb).2.2,h2.on hm λb hb=>.inr (by have:=h6 b hb;omega),hm.hpk h3 λhb=>by have:=h6 _ hb;omega,λb hb=>?_,hm.keep h5 λhb=>by have:=h6 _ hb;omega,λb hb=>?_,h7⟩
  ·have ha:=h4 b hb
   refine⟨Nat.lt_of_lt_of_le ha.1 hm.size,ha.2.1,λhq=>?_⟩
   rcases(hQ' b hq).1 with h|h
   ·exact ha.2.2 h
   ·have:=ha.1;omega
  ·have ha:=hQ' b hb
   refine⟨?_,ha.2⟩
   rcases ha.1 with h|h
   ·exact(h6 b h).1
   ·omega
 ·rintro Q i x W hx ⟨X,h1,h2,h3,h4,h5,h6⟩ K' hT hF
  refine callV_iff.2 ?_
  show Yl Tryz.prog (d+1) ⟨_⟩ W K'
  have e1:(#[]:Array Value).toList++x=x:=rfl
  rw[e1]
  obtain⟨hi,rfl⟩:∃hi:i<xs.length,x=[g xs[i],fv xs[i]]:=by
   rw[List.getElem?_map]at hx
   cases hh:xs[i]? with
   |none=>rw[hh]at hx;cases hx
   |some o=>
    obtain⟨hj,he⟩:=List.getElem?_eq_some_iff.1 hh
    rw[hh]at hx
    exact⟨hj,by rw[he];exact(Option.some.inj hx).symm⟩
  refine hY _ W K' rfl ⟨rec.state,rec.pending,h5⟩ ?_
  obtain⟨w1,w2,v1,v2,v3,v4⟩:=hv xs[i] (List.getElem_mem hi) W
  obtain⟨q,hq0⟩:∃q,q=W.heap.size:=⟨_,rfl⟩
  rw[←hq0]at v1 v2 v3
  refine rvS v1 ?_
  show ru Tryz.prog (Instr.storeAt T (.pointer (some ⟨q,0,none⟩)) (fv xs[i])) w1 _
  refine ruS v2 ?_
  have r2:w2.heap[d+1]? =some (.loop rec):=v4.keep h5 id
  refine beginK_of r2 hready ?_
  have m3:=hput w2 (.loop {rec with state:=.busy})
  have r3:(w2.putObj (d+1) (.loop {rec with state:=.busy})).heap[d+1]? =some (.loop {rec with state:=.busy}):=by rw[heap_putObj,if_pos rfl,r2];rfl
  generalize w2.putObj (d+1) (.loop {rec with state:=.busy})=w3 at m3 r3⊢
  have hdl:d+1<q:=by rw[hq0];exact lt_of_heap h5
  have q3:=m3.hpk v3 (by omega)
  have hql:=lt_of_heap q3
  have hw3:=m3.size
  have hw4:=v4.size
  have M3:Mod (λb=>b=d+1) W w3:=(v4.mono λ_ _ h=>h.elim).trans m3
  have hXq:∀b,X b→b<q∧(X0 b∨d+1<b):=λb hb=>⟨by have:=(h4 b hb).1;omega,(h4 b hb).2.1⟩
  have hXd:∀b,X b→b≠d+1∧b≠d:=λb hb=>by
   rcases(h4 b hb).2.1 with h|h
   ·have:=hX0 b h;omega
   ·omega
  have hKeep:∀(W' :World) (X' :Nat→Prop) (o:Obj),Mod X w3 W' →(∀b,X' b→(X b∨w3.heap.size≤b)∧b<W'.heap.size)→
    Mod X0 w (W'.putObj (d+1) o)∧hp (W'.putObj (d+1) o) d=some (.deferred (some []))∧(∀b,X' b→b<(W'.putObj (d+1) o).heap.size∧(X0 b∨d+1<b)∧¬Q b)∧(∀b,Q b→d+1<b∧b<(W'.putObj (d+1) o).heap.size)∧
    (∀b,Q b→(W'.putObj (d+1) o).heap[b]? =W.heap[b]?)∧W.heap.size≤(W'.putObj (d+1) o).heap.size∧W'.heap[d+1]? =some (.loop {rec with state:=.busy}):=by
   intro W' X' o hm hX'
   have hp1:=hput W' o
   have hsW:=hm.size
   have hsP:=hp1.size
   refine⟨?_,hp1.hpk (hm.hpk (m3.hpk (v4.hpk h3 id) (by omega)) λhb=>(hXd _ hb).2 rfl) (by omega),λb hb=>?_,λb hb=>?_,λb hb=>?_,by omega,hm.keep r3 λhb=>(hXd _ hb).1 rfl⟩
   ·refine(((h2.on M3 λb hb=>.inr (by omega)).on hm λb hb=>?_)).on hp1 λb hb=>.inr (by omega)
    rcases(h4 b hb).2.1 with h|h
    ·exact .inl h
    ·exact .inr (by omega)
   ·have ha:=hX' b hb
    refine⟨by omega,?_,λhq=>?_⟩
    ·rcases ha.1 with h|h
     ·exact(h4 b h).2.1
     ·exact .inr (by omega)
    ·rcases ha.1 with h|h
     ·exact(h4 b h).2.2 hq
     ·have:=(h6 b hq).2;omega
   ·have:=h6 b hb;omega
   ·have hb' :=h6 b hb
    rw[hp1.blk b (by omega) (by omega),hm.blk b (by omega) λhx=>(h4 b hx).2.2 hb,M3.blk b hb'.2 (by omega)]
  refine hstep X i hi w3 q (hst _ _ _ _ _ h1 M3 λb hb=>(hXd b hb).1) (h2.on M3 λb hb=>.inr (by omega)) (by rw[←hd0];exact hXq) (by omega) hql q3 _ _ ?_ ?_
  ·intro X' W' hI' hm hX'
   obtain⟨k1,k2,k3,k4,k5,k6,k7⟩:=hKeep W' X' (.loop {{rec with state:=.busy}with state:=.ready,pending:=none}) hm hX'
   refine⟨_,k7,hT _ ⟨X',?_,k1,k2,k3,?_,k4⟩ k6 k5⟩
   ·refine hst _ _ _ _ _ hI' (hput W' _) λb hb e=>?_
    rcases(hX' b hb).1 with h|h
    ·exact(hXd b h).1 e
    ·omega
   ·rw[heap_putObj,if_pos rfl,k7]
    simp[←hready,←hpend]
  ·intro c X' W' hI' hm hX'
   obtain⟨k1,k2,k3,k4,k5,k6,k7⟩:=hKeep W' X' (.loop {{rec with state:=.busy}with state:=.done,pending:=some c}) hm hX'
   refine⟨_,k7,hF _ ⟨c,X',{rec with state:=.done,pending:=some c},?_,k1,k2,k3,?_,k4,rfl,rfl⟩ k6 k5⟩
   ·refine hsx _ _ _ _ _ hI' (hput W' _) λb hb e=>?_
    rcases(hX' b hb).1 with h|h
    ·exact(hXd b h).1 e
    ·omega
   ·rw[heap_putObj,if_pos rfl,k7]
    rfl
 ·rintro Q W ⟨X,h1,h2,h3,h4,h5,h6⟩
  refine⟨rec,h5,by rw[hready];decide,?_⟩
  rw[←hd0]
  have hm:=hput W (.loop {rec with state:=.exhausted})
  generalize W.putObj (d+1) (.loop {rec with state:=.exhausted})=W8 at hm⊢
  rw[hpend]
  have hXd:∀b,X b→b≠d+1:=λb hb=>by
   rcases(h4 b hb).2.1 with h|h
   ·have:=hX0 b h;omega
   ·omega
  refine hend X _ d hd0 ?_ (h2.on hm λb hb=>.inr (by omega)) (hm.hpk h3 (by omega)) λb hb=>⟨Nat.lt_of_lt_of_le (h4 b hb).1 hm.size,(h4 b hb).2.1⟩
  have hx:I X xs.length W:=by have:=h1;rwa[List.length_map]at this
  exact hst _ _ _ _ _ hx hm λb hb=>hXd b hb
 ·rintro Q W ⟨c,X,r,h1,h2,h3,h4,h5,h6,h7,h8⟩
  refine⟨r,h5,by rw[h7];decide,?_⟩
  rw[←hd0]
  have hm:=hput W (.loop {r with state:=.exhausted})
  generalize W.putObj (d+1) (.loop {r with state:=.exhausted})=W8 at hm⊢
  rw[h8]
  have hXd:∀b,X b→b≠d+1:=λb hb=>by
   rcases(h4 b hb).2.1 with h|h
   ·have:=hX0 b h;omega
   ·omega
  exact hexit c X _ d hd0 (hsx _ _ _ _ _ h1 hm λb hb=>hXd b hb) (h2.on hm λb hb=>.inr (by omega)) (hm.hpk h3 (by omega)) λb hb=>⟨Nat.lt_of_lt_of_le (h4 b hb).1 hm.size,(h4 b hb).2.1⟩
end
theorem state_fit{S:Ven}(h:S.Ok):S.state.Fit:=by
 have hM:maxNum=4611686018427387904:=rfl
 have hMF:MF=1000000000000000:=rfl
 have hMP:MP=10000000:=rfl
 have hL:=h.led.led
 refine⟨h.cal.day,?_,?_,λa ha=>?_,λk hk=>(h.cal.ok k hk).1,λp hp=>?_,λx hx=>?_,λx hx=>?_⟩
 ·have:=h.next;exact⟨by show 0≤S.next;omega,by show S.next<_;omega⟩
 ·have:=hL.fund;exact⟨by show _≤S.led.fund;omega,by show S.led.fund<_;omega⟩
 ·have:=hL.acc a ha;exact⟨⟨by omega,this.2.1⟩,by constructor<;>omega⟩
 ·obtain⟨n,-,hp⟩:=List.mem_flatMap.1 hp
  have hp' :p∈S.led.held:=(List.mem_filter.1 hp).1
  obtain⟨h1,h2,-,h3,h4,h5,h6,a,ha,he⟩:=hL.pos p hp'
  have:=hL.acc a ha
  exact⟨⟨⟨by omega,h2⟩,by omega,by omega⟩,⟨by omega,by omega⟩,by omega,by omega⟩
 ·obtain⟨n,-,hx⟩:=List.mem_flatMap.1 hx
  obtain⟨o,ho,rfl⟩:=List.mem_map.1 hx
  have ho' :o∈S.ords n:=List.mem_append_left _ ho
  exact⟨alive_u32 h.cal (h.ord.alive ho'),(h.ord.std n o ho').fit⟩
 ·obtain⟨n,-,hx⟩:=List.mem_flatMap.1 hx
  obtain⟨o,ho,rfl⟩:=List.mem_map.1 hx
  have ho' :o∈S.ords n:=List.mem_append_right _ ho
  exact⟨alive_u32 h.cal (h.ord.alive ho'),(h.ord.std n o ho').fit⟩
theorem state_len{S:Ven}(h:S.Ok):S.state.accts.length≤64∧S.state.cts.length≤16∧S.state.poss.length≤1024∧S.state.ords.length≤3200∧S.state.bids.length≤800:=by
 have h16:=h.cal.len
 have hn:S.nums.length=S.cal.l.length:=by unfold Ven.nums;rw[List.length_map]
 have ht:S.nums.take S.nums.length=S.nums:=List.take_length
 have h1:=posT_len h.led.led S.nums.length
 have h2:=ordT_len h.ord S.nums.length
 have h3:=bidT_len h.ord S.nums.length
 unfold posT at h1
 unfold ordT at h2
 unfold bidT at h3
 rw[ht]at h1 h2 h3
 exact⟨h.led.led.len,h16,by show(S.nums.flatMap S.led.holders).length≤_;omega,by show(S.nums.flatMap λn=>(S.bk n).all.map λo=>(n,o)).length≤_;omega,by show(S.nums.flatMap λn=>(S.bd n).map λo=>(n,o)).length≤_;omega⟩
theorem staB_len{s:Sta}(hf:s.Fit)(hl:s.accts.length≤3200∧s.cts.length≤3200∧s.poss.length≤3200∧s.ords.length≤3200∧s.bids.length≤3200):(staB s).length≤5000000:=by
 obtain⟨hA,hC,hP,hO,hB⟩:=hl
 have n1:=num_le s.day (by have:=hf.day.2;omega)
 have n2:=num_le s.next (by have:=hf.next.2;omega)
 have n3:=int_le hf.fund
 have n4:=lsB_le (g:=acB) (λx hx=>acB_le (hf.accts x hx)) hA
 have n5:=lsB_le (g:=ctB) (λx hx=>ctB_le (hf.cts x hx)) hC
 have n6:=lsB_le (g:=poB) (λx hx=>poB_le (hf.poss x hx)) hP
 have n7:=lsB_le (g:=odB) (λx hx=>odB_le (hf.ords x hx)) hO
 have n8:=lsB_le (g:=odB) (λx hx=>odB_le (hf.bids x hx)) hB
 unfold staB
 simp only[List.length_append]
 omega
section
variable{w:World}{K:Kont}{m:Nat}{F:Nat→Prop}{S:Ven}{o:Kpt}
theorem ca_saveS{v:Nat}{Fv:Nat→Prop}(h:VenQ w v Fv S)(hok:S.Ok)(hK:∀s' w',OwnB w' s' (staB S.state)→Mod (λ_=>False) w w' →(∀b,inSl s' b→w.heap.size≤b)→K (.tuple #[s',.int .i64 0]) w'):Ca Tryz.prog 21 #[vptr v] w K:=by
 obtain⟨c,l,mb,md,A,D,fp,hr,hF⟩:=h
 apply ca21
 unfold F21
 refine ca_vcopy hr hok λv' F' w1 q1 m1 n1=>?_
 refine rvS (v:=.bool false) (w' :=w1) (by simp[go_sem,vptr]) ?_
 rw[ifB_bool,if_neg Bool.false_ne_true]
 refine ca_vstate (hr.md0 m1) hok λss b lo w2 sT hlo m2 hb=>?_
 have hst:StaR w2 ss S.state:=λi h1 h2=>(sT.own i h1 h2).rd
 have hl:=state_len hok
 show Ca Tryz.prog 82 #[stV S.state.day S.state.next S.state.fund ss] w2 _
 refine ca_formF hst (state_fit hok) (by omega) λs' w3 o3 m3 n3=>?_
 refine hK s' w3 o3 ((m1.trans m2).trans m3) λb hb=>?_
 have:=n3 b hb
 have:=(m1.trans m2).size
 omega
def keyV(p:Kp):Value:=encU64 p.1
def valV(p:Kp):Value:=kepV p.2
def kepC(p:Kp):List Value:=[.int .u64 p.2.1,p.2.2]
abbrev tKep:TypeId:=190
theorem ca_clients{v mm:Nat}{T:List Kp}(hT:T.length≤1)(h1:hp w m=some (.cells #[vptr v,.map (some mm)] tMch (0,0)))(h2:MapAt encU64 kepV w mm T)
  (hK:∀gv w',TellsM gv (T.map λp=>[keyV p,valV p]) w' →Mod (λ_=>False) w w' →K gv w'):Ca Tryz.prog 102 #[mpt m] w K:=by
 apply ca102
 unfold F102
 obtain⟨bx,hbx⟩:∃bx,bx=w.heap.size:=⟨_,rfl⟩
 have m1:Mod (λ_=>False) w (w.alloc (.cells #[mpt m] 75)):=(Mod.refl _ w).alloc _
 have b1:hp (w.alloc (.cells #[mpt m] 75)) bx=some (.cells #[mpt m] 75 (0,0)):=by rw[hbx];simp[go_sem]
 refine rvS (v:=.pointer (some ⟨bx,0,none⟩)) (w' :=w.alloc (.cells #[mpt m] 75)) (by rw[hbx];simp[go_sem]) ?_
 have h1' :=m1.hpk h1 id
 have h2' :=h2.mod m1 id
 generalize w.alloc (.cells #[mpt m] 75)=w1 at m1 b1 h1' h2' ⊢
 refine hK _ w1 ⟨⟨λW=>hp W bx=some (.cells #[mpt m] 75 (0,0))∧hp W m=some (.cells #[vptr v,.map (some mm)] tMch (0,0))∧MapAt encU64 kepV W mm T,⟨⟨178,#[],#[.pointer (some ⟨bx,0,none⟩)],rfl,?_⟩⟩,λW hm=>⟨hm.hpk b1 id,hm.hpk h1' id,h2'.mod hm id⟩⟩,⟨_,_,rfl⟩⟩ m1
 rintro yl J Js W K ⟨hb,hm,hA⟩ h0 hmod hmodx hstep hend hex
 show Ca Tryz.prog 178 #[.func (.yield yl) #[] #[],.pointer (some ⟨bx,0,none⟩)] W K
 apply ca178
 unfold F178
 refine rvS (v:=mpt m) (w' :=W) (by simp[go_sem,hb]) ?_
 simp only[nilK_ptr]
 refine rvS (v:=.pointer (some ⟨m,1,none⟩)) (w' :=W) (by simp[go_sem]) (rvS (v:=.map (some mm)) (w' :=W) (by simp[go_sem,hm]) ?_)
 refine ca_sorted hT hA λs W1 o1 n1=>?_
 obtain⟨sa,sc,hs,-⟩:=o1.isSl
 refine rnS (v:=.int .i64 (T.length:Int)) (w' :=W1) (by rw[hs];simp[go_sem]) ?_
 have hb1:=n1.hpk hb id
 have hm1:=n1.hpk hm id
 have hA1:=hA.mod n1 id
 have hJ0:J (λ_=>False) 0 W1:=h0 _ W1 n1 λb hb=>hb.elim
 refine loopV (λst W' =>∃i:Nat,i≤T.length∧st=(.int .i64 i,())∧J (λ_=>False) i W' ∧(i=0→W' =W1)) (λst _=>match st.1 with| .int _ i=>T.length - i.toNat|_=>0) ⟨0,by omega,rfl,hJ0,λ_=>rfl⟩ ?_
 rintro _ W2 ⟨i,hi,rfl,hJ,hW⟩ KN hKN
 unfold L178_0
 intro _
 by_cases hlt:i<T.length
 ·obtain rfl:i=0:=by omega
  obtain rfl:=hW rfl
  obtain⟨p,rfl⟩:∃p,T=[p]:=by
   cases T with
   |nil=>simp at hlt
   |cons p T=>
    cases T with
    |nil=>exact⟨p,rfl⟩
    |cons q T=>simp at hT
  refine rvS (v:=.bool true) (w' :=W2) (by simp[go_sem]) ?_
  rw[ifB_bool,if_pos rfl]
  have o1' :Own W2 27 1 s 1 [encU64 p.1]:=o1
  obtain⟨b,cap,rest,rfl,hc,hbk,-⟩:=o1'.pos (by omega)
  refine rvS (v:=.pointer (some ⟨b,0,none⟩)) (w' :=W2) (by simp[go_sem]) ?_
  refine rvS (v:=encU64 p.1) (w' :=W2) (by simp[go_sem,hp_of hbk,encU64]) ?_
  refine rvS (v:=mpt m) (w' :=W2) (by simp[go_sem,hb1]) ?_
  simp only[nilK_ptr]
  refine rvS (v:=.pointer (some ⟨m,1,none⟩)) (w' :=W2) (by simp[go_sem]) (rvS (v:=.map (some mm)) (w' :=W2) (by simp[go_sem,hm1]) ?_)
  refine rx_look (kepV (0,nilV)) uMapK kU64n zKep (.inr ⟨mm,rfl,hA1⟩) ?_
  have hlk:lk [p] p.1=some p.2:=by simp[lk]
  rw[hlk]
  refine hstep (λ_=>False) 0 [keyV p,valV p] W2 rfl hJ _ (λW3 hJ3 _ _=>?_) λW3 hJs _ _=>?_
  ·refine rvS (v:=.bool false) (w' :=W3) (by simp[go_sem]) ?_
   rw[ifB_bool,if_neg Bool.false_ne_true]
   refine rvS (v:=.int .i64 ((0+1:Nat):Int)) (w' :=W3) (by simp[go_sem]<;>decide) ?_
   refine hKN _ _ ⟨0+1,by simp,rfl,hJ3,λh=>by omega⟩ (by simp)
  ·refine rvS (v:=.bool true) (w' :=W3) (by simp[go_sem]) ?_
   rw[ifB_bool,if_pos rfl]
   exact hex _ _ hJs
 ·obtain rfl:i=T.length:=by omega
  refine rvS (v:=.bool false) (w' :=W2) (by simp[go_sem]) ?_
  rw[ifB_bool,if_neg Bool.false_ne_true]
  refine hend (λ_=>False) W2 ?_
  rw[List.length_map]
  exact hJ
def kpB:Kpt→List UInt8
 |none=>[]
 |some (c,q,b)=>natB c++(natB q++textB b)
def kpN:Kpt→Nat
 |none=>0
 |some _=>1
def mImg(S:Ven)(o:Kpt):List UInt8:=textB (staB S.state)++natB (kpN o)++kpB o
def KpFit:Kpt→Prop
 |none=>True
 |some (c,q,b)=>c<18446744073709551616∧q<18446744073709551616∧b.length≤10000
theorem kepVar(p:Kp)(hp2:∃a n c,p.2.2=.slice a n c):VarOk tKep valV kepC [p]:=λa ha W=>by
 obtain rfl:=List.mem_singleton.1 ha
 obtain⟨x,n,c,hs⟩:=hp2
 refine⟨W.alloc (.cells #[.int .u64 0,.slice none 0 0] tKep),(((W.alloc (.cells #[.int .u64 0,.slice none 0 0] tKep)).setCell ⟨W.heap.size,0,none⟩ (.int .u64 a.2.1)).setCell ⟨W.heap.size,1,none⟩ a.2.2),by simp[go_sem],?_,?_,(((Mod.refl _ W).alloc _).setCell (.inr (Nat.le_refl _)) _ _).setCell (.inr (Nat.le_refl _)) _ _⟩
 ·unfold valV kepV
  rw[hs];simp[go_sem]
 ·unfold kepC
  simp[go_sem]
set_option maxRecDepth 10000 in
set_option maxHeartbeats 1000000 in
theorem ca_simage(h:MchQ w m F S o)(hok:S.Ok)(ho:KpFit o)(hK:∀s w',OwnB w' s (mImg S o)→Mod (λ_=>False) w w' →K s w'):Ca Tryz.prog 31 #[mpt m] w K:=by
 apply ca31
 unfold F31
 refine ca_readyQ h ?_
 refine rvS (v:=.bool false) (w' :=w) (by simp[go_sem]) ?_
 rw[ifB_bool,if_neg Bool.false_ne_true]
 obtain⟨v,mm,Fv,T,h1,h2,h3,h4,h5,h6,h7,h8,h9⟩:=h.out
 have hTl:T.length=kpN o:=by
  cases o with
  |none=>rw[show T=[]from h4];rfl
  |some x=>
   obtain⟨c,q,b⟩:=x
   obtain⟨s,hs,-⟩:=h4
   rw[hs];rfl
 have hT1:T.length≤1:=by rw[hTl];cases o<;>simp[kpN]
 simp only[nilK_ptr]
 refine rvS (v:=.pointer (some ⟨m,0,none⟩)) (w' :=w) (by simp[go_sem]) (rvS (v:=vptr v) (w' :=w) (by simp[go_sem,h1,vptr]) ?_)
 refine ca_saveS h2 hok λsv w1 o1 m1 n1=>?_
 obtain⟨va,vc,hsv,-⟩:=o1.isSl
 refine rvS (v:=sv) (w' :=w1) (by rw[hsv];simp[go_sem]) (rvS (v:=.int .i64 0) (w' :=w1) (by rw[hsv];simp[go_sem]) ?_)
 have hsl:=state_len hok
 have hst5:=staB_len (state_fit hok) (by omega)
 have b1:=m1.hpk h1 id
 have A1:=h3.mod m1 id
 have hs1:=m1.size
 obtain⟨pre,hpre⟩:∃pre,pre=textB (staB S.state)++natB (kpN o):=⟨_,rfl⟩
 have hpl:pre.length≤6000000:=by
  have h1:=natB_le10 (n:=(staB S.state).length) (by omega)
  have h2:=natB_le10 (n:=kpN o) (by cases o<;>simp[kpN])
  rw[hpre,List.length_append]
  unfold textB
  rw[List.length_append]
  omega
 have hN:kpN o<18446744073709551616:=by cases o<;>simp[kpN]
 have mL:∀{W:World},hp W m=some (.cells #[vptr v,.map (some mm)] tMch (0,0))→(Instr.loadAt 76 (.pointer (some ⟨m,1,none⟩))).run Tryz.prog W=.ok (.map (some mm)) W:=λhW=>by simp[go_sem,hW]
 have lenM:∀{W:World},MapAt encU64 kepV W mm T→(Builtin.len_ #[76] 3 #[.map (some mm)]).run Tryz.prog W=.ok (.int .i64 (kpN o)) W:=λhW=>by
  rw[run_lenMap uMapK hW,hTl]
 have cvN:∀{W:World},(convert 3 27 (.int .i64 (kpN o))).run Tryz.prog W=.ok (.int .u64 (kpN o)) W:=λ{W}=>by simp[go_sem];rw[wrapU (by omega) (by omega)]
 refine JoinW.at (λst W=>∃bc s,st=(.pointer (some ⟨bc,0,none⟩),())∧hp W bc=some (.cells #[s] tBs (0,0))∧OwnB W s pre∧Mod (λ_=>False) w1 W∧w1.heap.size≤bc∧(∀y,inSl s y→w1.heap.size≤y∧y≠bc)) ?_ ?_
 ·have mdr:Mod (λ_=>False) w1 w1.drew:=(Mod.refl _ w1).drew
  have b2:=mdr.hpk b1 id
  have A2:=A1.mod mdr id
  have o2:=o1.mod mdr λ_ _ h=>h
  have hs2:w1.drew.heap.size=w1.heap.size:=rfl
  generalize w1.drew=w2 at mdr b2 A2 o2 hs2⊢
  simp only[nilK_ptr]
  have txt:∀{W:World} {K:Kont},Mod (λ_=>False) w2 W→(∀s' w',OwnB w' s' (textB (staB S.state))→Mod (λ_=>False) W w' →(∀b,inSl s' b→W.heap.size≤b)→K s' w')→Ca Tryz.prog 101 #[.slice none 0 0,sv] W K:=λhW hk=>
   ca_wtext (l:=[]) (Own.nil _ _ _) (o2.mod hW λ_ _ h=>h).rd (λb hb=>by cases hb) (by omega) (by omega) λs' w' o' m' n' =>hk s' w' (by simpa using o') (m'.mono λy _ hy=>by cases hy) λb hb=>by rcases n' b hb with h' |h';cases h';exact h'
  have hpt:(textB (staB S.state)).length≤6000000:=by rw[hpre,List.length_append]at hpl;omega
  have cell:∀{W:World} (s:Value) (sa:Option Addr) (sn sc:Nat) {b:Nat} {c0:Value},s=.slice sa sn sc→hp W b=some (.cells #[c0] tBs (0,0))→∃W',(Instr.storeAt tBs (.pointer (some ⟨b,0,none⟩)) s).run Tryz.prog W=.ok () W' ∧hp W' b=some (.cells #[s] tBs (0,0))∧Mod (λy=>y=b) W W' :=λ{W} s sa sn sc {b} {c0} hs hb=>⟨W.setCell ⟨b,0,none⟩ s,by rw[hs];simp[go_sem,hb],by simp[go_sem,hb],(Mod.refl (λy=>y=b) W).setCell (.inl rfl) _ _⟩
  have newC:∀(W:World),∃W',(Instr.alloc tBs true (.tuple #[])).run Tryz.prog W=.ok (.pointer (some ⟨W.heap.size,0,none⟩)) W' ∧hp W' W.heap.size=some (.cells #[nilV] tBs (0,0))∧Mod (λ_=>False) W W' :=λW=>⟨W.alloc (.cells #[nilV] tBs),by simp[go_sem,nilV],by simp[go_sem],(Mod.refl _ W).alloc _⟩
  refine rdPS (v:=.pointer (some ⟨m,1,none⟩)) (λW=>by simp[go_sem]) (rdWS (mL b2) ?_)
  refine⟨?_,?_⟩
  ·refine txt (Mod.refl _ _) λs3 w3 o3 m3 n3=>?_
   have b3:=m3.hpk b2 id
   have A3:=A2.mod m3 id
   refine⟨mL b3,?_⟩
   refine rdWS (lenM A3) (rdWS cvN ?_)
   have N3:∀b,inSl s3 b→w1.heap.size≤b:=λb hb=>by have:=n3 b hb;omega
   refine⟨?_,?_⟩
   ·refine ca_wnatB o3 hN (by omega) λs4 w4 o4 m4 n4=>?_
    obtain⟨sa,sc,hs4,-⟩:=o4.isSl
    obtain⟨w5,e5,b5,m5⟩:=newC w4
    refine rvS e5 ?_
    obtain⟨w6,e6,b6,m6⟩:=cell s4 _ _ _ hs4 b5
    refine ruS e6 ?_
    have hs3:=m3.size
    have hs4' :=m4.size
    have N4:∀y,inSl s4 y→w1.heap.size≤y∧y≠w4.heap.size:=λy hy=>⟨(n4 y hy).elim (N3 y) λh' =>by omega,by have:=o4.lt hy;omega⟩
    refine⟨w4.heap.size,s4,rfl,b6,?_,((((mdr.trans m3).on m4 λy hy=>.inr (N3 y hy)).trans m5).on m6 λy hy=>.inr (by omega)),by omega,N4⟩
    rw[hpre]
    exact(o4.mod m5 λ_ _ h=>h).mod m6 λy hy e=>(N4 y hy).2 e
   ·obtain⟨w4,e4,b4,m4⟩:=newC w3
    refine rvS e4 ?_
    have hbm:=m4.hpk b3 id
    have hAm:=A3.mod m4 id
    refine⟨cvN,lenM hAm,mL hbm,?_⟩
    refine ca_wnatB (o3.mod m4 λ_ _ h=>h) hN (by omega) λs5 w5 o5 m5 n5=>?_
    obtain⟨sa,sc,hs5,-⟩:=o5.isSl
    have hs3:=m3.size
    have hs4' :=m4.size
    have hbc:=lt_of_heap b4
    have hns:∀y,inSl s3 y→y<w3.heap.size:=λy hy=>o3.lt hy
    have b5:=m5.hpk b4 λhc=>by have:=hns _ hc;omega
    obtain⟨w6,e6,b6,m6⟩:=cell s5 _ _ _ hs5 b5
    refine ruS e6 ?_
    have N5:∀y,inSl s5 y→w1.heap.size≤y∧y≠w3.heap.size:=λy hy=>by
     rcases n5 y hy with h' |h'
     ·exact⟨N3 y h',by have:=hns y h';omega⟩
     ·exact⟨by omega,by omega⟩
    refine⟨w3.heap.size,s5,rfl,b6,?_,((((mdr.trans m3).trans m4).on m5 λy hy=>.inr (N3 y hy)).on m6 λy hy=>.inr (by omega)),by omega,N5⟩
    rw[hpre]
    exact o5.mod m6 λy hy e=>(N5 y hy).2 e
  ·obtain⟨w3,e3,b3c,m3⟩:=newC w2
   refine rvS e3 ?_
   have b3:=m3.hpk b2 id
   have A3:=A2.mod m3 id
   refine⟨mL b3,?_⟩
   refine txt m3 λs4 w4 o4 m4 n4=>?_
   have b4:=m4.hpk b3 id
   have A4:=A3.mod m4 id
   refine⟨mL b4,?_⟩
   refine rdWS (lenM A4) (rdWS cvN ?_)
   refine ca_wnatB o4 hN (by omega) λs5 w5 o5 m5 n5=>?_
   obtain⟨sa,sc,hs5,-⟩:=o5.isSl
   have hs3:=m3.size
   have hs4' :=m4.size
   have hbc:=lt_of_heap b3c
   have b4c:=m4.hpk b3c id
   have b5:=m5.hpk b4c λhc=>by have:=n4 _ hc;omega
   obtain⟨w6,e6,b6,m6⟩:=cell s5 _ _ _ hs5 b5
   refine ruS e6 ?_
   have N5:∀y,inSl s5 y→w1.heap.size≤y∧y≠w2.heap.size:=λy hy=>by
    rcases n5 y hy with h' |h'
    ·have:=n4 y h';exact⟨by omega,by omega⟩
    ·exact⟨by omega,by omega⟩
   refine⟨w2.heap.size,s5,rfl,b6,?_,((((mdr.trans m3).trans m4).on m5 λy hy=>.inr (by have:=n4 y hy;omega)).on m6 λy hy=>.inr (by omega)),by omega,N5⟩
   rw[hpre]
   exact o5.mod m6 λy hy e=>(N5 y hy).2 e
 rintro _ w2 ⟨bc,s,rfl,bB,oB,m2,hbc,nB⟩
 unfold J31_2
 intro _
 have M2:=m1.trans m2
 refine ca_clients hT1 (M2.hpk h1 id) (h3.mod M2 id) λgv w3 ht m3=>?_
 have bB3:=m3.hpk bB id
 have oB3:=oB.mod m3 λ_ _ h=>h
 have M3:=M2.trans m3
 have hs2:=m2.size
 have hs3:=m3.size
 have hbcl:=lt_of_heap bB
 have hkT:=h4.mod M3 λ_ _ h=>h
 have hTw:∀y,inT T y→y<w.heap.size:=λy hy=>h4.lt hy
 let I:(Nat→Prop)→Nat→World→Prop:=λX i W=>∃s',hp W bc=some (.cells #[s'] tBs (0,0))∧OwnB W s' (pre++if i=0 then []else kpB o)∧(∀y,X y↔y=bc∨inSl s' y)∧∀y,inSl s' y→w1.heap.size≤y∧y≠bc
 delta R31_0
 have hv:VarOk tKep valV kepC T:=by
  cases o with
  |none=>rw[show T=[]from h4];exact λa ha=>by cases ha
  |some x=>
   obtain⟨c,q,b⟩:=x
   obtain⟨rs,hT,hO⟩:=h4
   rw[hT]
   obtain⟨a',c',hs',-⟩:=hO.isSl
   exact kepVar _ ⟨_,_,_,hs'⟩
 refine RF_list2 (X0:=λy=>y=bc∨inSl s y) (T:=tKep) (g:=keyV) (fv:=valV) (fc:=kepC) ht hv I (λ_ _ _=>False) ?_ (λ_ _ _ _ _ h=>h.elim) (λx hx=>hx.elim (λh' =>by rw[h'];exact lt_of_heap bB3) λh' =>oB3.lt h') ⟨s,bB3,by simpa using oB3,λy=>Iff.rfl,nB⟩ ?_ ?_ (λ_ _ _ _ _ h=>h.elim)
 ·rintro X i W W' H ⟨s',i1,i2,i3,i4⟩ hm hX
  exact⟨s',hm.hpk i1 (hX _ ((i3 _).2 (.inl rfl))),i2.mod hm λy hy=>hX y ((i3 y).2 (.inr hy)),i3,i4⟩
 ·rintro X i hi W qk ⟨s',i1,i2,i3,i4⟩ mW hX hdq hqW gq KN KJ hKN hKJ
  cases o with
  |none=>rw[show T=[]from h4]at hi;simp at hi
  |some x=>
   obtain⟨c,q,b⟩:=x
   obtain⟨rs,hT,hO⟩:=hkT
   subst hT
   obtain rfl:i=0:=by simpa using hi
   have i2' :OwnB W s' pre:=by simpa using i2
   have hRw:∀y,inRd rs y→y<w.heap.size:=λy hy=>by
    obtain⟨rs2,e2,hO2⟩:=id h4
    obtain rfl:rs=rs2:=by cases e2;rfl
    exact hO2.rd.lt hy
   obtain⟨ra,rc,hrs,-⟩:=hO.isSl
   have hinT:∀y,inSl rs y→inT [(c,(q,rs))] y:=λy hy=>⟨_,List.mem_singleton_self _,hy⟩
   have hOW:=hO.mod mW λy hy hc=>by
    have:=hTw y (hinT y hy)
    rcases hc with hc|hc
    ·omega
    ·have:=(nB y hc).1;omega
   have gq' :hp W qk=some (.cells #[.int .u64 q,rs] tKep (0,0)):=gq
   obtain⟨hc64,hq64,hb3⟩:=ho
   have mdr:Mod (λ_=>False) W W.drew:=(Mod.refl _ W).drew
   have z1:=mdr.hpk i1 id
   have z2:=i2'.mod mdr λ_ _ h=>h
   have zq:=mdr.hpk gq' id
   have zO:=hOW.mod mdr λ_ _ h=>h
   have hsd:W.drew.heap.size=W.heap.size:=rfl
   generalize W.drew=W0 at mdr z1 z2 zq zO hsd⊢
   obtain⟨pa,pc,hs',-⟩:=z2.isSl
   have hXq:∀y,inSl s' y→y<qk:=λy hy=>(hX y ((i3 y).2 (.inr hy))).1
   have hbq:bc<qk:=(hX bc ((i3 bc).2 (.inl rfl))).1
   have lq:∀{W:World},hp W qk=some (.cells #[.int .u64 q,rs] tKep (0,0))→(Instr.loadAt 27 (.pointer (some ⟨qk,0,none⟩))).run Tryz.prog W=.ok (.int .u64 q) W∧(Instr.loadAt tBs (.pointer (some ⟨qk,1,none⟩))).run Tryz.prog W=.ok rs W:=λhW=>by
    rw[hrs]at hW⊢
    constructor<;>simp[go_sem,hW]
   refine rdWS (v:=s') (by rw[hs']at z1⊢;simp[go_sem,z1]) ?_
   refine rdPS (v:=.pointer (some ⟨qk,0,none⟩)) (λW=>by simp[go_sem]) (rdWS (lq zq).1 ?_)
   refine rdPS (v:=.pointer (some ⟨qk,1,none⟩)) (λW=>by simp[go_sem]) (rdWS (lq zq).2 ?_)
   show Ca Tryz.prog 100 #[s',.int .u64 c] W0 _
   refine ca_wnatB z2 hc64 (by omega) λs4 W4 o4 m4 n4=>?_
   have lc:=natB_le10 hc64
   have lqq:=natB_le10 hq64
   have hn4:∀y,inSl s4 y→inSl s' y∨W0.heap.size≤y:=n4
   have q4:=m4.hpk zq λhc=>by have:=hXq _ hc;omega
   have O4:=zO.mod m4 λy hy hc=>by have:=hTw y (hinT y hy);have:=(i4 y hc).1;omega
   refine⟨(lq q4).2,(lq q4).1,?_⟩
   refine ca_wnatB o4 hq64 (by rw[List.length_append];omega) λs5 W5 o5 m5 n5=>?_
   have hqlt:qk<W0.heap.size:=lt_of_heap zq
   have hk4:∀y,inSl s4 y→y≠qk∧y≠bc∧w1.heap.size≤y:=λy hy=>by
    rcases hn4 y hy with h' |h'
    ·exact⟨by have:=hXq y h';omega,(i4 y h').2,(i4 y h').1⟩
    ·exact⟨by omega,by omega,by omega⟩
   have q5:=m5.hpk q4 λhc=>(hk4 _ hc).1 rfl
   have O5:=O4.mod m5 λy hy hc=>by have:=hTw y (hinT y hy);have:=(hk4 y hc).2.2;omega
   refine⟨(lq q5).2,?_⟩
   have hs04:=m4.size
   have hk5:∀y,inSl s5 y→y≠qk∧y≠bc∧w1.heap.size≤y:=λy hy=>by
    rcases n5 y hy with h' |h'
    ·exact hk4 y h'
    ·exact⟨by omega,by omega,by omega⟩
   refine ca_wtext o5 O5.rd (λy hy hc=>by have:=hRw y hc;have:=(hk5 y hy).2.2;omega) (by omega) (by simp only[List.length_append];omega) λs6 W6 o6 m6 n6=>?_
   have z14:=m4.hpk z1 λhc=>(i4 _ hc).2 rfl
   have z15:=m5.hpk z14 λhc=>(hk4 _ hc).2.1 rfl
   have z16:=m6.hpk z15 λhc=>(hk5 _ hc).2.1 rfl
   obtain⟨ta,tc,hs6,-⟩:=o6.isSl
   have hs05:=m5.size
   have hk6:∀y,inSl s6 y→y≠bc∧w1.heap.size≤y∧(inSl s' y∨W0.heap.size≤y):=λy hy=>by
    rcases n6 y hy with h' |h'
    ·refine⟨(hk5 y h').2.1,(hk5 y h').2.2,?_⟩
     rcases n5 y h' with h'' |h''
     ·exact hn4 y h''
     ·exact .inr (by omega)
    ·exact⟨by omega,by omega,.inr (by omega)⟩
   refine ruS (w' :=W6.setCell ⟨bc,0,none⟩ s6) (by rw[hs6];simp[go_sem,z16]) ?_
   have mS:Mod (λy=>y=bc) W6 (W6.setCell ⟨bc,0,none⟩ s6):=(Mod.refl (λy=>y=bc) W6).setCell (.inl rfl) _ _
   have bS:hp (W6.setCell ⟨bc,0,none⟩ s6) bc=some (.cells #[s6] tBs (0,0)):=by simp[go_sem,z16]
   generalize W6.setCell ⟨bc,0,none⟩ s6=W7 at mS bS⊢
   have o7:=o6.mod mS λy hy e=>(hk6 y hy).1 e
   have hXs' :∀y,inSl s' y→X y:=λy hy=>(i3 y).2 (.inr hy)
   have up:∀{s:Value} {A B:World},(∀y,inSl s y→inSl s' y∨W0.heap.size≤y)→Mod X W A→Mod (inSl s) A B→Mod X W B:=λa m m' =>m.on m' λy hy=>(a y hy).imp (hXs' y) λh' =>by omega
   have n5' :∀y,inSl s5 y→inSl s' y∨W0.heap.size≤y:=λy hy=>by
    rcases n5 y hy with h'' |h''
    ·exact hn4 y h''
    ·exact .inr (by omega)
   have MX:Mod X W W7:=(up n5' (up hn4 (up (λy hy=>.inl hy) (mdr.mono λ_ _ h=>h.elim) m4) m5) m6).trans (mS.mono λy _ hy=>(i3 y).2 (.inl hy))
   refine hKN (λy=>y=bc∨inSl s6 y) W7 ⟨s6,bS,?_,λy=>Iff.rfl,λy hy=>⟨(hk6 y hy).2.1,(hk6 y hy).1⟩⟩ MX λy hy=>?_
   ·have e:pre++(if 0+1=0 then []else kpB (some (c,q,b)))=pre++natB c++natB q++textB b:=by simp[kpB,List.append_assoc]
    rw[e]
    unfold OwnB
    have hlen:(pre++natB c++natB q++textB b).length=(pre++natB c++natB q).length+(textB b).length:=by rw[List.length_append]
    rw[hlen]
    exact o7
   ·rcases hy with rfl|hy
    ·exact⟨.inl ((i3 _).2 (.inl rfl)),lt_of_heap bS⟩
    ·exact⟨(hk6 y hy).2.2.imp (hXs' y) λh' =>by omega,o7.lt hy⟩
 ·rintro X W d hd ⟨s',i1,i2,i3,i4⟩ mW hdef hX
  unfold A31_1
  simp only[afterK]
  obtain⟨sa,sc,hsl,-⟩:=i2.isSl
  refine rvS (v:=s') (w' :=W) (by rw[hsl]at i1⊢;simp[go_sem,i1]) ?_
  refine retV1 hdef λW2 mz=>?_
  refine hK s' W2 ?_ ((M3.on mW λy hy=>?_).on mz λy hy=>.inr (by omega))
  ·have e:mImg S o=pre++if T.length=0 then []else kpB o:=by
    rw[hTl,hpre]
    unfold mImg
    cases o with
    |none=>rfl
    |some x=>rfl
   rw[e]
   refine i2.mod mz λy hy e=>?_
   rcases(hX y ((i3 y).2 (.inr hy))).2 with h' |h'
   ·rcases h' with h' |h'
    ·have:=(i4 y hy).2;omega
    ·have:=oB3.lt h';omega
   ·omega
  ·rcases hy with hy|hy
   ·exact .inr (by omega)
   ·exact .inr (by have:=(nB y hy).1;omega)
end
end Go.Proofs
namespace Go.Proofs
open Go Go.Vc
attribute [local congr] Ca_congV
theorem app0_ok{S:Ven}(h:S.Ok)(hc:S.cal=⟨0,[]⟩)(hL:S.led=noLed){x:Cm}(hx:x.Fit):(S.app0 x).2.Ok:=by
 unfold Ven.app0
 split
 ·exact h
 ·split
  ·exact h
  ·rename_i he
   replace he:(S.done0 x).1=0:=by simpa using he
   obtain⟨f1,f2,f3,f4,f5,f6,f7,f8,f9⟩:=hx
   show(S.done0 x).2.2.Ok
   unfold Ven.done0 at he⊢
   by_cases k1:x.kind=1
   ·rw[if_pos k1];exact deposit_ok h f2
   rw[if_neg k1]at he⊢
   by_cases k2:x.kind=2
   ·rw[if_pos k2]at he
    rw[hL]at he
    exact absurd he (wd_no _ _)
   rw[if_neg k2]at he⊢
   by_cases k3:x.kind=3
   ·rw[if_pos k3]at he⊢
    replace he:(calList S.cal x.spec).1=0:=he
    have:=list_ok h f6 he
    simp only
    rw[if_pos he]
    exact this
   rw[if_neg k3]at he⊢
   by_cases k4:x.kind=4
   ·rw[if_pos k4]at he
    rw[hc]at he
    exact absurd he (by show(7:Int)≠0;decide)
   rw[if_neg k4]at he⊢
   by_cases k11:x.kind=11
   ·rw[if_pos k11]at he
    rw[hc]at he
    exact absurd he (by show(7:Int)≠0;decide)
   rw[if_neg k11]at he⊢
   by_cases k12:x.kind=12
   ·rw[if_pos k12]
    have:=h.day
    rw[hc]at this
    exact this
   rw[if_neg k12]at he⊢
   by_cases k14:x.kind=14
   ·rw[if_pos k14]at he
    exact absurd he (by show(7:Int)≠0;decide)
   rw[if_neg k14]at he⊢
   by_cases k0:x.acct=0
   ·rw[if_pos k0]at he
    exact absurd he (by show(2:Int)≠0;decide)
   ·rw[if_neg k0]at he
    exact absurd he (by show(7:Int)≠0;decide)
theorem do0_ok{S:Ven}(h:S.Ok)(hc:S.cal=⟨0,[]⟩)(hL:S.led=noLed)(l:List UInt8):(S.do0 l).2.Ok∧(S.do0 l).1.length≤10:=by
 unfold Ven.do0
 cases hX:rdCm l with
 |none=>exact⟨h,repB_len 160 (by decide)⟩
 |some x=>
  obtain⟨e,he,hr⟩:=app0_rp S x
  refine⟨app0_ok h hc hL (rdCm_fit hX).1,?_⟩
  show(repB (S.app0 x).1.err).length≤10
  rw[hr]
  exact repB_len e (by omega)
theorem sOut_ok(l:List UInt8):(sOut l).S.Ok∧KpFit (sOut l).o:=by
 have hl:=rdT_len' l
 have hd:=do0_ok empty_ok rfl rfl (rdT l).1.b
 unfold sOut
 split
 ·exact⟨empty_ok,trivial⟩
 ·exact⟨hd.1,hl.2.1,by decide,by have:=hd.2;omega⟩
section
variable{w:World}{K:Kont}{m:Nat}{F:Nat→Prop}{S:Ven}
theorem ca_slastQ{c:Nat}(h:MchQ w m F S none)(hK:K (.int .u64 0) w):Ca Tryz.prog 30 #[mpt m,encU64 c] w K:=by
 obtain⟨v,mm,Fv,T,h1,h2,h3,h4,-⟩:=h.out
 have hT0:T=[]:=h4
 subst hT0
 apply ca30
 unfold F30
 refine rvS (v:=.bool false) (w' :=w) (by simp[go_sem]) ?_
 rw[ifB_bool,if_neg Bool.false_ne_true]
 simp only[nilK_ptr]
 refine rvS (v:=.pointer (some ⟨m,1,none⟩)) (w' :=w) (by simp[go_sem]) ?_
 refine rvS (v:=.map (some mm)) (w' :=w) (by simp[go_sem,h1]) ?_
 refine rx_look (kepV (0,nilV)) uMapK kU64n zKep (.inr ⟨mm,rfl,h3⟩) ?_
 simp only[lk,Option.elim,kepV]
 refine rvS (v:=.int .u64 0) (w' :=w) (fldKep 0 nilV w) ?_
 exact hK
end
theorem ca_sknown{w:World}{K:Kont}(hK:∀w',Mod (λ_=>False) w w' →K (.bool true) w'):Ca Tryz.prog 27 #[] w K:=by
 apply ca27
 unfold F27
 refine rx_lit [.int .u8 120] uBs (elemT_of u8E) rfl rfl (by simp[Value.cells]) (by omega) ?_
 have m1:Mod (λ_=>False) w (w.alloc (.cells #[.int .u8 120] 5)):=(Mod.refl _ w).alloc _
 have e0:(([.int .u8 120]:List Value).flatMap (·.cells.toList)).toArray= #[.int .u8 120]:=rfl
 rw[e0]
 have hb1:(w.alloc (.cells #[.int .u8 120] 5)).heap[w.heap.size]? =some (.cells #[.int .u8 120] 5 (0,0)):=by rw[heap_alloc,if_pos rfl]
 refine rx_mark uBs (by kernel_rfl) hb1 ?_
 have m2:Mod (λ_=>False) w ((w.alloc (.cells #[.int .u8 120] 5)).freeze ⟨w.heap.size,1,none⟩ 1):=m1.freeze (.inr (Nat.le_refl _)) _
 have r2:Rd ((w.alloc (.cells #[.int .u8 120] 5)).freeze ⟨w.heap.size,1,none⟩ 1) 1 (.slice (some ⟨w.heap.size,0,none⟩) 1 1) 1 (bv [120]):=by
  refine⟨rfl,.inr ⟨_,0,1,rfl,Nat.le_refl _,⟨#[.int .u8 120],5,markFz (0,0) 1,?_,by simp,rfl⟩⟩⟩
  rw[heap_freeze1,if_pos rfl,hb1]
 show rv _ _ ((w.alloc (.cells #[.int .u8 120] 5)).freeze ⟨w.heap.size,1,none⟩ 1) _
 generalize(w.alloc (.cells #[.int .u8 120] 5)).freeze ⟨w.heap.size,1,none⟩ 1=w2 at m2 r2⊢
 refine rvS (v:=tnV 1 2 (.slice (some ⟨w.heap.size,0,none⟩) 1 1)) (w' :=w2) (by simp[go_sem,tnV]) ?_
 refine ca_sbytes (o:=⟨1,2,[120]⟩) r2 (by decide) (by decide) (by decide) λs l e w3 hle o3 m3 n3=>?_
 have hmay:(⟨1,2,[120]⟩:Tn).May:=by decide
 rw[if_pos hmay]at hle
 obtain⟨hl,rfl⟩:=hle
 have hT:turnB ⟨1,2,[120]⟩=[1,2,1,120]:=by
  simp[turnB,textB,natB_lt]
 rw[hT]at hl
 subst hl
 refine rvS (v:=s) (w' :=w3) (by simp[go_sem]) ?_
 refine rvS (v:=.int .i64 0) (w' :=w3) (by simp[go_sem]) ?_
 refine ca_snewQ λm F4 w4 h4 m4 n4=>?_
 have hR:rdT [1,2,1,120]=(⟨1,2,[120]⟩,0):=by
  unfold rdT
  rw[←hT,turnR_of hmay (by decide)]
 have hZ:sOut [1,2,1,120]=⟨0,0,false,Ven.empty,none⟩:=by
  unfold sOut
  rw[hR,if_pos (.inr (by decide))]
 refine ca_sapplyI (l:=[1,2,1,120]) (.new h4) (o3.mod m4 λ_ _ h=>h).rd (by decide) λF5 w5 h5 m5 n5=>?_
 rw[hZ]at h5⊢
 have hs4:=(m2.trans m3).size
 have o5:=(o3.mod m4 λ_ _ h=>h).mod m5 λy hy hc=>by have:=n4 y hc;have:=o3.lt hy;omega
 refine rvS (v:=.int .u64 0) (w' :=w5) (by simp[go_sem]) ?_
 refine rvS (v:=.int .u64 0) (w' :=w5) (by simp[go_sem]) ?_
 refine rvS (v:=.bool false) (w' :=w5) (by simp[go_sem]) ?_
 refine rvS (v:=.bool true) (w' :=w5) (by simp[go_sem]) ?_
 rw[ifB_bool,if_pos rfl]
 refine rx_toStr uBs (by kernel_rfl) (by kernel_rfl) o5.rd ?_
 refine rvS (v:=.bool true) (w' :=w5) (by simp[go_sem];try rfl) ?_
 rw[ifB_bool,if_pos rfl]
 refine rvS (v:=.bool true) (w' :=w5) (by simp[go_sem]) ?_
 rw[ifB_bool,if_pos rfl]
 refine ca_slastQ (c:=1) h5 ?_
 refine rvS (v:=.bool true) (w' :=w5) (by simp[go_sem]) ?_
 exact hK _ (((m2.trans m3).trans m4).on m5 λy hy=>.inr (by have:=n4 y hy;omega))
section
variable{w:World}{K:Kont}
theorem ca_lastN{c:Value}(hK:K (.int .u64 0) w):Ca Tryz.prog 30 #[.pointer none,c] w K:=by
 apply ca30
 unfold F30
 refine rvS (v:=.bool true) (w' :=w) (by simp[go_sem]) ?_
 rw[ifB_bool,if_pos rfl]
 exact hK
theorem ca_replyN{c:Value}{q:Int}(hK:K (.tuple #[.slice none 0 0,.bool false]) w):Ca Tryz.prog 29 #[.pointer none,c,.int .u64 q] w K:=by
 apply ca29
 unfold F29
 refine JoinW.at (λst W=>st=(.bool true,())∧w=W) ?_ ?_
 ·by_cases h0:q=0
  ·refine rvS (v:=.bool true) (w' :=w) (by simp[go_sem,h0]) ?_
   rw[ifB_bool,if_pos rfl]
   exact⟨rfl,rfl⟩
  ·refine rvS (v:=.bool false) (w' :=w) (by simp[go_sem,h0]) ?_
   rw[ifB_bool,if_neg Bool.false_ne_true]
   refine ca_lastN ?_
   refine rvS (v:=.bool true) (w' :=w) (by simp[go_sem];omega) ?_
   exact⟨rfl,rfl⟩
 rintro _ _ ⟨rfl,rfl⟩
 unfold J29_0
 intro _
 rw[ifB_bool,if_pos rfl]
 exact hK
theorem ca_imageNn(hK:K (.slice none 0 0) w):Ca Tryz.prog 31 #[.pointer none] w K:=by
 apply ca31
 unfold F31
 refine ca_readyN ?_
 refine rvS (v:=.bool true) (w' :=w) (by simp[go_sem]) ?_
 rw[ifB_bool,if_pos rfl]
 exact hK
theorem ca_copyN(hK:K (.pointer none) w):Ca Tryz.prog 32 #[.pointer none] w K:=by
 apply ca32
 unfold F32
 refine ca_readyN ?_
 refine rvS (v:=.bool true) (w' :=w) (by simp[go_sem]) ?_
 rw[ifB_bool,if_pos rfl]
 exact hK
theorem ca_venueN(hK:K (.pointer none) w):Ca Tryz.prog 33 #[.pointer none] w K:=by
 apply ca33
 unfold F33
 refine ca_readyN ?_
 refine rvS (v:=.bool true) (w' :=w) (by simp[go_sem]) ?_
 rw[ifB_bool,if_pos rfl]
 exact hK
theorem ca_sapplyN{v:Value}{l:List UInt8}(hv:Rd w 1 v l.length (bv l))(hl:l.length≤1000000000)
  (hK:∀w',Mod (λ_=>False) w w' →K (.tuple #[.int .u64 0,.int .u64 0,.bool false]) w'):Ca Tryz.prog 28 #[.pointer none,v] w K:=by
 apply ca28
 unfold F28
 refine ca_sread hv hl λv2 w1 o1 m1 n1=>?_
 generalize rdT l=T at*
 refine rvS (v:=tnV T.1.c T.1.q v2) (w' :=w1) (by simp[go_sem]) ?_
 refine rvS (v:=.int .i64 T.2) (w' :=w1) (by simp[go_sem]) ?_
 have m2:Mod (λ_=>False) w1 (w1.alloc (.cells #[.int .u64 0,.int .u64 0,.slice none 0 0] 186)):=(Mod.refl _ w1).alloc _
 refine rvS (v:=.pointer (some ⟨w1.heap.size,0,none⟩)) (w' :=w1.alloc (.cells #[.int .u64 0,.int .u64 0,.slice none 0 0] 186)) (by simp[go_sem]) ?_
 obtain⟨p,hp0⟩:∃p,p=w1.heap.size:=⟨_,rfl⟩
 have hb2:hp (w1.alloc (.cells #[.int .u64 0,.int .u64 0,.slice none 0 0] 186)) p=some (.cells #[.int .u64 0,.int .u64 0,.slice none 0 0] 186 (0,0)):=by rw[hp0];simp[go_sem]
 rw[←hp0]
 have hpw:w.heap.size≤p:=by have:=m1.size;omega
 generalize w1.alloc (.cells #[.int .u64 0,.int .u64 0,.slice none 0 0] 186)=w2 at m2 hb2⊢
 obtain⟨a2,c2,hv2,-⟩:=o1.isSl
 obtain⟨w3,hs3,b3,m3⟩:=stTn (x:=T.1.c) (y:=T.1.q) (v:=v2) hb2 ⟨_,_,_,hv2⟩
 refine ruS hs3 ?_
 refine JoinW.at (λst W=>st=(.bool true,())∧w3=W) ?_ ?_
 ·refine ca_readyN ?_
  refine rvS (v:=.bool true) (w' :=w3) (by simp[go_sem]) ?_
  rw[ifB_bool,if_pos rfl]
  exact⟨rfl,rfl⟩
 rintro _ _ ⟨rfl,rfl⟩
 unfold J28_1
 intro _
 rw[ifB_bool,if_pos rfl]
 exact hK w3 ((m1.trans m2).on m3 λb hb=>.inr (by omega))
set_option maxRecDepth 10000 in
theorem ca_sessionNone{v:Value}{l:List UInt8}{cl q:Int}(h:Rd w 1 v l.length (bv l))(hK:∀w',Mod (λ_=>False) w w' →K (.bool true) w'):Ca Tryz.prog 9 #[v,.int .u64 cl,.int .u64 q] w K:=by
 apply ca9
 unfold F9
 obtain⟨a,c,hv⟩:=h.isSl
 refine rnS (v:=.int .i64 (l.length:Int)) (w' :=w) (by rw[hv];simp[go_sem]) ?_
 refine rvS (v:=.bool (decide (3000<l.length))) (w' :=w) (by simp[go_sem];omega) ?_
 by_cases h3:3000<l.length
 ·rw[ifB_bool,if_pos (by simpa using h3)]
  exact ca_sknown λw' m=>hK w' m
 rw[ifB_bool,if_neg (by simpa using h3)]
 have hl:l.length≤1000000000:=by omega
 obtain⟨z,hz⟩:∃z,z=w.heap.size:=⟨_,rfl⟩
 have m1:Mod (λ_=>False) w (w.alloc (.cells #[.pointer none,.map none] tMch)):=(Mod.refl _ w).alloc _
 have b1:hp (w.alloc (.cells #[.pointer none,.map none] tMch)) z=some (.cells #[.pointer none,.map none] tMch (0,0)):=by rw[hz];simp[go_sem]
 refine rvS (v:=mpt z) (w' :=w.alloc (.cells #[.pointer none,.map none] tMch)) (by rw[hz];simp[go_sem]) ?_
 generalize w.alloc (.cells #[.pointer none,.map none] tMch)=w1 at m1 b1⊢
 have h1:=h.mod m1 λ_ _ h=>h
 refine ca_sapplyN h1 hl λw2 m2=>?_
 refine rvS (v:=.int .u64 0) (w' :=w2) (by simp[go_sem]) (rvS (v:=.int .u64 0) (w' :=w2) (by simp[go_sem]) (rvS (v:=.bool false) (w' :=w2) (by simp[go_sem]) ?_))
 refine ca_replyN ?_
 refine rvS (v:=.slice none 0 0) (w' :=w2) (by simp[go_sem]) (rvS (v:=.bool false) (w' :=w2) (by simp[go_sem]) ?_)
 refine JoinW.at (λst W=>st=(.bool false,())∧w2=W) ?_ ?_
 ·rw[ifB_bool,if_neg Bool.false_ne_true,ifB_bool,if_neg Bool.false_ne_true]
  refine ca_lastN ?_
  refine rvS (v:=.bool false) (w' :=w2) (by simp[go_sem]) ?_
  rw[ifB_bool,if_neg Bool.false_ne_true]
  refine ca_imageNn ?_
  refine rnS (v:=.int .i64 0) (w' :=w2) (by simp[go_sem]) ?_
  refine rvS (v:=.bool false) (w' :=w2) (by simp[go_sem]) ?_
  rw[ifB_bool,if_neg Bool.false_ne_true]
  refine ca_copyN ?_
  refine rvS (v:=.bool false) (w' :=w2) (by simp[go_sem]) ?_
  rw[ifB_bool,if_neg Bool.false_ne_true]
  refine ca_venueN ?_
  refine rvS (v:=.bool false) (w' :=w2) (by simp[go_sem]) ?_
  exact⟨rfl,rfl⟩
 rintro _ _ ⟨rfl,rfl⟩
 unfold J9_0
 intro _
 rw[ifB_bool,if_neg Bool.false_ne_true]
 have b2:=m2.hpk b1 id
 have M2:=m1.trans m2
 refine ca_snewQ λn Fn w3 q3 m3 n3=>?_
 have b3:=m3.hpk b2 id
 have M3:=M2.trans m3
 have hzl:z<w2.heap.size:=lt_of_heap b2
 obtain⟨hok,hkf⟩:=sOut_ok l
 have hsO:=sOut l
 obtain⟨Z,hZ⟩:∃Z,Z=sOut l:=⟨_,rfl⟩
 rw[←hZ]at hok hkf
 have hR3:=h.mod M3 λ_ _ h=>h
 refine ca_sapplyI (l:=l) (.zero b3 (F:=λy=>y=z) λy=>Iff.rfl) hR3 hl λFz w4 qz m4 nz=>?_
 rw[←hZ]at qz⊢
 refine rvS (v:=.int .u64 Z.c) (w' :=w4) (by simp[go_sem]) (rvS (v:=.int .u64 Z.q) (w' :=w4) (by simp[go_sem]) (rvS (v:=.bool Z.d) (w' :=w4) (by simp[go_sem]) ?_))
 have hs2:=m2.size
 have hs3:=m3.size
 have q4:=q3.mod m4 λy hy e=>by have:=n3 y hy;omega
 have hvw:∀y,inRd v y→y<w.heap.size:=λy hy=>h.lt hy
 have hR4:=hR3.mod m4 λy hy e=>by have:=hvw y hy;omega
 have M4:Mod (λ_=>False) w w4:=M3.on m4 λy hy=>.inr (by omega)
 refine ca_sapplyI (l:=l) (.new q4) hR4 hl λFn' w5 qn m5 nn=>?_
 rw[←hZ]at qn⊢
 have hs4:=m4.size
 have qz5:=qz.mod m5 λy hy hc=>by
  have h1:=q3.lt hc
  have h2:=n3 y hc
  rcases nz y hy with h' |h'
  ·omega
  ·omega
 have hm1s:=m1.size
 have M5:Mod (λ_=>False) w w5:=M4.on m5 λy hy=>.inr (by have:=n3 y hy;omega)
 refine rvS (v:=.int .u64 Z.c) (w' :=w5) (by simp[go_sem]) (rvS (v:=.int .u64 Z.q) (w' :=w5) (by simp[go_sem]) (rvS (v:=.bool Z.d) (w' :=w5) (by simp[go_sem]) ?_))
 refine rdPS (v:=.bool true) (λW=>by simp[go_sem]) ?_
 rw[ifB_bool,if_pos rfl]
 refine rdPS (v:=.bool true) (λW=>by simp[go_sem]) ?_
 rw[ifB_bool,if_pos rfl]
 refine rdPS (v:=.bool true) (λW=>by simp[go_sem]) ?_
 rw[ifB_bool,if_pos rfl]
 have md:Mod (λ_=>False) w5 w5.drew:=(Mod.refl _ w5).drew
 have qz6:=qz5.mod md λ_ _ h=>h
 have qn6:=qn.mod md λ_ _ h=>h
 have M6:=M5.trans md
 generalize w5.drew=w6 at md qz6 qn6 M6⊢
 refine ca_simage qz6 hok hkf λs7 w7 o7 m7=>?_
 refine rdX_of (run_toStr uBs (by kernel_rfl) (by kernel_rfl) o7.rd) ?_
 refine ca_simage (qn6.mod m7 λ_ _ h=>h) hok hkf λs8 w8 o8 m8=>?_
 refine⟨run_toStr uBs (by kernel_rfl) (by kernel_rfl) (o7.mod m8 λ_ _ h=>h).rd,?_⟩
 refine rdX_of (run_toStr uBs (by kernel_rfl) (by kernel_rfl) o8.rd) ?_
 refine rdPS (v:=.bool true) (λW=>by simp[go_sem]) ?_
 rw[ifB_bool,if_pos rfl]
 exact ca_sknown λw9 m9=>hK w9 (((M6.trans m7).trans m8).trans m9)
end
end Go.Proofs
namespace Go.Proofs.YtgebhcgmckjbbaaGreat.sessionNone
open Go Go.Vc Go.Proofs Go.ChangeShapes Go.WideShapes Go.ChangeAt Go.RowKit
set_option maxRecDepth 100000 in
theorem lifted(os:Os)(started:os.Started)(H:Type)(enc:TypeId×Value→H):
  ReturnsInHanded {} Tryz.checked os 9 .any (Rows.sessionNoneSpec.pre6 enc Tryz.prog Tryz.f9 Rows.sessionNoneRow.domain false) (Rows.sessionNoneSpec.post enc Tryz.prog Tryz.f9 false true false false):=by
 refine returnsInHanded_of_change_sized (C:=Tryz.checked) own started (by kernel_rfl) Tryz.func9
  (ChangeSpec.witness6 (enc:=enc) (C:=Tryz.checked) false ⟨#[],#[.slice none 0 0,.int .u64 0,.int .u64 0],[]⟩ 8 (by kernel_rfl) (by kernel_rfl) (by kernel_rfl) (by kernel_rfl)) ?_
 intro W base args ds gs before hval0 hW hcnd hwt0 _
 have hval:∀(j:Nat) t v,Tryz.f9.params[j]? =some t→args[j]? =some v→Value.okWide Tryz.prog W .any base t v:=hval0
 have hwt:(DataW.weightsEach Tryz.prog (Tryz.f9.params.toList++[]) (ds++gs)).all (·≤reachBytes)=true:=hwt0
 have hW' :=hW
 obtain⟨p,q,hA0,hV,rfl,hfz,hnd⟩:=hW
 have hA:DataW.TrodAll enc Tryz.prog W 0 (λ_=>true) true Tryz.f9.params.toList args.toList ds p:=hA0
 rw[Tryz.params9]at hA hval hwt
 obtain⟨v0,vs0,d0,ds0,p0,q0,hargs,rfl,rfl,h0,r0⟩:=trodAll_cons hA
 obtain⟨v1,vs1,d1,ds1,p1,q1,rfl,rfl,rfl,h1,r1⟩:=trodAll_cons r0
 obtain⟨v2,vs2,d2,ds2,p2,q2,rfl,rfl,rfl,h2,r2⟩:=trodAll_cons r1
 obtain⟨rfl,rfl,rfl⟩:=trodAll_nil r2
 obtain rfl:args= #[v0,v1,v2]:=by cases args;simp_all
 obtain⟨rfl,rfl⟩:=trodVars_none hV
 obtain⟨b0,hb0⟩:=open_bs Tryz.underlying54 Tryz.underlying5 (by kernel_rfl) (hval 0 54 v0 rfl rfl) h0
 obtain⟨a1,rfl,rfl,rfl,w1⟩:=open_int Tryz.underlying27 (hval 1 27 v1 rfl rfl) h1
 obtain⟨a2,rfl,rfl,rfl,w2⟩:=open_int Tryz.underlying27 (hval 2 27 v2 rfl rfl) h2
 clear hA0 hval0
 refine Calls.mono (ca_sessionNone (K:=λv w' =>v=.bool true∧Mod (λ_=>False) W w') hb0 λw' hm=>⟨rfl,hm⟩).out ?_
 rintro e W' ⟨v,rfl,rfl,hm⟩
 exact⟨_,rfl,post_of_mod laidOut (by kernel_rfl) rfl hW' hm (by kernel_rfl) Tryz.underlying4 rfl⟩
theorem holds:Rows.SessionNoneSaid:=
 OpenClaim.holds_of_wide 9 Tryz.f9 rfl rfl rfl rfl rfl rfl rfl ⟨rfl,rfl,rfl,rfl,rfl⟩ rfl rfl rfl rfl rfl (by kernel_rfl) Tryz.func9 closed
  (of_decide_eq_true (by kernel_rfl)) (by unfold Func.isWrapper;first|(rw[if_pos (by decide+kernel)];kernel_rfl)|(rw[if_neg (by decide+kernel)];exact⟨rfl,rfl⟩))
  (λos started H enc _=>lifted os started H enc)
end Go.Proofs.YtgebhcgmckjbbaaGreat.sessionNone
