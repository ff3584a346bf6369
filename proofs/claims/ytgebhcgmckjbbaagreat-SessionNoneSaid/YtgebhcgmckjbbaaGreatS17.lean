/- Part of a proof. -/
import Derived.Test.YtgebhcgmckjbbaaGreatS15
import Derived.Test.YtgebhcgmckjbbaaGreatS16
set_option linter.all false

namespace Go.Proofs
open Go Go.Vc
attribute [local congr] Ca_congV
section
variable{w:World}{gv:Value}{α:Type}{xs:List α}{fv:α→Value}{asg:Value→World→(Value→World→Prop)→Prop}{Pv:α→Value→Nat→World→Prop}{body:Nat→Value→World→(World→Prop)→(Code→World→Prop)→Prop}{after:List Nat→Option Code→World→Prop}{X0:Nat→Prop}
theorem RF_outQ(ht:TellsM gv (xs.map λa=>[fv a]) w)(hasg:∀a∈xs,∀(W:World) (K:Value→World→Prop),(∀w2 v,Pv a v W.heap.size w2→Mod (λ_=>False) W w2→K v w2)→asg (fv a) W K)
  (hPv:∀a v q W W' H,Pv a v q W→Mod H W W' →¬H q→Pv a v q W')
  (I:(Nat→Prop)→Nat→World→Prop)(Ex:Code→(Nat→Prop)→World→Prop)
  (hst:∀X i W W' H,I X i W→Mod H W W' →(∀b,X b→¬H b)→I X i W')
  (hsx:∀c X W W' H,Ex c X W→Mod H W W' →(∀b,X b→¬H b)→Ex c X W')
  (hX0:∀b,X0 b→b<w.heap.size)(h0:I X0 0 w)
  (hstep:∀X i (hi:i<xs.length) W q v,I X i W→Mod X0 w W→(∀b,X b→b<q∧(X0 b∨w.heap.size+1<b))→w.heap.size+1<q→q≤W.heap.size→Pv xs[i] v q W→(∃r,hp W (w.heap.size+1)=some (.loop r))→∀KN KJ,
   (∀X' W',I X' (i+1) W' →Mod (λb=>X b∨q≤b) W W' →(∀b,X' b→(X b∨W.heap.size≤b)∧b<W'.heap.size)→KN W')→
   (∀c X' W',Ex c X' W' →Mod (λb=>X b∨q≤b) W W' →(∀b,X' b→(X b∨W.heap.size≤b)∧b<W'.heap.size)→KJ c W')→body (w.heap.size+1) v W KN KJ)
  (hend:∀X W d,d=w.heap.size→I X xs.length W→Mod X0 w W→hp W d=some (.deferred (some []))→(∀b,X b→b<W.heap.size∧(X0 b∨d+1<b))→after [d] none W)
  (hexit:∀c X W d,d=w.heap.size→Ex c X W→Mod X0 w W→hp W d=some (.deferred (some []))→(∀b,X b→b<W.heap.size∧(X0 b∨d+1<b))→after [d] (some c) W):
  RFW Tryz.prog none gv w 1 (λl x W KN KJ=>asg (x.getD 0 undef) W λv w2=>beginK l w2 λw3=>body l v w3 KN KJ) after:=by
 obtain⟨⟨Ok,hit,hok⟩,-⟩:=ht
 obtain⟨f,first,captured,rfl,hit0⟩:=hit.out
 refine RFW_iff.2 ?_
 show∀rec:Loop,_
 intro rec hready hpend hD hY
 obtain⟨d,hd0⟩:∃d,d=w.heap.size:=⟨_,rfl⟩
 rw[←hd0]at hstep
 have hsz:(w.alloc (.deferred (some []))).heap.size=d+1:=by rw[World.size_alloc,hd0]
 obtain⟨wr,hwr⟩:∃wr,wr=(w.alloc (.deferred (some []))).alloc (.loop rec):=⟨_,rfl⟩
 have hrec0:wr.heap[d+1]? =some (.loop rec):=by rw[hwr,heap_alloc,if_pos hsz.symm]
 have hszr:wr.heap.size=d+2:=by rw[hwr,World.size_alloc,hsz]
 have hdef0:hp wr d=some (.deferred (some [])):=by rw[hwr];simp[go_sem,hd0]
 have hmr:Mod (λ_=>False) w wr:=by rw[hwr];exact((Mod.refl _ w).alloc _).alloc _
 have hput:∀(W:World) (o:Obj),Mod (λb=>b=d+1) W (W.putObj (d+1) o):=λW o=>(Mod.refl (λb=>b=d+1) W).putObj (b:=d+1) (.inl rfl) o
 rw[hsz]at hY⊢
 rw[←hwr]
 let J:(Nat→Prop)→Nat→World→Prop:=λQ i W=>∃X,I X i W∧Mod X0 w W∧hp W d=some (.deferred (some []))∧(∀b,X b→b<W.heap.size∧(X0 b∨d+1<b)∧¬Q b)∧W.heap[d+1]? =some (.loop rec)∧∀b,Q b→d+1<b∧b<W.heap.size
 let Js:(Nat→Prop)→World→Prop:=λQ W=>∃c X r,Ex c X W∧Mod X0 w W∧hp W d=some (.deferred (some []))∧(∀b,X b→b<W.heap.size∧(X0 b∨d+1<b)∧¬Q b)∧W.heap[d+1]? =some (.loop r)∧(∀b,Q b→d+1<b∧b<W.heap.size)∧r.state=.done∧r.pending=some c
 refine hit0 _ J Js _ _ (hok _ hmr) ?_ ?_ ?_ ?_ ?_ ?_
 ·intro Q W1 hm hQ
  refine⟨X0,hst _ _ _ _ _ h0 (hmr.trans hm) λ_ _ h=>h,(hmr.trans hm).mono λ_ _ h=>h.elim,hm.hpk hdef0 id,λb hb=>?_,hm.keep hrec0 id,λb hb=>?_⟩
  ·have h1:=hX0 b hb
   have h2:=hm.size
   exact⟨by omega,.inl hb,λhq=>by have:=(hQ b hq).1;omega⟩
  ·have:=hQ b hb;omega
 ·rintro Q Q' i W W' ⟨X,h1,h2,h3,h4,h5,h6⟩ hm hQ'
  have hl:=lt_of_heap h5
  refine⟨X,hst _ _ _ _ _ h1 hm λb hb=>(h4 b hb).2.2,h2.on hm λb hb=>.inr (by have:=h6 b hb;omega),hm.hpk h3 λhb=>by have:=h6 _ hb;omega,λb hb=>?_,hm.keep h5 λhb=>by have:=h6 _ hb;omega,λb hb=>?_⟩
  ·have ha:=h4 b hb
   refine⟨Nat.lt_of_lt_of_le ha.1 hm.size,ha.2.1,λhq=>?_⟩
   rcases(hQ' b hq).1 with h|h
   ·exact ha.2.2 h
   ·have:=ha.1;omega
  ·have ha:=hQ' b hb
   refine⟨?_,ha.2⟩
   rcases ha.1 with h|h
   ·exact(h6 b h).1
   ·omega
 ·rintro Q Q' W W' ⟨c,X,r,h1,h2,h3,h4,h5,h6,h7⟩ hm hQ'
  have hl:=lt_of_heap h5
  refine⟨c,X,r,hsx _ _ _ _ _ h1 hm λb hb=>(h4 b hb).2.2,h2.on hm λb hb=>.inr (by have:=h6 b hb;omega),hm.hpk h3 λhb=>by have:=h6 _ hb;omega,λb hb=>?_,hm.keep h5 λhb=>by have:=h6 _ hb;omega,λb hb=>?_,h7⟩
  ·have ha:=h4 b hb
   refine⟨Nat.lt_of_lt_of_le ha.1 hm.size,ha.2.1,λhq=>?_⟩
   rcases(hQ' b hq).1 with h|h
   ·exact ha.2.2 h
   ·have:=ha.1;omega
  ·have ha:=hQ' b hb
   refine⟨?_,ha.2⟩
   rcases ha.1 with h|h
   ·exact(h6 b h).1
   ·omega
 ·rintro Q i x W hx ⟨X,h1,h2,h3,h4,h5,h6⟩ K' hT hF
  refine callV_iff.2 ?_
  show Yl Tryz.prog (d+1) ⟨_⟩ W K'
  have e1:(#[]:Array Value).toList++x=x:=rfl
  rw[e1]
  obtain⟨hi,rfl⟩:∃hi:i<xs.length,x=[fv xs[i]]:=by
   rw[List.getElem?_map]at hx
   cases hh:xs[i]? with
   |none=>rw[hh]at hx;cases hx
   |some o=>
    obtain⟨hj,he⟩:=List.getElem?_eq_some_iff.1 hh
    rw[hh]at hx
    exact⟨hj,by rw[he];exact(Option.some.inj hx).symm⟩
  refine hY _ W K' rfl ⟨rec.state,rec.pending,h5⟩ ?_
  obtain⟨q,hq0⟩:∃q,q=W.heap.size:=⟨_,rfl⟩
  refine hasg xs[i] (List.getElem_mem hi) W _ λw2 v v3 v4=>?_
  rw[←hq0]at v3
  have r2:w2.heap[d+1]? =some (.loop rec):=v4.keep h5 id
  refine beginK_of r2 hready ?_
  have m3:=hput w2 (.loop {rec with state:=.busy})
  have r3:(w2.putObj (d+1) (.loop {rec with state:=.busy})).heap[d+1]? =some (.loop {rec with state:=.busy}):=by rw[heap_putObj,if_pos rfl,r2];rfl
  generalize w2.putObj (d+1) (.loop {rec with state:=.busy})=w3 at m3 r3⊢
  have hdl:d+1<q:=by rw[hq0];exact lt_of_heap h5
  have q3:=hPv _ _ _ _ _ _ v3 m3 (by omega)
  have hw3:=m3.size
  have hw4:=v4.size
  have M3:Mod (λb=>b=d+1) W w3:=(v4.mono λ_ _ h=>h.elim).trans m3
  have hXq:∀b,X b→b<q∧(X0 b∨d+1<b):=λb hb=>⟨by have:=(h4 b hb).1;omega,(h4 b hb).2.1⟩
  have hXd:∀b,X b→b≠d+1∧b≠d:=λb hb=>by
   rcases(h4 b hb).2.1 with h|h
   ·have:=hX0 b h;omega
   ·omega
  have hKeep:∀(W' :World) (X' :Nat→Prop) (o:Obj),Mod (λb=>X b∨q≤b) w3 W' →(∀b,X' b→(X b∨w3.heap.size≤b)∧b<W'.heap.size)→
    Mod X0 w (W'.putObj (d+1) o)∧hp (W'.putObj (d+1) o) d=some (.deferred (some []))∧(∀b,X' b→b<(W'.putObj (d+1) o).heap.size∧(X0 b∨d+1<b)∧¬Q b)∧(∀b,Q b→d+1<b∧b<(W'.putObj (d+1) o).heap.size)∧
    (∀b,Q b→(W'.putObj (d+1) o).heap[b]? =W.heap[b]?)∧W.heap.size≤(W'.putObj (d+1) o).heap.size∧W'.heap[d+1]? =some (.loop {rec with state:=.busy}):=by
   intro W' X' o hm hX'
   have hp1:=hput W' o
   have hsW:=hm.size
   have hsP:=hp1.size
   refine⟨?_,hp1.hpk (hm.hpk (m3.hpk (v4.hpk h3 id) (by omega)) λhb=>hb.elim (λhb=>(hXd _ hb).2 rfl) λhb=>by omega) (by omega),λb hb=>?_,λb hb=>?_,λb hb=>?_,by omega,hm.keep r3 λhb=>hb.elim (λhb=>(hXd _ hb).1 rfl) λhb=>by omega⟩
   ·refine(((h2.on M3 λb hb=>.inr (by omega)).on hm λb hb=>?_)).on hp1 λb hb=>.inr (by omega)
    rcases hb with hb|hb
    ·rcases(h4 b hb).2.1 with h|h
     ·exact .inl h
     ·exact .inr (by omega)
    ·exact .inr (by omega)
   ·have ha:=hX' b hb
    refine⟨by omega,?_,λhq=>?_⟩
    ·rcases ha.1 with h|h
     ·exact(h4 b h).2.1
     ·exact .inr (by omega)
    ·rcases ha.1 with h|h
     ·exact(h4 b h).2.2 hq
     ·have:=(h6 b hq).2;omega
   ·have:=h6 b hb;omega
   ·have hb' :=h6 b hb
    rw[hp1.blk b (by omega) (by omega),hm.blk b (by omega) λhx=>hx.elim (λhx=>(h4 b hx).2.2 hb) λhx=>by omega,M3.blk b hb'.2 (by omega)]
  refine hstep X i hi w3 q v (hst _ _ _ _ _ h1 M3 λb hb=>(hXd b hb).1) (h2.on M3 λb hb=>.inr (by omega)) hXq (by omega) (by omega) q3 ⟨_,r3⟩ _ _ ?_ ?_
  ·intro X' W' hI' hm hX'
   obtain⟨k1,k2,k3,k4,k5,k6,k7⟩:=hKeep W' X' (.loop {{rec with state:=.busy}with state:=.ready,pending:=none}) hm hX'
   refine⟨_,k7,hT _ ⟨X',?_,k1,k2,k3,?_,k4⟩ k6 k5⟩
   ·refine hst _ _ _ _ _ hI' (hput W' _) λb hb e=>?_
    rcases(hX' b hb).1 with h|h
    ·exact(hXd b h).1 e
    ·omega
   ·rw[heap_putObj,if_pos rfl,k7]
    simp[←hready,←hpend]
  ·intro c X' W' hI' hm hX'
   obtain⟨k1,k2,k3,k4,k5,k6,k7⟩:=hKeep W' X' (.loop {{rec with state:=.busy}with state:=.done,pending:=some c}) hm hX'
   refine⟨_,k7,hF _ ⟨c,X',{rec with state:=.done,pending:=some c},?_,k1,k2,k3,?_,k4,rfl,rfl⟩ k6 k5⟩
   ·refine hsx _ _ _ _ _ hI' (hput W' _) λb hb e=>?_
    rcases(hX' b hb).1 with h|h
    ·exact(hXd b h).1 e
    ·omega
   ·rw[heap_putObj,if_pos rfl,k7]
    rfl
 ·rintro Q W ⟨X,h1,h2,h3,h4,h5,h6⟩
  refine⟨rec,h5,by rw[hready];decide,?_⟩
  rw[←hd0]
  have hm:=hput W (.loop {rec with state:=.exhausted})
  generalize W.putObj (d+1) (.loop {rec with state:=.exhausted})=W8 at hm⊢
  rw[hpend]
  have hXd:∀b,X b→b≠d+1:=λb hb=>by
   rcases(h4 b hb).2.1 with h|h
   ·have:=hX0 b h;omega
   ·omega
  refine hend X _ d hd0 ?_ (h2.on hm λb hb=>.inr (by omega)) (hm.hpk h3 (by omega)) λb hb=>⟨Nat.lt_of_lt_of_le (h4 b hb).1 hm.size,(h4 b hb).2.1⟩
  have hx:I X xs.length W:=by have:=h1;rwa[List.length_map]at this
  exact hst _ _ _ _ _ hx hm λb hb=>hXd b hb
 ·rintro Q W ⟨c,X,r,h1,h2,h3,h4,h5,h6,h7,h8⟩
  refine⟨r,h5,by rw[h7];decide,?_⟩
  rw[←hd0]
  have hm:=hput W (.loop {r with state:=.exhausted})
  generalize W.putObj (d+1) (.loop {r with state:=.exhausted})=W8 at hm⊢
  rw[h8]
  have hXd:∀b,X b→b≠d+1:=λb hb=>by
   rcases(h4 b hb).2.1 with h|h
   ·have:=hX0 b h;omega
   ·omega
  exact hexit c X _ d hd0 (hsx _ _ _ _ _ h1 hm λb hb=>hXd b hb) (h2.on hm λb hb=>.inr (by omega)) (hm.hpk h3 (by omega)) λb hb=>⟨Nat.lt_of_lt_of_le (h4 b hb).1 hm.size,(h4 b hb).2.1⟩
theorem RF_out(ht:TellsM gv (xs.map λa=>[fv a]) w)(hasg:∀a∈xs,∀(W:World) (K:Value→World→Prop),(∀w2 v,Pv a v W.heap.size w2→Mod (λ_=>False) W w2→K v w2)→asg (fv a) W K)
  (hPv:∀a v q W W' H,Pv a v q W→Mod H W W' →¬H q→Pv a v q W')
  (I:(Nat→Prop)→Nat→World→Prop)(Ex:Code→(Nat→Prop)→World→Prop)
  (hst:∀X i W W' H,I X i W→Mod H W W' →(∀b,X b→¬H b)→I X i W')
  (hsx:∀c X W W' H,Ex c X W→Mod H W W' →(∀b,X b→¬H b)→Ex c X W')
  (hX0:∀b,X0 b→b<w.heap.size)(h0:I X0 0 w)
  (hstep:∀X i (hi:i<xs.length) W q v,I X i W→Mod X0 w W→(∀b,X b→b<q∧(X0 b∨w.heap.size+1<b))→w.heap.size+1<q→q≤W.heap.size→Pv xs[i] v q W→(∃r,hp W (w.heap.size+1)=some (.loop r))→∀KN KJ,
   (∀X' W',I X' (i+1) W' →Mod X W W' →(∀b,X' b→(X b∨W.heap.size≤b)∧b<W'.heap.size)→KN W')→
   (∀c X' W',Ex c X' W' →Mod X W W' →(∀b,X' b→(X b∨W.heap.size≤b)∧b<W'.heap.size)→KJ c W')→body (w.heap.size+1) v W KN KJ)
  (hend:∀X W d,d=w.heap.size→I X xs.length W→Mod X0 w W→hp W d=some (.deferred (some []))→(∀b,X b→b<W.heap.size∧(X0 b∨d+1<b))→after [d] none W)
  (hexit:∀c X W d,d=w.heap.size→Ex c X W→Mod X0 w W→hp W d=some (.deferred (some []))→(∀b,X b→b<W.heap.size∧(X0 b∨d+1<b))→after [d] (some c) W):
  RFW Tryz.prog none gv w 1 (λl x W KN KJ=>asg (x.getD 0 undef) W λv w2=>beginK l w2 λw3=>body l v w3 KN KJ) after:=
 RF_outQ ht hasg hPv I Ex hst hsx hX0 h0 (λX i hi W q v a1 a2 a3 a4 a5 a6 a7 KN KJ k1 k2=>hstep X i hi W q v a1 a2 a3 a4 a5 a6 a7 KN KJ (λX' W' x m h=>k1 X' W' x (m.mono λ_ _ h=>.inl h) h) λc X' W' x m h=>k2 c X' W' x (m.mono λ_ _ h=>.inl h) h) hend hexit
theorem RF_in{l0:Nat}(hl0:∃r,hp w l0=some (.loop r))(ht:TellsM gv (xs.map λa=>[fv a]) w)(hasg:∀a∈xs,∀(W:World) (K:Value→World→Prop),(∀w2 v,Pv a v W.heap.size w2→Mod (λ_=>False) W w2→K v w2)→asg (fv a) W K)
  (hPv:∀a v q W W' H,Pv a v q W→Mod H W W' →¬H q→Pv a v q W')
  (I:(Nat→Prop)→Nat→World→Prop)(Ex:Code→(Nat→Prop)→World→Prop)
  (hst:∀X i W W' H,I X i W→Mod H W W' →(∀b,X b→¬H b)→I X i W')
  (hsx:∀c X W W' H,Ex c X W→Mod H W W' →(∀b,X b→¬H b)→Ex c X W')
  (hX0:∀b,X0 b→b<w.heap.size)(h0:I X0 0 w)
  (hstep:∀X i (hi:i<xs.length) W q v,I X i W→Mod X0 w W→(∀b,X b→b<q∧(X0 b∨w.heap.size<b))→w.heap.size<q→q≤W.heap.size→Pv xs[i] v q W→∀KN KJ,
   (∀X' W',I X' (i+1) W' →Mod X W W' →(∀b,X' b→(X b∨W.heap.size≤b)∧b<W'.heap.size)→KN W')→
   (∀c X' W',Ex c X' W' →Mod X W W' →(∀b,X' b→(X b∨W.heap.size≤b)∧b<W'.heap.size)→KJ c W')→body w.heap.size v W KN KJ)
  (hend:∀X W,I X xs.length W→Mod X0 w W→(∀b,X b→b<W.heap.size∧(X0 b∨w.heap.size<b))→after [] none W)
  (hexit:∀c X W,Ex c X W→Mod X0 w W→(∀b,X b→b<W.heap.size∧(X0 b∨w.heap.size<b))→after [] (some c) W):
  RFW Tryz.prog (some l0) gv w 1 (λl x W KN KJ=>asg (x.getD 0 undef) W λv w2=>beginK l w2 λw3=>body l v w3 KN KJ) after:=by
 obtain⟨⟨Ok,hit,hok⟩,-⟩:=ht
 obtain⟨f,first,captured,rfl,hit0⟩:=hit.out
 refine RFW_iff.2 ?_
 obtain⟨r0,hr0⟩:=hl0
 refine⟨r0,hr0,?_⟩
 show∀rec:Loop,_
 intro rec hready hpend hD hY
 obtain⟨d,hd0⟩:∃d,d=w.heap.size:=⟨_,rfl⟩
 rw[←hd0]at hstep
 obtain⟨wr,hwr⟩:∃wr,wr=w.alloc (.loop rec):=⟨_,rfl⟩
 have hrec0:wr.heap[d]? =some (.loop rec):=by rw[hwr,heap_alloc,if_pos hd0]
 have hszr:wr.heap.size=d+1:=by rw[hwr,World.size_alloc,←hd0]
 have hmr:Mod (λ_=>False) w wr:=by rw[hwr];exact(Mod.refl _ w).alloc _
 have hput:∀(W:World) (o:Obj),Mod (λb=>b=d) W (W.putObj d o):=λW o=>(Mod.refl (λb=>b=d) W).putObj (b:=d) (.inl rfl) o
 rw[←hd0]at hY hend hexit⊢
 rw[←hwr]
 let J:(Nat→Prop)→Nat→World→Prop:=λQ i W=>∃X,I X i W∧Mod X0 w W∧(∀b,X b→b<W.heap.size∧(X0 b∨d<b)∧¬Q b)∧W.heap[d]? =some (.loop rec)∧∀b,Q b→d<b∧b<W.heap.size
 let Js:(Nat→Prop)→World→Prop:=λQ W=>∃c X r,Ex c X W∧Mod X0 w W∧(∀b,X b→b<W.heap.size∧(X0 b∨d<b)∧¬Q b)∧W.heap[d]? =some (.loop r)∧(∀b,Q b→d<b∧b<W.heap.size)∧r.state=.done∧r.pending=some c
 refine hit0 _ J Js _ _ (hok _ hmr) ?_ ?_ ?_ ?_ ?_ ?_
 ·intro Q W1 hm hQ
  refine⟨X0,hst _ _ _ _ _ h0 (hmr.trans hm) λ_ _ h=>h,(hmr.trans hm).mono λ_ _ h=>h.elim,λb hb=>?_,hm.keep hrec0 id,λb hb=>?_⟩
  ·have h1:=hX0 b hb
   have h2:=hm.size
   exact⟨by omega,.inl hb,λhq=>by have:=(hQ b hq).1;omega⟩
  ·have:=hQ b hb;omega
 ·rintro Q Q' i W W' ⟨X,h1,h2,h4,h5,h6⟩ hm hQ'
  have hl:=lt_of_heap h5
  refine⟨X,hst _ _ _ _ _ h1 hm λb hb=>(h4 b hb).2.2,h2.on hm λb hb=>.inr (by have:=h6 b hb;omega),λb hb=>?_,hm.keep h5 λhb=>by have:=h6 _ hb;omega,λb hb=>?_⟩
  ·have ha:=h4 b hb
   refine⟨Nat.lt_of_lt_of_le ha.1 hm.size,ha.2.1,λhq=>?_⟩
   rcases(hQ' b hq).1 with h|h
   ·exact ha.2.2 h
   ·have:=ha.1;omega
  ·have ha:=hQ' b hb
   refine⟨?_,ha.2⟩
   rcases ha.1 with h|h
   ·exact(h6 b h).1
   ·omega
 ·rintro Q Q' W W' ⟨c,X,r,h1,h2,h4,h5,h6,h7⟩ hm hQ'
  have hl:=lt_of_heap h5
  refine⟨c,X,r,hsx _ _ _ _ _ h1 hm λb hb=>(h4 b hb).2.2,h2.on hm λb hb=>.inr (by have:=h6 b hb;omega),λb hb=>?_,hm.keep h5 λhb=>by have:=h6 _ hb;omega,λb hb=>?_,h7⟩
  ·have ha:=h4 b hb
   refine⟨Nat.lt_of_lt_of_le ha.1 hm.size,ha.2.1,λhq=>?_⟩
   rcases(hQ' b hq).1 with h|h
   ·exact ha.2.2 h
   ·have:=ha.1;omega
  ·have ha:=hQ' b hb
   refine⟨?_,ha.2⟩
   rcases ha.1 with h|h
   ·exact(h6 b h).1
   ·omega
 ·rintro Q i x W hx ⟨X,h1,h2,h4,h5,h6⟩ K' hT hF
  refine callV_iff.2 ?_
  show Yl Tryz.prog (d) ⟨_⟩ W K'
  have e1:(#[]:Array Value).toList++x=x:=rfl
  rw[e1]
  obtain⟨hi,rfl⟩:∃hi:i<xs.length,x=[fv xs[i]]:=by
   rw[List.getElem?_map]at hx
   cases hh:xs[i]? with
   |none=>rw[hh]at hx;cases hx
   |some o=>
    obtain⟨hj,he⟩:=List.getElem?_eq_some_iff.1 hh
    rw[hh]at hx
    exact⟨hj,by rw[he];exact(Option.some.inj hx).symm⟩
  refine hY _ W K' rfl ⟨rec.state,rec.pending,h5⟩ ?_
  obtain⟨q,hq0⟩:∃q,q=W.heap.size:=⟨_,rfl⟩
  refine hasg xs[i] (List.getElem_mem hi) W _ λw2 v v3 v4=>?_
  rw[←hq0]at v3
  have r2:w2.heap[d]? =some (.loop rec):=v4.keep h5 id
  refine beginK_of r2 hready ?_
  have m3:=hput w2 (.loop {rec with state:=.busy})
  have r3:(w2.putObj (d) (.loop {rec with state:=.busy})).heap[d]? =some (.loop {rec with state:=.busy}):=by rw[heap_putObj,if_pos rfl,r2];rfl
  generalize w2.putObj (d) (.loop {rec with state:=.busy})=w3 at m3 r3⊢
  have hdl:d<q:=by rw[hq0];exact lt_of_heap h5
  have q3:=hPv _ _ _ _ _ _ v3 m3 (by omega)
  have hw3:=m3.size
  have hw4:=v4.size
  have M3:Mod (λb=>b=d) W w3:=(v4.mono λ_ _ h=>h.elim).trans m3
  have hXq:∀b,X b→b<q∧(X0 b∨d<b):=λb hb=>⟨by have:=(h4 b hb).1;omega,(h4 b hb).2.1⟩
  have hXd:∀b,X b→b≠d∧b≠d:=λb hb=>by
   rcases(h4 b hb).2.1 with h|h
   ·have:=hX0 b h;omega
   ·omega
  have hKeep:∀(W' :World) (X' :Nat→Prop) (o:Obj),Mod X w3 W' →(∀b,X' b→(X b∨w3.heap.size≤b)∧b<W'.heap.size)→
    Mod X0 w (W'.putObj (d) o)∧(∀b,X' b→b<(W'.putObj (d) o).heap.size∧(X0 b∨d<b)∧¬Q b)∧(∀b,Q b→d<b∧b<(W'.putObj (d) o).heap.size)∧
    (∀b,Q b→(W'.putObj (d) o).heap[b]? =W.heap[b]?)∧W.heap.size≤(W'.putObj (d) o).heap.size∧W'.heap[d]? =some (.loop {rec with state:=.busy}):=by
   intro W' X' o hm hX'
   have hp1:=hput W' o
   have hsW:=hm.size
   have hsP:=hp1.size
   refine⟨?_,λb hb=>?_,λb hb=>?_,λb hb=>?_,by omega,hm.keep r3 λhb=>(hXd _ hb).1 rfl⟩
   ·refine(((h2.on M3 λb hb=>.inr (by omega)).on hm λb hb=>?_)).on hp1 λb hb=>.inr (by omega)
    rcases(h4 b hb).2.1 with h|h
    ·exact .inl h
    ·exact .inr (by omega)
   ·have ha:=hX' b hb
    refine⟨by omega,?_,λhq=>?_⟩
    ·rcases ha.1 with h|h
     ·exact(h4 b h).2.1
     ·exact .inr (by omega)
    ·rcases ha.1 with h|h
     ·exact(h4 b h).2.2 hq
     ·have:=(h6 b hq).2;omega
   ·have:=h6 b hb;omega
   ·have hb' :=h6 b hb
    rw[hp1.blk b (by omega) (by omega),hm.blk b (by omega) λhx=>(h4 b hx).2.2 hb,M3.blk b hb'.2 (by omega)]
  refine hstep X i hi w3 q v (hst _ _ _ _ _ h1 M3 λb hb=>(hXd b hb).1) (h2.on M3 λb hb=>.inr (by omega)) hXq (by omega) (by omega) q3 _ _ ?_ ?_
  ·intro X' W' hI' hm hX'
   obtain⟨k1,k3,k4,k5,k6,k7⟩:=hKeep W' X' (.loop {{rec with state:=.busy}with state:=.ready,pending:=none}) hm hX'
   refine⟨_,k7,hT _ ⟨X',?_,k1,k3,?_,k4⟩ k6 k5⟩
   ·refine hst _ _ _ _ _ hI' (hput W' _) λb hb e=>?_
    rcases(hX' b hb).1 with h|h
    ·exact(hXd b h).1 e
    ·omega
   ·rw[heap_putObj,if_pos rfl,k7]
    simp[←hready,←hpend]
  ·intro c X' W' hI' hm hX'
   obtain⟨k1,k3,k4,k5,k6,k7⟩:=hKeep W' X' (.loop {{rec with state:=.busy}with state:=.done,pending:=some c}) hm hX'
   refine⟨_,k7,hF _ ⟨c,X',{rec with state:=.done,pending:=some c},?_,k1,k3,?_,k4,rfl,rfl⟩ k6 k5⟩
   ·refine hsx _ _ _ _ _ hI' (hput W' _) λb hb e=>?_
    rcases(hX' b hb).1 with h|h
    ·exact(hXd b h).1 e
    ·omega
   ·rw[heap_putObj,if_pos rfl,k7]
    rfl
 ·rintro Q W ⟨X,h1,h2,h4,h5,h6⟩
  refine⟨rec,h5,by rw[hready];decide,?_⟩
  have hm:=hput W (.loop {rec with state:=.exhausted})
  generalize W.putObj (d) (.loop {rec with state:=.exhausted})=W8 at hm⊢
  rw[hpend]
  have hXd:∀b,X b→b≠d:=λb hb=>by
   rcases(h4 b hb).2.1 with h|h
   ·have:=hX0 b h;omega
   ·omega
  refine hend X _ ?_ (h2.on hm λb hb=>.inr (by omega)) λb hb=>⟨Nat.lt_of_lt_of_le (h4 b hb).1 hm.size,(h4 b hb).2.1⟩
  have hx:I X xs.length W:=by have:=h1;rwa[List.length_map]at this
  exact hst _ _ _ _ _ hx hm λb hb=>hXd b hb
 ·rintro Q W ⟨c,X,r,h1,h2,h4,h5,h6,h7,h8⟩
  refine⟨r,h5,by rw[h7];decide,?_⟩
  have hm:=hput W (.loop {r with state:=.exhausted})
  generalize W.putObj (d) (.loop {r with state:=.exhausted})=W8 at hm⊢
  rw[h8]
  have hXd:∀b,X b→b≠d:=λb hb=>by
   rcases(h4 b hb).2.1 with h|h
   ·have:=hX0 b h;omega
   ·omega
  exact hexit c X _ (hsx _ _ _ _ _ h1 hm λb hb=>hXd b hb) (h2.on hm λb hb=>.inr (by omega)) λb hb=>⟨Nat.lt_of_lt_of_le (h4 b hb).1 hm.size,(h4 b hb).2.1⟩
end
end Go.Proofs
namespace Go.Proofs
open Go Go.Vc
attribute [local congr] Ca_congV
theorem uMapB:Tryz.prog.underlying 63=some (.map 35 109):=by kernel_rfl
theorem uMapD:Tryz.prog.underlying 64=some (.map 35 133):=by kernel_rfl
theorem zBkP:zeroOfT Tryz.prog 109=some (.pointer none):=by kernel_rfl
theorem zOdsP:zeroOfT Tryz.prog 133=some nilV:=by kernel_rfl
section
variable{v c l mb md:Nat}{n:Int}
abbrev venBlk(W:World)(v c l mb md:Nat)(n:Int):Prop:=hp W v=some (.cells #[cptr c,lptr l,.map (some mb),.map (some md),.int .u64 n] tVen (0,0))
theorem ld0(W:World)(h:venBlk W v c l mb md n):(Instr.loadAt 61 (.pointer (some ⟨v,0,none⟩))).run Tryz.prog W=.ok (cptr c) W:=by simp[go_sem,h,cptr]
theorem ld1(W:World)(h:venBlk W v c l mb md n):(Instr.loadAt 62 (.pointer (some ⟨v,1,none⟩))).run Tryz.prog W=.ok (lptr l) W:=by simp[go_sem,h,lptr]
theorem ld2(W:World)(h:venBlk W v c l mb md n):(Instr.loadAt 63 (.pointer (some ⟨v,2,none⟩))).run Tryz.prog W=.ok (.map (some mb)) W:=by simp[go_sem,h]
theorem ld3(W:World)(h:venBlk W v c l mb md n):(Instr.loadAt 64 (.pointer (some ⟨v,3,none⟩))).run Tryz.prog W=.ok (.map (some md)) W:=by simp[go_sem,h]
theorem ld4(W:World)(h:venBlk W v c l mb md n):(Instr.loadAt 27 (.pointer (some ⟨v,4,none⟩))).run Tryz.prog W=.ok (.int .u64 n) W:=by simp[go_sem,h]
theorem fldV(i:Nat)(hi:i<5)(W:World):(Instr.fieldAt tVen (.pointer (some ⟨v,0,none⟩)) i).run Tryz.prog W=.ok (.pointer (some ⟨v,i,none⟩)) W:=by
 rcases(show i=0∨i=1∨i=2∨i=3∨i=4 by omega)with rfl|rfl|rfl|rfl|rfl<;>simp[go_sem]
end
theorem ca_vready{w:World}{K:Kont}{v c l mb md:Nat}{n:Int}(h:venBlk w v c l mb md n)(hK:K (.bool true) w):Ca Tryz.prog 40 #[vptr v] w K:=by
 apply ca40
 unfold F40 vptr
 refine rvS (v:=.bool true) (by simp[go_sem]<;>first|exact⟨rfl,rfl⟩|exact rfl) ?_
 rw[ifB_bool,if_pos rfl]
 simp only[nilK_ptr]
 refine rvS (fldV 1 (by omega) _) (rvS (ld1 _ h) ?_)
 refine rvS (v:=.bool true) (w' :=w) (by simp[go_sem,lptr]) ?_
 exact hK
def cpy(S:Ven)(C:List (Int×Nat))(D:List (Int×Value)):Ven:=
 {S with bk:=λn=>if(lk C n).isSome then S.bk n else Bk.empty,bd:=λn=>if(lk D n).isSome then S.bd n else []}
theorem ven_box{w W:World}{K:Kont}{S:Ven}{c l mb md:Nat}{Fc Fl:Nat→Prop}{ac zc al zl:Nat}(m:Mod (λ_=>False) w W)(qc:CalQ W c Fc S.cal)(ql:LedQ W l Fl S.led)(ab:MapAt encU bptr W mb ([]:List (Int×Nat)))(ad:MapAt encU idV W md ([]:List (Int×Value)))
  (bc:∀x,Fc x→ac≤x∧x<zc)(bl:∀x,Fl x→al≤x∧x<zl)(h0:w.heap.size≤ac∧w.heap.size≤al∧w.heap.size≤mb∧w.heap.size≤md)
  (d1:zc≤al∨zl≤ac)(d2:mb<ac∨zc≤mb)(d3:md<ac∨zc≤md)(d4:mb<al∨zl≤mb)(d5:md<al∨zl≤md)(d6:mb≠md)
  (hK:∀v' W' fp',VenW W' v' c l mb md [] [] fp' (cpy S [] [])→Mod (λ_=>False) w W' →(∀p x,fp' p x→w.heap.size≤x)→K (vptr v') W'):
  rv Tryz.prog (Instr.box tVen (.agg #[cptr c,lptr l,.map (some mb),.map (some md),.int .u64 S.next])) W K:=by
 obtain⟨v,hv⟩:∃v,v=W.heap.size:=⟨_,rfl⟩
 have m1:Mod (λ_=>False) W (W.alloc (.cells #[cptr c,lptr l,.map (some mb),.map (some md),.int .u64 S.next] tVen)):=(Mod.refl _ W).alloc _
 have b1:venBlk (W.alloc (.cells #[cptr c,lptr l,.map (some mb),.map (some md),.int .u64 S.next] tVen)) v c l mb md S.next:=by show hp _ _=_;rw[hv];simp[go_sem]
 refine rvS (v:=vptr v) (w' :=W.alloc (.cells #[cptr c,lptr l,.map (some mb),.map (some md),.int .u64 S.next] tVen)) (by rw[hv];rfl) ?_
 generalize W.alloc (.cells #[cptr c,lptr l,.map (some mb),.map (some md),.int .u64 S.next] tVen)=W1 at m1 b1⊢
 have hsz:=m.size
 let fp:Pt→Nat→Prop:=λp=>match p with| .v=>λx=>x=v| .cal=>Fc| .led=>Fl| .mb=>λx=>x=mb| .md=>λx=>x=md| .bk _=>λ_=>False| .bd _=>λ_=>False
 have lc:∀x,Fc x→x<W.heap.size:=λx hx=>qc.lt hx
 have ll:∀x,Fl x→x<W.heap.size:=λx hx=>ql.lt hx
 have lb:=ab.lt
 have ld:=ad.lt
 refine hK v W1 fp {blk:=b1,cal:=qc.mod m1 λ_ _ h=>h,led:=ql.mod m1 λ_ _ h=>h,mbk:=ab.mod m1 id,mbd:=ad.mod m1 id,bk:=λn b hb=>(by cases hb),nbk:=λn _=>⟨rfl,λ_ h=>h⟩,bd:=λn=>Own.nil _ _ _,fv:=λ_=>Iff.rfl,fmb:=λ_=>Iff.rfl,fmd:=λ_=>Iff.rfl,fbd:=λn x=>⟨λh=>h.elim,λh=>(by cases h)⟩,dj:=?_} (m.trans m1) ?_
 ·have key:∀p q x,fp p x→fp q x→(match p,q with| .v,.v=>True| .cal,.cal=>True| .led,.led=>True| .mb,.mb=>True| .md,.md=>True|_,_=>False):=by
   intro p q x hp hq
   cases p<;>cases q<;>first|trivial|exact hp.elim|exact hq.elim|skip
   all_goals (simp only[fp]at hp hq)
   all_goals first
    |(have a:=bc x hp;have b:=bl x hq;omega)
    |(have a:=bl x hp;have b:=bc x hq;omega)
    |(have a:=bc x hp;have b:=lc x hp;omega)
    |(have a:=bl x hp;have b:=ll x hp;omega)
    |(have a:=bc x hq;have b:=lc x hq;omega)
    |(have a:=bl x hq;have b:=ll x hq;omega)
    |omega
  intro p q x hp hq
  have:=key p q x hp hq
  cases p<;>cases q<;>first|rfl|exact this.elim|exact hp.elim|exact hq.elim
 ·intro p x hx
  cases p
  ·have:x=v:=hx
   omega
  ·have:=bc x hx;omega
  ·have:=bl x hx;omega
  ·have:x=mb:=hx
   omega
  ·have:x=md:=hx
   omega
  ·exact hx.elim
  ·exact hx.elim
theorem ca_vnew{w:World}{K:Kont}(hK:∀v F w',VenQ w' v F Ven.empty→Mod (λ_=>False) w w' →(∀x,F x→w.heap.size≤x)→K (vptr v) w'):Ca Tryz.prog 10 #[] w K:=by
 apply ca10
 unfold F10
 refine ca_calnew λc Fc u1 qc m1 nc=>?_
 have z1:=m1.size
 have bc:∀x,Fc x→w.heap.size≤x∧x<u1.heap.size:=λx hx=>⟨nc x hx,qc.lt hx⟩
 refine ca_new λu2 l Fl ql m2 nl=>?_
 have z2:=m2.size
 have bl:∀x,Fl x→u1.heap.size≤x∧x<u2.heap.size:=λx hx=>⟨nl x hx,ql.lt hx⟩
 replace qc:=qc.mod m2 λ_ _ h=>h
 obtain⟨nb,hnb⟩:∃nb,nb=u2.heap.size:=⟨_,rfl⟩
 have m3:Mod (λ_=>False) u2 (u2.alloc (.map #[] 0)):=(Mod.refl _ u2).alloc _
 have ab:MapAt encU bptr (u2.alloc (.map #[] 0)) nb ([]:List (Int×Nat)):=by rw[hnb];exact MapAt.new u2
 refine rvS (v:=.map (some nb)) (w' :=u2.alloc (.map #[] 0)) (by rw[hnb];simp[go_sem]) ?_
 generalize u2.alloc (.map #[] 0)=u3 at m3 ab⊢
 have z3:=m3.size
 have bb:=ab.lt
 replace qc:=qc.mod m3 λ_ _ h=>h
 replace ql:=ql.mod m3 λ_ _ h=>h
 obtain⟨nd,hnd⟩:∃nd,nd=u3.heap.size:=⟨_,rfl⟩
 have m4:Mod (λ_=>False) u3 (u3.alloc (.map #[] 0)):=(Mod.refl _ u3).alloc _
 have ad:MapAt encU idV (u3.alloc (.map #[] 0)) nd ([]:List (Int×Value)):=by rw[hnd];exact MapAt.new u3
 refine rvS (v:=.map (some nd)) (w' :=u3.alloc (.map #[] 0)) (by rw[hnd];simp[go_sem]) ?_
 generalize u3.alloc (.map #[] 0)=u4 at m4 ad⊢
 have z4:=m4.size
 replace qc:=qc.mod m4 λ_ _ h=>h
 replace ql:=ql.mod m4 λ_ _ h=>h
 replace ab:=ab.mod m4 id
 refine rvS (v:=.agg #[cptr c,lptr l,.map (some nb),.map (some nd),.int .u64 1]) (w' :=u4) (by simp[go_sem,cptr,lptr]) ?_
 refine ven_box (S:=Ven.empty) (((m1.trans m2).trans m3).trans m4) qc ql ab ad bc bl (by omega) (by omega) (by omega) (by omega) (by omega) (by omega) (by omega) λv' W' fp' a b d=>?_
 refine hK v' _ W' ⟨_,_,_,_,_,_,fp',⟨a,λn=>rfl,λn h=>(by cases h)⟩,λ_=>Iff.rfl⟩ b λx hx=>?_
 obtain⟨p,hp⟩:=hx
 exact d p x hp
structure CInv{ν ν' :Type}(A R:List (Int×ν))(C:List (Int×ν')):Prop where
 sub:R.Sublist A
 has:∀k,(lk C k).isSome=true↔(lk A k).isSome=true∧k ∉ R.map (·.1)
theorem CInv.init{ν ν' :Type}(A:List (Int×ν)):CInv A A ([]:List (Int×ν')):=⟨List.Sublist.refl _,λk=>⟨λh=>(by cases h),λh=>by
 refine absurd ?_ h.2
 cases hl:lk A k with
 |none=>rw[hl]at h;cases h.1
 |some b=>exact List.mem_map.2 ⟨_,lk_mem hl,rfl⟩⟩⟩
theorem CInv.step{ν ν' :Type}{A R:List (Int×ν)}{C:List (Int×ν')}(h:CInv A R C)(hn:(A.map (·.1)).Nodup){i:Nat}{p:Int×ν}(hp:R[i]? =some p)(b:ν'):
  CInv A (R.eraseIdx i) (put C p.1 b)∧lk A p.1=some p.2∧lk C p.1=none:=by
 have hm:p∈R:=List.mem_of_getElem? hp
 have hA:=mem_lk hn (h.sub.mem hm)
 have hR:(R.map (·.1)).Nodup:=hn.sublist (h.sub.map _)
 have hperm:=perm_eraseIdx hp
 have hkeys:∀k,k∈R.map (·.1)↔k=p.1∨k∈(R.eraseIdx i).map (·.1):=λk=>by
  rw[(hperm.map (·.1)).mem_iff,List.map_cons,List.mem_cons]
 have hnp:p.1 ∉ (R.eraseIdx i).map (·.1):=by
  have:=(hperm.map (·.1)).nodup_iff.1 hR
  rw[List.map_cons,List.nodup_cons]at this
  exact this.1
 refine⟨⟨(List.eraseIdx_sublist _ _).trans h.sub,λk=>?_⟩,hA,?_⟩
 ·rw[lk_put]
  by_cases hk:p.1=k
  ·subst hk
   rw[if_pos rfl]
   exact⟨λ_=>⟨by rw[hA];rfl,hnp⟩,λ_=>rfl⟩
  ·rw[if_neg hk,h.has,hkeys]
   constructor
   ·exact λ⟨h1,h2⟩=>⟨h1,λhc=>h2 (.inr hc)⟩
   ·refine λ⟨h1,h2⟩=>⟨h1,λhc=>?_⟩
    rcases hc with hc|hc
    ·exact hk hc.symm
    ·exact h2 hc
 ·cases hc:lk C p.1 with
  |none=>rfl
  |some x=>
   have:=(h.has p.1).1 (by rw[hc];rfl)
   exact absurd ((hkeys p.1).2 (.inl rfl)) this.2
theorem CInv.done{ν ν' :Type}{A:List (Int×ν)}{C:List (Int×ν')}(h:CInv A [] C)(k:Int):(lk C k).isSome=(lk A k).isSome:=by
 have:=h.has k
 rw[Bool.eq_iff_iff,this];simp
theorem cpy_bk(S:Ven)(C:List (Int×Nat))(D:List (Int×Value))(n:Int)(b:Nat):{cpy S C D with bk:=upd (cpy S C D).bk n (S.bk n)}=cpy S (put C n b) D:=by
 have e:upd (cpy S C D).bk n (S.bk n)=(cpy S (put C n b) D).bk:=by
  funext m
  show upd _ n (S.bk n) m=if(lk (put C n b) m).isSome=true then S.bk m else Bk.empty
  rw[lk_put]
  by_cases hm:m=n
  ·subst hm;rw[upd_self,if_pos rfl];rfl
  ·have hm2:¬n=m:=λe=>hm e.symm
   rw[upd_ne _ _ _ hm,if_neg hm2];rfl
 rw[e];rfl
theorem cpy_bd(S:Ven)(C:List (Int×Nat))(D:List (Int×Value))(n:Int)(x:Value):{cpy S C D with bd:=upd (cpy S C D).bd n (S.bd n)}=cpy S C (put D n x):=by
 have e:upd (cpy S C D).bd n (S.bd n)=(cpy S C (put D n x)).bd:=by
  funext m
  show upd _ n (S.bd n) m=if(lk (put D n x) m).isSome=true then S.bd m else []
  rw[lk_put]
  by_cases hm:m=n
  ·subst hm;rw[upd_self,if_pos rfl];rfl
  ·have hm2:¬n=m:=λe=>hm e.symm
   rw[upd_ne _ _ _ hm,if_neg hm2];rfl
 rw[e];rfl
set_option maxRecDepth 10000 in
set_option maxHeartbeats 2000000 in
theorem ca_vcopy{w:World}{K:Kont}{v c l mb md:Nat}{A:List (Int×Nat)}{D:List (Int×Value)}{fp:Pt→Nat→Prop}{S:Ven}(h:VenR w v c l mb md A D fp S)(hok:S.Ok)
  (hK:∀v' F' w',VenQ w' v' F' S→Mod (λ_=>False) w w' →(∀x,F' x→w.heap.size≤x)→K (vptr v') w'):Ca Tryz.prog 43 #[vptr v] w K:=by
 apply ca43
 unfold F43
 refine ca_vready h.blk ?_
 refine rvS (v:=.bool false) (by simp[go_sem]<;>first|exact⟨rfl,rfl⟩|exact rfl) ?_
 rw[ifB_bool,if_neg Bool.false_ne_true]
 have md0:Mod (λ_=>False) w w.drew:=(Mod.refl _ w).drew
 have hszd:w.drew.heap.size=w.heap.size:=rfl
 have H0:=h.md0 md0
 refine JoinW.at (λst W=>∃v' c' l' mb' md' fp',st=(vptr v',())∧VenW W v' c' l' mb' md' [] [] fp' (cpy S [] [])∧Mod (λ_=>False) w W∧∀p x,fp' p x→w.heap.size≤x) ?_ ?_
 ·simp only[vptr,nilK_ptr]
  rw[←hszd]
  obtain⟨u0,hu0⟩:∃u0,u0=w.drew:=⟨_,rfl⟩
  rw[←hu0]at H0 md0⊢
  have fin:∀{c' l' mb' md' :Nat} (v' :Nat) (W' :World) (fp' :Pt→Nat→Prop),VenW W' v' c' l' mb' md' [] [] fp' (cpy S [] [])→Mod (λ_=>False) u0 W' →(∀p x,fp' p x→u0.heap.size≤x)→
    ∃v'' c' l' mb' md' fp',(vptr v',())=(vptr v'',())∧VenW W' v'' c' l' mb' md' [] [] fp' (cpy S [] [])∧Mod (λ_=>False) w W' ∧∀p x,fp' p x→u0.heap.size≤x:=λv' W' fp' a b d=>⟨v',_,_,_,_,fp',rfl,a,md0.trans b,d⟩
  refine rdPS (fldV 0 (by omega)) (rdWS (ld0 _ H0.blk) ?_)
  refine rdPS (fldV 1 (by omega)) (rdWS (ld1 _ H0.blk) ?_)
  refine rdPS (fldV 4 (by omega)) (rdWS (ld4 _ H0.blk) ?_)
  refine⟨?_,?_,?_⟩
  ·refine ca_ccopy H0.cal λc' Fc u1 qc m1 nc=>?_
   have H1:=H0.md0 m1
   have z1:=m1.size
   have bc:∀x,Fc x→u0.heap.size≤x∧x<u1.heap.size:=λx hx=>⟨nc x hx,qc.lt hx⟩
   refine⟨ld4 _ H1.blk,ld1 _ H1.blk,?_⟩
   refine⟨?_,?_,?_⟩
   ·refine ca_copy H1.led λu2 l' Fl ql m2 nl=>?_
    have H2:=H1.md0 m2
    have z2:=m2.size
    have bl:∀x,Fl x→u1.heap.size≤x∧x<u2.heap.size:=λx hx=>⟨nl x hx,ql.lt hx⟩
    replace qc:=qc.mod m2 λ_ _ h=>h
    refine⟨ld4 _ H2.blk,?_⟩
    refine⟨?_,?_⟩
    ·obtain⟨nb,hnb⟩:∃nb,nb=u2.heap.size:=⟨_,rfl⟩
     have m3:Mod (λ_=>False) u2 (u2.alloc (.map #[] 0)):=(Mod.refl _ u2).alloc _
     have ab:MapAt encU bptr (u2.alloc (.map #[] 0)) nb ([]:List (Int×Nat)):=by rw[hnb];exact MapAt.new u2
     refine rvS (v:=.map (some nb)) (w' :=u2.alloc (.map #[] 0)) (by rw[hnb];simp[go_sem]) ?_
     generalize u2.alloc (.map #[] 0)=u3 at m3 ab⊢
     have H3:=H2.md0 m3
     have z3:=m3.size
     have bb:=ab.lt
     replace qc:=qc.mod m3 λ_ _ h=>h
     replace ql:=ql.mod m3 λ_ _ h=>h
     refine⟨ld4 _ H3.blk,?_⟩
     obtain⟨nd,hnd⟩:∃nd,nd=u3.heap.size:=⟨_,rfl⟩
     have m4:Mod (λ_=>False) u3 (u3.alloc (.map #[] 0)):=(Mod.refl _ u3).alloc _
     have ad:MapAt encU idV (u3.alloc (.map #[] 0)) nd ([]:List (Int×Value)):=by rw[hnd];exact MapAt.new u3
     refine rvS (v:=.map (some nd)) (w' :=u3.alloc (.map #[] 0)) (by rw[hnd];simp[go_sem]) ?_
     generalize u3.alloc (.map #[] 0)=u4 at m4 ad⊢
     have H4:=H3.md0 m4
     have z4:=m4.size
     have bd:=ad.lt
     replace qc:=qc.mod m4 λ_ _ h=>h
     replace ql:=ql.mod m4 λ_ _ h=>h
     replace ab:=ab.mod m4 id
     refine⟨ld4 _ H4.blk,?_⟩
     refine rdPS (v:=.agg #[cptr c',lptr l',.map (some nb),.map (some nd),.int .u64 S.next]) (λ_=>by simp[go_sem,cptr,lptr]) ?_
     exact ven_box (S:=S) (((m1.trans m2).trans m3).trans m4) qc ql ab ad bc bl (by omega) (by omega) (by omega) (by omega) (by omega) (by omega) (by omega) fin
    ·obtain⟨nd,hnd⟩:∃nd,nd=u2.heap.size:=⟨_,rfl⟩
     have m3:Mod (λ_=>False) u2 (u2.alloc (.map #[] 0)):=(Mod.refl _ u2).alloc _
     have ad:MapAt encU idV (u2.alloc (.map #[] 0)) nd ([]:List (Int×Value)):=by rw[hnd];exact MapAt.new u2
     refine rvS (v:=.map (some nd)) (w' :=u2.alloc (.map #[] 0)) (by rw[hnd];simp[go_sem]) ?_
     generalize u2.alloc (.map #[] 0)=u3 at m3 ad⊢
     have H3:=H2.md0 m3
     have z3:=m3.size
     have bd:=ad.lt
     replace qc:=qc.mod m3 λ_ _ h=>h
     replace ql:=ql.mod m3 λ_ _ h=>h
     refine⟨ld4 _ H3.blk,?_⟩
     obtain⟨nb,hnb⟩:∃nb,nb=u3.heap.size:=⟨_,rfl⟩
     have m4:Mod (λ_=>False) u3 (u3.alloc (.map #[] 0)):=(Mod.refl _ u3).alloc _
     have ab:MapAt encU bptr (u3.alloc (.map #[] 0)) nb ([]:List (Int×Nat)):=by rw[hnb];exact MapAt.new u3
     refine rvS (v:=.map (some nb)) (w' :=u3.alloc (.map #[] 0)) (by rw[hnb];simp[go_sem]) ?_
     generalize u3.alloc (.map #[] 0)=u4 at m4 ab⊢
     have H4:=H3.md0 m4
     have z4:=m4.size
     have bb:=ab.lt
     replace qc:=qc.mod m4 λ_ _ h=>h
     replace ql:=ql.mod m4 λ_ _ h=>h
     replace ad:=ad.mod m4 id
     refine⟨ld4 _ H4.blk,?_⟩
     refine rdPS (v:=.agg #[cptr c',lptr l',.map (some nb),.map (some nd),.int .u64 S.next]) (λ_=>by simp[go_sem,cptr,lptr]) ?_
     exact ven_box (S:=S) (((m1.trans m2).trans m3).trans m4) qc ql ab ad bc bl (by omega) (by omega) (by omega) (by omega) (by omega) (by omega) (by omega) fin
   ·obtain⟨nb,hnb⟩:∃nb,nb=u1.heap.size:=⟨_,rfl⟩
    have m2:Mod (λ_=>False) u1 (u1.alloc (.map #[] 0)):=(Mod.refl _ u1).alloc _
    have ab:MapAt encU bptr (u1.alloc (.map #[] 0)) nb ([]:List (Int×Nat)):=by rw[hnb];exact MapAt.new u1
    refine rvS (v:=.map (some nb)) (w' :=u1.alloc (.map #[] 0)) (by rw[hnb];simp[go_sem]) ?_
    generalize u1.alloc (.map #[] 0)=u2 at m2 ab⊢
    have H2:=H1.md0 m2
    have z2:=m2.size
    have bb:=ab.lt
    replace qc:=qc.mod m2 λ_ _ h=>h
    refine⟨ld4 _ H2.blk,ld1 _ H2.blk,?_⟩
    refine⟨?_,?_⟩
    ·refine ca_copy H2.led λu3 l' Fl ql m3 nl=>?_
     have H3:=H2.md0 m3
     have z3:=m3.size
     have bl:∀x,Fl x→u2.heap.size≤x∧x<u3.heap.size:=λx hx=>⟨nl x hx,ql.lt hx⟩
     replace qc:=qc.mod m3 λ_ _ h=>h
     replace ab:=ab.mod m3 id
     refine⟨ld4 _ H3.blk,?_⟩
     obtain⟨nd,hnd⟩:∃nd,nd=u3.heap.size:=⟨_,rfl⟩
     have m4:Mod (λ_=>False) u3 (u3.alloc (.map #[] 0)):=(Mod.refl _ u3).alloc _
     have ad:MapAt encU idV (u3.alloc (.map #[] 0)) nd ([]:List (Int×Value)):=by rw[hnd];exact MapAt.new u3
     refine rvS (v:=.map (some nd)) (w' :=u3.alloc (.map #[] 0)) (by rw[hnd];simp[go_sem]) ?_
     generalize u3.alloc (.map #[] 0)=u4 at m4 ad⊢
     have H4:=H3.md0 m4
     have z4:=m4.size
     have bd:=ad.lt
     replace qc:=qc.mod m4 λ_ _ h=>h
     replace ab:=ab.mod m4 id
     replace ql:=ql.mod m4 λ_ _ h=>h
     refine⟨ld4 _ H4.blk,?_⟩
     refine rdPS (v:=.agg #[cptr c',lptr l',.map (some nb),.map (some nd),.int .u64 S.next]) (λ_=>by simp[go_sem,cptr,lptr]) ?_
     exact ven_box (S:=S) (((m1.trans m2).trans m3).trans m4) qc ql ab ad bc bl (by omega) (by omega) (by omega) (by omega) (by omega) (by omega) (by omega) fin
    ·obtain⟨nd,hnd⟩:∃nd,nd=u2.heap.size:=⟨_,rfl⟩
     have m3:Mod (λ_=>False) u2 (u2.alloc (.map #[] 0)):=(Mod.refl _ u2).alloc _
     have ad:MapAt encU idV (u2.alloc (.map #[] 0)) nd ([]:List (Int×Value)):=by rw[hnd];exact MapAt.new u2
     refine rvS (v:=.map (some nd)) (w' :=u2.alloc (.map #[] 0)) (by rw[hnd];simp[go_sem]) ?_
     generalize u2.alloc (.map #[] 0)=u3 at m3 ad⊢
     have H3:=H2.md0 m3
     have z3:=m3.size
     have bd:=ad.lt
     replace qc:=qc.mod m3 λ_ _ h=>h
     replace ab:=ab.mod m3 id
     refine⟨ld4 _ H3.blk,ld1 _ H3.blk,?_⟩
     refine ca_copy H3.led λu4 l' Fl ql m4 nl=>?_
     have H4:=H3.md0 m4
     have z4:=m4.size
     have bl:∀x,Fl x→u3.heap.size≤x∧x<u4.heap.size:=λx hx=>⟨nl x hx,ql.lt hx⟩
     replace qc:=qc.mod m4 λ_ _ h=>h
     replace ab:=ab.mod m4 id
     replace ad:=ad.mod m4 id
     refine⟨ld4 _ H4.blk,?_⟩
     refine rdPS (v:=.agg #[cptr c',lptr l',.map (some nb),.map (some nd),.int .u64 S.next]) (λ_=>by simp[go_sem,cptr,lptr]) ?_
     exact ven_box (S:=S) (((m1.trans m2).trans m3).trans m4) qc ql ab ad bc bl (by omega) (by omega) (by omega) (by omega) (by omega) (by omega) (by omega) fin
   ·obtain⟨nd,hnd⟩:∃nd,nd=u1.heap.size:=⟨_,rfl⟩
    have m2:Mod (λ_=>False) u1 (u1.alloc (.map #[] 0)):=(Mod.refl _ u1).alloc _
    have ad:MapAt encU idV (u1.alloc (.map #[] 0)) nd ([]:List (Int×Value)):=by rw[hnd];exact MapAt.new u1
    refine rvS (v:=.map (some nd)) (w' :=u1.alloc (.map #[] 0)) (by rw[hnd];simp[go_sem]) ?_
    generalize u1.alloc (.map #[] 0)=u2 at m2 ad⊢
    have H2:=H1.md0 m2
    have z2:=m2.size
    have bd:=ad.lt
    replace qc:=qc.mod m2 λ_ _ h=>h
    refine⟨ld4 _ H2.blk,ld1 _ H2.blk,?_⟩
    refine⟨?_,?_⟩
    ·refine ca_copy H2.led λu3 l' Fl ql m3 nl=>?_
     have H3:=H2.md0 m3
     have z3:=m3.size
     have bl:∀x,Fl x→u2.heap.size≤x∧x<u3.heap.size:=λx hx=>⟨nl x hx,ql.lt hx⟩
     replace qc:=qc.mod m3 λ_ _ h=>h
     replace ad:=ad.mod m3 id
     refine⟨ld4 _ H3.blk,?_⟩
     obtain⟨nb,hnb⟩:∃nb,nb=u3.heap.size:=⟨_,rfl⟩
     have m4:Mod (λ_=>False) u3 (u3.alloc (.map #[] 0)):=(Mod.refl _ u3).alloc _
     have ab:MapAt encU bptr (u3.alloc (.map #[] 0)) nb ([]:List (Int×Nat)):=by rw[hnb];exact MapAt.new u3
     refine rvS (v:=.map (some nb)) (w' :=u3.alloc (.map #[] 0)) (by rw[hnb];simp[go_sem]) ?_
     generalize u3.alloc (.map #[] 0)=u4 at m4 ab⊢
     have H4:=H3.md0 m4
     have z4:=m4.size
     have bb:=ab.lt
     replace qc:=qc.mod m4 λ_ _ h=>h
     replace ad:=ad.mod m4 id
     replace ql:=ql.mod m4 λ_ _ h=>h
     refine⟨ld4 _ H4.blk,?_⟩
     refine rdPS (v:=.agg #[cptr c',lptr l',.map (some nb),.map (some nd),.int .u64 S.next]) (λ_=>by simp[go_sem,cptr,lptr]) ?_
     exact ven_box (S:=S) (((m1.trans m2).trans m3).trans m4) qc ql ab ad bc bl (by omega) (by omega) (by omega) (by omega) (by omega) (by omega) (by omega) fin
    ·obtain⟨nb,hnb⟩:∃nb,nb=u2.heap.size:=⟨_,rfl⟩
     have m3:Mod (λ_=>False) u2 (u2.alloc (.map #[] 0)):=(Mod.refl _ u2).alloc _
     have ab:MapAt encU bptr (u2.alloc (.map #[] 0)) nb ([]:List (Int×Nat)):=by rw[hnb];exact MapAt.new u2
     refine rvS (v:=.map (some nb)) (w' :=u2.alloc (.map #[] 0)) (by rw[hnb];simp[go_sem]) ?_
     generalize u2.alloc (.map #[] 0)=u3 at m3 ab⊢
     have H3:=H2.md0 m3
     have z3:=m3.size
     have bb:=ab.lt
     replace qc:=qc.mod m3 λ_ _ h=>h
     replace ad:=ad.mod m3 id
     refine⟨ld4 _ H3.blk,ld1 _ H3.blk,?_⟩
     refine ca_copy H3.led λu4 l' Fl ql m4 nl=>?_
     have H4:=H3.md0 m4
     have z4:=m4.size
     have bl:∀x,Fl x→u3.heap.size≤x∧x<u4.heap.size:=λx hx=>⟨nl x hx,ql.lt hx⟩
     replace qc:=qc.mod m4 λ_ _ h=>h
     replace ad:=ad.mod m4 id
     replace ab:=ab.mod m4 id
     refine⟨ld4 _ H4.blk,?_⟩
     refine rdPS (v:=.agg #[cptr c',lptr l',.map (some nb),.map (some nd),.int .u64 S.next]) (λ_=>by simp[go_sem,cptr,lptr]) ?_
     exact ven_box (S:=S) (((m1.trans m2).trans m3).trans m4) qc ql ab ad bc bl (by omega) (by omega) (by omega) (by omega) (by omega) (by omega) (by omega) fin
  ·obtain⟨nb,hnb⟩:∃nb,nb=u0.heap.size:=⟨_,rfl⟩
   have m1:Mod (λ_=>False) u0 (u0.alloc (.map #[] 0)):=(Mod.refl _ u0).alloc _
   have ab:MapAt encU bptr (u0.alloc (.map #[] 0)) nb ([]:List (Int×Nat)):=by rw[hnb];exact MapAt.new u0
   refine rvS (v:=.map (some nb)) (w' :=u0.alloc (.map #[] 0)) (by rw[hnb];simp[go_sem]) ?_
   generalize u0.alloc (.map #[] 0)=u1 at m1 ab⊢
   have H1:=H0.md0 m1
   have z1:=m1.size
   have bb:=ab.lt
   refine⟨ld4 _ H1.blk,ld1 _ H1.blk,ld0 _ H1.blk,?_⟩
   refine⟨?_,?_⟩
   ·refine ca_ccopy H1.cal λc' Fc u2 qc m2 nc=>?_
    have H2:=H1.md0 m2
    have z2:=m2.size
    have bc:∀x,Fc x→u1.heap.size≤x∧x<u2.heap.size:=λx hx=>⟨nc x hx,qc.lt hx⟩
    replace ab:=ab.mod m2 id
    refine⟨ld4 _ H2.blk,ld1 _ H2.blk,?_⟩
    refine⟨?_,?_⟩
    ·refine ca_copy H2.led λu3 l' Fl ql m3 nl=>?_
     have H3:=H2.md0 m3
     have z3:=m3.size
     have bl:∀x,Fl x→u2.heap.size≤x∧x<u3.heap.size:=λx hx=>⟨nl x hx,ql.lt hx⟩
     replace ab:=ab.mod m3 id
     replace qc:=qc.mod m3 λ_ _ h=>h
     refine⟨ld4 _ H3.blk,?_⟩
     obtain⟨nd,hnd⟩:∃nd,nd=u3.heap.size:=⟨_,rfl⟩
     have m4:Mod (λ_=>False) u3 (u3.alloc (.map #[] 0)):=(Mod.refl _ u3).alloc _
     have ad:MapAt encU idV (u3.alloc (.map #[] 0)) nd ([]:List (Int×Value)):=by rw[hnd];exact MapAt.new u3
     refine rvS (v:=.map (some nd)) (w' :=u3.alloc (.map #[] 0)) (by rw[hnd];simp[go_sem]) ?_
     generalize u3.alloc (.map #[] 0)=u4 at m4 ad⊢
     have H4:=H3.md0 m4
     have z4:=m4.size
     have bd:=ad.lt
     replace ab:=ab.mod m4 id
     replace qc:=qc.mod m4 λ_ _ h=>h
     replace ql:=ql.mod m4 λ_ _ h=>h
     refine⟨ld4 _ H4.blk,?_⟩
     refine rdPS (v:=.agg #[cptr c',lptr l',.map (some nb),.map (some nd),.int .u64 S.next]) (λ_=>by simp[go_sem,cptr,lptr]) ?_
     exact ven_box (S:=S) (((m1.trans m2).trans m3).trans m4) qc ql ab ad bc bl (by omega) (by omega) (by omega) (by omega) (by omega) (by omega) (by omega) fin
    ·obtain⟨nd,hnd⟩:∃nd,nd=u2.heap.size:=⟨_,rfl⟩
     have m3:Mod (λ_=>False) u2 (u2.alloc (.map #[] 0)):=(Mod.refl _ u2).alloc _
     have ad:MapAt encU idV (u2.alloc (.map #[] 0)) nd ([]:List (Int×Value)):=by rw[hnd];exact MapAt.new u2
     refine rvS (v:=.map (some nd)) (w' :=u2.alloc (.map #[] 0)) (by rw[hnd];simp[go_sem]) ?_
     generalize u2.alloc (.map #[] 0)=u3 at m3 ad⊢
     have H3:=H2.md0 m3
     have z3:=m3.size
     have bd:=ad.lt
     replace ab:=ab.mod m3 id
     replace qc:=qc.mod m3 λ_ _ h=>h
     refine⟨ld4 _ H3.blk,ld1 _ H3.blk,?_⟩
     refine ca_copy H3.led λu4 l' Fl ql m4 nl=>?_
     have H4:=H3.md0 m4
     have z4:=m4.size
     have bl:∀x,Fl x→u3.heap.size≤x∧x<u4.heap.size:=λx hx=>⟨nl x hx,ql.lt hx⟩
     replace ab:=ab.mod m4 id
     replace qc:=qc.mod m4 λ_ _ h=>h
     replace ad:=ad.mod m4 id
     refine⟨ld4 _ H4.blk,?_⟩
     refine rdPS (v:=.agg #[cptr c',lptr l',.map (some nb),.map (some nd),.int .u64 S.next]) (λ_=>by simp[go_sem,cptr,lptr]) ?_
     exact ven_box (S:=S) (((m1.trans m2).trans m3).trans m4) qc ql ab ad bc bl (by omega) (by omega) (by omega) (by omega) (by omega) (by omega) (by omega) fin
   ·obtain⟨nd,hnd⟩:∃nd,nd=u1.heap.size:=⟨_,rfl⟩
    have m2:Mod (λ_=>False) u1 (u1.alloc (.map #[] 0)):=(Mod.refl _ u1).alloc _
    have ad:MapAt encU idV (u1.alloc (.map #[] 0)) nd ([]:List (Int×Value)):=by rw[hnd];exact MapAt.new u1
    refine rvS (v:=.map (some nd)) (w' :=u1.alloc (.map #[] 0)) (by rw[hnd];simp[go_sem]) ?_
    generalize u1.alloc (.map #[] 0)=u2 at m2 ad⊢
    have H2:=H1.md0 m2
    have z2:=m2.size
    have bd:=ad.lt
    replace ab:=ab.mod m2 id
    refine⟨ld4 _ H2.blk,ld1 _ H2.blk,ld0 _ H2.blk,?_⟩
    refine ca_ccopy H2.cal λc' Fc u3 qc m3 nc=>?_
    have H3:=H2.md0 m3
    have z3:=m3.size
    have bc:∀x,Fc x→u2.heap.size≤x∧x<u3.heap.size:=λx hx=>⟨nc x hx,qc.lt hx⟩
    replace ab:=ab.mod m3 id
    replace ad:=ad.mod m3 id
    refine⟨ld4 _ H3.blk,ld1 _ H3.blk,?_⟩
    refine ca_copy H3.led λu4 l' Fl ql m4 nl=>?_
    have H4:=H3.md0 m4
    have z4:=m4.size
    have bl:∀x,Fl x→u3.heap.size≤x∧x<u4.heap.size:=λx hx=>⟨nl x hx,ql.lt hx⟩
    replace ab:=ab.mod m4 id
    replace ad:=ad.mod m4 id
    replace qc:=qc.mod m4 λ_ _ h=>h
    refine⟨ld4 _ H4.blk,?_⟩
    refine rdPS (v:=.agg #[cptr c',lptr l',.map (some nb),.map (some nd),.int .u64 S.next]) (λ_=>by simp[go_sem,cptr,lptr]) ?_
    exact ven_box (S:=S) (((m1.trans m2).trans m3).trans m4) qc ql ab ad bc bl (by omega) (by omega) (by omega) (by omega) (by omega) (by omega) (by omega) fin
  ·obtain⟨nd,hnd⟩:∃nd,nd=u0.heap.size:=⟨_,rfl⟩
   have m1:Mod (λ_=>False) u0 (u0.alloc (.map #[] 0)):=(Mod.refl _ u0).alloc _
   have ad:MapAt encU idV (u0.alloc (.map #[] 0)) nd ([]:List (Int×Value)):=by rw[hnd];exact MapAt.new u0
   refine rvS (v:=.map (some nd)) (w' :=u0.alloc (.map #[] 0)) (by rw[hnd];simp[go_sem]) ?_
   generalize u0.alloc (.map #[] 0)=u1 at m1 ad⊢
   have H1:=H0.md0 m1
   have z1:=m1.size
   have bd:=ad.lt
   refine⟨ld4 _ H1.blk,ld1 _ H1.blk,ld0 _ H1.blk,?_⟩
   refine⟨?_,?_⟩
   ·refine ca_ccopy H1.cal λc' Fc u2 qc m2 nc=>?_
    have H2:=H1.md0 m2
    have z2:=m2.size
    have bc:∀x,Fc x→u1.heap.size≤x∧x<u2.heap.size:=λx hx=>⟨nc x hx,qc.lt hx⟩
    replace ad:=ad.mod m2 id
    refine⟨ld4 _ H2.blk,ld1 _ H2.blk,?_⟩
    refine⟨?_,?_⟩
    ·refine ca_copy H2.led λu3 l' Fl ql m3 nl=>?_
     have H3:=H2.md0 m3
     have z3:=m3.size
     have bl:∀x,Fl x→u2.heap.size≤x∧x<u3.heap.size:=λx hx=>⟨nl x hx,ql.lt hx⟩
     replace ad:=ad.mod m3 id
     replace qc:=qc.mod m3 λ_ _ h=>h
     refine⟨ld4 _ H3.blk,?_⟩
     obtain⟨nb,hnb⟩:∃nb,nb=u3.heap.size:=⟨_,rfl⟩
     have m4:Mod (λ_=>False) u3 (u3.alloc (.map #[] 0)):=(Mod.refl _ u3).alloc _
     have ab:MapAt encU bptr (u3.alloc (.map #[] 0)) nb ([]:List (Int×Nat)):=by rw[hnb];exact MapAt.new u3
     refine rvS (v:=.map (some nb)) (w' :=u3.alloc (.map #[] 0)) (by rw[hnb];simp[go_sem]) ?_
     generalize u3.alloc (.map #[] 0)=u4 at m4 ab⊢
     have H4:=H3.md0 m4
     have z4:=m4.size
     have bb:=ab.lt
     replace ad:=ad.mod m4 id
     replace qc:=qc.mod m4 λ_ _ h=>h
     replace ql:=ql.mod m4 λ_ _ h=>h
     refine⟨ld4 _ H4.blk,?_⟩
     refine rdPS (v:=.agg #[cptr c',lptr l',.map (some nb),.map (some nd),.int .u64 S.next]) (λ_=>by simp[go_sem,cptr,lptr]) ?_
     exact ven_box (S:=S) (((m1.trans m2).trans m3).trans m4) qc ql ab ad bc bl (by omega) (by omega) (by omega) (by omega) (by omega) (by omega) (by omega) fin
    ·obtain⟨nb,hnb⟩:∃nb,nb=u2.heap.size:=⟨_,rfl⟩
     have m3:Mod (λ_=>False) u2 (u2.alloc (.map #[] 0)):=(Mod.refl _ u2).alloc _
     have ab:MapAt encU bptr (u2.alloc (.map #[] 0)) nb ([]:List (Int×Nat)):=by rw[hnb];exact MapAt.new u2
     refine rvS (v:=.map (some nb)) (w' :=u2.alloc (.map #[] 0)) (by rw[hnb];simp[go_sem]) ?_
     generalize u2.alloc (.map #[] 0)=u3 at m3 ab⊢
     have H3:=H2.md0 m3
     have z3:=m3.size
     have bb:=ab.lt
     replace ad:=ad.mod m3 id
     replace qc:=qc.mod m3 λ_ _ h=>h
     refine⟨ld4 _ H3.blk,ld1 _ H3.blk,?_⟩
     refine ca_copy H3.led λu4 l' Fl ql m4 nl=>?_
     have H4:=H3.md0 m4
     have z4:=m4.size
     have bl:∀x,Fl x→u3.heap.size≤x∧x<u4.heap.size:=λx hx=>⟨nl x hx,ql.lt hx⟩
     replace ad:=ad.mod m4 id
     replace qc:=qc.mod m4 λ_ _ h=>h
     replace ab:=ab.mod m4 id
     refine⟨ld4 _ H4.blk,?_⟩
     refine rdPS (v:=.agg #[cptr c',lptr l',.map (some nb),.map (some nd),.int .u64 S.next]) (λ_=>by simp[go_sem,cptr,lptr]) ?_
     exact ven_box (S:=S) (((m1.trans m2).trans m3).trans m4) qc ql ab ad bc bl (by omega) (by omega) (by omega) (by omega) (by omega) (by omega) (by omega) fin
   ·obtain⟨nb,hnb⟩:∃nb,nb=u1.heap.size:=⟨_,rfl⟩
    have m2:Mod (λ_=>False) u1 (u1.alloc (.map #[] 0)):=(Mod.refl _ u1).alloc _
    have ab:MapAt encU bptr (u1.alloc (.map #[] 0)) nb ([]:List (Int×Nat)):=by rw[hnb];exact MapAt.new u1
    refine rvS (v:=.map (some nb)) (w' :=u1.alloc (.map #[] 0)) (by rw[hnb];simp[go_sem]) ?_
    generalize u1.alloc (.map #[] 0)=u2 at m2 ab⊢
    have H2:=H1.md0 m2
    have z2:=m2.size
    have bb:=ab.lt
    replace ad:=ad.mod m2 id
    refine⟨ld4 _ H2.blk,ld1 _ H2.blk,ld0 _ H2.blk,?_⟩
    refine ca_ccopy H2.cal λc' Fc u3 qc m3 nc=>?_
    have H3:=H2.md0 m3
    have z3:=m3.size
    have bc:∀x,Fc x→u2.heap.size≤x∧x<u3.heap.size:=λx hx=>⟨nc x hx,qc.lt hx⟩
    replace ad:=ad.mod m3 id
    replace ab:=ab.mod m3 id
    refine⟨ld4 _ H3.blk,ld1 _ H3.blk,?_⟩
    refine ca_copy H3.led λu4 l' Fl ql m4 nl=>?_
    have H4:=H3.md0 m4
    have z4:=m4.size
    have bl:∀x,Fl x→u3.heap.size≤x∧x<u4.heap.size:=λx hx=>⟨nl x hx,ql.lt hx⟩
    replace ad:=ad.mod m4 id
    replace ab:=ab.mod m4 id
    replace qc:=qc.mod m4 λ_ _ h=>h
    refine⟨ld4 _ H4.blk,?_⟩
    refine rdPS (v:=.agg #[cptr c',lptr l',.map (some nb),.map (some nd),.int .u64 S.next]) (λ_=>by simp[go_sem,cptr,lptr]) ?_
    exact ven_box (S:=S) (((m1.trans m2).trans m3).trans m4) qc ql ab ad bc bl (by omega) (by omega) (by omega) (by omega) (by omega) (by omega) (by omega) fin
 rintro _ W0 ⟨v',c',l',mb',md',fp',rfl,q0,M0,n0⟩
 unfold J43_2
 intro _
 have HW:=h.md0 M0
 simp only[vptr,nilK_ptr]
 refine rvS (fldV 2 (by omega) _) (rvS (ld2 _ HW.blk) ?_)
 refine rx_range uMapB HW.mbk λw1 it1 n1=>?_
 obtain⟨it,hit⟩:∃it,it=W0.heap.size:=⟨_,rfl⟩
 rw[←hit]at it1⊢
 have hM0:=M0.size
 have hit0:∀p x,fp' p x→x≠it:=λp x hx=>by have:=q0.lt hx;omega
 refine loopV (λst W=>∃(R:List (Int×Nat)) (C:List (Int×Nat)) (fp' :Pt→Nat→Prop),st=()∧MapIt encU bptr W it mb R∧VenW W v' c' l' mb' md' C [] fp' (cpy S C [])∧CInv A R C∧Mod (λ_=>False) w W∧∀p x,fp' p x→w.heap.size≤x∧x≠it)
  (λ_ W=>itLeft it mb W) ⟨A,[],fp',rfl,it1,q0.mod n1 λ_ _ _ h=>h,CInv.init A,M0.trans n1,λp x hx=>⟨n0 p x hx,hit0 p x hx⟩⟩ ?_
 rintro _ W ⟨R,C,fpC,rfl,r1,r2,r3,r4,r5⟩ KN hKN
 unfold L43_1
 intro _
 have hA:=h.mbk.1
 have hitW:=r1.lt
 refine rx_next r1 ?_ ?_
 ·intro hz W1 m1 hh
  subst hz
  refine rvS (by simp[-Int.natCast_add,go_sem]<;>first|exact⟨rfl,rfl⟩|exact rfl) ?_
  rw[ifB_bool,if_neg Bool.false_ne_true]
  simp only[vptr,nilK_ptr]
  have H1:=h.md0 (r4.trans m1)
  have q1:=r2.mod m1 λ_ _ _ h=>h
  have hdn:=r3.done
  refine rvS (fldV 3 (by omega) _) (rvS (ld3 _ H1.blk) ?_)
  refine rx_range uMapD H1.mbd λw2 it2 n2=>?_
  obtain⟨jt,hjt⟩:∃jt,jt=W1.heap.size:=⟨_,rfl⟩
  rw[←hjt]at it2⊢
  have hs1:=(r4.trans m1).size
  refine loopV (λst W=>∃(R:List (Int×Value)) (E:List (Int×Value)) (fp' :Pt→Nat→Prop),st=()∧MapIt encU idV W jt md R∧VenW W v' c' l' mb' md' C E fp' (cpy S C E)∧CInv D R E∧Mod (λ_=>False) w W∧∀p x,fp' p x→w.heap.size≤x∧x≠jt)
   (λ_ W=>itLeft jt md W) ⟨D,[],fpC,rfl,it2,q1.mod n2 λ_ _ _ h=>h,CInv.init D,(r4.trans m1).trans n2,λp x hx=>⟨(r5 p x hx).1,by have:=q1.lt hx;omega⟩⟩ ?_
  rintro _ W2 ⟨R2,E,fpE,rfl,t1,t2,t3,t4,t5⟩ KM hKM
  unfold L43_0
  intro _
  have hD:=h.mbd.1
  have hjtW:=t1.lt
  refine rx_next t1 ?_ ?_
  ·intro hz W3 m3 hh3
   subst hz
   refine rvS (by simp[-Int.natCast_add,go_sem]<;>first|exact⟨rfl,rfl⟩|exact rfl) ?_
   rw[ifB_bool,if_neg Bool.false_ne_true]
   have q3:=t2.mod m3 λ_ _ _ h=>h
   have hdE:=t3.done
   have hS:cpy S C E=S:=by
    unfold cpy
    have e1:(λn=>if(lk C n).isSome=true then S.bk n else Bk.empty)=S.bk:=by
     funext n
     by_cases hc:(lk C n).isSome=true
     ·rw[if_pos hc]
     ·rw[if_neg hc]
      rw[hdn n]at hc
      have:lk A n=none:=by cases hl:lk A n with|none=>rfl|some b=>rw[hl]at hc;exact absurd rfl hc
      exact((h.nbk n this).1).symm
    have e2:(λn=>if(lk E n).isSome=true then S.bd n else [])=S.bd:=by
     funext n
     by_cases hc:(lk E n).isSome=true
     ·rw[if_pos hc]
     ·rw[if_neg hc]
      rw[hdE n]at hc
      have hl:lk D n=none:=by cases hl:lk D n with|none=>rfl|some b=>rw[hl]at hc;exact absurd rfl hc
      have hb:=h.bd n
      unfold slOf at hb
      rw[hl]at hb
      obtain⟨hlen,⟨-,h0⟩|⟨b,cap,rest,he,-⟩⟩:=hb
      ·exact(List.eq_nil_of_length_eq_zero h0).symm
      ·cases he
    rw[e1,e2]
   rw[hS]at q3
   refine hK v' _ W3 ⟨c',l',mb',md',C,E,fpE,⟨q3,λn=>by rw[hdn];exact h.dom n,λn hn=>h.dod n (by rw[←hdE];exact hn)⟩,λ_=>Iff.rfl⟩ (t4.trans m3) λx hx=>?_
   obtain⟨p,hp⟩:=hx
   exact(t5 p x hp).1
  ·intro i p hp W3 i3 cu3 m3 hs3
   refine rvS (by simp[-Int.natCast_add,go_sem]<;>first|exact⟨rfl,rfl⟩|exact rfl) ?_
   rw[ifB_bool,if_pos rfl]
   refine rx_entry cu3 ?_
   refine rvS (by simp[-Int.natCast_add,go_sem]<;>first|exact⟨rfl,rfl⟩|exact rfl) ?_
   refine rvS (by simp[-Int.natCast_add,go_sem]<;>first|exact⟨rfl,rfl⟩|exact rfl) ?_
   simp only[vptr,nilK_ptr]
   have M3:Mod (λ_=>False) w W3:=t4.on m3 λb hb=>.inr (by omega)
   have q3:=t2.mod m3 λp x hx=>(t5 p x hx).2
   have md3:Mod (λ_=>False) W3 W3.drew:=(Mod.refl _ W3).drew
   have M3d:=M3.trans md3
   have q3d:=q3.mod md3 λ_ _ _ h=>h
   have i3d:=i3.mod md3 id id
   have hs3d:W3.drew.heap.size=W3.heap.size:=rfl
   generalize W3.drew=W4 at md3 M3d q3d i3d hs3d⊢
   have H4:=h.md0 M3d
   refine rdPS (fldV 3 (by omega)) (rdWS (ld3 _ q3d.blk) ?_)
   obtain⟨-,hDp,-⟩:=t3.step hD hp nilV
   have hbd:=H4.bd p.1
   have hsl:slOf D p.1=p.2:=by unfold slOf;rw[hDp];rfl
   rw[hsl]at hbd
   refine ca_cloneOd hbd.rd (by have:=hok.ord.bdl p.1;omega) λs' W5 o5 m5 n5=>?_
   have q5:=q3d.mod m5 λ_ _ _ h=>h
   refine⟨ld3 _ q5.blk,?_⟩
   obtain⟨t3',-,hEp⟩:=t3.step hD hp s'
   refine rux_mapUp (enc:=encU) (ev:=idV) (x:=p.1) (v:=s') uMapD kU32 q5.mbd λW6 a6 m6 hs6=>?_
   have hbdE:fpE (.bd p.1)=λx=>inSl (slOf E p.1) x:=funext λx=>propext (q3d.fbd p.1 x)
   have q6:=q3d.setBd (n:=p.1) (L:=S.bd p.1) (sl:=s') (m5.mono λ_ _ h=>h.elim) o5 (λx hx=>.inr (n5 x hx)) a6 m6
   rw[cpy_bd S C E p.1 s']at q6
   have hmd' :fpE .md md' :=(q3d.fmd md').2 rfl
   have hmdn:=t5 .md md' hmd'
   have hW34:=m5.size
   refine hKM _ _ ⟨R2.eraseIdx i,put E p.1 s',_,rfl,(i3d.mod m5 id id).mod m6 (λe=>?_) (λe=>hmdn.2 e.symm),q6,t3',(M3d.trans m5).on m6 λb hb=>.inr (by have:=hmdn.1;omega),λq x hx=>?_⟩ ?_
   ·have:=h.lt (p:=.md) ((h.fmd md).2 rfl);have:=hmdn.1;omega
   ·by_cases hq:q=.bd p.1
    ·subst hq
     rw[updP_self]at hx
     have:=n5 x hx
     have:=M3d.size
     have:=i3d.lt.2
     exact⟨by omega,by omega⟩
    ·rw[updP_ne hq]at hx;exact t5 q x hx
   ·have il:=(i3d.mod m5 id id).mod m6 (λe=>by have:=h.lt (p:=.md) ((h.fmd md).2 rfl);have:=hmdn.1;omega) (λe=>hmdn.2 e.symm)
    rw[il.left,t1.left]
    have hil:=(List.getElem?_eq_some_iff.1 hp).1
    rw[List.length_eraseIdx_of_lt hil];omega
 ·intro i p hp W3 i3 cu3 m3 hs3
  refine rvS (by simp[-Int.natCast_add,go_sem]<;>first|exact⟨rfl,rfl⟩|exact rfl) ?_
  rw[ifB_bool,if_pos rfl]
  refine rx_entry cu3 ?_
  refine rvS (by simp[-Int.natCast_add,go_sem]<;>first|exact⟨rfl,rfl⟩|exact rfl) ?_
  refine rvS (by simp[-Int.natCast_add,go_sem]<;>first|exact⟨rfl,rfl⟩|exact rfl) ?_
  simp only[vptr,nilK_ptr]
  have M3:Mod (λ_=>False) w W3:=r4.on m3 λb hb=>.inr (by omega)
  have q3:=r2.mod m3 λp x hx=>(r5 p x hx).2
  have md3:Mod (λ_=>False) W3 W3.drew:=(Mod.refl _ W3).drew
  have M3d:=M3.trans md3
  have q3d:=q3.mod md3 λ_ _ _ h=>h
  have i3d:=i3.mod md3 id id
  have hs3d:W3.drew.heap.size=W3.heap.size:=rfl
  generalize W3.drew=W4 at md3 M3d q3d i3d hs3d⊢
  have H4:=h.md0 M3d
  refine rdPS (fldV 2 (by omega)) (rdWS (ld2 _ q3d.blk) ?_)
  obtain⟨-,hAp,-⟩:=r3.step hA hp 0
  refine ca_bkcopy (H4.bk p.1 p.2 hAp) λb' F' W5 o5 m5 n5=>?_
  have q5:=q3d.mod m5 λ_ _ _ h=>h
  refine⟨ld2 _ q5.blk,?_⟩
  obtain⟨r3',-,hCp⟩:=r3.step hA hp b'
  refine rux_mapUp (enc:=encU) (ev:=bptr) (x:=p.1) (v:=b') uMapB kU32 q5.mbk λW6 a6 m6 hs6=>?_
  have q6:=q3d.addBk (n:=p.1) hCp m5 o5 n5 a6 m6
  rw[cpy_bk S C [] p.1 b']at q6
  have hmb' :fpC .mb mb' :=(q3d.fmb mb').2 rfl
  have hmbn:=r5 .mb mb' hmb'
  have hW34:=m5.size
  have hmbl:=h.lt (p:=.mb) ((h.fmb mb).2 rfl)
  have il:=(i3d.mod m5 id id).mod m6 (λe=>by have:=hmbn.1;omega) (λe=>hmbn.2 e.symm)
  refine hKN _ _ ⟨R.eraseIdx i,put C p.1 b',_,rfl,il,q6,r3',(M3d.trans m5).on m6 λb hb=>.inr (by have:=hmbn.1;omega),λq x hx=>?_⟩ ?_
  ·by_cases hq:q=.bk p.1
   ·subst hq
    rw[updP_self]at hx
    have:=n5 x hx
    have:=M3d.size
    have:=i3d.lt.2
    exact⟨by omega,by omega⟩
   ·rw[updP_ne hq]at hx;exact r5 q x hx
  ·rw[il.left,r1.left]
   have hil:=(List.getElem?_eq_some_iff.1 hp).1
   rw[List.length_eraseIdx_of_lt hil];omega
end Go.Proofs
