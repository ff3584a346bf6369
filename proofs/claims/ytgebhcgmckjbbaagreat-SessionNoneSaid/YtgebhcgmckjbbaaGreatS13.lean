/- Part of a proof. -/
import Derived.Test.YtgebhcgmckjbbaaGreatS12
set_option linter.all false
namespace Go.Proofs
open Go Go.Vc
attribute [local congr] Ca_congV
theorem RF_pass{w:World}{gv:Value}{α:Type}{xs:List α}{XS:List (List Value)}{T TF:TypeId}{fv:α→Value}{fc:α→List Value}{after:List Nat→Option Code→World→Prop}{Q0:Nat→Prop}{yl n0 k:Nat}
  {J:(Nat→Prop)→Nat→World→Prop}{Js:(Nat→Prop)→World→Prop}
  (ht:TellsM gv (xs.map λa=>[fv a]) w)(hv:VarOk T fv fc xs)
  (hld:∀a∈xs,∀(W:World) q,hp W q=some (.cells (fc a).toArray T (0,0))→(Instr.loadAt T (.pointer (some ⟨q,0,none⟩))).run Tryz.prog W=.ok (fv a) W)
  (hmod:∀Q Q' i W W',J Q i W→Mod Q W W' →(∀b,Q' b→(Q b∨W.heap.size≤b)∧b<W'.heap.size)→J Q' i W')
  (hmodx:∀Q Q' W W',Js Q W→Mod Q W W' →(∀b,Q' b→(Q b∨W.heap.size≤b)∧b<W'.heap.size)→Js Q' W')
  (hstep:∀Q i x W,XS[i]? =some x→J Q i W→∀K' :Kont,(∀W',J Q (i+1) W' →W.heap.size≤W'.heap.size→(∀b,Q b→W'.heap[b]? =W.heap[b]?)→K' (.bool true) W')→(∀W',Js Q W' →W.heap.size≤W'.heap.size→(∀b,Q b→W'.heap[b]? =W.heap[b]?)→K' (.bool false) W')→callV Tryz.prog (.func (.yield yl) #[] #[]) x W K')
  (hxs:∀i (hi:i<xs.length),XS[k+i]? =some [fv xs[i]])
  (hy:hp w n0=some (.cells #[.func (.yield yl) #[] #[]] TF (0,0)))(hyl:∀W,hp W n0=some (.cells #[.func (.yield yl) #[] #[]] TF (0,0))→(Instr.loadAt TF (.pointer (some ⟨n0,0,none⟩))).run Tryz.prog W=.ok (.func (.yield yl) #[] #[]) W)
  (hn0:Q0 n0)(hQ0:∀b,Q0 b→b<w.heap.size)(hJ0:J Q0 k w)
  (hend:∀Q W d,d=w.heap.size→J Q (k+xs.length) W→(∀b,Q0 b→Q b)→Q d→(∀b,Q b→b<W.heap.size)→(∀b,Q b→Q0 b∨w.heap.size≤b)→(∀b,Q0 b→W.heap[b]? =w.heap[b]?)→hp W d=some (.deferred (some []))→after [d] none W)
  (hexit:∀Q W d,d=w.heap.size→Js Q W→(∀b,Q0 b→Q b)→Q d→(∀b,Q b→b<W.heap.size)→(∀b,Q b→Q0 b∨w.heap.size≤b)→(∀b,Q0 b→W.heap[b]? =w.heap[b]?)→hp W d=some (.deferred (some []))→after [d] (some .ret) W):
  RFW Tryz.prog none gv w 1 (λl x W KN KJ=>rv Tryz.prog (Instr.alloc T true (.tuple #[])) W λv w1=>ru Tryz.prog (Instr.storeAt T v (x.getD 0 undef)) w1 λw2=>beginK l w2 λw3=>
   rv Tryz.prog (Instr.loadAt TF (.pointer (some ⟨n0,0,none⟩))) w3 λv41 w42=>rv Tryz.prog (Instr.loadAt T v) w42 λv43 w44=>callV Tryz.prog v41 [v43] w44 λv45 w46=>rv Tryz.prog (Op.unary .not v45) w46 λv47 w48=>ifB v47 (KJ .ret w48) (KN w48)) after:=by
 obtain⟨⟨Ok,hit,hok⟩,-⟩:=ht
 obtain⟨f,first,captured,rfl,hit0⟩:=hit.out
 refine RFW_iff.2 ?_
 show∀rec:Loop,_
 intro rec hready hpend hD hY
 obtain⟨d,hd0⟩:∃d,d=w.heap.size:=⟨_,rfl⟩
 have hsz:(w.alloc (.deferred (some []))).heap.size=d+1:=by rw[World.size_alloc,hd0]
 obtain⟨wr,hwr⟩:∃wr,wr=(w.alloc (.deferred (some []))).alloc (.loop rec):=⟨_,rfl⟩
 have hrec0:wr.heap[d+1]? =some (.loop rec):=by rw[hwr,heap_alloc,if_pos hsz.symm]
 have hszr:wr.heap.size=d+2:=by rw[hwr,World.size_alloc,hsz]
 have hdef0:hp wr d=some (.deferred (some [])):=by rw[hwr];simp[go_sem,hd0]
 have hmr:Mod (λ_=>False) w wr:=by rw[hwr];exact((Mod.refl _ w).alloc _).alloc _
 have hput:∀(W:World) (o:Obj),Mod (λb=>b=d+1) W (W.putObj (d+1) o):=λW o=>(Mod.refl (λb=>b=d+1) W).putObj (b:=d+1) (.inl rfl) o
 rw[hsz]at hY⊢
 rw[←hwr]
 let U:(Nat→Prop)→Nat→Prop:=λQ b=>Q0 b∨b=d∨b=d+1∨Q b
 let S:(Nat→Prop)→World→Prop:=λQ W=>hp W d=some (.deferred (some []))∧(∀b,Q b→d+1<b∧b<W.heap.size)∧∀b,Q0 b→W.heap[b]? =w.heap[b]?
 have hS:∀(Q Q' H:Nat→Prop) (W W' :World),S Q W→d+2≤W.heap.size→Mod H W W' →(∀b,H b→Q b∨b=d+1)→(∀b,Q' b→(Q b∨W.heap.size≤b)∧b<W'.heap.size)→S Q' W' :=by
  rintro Q Q' H W W' ⟨s1,s2,s3⟩ hl hm hH hQ'
  refine⟨hm.hpk s1 λhb=>?_,λb hb=>?_,λb hb=>?_⟩
  ·rcases hH _ hb with h|h
   ·have:=s2 _ h;omega
   ·omega
  ·have ha:=hQ' b hb
   rcases ha.1 with h|h
   ·exact⟨(s2 b h).1,ha.2⟩
   ·exact⟨by omega,ha.2⟩
  ·have hbl:=hQ0 b hb
   rw[hm.blk b (by omega) λhx=>?_,s3 b hb]
   rcases hH _ hx with h|h
   ·have:=s2 _ h;omega
   ·omega
 have hU:∀(Q Q' :Nat→Prop) (W W' :World),d+2≤W.heap.size→W.heap.size≤W'.heap.size→(∀b,Q' b→(Q b∨W.heap.size≤b)∧b<W'.heap.size)→∀b,U Q' b→(U Q b∨W.heap.size≤b)∧b<W'.heap.size:=by
  rintro Q Q' W W' h1 h2 h3 b (h|h|h|h)
  ·have:=hQ0 b h;exact⟨.inl (.inl h),by omega⟩
  ·exact⟨.inl (.inr (.inl h)),by omega⟩
  ·exact⟨.inl (.inr (.inr (.inl h))),by omega⟩
  ·have ha:=h3 b h
   exact⟨ha.1.imp (λh=>.inr (.inr (.inr h))) id,ha.2⟩
 have hUm:∀{H Q:Nat→Prop} {W W' :World},Mod H W W' →(∀b,H b→Q b∨b=d+1)→Mod (U Q) W W' :=λhm hH=>hm.mono λb _ hb=>by
  rcases hH b hb with h|h
  ·exact .inr (.inr (.inr h))
  ·exact .inr (.inr (.inl h))
 refine hit0 _ (λQ i W=>J (U Q) (k+i) W∧S Q W∧W.heap[d+1]? =some (.loop rec))
  (λQ W=>∃r,Js (U Q) W∧S Q W∧W.heap[d+1]? =some (.loop r)∧r.state=.done∧r.pending=some .ret) _ _ (hok _ hmr) ?_ ?_ ?_ ?_ ?_ ?_
 ·intro Q W1 hm hQ
  have hs1:=hm.size
  refine⟨hmod _ _ _ _ _ hJ0 ((hmr.trans hm).mono λ_ _ h=>h.elim) ?_,⟨hm.hpk hdef0 id,λb hb=>by have:=hQ b hb;omega,λb hb=>?_⟩,hm.keep hrec0 id⟩
  ·rintro b (h|h|h|h)
   ·have:=hQ0 b h;exact⟨.inl h,by omega⟩
   ·exact⟨.inr (by omega),by omega⟩
   ·exact⟨.inr (by omega),by omega⟩
   ·have:=hQ b h;exact⟨.inr (by omega),by omega⟩
  ·exact(hmr.trans hm).blk b (hQ0 b hb) id
 ·rintro Q Q' i W W' ⟨h1,h2,h3⟩ hm hQ'
  have hl:=lt_of_heap h3
  exact⟨hmod _ _ _ _ _ h1 (hUm hm λb hb=>.inl hb) (hU Q Q' W W' (by omega) hm.size hQ'),hS _ _ _ _ _ h2 (by omega) hm (λb hb=>.inl hb) hQ',hm.keep h3 λhb=>by have:=h2.2.1 _ hb;omega⟩
 ·rintro Q Q' W W' ⟨r,h1,h2,h3,h4⟩ hm hQ'
  have hl:=lt_of_heap h3
  exact⟨r,hmodx _ _ _ _ h1 (hUm hm λb hb=>.inl hb) (hU Q Q' W W' (by omega) hm.size hQ'),hS _ _ _ _ _ h2 (by omega) hm (λb hb=>.inl hb) hQ',hm.keep h3 λhb=>by have:=h2.2.1 _ hb;omega,h4⟩
 ·rintro Q i x W hx ⟨h1,h2,h3⟩ K' hT hF
  refine callV_iff.2 ?_
  show Yl Tryz.prog (d+1) ⟨_⟩ W K'
  have e1:(#[]:Array Value).toList++x=x:=rfl
  rw[e1]
  obtain⟨hi,rfl⟩:∃hi:i<xs.length,x=[fv xs[i]]:=by
   rw[List.getElem?_map]at hx
   cases hh:xs[i]? with
   |none=>rw[hh]at hx;cases hx
   |some o=>
    obtain⟨hj,he⟩:=List.getElem?_eq_some_iff.1 hh
    rw[hh]at hx
    exact⟨hj,by rw[he];exact(Option.some.inj hx).symm⟩
  refine hY _ W K' rfl ⟨rec.state,rec.pending,h3⟩ ?_
  obtain⟨w1,w2,v1,v2,v3,v4⟩:=hv xs[i] (List.getElem_mem hi) W
  obtain⟨q,hq0⟩:∃q,q=W.heap.size:=⟨_,rfl⟩
  rw[←hq0]at v1 v2 v3
  refine rvS v1 ?_
  show ru Tryz.prog (Instr.storeAt T (.pointer (some ⟨q,0,none⟩)) (fv xs[i])) w1 _
  refine ruS v2 ?_
  have r2:w2.heap[d+1]? =some (.loop rec):=v4.keep h3 id
  refine beginK_of r2 hready ?_
  have m3:=hput w2 (.loop {rec with state:=.busy})
  have r3:(w2.putObj (d+1) (.loop {rec with state:=.busy})).heap[d+1]? =some (.loop {rec with state:=.busy}):=by rw[heap_putObj,if_pos rfl,r2];rfl
  generalize w2.putObj (d+1) (.loop {rec with state:=.busy})=w3 at m3 r3⊢
  have hdl:d+1<q:=by rw[hq0];exact lt_of_heap h3
  have q3:=m3.hpk v3 (by omega)
  have hs3:=m3.size
  have hs4:=v4.size
  have M3:Mod (λb=>b=d+1) W w3:=(v4.mono λ_ _ h=>h.elim).trans m3
  have hQs:∀(W' :World),W.heap.size≤W'.heap.size→∀b,Q b→(Q b∨W.heap.size≤b)∧b<W'.heap.size:=λW' hs b hb=>⟨.inl hb,by have:=h2.2.1 b hb;omega⟩
  have hJ3:=hmod _ _ _ _ _ h1 (hUm (Q:=Q) M3 λb hb=>.inr hb) (hU Q Q W w3 (by omega) M3.size (hQs _ M3.size))
  have hS3:=hS _ _ _ _ _ h2 (by omega) M3 (λb hb=>.inr hb) (hQs _ M3.size)
  refine rvS (hyl _ ?_) ?_
  ·have:=hS3.2.2 n0 hn0
   unfold hp;rw[this];exact hy
  refine rvS (hld xs[i] (List.getElem_mem hi) _ _ q3) ?_
  have hAft:∀(W' :World) (o:Obj),w3.heap.size≤W'.heap.size→(∀b,U Q b→W'.heap[b]? =w3.heap[b]?)→
    W'.heap[d+1]? =some (.loop {rec with state:=.busy})∧S Q (W'.putObj (d+1) o)∧(∀b,Q b→(W'.putObj (d+1) o).heap[b]? =W.heap[b]?)∧W.heap.size≤(W'.putObj (d+1) o).heap.size:=by
   intro W' o hs hU'
   have hp1:=hput W' o
   have hsp:=hp1.size
   have hs' :S Q W' :=⟨by unfold hp;rw[hU' d (.inr (.inl rfl))];exact hS3.1,λb hb=>by have:=hS3.2.1 b hb;omega,λb hb=>by rw[hU' b (.inl hb)];exact hS3.2.2 b hb⟩
   refine⟨by rw[hU' _ (.inr (.inr (.inl rfl)))];exact r3,hS _ _ _ _ _ hs' (by omega) hp1 (λb hb=>.inr hb) λb hb=>⟨.inl hb,by have:=hS3.2.1 b hb;omega⟩,λb hb=>?_,by omega⟩
   have ha:=h2.2.1 b hb
   rw[hp1.blk b (by omega) (by omega),hU' b (.inr (.inr (.inr hb))),M3.blk b ha.2 (by omega)]
  refine hstep _ _ _ _ (hxs i hi) hJ3 _ (λW' hJ' hs hU' =>?_) λW' hJ' hs hU' =>?_
  ·refine rvS (v:=.bool false) (w' :=W') (by simp[go_sem]) ?_
   rw[ifB_bool,if_neg Bool.false_ne_true]
   obtain⟨k1,k2,k3,k4⟩:=hAft W' (.loop {{rec with state:=.busy}with state:=.ready,pending:=none}) hs hU'
   refine⟨_,k1,hT _ ⟨?_,k2,?_⟩ k4 k3⟩
   ·exact hmod _ _ _ _ _ hJ' (hUm (Q:=Q) (hput W' _) λb hb=>.inr hb) (hU Q Q W' _ (by omega) (hput W' _).size λb hb=>⟨.inl hb,(k2.2.1 b hb).2⟩)
   ·rw[heap_putObj,if_pos rfl,k1]
    simp[←hready,←hpend]
  ·refine rvS (v:=.bool true) (w' :=W') (by simp[go_sem]) ?_
   rw[ifB_bool,if_pos rfl]
   obtain⟨k1,k2,k3,k4⟩:=hAft W' (.loop {{rec with state:=.busy}with state:=.done,pending:=some .ret}) hs hU'
   refine⟨_,k1,hF _ ⟨{rec with state:=.done,pending:=some .ret},?_,k2,?_,rfl,rfl⟩ k4 k3⟩
   ·exact hmodx _ _ _ _ hJ' (hUm (Q:=Q) (hput W' _) λb hb=>.inr hb) (hU Q Q W' _ (by omega) (hput W' _).size λb hb=>⟨.inl hb,(k2.2.1 b hb).2⟩)
   ·rw[heap_putObj,if_pos rfl,k1]
    rfl
 ·rintro Q W ⟨h1,h2,h3⟩
  refine⟨rec,h3,by rw[hready];decide,?_⟩
  rw[←hd0]
  have hl:=lt_of_heap h3
  have hm:=hput W (.loop {rec with state:=.exhausted})
  generalize W.putObj (d+1) (.loop {rec with state:=.exhausted})=W8 at hm⊢
  have hs8:=hm.size
  rw[hpend]
  have hQ8:∀b,Q b→(Q b∨W.heap.size≤b)∧b<W8.heap.size:=λb hb=>⟨.inl hb,by have:=h2.2.1 b hb;omega⟩
  have hS8:=hS _ _ _ _ _ h2 (by omega) hm (λb hb=>.inr hb) hQ8
  have h1' :J (U Q) (k+xs.length) W:=by have:=h1;rwa[List.length_map]at this
  refine hend (U Q) W8 d hd0 (hmod _ _ _ _ _ h1' (hUm (Q:=Q) hm λb hb=>.inr hb) (hU Q Q W W8 (by omega) hm.size hQ8)) (λb hb=>.inl hb) (.inr (.inl rfl)) (λb hb=>?_) (λb hb=>?_) hS8.2.2 hS8.1
  ·exact(hU Q Q W W8 (by omega) hm.size hQ8 b hb).2
  ·rcases hb with h|h|h|h
   ·exact .inl h
   ·exact .inr (by omega)
   ·exact .inr (by omega)
   ·exact .inr (by have:=h2.2.1 b h;omega)
 ·rintro Q W ⟨r,h1,h2,h3,h4,h5⟩
  refine⟨r,h3,by rw[h4];decide,?_⟩
  rw[←hd0]
  have hl:=lt_of_heap h3
  have hm:=hput W (.loop {r with state:=.exhausted})
  generalize W.putObj (d+1) (.loop {r with state:=.exhausted})=W8 at hm⊢
  have hs8:=hm.size
  rw[h5]
  have hQ8:∀b,Q b→(Q b∨W.heap.size≤b)∧b<W8.heap.size:=λb hb=>⟨.inl hb,by have:=h2.2.1 b hb;omega⟩
  have hS8:=hS _ _ _ _ _ h2 (by omega) hm (λb hb=>.inr hb) hQ8
  refine hexit (U Q) W8 d hd0 (hmodx _ _ _ _ h1 (hUm (Q:=Q) hm λb hb=>.inr hb) (hU Q Q W W8 (by omega) hm.size hQ8)) (λb hb=>.inl hb) (.inr (.inl rfl)) (λb hb=>?_) (λb hb=>?_) hS8.2.2 hS8.1
  ·exact(hU Q Q W W8 (by omega) hm.size hQ8 b hb).2
  ·rcases hb with h|h|h|h
   ·exact .inl h
   ·exact .inr (by omega)
   ·exact .inr (by omega)
   ·exact .inr (by have:=h2.2.1 b h;omega)
theorem SideQ.keep{F:Nat→Prop}{w w' :World}{s:Nat}{buy:Bool}{l:List Od}(h:SideQ w s F buy l)(hk:∀b,F b→w'.heap[b]? =w.heap[b]?):SideQ w' s F buy l:=by
 obtain⟨⟨sl,h1,h2,h3,h4⟩,h5,h6⟩:=h
 exact⟨⟨sl,(hk s ((h3 s).2 (.inl rfl))).trans h1,h2.keep λb hb=>hk b ((h3 b).2 (.inr hb)),h3,h4⟩,h5,h6⟩
theorem ldOdV:∀a:Od,∀(W:World) q,hp W q=some (.cells (odC a).toArray tOd (0,0))→(Instr.loadAt tOd (.pointer (some ⟨q,0,none⟩))).run Tryz.prog W=.ok (odV a) W:=λa W q h=>ldOd (o:=a) (At.all h)
set_option maxRecDepth 10000 in
set_option maxHeartbeats 1000000 in
theorem it_ball{b vb:Nat}{B:Bk}{T:TypeId}:IterM Tryz.prog (.func (.func 144) #[] #[.pointer (some ⟨vb,0,none⟩)]) ((B true++B false).map λo=>[odV o]) (λW=>hp W vb=some (.cells #[bptr b] T (0,0))∧∃F,BookQ W b F B):=by
 refine⟨⟨_,_,_,rfl,?_⟩⟩
 rintro yl J Js W K ⟨hb,F,hq⟩ h0 hmod hmodx hstep hend hex
 show Ca Tryz.prog _ #[.func (.yield yl) #[] #[],.pointer (some ⟨vb,0,none⟩)] W K
 apply ca144
 unfold F144
 obtain⟨n0,hn0⟩:∃n0,n0=W.heap.size:=⟨_,rfl⟩
 have m1:Mod (λ_=>False) W (W.alloc (.cells #[.func (.yield yl) #[] #[]] 245)):=(Mod.refl _ W).alloc _
 have b1:hp (W.alloc (.cells #[.func (.yield yl) #[] #[]] 245)) n0=some (.cells #[.func (.yield yl) #[] #[]] 245 (0,0)):=by rw[hn0];simp[go_sem]
 refine rvS (v:=.pointer (some ⟨n0,0,none⟩)) (w' :=W.alloc (.cells #[.func (.yield yl) #[] #[]] 245)) (by rw[hn0];rfl) ?_
 generalize W.alloc (.cells #[.func (.yield yl) #[] #[]] 245)=w1 at m1 b1⊢
 have hb1:=m1.hpk hb id
 have hq1:=hq.mod m1 λ_ _ h=>h
 refine rvS (v:=bptr b) (w' :=w1) (by simp[go_sem,hb1,bptr]) ?_
 refine ca_bkready hq1 ?_
 refine rvS (v:=.bool false) (by simp[go_sem]<;>first|exact⟨rfl,rfl⟩|exact rfl) ?_
 rw[ifB_bool,if_neg Bool.false_ne_true]
 refine rvS (v:=bptr b) (w' :=w1) (by simp[go_sem,hb1,bptr]) ?_
 refine ca_bkcopy hq1 λb' F' w2 q2 m2 n2=>?_
 obtain⟨s,G,hr,hF'⟩:=q2.r
 have md:Mod (λ_=>False) w2 w2.drew:=(Mod.refl _ w2).drew
 have hd:=hr.mod md id λ_ _ _ h=>h
 have c0:=hd.blk
 simp only[bptr,nilK_ptr]
 refine rdPS (λ_=>by simp[-Int.natCast_add,go_sem]<;>first|exact⟨rfl,rfl⟩|exact rfl) ?_
 refine rdWS (v:=sptr (s true)) (by simp[go_sem,c0]) ?_
 refine rdPS (λ_=>by simp[-Int.natCast_add,go_sem]<;>first|exact⟨rfl,rfl⟩|exact rfl) ?_
 refine rdWS (v:=sptr (s false)) (by simp[go_sem,c0]) ?_
 refine rx_lit [sptr (s true),sptr (s false)] psU (elemT_of psE) rfl rfl (by intro v hv;simp only[List.mem_cons,List.not_mem_nil,or_false]at hv;rcases hv with rfl|rfl<;>rfl) (by omega) ?_
 have e0:(([sptr (s true),sptr (s false)]:List Value).flatMap (·.cells.toList)).toArray= #[sptr (s true),sptr (s false)]:=rfl
 rw[e0]
 have M2:=(m1.trans m2).trans md
 have h1:=m2.hpk b1 id
 have h1:=md.hpk h1 id
 generalize w2.drew=w3 at md hd c0 M2 h1⊢
 obtain⟨q,hq0⟩:∃q,q=w3.heap.size:=⟨_,rfl⟩
 have m4:Mod (λ_=>False) w3 (w3.alloc (.cells #[sptr (s true),sptr (s false)] 228)):=(Mod.refl _ w3).alloc _
 have b4:hp (w3.alloc (.cells #[sptr (s true),sptr (s false)] 228)) q=some (.cells #[sptr (s true),sptr (s false)] 228 (0,0)):=by rw[hq0];simp[go_sem]
 rw[←hq0]
 generalize w3.alloc (.cells #[sptr (s true),sptr (s false)] 228)=w4 at m4 b4⊢
 have r4:=hd.mod m4 id λ_ _ _ h=>h
 have n4:=m4.hpk h1 id
 have M4:=M2.trans m4
 refine rdWS (v:=.int .i64 2) (by simp[go_sem]) ?_
 have hs1:=m1.size
 have hs2:=m2.size
 have hsd:=md.size
 have hs4:=m4.size
 have hn0l:=lt_of_heap b1
 have hql:=lt_of_heap b4
 have hGs:∀d x,G d x→W.heap.size≤x∧x<w4.heap.size:=λd x hx=>⟨by have:=n2 x ((hF' x).2 (.inr (by cases d;exact .inr hx;exact .inl hx)));omega,r4.lt hx⟩
 let off:Nat→Nat:=λi=>if i=0 then 0 else if i=1 then(B true).length else(B true++B false).length
 let St:(Nat→Prop)→List Nat→World→Prop:=λQ ds W' =>hp W' n0=some (.cells #[.func (.yield yl) #[] #[]] 245 (0,0))∧hp W' q=some (.cells #[sptr (s true),sptr (s false)] 228 (0,0))∧(∀d,SideQ W' (s d) (G d) d (B d))∧
  (∀d∈ds,hp W' d=some (.deferred (some []))∧Q d)∧ds.Nodup∧(∀b,Q b→b<W'.heap.size)∧Q n0∧Q q∧∀d x,G d x→Q x
 have hJ4:J (λx=>x=n0∨x=q∨G true x∨G false x) 0 w4:=h0 _ _ M4 λx hx=>by
  rcases hx with rfl|rfl|h|h
  ·omega
  ·omega
  ·exact hGs _ _ h
  ·exact hGs _ _ h
 refine loopV (λst W' =>∃(i:Nat) (Q:Nat→Prop) (ds:List Nat),i≤2∧st=((.int .i64 i,()),ds)∧J Q (off i) W' ∧St Q ds W')
  (λst _=>match st.1.1 with| .int _ i=>2 - i.toNat|_=>0) ⟨0,_,[],by omega,rfl,hJ4,n4,b4,r4.sd,λd hd=>absurd hd List.not_mem_nil,List.nodup_nil,λx hx=>?_,.inl rfl,.inr (.inl rfl),λd x hx=>by cases d;exact .inr (.inr (.inr hx));exact .inr (.inr (.inl hx))⟩ ?_
 ·rcases hx with rfl|rfl|h|h
  ·omega
  ·omega
  ·exact(hGs _ _ h).2
  ·exact(hGs _ _ h).2
 rintro⟨_,ds⟩ W5 ⟨i,Q,ds0,hi,⟨⟩,hJ,k1,k2,k3,k4,k5,k6,k7,k8,k9⟩ KN hKN
 unfold L144_2
 intro _
 by_cases hlt:i<2
 ·have hlt' :(i:Int)<2:=by omega
  refine rvS (v:=.bool true) (by simp[go_sem,hlt']<;>first|exact⟨rfl,rfl⟩|exact rfl) ?_
  rw[ifB_bool,if_pos rfl]
  obtain⟨d,hd⟩:∃d:Bool,(i=0∧d=true)∨(i=1∧d=false):=by
   by_cases h0:i=0
   ·exact⟨true,.inl ⟨h0,rfl⟩⟩
   ·exact⟨false,.inr ⟨by omega,rfl⟩⟩
  have hlt2:¬(2:Int)≤(i:Int):=by omega
  refine rvS (v:=.pointer (some ⟨q,i,none⟩)) (w' :=W5) (by simp[go_sem,hlt,hlt2,addr_add]) ?_
  refine rvS (v:=sptr (s d)) (w' :=W5) (by rcases hd with⟨rfl,rfl⟩|⟨rfl,rfl⟩<;>simp[go_sem,k2]) ?_
  refine ca_sall (k3 d) λgv w6 ht m6=>?_
  have hs6:=m6.size
  have hJ6:=hmod _ Q _ _ _ hJ (m6.mono λ_ _ h=>h.elim) λb hb=>⟨.inl hb,by have:=k6 b hb;omega⟩
  have hoff:off i+(B d).length=off (i+1):=by rcases hd with⟨rfl,rfl⟩|⟨rfl,rfl⟩<;>simp[off]
  delta R144_0
  refine RF_pass (XS:=(B true++B false).map λo=>[odV o]) (T:=tOd) (fc:=odC) (Q0:=Q) (k:=off i) ht.m VarOk.od (λa _=>ldOdV a) hmod hmodx hstep ?_ (m6.hpk k1 id) ?_ k7 (λb hb=>by have:=k6 b hb;omega) hJ6 ?_ ?_
  ·intro j hj
   rcases hd with⟨rfl,rfl⟩|⟨rfl,rfl⟩
   ·have e:((B true++B false).map λo=>[odV o])[off 0+j]? =((B true++B false)[0+j]?).map λo=>[odV o]:=List.getElem?_map
    rw[e,Nat.zero_add,List.getElem?_append_left hj,List.getElem?_eq_getElem hj];rfl
   ·have e:((B true++B false).map λo=>[odV o])[off 1+j]? =((B true++B false)[(B true).length+j]?).map λo=>[odV o]:=List.getElem?_map
    rw[e,List.getElem?_append_right (by omega),Nat.add_sub_cancel_left,List.getElem?_eq_getElem hj];rfl
  ·intro W' h
   simp[go_sem,h]
  ·intro Q' W' dd hdd hJ' a1 a2 a3 a4 a5 a6
   have hst:∀x o,Q x→hp w6 x=some o→hp W' x=some o:=λx o hx h=>by unfold hp;rw[a5 x hx];exact h
   have hSd:∀d,SideQ W' (s d) (G d) d (B d):=λe=>(((k3 e).mod m6 λ_ _ h=>h)).keep λx hx=>a5 x (k9 e x hx)
   unfold A144_1
   simp only[afterK]
   refine rvS (v:=.int .i64 ((i+1:Nat):Int)) (w' :=W') (by simp[go_sem];rw[wrapI (by omega) (by omega)]) ?_
   refine hKN _ _ ⟨i+1,Q',[dd]++ds,by omega,rfl,by rw[←hoff];exact hJ',hst _ _ k7 (m6.hpk k1 id),hst _ _ k8 (m6.hpk k2 id),hSd,λx hx=>?_,?_,a3,a1 _ k7,a1 _ k8,λe x hx=>a1 _ (k9 e x hx)⟩ (by show 2 - (((i+1:Nat):Int)).toNat<2 - ((i:Int)).toNat;omega)
   ·rcases List.mem_cons.1 hx with rfl|hx
    ·exact⟨a6,a2⟩
    ·exact⟨hst _ _ (k4 x hx).2 (m6.hpk (k4 x hx).1 id),a1 _ (k4 x hx).2⟩
   ·refine List.nodup_cons.2 ⟨λhx=>?_,k5⟩
    have:=k6 _ (k4 dd hx).2
    omega
  ·intro Q' W' dd hdd hJ' a1 a2 a3 a4 a5 a6
   unfold A144_1
   simp only[afterK]
   refine retV (ds:=[dd]++ds) ?_ ?_ λW8 m8=>?_
   ·refine List.nodup_cons.2 ⟨λhx=>?_,k5⟩
    have:=k6 _ (k4 dd hx).2
    omega
   ·intro x hx
    rcases List.mem_cons.1 hx with rfl|hx
    ·exact a6
    ·unfold hp;rw[a5 x (k4 x hx).2];exact m6.hpk (k4 x hx).1 id
   ·refine hex _ _ (hmodx _ Q' _ _ hJ' (m8.mono λx _ hx=>?_) λx hx=>⟨.inl hx,by have:=a3 x hx;have:=m8.size;omega⟩)
    rcases List.mem_cons.1 hx with rfl|hx
    ·exact a2
    ·exact a1 _ (k4 x hx).2
 ·obtain rfl:i=2:=by omega
  refine rvS (v:=.bool false) (by simp[go_sem]<;>first|exact⟨rfl,rfl⟩|exact rfl) ?_
  rw[ifB_bool,if_neg Bool.false_ne_true]
  refine retV (ds:=ds) k5 (λx hx=>(k4 x hx).1) λW8 m8=>?_
  refine hend Q _ ?_
  have e:off 2=((B true++B false).map λo=>[odV o]).length:=by simp[off]
  rw[←e]
  exact hmod _ Q _ _ _ hJ (m8.mono λx _ hx=>(k4 x hx).2) λx hx=>⟨.inl hx,by have:=k6 x hx;have:=m8.size;omega⟩
theorem ca_ball{w:World}{K:Kont}{b:Nat}{F:Nat→Prop}{B:Bk}(h:BookQ w b F B)
  (hK:∀gv w',TellsM gv ((B true++B false).map λo=>[odV o]) w' →Mod (λ_=>False) w w' →K gv w'):Ca Tryz.prog 57 #[bptr b] w K:=by
 apply ca57
 unfold F57
 have m0:Mod (λ_=>False) w (w.alloc (.cells #[bptr b] 109)):=(Mod.refl _ w).alloc _
 refine rvS (v:=.pointer (some ⟨w.heap.size,0,none⟩)) (w' :=w.alloc (.cells #[bptr b] 109)) (by simp[go_sem,bptr]) ?_
 have b0:hp (w.alloc (.cells #[bptr b] 109)) w.heap.size=some (.cells #[bptr b] 109 (0,0)):=by simp[go_sem]
 exact hK _ _ ⟨⟨_,it_ball (b:=b) (vb:=w.heap.size) (B:=B) (T:=109),λW m=>⟨m.hpk b0 id,F,h.mod (m0.trans m) λ_ _ h=>h⟩⟩,_,_,rfl⟩ m0
end Go.Proofs
namespace Go.Proofs
open Go Go.Vc
attribute [local congr] Ca_congV
theorem BookQ.nn{w:World}{b:Nat}{F:Nat→Prop}{B:Bk}(h:BookQ w b F B):∀d,(B d).length≤100∧∀o∈B d,o.may=true∧o.buy=d∧o.Fit:=by
 obtain⟨s,G,hr,hF⟩:=h.r
 exact λd=>⟨(hr.sd d).len,(hr.sd d).may⟩
def Bk.all(B:Bk):List Od:=B true++B false
theorem BookQ.all{w:World}{b:Nat}{F:Nat→Prop}{B:Bk}(h:BookQ w b F B):B.all.length≤200∧∀o∈B.all,o.may=true∧o.Fit:=by
 have:=h.nn
 refine⟨by unfold Bk.all;rw[List.length_append];have h1:=(this true).1;have h2:=(this false).1;omega,λo ho=>?_⟩
 rcases List.mem_append.1 ho with ho|ho
 ·exact⟨((this _).2 o ho).1,((this _).2 o ho).2.2⟩
 ·exact⟨((this _).2 o ho).1,((this _).2 o ho).2.2⟩
theorem take_succ' {α:Type}{l:List α}{i:Nat}(hi:i<l.length):l.take (i+1)=l.take i++[l[i]]:=by
 rw[List.take_add_one,List.getElem?_eq_getElem hi];rfl
end Go.Proofs

namespace Go.Proofs
open Go Go.Vc
attribute [local congr] Ca_congV
abbrev tCt:TypeId:=108
abbrev tCts:TypeId:=45
theorem uCts:Tryz.prog.underlying tCts=some (.slice tCt):=by kernel_rfl
theorem nCt:Tryz.prog.cellsOf tCt=26+1:=by kernel_rfl
theorem aCt:isAggT Tryz.prog tCt=true:=by kernel_rfl
theorem zCt:hasZero Tryz.prog tCt=true:=by kernel_rfl
theorem zlCt:(zeroC Tryz.prog tCt).length=26+1:=by kernel_rfl
theorem eCt:elemOk Tryz.prog tCt 27 208=true:=by kernel_rfl
abbrev CtS(w:World)(s:Value)(l:List Ct):Prop:=Own w tCt 27 s l.length (l.flatMap ctC)
theorem sCt(w:World):(Go.sizeOf tCt).run Tryz.prog w=.ok 27 w:=Go.Vc.run_sizeOf nCt w
theorem ovFindCt:Extern.find Tryz.f251=some (Extern.SlicesOverlaps.overlaps #[tCts,tCts] #[4]):=by kernel_rfl
theorem ca_cloneCt{w:World}{K:Kont}{s:Value}{l:List Ct}(h:Rd w 27 s l.length (l.flatMap ctC))(hn:l.length≤1000000)
  (hK:∀s' w',CtS w' s' l→Mod (λ_=>False) w w' →(∀b,inSl s' b→w.heap.size≤b)→K s' w'):Ca Tryz.prog 128 #[s] w K:=by
 apply ca128
 unfold F128
 obtain⟨a,c,hs⟩:=h.isSl
 by_cases h0:a=none
 ·subst h0
  refine rvS (v:=.bool true) (w' :=w) (by rw[hs];simp[go_sem]) ?_
  rw[ifB_bool,if_pos rfl]
  have hl:l=[]:=by
   obtain⟨-,⟨hn0,_⟩|⟨b,off,cap,he,_⟩⟩:=h
   ·exact List.eq_nil_of_length_eq_zero hn0
   ·rw[hs]at he;cases he
  subst hl
  exact hK _ _ (Own.nil _ _ _) (Mod.refl _ _) λb hb=>by cases hb
 ·refine rvS (v:=.bool false) (w' :=w) (by rw[hs];cases a;exact absurd rfl h0;simp[go_sem]) ?_
  rw[ifB_bool,if_neg Bool.false_ne_true]
  exact dupV uCts (elemT_of eCt) h (flO ctC_one l) (by omega) hK
set_option maxRecDepth 10000 in
theorem ca_insertCt{w:World}{K:Kont}{s v:Value}{l:List Ct}{o:Ct}{i:Nat}(h:CtS w s l)(hv:CtS w v [o])(hd:∀b,inSl s b→¬inSl v b)(hi:i≤l.length)(hn:l.length≤1000000)
  (hK:∀s' w',CtS w' s' (l.take i++o::l.drop i)→Mod (inSl s) w w' →(∀b,inSl s' b→inSl s b∨w.heap.size≤b)→K s' w'):Ca Tryz.prog 199 #[s,.int .i64 (i:Int),v] w K:=by
 obtain⟨vb,vcap,vrest,rfl,hvc,hvb,hvl,hv1⟩:=hv.pos (by simp)
 simp only[List.length_singleton]at hvc hvl
 have hlr:(l.take i++o::l.drop i).length=l.length+1:=by
  rw[List.length_append,List.length_take,List.length_cons,List.length_drop,Nat.min_eq_left hi];omega
 have hcs:([o].flatMap ctC)=ctC o:=by simp
 apply ca199
 unfold F199
 obtain⟨v0,hv0,-,-⟩:=Rd.from_ (P:=Tryz.prog) (kl:=.i64) (lo:=i) uCts nCt (h.rd:Rd w (26+1) s l.length (l.flatMap ctC)) hi
 refine rvS (hv0 w) ?_
 refine rnS (v:=.int .i64 1) (w' :=w) (by simp[go_sem]) ?_
 refine rvS (v:=.bool false) (by simp[go_sem]<;>first|exact⟨rfl,rfl⟩|exact rfl) ?_
 rw[ifB_bool,if_neg Bool.false_ne_true]
 obtain⟨sa,sc,hs,-⟩:=h.isSl
 refine rnS (v:=.int .i64 l.length) (w' :=w) (by rw[hs];simp[go_sem]) ?_
 by_cases hil:i=l.length
 ·have hil' :(i:Int)=(l.length:Int):=by omega
  refine rvS (v:=.bool true) (by simp[go_sem,hil']<;>first|exact⟨rfl,rfl⟩|exact rfl) ?_
  rw[ifB_bool,if_pos rfl]
  refine rx_append uCts uCts (elemT_of eCt) h hv.rd (flO ctC_one _) (by simp only[List.length_singleton];omega) λs3 w3 o3 m3 n3=>?_
  refine hK _ _ ?_ m3 n3
  have:l.take i++o::l.drop i=l++[o]:=by rw[hil,List.take_length,List.drop_length]
  rw[this]
  unfold CtS
  rw[List.flatMap_append,List.length_append]
  exact o3
 have hil' :¬(i:Int)=(l.length:Int):=by omega
 refine rvS (v:=.bool false) (by simp[go_sem,hil']<;>first|exact⟨rfl,rfl⟩|exact rfl) ?_
 rw[ifB_bool,if_neg Bool.false_ne_true]
 obtain⟨b,cap,rest,hse,hc,hb,hrl,hr1⟩:=h.pos (by omega)
 clear hs
 subst hse
 have hne:vb≠b:=λe=>hd b rfl (by rw[←e];rfl)
 have hl:=h.1
 refine rvS (v:=.int .i64 ((l.length+1:Nat):Int)) (w' :=w) (by simp[go_sem];rw[wrapI (by omega) (by omega)]) ?_
 refine rnS (v:=.int .i64 (cap:Int)) (w' :=w) (by simp[go_sem,uCts]) ?_
 have hszr:(l.flatMap ctC++rest).length=cap*27:=by rw[List.length_append,hl,hrl];omega
 by_cases hroom:cap<l.length+1
 ·have hroom' :(cap:Int)<(l.length:Int)+1:=by omega
  refine rvS (v:=.bool true) (by simp[go_sem,hroom']<;>first|exact⟨rfl,rfl⟩|exact rfl) ?_
  rw[ifB_bool,if_pos rfl]
  refine rvS (slHi uCts nCt (show i≤cap by omega) (by omega) w) ?_
  refine rvS (v:=.int .i64 ((l.length+1:Nat):Int)) (w' :=w) (by simp[go_sem];rw[wrapI (by omega) (by omega)]) ?_
  refine rvS (v:=.int .i64 ((l.length+1 - i:Nat):Int)) (w' :=w) (by simp only[go_sem];simp;rw[wrapI (by omega) (by omega)];omega) ?_
  have hOi:Own w tCt (26+1) (.slice (some ⟨b,0,none⟩) i cap) i ((l.take i).flatMap ctC):=by
   refine⟨by rw[flL ctC_len,List.length_take,Nat.min_eq_left hi],.inr ⟨b,cap,(l.flatMap ctC++rest).drop (i*27),rfl,by omega,?_,?_,?_⟩⟩
   ·rw[hb]
    congr 2
    have:(l.take i).flatMap ctC=(l.flatMap ctC++rest).take (i*27):=by
     rw[List.take_append_of_le_length (by rw[hl];omega),flT ctC_len]
    rw[this,List.take_append_drop]
   ·rw[List.length_drop,hszr];omega
   ·refine List.all_eq_true.2 λx hx=>?_
    have hx:=List.mem_of_mem_drop hx
    rcases List.mem_append.1 hx with h1|h1
    ·exact List.all_eq_true.1 (flO ctC_one l) x h1
    ·exact List.all_eq_true.1 hr1 x h1
  refine rx_appendZK uCts Tryz.underlying3 (elemT_of eCt) hOi (by omega) λs2 w2 z hz hz1 o2 m2 n2 hfar=>?_
  obtain⟨mF,nF⟩:=hfar _ _ rfl (by omega)
  rw[show i+(l.length+1 - i)=l.length+1 by omega]at o2
  obtain⟨b2,cap2,rest2,rfl,hc2,hb2,hrl2,hr12⟩:=o2.pos (by omega)
  have hb2n:w.heap.size≤b2:=nF b2 rfl
  have hbb:b≠b2:=by have:=lt_of_heap hb;omega
  have hvbb:vb≠b2:=by have:=lt_of_heap hvb;omega
  refine rvS (slLo uCts nCt (by omega) hc2 (by omega) w2) ?_
  have hA:((l.take i).flatMap ctC).length=i*27:=by rw[flL ctC_len,List.length_take,Nat.min_eq_left hi]
  have hsz2:((l.take i).flatMap ctC++z++rest2).length=cap2*27:=by rw[List.length_append,List.length_append,hA,hz,hrl2];omega
  have hv2:Rd w2 27 (.slice (some ⟨vb,0,none⟩) 1 vcap) 1 (ctC o):=by
   have:=hv.rd.mod mF λ_ _ h=>h
   rw[hcs]at this
   exact this
  refine rx_copyK (sz:=26) (k:=1) uCts nCt hb2 hv2 (by show _=min _ _;omega) (by rw[List.size_toArray,hsz2];omega) (ctC_one o) ?_
  have m3:Mod (λb=>b=b2) w2 (w2.setRow b2 (lay ((l.take i).flatMap ctC++z++rest2) (i*27) ((ctC o).take 27)).toArray):=(Mod.refl (λb=>b=b2) w2).setRow (.inl rfl) _
  have e5:(ctC o).take 27=ctC o:=List.take_of_length_le (by rw[ctC_len];omega)
  have hl3:lay ((l.take i).flatMap ctC++z++rest2) (i*27) (ctC o)=(l.take i).flatMap ctC++ctC o++(z++rest2).drop 27:=by
   unfold lay
   rw[List.append_assoc ((l.take i).flatMap ctC) z rest2,←hA,List.take_left,ctC_len,←List.drop_drop,List.drop_left]
  have hb3:(w2.setRow b2 (lay ((l.take i).flatMap ctC++z++rest2) (i*27) ((ctC o).take 27)).toArray).heap[b2]? =some (.cells ((l.take i).flatMap ctC++ctC o++(z++rest2).drop 27).toArray tCt (0,0)):=by
   rw[heap_setRow,if_pos rfl,hb2,e5,hl3]
  show rdP _ _ _
  rw[show((l.take i).flatMap ctC++z++rest2).toArray.toList=(l.take i).flatMap ctC++z++rest2 from rfl,show 1*(26+1)=27 from rfl]
  generalize w2.setRow b2 (lay ((l.take i).flatMap ctC++z++rest2) (i*27) ((ctC o).take 27)).toArray=w3 at m3 hb3⊢
  refine rdPS (v:=.int .i64 ((i+1:Nat):Int)) (λW=>by simp[go_sem];rw[wrapI (by omega) (by omega)]) ?_
  refine rdPS (λW=>slLo uCts nCt (show i+1≤l.length+1 by omega) hc2 (by omega) W) ?_
  refine rdPS (λW=>slLo uCts nCt (show i≤l.length by omega) hc (by omega) W) ?_
  have mD:Mod (λb=>b=b2) w2 w3.drew:=m3.drew
  have hbD:w3.drew.heap[b2]? =some (.cells ((l.take i).flatMap ctC++ctC o++(z++rest2).drop 27).toArray tCt (0,0)):=hb3
  have hsrc:Rd w3.drew (26+1) (.slice (some ⟨b,i*(26+1),none⟩) (l.length - i) (cap - i)) (l.length - i) ((l.drop i).flatMap ctC):=by
   have hA0:At w b 0 (l.flatMap ctC):=⟨_,_,_,hb,by rw[List.size_toArray,hszr,hl];omega,by simp⟩
   have h1:=hA0.sub (i*27) ((l.length - i)*27) (by rw[hl];omega)
   rw[flD ctC_len,List.take_of_length_le (by rw[flL ctC_len,List.length_drop];exact Nat.le_refl _),Nat.zero_add]at h1
   refine⟨by rw[flL ctC_len,List.length_drop],.inr ⟨b,i*(26+1),cap - i,rfl,by omega,?_⟩⟩
   exact(h1.mod mF id).mod mD λe=>hbb e
  have hsz3:((l.take i).flatMap ctC++ctC o++(z++rest2).drop 27).length=cap2*27:=by
   rw[List.length_append,List.length_append,hA,ctC_len,List.length_drop,List.length_append,hz,hrl2];omega
  refine rx_copyK (sz:=26) (k:=l.length - i) uCts nCt hbD hsrc (by show _=min _ _;omega) (by rw[List.size_toArray,hsz3];omega) (flO ctC_one _) ?_
  have hDl:((l.drop i).flatMap ctC).length=(l.length - i)*27:=by rw[flL ctC_len,List.length_drop]
  have hl4:lay ((l.take i).flatMap ctC++ctC o++(z++rest2).drop 27) ((i+1)*(26+1)) (((l.drop i).flatMap ctC).take ((l.length - i)*(26+1)))=(l.take i++o::l.drop i).flatMap ctC++rest2:=by
   have hAo:((l.take i).flatMap ctC++ctC o).length=(i+1)*(26+1):=by rw[List.length_append,hA,ctC_len];omega
   have e2:((l.drop i).flatMap ctC).take ((l.length - i)*(26+1))=(l.drop i).flatMap ctC:=List.take_of_length_le (by rw[hDl];exact Nat.le_refl _)
   rw[e2]
   unfold lay
   rw[←hAo,List.take_left,hDl,←List.drop_drop,List.drop_left,List.drop_drop]
   rw[show 27+(l.length - i)*27=z.length by rw[hz];omega,List.drop_left]
   simp[List.append_assoc]
  refine hK _ _ ⟨by rw[flL ctC_len,hlr],.inr ⟨b2,cap2,rest2,by rw[hlr],by rw[hlr];exact hc2,?_,by rw[hlr];exact hrl2,hr12⟩⟩ ?_ λb' hb' =>?_
  ·rw[heap_setRow,if_pos rfl,hbD]
   show some (Obj.cells (lay ((l.take i).flatMap ctC++ctC o++(z++rest2).drop 27) ((i+1)*(26+1)) (((l.drop i).flatMap ctC).take ((l.length - i)*(26+1)))).toArray tCt (0,0))=_
   rw[hl4]
  ·exact((mF.mono λ_ _ h=>h.elim).on mD λb' hb' =>.inr (by rw[hb'];exact hb2n)).setRow (.inr hb2n) _
  ·have:b' =b2:=by cases hb';rfl
   exact .inr (by omega)
 ·have hroom' :¬(cap:Int)<(l.length:Int)+1:=by omega
  refine rvS (v:=.bool false) (by simp[go_sem,hroom']<;>first|exact⟨rfl,rfl⟩|exact rfl) ?_
  rw[ifB_bool,if_neg Bool.false_ne_true]
  refine rvS (v:=.int .i64 ((l.length+1:Nat):Int)) (w' :=w) (by simp[go_sem];rw[wrapI (by omega) (by omega)]) ?_
  refine rvS (slHi uCts nCt (show l.length+1≤cap by omega) (by omega) w) ?_
  refine rvS (v:=.int .i64 ((i+1:Nat):Int)) (w' :=w) (by simp[go_sem];rw[wrapI (by omega) (by omega)]) ?_
  refine rvS (slLo uCts nCt (show i+1≤l.length+1 by omega) (by omega) (by omega) w) ?_
  have hov:(callFunc 251 #[.slice (some ⟨vb,0,none⟩) 1 vcap,.slice (some ⟨b,(i+1)*(26+1),none⟩) (l.length+1 - (i+1)) (cap - (i+1))]).run Tryz.prog w=.ok (.value (.bool false)) w:=by
   rw[run_callFunc_extern Tryz.func251 (by kernel_rfl) (by kernel_rfl) (by kernel_rfl) ovFindCt]
   rw[Lib.run_overlaps_apart w tCts 4 tCt uCts 27 sCt ⟨vb,0,none⟩ ⟨b,(i+1)*(26+1),none⟩ 1 vcap _ _ hne tCt tCt _ _ (shp hvb) (shp hb) (by rw[List.size_toArray,hszr];omega) (notFz hvb _) (notFz hvb _)]
   rfl
  refine⟨?_⟩
  show rn Tryz.prog (callFunc 251 #[.slice (some ⟨vb,0,none⟩) 1 vcap,.slice (some ⟨b,(i+1)*(26+1),none⟩) (l.length+1 - (i+1)) (cap - (i+1))]) w _
  refine rnS hov ?_
  refine rvS (v:=.bool true) (by simp[go_sem]<;>first|exact⟨rfl,rfl⟩|exact rfl) ?_
  rw[ifB_bool,if_pos rfl]
  refine rdPS (v:=.int .i64 ((i+1:Nat):Int)) (λW=>by simp[go_sem];rw[wrapI (by omega) (by omega)]) ?_
  refine rdPS (λW=>slLo uCts nCt (show i+1≤l.length+1 by omega) (by omega) (by omega) W) ?_
  refine rdPS (λW=>slLo uCts nCt (show i≤l.length+1 by omega) (by omega) (by omega) W) ?_
  have hbD:w.drew.heap[b]? =some (.cells (l.flatMap ctC++rest).toArray tCt (0,0)):=hb
  have hrl5:27≤rest.length:=by rw[hrl];omega
  have hsrc:Rd w.drew (26+1) (.slice (some ⟨b,i*(26+1),none⟩) (l.length+1 - i) (cap - i)) (l.length+1 - i) ((l.drop i).flatMap ctC++rest.take 27):=by
   have hA0:At w b 0 (l.flatMap ctC++rest):=At.all (hp_of hb)
   have h1:=hA0.sub (i*27) ((l.length+1 - i)*27) (by rw[hszr];omega)
   rw[List.drop_append_of_le_length (by rw[hl];omega),flD ctC_len,Nat.zero_add]at h1
   have e1:((l.drop i).flatMap ctC++rest).take ((l.length+1 - i)*27)=(l.drop i).flatMap ctC++rest.take 27:=by
    have hd:((l.drop i).flatMap ctC).length=(l.length - i)*27:=by rw[flL ctC_len,List.length_drop]
    rw[show(l.length+1 - i)*27=((l.drop i).flatMap ctC).length+27 by rw[hd];omega,List.take_length_add_append]
   rw[e1]at h1
   refine⟨by rw[List.length_append,flL ctC_len,List.length_drop,List.length_take,Nat.min_eq_left hrl5];omega,.inr ⟨b,i*(26+1),cap - i,rfl,by omega,h1.keep rfl⟩⟩
  have hDl:((l.drop i).flatMap ctC).length=(l.length - i)*27:=by rw[flL ctC_len,List.length_drop]
  refine rx_copyK (sz:=26) (k:=l.length - i) uCts nCt hbD hsrc (by show _=min _ _;omega) (by rw[List.size_toArray,hszr];omega) (by rw[List.all_append,flO ctC_one];exact List.all_eq_true.2 λx hx=>List.all_eq_true.1 hr1 x (List.mem_of_mem_take hx)) ?_
  have hA:((l.take i).flatMap ctC).length=i*27:=by rw[flL ctC_len,List.length_take,Nat.min_eq_left hi]
  obtain⟨mid,hmid,hmidl⟩:∃mid:List Value,l.flatMap ctC++rest=(l.take i).flatMap ctC++(mid++((l.flatMap ctC++rest).drop ((i+1)*27)))∧mid.length=27:=by
   refine⟨((l.flatMap ctC++rest).drop (i*27)).take 27,?_,by rw[List.length_take,List.length_drop,hszr];omega⟩
   have e1:(l.take i).flatMap ctC=(l.flatMap ctC++rest).take (i*27):=by rw[List.take_append_of_le_length (by rw[hl];omega),flT ctC_len]
   rw[e1,show(i+1)*27=i*27+27 by omega,←List.drop_drop,List.take_append_drop,List.take_append_drop]
  have hl3:lay (l.flatMap ctC++rest) ((i+1)*(26+1)) (((l.drop i).flatMap ctC++rest.take 27).take ((l.length - i)*(26+1)))=(l.take i).flatMap ctC++mid++((l.drop i).flatMap ctC++rest.drop 27):=by
   have e2:((l.drop i).flatMap ctC++rest.take 27).take ((l.length - i)*(26+1))=(l.drop i).flatMap ctC:=by
    rw[show(l.length - i)*(26+1)=((l.drop i).flatMap ctC).length by rw[hDl],List.take_left]
   have e3:(l.flatMap ctC++rest).take ((i+1)*(26+1))=(l.take i).flatMap ctC++mid:=by
    rw[hmid,←List.append_assoc,show(i+1)*(26+1)=((l.take i).flatMap ctC++mid).length by rw[List.length_append,hA,hmidl];omega,List.take_left]
   have e4:(l.flatMap ctC++rest).drop ((i+1)*(26+1)+(l.length - i)*27)=rest.drop 27:=by
    rw[show(i+1)*(26+1)+(l.length - i)*27=(l.flatMap ctC).length+27 by rw[hl];omega,←List.drop_drop,List.drop_left]
   unfold lay
   rw[e2,hDl,e3,e4]
   simp[List.append_assoc]
  have m3:Mod (inSl (.slice (some ⟨b,0,none⟩) l.length cap)) w (w.drew.setRow b (lay (l.flatMap ctC++rest) ((i+1)*(26+1)) (((l.drop i).flatMap ctC++rest.take 27).take ((l.length - i)*(26+1)))).toArray):=((Mod.refl _ w).drew).setRow (.inl (show inSl (.slice (some ⟨b,0,none⟩) l.length cap) b from rfl)) _
  have hb3:(w.drew.setRow b (lay (l.flatMap ctC++rest) ((i+1)*(26+1)) (((l.drop i).flatMap ctC++rest.take 27).take ((l.length - i)*(26+1)))).toArray).heap[b]? =some (.cells ((l.take i).flatMap ctC++mid++((l.drop i).flatMap ctC++rest.drop 27)).toArray tCt (0,0)):=by
   rw[heap_setRow,if_pos rfl,hbD,hl3]
  rw[show(l.flatMap ctC++rest).toArray.toList=l.flatMap ctC++rest from rfl]
  generalize w.drew.setRow b (lay (l.flatMap ctC++rest) ((i+1)*(26+1)) (((l.drop i).flatMap ctC++rest.take 27).take ((l.length - i)*(26+1)))).toArray=w3 at m3 hb3⊢
  refine rvS (slLo uCts nCt (show i≤l.length+1 by omega) (by omega) (by omega) w3) ?_
  have hv3:Rd w3 27 (.slice (some ⟨vb,0,none⟩) 1 vcap) 1 (ctC o):=by
   have:=hv.rd.mod m3 λb' hb' hs' =>hd b' hs' hb'.sl
   rw[hcs]at this
   exact this
  refine rx_copyK (sz:=26) (k:=1) uCts nCt hb3 hv3 (by show _=min _ _;omega) (by rw[List.size_toArray,List.length_append,List.length_append,List.length_append,hA,hmidl,hDl,List.length_drop,hrl];omega) (ctC_one o) ?_
  have hl4:lay ((l.take i).flatMap ctC++mid++((l.drop i).flatMap ctC++rest.drop 27)) (i*(26+1)) ((ctC o).take (1*(26+1)))=(l.take i++o::l.drop i).flatMap ctC++rest.drop 27:=by
   have e5:(ctC o).take (1*(26+1))=ctC o:=List.take_of_length_le (by rw[ctC_len];omega)
   rw[e5]
   unfold lay
   rw[ctC_len,show i*(26+1)=((l.take i).flatMap ctC).length by rw[hA],List.append_assoc ((l.take i).flatMap ctC) mid,List.take_left,←List.drop_drop,List.drop_left,←hmidl,List.drop_left]
   simp[List.append_assoc]
  refine hK _ _ ⟨by rw[flL ctC_len,hlr],.inr ⟨b,cap,rest.drop 27,by rw[hlr],by rw[hlr];omega,?_,by rw[hlr,List.length_drop,hrl];omega,List.all_eq_true.2 λx hx=>List.all_eq_true.1 hr1 x (List.mem_of_mem_drop hx)⟩⟩ (m3.setRow (.inl (show inSl (.slice (some ⟨b,0,none⟩) l.length cap) b from rfl)) _) λb' hb' =>.inl hb'
  show(w3.setRow b (lay ((l.take i).flatMap ctC++mid++((l.drop i).flatMap ctC++rest.drop 27)) (i*(26+1)) ((ctC o).take (1*(26+1)))).toArray).heap[b]? =_
  rw[heap_setRow,if_pos rfl,hb3,hl4]
end Go.Proofs
namespace Go.Proofs
open Go Go.Vc
attribute [local congr] Ca_congV
structure Cal where
 day:Int
 l:List Ct
def Ct.Ok(k:Ct):Prop:=k.Fit∧k.spec.may=true∧k.spec.isPrice k.price=true∧1≤k.st∧k.st≤3
def calAt(l:List Ct)(n:Int):Nat:=(l.takeWhile λk=>decide (k.spec.num<n)).length
def calGet(l:List Ct)(n:Int):Option Ct:=l.find? λk=>decide (k.spec.num=n)
def Rising(l:List Ct):Prop:=l.Pairwise λa b=>a.spec.num<b.spec.num
structure CalQ(w:World)(c:Nat)(F:Nat→Prop)(S:Cal):Prop where
 out:∃sl,hp w c=some (.cells #[.bool true,.int .u32 S.day,sl] 197 (0,0))∧CtS w sl S.l∧(∀x,F x↔x=c∨inSl sl x)∧¬inSl sl c
 len:S.l.length≤16
 day:U32' S.day
 ok:∀k∈S.l,k.Ok
 srt:Rising S.l
theorem CalQ.mod{F G:Nat→Prop}{w w' :World}{c:Nat}{S:Cal}(h:CalQ w c F S)(hm:Mod G w w')(hd:∀b,F b→¬G b):CalQ w' c F S:=by
 obtain⟨⟨sl,h1,h2,h3,h4⟩,h5,h6,h7,h8⟩:=h
 exact⟨⟨sl,hm.hpk h1 (hd c ((h3 c).2 (.inl rfl))),h2.mod hm λb hb=>hd b ((h3 b).2 (.inr hb)),h3,h4⟩,h5,h6,h7,h8⟩
theorem CalQ.lt{F:Nat→Prop}{w:World}{c:Nat}{S:Cal}(h:CalQ w c F S){b:Nat}(hb:F b):b<w.heap.size:=by
 obtain⟨⟨sl,h1,h2,h3,h4⟩,h5⟩:=h
 rcases(h3 b).1 hb with rfl|hb
 ·exact lt_of_heap h1
 ·exact h2.lt hb
def cptr(c:Nat):Value:=.pointer (some ⟨c,0,none⟩)
theorem spT23(s:Sp):(spC s)[23]? =some (.int .u32 s.last):=by have:=spG23 s [];rwa[List.append_nil]at this
theorem spT24(s:Sp):(spC s)[24]? =some (.int .i64 s.first):=by have:=spG24 s [];rwa[List.append_nil]at this
theorem ctT(k:Ct)(i:Nat)(h:i<25):(ctC k)[i]? =(spC k.spec)[i]? :=by
 rw[ctC,List.getElem?_append_left (by rw[spC_len];omega)]
theorem ctT0(k:Ct):(ctC k)[0]? =some (.int .u32 k.spec.num):=rfl
theorem ctT23(k:Ct):(ctC k)[23]? =some (.int .u32 k.spec.last):=by rw[ctT k 23 (by omega),spT23]
theorem ctT25(k:Ct):(ctC k)[25]? =some (.int .u8 k.st):=by have:=ctG25 k [];rwa[List.append_nil]at this
theorem ctT26(k:Ct):(ctC k)[26]? =some (.int .i64 k.price):=by have:=ctG26 k [];rwa[List.append_nil]at this
theorem boxCt(k:Ct)(w:World):∃w1,(Instr.box tCt (.agg (ctC k).toArray)).run Tryz.prog w=.ok (.pointer (some ⟨w.heap.size,0,none⟩)) w1∧hp w1 w.heap.size=some (.cells (ctC k).toArray tCt (0,0))∧Mod (λ_=>False) w w1:=
 ⟨w.alloc (.cells (ctC k).toArray tCt),rfl,by simp[go_sem],(Mod.refl _ w).alloc _⟩
theorem ca_calnew{w:World}{K:Kont}(hK:∀c F w',CalQ w' c F ⟨0,[]⟩→Mod (λ_=>False) w w' →(∀b,F b→w.heap.size≤b)→K (cptr c) w'):Ca Tryz.prog 35 #[] w K:=by
 apply ca35
 unfold F35
 refine rvS (v:=.agg #[.bool true,.int .u32 0,.slice none 0 0]) (w' :=w) (by simp[go_sem]) ?_
 refine rvS (v:=cptr w.heap.size) (w' :=w.alloc (.cells #[.bool true,.int .u32 0,.slice none 0 0] 197)) rfl ?_
 exact hK _ (λx=>x=w.heap.size) _ ⟨⟨.slice none 0 0,by simp[go_sem],Own.nil _ _ _,λx=>⟨λh=>.inl h,λh=>h.elim id λh=>by cases h⟩,λh=>by cases h⟩,by simp,⟨by simp,by simp⟩,by simp,List.Pairwise.nil⟩ ((Mod.refl _ w).alloc _) λb hb=>by omega
theorem ca_cready{w:World}{K:Kont}{c:Nat}{F:Nat→Prop}{S:Cal}(h:CalQ w c F S)(hK:K (.bool true) w):Ca Tryz.prog 132 #[cptr c] w K:=by
 obtain⟨⟨sl,h1,h2,h3,h4⟩,h5⟩:=h
 apply ca132
 unfold F132 cptr
 refine rvS (v:=.bool true) (by simp[go_sem]<;>first|exact⟨rfl,rfl⟩|exact rfl) ?_
 rw[ifB_bool,if_pos rfl]
 simp only[nilK_ptr]
 refine rvS (by simp[-Int.natCast_add,go_sem]<;>first|exact⟨rfl,rfl⟩|exact rfl) ?_
 refine rvS (by simp[-Int.natCast_add,go_sem,h1]<;>first|exact⟨rfl,rfl⟩|exact rfl) ?_
 exact hK
theorem twG{α:Type}{l:List α}{p:α→Bool}{j:Nat}(hj:j<l.length)(h:∀o∈l.take j,p o=true)(hn:p l[j]=false):l.takeWhile p=l.take j:=by
 induction l generalizing j with
 |nil=>simp at hj
 |cons x l ih=>
  cases j with
  |zero=>simp at hn;simp[hn]
  |succ j=>
   simp only[List.take_succ_cons,List.mem_cons,forall_eq_or_imp]at h
   rw[List.takeWhile_cons_of_pos h.1,List.take_succ_cons,ih (by simpa using hj) h.2 (by simpa using hn)]
theorem twA{α:Type}{l:List α}{p:α→Bool}(h:∀o∈l,p o=true):l.takeWhile p=l:=by
 induction l with
 |nil=>rfl
 |cons x l ih=>rw[List.takeWhile_cons_of_pos (h x (by simp)),ih λo ho=>h o (by simp[ho])]
theorem calAt_eq{l:List Ct}{n:Int}{i:Nat}(hi:i≤l.length)(h1:∀j (hj:j<l.length),j<i→l[j].spec.num<n)(h2:∀(hj:i<l.length),¬l[i].spec.num<n):calAt l n=i:=by
 unfold calAt
 by_cases hl:i<l.length
 ·rw[twG (p:=λk:Ct=>decide (k.spec.num<n)) hl (λo ho=>?_) (by simpa using h2 hl),List.length_take,Nat.min_eq_left hi]
  obtain⟨j,hj,rfl⟩:=List.getElem_of_mem ho
  rw[List.length_take]at hj
  rw[List.getElem_take]
  simpa using h1 j (by omega) (by omega)
 ·rw[twA λo ho=>?_]
  ·omega
  ·obtain⟨j,hj,rfl⟩:=List.getElem_of_mem ho
   simpa using h1 j hj (by omega)
theorem calGet_at{l:List Ct}(hs:Rising l){n:Int}{i:Nat}(h1:∀j (hj:j<l.length),j<i→l[j].spec.num<n)(hi:i<l.length)(h2:¬l[i].spec.num<n):
  calGet l n=if l[i].spec.num=n then some l[i]else none:=by
 unfold calGet
 by_cases he:l[i].spec.num=n
 ·rw[if_pos he,List.find?_eq_some_iff_getElem]
  refine⟨by simpa using he,i,hi,rfl,λj hj=>?_⟩
  have:=h1 j (by omega) hj
  simp;omega
 ·rw[if_neg he,List.find?_eq_none]
  intro k hk
  obtain⟨j,hj,rfl⟩:=List.getElem_of_mem hk
  simp only[decide_eq_true_eq]
  intro hc
  rcases Nat.lt_trichotomy j i with h|h|h
  ·have:=h1 j hj h;omega
  ·subst h;exact he hc
  ·have:=List.pairwise_iff_getElem.1 hs i j hi hj h
   omega
theorem calGet_end{l:List Ct}{n:Int}(h1:∀j (hj:j<l.length),l[j].spec.num<n):calGet l n=none:=by
 unfold calGet
 rw[List.find?_eq_none]
 intro k hk
 obtain⟨j,hj,rfl⟩:=List.getElem_of_mem hk
 have:=h1 j hj
 simp;omega
theorem ca_atcmp{w:World}{K:Kont}{k:Ct}{n:Int}(hK:∀w',Mod (λ_=>False) w w' →K (.int .i64 (if k.spec.num<n then -1 else if n<k.spec.num then 1 else 0)) w'):Ca Tryz.prog 250 #[.agg (ctC k).toArray,.int .u32 n] w K:=by
 apply ca250
 unfold F250
 obtain⟨w1,e1,b1,m1⟩:=boxCt k w
 have hK:=hK _ m1
 refine rvS e1 ?_
 refine rvS (by simp[-Int.natCast_add,go_sem]<;>first|exact⟨rfl,rfl⟩|exact rfl) ?_
 refine rvS (by simp[-Int.natCast_add,go_sem]<;>first|exact⟨rfl,rfl⟩|exact rfl) ?_
 refine rvS (by simp[-Int.natCast_add,go_sem,b1,ctT0]<;>first|exact⟨rfl,rfl⟩|exact rfl) ?_
 by_cases h1:k.spec.num<n
 ·refine rvS (v:=.bool true) (by simp[go_sem,h1]<;>first|exact⟨rfl,rfl⟩|exact rfl) ?_
  rw[ifB_bool,if_pos rfl]
  rw[if_pos h1]at hK
  exact hK
 ·refine rvS (v:=.bool false) (by simp[go_sem,h1]<;>first|exact⟨rfl,rfl⟩|exact rfl) ?_
  rw[ifB_bool,if_neg Bool.false_ne_true]
  rw[if_neg h1]at hK
  refine rvS (by simp[-Int.natCast_add,go_sem]<;>first|exact⟨rfl,rfl⟩|exact rfl) ?_
  refine rvS (by simp[-Int.natCast_add,go_sem]<;>first|exact⟨rfl,rfl⟩|exact rfl) ?_
  refine rvS (by simp[-Int.natCast_add,go_sem,b1,ctT0]<;>first|exact⟨rfl,rfl⟩|exact rfl) ?_
  by_cases h2:n<k.spec.num
  ·refine rvS (v:=.bool true) (by simp[go_sem,h2]<;>first|exact⟨rfl,rfl⟩|exact rfl) ?_
   rw[ifB_bool,if_pos rfl]
   rw[if_pos h2]at hK
   exact hK
  ·refine rvS (v:=.bool false) (by simp[go_sem,h2]<;>first|exact⟨rfl,rfl⟩|exact rfl) ?_
   rw[ifB_bool,if_neg Bool.false_ne_true]
   rw[if_neg h2]at hK
   exact hK
theorem halfI{i j:Nat}(h:i<j)(hj:j≤1000000)(w:World):∃x,(convert 3 249 (.int .i64 ((i:Int)+(j:Int)))).run Tryz.prog w=.ok x w∧∃y,(bin .shr 249 true x (.int .u64 1)).run Tryz.prog w=.ok y w∧(convert 249 3 y).run Tryz.prog w=.ok (.int .i64 (((i+j) / 2:Nat):Int)) w:=by
 refine⟨.int .u64 (((i+j:Nat):Int)),?_,.int .u64 (((i+j) / 2:Nat):Int),?_,?_⟩
 ·simp[go_sem]
  rw[IntKind.wrap_u64];omega
 ·simp[go_sem,Int.shiftRight_eq_div_pow]
 ·simp[go_sem]
  rw[IntKind.wrap_i64];omega
set_option maxRecDepth 10000 in
theorem ca_bsCt{w:World}{K:Kont}{s:Value}{l:List Ct}{n:Int}(h:Rd w 27 s l.length (l.flatMap ctC))(hn:l.length≤1000)(hs:Rising l)
  (hK:∀w',Mod (λ_=>False) w w' →K (.tuple #[.int .i64 (calAt l n),.bool (calGet l n).isSome]) w'):Ca Tryz.prog 249 #[s,.int .u32 n,.func (.func 250) #[] #[]] w K:=by
 apply ca249
 unfold F249
 obtain⟨a,c,hsl⟩:=h.isSl
 refine rnS (v:=.int .i64 (l.length:Int)) (w' :=w) (by rw[hsl];simp[go_sem]) ?_
 refine loopV (λst W=>∃i j:Nat,i≤j∧j≤l.length∧st=(.int .i64 i,.int .i64 j,())∧Mod (λ_=>False) w W∧(∀x (hx:x<l.length),x<i→l[x].spec.num<n)∧∀x (hx:x<l.length),j≤x→¬l[x].spec.num<n)
  (λst _=>match st.1,st.2.1 with| .int _ i,.int _ j=>j.toNat - i.toNat|_,_=>0) ⟨0,l.length,by omega,by omega,rfl,Mod.refl _ _,λx hx h=>by omega,λx hx h=>by omega⟩ ?_
 rintro⟨_,_,_⟩ W ⟨i,j,hij,hj,⟨⟩,mW,ha,hb⟩ KN hKN
 unfold L249_0
 intro _
 have hload:∀W,Mod (λ_=>False) w W→∀x (hx:x<l.length),∃p,(Instr.indexAt tCts s (.int .i64 (x:Int))).run Tryz.prog W=.ok p W∧(bigS tCt p).run Tryz.prog W=.ok (.agg (ctC l[x]).toArray) W:=λW mW x hx=>by
  obtain⟨b,off,cap,hse,hcap,hA⟩:=(h.mod mW λ_ _ h=>h).item ctC_len hx rfl
  exact⟨.pointer (some ⟨b,off+x*27,none⟩),by rw[hse];simp[go_sem,hx,addr_add,uCts],run_bigS aCt nCt (ctC_len _) hA⟩
 by_cases hlt:i<j
 ·have hlt' :(i:Int)<(j:Int):=by omega
  refine rvS (v:=.bool true) (by simp[go_sem,hlt']<;>first|exact⟨rfl,rfl⟩|exact rfl) ?_
  rw[ifB_bool,if_pos rfl]
  refine rvS (v:=.int .i64 ((i:Int)+(j:Int))) (w' :=W) (by simp[go_sem];rw[wrapI (by omega) (by omega)]) ?_
  obtain⟨x,e1,y,e2,e3⟩:=halfI hlt (by omega) W
  refine rvS e1 ?_
  refine rvS e2 ?_
  refine rvS e3 ?_
  obtain⟨m,hm⟩:∃m,m=(i+j) / 2:=⟨_,rfl⟩
  rw[←hm]
  have hml:m<l.length:=by omega
  obtain⟨p,f1,f2⟩:=hload W mW m hml
  refine rvS f1 ?_
  refine rx_of f2 ?_
  simp only[callV_func]
  refine ca_atcmp λW' m' =>?_
  have MW:=mW.trans m'
  by_cases hc:l[m].spec.num<n
  ·rw[if_pos hc]
   refine rvS (v:=.bool true) (by simp[go_sem]<;>first|exact⟨rfl,rfl⟩|exact rfl) ?_
   rw[ifB_bool,if_pos rfl]
   refine rvS (v:=.int .i64 ((m+1:Nat):Int)) (w' :=W') (by simp[go_sem];rw[wrapI (by omega) (by omega)]) ?_
   refine hKN _ _ ⟨m+1,j,by omega,hj,rfl,MW,λx hx hxm=>?_,hb⟩ (by show((j:Int)).toNat - (((m+1:Nat):Int)).toNat<((j:Int)).toNat - ((i:Int)).toNat;omega)
   by_cases he:x=m
   ·subst he;exact hc
   ·have:=List.pairwise_iff_getElem.1 hs x m hx hml (by omega)
    omega
  ·rw[if_neg hc]
   have hnn:¬((if n<l[m].spec.num then 1 else 0:Int)<0):=by split<;>omega
   refine rvS (v:=.bool false) (w' :=W') (by simp[go_sem,hnn]) ?_
   rw[ifB_bool,if_neg Bool.false_ne_true]
   refine hKN _ _ ⟨i,m,by omega,by omega,rfl,MW,ha,λx hx hxm=>?_⟩ (by show((m:Int)).toNat - ((i:Int)).toNat<((j:Int)).toNat - ((i:Int)).toNat;omega)
   by_cases he:x=m
   ·subst he;exact hc
   ·have:=List.pairwise_iff_getElem.1 hs m x hml hx (by omega)
    omega
 ·obtain rfl:i=j:=by omega
  refine rvS (v:=.bool false) (by simp[go_sem]<;>first|exact⟨rfl,rfl⟩|exact rfl) ?_
  rw[ifB_bool,if_neg Bool.false_ne_true]
  by_cases hil:i<l.length
  ·have hil' :(i:Int)<(l.length:Int):=by omega
   refine rvS (v:=.bool true) (by simp[go_sem,hil']<;>first|exact⟨rfl,rfl⟩|exact rfl) ?_
   rw[ifB_bool,if_pos rfl]
   obtain⟨p,f1,f2⟩:=hload W mW i hil
   refine rvS f1 ?_
   refine rx_of f2 ?_
   simp only[callV_func]
   have hnl:=hb i hil (Nat.le_refl _)
   refine ca_atcmp λW' m' =>?_
   rw[if_neg hnl]
   refine rvS (v:=.bool (calGet l n).isSome) (w' :=W') ?_ ?_
   ·rw[calGet_at hs ha hil hnl]
    by_cases he:l[i].spec.num=n
    ·simp[go_sem,he]
    ·have hx:n<l[i].spec.num:=by omega
     simp[go_sem,he,hx]
   have:=calAt_eq hj ha λhj=>hnl
   rw[←this]
   exact hK _ (mW.trans m')
  ·obtain rfl:i=l.length:=by omega
   refine rvS (v:=.bool false) (by simp[go_sem]<;>first|exact⟨rfl,rfl⟩|exact rfl) ?_
   rw[ifB_bool,if_neg Bool.false_ne_true]
   have h1:calAt l n=l.length:=calAt_eq hj ha λhj=>by omega
   have h2:=calGet_end λx hx=>ha x hx hx
   have hk:=hK _ mW
   rw[h1,h2]at hk
   exact hk
end Go.Proofs
