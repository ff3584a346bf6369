/- Part of a proof. -/
import Derived.Laws.Externs
import Derived.Shelf.Bits.Mul64
import Derived.Shelf.Small.Bits
import Derived.Shelf.Lay
import Derived.Ground.NamesProg
import Derived.Lib.ItoaNum
import Derived.Laws.Bits64b
import Derived.Test.YtgebhcgmckjbbaaGreatP10
set_option linter.all false
namespace Go.Proofs
open Go Go.Vc
attribute [local congr] cq
def JA{w:World}{gv:Value}{α:Type}{xs:List α}{XS:List (List Value)}{T TF:TypeId}{fv:α->Value}{fc:α->List Value}{z:List Nat->Option Code->World->Prop}{Q0:Nat->Prop}{yl n0 k:Nat}
  {J:(Nat->Prop)->Nat->World->Prop}{Js:(Nat->Prop)->World->Prop}
  (ht:jy gv (xs.map λa=>[fv a]) w)(hv:lI T fv fc xs)
  (hld:∀a∈xs,∀(W:World) q,hp W q=some (.cells (fc a).toArray T (0,0))->(Instr.loadAt T (.pointer (some ⟨q,0,none⟩))).run Tryz.prog W=.ok (fv a) W)
  (u:∀Q t i W e,J Q i W->cl Q W e->(∀b,t b->(Q b\/W.heap.size<=b)/\b<e.heap.size)->J t i e)
  (A:∀Q t W e,Js Q W->cl Q W e->(∀b,t b->(Q b\/W.heap.size<=b)/\b<e.heap.size)->Js t e)
  (Y:∀Q i x W,XS[i]? =some x->J Q i W->∀K' :cm,(∀e,J Q (i+1) e->W.heap.size<=e.heap.size->(∀b,Q b->e.heap[b]? =W.heap[b]?)->K' (.bool true) e)->(∀e,Js Q e->W.heap.size<=e.heap.size->(∀b,Q b->e.heap[b]? =W.heap[b]?)->K' (.bool false) e)->ew Tryz.prog (.func (.yield yl) #[] #[]) x W K')
  (hxs:∀i (hi:i<xs.length),XS[k+i]? =some [fv xs[i]])
  (hy:hp w n0=some (.cells #[.func (.yield yl) #[] #[]] TF (0,0)))(hyl:∀W,hp W n0=some (.cells #[.func (.yield yl) #[] #[]] TF (0,0))->(Instr.loadAt TF (.pointer (some ⟨n0,0,none⟩))).run Tryz.prog W=.ok (.func (.yield yl) #[] #[]) W)
  (hn0:Q0 n0)(N:∀b,Q0 b->b<w.heap.size)(hJ0:J Q0 k w)
  (hend:∀Q W d,d=w.heap.size->J Q (k+xs.length) W->(∀b,Q0 b->Q b)->Q d->(∀b,Q b->b<W.heap.size)->(∀b,Q b->Q0 b\/w.heap.size<=b)->(∀b,Q0 b->W.heap[b]? =w.heap[b]?)->hp W d=some (.deferred (some []))->z [d] none W)
  (hexit:∀Q W d,d=w.heap.size->Js Q W->(∀b,Q0 b->Q b)->Q d->(∀b,Q b->b<W.heap.size)->(∀b,Q b->Q0 b\/w.heap.size<=b)->(∀b,Q0 b->W.heap[b]? =w.heap[b]?)->hp W d=some (.deferred (some []))->z [d] (some .ret) W):
  xR Tryz.prog none gv w 1 (λl x W KN KJ=>rv Tryz.prog (Instr.alloc T true (.tuple #[])) W λv w1=>ru Tryz.prog (Instr.storeAt T v (x.getD 0 undef)) w1 λw2=>iK l w2 λw3=>
   rv Tryz.prog (Instr.loadAt TF (.pointer (some ⟨n0,0,none⟩))) w3 λv41 w42=>rv Tryz.prog (Instr.loadAt T v) w42 λv43 w44=>ew Tryz.prog v41 [v43] w44 λv45 w46=>rv Tryz.prog (Op.unary .not v45) w46 λv47 w48=>cC v47 (KJ .ret w48) (KN w48)) z:=by
 obtain⟨⟨Ok,hit,hok⟩,-⟩:=ht;obtain⟨f,first,captured,rfl,hit0⟩:=hit.out;refine mi.2 ?_;show∀g:Loop,_;intro g n K hD hY;obtain⟨d,E⟩:∃d,d=w.heap.size:=⟨_,rfl⟩
 have V:(w.alloc (.deferred (some []))).heap.size=d+1:=by rw[World.size_alloc,E]
 obtain⟨wr,I⟩:∃wr,wr=(w.alloc (.deferred (some []))).alloc (.loop g):=⟨_,rfl⟩
 have R:wr.heap[d+1]? =some (.loop g):=by rw[I,cU,if_pos V.symm]
 have hszr:wr.heap.size=d+2:=by rw[I,World.size_alloc,V]
 have hdef0:hp wr d=some (.deferred (some [])):=by rw[I];simp[go_sem,E]
 have hmr:cl (λ_=>False) w wr:=by rw[I];exact((cl.refl _ w).alloc _).alloc _
 have m:∀(W:World) (o:Obj),cl (λb=>b=d+1) W (W.putObj (d+1) o):=λW o=>(cl.refl (λb=>b=d+1) W).putObj (b:=d+1) (.inl rfl) o;rw[V]at hY|-;rw[<-I];let U:(Nat->Prop)->Nat->Prop:=λQ b=>Q0 b\/b=d\/b=d+1\/Q b;let S:(Nat->Prop)->World->Prop:=λQ W=>hp W d=some (.deferred (some []))/\(∀b,Q b->d+1<b/\b<W.heap.size)/\∀b,Q0 b->W.heap[b]? =w.heap[b]?
 have hS:∀(Q t H:Nat->Prop) (W e:World),S Q W->d+2<=W.heap.size->cl H W e->(∀b,H b->Q b\/b=d+1)->(∀b,t b->(Q b\/W.heap.size<=b)/\b<e.heap.size)->S t e:=by
  rintro Q t H W e ⟨s1,s2,s3⟩ hl j hH C;refine⟨j.hpk s1 λc=>?_,λb c=>?_,λb c=>?_⟩
  ·rcases hH _ c with h|h
   ·have:=s2 _ h;omega
   ·omega
  ·have P:=C b c;rcases P.1 with h|h
   ·exact⟨(s2 b h).1,P.2⟩
   ·exact⟨by omega,P.2⟩
  ·have hbl:=N b c;rw[j.blk b (by omega) λX=>?_,s3 b c];rcases hH _ X with h|h
   ·have:=s2 _ h;omega
   ·omega
 have L:∀(Q t:Nat->Prop) (W e:World),d+2<=W.heap.size->W.heap.size<=e.heap.size->(∀b,t b->(Q b\/W.heap.size<=b)/\b<e.heap.size)->∀b,U t b->(U Q b\/W.heap.size<=b)/\b<e.heap.size:=by
  rintro Q t W e h1 p s b (h|h|h|h)
  ·have:=N b h;exact⟨.inl (.inl h),by omega⟩
  ·exact⟨.inl (.inr (.inl h)),by omega⟩
  ·exact⟨.inl (.inr (.inr (.inl h))),by omega⟩
  ·have P:=s b h;exact⟨P.1.imp (λh=>.inr (.inr (.inr h))) id,P.2⟩
 have B:∀{H Q:Nat->Prop} {W e:World},cl H W e->(∀b,H b->Q b\/b=d+1)->cl (U Q) W e:=λj hH=>j.mono λb _ c=>by
  rcases hH b c with h|h
  ·exact .inr (.inr (.inr h))
  ·exact .inr (.inr (.inl h))
 refine hit0 _ (λQ i W=>J (U Q) (k+i) W/\S Q W/\W.heap[d+1]? =some (.loop g))
  (λQ W=>∃r,Js (U Q) W/\S Q W/\W.heap[d+1]? =some (.loop r)/\r.state=.done/\r.pending=some .ret) _ _ (hok _ hmr) ?_ ?_ ?_ ?_ ?_ ?_
 ·intro Q W1 j hQ;have hs1:=j.size;refine⟨u _ _ _ _ _ hJ0 ((hmr.trans j).mono λ_ _ h=>h.elim) ?_,⟨j.hpk hdef0 id,λb c=>by have:=hQ b c;omega,λb c=>?_⟩,j.keep R id⟩
  ·rintro b (h|h|h|h)
   ·have:=N b h;exact⟨.inl h,by omega⟩
   ·exact⟨.inr (by omega),by omega⟩
   ·exact⟨.inr (by omega),by omega⟩
   ·have:=hQ b h;exact⟨.inr (by omega),by omega⟩
  ·exact(hmr.trans j).blk b (N b c) id
 ·rintro Q t i W e ⟨h1,p,s⟩ j C;have hl:=cn s;exact⟨u _ _ _ _ _ h1 (B j λb c=>.inl c) (L Q t W e (by omega) j.size C),hS _ _ _ _ _ p (by omega) j (λb c=>.inl c) C,j.keep s λc=>by have:=p.2.1 _ c;omega⟩
 ·rintro Q t W e ⟨r,h1,p,s,h4⟩ j C;have hl:=cn s;exact⟨r,A _ _ _ _ h1 (B j λb c=>.inl c) (L Q t W e (by omega) j.size C),hS _ _ _ _ _ p (by omega) j (λb c=>.inl c) C,j.keep s λc=>by have:=p.2.1 _ c;omega,h4⟩
 ·rintro Q i x W X ⟨h1,p,s⟩ K' hT hF;refine iQ.2 ?_;show Yl Tryz.prog (d+1) ⟨_⟩ W K';have e1:(#[]:Array Value).toList++x=x:=rfl;rw[e1]
  obtain⟨hi,rfl⟩:∃hi:i<xs.length,x=[fv xs[i]]:=by
   rw[List.getElem?_map]at X;cases hh:xs[i]? with
   |none=>rw[hh]at X;cases X
   |some o=>
    obtain⟨hj,he⟩:=List.getElem?_eq_some_iff.1 hh;rw[hh]at X;exact⟨hj,by rw[he];exact(Option.some.inj X).symm⟩
  refine hY _ W K' rfl ⟨g.state,g.pending,s⟩ ?_;obtain⟨w1,w2,v1,v2,v3,v4⟩:=hv xs[i] (List.getElem_mem hi) W;obtain⟨q,hq0⟩:∃q,q=W.heap.size:=⟨_,rfl⟩
  rw[<-hq0]at v1 v2 v3;refine ck v1 ?_;show ru Tryz.prog (Instr.storeAt T (.pointer (some ⟨q,0,none⟩)) (fv xs[i])) w1 _;refine dt v2 ?_;have r2:w2.heap[d+1]? =some (.loop g):=v4.keep s id;refine lM r2 n ?_;have m3:=m w2 (.loop {g with state:=.busy});have r3:(w2.putObj (d+1) (.loop {g with state:=.busy})).heap[d+1]? =some (.loop {g with state:=.busy}):=by rw[db,if_pos rfl,r2];rfl
  generalize w2.putObj (d+1) (.loop {g with state:=.busy})=w3 at m3 r3|-;have hdl:d+1<q:=by rw[hq0];exact cn s
  have q3:=m3.hpk v3 (by omega);have hs3:=m3.size;have hs4:=v4.size;have M3:cl (λb=>b=d+1) W w3:=(v4.mono λ_ _ h=>h.elim).trans m3;have hQs:∀(e:World),W.heap.size<=e.heap.size->∀b,Q b->(Q b\/W.heap.size<=b)/\b<e.heap.size:=λe hs b c=>⟨.inl c,by have:=p.2.1 b c;omega⟩
  have hJ3:=u _ _ _ _ _ h1 (B (Q:=Q) M3 λb c=>.inr c) (L Q Q W w3 (by omega) M3.size (hQs _ M3.size));have G:=hS _ _ _ _ _ p (by omega) M3 (λb c=>.inr c) (hQs _ M3.size);refine ck (hyl _ ?_) ?_
  ·have:=G.2.2 n0 hn0;unfold hp;rw[this];exact hy
  refine ck (hld xs[i] (List.getElem_mem hi) _ _ q3) ?_
  have O:∀(e:World) (o:Obj),w3.heap.size<=e.heap.size->(∀b,U Q b->e.heap[b]? =w3.heap[b]?)->
    e.heap[d+1]? =some (.loop {g with state:=.busy})/\S Q (e.putObj (d+1) o)/\(∀b,Q b->(e.putObj (d+1) o).heap[b]? =W.heap[b]?)/\W.heap.size<=(e.putObj (d+1) o).heap.size:=by
   intro e o hs y;have hp1:=m e o;have hsp:=hp1.size;have hs' :S Q e:=⟨by unfold hp;rw[y d (.inr (.inl rfl))];exact G.1,λb c=>by have:=G.2.1 b c;omega,λb c=>by rw[y b (.inl c)];exact G.2.2 b c⟩
   refine⟨by rw[y _ (.inr (.inr (.inl rfl)))];exact r3,hS _ _ _ _ _ hs' (by omega) hp1 (λb c=>.inr c) λb c=>⟨.inl c,by have:=G.2.1 b c;omega⟩,λb c=>?_,by omega⟩;have P:=p.2.1 b c;rw[hp1.blk b (by omega) (by omega),y b (.inr (.inr (.inr c))),M3.blk b P.2 (by omega)]
  refine Y _ _ _ _ (hxs i hi) hJ3 _ (λe Z hs y=>?_) λe Z hs y=>?_
  ·refine ck (v:=.bool false) (w' :=e) (by simp[go_sem]) ?_;rw[ci,if_neg Bool.false_ne_true];obtain⟨k1,k2,k3,k4⟩:=O e (.loop {{g with state:=.busy}with state:=.ready,pending:=none}) hs y;refine⟨_,k1,hT _ ⟨?_,k2,?_⟩ k4 k3⟩
   ·exact u _ _ _ _ _ Z (B (Q:=Q) (m e _) λb c=>.inr c) (L Q Q e _ (by omega) (m e _).size λb c=>⟨.inl c,(k2.2.1 b c).2⟩)
   ·rw[db,if_pos rfl,k1];simp[<-n,<-K]
  ·refine ck (v:=.bool true) (w' :=e) (by simp[go_sem]) ?_;rw[ci,if_pos rfl];obtain⟨k1,k2,k3,k4⟩:=O e (.loop {{g with state:=.busy}with state:=.done,pending:=some .ret}) hs y;refine⟨_,k1,hF _ ⟨{g with state:=.done,pending:=some .ret},?_,k2,?_,rfl,rfl⟩ k4 k3⟩
   ·exact A _ _ _ _ Z (B (Q:=Q) (m e _) λb c=>.inr c) (L Q Q e _ (by omega) (m e _).size λb c=>⟨.inl c,(k2.2.1 b c).2⟩)
   ·rw[db,if_pos rfl,k1];rfl
 ·rintro Q W ⟨h1,p,s⟩;refine⟨g,s,by rw[n];decide,?_⟩;rw[<-E];have hl:=cn s;have j:=m W (.loop {g with state:=.exhausted});generalize W.putObj (d+1) (.loop {g with state:=.exhausted})=M at j|-;have hs8:=j.size;rw[K];have D:∀b,Q b->(Q b\/W.heap.size<=b)/\b<M.heap.size:=λb c=>⟨.inl c,by have:=p.2.1 b c;omega⟩
  have F:=hS _ _ _ _ _ p (by omega) j (λb c=>.inr c) D;have h1' :J (U Q) (k+xs.length) W:=by have:=h1;rwa[List.length_map]at this
  refine hend (U Q) M d E (u _ _ _ _ _ h1' (B (Q:=Q) j λb c=>.inr c) (L Q Q W M (by omega) j.size D)) (λb c=>.inl c) (.inr (.inl rfl)) (λb c=>?_) (λb c=>?_) F.2.2 F.1
  ·exact(L Q Q W M (by omega) j.size D b c).2
  ·rcases c with h|h|h|h
   ·exact .inl h
   ·exact .inr (by omega)
   ·exact .inr (by omega)
   ·exact .inr (by have:=p.2.1 b h;omega)
 ·rintro Q W ⟨r,h1,p,s,h4,h5⟩;refine⟨r,s,by rw[h4];decide,?_⟩;rw[<-E];have hl:=cn s;have j:=m W (.loop {r with state:=.exhausted});generalize W.putObj (d+1) (.loop {r with state:=.exhausted})=M at j|-;have hs8:=j.size;rw[h5];have D:∀b,Q b->(Q b\/W.heap.size<=b)/\b<M.heap.size:=λb c=>⟨.inl c,by have:=p.2.1 b c;omega⟩
  have F:=hS _ _ _ _ _ p (by omega) j (λb c=>.inr c) D;refine hexit (U Q) M d E (A _ _ _ _ h1 (B (Q:=Q) j λb c=>.inr c) (L Q Q W M (by omega) j.size D)) (λb c=>.inl c) (.inr (.inl rfl)) (λb c=>?_) (λb c=>?_) F.2.2 F.1
  ·exact(L Q Q W M (by omega) j.size D b c).2
  ·rcases c with h|h|h|h
   ·exact .inl h
   ·exact .inr (by omega)
   ·exact .inr (by omega)
   ·exact .inr (by have:=p.2.1 b h;omega)
def eM.keep{F:Nat->Prop}{w w' :World}{s:Nat}{buy:Bool}{l:List Od}(h:eM w s F buy l)(c:∀b,F b->w'.heap[b]? =w.heap[b]?):eM w' s F buy l:=by
 obtain⟨⟨sl,h1,e,a,f⟩,g,d⟩:=h;exact⟨⟨sl,(c s ((a s).2 (.inl rfl))).trans h1,e.keep λb i=>c b ((a b).2 (.inr i)),a,f⟩,g,d⟩
def OS:∀a:Od,∀(W:World) q,hp W q=some (.cells (da a).toArray iq (0,0))->(Instr.loadAt iq (.pointer (some ⟨q,0,none⟩))).run Tryz.prog W=.ok (g9 a) W:=λa W q h=>gL (o:=a) (At.all h)
set_option maxRecDepth 10000 in
set_option maxHeartbeats 1000000 in
def IF{b vb:Nat}{B:Bk}{T:TypeId}:Hy Tryz.prog (.func (.func 144) #[] #[.pointer (some ⟨vb,0,none⟩)]) ((B true++B false).map λo=>[g9 o]) (λW=>hp W vb=some (.cells #[eY b] T (0,0))/\∃F,eT W b F B):=by
 refine⟨⟨_,_,_,rfl,?_⟩⟩;rintro z J Js W K ⟨A,F,hq⟩ h0 m l w M hex;show Ca Tryz.prog _ #[.func (.yield z) #[] #[],.pointer (some ⟨vb,0,none⟩)] W K;apply Pz;obtain⟨t,L⟩:∃t,t=W.heap.size:=⟨_,rfl⟩
 have N:cl (λ_=>False) W (W.alloc (.cells #[.func (.yield z) #[] #[]] 245)):=(cl.refl _ W).alloc _;have b1:hp (W.alloc (.cells #[.func (.yield z) #[] #[]] 245)) t=some (.cells #[.func (.yield z) #[] #[]] 245 (0,0)):=by rw[L];simp[go_sem]
 refine ck (v:=.pointer (some ⟨t,0,none⟩)) (w' :=W.alloc (.cells #[.func (.yield z) #[] #[]] 245)) (by rw[L];rfl) ?_;generalize W.alloc (.cells #[.func (.yield z) #[] #[]] 245)=w1 at N b1|-;have U:=N.hpk A id;have O:=hq.mod N λ_ _ h=>h;refine ck (v:=eY b) (w' :=w1) (by simp[go_sem,U,eY]) ?_;refine pT O ?_;refine ck (v:=.bool false) (by simp[go_sem]<;>first|exact⟨rfl,rfl⟩|exact rfl) ?_;rw[ci,if_neg Bool.false_ne_true];refine ck (v:=eY b) (w' :=w1) (by simp[go_sem,U,eY]) ?_;refine wx O λb' F' Y q2 m2 n2=>?_;obtain⟨s,G,hr,hF'⟩:=q2.r;have md:cl (λ_=>False) Y Y.drew:=(cl.refl _ Y).drew;have p:=hr.mod md id λ_ _ _ h=>h;have c0:=p.blk;simp only[eY,cr];refine co (λ_=>by simp[-Int.natCast_add,go_sem]<;>first|exact⟨rfl,rfl⟩|exact rfl) ?_;refine cB (v:=cQ (s true)) (by simp[go_sem,c0]) ?_;refine co (λ_=>by simp[-Int.natCast_add,go_sem]<;>first|exact⟨rfl,rfl⟩|exact rfl) ?_;refine cB (v:=cQ (s false)) (by simp[go_sem,c0]) ?_;refine fE [cQ (s true),cQ (s false)] Tf (cK Ta) rfl rfl (by intro v hv;simp only[List.mem_cons,List.not_mem_nil,or_false]at hv;rcases hv with rfl|rfl<;>rfl) (by omega) ?_;have e0:(([cQ (s true),cQ (s false)]:List Value).flatMap (·.cells.toList)).toArray= #[cQ (s true),cQ (s false)]:=rfl;rw[e0];have M2:=(N.trans m2).trans md;have h1:=m2.hpk b1 id;have h1:=md.hpk h1 id;generalize Y.drew=C at md p c0 M2 h1|-;obtain⟨q,I⟩:∃q,q=C.heap.size:=⟨_,rfl⟩
 have E:cl (λ_=>False) C (C.alloc (.cells #[cQ (s true),cQ (s false)] 228)):=(cl.refl _ C).alloc _;have b4:hp (C.alloc (.cells #[cQ (s true),cQ (s false)] 228)) q=some (.cells #[cQ (s true),cQ (s false)] 228 (0,0)):=by rw[I];simp[go_sem]
 rw[<-I];generalize C.alloc (.cells #[cQ (s true),cQ (s false)] 228)=w4 at E b4|-;have r4:=p.mod E id λ_ _ _ h=>h;have n4:=E.hpk h1 id;have M4:=M2.trans E;refine cB (v:=.int .i64 2) (by simp[go_sem]) ?_;have hs1:=N.size;have hs2:=m2.size;have hsd:=md.size;have hs4:=E.size;have hn0l:=cn b1;have hql:=cn b4;have n:∀d x,G d x->W.heap.size<=x/\x<w4.heap.size:=λd x c=>⟨by have:=n2 x ((hF' x).2 (.inr (by cases d;exact .inr c;exact .inl c)));omega,r4.lt c⟩
 let f:Nat->Nat:=λi=>if i=0 then 0 else if i=1 then(B true).length else(B true++B false).length
 let St:(Nat->Prop)->List Nat->World->Prop:=λQ ds g=>hp g t=some (.cells #[.func (.yield z) #[] #[]] 245 (0,0))/\hp g q=some (.cells #[cQ (s true),cQ (s false)] 228 (0,0))/\(∀d,eM g (s d) (G d) d (B d))/\
  (∀d∈ds,hp g d=some (.deferred (some []))/\Q d)/\ds.Nodup/\(∀b,Q b->b<g.heap.size)/\Q t/\Q q/\∀d x,G d x->Q x
 have hJ4:J (λx=>x=t\/x=q\/G true x\/G false x) 0 w4:=h0 _ _ M4 λx c=>by
  rcases c with rfl|rfl|h|h
  ·omega
  ·omega
  ·exact n _ _ h
  ·exact n _ _ h
 refine dp (λst g=>∃(i:Nat) (Q:Nat->Prop) (ds:List Nat),i<=2/\st=((.int .i64 i,()),ds)/\J Q (f i) g/\St Q ds g)
  (λst _=>match st.1.1 with| .int _ i=>2 - i.toNat|_=>0) ⟨0,_,[],by omega,rfl,hJ4,n4,b4,r4.sd,λd p=>absurd p List.not_mem_nil,List.nodup_nil,λx c=>?_,.inl rfl,.inr (.inl rfl),λd x c=>by cases d;exact .inr (.inr (.inr c));exact .inr (.inr (.inl c))⟩ ?_
 ·rcases c with rfl|rfl|h|h
  ·omega
  ·omega
  ·exact(n _ _ h).2
  ·exact(n _ _ h).2
 rintro⟨_,ds⟩ W5 ⟨i,Q,ds0,hi,⟨⟩,hJ,k1,k2,k3,k4,k5,k6,k7,k8,k9⟩ KN hKN;unfold FV;intro _;by_cases hlt:i<2
 ·have P:(i:Int)<2:=by omega
  refine ck (v:=.bool true) (by simp[go_sem,P]<;>first|exact⟨rfl,rfl⟩|exact rfl) ?_;rw[ci,if_pos rfl]
  obtain⟨d,p⟩:∃d:Bool,(i=0/\d=true)\/(i=1/\d=false):=by
   by_cases h0:i=0
   ·exact⟨true,.inl ⟨h0,rfl⟩⟩
   ·exact⟨false,.inr ⟨by omega,rfl⟩⟩
  have R:¬(2:Int)<=(i:Int):=by omega
  refine ck (v:=.pointer (some ⟨q,i,none⟩)) (w' :=W5) (by simp[go_sem,hlt,R,cE]) ?_;refine ck (v:=cQ (s d)) (w' :=W5) (by rcases p with⟨rfl,rfl⟩|⟨rfl,rfl⟩<;>simp[go_sem,k2]) ?_;refine B4 (k3 d) λgv w6 ht r=>?_;have hs6:=r.size;have Z:=m _ Q _ _ _ hJ (r.mono λ_ _ h=>h.elim) λb A=>⟨.inl A,by have:=k6 b A;omega⟩
  have H:f i+(B d).length=f (i+1):=by rcases p with⟨rfl,rfl⟩|⟨rfl,rfl⟩<;>simp[f]
  delta Hr
  refine JA (XS:=(B true++B false).map λo=>[g9 o]) (T:=iq) (fc:=da) (Q0:=Q) (k:=f i) ht.m lI.od (λa _=>OS a) m l w ?_ (r.hpk k1 id) ?_ k7 (λb A=>by have:=k6 b A;omega) Z ?_ ?_
  ·intro j hj;rcases p with⟨rfl,rfl⟩|⟨rfl,rfl⟩
   ·have e:((B true++B false).map λo=>[g9 o])[f 0+j]? =((B true++B false)[0+j]?).map λo=>[g9 o]:=List.getElem?_map;rw[e,Nat.zero_add,List.getElem?_append_left hj,List.getElem?_eq_getElem hj];rfl
   ·have e:((B true++B false).map λo=>[g9 o])[f 1+j]? =((B true++B false)[(B true).length+j]?).map λo=>[g9 o]:=List.getElem?_map;rw[e,List.getElem?_append_right (by omega),Nat.add_sub_cancel_left,List.getElem?_eq_getElem hj];rfl
  ·intro g h;simp[go_sem,h]
  ·intro Q' g S hdd y D a2 a3 a4 X a6;have u:∀x o,Q x->hp w6 x=some o->hp g x=some o:=λx o c h=>by unfold hp;rw[X x c];exact h
   have hSd:∀d,eM g (s d) (G d) d (B d):=λe=>(((k3 e).mod r λ_ _ h=>h)).keep λx c=>X x (k9 e x c);unfold Bi;simp only[fk];refine ck (v:=.int .i64 ((i+1:Nat):Int)) (w' :=g) (by simp[go_sem];rw[cS (by omega) (by omega)]) ?_;refine hKN _ _ ⟨i+1,Q',[S]++ds,by omega,rfl,by rw[<-H];exact y,u _ _ k7 (r.hpk k1 id),u _ _ k8 (r.hpk k2 id),hSd,λx c=>?_,?_,a3,D _ k7,D _ k8,λe x c=>D _ (k9 e x c)⟩ (by show 2 - (((i+1:Nat):Int)).toNat<2 - ((i:Int)).toNat;omega)
   ·rcases List.mem_cons.1 c with rfl|c
    ·exact⟨a6,a2⟩
    ·exact⟨u _ _ (k4 x c).2 (r.hpk (k4 x c).1 id),D _ (k4 x c).2⟩
   ·refine List.nodup_cons.2 ⟨λc=>?_,k5⟩;have:=k6 _ (k4 S c).2;omega
  ·intro Q' g S hdd y D a2 a3 a4 X a6;unfold Bi;simp only[fk];refine Jc (ds:=[S]++ds) ?_ ?_ λW8 V=>?_
   ·refine List.nodup_cons.2 ⟨λc=>?_,k5⟩;have:=k6 _ (k4 S c).2;omega
   ·intro x c;rcases List.mem_cons.1 c with rfl|c
    ·exact a6
    ·unfold hp;rw[X x (k4 x c).2];exact r.hpk (k4 x c).1 id
   ·refine hex _ _ (l _ Q' _ _ y (V.mono λx _ c=>?_) λx c=>⟨.inl c,by have:=a3 x c;have:=V.size;omega⟩);rcases List.mem_cons.1 c with rfl|c
    ·exact a2
    ·exact D _ (k4 x c).2
 ·obtain rfl:i=2:=by omega
  refine ck (v:=.bool false) (by simp[go_sem]<;>first|exact⟨rfl,rfl⟩|exact rfl) ?_;rw[ci,if_neg Bool.false_ne_true];refine Jc (ds:=ds) k5 (λx c=>(k4 x c).1) λW8 V=>?_;refine M Q _ ?_;have e:f 2=((B true++B false).map λo=>[g9 o]).length:=by simp[f]
  rw[<-e];exact m _ Q _ _ _ hJ (V.mono λx _ c=>(k4 x c).2) λx c=>⟨.inl c,by have:=k6 x c;have:=V.size;omega⟩
def Jg{w:World}{K:cm}{b:Nat}{F:Nat->Prop}{B:Bk}(h:eT w b F B)
  (d:∀gv a,jy gv ((B true++B false).map λo=>[g9 o]) a->cl (λ_=>False) w a->K gv a):Ca Tryz.prog 57 #[eY b] w K:=by
 apply RK;have m0:cl (λ_=>False) w (w.alloc (.cells #[eY b] 109)):=(cl.refl _ w).alloc _;refine ck (v:=.pointer (some ⟨w.heap.size,0,none⟩)) (w' :=w.alloc (.cells #[eY b] 109)) (by simp[go_sem,eY]) ?_;have c:hp (w.alloc (.cells #[eY b] 109)) w.heap.size=some (.cells #[eY b] 109 (0,0)):=by simp[go_sem]
 exact d _ _ ⟨⟨_,IF (b:=b) (vb:=w.heap.size) (B:=B) (T:=109),λW m=>⟨m.hpk c id,F,h.mod (m0.trans m) λ_ _ h=>h⟩⟩,_,_,rfl⟩ m0
def eT.slt{w:World}{b:Nat}{F:Nat->Prop}{B:Bk}(h:eT w b F B):b<w.heap.size:=h.lt h.self
def eT.nn{w:World}{b:Nat}{F:Nat->Prop}{B:Bk}(h:eT w b F B):∀d,(B d).length<=100/\∀o∈B d,o.may=true/\o.buy=d/\o.Fit:=by
 obtain⟨s,G,a,c⟩:=h.r;exact λd=>⟨(a.sd d).len,(a.sd d).may⟩
def wp{w:World}{K:cm}{b:Nat}{F:Nat->Prop}{B:Bk}{o:Od}{k:Int}(h:eT w b F B)(l:o.Fit)(p:0<=k/\k<256)
  (q:∀j e f d,eT d b j (cY B o k).2.1->IR d e f (cY B o k).2.2.trades (cY B o k).2.2.gone->cl F w d->(∀x,j x->F x\/w.heap.size<=x)->
   (∀x,cv e x\/cv f x->w.heap.size<=x/\¬j x)->K (.tuple #[.agg (nP e f (cY B o k).2.2.filled (cY B o k).2.2.left),.int .i64 (cY B o k).1]) d):Ca Tryz.prog 135 #[eY b,g9 o,.int .u8 k] w K:=by
 obtain⟨s,G,r,i⟩:=h.r;have y:=h.slt;refine GC r l p λv e f d n u t m g=>q _ e f _ n.q u (t.mono λx _ a=>(i x).2 (.inr a)) (λx a=>?_) λx a=>⟨(g x a).1,λc=>?_⟩
 ·rcases a with a|a|a
  ·exact .inl ((i x).2 (.inl a))
  ·exact(m _ x a).imp (λh=>(i x).2 (.inr (.inl h))) id
  ·exact(m _ x a).imp (λh=>(i x).2 (.inr (.inr h))) id
 ·rcases c with c|c|c
  ·have:=(g x a).1;omega
  ·exact(g x a).2 _ c
  ·exact(g x a).2 _ c
def Bk.all(B:Bk):List Od:=B true++B false
def eT.all{w:World}{b:Nat}{F:Nat->Prop}{B:Bk}(h:eT w b F B):B.all.length<=200/\∀o∈B.all,o.may=true/\o.Fit:=by
 have:=h.nn;refine⟨by unfold Bk.all;rw[List.length_append];have h1:=(this true).1;have c:=(this false).1;omega,λo a=>?_⟩;rcases List.mem_append.1 a with a|a
 ·exact⟨((this _).2 o a).1,((this _).2 o a).2.2⟩
 ·exact⟨((this _).2 o a).1,((this _).2 o a).2.2⟩
def cV{α:Type}{l:List α}{i:Nat}(hi:i<l.length):l.take (i+1)=l.take i++[l[i]]:=by
 rw[List.take_add_one,List.getElem?_eq_getElem hi];rfl
abbrev ip:TypeId:=108
abbrev HL:TypeId:=45
def vr:Tryz.prog.underlying HL=some (.slice ip):=by kernel_rfl
def zY:Tryz.prog.cellsOf ip=26+1:=by kernel_rfl
def C4:iD Tryz.prog ip=true:=by kernel_rfl
def RD:lh Tryz.prog ip=true:=by kernel_rfl
def Sy:(lg Tryz.prog ip).length=26+1:=by kernel_rfl
def SZ:eO Tryz.prog ip 27 208=true:=by kernel_rfl
abbrev Mv(w:World)(s:Value)(l:List Ct):Prop:=d7 w ip 27 s l.length (l.flatMap dU)
def pP{w:World}{K:cm}{s:Value}{l:List Ct}(h:Rd w 27 s l.length (l.flatMap dU))(q:l.length<=1000000)
  (j:∀e d,Mv d e l->cl (λ_=>False) w d->(∀b,cv e b->w.heap.size<=b)->K e d):Ca Tryz.prog 128 #[s] w K:=by
 apply Oy;obtain⟨a,c,f⟩:=h.isSl;by_cases i:a=none
 ·subst i;refine ck (v:=.bool true) (w' :=w) (by rw[f];simp[go_sem]) ?_;rw[ci,if_pos rfl]
  have p:l=[]:=by
   obtain⟨-,⟨g,_⟩|⟨b,o,n,k,_⟩⟩:=h
   ·exact List.eq_nil_of_length_eq_zero g
   ·rw[f]at k;cases k
  subst p;exact j _ _ (d7.nil _ _ _) (cl.refl _ _) λb m=>by cases m
 ·refine ck (v:=.bool false) (w' :=w) (by rw[f];cases a;exact absurd rfl i;simp[go_sem]) ?_;rw[ci,if_neg Bool.false_ne_true];exact OP vr (cK SZ) h (IN tC l) (by omega) j
structure AA where
 day:Int
 l:List Ct
def Ct.Ok(k:Ct):Prop:=k.Fit/\k.spec.may=true/\k.spec.isPrice k.price=true/\1<=k.st/\k.st<=3
def pv(l:List Ct)(n:Int):Nat:=(l.takeWhile λk=>decide (k.spec.num<n)).length
def ek(l:List Ct)(n:Int):Option Ct:=l.find? λk=>decide (k.spec.num=n)
def ob(l:List Ct):Prop:=l.Pairwise λa b=>a.spec.num<b.spec.num
structure nM(w:World)(c:Nat)(F:Nat->Prop)(S:AA):Prop where
 out:∃sl,hp w c=some (.cells #[.bool true,.int .u32 S.day,sl] 197 (0,0))/\Mv w sl S.l/\(∀x,F x↔x=c\/cv sl x)/\¬cv sl c
 len:S.l.length<=16
 day:iC S.day
 ok:∀k∈S.l,k.Ok
 srt:ob S.l
def nM.mod{F G:Nat->Prop}{w w' :World}{c:Nat}{S:AA}(h:nM w c F S)(e:cl G w w')(d:∀b,F b->¬G b):nM w' c F S:=by
 obtain⟨⟨sl,h1,f,a,i⟩,k,m,j,l⟩:=h;exact⟨⟨sl,e.hpk h1 (d c ((a c).2 (.inl rfl))),f.mod e λb g=>d b ((a b).2 (.inr g)),a,i⟩,k,m,j,l⟩
def nM.lt{F:Nat->Prop}{w:World}{c:Nat}{S:AA}(h:nM w c F S){b:Nat}(a:F b):b<w.heap.size:=by
 obtain⟨⟨sl,h1,d,e,f⟩,g⟩:=h;rcases(e b).1 a with rfl|a
 ·exact cn h1
 ·exact d.lt a
def dK(c:Nat):Value:=.pointer (some ⟨c,0,none⟩)
def IG(k:Ct):(dU k)[0]? =some (.int .u32 k.spec.num):=rfl
def NC(k:Ct):(dU k)[25]? =some (.int .u8 k.st):=by have:=Qq k [];rwa[List.append_nil]at this
def OI(k:Ct):(dU k)[26]? =some (.int .i64 k.price):=by have:=O3 k [];rwa[List.append_nil]at this
def NT(k:Ct)(w:World):∃a,(Instr.box ip (.agg (dU k).toArray)).run Tryz.prog w=.ok (.pointer (some ⟨w.heap.size,0,none⟩)) a/\hp a w.heap.size=some (.cells (dU k).toArray ip (0,0))/\cl (λ_=>False) w a:=
 ⟨w.alloc (.cells (dU k).toArray ip),rfl,by simp[go_sem],(cl.refl _ w).alloc _⟩
def Ds{w:World}{K:cm}(d:∀c F a,nM a c F ⟨0,[]⟩->cl (λ_=>False) w a->(∀b,F b->w.heap.size<=b)->K (dK c) a):Ca Tryz.prog 35 #[] w K:=by
 apply Q9;refine ck (v:=.agg #[.bool true,.int .u32 0,.slice none 0 0]) (w' :=w) (by simp[go_sem]) ?_;refine ck (v:=dK w.heap.size) (w' :=w.alloc (.cells #[.bool true,.int .u32 0,.slice none 0 0] 197)) rfl ?_;exact d _ (λx=>x=w.heap.size) _ ⟨⟨.slice none 0 0,by simp[go_sem],d7.nil _ _ _,λx=>⟨λh=>.inl h,λh=>h.elim id λh=>by cases h⟩,λh=>by cases h⟩,by simp,⟨by simp,by simp⟩,by simp,List.Pairwise.nil⟩ ((cl.refl _ w).alloc _) λb e=>by omega
def oS{w:World}{K:cm}{c:Nat}{F:Nat->Prop}{S:AA}(h:nM w c F S)(a:K (.bool true) w):Ca Tryz.prog 132 #[dK c] w K:=by
 obtain⟨⟨sl,h1,b,f,d⟩,e⟩:=h;apply OC;unfold dK;refine ck (v:=.bool true) (by simp[go_sem]<;>first|exact⟨rfl,rfl⟩|exact rfl) ?_;rw[ci,if_pos rfl];simp only[cr];refine ck (by simp[-Int.natCast_add,go_sem]<;>first|exact⟨rfl,rfl⟩|exact rfl) ?_;refine ck (by simp[-Int.natCast_add,go_sem,h1]<;>first|exact⟨rfl,rfl⟩|exact rfl) ?_;exact a
def TD{α:Type}{l:List α}{p:α->Bool}{j:Nat}(b:j<l.length)(h:∀o∈l.take j,p o=true)(a:p l[j]=false):l.takeWhile p=l.take j:=by
 induction l generalizing j with
 |nil=>simp at b
 |cons x l c=>
  cases j with
  |zero=>simp at a;simp[a]
  |succ j=>
   simp only[List.take_succ_cons,List.mem_cons,forall_eq_or_imp]at h;rw[List.takeWhile_cons_of_pos h.1,List.take_succ_cons,c (by simpa using b) h.2 (by simpa using a)]
def Tw{α:Type}{l:List α}{p:α->Bool}(h:∀o∈l,p o=true):l.takeWhile p=l:=by
 induction l with
 |nil=>rfl
 |cons x l b=>rw[List.takeWhile_cons_of_pos (h x (by simp)),b λo a=>h o (by simp[a])]
def t0{l:List Ct}{n:Int}{i:Nat}(hi:i<=l.length)(h1:∀j (a:j<l.length),j<i->l[j].spec.num<n)(d:∀(a:i<l.length),¬l[i].spec.num<n):pv l n=i:=by
 unfold pv;by_cases c:i<l.length
 ·rw[TD (p:=λk:Ct=>decide (k.spec.num<n)) c (λo b=>?_) (by simpa using d c),List.length_take,Nat.min_eq_left hi];obtain⟨j,a,rfl⟩:=List.getElem_of_mem b;rw[List.length_take]at a;rw[List.getElem_take];simpa using h1 j (by omega) (by omega)
 ·rw[Tw λo b=>?_]
  ·omega
  ·obtain⟨j,a,rfl⟩:=List.getElem_of_mem b;simpa using h1 j a (by omega)
def DH{l:List Ct}(d:ob l){n:Int}{i:Nat}(h1:∀j (a:j<l.length),j<i->l[j].spec.num<n)(hi:i<l.length)(f:¬l[i].spec.num<n):
  ek l n=if l[i].spec.num=n then some l[i]else none:=by
 unfold ek;by_cases b:l[i].spec.num=n
 ·rw[if_pos b,List.find?_eq_some_iff_getElem];refine⟨by simpa using b,i,hi,rfl,λj a=>?_⟩;have:=h1 j (by omega) a;simp;omega
 ·rw[if_neg b,List.find?_eq_none];intro k c;obtain⟨j,a,rfl⟩:=List.getElem_of_mem c;simp only[decide_eq_true_eq];intro e;rcases Nat.lt_trichotomy j i with h|h|h
  ·have:=h1 j a h;omega
  ·subst h;exact b e
  ·have:=List.pairwise_iff_getElem.1 d i j hi a h;omega
def Bw{l:List Ct}{n:Int}(h1:∀j (a:j<l.length),l[j].spec.num<n):ek l n=none:=by
 unfold ek;rw[List.find?_eq_none];intro k b;obtain⟨j,a,rfl⟩:=List.getElem_of_mem b;have:=h1 j a;simp;omega
def x9{w:World}{K:cm}{k:Ct}{n:Int}(a:∀d,cl (λ_=>False) w d->K (.int .i64 (if k.spec.num<n then -1 else if n<k.spec.num then 1 else 0)) d):Ca Tryz.prog 250 #[.agg (dU k).toArray,.int .u32 n] w K:=by
 apply Nx;obtain⟨g,e,c,f⟩:=NT k w;have a:=a _ f;refine ck e ?_;refine ck (by simp[-Int.natCast_add,go_sem]<;>first|exact⟨rfl,rfl⟩|exact rfl) ?_;refine ck (by simp[-Int.natCast_add,go_sem]<;>first|exact⟨rfl,rfl⟩|exact rfl) ?_;refine ck (by simp[-Int.natCast_add,go_sem,c,IG]<;>first|exact⟨rfl,rfl⟩|exact rfl) ?_;by_cases h1:k.spec.num<n
 ·refine ck (v:=.bool true) (by simp[go_sem,h1]<;>first|exact⟨rfl,rfl⟩|exact rfl) ?_;rw[ci,if_pos rfl];rw[if_pos h1]at a;exact a
 ·refine ck (v:=.bool false) (by simp[go_sem,h1]<;>first|exact⟨rfl,rfl⟩|exact rfl) ?_;rw[ci,if_neg Bool.false_ne_true];rw[if_neg h1]at a;refine ck (by simp[-Int.natCast_add,go_sem]<;>first|exact⟨rfl,rfl⟩|exact rfl) ?_;refine ck (by simp[-Int.natCast_add,go_sem]<;>first|exact⟨rfl,rfl⟩|exact rfl) ?_;refine ck (by simp[-Int.natCast_add,go_sem,c,IG]<;>first|exact⟨rfl,rfl⟩|exact rfl) ?_;by_cases b:n<k.spec.num
  ·refine ck (v:=.bool true) (by simp[go_sem,b]<;>first|exact⟨rfl,rfl⟩|exact rfl) ?_;rw[ci,if_pos rfl];rw[if_pos b]at a;exact a
  ·refine ck (v:=.bool false) (by simp[go_sem,b]<;>first|exact⟨rfl,rfl⟩|exact rfl) ?_;rw[ci,if_neg Bool.false_ne_true];rw[if_neg b]at a;exact a
def NE{i j:Nat}(h:i<j)(a:j<=1000000)(w:World):∃x,(convert 3 249 (.int .i64 ((i:Int)+(j:Int)))).run Tryz.prog w=.ok x w/\∃y,(nE .shr 249 true x (.int .u64 1)).run Tryz.prog w=.ok y w/\(convert 249 3 y).run Tryz.prog w=.ok (.int .i64 (((i+j) / 2:Nat):Int)) w:=by
 refine⟨.int .u64 (((i+j:Nat):Int)),?_,.int .u64 (((i+j) / 2:Nat):Int),?_,?_⟩
 ·simp[go_sem];rw[IntKind.wrap_u64];omega
 ·simp[go_sem,Int.shiftRight_eq_div_pow]
 ·simp[go_sem];rw[IntKind.wrap_i64];omega
set_option maxRecDepth 10000 in
def I8{w:World}{K:cm}{s:Value}{l:List Ct}{n:Int}(h:Rd w 27 s l.length (l.flatMap dU))(hn:l.length<=1000)(J:ob l)
  (R:∀g,cl (λ_=>False) w g->K (.tuple #[.int .i64 (pv l n),.bool (ek l n).isSome]) g):Ca Tryz.prog 249 #[s,.int .u32 n,.func (.func 250) #[] #[]] w K:=by
 apply Nl;obtain⟨a,c,G⟩:=h.isSl;refine fI (v:=.int .i64 (l.length:Int)) (w' :=w) (by rw[G];simp[go_sem]) ?_
 refine dp (λst W=>∃i j:Nat,i<=j/\j<=l.length/\st=(.int .i64 i,.int .i64 j,())/\cl (λ_=>False) w W/\(∀x (d:x<l.length),x<i->l[x].spec.num<n)/\∀x (d:x<l.length),j<=x->¬l[x].spec.num<n)
  (λst _=>match st.1,st.2.1 with| .int _ i,.int _ j=>j.toNat - i.toNat|_,_=>0) ⟨0,l.length,by omega,by omega,rfl,cl.refl _ _,λx d h=>by omega,λx d h=>by omega⟩ ?_
 rintro⟨_,_,_⟩ W ⟨i,j,V,A,⟨⟩,f,B,P⟩ KN u;unfold EW;intro _
 have e:∀W,cl (λ_=>False) w W->∀x (d:x<l.length),∃p,(Instr.indexAt HL s (.int .i64 (x:Int))).run Tryz.prog W=.ok p W/\(dm ip p).run Tryz.prog W=.ok (.agg (dU l[x]).toArray) W:=λW f x d=>by
  obtain⟨b,I,X,F,S,Y⟩:=(h.mod f λ_ _ h=>h).item cX d rfl;exact⟨.pointer (some ⟨b,I+x*27,none⟩),by rw[F];simp[go_sem,d,cE,vr],fw C4 zY (cX _) Y⟩
 by_cases E:i<j
 ·have t:(i:Int)<(j:Int):=by omega
  refine ck (v:=.bool true) (by simp[go_sem,t]<;>first|exact⟨rfl,rfl⟩|exact rfl) ?_;rw[ci,if_pos rfl];refine ck (v:=.int .i64 ((i:Int)+(j:Int))) (w' :=W) (by simp[go_sem];rw[cS (by omega) (by omega)]) ?_;obtain⟨x,e1,y,Z,e3⟩:=NE E (by omega) W;refine ck e1 ?_;refine ck Z ?_;refine ck e3 ?_;obtain⟨m,hm⟩:∃m,m=(i+j) / 2:=⟨_,rfl⟩
  rw[<-hm];have o:m<l.length:=by omega
  obtain⟨p,H,N⟩:=e W f m o;refine ck H ?_;refine fM N ?_;simp only[iH];refine x9 λC L=>?_;have T:=f.trans L;by_cases D:l[m].spec.num<n
  ·rw[if_pos D];refine ck (v:=.bool true) (by simp[go_sem]<;>first|exact⟨rfl,rfl⟩|exact rfl) ?_;rw[ci,if_pos rfl];refine ck (v:=.int .i64 ((m+1:Nat):Int)) (w' :=C) (by simp[go_sem];rw[cS (by omega) (by omega)]) ?_;refine u _ _ ⟨m+1,j,by omega,A,rfl,T,λx d M=>?_,P⟩ (by show((j:Int)).toNat - (((m+1:Nat):Int)).toNat<((j:Int)).toNat - ((i:Int)).toNat;omega);by_cases r:x=m
   ·subst r;exact D
   ·have:=List.pairwise_iff_getElem.1 J x m d o (by omega);omega
  ·rw[if_neg D];have O:¬((if n<l[m].spec.num then 1 else 0:Int)<0):=by split<;>omega
   refine ck (v:=.bool false) (w' :=C) (by simp[go_sem,O]) ?_;rw[ci,if_neg Bool.false_ne_true];refine u _ _ ⟨i,m,by omega,by omega,rfl,T,B,λx d M=>?_⟩ (by show((m:Int)).toNat - ((i:Int)).toNat<((j:Int)).toNat - ((i:Int)).toNat;omega);by_cases r:x=m
   ·subst r;exact D
   ·have:=List.pairwise_iff_getElem.1 J m x o d (by omega);omega
 ·obtain rfl:i=j:=by omega
  refine ck (v:=.bool false) (by simp[go_sem]<;>first|exact⟨rfl,rfl⟩|exact rfl) ?_;rw[ci,if_neg Bool.false_ne_true];by_cases q:i<l.length
  ·have z:(i:Int)<(l.length:Int):=by omega
   refine ck (v:=.bool true) (by simp[go_sem,z]<;>first|exact⟨rfl,rfl⟩|exact rfl) ?_;rw[ci,if_pos rfl];obtain⟨p,H,N⟩:=e W f i q;refine ck H ?_;refine fM N ?_;simp only[iH];have k:=P i q (Nat.le_refl _);refine x9 λC L=>?_;rw[if_neg k];refine ck (v:=.bool (ek l n).isSome) (w' :=C) ?_ ?_
   ·rw[DH J B q k];by_cases r:l[i].spec.num=n
    ·simp[go_sem,r]
    ·have d:n<l[i].spec.num:=by omega
     simp[go_sem,r,d]
   have:=t0 A B λA=>k;rw[<-this];exact R _ (f.trans L)
  ·obtain rfl:i=l.length:=by omega
   refine ck (v:=.bool false) (by simp[go_sem]<;>first|exact⟨rfl,rfl⟩|exact rfl) ?_;rw[ci,if_neg Bool.false_ne_true];have h1:pv l n=l.length:=t0 A B λA=>by omega
   have U:=Bw λx d=>B x d d;have Q:=R _ f;rw[h1,U]at Q;exact Q
def ye{l:List Ct}(m:ob l){n:Int}{k:Ct}(h:ek l n=some k):∃d:pv l n<l.length,l[pv l n]=k/\k.spec.num=n:=by
 unfold ek at h;obtain⟨o,i,d,b,g⟩:=List.find?_eq_some_iff_getElem.1 h;have a:k.spec.num=n:=by simpa using o
 have e:pv l n=i:=by
  refine t0 (by omega) (λj f c=>?_) λf=>by rw[b];omega
  have:=List.pairwise_iff_getElem.1 m j i f d c;rw[b]at this;omega
 subst e;exact⟨d,b,a⟩
def uD{l:List Ct}{n:Int}{k:Ct}(h:ek l n=some k):k∈l:=List.mem_of_find?_eq_some h
def LU{w:World}{K:cm}{c:Nat}{F:Nat->Prop}{S:AA}{n:Int}(h:nM w c F S)
  (f:∀a,cl (λ_=>False) w a->K (.tuple #[.int .i64 (pv S.l n),.bool (ek S.l n).isSome]) a):Ca Tryz.prog 198 #[dK c,.int .u32 n] w K:=by
 obtain⟨⟨sl,h1,e,m,j⟩,l,o,k,g⟩:=h;apply Qv;unfold dK;simp only[cr];obtain⟨sa,p,b,-⟩:=e.isSl;refine ck (by simp[-Int.natCast_add,go_sem]<;>first|exact⟨rfl,rfl⟩|exact rfl) ?_;refine ck (v:=sl) (w' :=w) (by simp[go_sem,h1,b]) ?_;refine I8 e.rd (by omega) g λd i=>?_;refine ck (v:=.int .i64 (pv S.l n)) (w' :=d) (by simp[go_sem]) ?_;refine ck (v:=.bool (ek S.l n).isSome) (w' :=d) (by simp[go_sem]) ?_;exact f _ i
def dg(l:List Ct)(n:Int):Int:=match ek l n with|none=>7|some k=>if k.st=3 then 50 else 0
def Mv.item{w:World}{sl:Value}{l:List Ct}(h:Mv w sl l){i:Nat}(hi:i<l.length):
  ∃b a rest,sl=.slice (some ⟨b,0,none⟩) l.length a/\(∀k:IntKind,(Instr.indexAt HL sl (.int k (i:Int))).run Tryz.prog w=.ok (.pointer (some ⟨b,i*27,none⟩)) w)/\At w b (i*27) (dU l[i])/\
   hp w b=some (.cells (l.flatMap dU++rest).toArray ip (0,0))/\∀j,j<27->(l.flatMap dU++rest)[i*27+j]? =(dU l[i])[j]? :=by
 obtain⟨b,a,rest,rfl,o,e,n⟩:=h.pos (by omega);have d:At w b 0 (l.flatMap dU++rest):=At.all (cN e);have c:=h.1;have h1:=d.sub (i*27) 27 (by rw[List.length_append,c];omega);rw[List.drop_append_of_le_length (by rw[c];omega),List.take_append_of_le_length (by rw[List.length_drop,c];omega),ji dU 27 l i (λx _=>cX x) hi,Nat.zero_add]at h1;refine⟨b,a,rest,rfl,λk=>by simp[go_sem,hi,cE,vr],h1,cN e,λj m=>?_⟩;rw[List.getElem?_append_left (by rw[c];omega)];have g:=ji dU 27 l i (λx _=>cX x) hi;have f:(((l.flatMap dU).drop (i*27)).take 27)[j]? =(dU l[i])[j]? :=by rw[g]
 rw[List.getElem?_take,if_pos m,List.getElem?_drop]at f;exact f
def Cq{w:World}{K:cm}{c:Nat}{F:Nat->Prop}{S:AA}(h:nM w c F S)(a:K (.int .u32 S.day) w):Ca Tryz.prog 53 #[dK c] w K:=by
 obtain⟨⟨sl,h1,b,f,d⟩,e⟩:=id h;apply Rf;refine oS h ?_;refine ck (v:=.bool false) (by simp[go_sem]<;>first|exact⟨rfl,rfl⟩|exact rfl) ?_;rw[ci,if_neg Bool.false_ne_true];simp only[dK,cr];refine ck (by simp[-Int.natCast_add,go_sem]<;>first|exact⟨rfl,rfl⟩|exact rfl) ?_;refine ck (by simp[-Int.natCast_add,go_sem,h1]<;>first|exact⟨rfl,rfl⟩|exact rfl) ?_;exact a
def ke:Sp:=⟨0,0,0,0,0,0,Vector.replicate 16 0,0,0,0⟩
def mI:Ct:=⟨ke,0,0⟩
def xh:lg Tryz.prog ip=dU mI:=by kernel_rfl
def Jm:Tryz.prog.built ip []=some (dU mI).toArray:=by kernel_rfl
def Ld{W:World}{q:Nat}{k0 k:Ct}{K:Value->World->Prop}(h:hp W q=some (.cells (dU k0).toArray ip (0,0)))
  (i:∀d,cl (λb=>b=q) W d->K (.agg (dU k).toArray) d):
  fV Tryz.prog (ej ip (.pointer (some ⟨q,0,none⟩)) (.agg (dU k).toArray)) W λa=>iw Tryz.prog (dm ip (.pointer (some ⟨q,0,none⟩))) a λj=>K j a:=by
 refine iu (n:=26) (c:=(dU k0).toArray) (e:=ip) zY (cX k) h (by rw[cX,List.size_toArray,cX];exact Nat.le_refl _) (tC k) ?_;rw[show(dU k0).toArray.toList=dU k0 from rfl,iZ (by rw[cX,cX])]
 have f:hp (W.setRow q (dU k).toArray) q=some (.cells (dU k).toArray ip (0,0)):=by
  show(W.setRow q _).heap[q]? =_;have g:W.heap[q]? =some (.cells (dU k0).toArray ip (0,0)):=h;rw[dw,if_pos rfl,g]
 refine eX (dU k) 26 C4 zY (cX k) (At.all f) ?_;exact i _ ((cl.refl (λb=>b=q) W).setRow (.inl rfl) _)
def fD(l:List Ct)(n:Int):Ct×Int:=match ek l n with|none=>(mI,7)|some k=>(k,0)
def JU{w:World}{K:cm}{c:Nat}{F:Nat->Prop}{S:AA}{n:Int}(h:nM w c F S)
  (d:∀a,cl (λ_=>False) w a->K (.tuple #[.agg (dU (fD S.l n).1).toArray,.int .i64 (fD S.l n).2]) a):Ca Tryz.prog 123 #[dK c,.int .u32 n] w K:=by
 apply P7;refine jI RD ?_;obtain⟨q,e⟩:∃q,q=w.heap.size:=⟨_,rfl⟩
 have m0:cl (λ_=>False) w (w.alloc (.cells (lg Tryz.prog ip).toArray ip)):=(cl.refl _ w).alloc _;have t:hp (w.alloc (.cells (lg Tryz.prog ip).toArray ip)) q=some (.cells (dU mI).toArray ip (0,0)):=by rw[xh,e];simp[go_sem]
 rw[<-e];generalize w.alloc (.cells (lg Tryz.prog ip).toArray ip)=M at m0 t|-;have i:=h.mod m0 λ_ _ h=>h;refine oS i ?_;refine ck (v:=.bool false) (by simp[go_sem]<;>first|exact⟨rfl,rfl⟩|exact rfl) ?_;rw[ci,if_neg Bool.false_ne_true];refine LU i λg o=>?_;have B:=i.mod o λ_ _ h=>h;have s:=m0.trans o;have r:=o.hpk t id;refine ck (v:=.int .i64 (pv S.l n)) (w' :=g) (by simp[go_sem]) ?_;refine ck (v:=.bool (ek S.l n).isSome) (w' :=g) (by simp[go_sem]) ?_;unfold fD at d;cases j:ek S.l n with
 |none=>
  rw[j]at d;refine ck (v:=.bool true) (by simp[go_sem]<;>first|exact⟨rfl,rfl⟩|exact rfl) ?_;rw[ci,if_pos rfl];refine mw Jm ?_;refine Ld r λE p=>?_;exact d _ (s.on p λx D=>.inr (by omega))
 |some k=>
  rw[j]at d;refine ck (v:=.bool false) (by simp[go_sem]<;>first|exact⟨rfl,rfl⟩|exact rfl) ?_;rw[ci,if_neg Bool.false_ne_true];obtain⟨C,m,z⟩:=ye h.srt j;obtain⟨⟨sl,h1,A,N,H⟩,J,O,I,L⟩:=B;obtain⟨b,l,rest,rfl,f,u,G,y⟩:=A.item C;simp only[dK,cr];refine ck (by simp[-Int.natCast_add,go_sem]<;>first|exact⟨rfl,rfl⟩|exact rfl) ?_;refine ck (v:=.slice (some ⟨b,0,none⟩) S.l.length l) (w' :=g) (by simp[go_sem,h1]) ?_;refine ck (f .i64) ?_;rw[m]at u;refine eK (dU k) 26 C4 zY (cX k) u ?_;refine Ld r λE p=>?_;exact d _ (s.on p λx D=>.inr (by omega))
def nZ{w:World}{K:cm}{c:Nat}{F:Nat->Prop}{S:AA}(h:nM w c F S)
  (J:∀z C g,nM g z C S->cl (λ_=>False) w g->(∀b,C b->w.heap.size<=b)->K (dK z) g):Ca Tryz.prog 108 #[dK c] w K:=by
 obtain⟨⟨sl,h1,u,X,V⟩,I,R,H,N⟩:=id h;obtain⟨sa,Y,d,-⟩:=u.isSl;apply OR;refine oS h ?_;refine ck (v:=.bool false) (by simp[go_sem]<;>first|exact⟨rfl,rfl⟩|exact rfl) ?_;rw[ci,if_neg Bool.false_ne_true];simp only[dK,cr];refine ck (v:=.agg #[.bool true,.int .u32 S.day,sl]) (w' :=w) (by simp[go_sem,h1,d]) ?_;obtain⟨q,j⟩:∃q,q=w.heap.size:=⟨_,rfl⟩
 have n:∃a,(Instr.alloc 197 true (.tuple #[])).run Tryz.prog w=.ok (.pointer (some ⟨q,0,none⟩)) a/\∃i,(Instr.storeAt 197 (.pointer (some ⟨q,0,none⟩)) (.agg #[.bool true,.int .u32 S.day,sl])).run Tryz.prog a=.ok () i/\
   hp i q=some (.cells #[.bool true,.int .u32 S.day,sl] 197 (0,0))/\cl (λ_=>False) w i/\w.heap.size<i.heap.size:=by
  obtain⟨a,f⟩:∃a,a=w.alloc (.cells #[.bool false,.int .u32 0,.slice none 0 0] 197):=⟨_,rfl⟩
  have O:cl (λ_=>False) w a:=by rw[f];exact(cl.refl _ w).alloc _
  have t:hp a q=some (.cells #[.bool false,.int .u32 0,.slice none 0 0] 197 (0,0)):=by rw[f,j];simp[go_sem]
  have M:a.heap.size=w.heap.size+1:=by rw[f,World.size_alloc]
  refine⟨a,by rw[f,j];simp[go_sem],((a.setCell ⟨q,0,none⟩ (.bool true)).setCell ⟨q,1,none⟩ (.int .u32 S.day)).setCell ⟨q,2,none⟩ sl,by rw[d];simp[go_sem,t],by rw[d];simp[go_sem,t],?_,by simp only[mh];omega⟩;exact O.on ((((cl.refl (λx=>x=q) a).setCell (.inl rfl) _ _).setCell (.inl rfl) _ _).setCell (.inl rfl) _ _) λx k=>.inr (by omega)
 obtain⟨a,T,i,L,P,p,Q⟩:=n;refine ck T ?_;refine dt L ?_;have k1:=p.hpk h1 id;refine ck (by simp[-Int.natCast_add,go_sem]<;>first|exact⟨rfl,rfl⟩|exact rfl) ?_;refine ck (v:=sl) (w' :=i) (by simp[go_sem,k1,d]) ?_;refine pP (l:=S.l) (u.mod p λ_ _ h=>h).rd (by omega) λm o E y A=>?_;have B:=y.hpk P id;refine ck (by simp[-Int.natCast_add,go_sem]<;>first|exact⟨rfl,rfl⟩|exact rfl) ?_;obtain⟨W,U,r,-⟩:=E.isSl;refine dt (w' :=o.setCell ⟨q,2,none⟩ m) (by rw[r];simp[go_sem,B]) ?_;have G:cl (λx=>x=q) o (o.setCell ⟨q,2,none⟩ m):=(cl.refl (λx=>x=q) o).setCell (.inl rfl) _ _;have D:¬cv m q:=λk=>by have:=A q k;omega
 refine J q (λb=>b=q\/cv m b) _ ⟨⟨m,by simp[go_sem,B],E.mod G λx k e=>D (e▸k),λb=>Iff.rfl,D⟩,I,R,H,N⟩ ((p.trans y).on G λx k=>.inr (by omega)) λb s=>?_;rcases s with rfl|s
 ·omega
 ·have:=A b s;omega
def Mv.ld{w:World}{s:Value}{l:List Ct}(h:Rd w 27 s l.length (l.flatMap dU)){x:Nat}(e:x<l.length):
  ∃p,(Instr.indexAt HL s (.int .i64 (x:Int))).run Tryz.prog w=.ok p w/\(dm ip p).run Tryz.prog w=.ok (.agg (dU l[x]).toArray) w:=by
 obtain⟨b,a,f,c,d,g⟩:=h.item cX e rfl;exact⟨.pointer (some ⟨b,a+x*27,none⟩),by rw[c];simp[go_sem,e,cE,vr],fw C4 zY (cX _) g⟩
def Kv{W:World}{k:Ct}{K:Value->World->Prop}(c:∀a,hp a W.heap.size=some (.cells (dU k).toArray ip (0,0))->cl (λ_=>False) W a->K (.pointer (some ⟨W.heap.size,0,none⟩)) a):
  rx Tryz.prog (ic ip) W λv b=>fV Tryz.prog (ej ip v (.agg (dU k).toArray)) b λa=>K v a:=by
 refine CX 26 RD zY (cX k) Sy (tC k) ?_;exact c _ (by simp[go_sem]) ((cl.refl _ W).alloc _)
def Jd{c b:Nat}{S:AA}{T:TypeId}:ud Tryz.prog (.func (.func 131) #[] #[.pointer (some ⟨b,0,none⟩)]) (S.l.map λk=>[.agg (dU k).toArray]) (λW=>hp W b=some (.cells #[dK c] T (0,0))/\∃F,nM W c F S):=by
 refine⟨⟨_,_,_,rfl,?_⟩⟩;rintro y J Js W K ⟨g,F,A⟩ N m d f z;show Ca Tryz.prog _ #[y,.pointer (some ⟨b,0,none⟩)] W K;apply N0;refine ck (v:=dK c) (w' :=W) (by simp[go_sem,g,dK]) ?_;refine oS A ?_;refine ck (v:=.bool false) (by simp[go_sem]<;>first|exact⟨rfl,rfl⟩|exact rfl) ?_;rw[ci,if_neg Bool.false_ne_true];obtain⟨⟨sl,C,D,Z,Y⟩,c5,c6⟩:=id A;refine ck (v:=dK c) (w' :=W) (by simp[go_sem,g,dK]) ?_;simp only[dK,cr];obtain⟨X,V,t,-⟩:=D.isSl;refine ck (by simp[-Int.natCast_add,go_sem,C]<;>first|exact⟨rfl,rfl⟩|exact rfl) ?_;refine ck (v:=sl) (w' :=W) (by simp[go_sem,C,t]) ?_;refine pP (l:=S.l) D.rd (by omega) λn H u M R=>?_;obtain⟨sa,sc,x,-⟩:=u.isSl;refine fI (v:=.int .i64 (S.l.length:Int)) (w' :=H) (by rw[x];simp[go_sem]) ?_;have w:J (cv n) 0 H:=N _ _ M λb g=>⟨R b g,u.lt g⟩
 refine dp (λst o=>∃i:Nat,i<=S.l.length/\st=(.int .i64 i,())/\J (cv n) i o/\Mv o n S.l)
  (λst _=>match st.1 with| .int _ i=>S.l.length - i.toNat|_=>0) ⟨0,by omega,rfl,w,u⟩ ?_
 rintro⟨_,_⟩ o ⟨i,hi,⟨⟩,E,B⟩ U r;unfold Hi;intro _;by_cases e:i<S.l.length
 ·have j:(i:Int)<(S.l.length:Int):=by omega
  refine ck (v:=.bool true) (by simp[go_sem,j]<;>first|exact⟨rfl,rfl⟩|exact rfl) ?_;rw[ci,if_pos rfl];obtain⟨p,O,Q⟩:=Mv.ld B.rd e;refine ck O ?_;refine fM Q ?_;refine Kv λL P I=>?_;refine eK (dU S.l[i]) 26 C4 zY (cX _) (At.all P) ?_;have q:=B.mod I λ_ _ h=>h;refine d (cv n) i [.agg (dU S.l[i]).toArray] L (by simp[e]) (m _ _ _ _ E I) _ (λG a s=>?_) λG a=>?_
  ·refine ck (v:=.bool false) (by simp[go_sem]<;>first|exact⟨rfl,rfl⟩|exact rfl) ?_;rw[ci,if_neg Bool.false_ne_true];refine ck (v:=.int .i64 ((i+1:Nat):Int)) (w' :=G) (by simp[go_sem];rw[cS (by omega) (by omega)]) ?_;exact r _ _ ⟨i+1,by omega,rfl,a,q.keep s⟩ (by show S.l.length - (((i+1:Nat):Int)).toNat<S.l.length - ((i:Int)).toNat;omega)
  ·refine ck (v:=.bool true) (by simp[go_sem]<;>first|exact⟨rfl,rfl⟩|exact rfl) ?_;rw[ci,if_pos rfl];exact z _ a
 ·obtain rfl:i=S.l.length:=by omega
  refine ck (v:=.bool false) (by simp[go_sem]<;>first|exact⟨rfl,rfl⟩|exact rfl) ?_;rw[ci,if_neg Bool.false_ne_true];exact f _ o (by simpa using E)
def BS{w:World}{K:cm}{c:Nat}{F:Nat->Prop}{S:AA}(h:nM w c F S)
  (e:∀gv a,jy gv (S.l.map λk=>[.agg (dU k).toArray]) a->cl (λ_=>False) w a->K gv a):Ca Tryz.prog 47 #[dK c] w K:=by
 apply QY;have m0:cl (λ_=>False) w (w.alloc (.cells #[dK c] 61)):=(cl.refl _ w).alloc _;refine ck (v:=.pointer (some ⟨w.heap.size,0,none⟩)) (w' :=w.alloc (.cells #[dK c] 61)) (by simp[go_sem,dK]) ?_;have d:hp (w.alloc (.cells #[dK c] 61)) w.heap.size=some (.cells #[dK c] 61 (0,0)):=by simp[go_sem]
 exact e _ _ ⟨⟨_,FJ (Jd (c:=c) (b:=w.heap.size) (S:=S) (T:=61)),λW m=>⟨m.hpk d id,F,h.mod (m0.trans m) λ_ _ h=>h⟩⟩,_,_,rfl⟩ m0
end Go.Proofs
set_option maxRecDepth 100000
namespace Go.Proofs
open Go Go.Vc
end Go.Proofs
namespace Go.Proofs
open Go Go.Vc
attribute [local congr] cq
end Go.Proofs
set_option maxRecDepth 100000
namespace Go.Proofs
open Go Go.Vc
end Go.Proofs
namespace Go.Proofs
open Go Go.Vc Go.Shelf
attribute [local congr] cq
section
variable{y1 y0 r0 u q r:Nat}
end
end Go.Proofs
namespace Go.Srt
open Go.Vc Go.Proofs
section
variable{α:Type}(lt:α->α->Bool)
end
end Go.Srt
namespace Go.Proofs
open Go Go.Vc Go.Srt
attribute [local congr] cq
section
variable{w0:World}{sl fv:Value}{cf:Int->Int->Int}{l0:List Int}
end
end Go.Proofs
namespace Go.Proofs
open Go Go.Vc Go.Srt
attribute [local congr] cq
section
variable{w0:World}{sl fv:Value}{cf:Int->Int->Int}{l0:List Int}
end
section
variable{w0:World}{sl fv:Value}{cf:Int->Int->Int}{l0:List Int}
end
section
variable{w0:World}{sl fv:Value}{cf:Od->Od->Int}{l0:List Od}
end
section
variable{w0:World}{sl fv:Value}{cf:Od->Od->Int}{l0:List Od}
end
section
variable{w0:World}{sl fv:Value}{cf:Od->Od->Int}{l0:List Od}
end
end Go.Proofs
namespace Go.Proofs
open Go Go.Vc
attribute [local congr] cq
section
variable{α:Type}{f:α->List Value}{S:Nat}
end
def ID(n:Int):Value:=.int .u64 n
def Pa:Tryz.prog.underlying 27=some (.int .u64):=by kernel_rfl
def OL:ml Tryz.prog 27 ID:=ml.int Pa
def Ko:Tryz.prog.underlying 232=some (.map 27 3):=by kernel_rfl
structure Fl where
 num:Int
 acct:Int
 qty:Int
end Go.Proofs
namespace Go.Proofs
open Go Go.Vc
structure Cm where
 kind:Int
 acct:Int
 ct:Int
 num:Int
 amt:Int
 spec:Sp
 on:Bool
 buy:Bool
 ty:Int
 price:Int
 qty:Int
 deriving DecidableEq
def Cm.Fit(c:Cm):Prop:=(0<=c.kind/\c.kind<256)/\iC c.acct/\iC c.ct/\I2 c.num/\fW c.amt/\c.spec.Fit/\(0<=c.ty/\c.ty<256)/\fW c.price/\fW c.qty
def jp:Cm:=⟨0,0,0,0,0,ke,false,false,0,0,0⟩
def lG(c:Cm):List Value:=[.int .u8 c.kind,.int .u32 c.acct,.int .u32 c.ct,.int .u64 c.num,.int .i64 c.amt]++(dl c.spec++[.bool c.on,.bool c.buy,.int .u8 c.ty,.int .i64 c.price,.int .i64 c.qty])
def Cm.bare(c:Cm):Cm:=
 let b:Cm:={jp with kind:=c.kind}
 if c.kind=1\/c.kind=2 then{b with acct:=c.acct,amt:=c.amt}
 else if c.kind=3 then{b with spec:=c.spec}
 else if c.kind=4 then{b with ct:=c.ct,on:=c.on}
 else if c.kind=5 then{c with num:=0,amt:=0,spec:=ke,on:=false}
 else if c.kind=6 then{b with acct:=c.acct,num:=c.num}
 else if c.kind=7 then{b with acct:=c.acct,num:=c.num,price:=c.price,qty:=c.qty}
 else if c.kind=8 then{b with acct:=c.acct,ct:=c.ct}
 else if c.kind=9 then{b with acct:=c.acct,ct:=c.ct,buy:=c.buy,price:=c.price,qty:=c.qty}
 else if c.kind=10 then{b with acct:=c.acct,on:=c.on}
 else if c.kind=11 then{b with ct:=c.ct,price:=c.price}
 else if c.kind=13 then{b with acct:=c.acct}
 else if c.kind=14 then{b with ct:=c.ct}
 else b
def Cm.may(c:Cm):Bool:=decide (1<=c.kind/\c.kind<=14)&& decide (c=c.bare)&& (decide (c.kind≠3)||c.spec.may)
structure Rp where
 err:Int
 num:Int
 filled:Int
 left:Int
 trades:List Td
 gone:List Int
 accts:List Int
 deriving DecidableEq
def Bs:Rp:=⟨0,0,0,0,[],[],[]⟩
def pu(e:Int):Rp:={Bs with err:=e}
structure dx where
 cal:AA
 led:dM
 bk:Int->Bk
 bd:Int->List Od
 next:Int
def dx.empty:dx:=⟨⟨0,[]⟩,⟨0,[],[]⟩,λ_=>Bk.empty,λ_=>[],1⟩
def fU{α:Type}(f:Int->α)(n:Int)(x:α):Int->α:=λm=>if m=n then x else f m
def dI{α:Type}(f:Int->α)(n:Int)(x:α):fU f n x n=x:=if_pos rfl
def eE{α:Type}(f:Int->α)(n:Int)(x:α){m:Int}(h:m≠n):fU f n x m=f m:=if_neg h
def dx.nums(S:dx):List Int:=S.cal.l.map (·.spec.num)
def jx:Int:=4611686018427387904
structure iN where
 day:Int
 next:Int
 fund:Int
 accts:List Ac
 cts:List Ct
 poss:List Po
 ords:List (Int×Od)
 bids:List (Int×Od)
def dx.state(S:dx):iN:=
 ⟨S.cal.day,S.next,S.led.fund,S.led.all,S.cal.l,S.nums.flatMap S.led.holders,S.nums.flatMap λn=>(S.bk n).all.map λo=>(n,o),S.nums.flatMap λn=>(S.bd n).map λo=>(n,o)⟩
end Go.Proofs
