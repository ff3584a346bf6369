/- Part of a proof. -/
import Derived.Test.YtekbnpagidkbbaaGreatQ10
set_option linter.all false
set_option maxRecDepth 100000
set_option maxHeartbeats 1000000
namespace Go.Proofs
open Go Go.Vc
attribute [local congr] aZ
variable {w:Wt_}
def To{gv:Vt_}{α:Type}{xs:List α}{XS:List (List Value)}{T TF:TypeId}{fv:α->Value}{fc:α->List Value}{u:List Nat->Option Code->World->Prop}{Q0:NP_}{yl n0 k:Nat}
  {J:(Nat->Prop)->Nat->World->Prop}{Js:(Nat->Prop)->World->Prop}
  (ht:oM gv (xs.map λa=>[fv a]) w)(hv:nQ T fv fc xs)
  (hld:∀a∈xs,∀(W:Wt_) q,hC W q (fc a).toArray T->(iL T (bO q 0)).run pQ W=.ok (fv a) W)
  (s:∀Q p i W e,J Q i W->aS Q W e->(∀b,p b->(Q b\/W.heap.size<=b)/\b<e.heap.size)->J p i e)
  (y:∀Q p W e,Js Q W->aS Q W e->(∀b,p b->(Q b\/W.heap.size<=b)/\b<e.heap.size)->Js p e)
  (P:∀Q i x W,XS[i]? =some x->J Q i W->∀K' :aY,(∀e,J Q (i+1) e->W.heap.size<=e.heap.size->(∀b,Q b->e.heap[b]? =W.heap[b]?)->K' (.bool true) e)->(∀e,Js Q e->W.heap.size<=e.heap.size->(∀b,Q b->e.heap[b]? =W.heap[b]?)->K' (.bool false) e)->mM pQ (.func (.yield yl) #[] #[]) x W K')
  (hxs:∀i (hi:i<xs.length),XS[k+i]? =some [fv xs[i]])
  (hy:hC w n0 #[.func (.yield yl) #[] #[]] TF)(hyl:∀W,hp W n0=some (.cells #[.func (.yield yl) #[] #[]] TF (0,0))->(iL TF (bO n0 0)).run pQ W=.ok (.func (.yield yl) #[] #[]) W)
  (hn0:Q0 n0)(hQ0:∀b,Q0 b->b<w.heap.size)(hJ0:J Q0 k w)
  (hend:∀Q W d,d=w.heap.size->J Q (k+xs.length) W->(∀b,Q0 b->Q b)->Q d->(∀b,Q b->b<W.heap.size)->(∀b,Q b->Q0 b\/w.heap.size<=b)->(∀b,Q0 b->W.heap[b]? =w.heap[b]?)->hp W d=some (.deferred (some []))->u [d] none W)
  (X:∀Q W d,d=w.heap.size->Js Q W->(∀b,Q0 b->Q b)->Q d->(∀b,Q b->b<W.heap.size)->(∀b,Q b->Q0 b\/w.heap.size<=b)->(∀b,Q0 b->W.heap[b]? =w.heap[b]?)->hp W d=some (.deferred (some []))->u [d] (some .ret) W):
  Et pQ none gv w 1 (λl x W KN KJ=>rv pQ (iA T true (.tuple #[])) W λv w1=>ru pQ (iS T v (x.getD 0 undef)) w1 λw2=>pP l w2 λw3=>
   rv pQ (iL TF (bO n0 0)) w3 λv41 w42=>rv pQ (iL T v) w42 λv43 w44=>mM pQ v41 [v43] w44 λv45 w46=>rv pQ (Op.unary .not v45) w46 λv47 w48=>qr v47 (KJ .ret w48) (KN w48)) u:=by
 obtain⟨⟨Ok,hit,hok⟩,-⟩:=ht;obtain⟨f,first,captured,rfl,hit0⟩:=hit.out;apply sV.2;show∀g:Loop,_;intro g n G hD hY;obtain⟨d,C⟩:=df w.heap.size;have O:(w.alloc (.deferred (some []))).heap.size=d+1:=by rw[cm,C]
 obtain⟨wr,F⟩:=df ((w.alloc (.deferred (some []))).alloc (.loop g));have N:wr.heap[d+1]? =some (.loop g):=by rw[F,ec,ae O.symm]
 have hszr:wr.heap.size=d+2:=by rw[F,cm,O]
 have V:hp wr d=some (.deferred (some [])):=by rw[F];simp[go_sem,C]
 have Z:M0 w wr:=by rw[F];exact kU.alloc _
 have m:∀(W:Wt_) (o:Obj),aS (λb=>b=d+1) W (W.putObj (d+1) o):=λW o=>(aS.refl (λb=>b=d+1) W).putObj (b:=d+1) (.inl rfl) o;rw[O]at hY|-;rw[<-F];let U:(Nat->Prop)->Nat->Prop:=λQ b=>Q0 b\/b=d\/b=d+1\/Q b;let S:(Nat->Prop)->World->Prop:=λQ W=>hp W d=some (.deferred (some []))/\(∀b,Q b->d+1<b/\b<W.heap.size)/\∀b,Q0 b->W.heap[b]? =w.heap[b]?
 have hS:∀(Q p H:NP_) (W e:Wt_),S Q W->d+2<=W.heap.size->aS H W e->(∀b,H b->Q b\/b=d+1)->(∀b,p b->(Q b\/W.heap.size<=b)/\b<e.heap.size)->S p e:=by
  rintro Q p H W e ⟨s1,s2,s3⟩ hl j hH A;refine⟨j.hpk s1 λc=>?_,λb c=>?_,λb c=>?_⟩
  ·rcases hH _ c with h|h
   ·have:=s2 _ h;omega
   ·omega
  ·have ha:=A b c;rcases ha.1 with h|h
   ·grind
   ·grind
  ·have hbl:=hQ0 b c;rw[j.blk b qZ λhx=>?_,s3 b c];rcases hH _ hx with h|h
   ·have:=s2 _ h;omega
   ·omega
 have L:∀(Q p:NP_) (W e:Wt_),d+2<=W.heap.size->W.heap.size<=e.heap.size->(∀b,p b->(Q b\/W.heap.size<=b)/\b<e.heap.size)->∀b,U p b->(U Q b\/W.heap.size<=b)/\b<e.heap.size:=by
  rintro Q p W e h1 I t b (h|h|h|h)
  ·grind
  ·grind
  ·grind
  ·grind
 have z:∀{H Q:NP_} {W e:Wt_},aS H W e->(∀b,H b->Q b\/b=d+1)->aS (U Q) W e:=λj hH=>j.mono λb _ c=>by
  rcases hH b c with h|h
  ·grind
  ·grind
 refine hit0 _ (λQ i W=>J (U Q) (k+i) W/\S Q W/\W.heap[d+1]? =some (.loop g))
  (λQ W=>∃r,Js (U Q) W/\S Q W/\W.heap[d+1]? =some (.loop r)/\r.state=.done/\r.pending=some .ret) _ _ (hok _ Z) ?_ ?_ ?_ ?_ ?_ ?_
 ·intro Q W1 j hQ;have hs1:=j.size;refine⟨s _ _ _ _ _ hJ0 ((Z.trans j).to) ?_,⟨j.hpk V id,λb c=>by grind,λb c=>?_⟩,j.keep N id⟩
  ·rintro b (h|h|h|h)
   ·grind
   ·grind
   ·grind
   ·grind
  ·exact(Z.trans j).blk b (hQ0 b c) id
 ·rintro Q p i W e ⟨h1,I,t⟩ j A;have hl:=ay t;exact⟨s _ _ _ _ _ h1 (z j λb c=>.inl c) (L Q p W e qZ j.size A),hS _ _ _ _ _ I qZ j (λb c=>.inl c) A,j.keep t λc=>by grind⟩
 ·rintro Q p W e ⟨r,h1,I,t,h4⟩ j A;have hl:=ay t;exact⟨r,y _ _ _ _ h1 (z j λb c=>.inl c) (L Q p W e qZ j.size A),hS _ _ _ _ _ I qZ j (λb c=>.inl c) A,j.keep t λc=>by grind,h4⟩
 ·rintro Q i x W hx ⟨h1,I,t⟩ K' hT hF;apply kE.2;show Yl pQ (d+1) ⟨_⟩ W K';have e1:(#[]:Array Value).toList++x=x:=rfl;rw[e1]
  obtain⟨hi,rfl⟩:∃hi:i<xs.length,x=[fv xs[i]]:=by
   rw[cz]at hx;cases hh:xs[i]? with
   |none=>rw[hh]at hx;cases hx
   |some o=>
    obtain⟨hj,he⟩:=aF.1 hh;rw[hh]at hx;exact⟨hj,by grind⟩
  apply hY _ W K' rfl ⟨g.state,g.pending,t⟩;obtain⟨w1,w2,v1,v2,v3,v4⟩:=hv xs[i] (av hi) W;obtain⟨q,hq0⟩:=df W.heap.size;rw[<-hq0]at v1 v2 v3;apply bh v1;show ru pQ (iS T (bO q 0) (fv xs[i])) w1 _;apply gg v2;have r2:w2.heap[d+1]? =some (.loop g):=v4.keep t id;apply qQ r2 n;have m3:=m w2 (.loop {g with state:=.busy});have r3:(w2.putObj (d+1) (.loop {g with state:=.busy})).heap[d+1]? =some (.loop {g with state:=.busy}):=by rw[dM,ae rfl,r2];rfl
  generalize w2.putObj (d+1) (.loop {g with state:=.busy})=w3 at m3 r3|-;have hdl:d+1<q:=by grind
  have q3:=m3.hpk v3 qZ;have hs3:=m3.size;have hs4:=v4.size;have M3:aS (λb=>b=d+1) W w3:=(v4.to).trans m3;have hQs:∀(e:Wt_),W.heap.size<=e.heap.size->∀b,Q b->(Q b\/W.heap.size<=b)/\b<e.heap.size:=λe hs b c=>⟨.inl c,by grind⟩
  have hJ3:=s _ _ _ _ _ h1 (z (Q:=Q) M3 λb c=>.inr c) (L Q Q W w3 qZ M3.size (hQs _ M3.size));have hS3:=hS _ _ _ _ _ I qZ M3 (λb c=>.inr c) (hQs _ M3.size);refine bh (hyl _ ?_) ?_
  ·have:=hS3.2.2 n0 hn0;unfold hp;rw[this];exact hy
  apply bh (hld xs[i] (av hi) _ _ q3)
  have K:∀(e:Wt_) (o:Obj),w3.heap.size<=e.heap.size->(∀b,U Q b->e.heap[b]? =w3.heap[b]?)->
    e.heap[d+1]? =some (.loop {g with state:=.busy})/\S Q (e.putObj (d+1) o)/\(∀b,Q b->(e.putObj (d+1) o).heap[b]? =W.heap[b]?)/\W.heap.size<=(e.putObj (d+1) o).heap.size:=by
   intro e o hs B;have Y:=m e o;have hsp:=Y.size;have hs' :S Q e:=⟨by unfold hp;rw[B d (.inr (.inl rfl))];exact hS3.1,λb c=>by grind,λb c=>by grind⟩
   refine⟨by grind,hS _ _ _ _ _ hs' qZ Y (λb c=>.inr c) λb c=>⟨.inl c,by grind⟩,λb c=>?_,qZ⟩;have ha:=I.2.1 b c;rw[Y.blk b qZ qZ,B b (.inr (.inr (.inr c))),M3.blk b ha.2 qZ]
  refine P _ _ _ _ (hxs i hi) hJ3 _ (λe R hs B=>?_) λe R hs B=>?_
  ·refine eK ?_;obtain⟨k1,k2,k3,k4⟩:=K e (.loop {{g with state:=.busy}with state:=.ready,pending:=none}) hs B;refine⟨_,k1,hT _ ⟨?_,k2,?_⟩ k4 k3⟩
   ·exact s _ _ _ _ _ R (z (Q:=Q) (m e _) λb c=>.inr c) (L Q Q e _ qZ (m e _).size λb c=>⟨.inl c,(k2.2.1 b c).2⟩)
   ·rw[dM,ae rfl,k1];simp[<-n,<-G]
  ·refine jZ ?_;obtain⟨k1,k2,k3,k4⟩:=K e (.loop {{g with state:=.busy}with state:=.done,pending:=some .ret}) hs B;refine⟨_,k1,hF _ ⟨{g with state:=.done,pending:=some .ret},?_,k2,?_,rfl,rfl⟩ k4 k3⟩
   ·exact y _ _ _ _ R (z (Q:=Q) (m e _) λb c=>.inr c) (L Q Q e _ qZ (m e _).size λb c=>⟨.inl c,(k2.2.1 b c).2⟩)
   ·rw[dM,ae rfl,k1];rfl
 ·rintro Q W ⟨h1,I,t⟩;refine⟨g,t,by rw[n];decide,?_⟩;rw[<-C];have hl:=ay t;have j:=m W (.loop {g with state:=.exhausted});generalize W.putObj (d+1) (.loop {g with state:=.exhausted})=M at j|-;have hs8:=j.size;rw[G];have D:∀b,Q b->(Q b\/W.heap.size<=b)/\b<M.heap.size:=λb c=>⟨.inl c,by grind⟩
  have E:=hS _ _ _ _ _ I qZ j (λb c=>.inr c) D;have h1' :J (U Q) (k+xs.length) W:=by grind
  refine hend (U Q) M d C (s _ _ _ _ _ h1' (z (Q:=Q) j λb c=>.inr c) (L Q Q W M qZ j.size D)) (λb c=>.inl c) (.inr (.inl rfl)) (λb c=>?_) (λb c=>?_) E.2.2 E.1
  ·grind
  ·rcases c with h|h|h|h
   ·exact .inl h
   ·exact fM
   ·exact fM
   ·exact .inr (by grind)
 ·rintro Q W ⟨r,h1,I,t,h4,h5⟩;refine⟨r,t,by rw[h4];decide,?_⟩;rw[<-C];have hl:=ay t;have j:=m W (.loop {r with state:=.exhausted});generalize W.putObj (d+1) (.loop {r with state:=.exhausted})=M at j|-;have hs8:=j.size;rw[h5];have D:∀b,Q b->(Q b\/W.heap.size<=b)/\b<M.heap.size:=λb c=>⟨.inl c,by grind⟩
  have E:=hS _ _ _ _ _ I qZ j (λb c=>.inr c) D;refine X (U Q) M d C (y _ _ _ _ h1 (z (Q:=Q) j λb c=>.inr c) (L Q Q W M qZ j.size D)) (λb c=>.inl c) (.inr (.inl rfl)) (λb c=>?_) (λb c=>?_) E.2.2 E.1
  ·exact(L Q Q W M qZ j.size D b c).2
  ·rcases c with h|h|h|h
   ·exact .inl h
   ·exact fM
   ·exact fM
   ·grind
def gT.keep{F:NP_}{w' :Wt_}{s:Nat}{buy:Bool}{l:List Od}(h:gT w s F buy l)(c:∀b,F b->w'.heap[b]? =w.heap[b]?):gT w' s F buy l:=by
 obtain⟨⟨sl,h1,e,a,f⟩,g,d⟩:=h;exact⟨⟨sl,(c s ((a s).2 (.inl rfl))).trans h1,e.keep λb i=>c b ((a b).2 (.inr i)),a,f⟩,g,d⟩
def YD:∀a:Od,∀(W:Wt_) q,hC W q (dx a).toArray ji->(iL ji (bO q 0)).run pQ W=.ok (jQ a) W:=λa W q h=>kX (o:=a) (At.all h)
def Sf{b vb:Nat}{B:Bk}{T:TypeId}:QH pQ (.func (.func 164) #[] #[.pointer (some ⟨vb,0,none⟩)]) ((B true++B false).map λo=>[jQ o]) (λW=>hC W vb #[fa b] T/\∃F,fU W b F B):=by
 refine⟨⟨_,_,_,rfl,?_⟩⟩;rintro w J Js W K ⟨R,F,hq⟩ h0 m l u H hex;show Ca pQ _ #[.func (.yield w) #[] #[],.pointer (some ⟨vb,0,none⟩)] W K;refine cN Tryz.func164 ?_;obtain⟨z,E⟩:=df W.heap.size;have U:M0 W (W.alloc (.cells #[.func (.yield w) #[] #[]] 256)):=kU;have Y:hC (W.alloc (.cells #[.func (.yield w) #[] #[]] 256)) z #[.func (.yield w) #[] #[]] 256:=by rw[E];simp[go_sem]
 apply ax (bO z 0) (W.alloc (.cells #[.func (.yield w) #[] #[]] 256)) (by rw[E];rfl);generalize W.alloc (.cells #[.func (.yield w) #[] #[]] 256)=w1 at U Y|-;have O:=U.hpk R id;have L:=hq.mod U dS;apply ax (fa b) w1 (by simp[go_sem,O,fa]);apply pG L;refine eK ?_;apply ax (fa b) w1 (by simp[go_sem,O,fa]);refine C1 L λb' F' w2 q2 m2 n2=>?_;obtain⟨s,G,hr,Z⟩:=q2.r;have md:M0 w2 w2.drew:=sK;have r:=hr.mod md id λ_ _ _ h=>h;have c0:=r.blk;simp only[fa,cj];refine rD ?_;refine xj c0 ?_;refine rD ?_;refine xj c0 ?_;refine nK [dg (s true),dg (s false)] psU (dp psE) rfl rfl (by intro v hv;simp only[ar,fH,ml]at hv;rcases hv with rfl|rfl<;>rfl) qZ ?_;have e0:(([dg (s true),dg (s false)]:LV_).flatMap (·.cells.toList)).toArray= #[dg (s true),dg (s false)]:=rfl;rw[e0];have M2:=(U.trans m2).trans md;have h1:=m2.hpk Y id;have h1:=md.hpk h1 id;generalize w2.drew=C at md r c0 M2 h1|-;obtain⟨q,D⟩:=df C.heap.size;have A:M0 C (C.alloc (.cells #[dg (s true),dg (s false)] 239)):=kU;have b4:hC (C.alloc (.cells #[dg (s true),dg (s false)] 239)) q #[dg (s true),dg (s false)] 239:=by rw[D];simp[go_sem]
 rw[<-D];generalize C.alloc (.cells #[dg (s true),dg (s false)] 239)=w4 at A b4|-;have r4:=r.mod A id λ_ _ _ h=>h;have n4:=A.hpk h1 id;have M4:=M2.trans A;refine XD ?_;have hs2:=m2.size;have hsd:=md.size;have hs4:=A.size;have hn0l:=ay Y;have hql:=ay b4;have n:∀d x,G d x->W.heap.size<=x/\x<w4.heap.size:=λd x c=>⟨by have:=n2 x ((Z x).2 (.inr (by cases d;exact .inr c;exact .inl c)));omega,r4.lt c⟩
 let g:Nat->Nat:=λi=>if i=0 then 0 else if i=1 then(B true).length else(B true++B false).length
 let St:(Nat->Prop)->List Nat->World->Prop:=λQ ds f=>hC f z #[.func (.yield w) #[] #[]] 256/\hC f q #[dg (s true),dg (s false)] 239/\(∀d,gT f (s d) (G d) d (B d))/\
  (∀d∈ds,hp f d=some (.deferred (some []))/\Q d)/\ds.Nodup/\(∀b,Q b->b<f.heap.size)/\Q z/\Q q/\∀d x,G d x->Q x
 have hJ4:J (λx=>x=z\/x=q\/G true x\/G false x) 0 w4:=h0 _ _ M4 λx c=>by
  rcases c with rfl|rfl|h|h
  ·omega
  ·omega
  ·exact n _ _ h
  ·exact n _ _ h
 refine d8 (λst f=>∃(i:Nat) (Q:NP_) (ds:List Nat),i<=2/\st=((gI i,()),ds)/\J Q (g i) f/\St Q ds f)
  (λst _=>match st.1.1 with| .int _ i=>2 - i.toNat|_=>0) ⟨0,_,[],qZ,rfl,hJ4,n4,b4,r4.sd,λd r=>absurd r fH,iP,λx c=>?_,.inl rfl,.inr (.inl rfl),λd x c=>by cases d;exact .inr (.inr (.inr c));exact .inr (.inr (.inl c))⟩ ?_
 ·rcases c with rfl|rfl|h|h
  ·omega
  ·omega
  ·exact(n _ _ h).2
  ·exact(n _ _ h).2
 rintro⟨_,ds⟩ W5 ⟨i,Q,ds0,hi,⟨⟩,hJ,k1,k2,k3,k4,k5,k6,k7,k8,k9⟩ KN hKN;refine lE ?_;intro _;by_cases X:i<2
 ·have M:(i:Int)<2:=qZ;refine dB M ?_
  obtain⟨d,r⟩:∃d:Bool,(i=0/\d=true)\/(i=1/\d=false):=by
   by_cases h0:i=0
   ·exact⟨true,.inl ⟨h0,rfl⟩⟩
   ·exact⟨false,.inr ⟨qZ,rfl⟩⟩
  have N:¬(2:Int)<=(i:Int):=qZ;apply ax (bO q i) W5 (by simp[go_sem,X,N,bD]);apply ax (dg (s d)) W5 (by rcases r with⟨rfl,rfl⟩|⟨rfl,rfl⟩<;>simp[go_sem,k2]);refine JI (k3 d) λgv w6 ht p=>?_;have hs6:=p.size;have V:=m _ Q _ _ _ hJ (p.to) λb R=>⟨.inl R,by grind⟩
  have hoff:g i+(B d).length=g (i+1):=by grind
  refine Uu ?_;refine To (XS:=(B true++B false).map λo=>[jQ o]) (T:=ji) (fc:=dx) (Q0:=Q) (k:=g i) ht.m nQ.od (λa _=>YD a) m l u ?_ (p.hpk k1 id) ?_ k7 (λb R=>by grind) V ?_ ?_
  ·intro j hj;rcases r with⟨rfl,rfl⟩|⟨rfl,rfl⟩
   ·grind
   ·grind
  ·intro f h;simp[go_sem,h]
  ·intro Q' f dd hdd I y a2 a3 a4 S a6;have t:∀x o,Q x->hp w6 x=some o->hp f x=some o:=λx o c h=>by unfold hp;rw[S x c];exact h
   have hSd:∀d,gT f (s d) (G d) d (B d):=λe=>(((k3 e).mod p dS)).keep λx c=>S x (k9 e x c);refine Nn ?_;simp only[jx];apply ax (gI ((i+1:Nat):Int)) f (by simp[go_sem];rw[lL]);refine hKN _ _ ⟨i+1,Q',[dd]++ds,qZ,rfl,by grind,t _ _ k7 (p.hpk k1 id),t _ _ k8 (p.hpk k2 id),hSd,λx c=>?_,?_,a3,y _ k7,y _ k8,λe x c=>y _ (k9 e x c)⟩ (by grind)
   ·rcases ar.1 c with rfl|c
    ·exact⟨a6,a2⟩
    ·exact⟨t _ _ (k4 x c).2 (p.hpk (k4 x c).1 id),y _ (k4 x c).2⟩
   ·grind
  ·intro Q' f dd hdd I y a2 a3 a4 S a6;refine Nn ?_;simp only[jx];refine SX (ds:=[dd]++ds) ?_ ?_ λW8 P=>?_
   ·grind
   ·intro x c;rcases ar.1 c with rfl|c
    ·exact a6
    ·unfold hp;rw[S x (k4 x c).2];exact p.hpk (k4 x c).1 id
   ·refine hex _ _ (l _ Q' _ _ I (P.mono λx _ c=>?_) λx c=>⟨.inl c,by have:=a3 x c;have:=P.size;omega⟩);rcases ar.1 c with rfl|c
    ·exact a2
    ·exact y _ (k4 x c).2
 ·obtain rfl:i=2:=qZ;refine eK ?_;refine SX (ds:=ds) k5 (λx c=>(k4 x c).1) λW8 P=>?_;apply H Q _;have e:g 2=((B true++B false).map λo=>[jQ o]).length:=by simp[g]
  rw[<-e];exact m _ Q _ _ _ hJ (P.mono λx _ c=>(k4 x c).2) λx c=>⟨.inl c,by have:=k6 x c;have:=P.size;omega⟩
def zt{K:aY}{b:Nat}{F:NP_}{B:Bk}(h:fU w b F B)
  (f:∀d a,oM d ((B true++B false).map λo=>[jQ o]) a->M0 w a->K d a):Ca pQ 61 #[fa b] w K:=by
 unfold fa;refine cN Tryz.func61 ?_;have c:M0 w (w.alloc (.cells #[fa b] 121)):=kU;apply ax (bO w.heap.size 0) (w.alloc (.cells #[fa b] 121)) (by simp[go_sem,fa]);have e:hC (w.alloc (.cells #[fa b] 121)) w.heap.size #[fa b] 121:=by simp[go_sem]
 exact f _ _ ⟨⟨_,Sf (b:=b) (vb:=w.heap.size) (B:=B) (T:=121),λW m=>⟨m.hpk e id,F,h.mod (c.trans m) dS⟩⟩,_,_,rfl⟩ c
end Go.Proofs
set_option maxRecDepth 100000
set_option maxHeartbeats 1000000
namespace Go.Proofs
open Go Go.Vc
attribute [local congr] aZ
variable {B:Bk}{n:Int}{F:NP_}{b:Nat}{w:Wt_}{K:aY}
def fU.slt(h:fU w b F B):b<w.heap.size:=h.lt h.self
def fU.nn(h:fU w b F B):∀d,(B d).length<=100/\∀o∈B d,o.may=true/\o.buy=d/\o.Fit:=by
 obtain⟨s,G,a,c⟩:=h.r;exact λd=>⟨(a.sd d).len,(a.sd d).may⟩
def wh(h:fU w b F B)
  (f:∀d c,fU c b d (fh B n).2.1->aS F w c->(∀x,d x->F x\/w.heap.size<=x)->
   K (.tuple #[jQ (fh B n).2.2,gI (fh B n).1]) c):Ca pQ 212 #[fa b,gQ n] w K:=by
 obtain⟨s,G,i,g⟩:=h.r;refine E0 i λl c e j k=>f _ _ e.q (j.mono λx _ a=>(g x).2 (.inr a)) λx a=>?_;rcases a with a|a|a
 ·grind
 ·grind
 ·grind
def x7{o:Od}{k:Int}(h:fU w b F B)(j:o.Fit)(m:0<=k/\k<256)
  (n:∀i e f d,fU d b i (cV B o k).2.1->OK d e f (cV B o k).2.2.trades (cV B o k).2.2.gone->aS F w d->(∀x,i x->F x\/w.heap.size<=x)->
   (∀x,aK e x\/aK f x->w.heap.size<=x/\¬i x)->K (.tuple #[.agg (rB e f (cV B o k).2.2.filled (cV B o k).2.2.left),gI (cV B o k).1]) d):Ca pQ 155 #[fa b,jQ o,gB k] w K:=by
 obtain⟨s,G,q,p⟩:=h.r;have y:=h.slt;refine P4 q j m λv e f d l t r u g=>n _ e f _ l.q t (r.mono λx _ a=>(p x).2 (.inr a)) (λx a=>?_) λx a=>⟨(g x a).1,λc=>?_⟩
 ·rcases a with a|a|a
  ·grind
  ·grind
  ·grind
 ·rcases c with c|c|c
  ·grind
  ·exact(g x a).2 _ c
  ·exact(g x a).2 _ c
def Gp{price left:Int}(h:fU w b F B)(i:eP price)(f:eP left)
  (m:∀k e g d,fU d b k (cC B n price left).2.1->OK d e g (cC B n price left).2.2.trades (cC B n price left).2.2.gone->aS F w d->(∀x,k x->F x\/w.heap.size<=x)->
   (∀x,aK e x\/aK g x->w.heap.size<=x/\¬k x)->K (.tuple #[.agg (rB e g (cC B n price left).2.2.filled (cC B n price left).2.2.left),gI (cC B n price left).1]) d):Ca pQ 217 #[fa b,gQ n,gI price,gI left] w K:=by
 obtain⟨s,G,p,o⟩:=h.r;have v:=h.slt;refine Iu p i f λu e g d l r q t j=>m _ e g _ l.q r (q.mono λx _ a=>(o x).2 (.inr a)) (λx a=>?_) λx a=>⟨(j x a).1,λc=>?_⟩
 ·rcases a with a|a|a
  ·grind
  ·grind
  ·grind
 ·rcases c with c|c|c
  ·grind
  ·exact(j x a).2 _ c
  ·exact(j x a).2 _ c
def LK(h:fU w b F B)
  (d:∀a,M0 w a->K (.tuple #[jQ (match B.find n with|none=>nZ|some (o,_)=>o),gI (match B.find n with|none=>7|some _=>0)]) a):Ca pQ 268 #[fa b,gQ n] w K:=by
 obtain⟨s,G,c,e⟩:=h.r;exact NY c d
def Bk.all(B:Bk):List Od:=B true++B false
def fU.all(h:fU w b F B):B.all.length<=200/\∀o∈B.all,o.may=true/\o.Fit:=by
 have:=h.nn;refine⟨by unfold Bk.all;rw[ag];have h1:=(this true).1;have c:=(this false).1;omega,λo a=>?_⟩;rcases bm.1 a with a|a
 ·grind
 ·grind
def ly(a:Int)(o:Od):Bool:=decide (a=0)||decide (o.acct=a)
def tR(a:Int)(B:Bk)(l:List Od):Bk:=l.foldl (λB o=>if ly a o then(fh B o.num).2.1 else B) B
def iK(B:Bk)(a:Int):Bk×List Od:=(tR a B B.all,B.all.filter (ly a))
def Bl(a:Int)(B:Bk)(l:List Od)(o:Od):tR a B (l++[o])=if ly a o then(fh (tR a B l) o.num).2.1 else tR a B l:=by
 unfold tR;rw[iD];rfl
def cq{α:Type}{l:List α}{i:Nat}(hi:i<l.length):l.take (i+1)=l.take i++[l[i]]:=by
 rw[fP,aq hi];rfl
def Sn{a:Int}(h:fU w b F B)
  (hK:∀m sl w',fU w' b m (iK B a).1->qp w' sl (iK B a).2->aS F w w' ->(∀x,m x->F x\/w.heap.size<=x)->(∀x,aK sl x->w.heap.size<=x/\¬m x)->K sl w'):Ca pQ 210 #[fa b,gU a] w K:=by
 unfold fa;refine cN Tryz.func210 ?_;obtain⟨g,r⟩:=df w.heap.size
 have hlay:∃u,((w.alloc (.cells #[fa b] 121)).alloc (.cells #[.int .u32 a] 45) |>.alloc (.cells #[dQ] 146))=u/\u.heap.size=g+3/\M0 w u/\
   hC u g #[fa b] 121/\hC u (g+1) #[.int .u32 a] 45/\hC u (g+2) #[dQ] 146:=by
  refine⟨_,rfl,by simp[go_sem,r],(kU.alloc _).alloc _,?_,?_,?_⟩<;>simp[go_sem,r]
 obtain⟨u,hw3,hsz3,m3,b0,b1,b2⟩:=hlay;apply ax (bO g 0) (w.alloc (.cells #[fa b] 121)) (by simp[go_sem,fa,r]);refine tX (bO (g+1) 0) r ?_;apply ax (bO (g+2) 0) u (by rw[<-hw3];simp[go_sem,r,dQ]);clear hw3;apply ax (fa b) u (by simp[go_sem,b0,fa]);refine zt (h.mod m3 dS) λgv w5 ht V=>?_;have M5:=m3.trans V;have q5:=h.mod M5 dS;have hs5:=V.size;have y:∀x,F x->x<g:=λx c=>by rw[r];exact h.lt c
 have hal:=h.all
 let I:(Nat->Prop)->Nat->World->Prop:=λX i W=>∃m sl,fU W b m (tR a B (B.all.take i))/\qp W sl ((B.all.take i).filter (ly a))/\hC W g #[fa b] 121/\hC W (g+1) #[.int .u32 a] 45/\
  hC W (g+2) #[sl] 146/\(∀x,X x↔(g<=x/\x<g+3)\/m x\/aK sl x)/\(∀x,aK sl x->g+3<=x/\¬m x)/\∀x,m x->F x\/g+3<=x
 refine Uu ?_;refine Dh (X0:=λx=>(g<=x/\x<g+3)\/F x) (T:=ji) (fc:=dx) ht nQ.od I (λ_ _ _=>False) ?_ (λ_ _ _ _ _ h=>h.elim) (λx c=>?_) ⟨F,dQ,q5,gD.nil _ _ _,V.hpk b0 id,V.hpk b1 id,V.hpk b2 id,λx=>?_,λx c=>(by cases c),λx c=>.inl c⟩ ?_ ?_ (λ_ _ _ _ _ h=>h.elim)
 ·rintro X i W R H ⟨m,sl,M,D,Q,J,C,k,v,A⟩ Z z;exact⟨m,sl,M.mod Z λx c=>z x ((k x).2 (.inr (.inl c))),D.mod Z λx c=>z x ((k x).2 (.inr (.inr c))),Z.hpk Q (z _ ((k _).2 (.inl qZ))),Z.hpk J (z _ ((k _).2 (.inl qZ))),Z.hpk C (z _ ((k _).2 (.inl qZ))),k,v,A⟩
 ·rcases c with c|c
  ·omega
  ·have:=y x c;omega
 ·constructor
  ·rintro(c|c)
   ·exact .inl c
   ·exact .inr (.inl c)
  ·rintro(c|c|c)
   ·exact .inl c
   ·exact .inr c
   ·cases c
 ·rintro X i hi W q ⟨m,sl,M,D,Q,J,C,k,v,A⟩ mW z hdq hqW zgq KN KJ Y hKJ;have p:=zgq;unfold dx at p;obtain⟨o,ho⟩:=df (B.all[i]);have hoo:((B true++B false)[i]'hi)=o:=ho.symm;rw[hoo]at zgq p;have N:=cq (l:=B.all) hi;have S:B.all[i]'hi=o:=ho.symm;rw[S]at N;have hnq:∀x,X x->x≠q:=λx c=>by grind
  refine cG.at (λst R=>st=(.bool (ly a o),())/\R=W) ?_ ?_
  ·apply bh (by simp[-Int.natCast_add,go_sem,J]<;>first|exact tF|exact rfl);by_cases ha:a=0
   ·refine dE ha ?_;rw[jV];exact⟨by simp[ly,ha],rfl⟩
   ·refine tX (.bool false) ha ?_;rw[ij];refine dE p ?_;apply bh (by simp[-Int.natCast_add,go_sem,p]<;>first|exact tF|exact rfl);apply bh (by simp[-Int.natCast_add,go_sem,J]<;>first|exact tF|exact rfl);apply ax (.bool (decide (o.acct=a))) W (by simp[go_sem];rfl);exact⟨by simp[ly,ha],rfl⟩
  rintro _ R ⟨rfl,rfl⟩;refine jG ?_;intro _;cases hof:ly a o with
  |false=>
   rw[ij];refine Y X R ⟨m,sl,?_,?_,Q,J,C,k,v,A⟩ oU λx c=>⟨.inl c,by grind⟩
   ·rw[N,Bl,aa (by simp[hof])];exact M
   ·grind
  |true=>
   rw[jV];apply ax (fa b) R (by simp[go_sem,Q,fa]);refine dE p ?_;refine dE p ?_;refine wh M λF2 w6 q6 L n6=>?_;have m6X:aS X R w6:=L.mono λx _ c=>(k x).2 (.inr (.inl c));have G:∀x,m x->X x:=λx c=>(k x).2 (.inr (.inl c))
   have n:∀x,m x->x≠q/\¬(g<=x/\x<g+3):=λx c=>⟨hnq x (G x c),λhc=>by
    rcases A x c with j|j
    ·have:=y x j;omega
    ·omega⟩
   have g5:=L.hpk C λc=>(n _ c).2 qZ;have g3:=L.hpk Q λc=>(n _ c).2 qZ;have g4:=L.hpk J λc=>(n _ c).2 qZ;have gq6:=L.hpk zgq λc=>(n _ c).1 rfl;have o6:=D.mod L λx c=>(v x c).2;obtain⟨sa,sc,t,-⟩:=D.isSl;refine Me sl g5 t ?_;apply bh (kX (o:=o) (At.all gq6));have hs6:=L.size;have hfl:((B.all.take i).filter (ly a)).length<=200:=ci (bi _ _) (by grind);refine uZ (x:=o) (f:=dx) gX (dp Ln) dP lQ rfl o6 qZ qZ λE O o7 P n7=>?_;obtain⟨sa',sc',U,-⟩:=o7.isSl;have hs7:=P.size;have hslq:∀x,aK sl x->x≠q/\g+3<=x/\x<w6.heap.size:=λx c=>⟨hnq x ((k x).2 (.inr (.inr c))),(v x c).1,o6.lt c⟩
   have g5' :=P.hpk g5 λc=>by grind
   have g3' :=P.hpk g3 λc=>by grind
   have g4' :=P.hpk g4 λc=>by grind
   have s:aS (λx=>x=g+2) O (O.setCell ⟨g+2,0,none⟩ E):=(aS.refl (λx=>x=g+2) O).sc;apply pl (O.setCell ⟨g+2,0,none⟩ E) (by rw[U];simp[go_sem,g5']);have g5v:hC (O.setCell ⟨g+2,0,none⟩ E) (g+2) #[E] 146:=by simp[go_sem,g5']
   generalize O.setCell ⟨g+2,0,none⟩ E=w8 at s g5v|-;have hs8:=s.size;have q8:=(q6.mod P λx c hs=>?_).mod s λx c he=>?_
   ·have o8:qp w8 E (List.filter (ly a) (List.take i B.all)++[o]):=o7.mod s λx c he=>by
     rcases n7 x c with j|j
     ·grind
     ·grind
    have hF2:∀x,F2 x->F x\/g+3<=x:=λx c=>by
     rcases n6 x c with j|j
     ·exact A x j
     ·grind
    refine Y (λx=>(g<=x/\x<g+3)\/F2 x\/aK E x) w8 ⟨F2,E,?_,?_,s.hpk g3' qZ,s.hpk g4' qZ,g5v,λx=>aG,λx c=>?_,hF2⟩ ?_ λx c=>?_
    ·rw[N,Bl,ae hof];exact q8
    ·grind
    ·rcases n7 x c with j|j
     ·refine⟨(hslq x j).2.1,λhf=>?_⟩;rcases n6 x hf with h2|h2
      ·exact(v x j).2 h2
      ·grind
     ·refine⟨by grind,λhf=>?_⟩;have:=q6.lt hf;omega
    ·refine(m6X.on P λx c=>.inl ((k x).2 (.inr (.inr c)))).on s λx c=>.inl ((k x).2 (.inl qZ))
    ·rcases c with c|c|c
     ·grind
     ·exact⟨(n6 x c).imp (G x) id,by have:=q6.lt c;omega⟩
     ·refine⟨?_,by have:=o8.lt c;omega⟩;rcases n7 x c with j|j
      ·grind
      ·exact fM
   ·rcases n6 x c with j|j
    ·exact(v x hs).2 j
    ·grind
   ·rcases n6 x c with j|j
    ·grind
    ·grind
 ·rintro X W d hd ⟨m,sl,M,D,Q,J,C,k,v,A⟩ mW hdef z;obtain⟨sa,sc,t,-⟩:=D.isSl;have e:B.all.take (B true++B false).length=B.all:=aV;rw[e]at M D;refine Nn ?_;simp only[jx];refine mK C t ?_;have s:aS (λx=>x=g+2) W (W.setCell ⟨g+2,0,none⟩ sl):=(aS.refl (λx=>x=g+2) W).sc;apply pl (W.setCell ⟨g+2,0,none⟩ sl) (by rw[t];simp[go_sem,C]);have g5:hC (W.setCell ⟨g+2,0,none⟩ sl) (g+2) #[sl] 146:=by simp[go_sem,C]
  generalize W.setCell ⟨g+2,0,none⟩ sl=W2 at s g5|-;refine yH (s.hpk hdef qZ) λW3 mr=>?_;have hd3:d=w5.heap.size:=hd;apply qy sl (by have:=mr.hpk g5 qZ;simp[go_sem,this,t])
  have hXd:∀x,X x->x≠d:=λx c=>by
   rcases(z x c).2 with(j|j)|j
   ·omega
   ·have:=y x j;omega
   ·omega
  refine hK m sl W3 ((M.mod s λx c he=>?_).mod mr λx c=>hXd x ((k x).2 (.inr (.inl c)))) ((D.mod s λx c he=>by grind).mod mr λx c=>hXd x ((k x).2 (.inr (.inr c)))) ?_ (λx c=>(A x c).imp id λ_=>qZ) λx c=>⟨by grind,(v x c).2⟩
  ·rcases A x c with j|j
   ·have:=y x j;omega
   ·omega
  ·refine(((M5.to).on mW λx c=>?_).on s λx c=>fM).on mr λx c=>fM;rcases c with c|c
   ·exact fM
   ·exact .inl c
end Go.Proofs
set_option maxRecDepth 100000
set_option maxHeartbeats 1000000
namespace Go.Proofs
open Go Go.Vc
attribute [local congr] aZ
def rV(l:List Od)(a:Int)(buy:Bool):Int:=((l.filter λo=>decide (o.acct=a)&& (o.buy==buy)).map (·.left)).sum
def qi(l:List Od)(o:Od)(a:Int)(buy:Bool):rV (l++[o]) a buy=rV l a buy+(if o.acct=a/\o.buy=buy then o.left else 0):=by
 unfold rV;rw[cw,aM,fN];congr 1;by_cases h:o.acct=a/\o.buy=buy
 ·grind
 ·grind
def rR{l:List Od}{a:Int}{buy:Bool}(h:∀o∈l,1<=o.left/\o.left<=1000000):0<=rV l a buy/\rV l a buy<=l.length*1000000:=by
 have h1:=rK (l:=(l.filter λo=>decide (o.acct=a)&& (o.buy==buy)).map (·.left)) (B:=1000000) λx c=>by
  obtain⟨o,b,rfl⟩:=aL.1 c;have:=h o (aT.1 b).1;omega
 rw[ah]at h1;have d:=bi (λo:Od=>decide (o.acct=a)&& (o.buy==buy)) l;unfold rV;omega
def uc(B:Bk)(a:Int):Int×Int:=(rV B.all a true,rV B.all a false)
def L9{w:Wt_}{K:aY}{b:Nat}{F:NP_}{B:Bk}{a:Int}(h:fU w b F B)
  (hK:∀w',M0 w w' ->K (.tuple #[.int .i64 (uc B a).1,gI (uc B a).2]) w'):Ca pQ 311 #[fa b,gU a] w K:=by
 unfold fa;refine cN Tryz.func311 ?_;obtain⟨c,k⟩:=df w.heap.size
 have M:∃s,((w.alloc (.cells #[.int .u32 a] 45)).alloc (.cells #[.int .i64 0] 2) |>.alloc (.cells #[.int .i64 0] 2))=s/\s.heap.size=c+3/\M0 w s/\
   hC s c #[.int .u32 a] 45/\hC s (c+1) #[.int .i64 0] 2/\hC s (c+2) #[.int .i64 0] 2:=by
  refine⟨_,rfl,by simp[go_sem,k],(kU.alloc _).alloc _,?_,?_,?_⟩<;>simp[go_sem,k]
 obtain⟨s,J,hsz3,m3,b0,b1,b2⟩:=M;refine tX (bO c 0) k ?_;apply ax (bO (c+1) 0) ((w.alloc (.cells #[.int .u32 a] 45)).alloc (.cells #[.int .i64 0] 2)) (by simp[go_sem,k]);apply ax (bO (c+2) 0) s (by rw[<-J];simp[go_sem,k]);clear J;refine zt (h.mod m3 dS) λgv w5 ht G=>?_;have M5:=m3.trans G;have hs5:=G.size;have Q:=h.all;have t:∀o∈B.all,1<=o.left/\o.left<=1000000:=λo p=>Od.left_bd (Q.2 o p).1
 let I:(Nat->Prop)->Nat->World->Prop:=λX i W=>hC W c #[.int .u32 a] 45/\hC W (c+1) #[.int .i64 (rV (B.all.take i) a true)] 2/\
  hC W (c+2) #[.int .i64 (rV (B.all.take i) a false)] 2/\X=λx=>c<=x/\x<c+3
 refine Uu ?_;refine Dh (X0:=λx=>c<=x/\x<c+3) (T:=ji) (fc:=dx) ht nQ.od I (λ_ _ _=>False) ?_ (λ_ _ _ _ _ h=>h.elim) (λx r=>qZ) ⟨G.hpk b0 id,G.hpk b1 id,G.hpk b2 id,rfl⟩ ?_ ?_ (λ_ _ _ _ _ h=>h.elim)
 ·rintro X i W P H ⟨v,n,m,rfl⟩ U D;exact⟨U.hpk v (D _ qZ),U.hpk n (D _ qZ),U.hpk m (D _ qZ),rfl⟩
 ·rintro X i hi W q ⟨v,n,m,rfl⟩ Z D hdq hqW zgq KN KJ u hKJ;unfold dx at zgq;obtain⟨o,p⟩:=df (B.all[i]);have R:((B true++B false)[i]'hi)=o:=p.symm;rw[R]at zgq;have f:=cq (l:=B.all) hi;have E:B.all[i]'hi=o:=p.symm;rw[E]at f;have hb1:=rR (l:=B.all.take i) (a:=a) (buy:=true) λo p=>t o (cE p);have hb2:=rR (l:=B.all.take i) (a:=a) (buy:=false) λo p=>t o (cE p);have hb3:=t o (by grind);have Y:(B.all.take i).length<=200:=by grind
  have y:∀(P:Wt_),W.heap.size<=P.heap.size->∀x,c<=x/\x<c+3->((c<=x/\x<c+3)\/W.heap.size<=x)/\x<P.heap.size:=λP hs x r=>⟨.inl r,by grind⟩
  apply bh (by simp[-Int.natCast_add,go_sem,zgq]<;>first|exact tF|exact rfl);apply bh (by simp[-Int.natCast_add,go_sem,zgq]<;>first|exact tF|exact rfl);apply bh (by simp[-Int.natCast_add,go_sem,v]<;>first|exact tF|exact rfl);by_cases A:o.acct=a
  ·refine dE A ?_;rw[ij];refine dE zgq ?_;apply bh (by simp[-Int.natCast_add,go_sem,zgq]<;>first|exact tF|exact rfl);cases g:o.buy with
   |true=>
    rw[jV];refine dE n ?_;refine dE zgq ?_;refine dE zgq ?_
    refine ax (gI (rV (B.all.take (i+1)) a true)) W (by
     rw[f,qi,ae ⟨A,g⟩];simp[go_sem];rw[lL]) ?_
    refine MU n ?_;have j:aS (λx=>x=c+1) W (W.setCell ⟨c+1,0,none⟩ (gI (rV (B.all.take (i+1)) a true))):=(aS.refl (λx=>x=c+1) W).sc;have k3:hC (W.setCell ⟨c+1,0,none⟩ (gI (rV (B.all.take (i+1)) a true))) (c+1) #[.int .i64 (rV (B.all.take (i+1)) a true)] 2:=by simp[go_sem,n]
    refine u _ _ ⟨j.hpk v qZ,k3,?_,rfl⟩ (j.mono λx _ r=>qZ) (y _ j.size);have:rV (B.all.take (i+1)) a false=rV (B.all.take i) a false:=by rw[f,qi,aa (by simp[g]),ia]
    rw[this];exact j.hpk m qZ
   |false=>
    rw[ij];refine dE m ?_;refine dE zgq ?_;refine dE zgq ?_
    refine ax (gI (rV (B.all.take (i+1)) a false)) W (by
     rw[f,qi,ae ⟨A,g⟩];simp[go_sem];rw[lL]) ?_
    refine MU m ?_;have j:aS (λx=>x=c+2) W (W.setCell ⟨c+2,0,none⟩ (gI (rV (B.all.take (i+1)) a false))):=(aS.refl (λx=>x=c+2) W).sc;have k3:hC (W.setCell ⟨c+2,0,none⟩ (gI (rV (B.all.take (i+1)) a false))) (c+2) #[.int .i64 (rV (B.all.take (i+1)) a false)] 2:=by simp[go_sem,m]
    refine u _ _ ⟨j.hpk v qZ,?_,k3,rfl⟩ (j.mono λx _ r=>qZ) (y _ j.size);have:rV (B.all.take (i+1)) a true=rV (B.all.take i) a true:=by rw[f,qi,aa (by simp[g]),ia]
    rw[this];exact j.hpk n qZ
  ·apply tX (.bool true) A;rw[jV];refine u _ W ⟨v,?_,?_,rfl⟩ oU (y _ (az _))
   ·rw[f,qi,aa (λh=>A h.1),ia];exact n
   ·rw[f,qi,aa (λh=>A h.1),ia];exact m
 ·rintro X W d hd ⟨v,n,m,rfl⟩ Z L D;have e:B.all.take (B true++B false).length=B.all:=aV;rw[e]at n m;refine Nn ?_;simp only[jx];have md:M0 W W.drew:=sK;have k2:=md.hpk n id;have k3:=md.hpk m id;have kd:=md.hpk L id;generalize W.drew=C at md k2 k3 kd|-;apply S6 (gI (rV B.all a true)) k2;apply S6 (gI (rV B.all a false)) k3;apply pl (C.setCell ⟨c+1,0,none⟩ (gI (rV B.all a true))) (by simp[go_sem,k2]);have j:aS (λx=>x=c+1) C (C.setCell ⟨c+1,0,none⟩ (gI (rV B.all a true))):=(aS.refl (λx=>x=c+1) C).sc;have j2:hC (C.setCell ⟨c+1,0,none⟩ (gI (rV B.all a true))) (c+1) #[.int .i64 (rV B.all a true)] 2:=by simp[go_sem,k2]
  have N:=j.hpk k3 qZ;have jd:=j.hpk kd qZ;generalize C.setCell ⟨c+1,0,none⟩ (gI (rV B.all a true))=z at j j2 N jd|-;refine⟨by simp[go_sem,N],?_⟩;apply pl (z.setCell ⟨c+2,0,none⟩ (gI (rV B.all a false))) (by simp[go_sem,N]);have O:aS (λx=>x=c+2) z (z.setCell ⟨c+2,0,none⟩ (gI (rV B.all a false))):=(aS.refl (λx=>x=c+2) z).sc;have g3:hC (z.setCell ⟨c+2,0,none⟩ (gI (rV B.all a false))) (c+2) #[.int .i64 (rV B.all a false)] 2:=by simp[go_sem,N]
  have g2:=O.hpk j2 qZ;have V:=O.hpk jd qZ;generalize z.setCell ⟨c+2,0,none⟩ (gI (rV B.all a false))=W3 at O g2 g3 V|-;refine yH V λW4 S=>?_;have f2:=S.hpk g2 qZ;have f3:=S.hpk g3 qZ;apply S6 (gI (rV B.all a true)) f2;refine xj f3 ?_;exact hK W4 (((((M5.on Z λx r=>fM).trans md).on j λx r=>fM).on O λx r=>fM).on S λx r=>fM)
end Go.Proofs
set_option maxRecDepth 100000
set_option maxHeartbeats 1000000
namespace Go.Proofs
open Go Go.Vc
attribute [local congr] aZ
abbrev kP:TypeId:=120
abbrev GU:TypeId:=54
def qh:Tryz.prog.underlying GU=some (.slice kP):=cy
def tM:Tryz.prog.cellsOf kP=26+1:=cy
def Hk:lI pQ kP=true:=cy
def zCt:mG pQ kP=true:=cy
def af0:(iQ pQ kP).length=26+1:=cy
def ZW:gP pQ kP 27 208=true:=cy
abbrev zv(w:Wt_)(s:Vt_)(l:List Ct):Prop:=gD w kP 27 s l.length (l.flatMap dD)
def sCt(w:Wt_):(Go.sizeOf kP).run pQ w=.ok 27 w:=Go.Vc.kZ tM w
def N9:Extern.find Tryz.f261=some (Extern.SlicesOverlaps.overlaps #[GU,GU] #[4]):=cy
def vA{w:Wt_}{K:aY}{s:Vt_}{l:List Ct}(h:Rd w 27 s l.length (l.flatMap dD))(q:l.length<=1000000)
  (i:∀d e,zv e d l->M0 w e->(∀b,aK d b->w.heap.size<=b)->K d e):Ca pQ 148 #[s] w K:=by
 refine cN Tryz.func148 ?_;obtain⟨a,c,f⟩:=h.isSl;by_cases g:a=none
 ·subst g;apply ax (.bool true) w (by rw[f];simp[go_sem]);rw[jV]
  have o:l=[]:=by
   obtain⟨-,⟨p,_⟩|⟨b,n,m,j,_⟩⟩:=h
   ·grind
   ·rw[f]at j;cases j
  subst o;exact i _ _ (gD.nil _ _ _) oU λb k=>by cases k
 ·apply ax (.bool false) w (by rw[f];cases a;exact absurd rfl g;simp[go_sem]);rw[ij];exact YB qh (dp ZW) h (Lj lV l) qZ i
def EN{w:Wt_}{K:aY}{s v:Vt_}{l:List Ct}{o:Ct}{i:Nat}(h:zv w s l)(hv:zv w v [o])(hd:∀b,aK s b->¬aK v b)(hi:i<=l.length)(hn:l.length<=1000000)
  (hK:∀s' w',zv w' s' (l.take i++o::l.drop i)->aS (aK s) w w' ->(∀b,aK s' b->aK s b\/w.heap.size<=b)->K s' w'):Ca pQ 202 #[s,gI (i:Int),v] w K:=by
 obtain⟨L,g,vrest,rfl,hvc,J,hvl,hv1⟩:=hv.pos (by simp);simp only[ke]at hvc hvl
 have n:(l.take i++o::l.drop i).length=l.length+1:=by
  rw[ag,aB,be,bq,dF hi];omega
 have S:([o].flatMap dD)=dD o:=by simp
 refine cN Tryz.func202 ?_;obtain⟨v0,hv0,-,-⟩:=Rd.from_ (P:=pQ) (kl:=.i64) (lo:=i) qh tM (h.rd:Rd w (26+1) s l.length (l.flatMap dD)) hi;apply bh (hv0 w);refine Hn ?_;refine eK ?_;obtain⟨sa,sc,hs,-⟩:=h.isSl;apply iq (gI l.length) w (by rw[hs];simp[go_sem]);by_cases hil:i=l.length
 ·have r:(i:Int)=(l.length:Int):=qZ;refine dB r ?_;refine jJ qh qh (dp ZW) h hv.rd (Lj lV _) (by grind) λs3 y o3 B n3=>?_;refine hK _ _ ?_ B n3;have:l.take i++o::l.drop i=l++[o]:=by grind
  rw[this];unfold zv;rw[cJ,ag];exact o3
 have r:¬(i:Int)=(l.length:Int):=qZ;refine ey r ?_;obtain⟨b,c,rest,hse,hc,M,hrl,N⟩:=h.pos qZ;clear hs;subst hse;have hne:L≠b:=λe=>hd b rfl (by rw[<-e];rfl);have X:=h.1;apply ax (gI ((l.length+1:Nat):Int)) w (by simp[go_sem];rw[lL]);refine qN1 qh ?_;have A:(l.flatMap dD++rest).length=c*27:=by grind
 by_cases hroom:c<l.length+1
 ·have f:(c:Int)<(l.length:Int)+1:=qZ;refine dB f ?_;apply bh (Hx qh tM (show i<=c by omega) qZ w);apply ax (gI ((l.length+1:Nat):Int)) w (by simp[go_sem];rw[lL]);apply ax (gI ((l.length+1 - i:Nat):Int)) w (by simp only[go_sem];simp;rw[lL];omega)
  have hOi:gD w kP (26+1) (.slice (some ⟨b,0,none⟩) i c) i ((l.take i).flatMap dD):=by
   refine⟨by rw[tN bV,aB,dF hi],.inr ⟨b,c,(l.flatMap dD++rest).drop (i*27),rfl,qZ,?_,?_,?_⟩⟩
   ·rw[M];congr 2
    have:(l.take i).flatMap dD=(l.flatMap dD++rest).take (i*27):=by
     rw[aN (by rw[X];omega),Rv bV]
    rw[this,cH]
   ·grind
   ·refine bf.2 λx D=>?_;have D:=gK D;rcases bm.1 D with h1|h1
    ·exact bf.1 (Lj lV l) x h1
    ·grind
  refine yC qh Tryz.underlying3 (dp ZW) hOi qZ λs2 C z hz hz1 o2 m2 n2 Y=>?_;obtain⟨mF,nF⟩:=Y _ _ rfl qZ;rw[show i+(l.length+1 - i)=l.length+1 by omega]at o2;obtain⟨m,wq,a,rfl,G,U,V,R⟩:=o2.pos qZ;have T:w.heap.size<=m:=nF m rfl;have hbb:b≠m:=by grind
  apply bh (vG qh tM qZ G qZ C);have hA:((l.take i).flatMap dD).length=i*27:=by rw[tN bV,aB,dF hi]
  have hsz2:((l.take i).flatMap dD++z++a).length=wq*27:=by grind
  have hv2:Rd C 27 (.slice (some ⟨L,0,none⟩) 1 g) 1 (dD o):=by
   have:=hv.rd.mod mF dS;rw[S]at this;exact this
  apply pY (sz:=26) (k:=1) qh tM U hv2 (by grind) (by grind) (lV o);have B:aS (λb=>b=m) C (C.setRow m (iC ((l.take i).flatMap dD++z++a) (i*27) ((dD o).take 27)).toArray):=(aS.refl (λb=>b=m) C).setRow (.inl rfl) _;have e5:(dD o).take 27=dD o:=aC (by rw[bV];omega)
  have H:iC ((l.take i).flatMap dD++z++a) (i*27) (dD o)=(l.take i).flatMap dD++dD o++(z++a).drop 27:=by
   unfold iC;rw[aH ((l.take i).flatMap dD) z a,<-hA,dG,bV,<-cB,cU]
  have j:(C.setRow m (iC ((l.take i).flatMap dD++z++a) (i*27) ((dD o).take 27)).toArray).heap[m]? =some (.cells ((l.take i).flatMap dD++dD o++(z++a).drop 27).toArray kP (0,0)):=by
   rw[d9,ae rfl,U,e5,H]
  show g9 _ _ _;rw[show((l.take i).flatMap dD++z++a).toArray.toList=(l.take i).flatMap dD++z++a from rfl,show 1*(26+1)=27 from rfl];generalize C.setRow m (iC ((l.take i).flatMap dD++z++a) (i*27) ((dD o).take 27)).toArray=y at B j|-;apply cT (gI ((i+1:Nat):Int)) (λW=>by simp[go_sem];rw[lL]);apply bQ (λW=>vG qh tM (show i+1<=l.length+1 by omega) G qZ W);apply bQ (λW=>vG qh tM (show i<=l.length by omega) hc qZ W);have mD:aS (λb=>b=m) C y.drew:=B.drew;have q:y.drew.heap[m]? =some (.cells ((l.take i).flatMap dD++dD o++(z++a).drop 27).toArray kP (0,0)):=j
  have t:Rd y.drew (26+1) (.slice (some ⟨b,i*(26+1),none⟩) (l.length - i) (c - i)) (l.length - i) ((l.drop i).flatMap dD):=by
   have F:At w b 0 (l.flatMap dD):=⟨_,_,_,M,by grind,by simp⟩
   have h1:=F.sub (i*27) ((l.length - i)*27) (by rw[X];omega);rw[Us bV,aC (by rw[tN bV,bq];exact az _),cM]at h1;refine⟨by rw[tN bV,bq],.inr ⟨b,i*(26+1),c - i,rfl,qZ,?_⟩⟩;exact(h1.mod mF id).mod mD λe=>hbb e
  have hsz3:((l.take i).flatMap dD++dD o++(z++a).drop 27).length=wq*27:=by
   rw[ag,ag,hA,bV,bq,ag,hz,V];omega
  apply pY (sz:=26) (k:=l.length - i) qh tM q t (by grind) (by grind) (Lj lV _);have u:((l.drop i).flatMap dD).length=(l.length - i)*27:=by rw[tN bV,bq]
  have I:iC ((l.take i).flatMap dD++dD o++(z++a).drop 27) ((i+1)*(26+1)) (((l.drop i).flatMap dD).take ((l.length - i)*(26+1)))=(l.take i++o::l.drop i).flatMap dD++a:=by
   have hAo:((l.take i).flatMap dD++dD o).length=(i+1)*(26+1):=by grind
   have e2:((l.drop i).flatMap dD).take ((l.length - i)*(26+1))=(l.drop i).flatMap dD:=aC (by grind);rw[e2];unfold iC;rw[<-hAo,dG,u,<-cB,cU,cB];rw[show 27+(l.length - i)*27=z.length by rw[hz];omega,cU];simp[aH]
  refine hK _ _ ⟨by grind,.inr ⟨m,wq,a,by rw[n],by rw[n];exact G,?_,by grind,R⟩⟩ ?_ λZ p=>?_
  ·rw[d9,ae rfl,q];show some (Obj.cells (iC ((l.take i).flatMap dD++dD o++(z++a).drop 27) ((i+1)*(26+1)) (((l.drop i).flatMap dD).take ((l.length - i)*(26+1)))).toArray kP (0,0))=_;rw[I]
  ·exact((mF.to).on mD λZ p=>.inr (by grind)).setRow (.inr T) _
  ·grind
 ·have f:¬(c:Int)<(l.length:Int)+1:=qZ;refine ey f ?_;apply ax (gI ((l.length+1:Nat):Int)) w (by simp[go_sem];rw[lL]);apply bh (Hx qh tM (show l.length+1<=c by omega) qZ w);apply ax (gI ((i+1:Nat):Int)) w (by simp[go_sem];rw[lL]);apply bh (vG qh tM (show i+1<=l.length+1 by omega) qZ qZ w)
  have hov:(callFunc 261 #[.slice (some ⟨L,0,none⟩) 1 g,.slice (some ⟨b,(i+1)*(26+1),none⟩) (l.length+1 - (i+1)) (c - (i+1))]).run pQ w=.ok (.value (.bool false)) w:=by
   rw[run_callFunc_extern Tryz.func261 cy cy cy N9];rw[Lib.run_overlaps_apart w GU 4 kP qh 27 sCt ⟨L,0,none⟩ ⟨b,(i+1)*(26+1),none⟩ 1 g _ _ hne kP kP _ _ (Z1 J) (Z1 M) (by grind) (Jb J _) (Jb J _)];rfl
  refine⟨?_⟩;show rn pQ (callFunc 261 #[.slice (some ⟨L,0,none⟩) 1 g,.slice (some ⟨b,(i+1)*(26+1),none⟩) (l.length+1 - (i+1)) (c - (i+1))]) w _;apply sr hov;refine jZ ?_;apply cT (gI ((i+1:Nat):Int)) (λW=>by simp[go_sem];rw[lL]);apply bQ (λW=>vG qh tM (show i+1<=l.length+1 by omega) qZ qZ W);apply bQ (λW=>vG qh tM (show i<=l.length+1 by omega) qZ qZ W);have q:w.drew.heap[b]? =some (.cells (l.flatMap dD++rest).toArray kP (0,0)):=M;have O:27<=rest.length:=by rw[hrl];omega
  have t:Rd w.drew (26+1) (.slice (some ⟨b,i*(26+1),none⟩) (l.length+1 - i) (c - i)) (l.length+1 - i) ((l.drop i).flatMap dD++rest.take 27):=by
   have F:At w b 0 (l.flatMap dD++rest):=At.all (bT M);have h1:=F.sub (i*27) ((l.length+1 - i)*27) (by rw[A];omega);rw[dc (by rw[X];omega),Us bV,cM]at h1
   have e1:((l.drop i).flatMap dD++rest).take ((l.length+1 - i)*27)=(l.drop i).flatMap dD++rest.take 27:=by
    have hd:((l.drop i).flatMap dD).length=(l.length - i)*27:=by rw[tN bV,bq]
    rw[show(l.length+1 - i)*27=((l.drop i).flatMap dD).length+27 by rw[hd];omega,iy]
   rw[e1]at h1;refine⟨by rw[ag,tN bV,bq,aB,dF O];omega,.inr ⟨b,i*(26+1),c - i,rfl,qZ,h1.keep rfl⟩⟩
  have u:((l.drop i).flatMap dD).length=(l.length - i)*27:=by rw[tN bV,bq]
  apply pY (sz:=26) (k:=l.length - i) qh tM q t (by grind) (by rw[cI,A];omega) (by rw[ek,Lj lV];exact bf.2 λx D=>bf.1 N x (cE D));have hA:((l.take i).flatMap dD).length=i*27:=by rw[tN bV,aB,dF hi]
  obtain⟨d,Q,E⟩:∃d:List Value,l.flatMap dD++rest=(l.take i).flatMap dD++(d++((l.flatMap dD++rest).drop ((i+1)*27)))/\d.length=27:=by
   refine⟨((l.flatMap dD++rest).drop (i*27)).take 27,?_,by grind⟩;have e1:(l.take i).flatMap dD=(l.flatMap dD++rest).take (i*27):=by rw[aN (by rw[X];omega),Rv bV]
   rw[e1,show(i+1)*27=i*27+27 by omega,<-cB,cH,cH]
  have H:iC (l.flatMap dD++rest) ((i+1)*(26+1)) (((l.drop i).flatMap dD++rest.take 27).take ((l.length - i)*(26+1)))=(l.take i).flatMap dD++d++((l.drop i).flatMap dD++rest.drop 27):=by
   have e2:((l.drop i).flatMap dD++rest.take 27).take ((l.length - i)*(26+1))=(l.drop i).flatMap dD:=by
    rw[show(l.length - i)*(26+1)=((l.drop i).flatMap dD).length by rw[u],dG]
   have e3:(l.flatMap dD++rest).take ((i+1)*(26+1))=(l.take i).flatMap dD++d:=by
    rw[Q,<-aH,show(i+1)*(26+1)=((l.take i).flatMap dD++d).length by grind,dG]
   have e4:(l.flatMap dD++rest).drop ((i+1)*(26+1)+(l.length - i)*27)=rest.drop 27:=by
    rw[show(i+1)*(26+1)+(l.length - i)*27=(l.flatMap dD).length+27 by rw[X];omega,<-cB,cU]
   unfold iC;rw[e2,u,e3,e4];simp[aH]
  have B:aS (aK (.slice (some ⟨b,0,none⟩) l.length c)) w (w.drew.setRow b (iC (l.flatMap dD++rest) ((i+1)*(26+1)) (((l.drop i).flatMap dD++rest.take 27).take ((l.length - i)*(26+1)))).toArray):=sK.setRow (.inl (show aK (.slice (some ⟨b,0,none⟩) l.length c) b from rfl)) _
  have j:(w.drew.setRow b (iC (l.flatMap dD++rest) ((i+1)*(26+1)) (((l.drop i).flatMap dD++rest.take 27).take ((l.length - i)*(26+1)))).toArray).heap[b]? =some (.cells ((l.take i).flatMap dD++d++((l.drop i).flatMap dD++rest.drop 27)).toArray kP (0,0)):=by
   rw[d9,ae rfl,q,H]
  rw[show(l.flatMap dD++rest).toArray.toList=l.flatMap dD++rest from rfl];generalize w.drew.setRow b (iC (l.flatMap dD++rest) ((i+1)*(26+1)) (((l.drop i).flatMap dD++rest.take 27).take ((l.length - i)*(26+1)))).toArray=y at B j|-;apply bh (vG qh tM (show i<=l.length+1 by omega) qZ qZ y)
  have hv3:Rd y 27 (.slice (some ⟨L,0,none⟩) 1 g) 1 (dD o):=by
   have:=hv.rd.mod B λZ p hs' =>hd Z hs' p.sl;rw[S]at this;exact this
  apply pY (sz:=26) (k:=1) qh tM j hv3 (by grind) (by grind) (lV o)
  have I:iC ((l.take i).flatMap dD++d++((l.drop i).flatMap dD++rest.drop 27)) (i*(26+1)) ((dD o).take (1*(26+1)))=(l.take i++o::l.drop i).flatMap dD++rest.drop 27:=by
   have e5:(dD o).take (1*(26+1))=dD o:=aC (by rw[bV];omega);rw[e5];unfold iC;rw[bV,show i*(26+1)=((l.take i).flatMap dD).length by rw[hA],aH ((l.take i).flatMap dD) d,dG,<-cB,cU,<-E,cU];simp[aH]
  refine hK _ _ ⟨by rw[tN bV,n],.inr ⟨b,c,rest.drop 27,by rw[n],by rw[n];omega,?_,by grind,bf.2 λx D=>bf.1 N x (gK D)⟩⟩ (B.setRow (.inl (show aK (.slice (some ⟨b,0,none⟩) l.length c) b from rfl)) _) λZ p=>.inl p;show(y.setRow b (iC ((l.take i).flatMap dD++d++((l.drop i).flatMap dD++rest.drop 27)) (i*(26+1)) ((dD o).take (1*(26+1)))).toArray).heap[b]? =_;rw[d9,ae rfl,j,I]
end Go.Proofs
set_option maxRecDepth 100000
set_option maxHeartbeats 1000000
namespace Go.Proofs
open Go Go.Vc
attribute [local congr] aZ
variable {n:Int}{l:List Ct}{F:NP_}{c:Nat}{w:Wt_}{K:aY}
structure oe where
 day:Int
 l:List Ct
variable {S:oe}
def Ct.Ok(k:Ct):Prop:=k.Fit/\k.spec.may=true/\k.spec.isPrice k.price=true/\1<=k.st/\k.st<=3
def iB(l:List Ct)(n:Int):Nat:=(l.takeWhile λk=>decide (k.spec.num<n)).length
def cg(l:List Ct)(n:Int):Option Ct:=l.find? λk=>decide (k.spec.num=n)
def nm(l:List Ct):Prop:=l.Pairwise λa b=>a.spec.num<b.spec.num
structure lW(w:Wt_)(c:Nat)(F:NP_)(S:oe):Prop where
 out:∃sl,hC w c #[.bool true,gU S.day,sl] 172/\zv w sl S.l/\(∀x,F x↔x=c\/aK sl x)/\¬aK sl c
 len:S.l.length<=16
 day:kV S.day
 ok:∀k∈S.l,k.Ok
 srt:nm S.l
def lW.mod{G:NP_}{w' :Wt_}(h:lW w c F S)(e:aS G w w')(d:∀b,F b->¬G b):lW w' c F S:=by
 obtain⟨⟨sl,h1,f,a,i⟩,k,m,j,l⟩:=h;exact⟨⟨sl,e.hpk h1 (d c ((a c).2 (.inl rfl))),f.mod e λb g=>d b ((a b).2 (.inr g)),a,i⟩,k,m,j,l⟩
def lW.lt(h:lW w c F S){b:Nat}(a:F b):b<w.heap.size:=by
 obtain⟨⟨sl,h1,d,e,f⟩,g⟩:=h;rcases(e b).1 a with rfl|a
 ·exact ay h1
 ·exact d.lt a
def fF(c:Nat):Value:=bO c 0
def Cn(s:Sp):(fC s)[23]? =some (gU s.last):=by have:=ZB s [];rwa[bg]at this
def ZD(s:Sp):(fC s)[24]? =some (gI s.first):=by have:=U1 s [];rwa[bg]at this
def ctT(k:Ct)(i:Nat)(h:i<25):(dD k)[i]? =(fC k.spec)[i]? :=by
 rw[dD,cn (by rw[bG];omega)]
def Ox(k:Ct):(dD k)[0]? =some (gU k.spec.num):=rfl
def UQ(k:Ct):(dD k)[23]? =some (gU k.spec.last):=by rw[ctT k 23 qZ,Cn]
def B3(k:Ct):(dD k)[25]? =some (gB k.st):=by have:=UY k [];rwa[bg]at this
def OU(k:Ct):(dD k)[26]? =some (gI k.price):=by have:=Uz k [];rwa[bg]at this
def Uf(k:Ct)(w:Wt_):∃a,(Instr.box kP (.agg (dD k).toArray)).run pQ w=.ok (bO w.heap.size 0) a/\hC a w.heap.size (dD k).toArray kP/\M0 w a:=
 ⟨w.alloc (.cells (dD k).toArray kP),rfl,by simp[go_sem],(aS.refl _ w).alloc _⟩
def Mc(d:∀c F a,lW a c F ⟨0,[]⟩->M0 w a->(∀b,F b->w.heap.size<=b)->K (fF c) a):Ca pQ 33 #[] w K:=by
 refine cN Tryz.func33 ?_;refine dq ?_;apply ax (fF w.heap.size) (w.alloc (.cells #[.bool true,gU 0,.slice none 0 0] 172)) rfl;exact d _ (λx=>x=w.heap.size) _ ⟨⟨.slice none 0 0,by simp[go_sem],gD.nil _ _ _,λx=>⟨λh=>.inl h,λh=>h.elim id λh=>by cases h⟩,λh=>by cases h⟩,by simp,⟨by simp,by simp⟩,by simp,List.Pairwise.nil⟩ kU λb e=>by omega
def pJ(h:lW w c F S)(a:K (.bool true) w):Ca pQ 152 #[fF c] w K:=by
 obtain⟨⟨sl,h1,b,f,d⟩,e⟩:=h;unfold fF;refine cN Tryz.func152 ?_;refine jZ ?_;simp only[cj];refine dq ?_;refine dE h1 ?_;exact a
def twG{α:Type}{l:List α}{p:α->Bool}{j:Nat}(b:j<l.length)(h:∀o∈l.take j,p o=true)(a:p l[j]=false):l.takeWhile p=l.take j:=by
 induction l generalizing j with
 |nil=>simp at b
 |cons x l c=>
  cases j with
  |zero=>simp at a;simp[a]
  |succ j=>
   simp only[gV,ar,forall_eq_or_imp]at h;rw[List.takeWhile_cons_of_pos h.1,gV,c (by simpa using b) h.2 (by simpa using a)]
def twA{α:Type}{l:List α}{p:α->Bool}(h:∀o∈l,p o=true):l.takeWhile p=l:=by
 induction l with
 |nil=>rfl
 |cons x l b=>rw[List.takeWhile_cons_of_pos (h x (by simp)),b λo a=>h o (by simp[a])]
def Av{i:Nat}(hi:i<=l.length)(h1:∀j (a:j<l.length),j<i->l[j].spec.num<n)(d:∀(a:i<l.length),¬l[i].spec.num<n):iB l n=i:=by
 unfold iB;by_cases c:i<l.length
 ·rw[twG (p:=λk:Ct=>decide (k.spec.num<n)) c (λo b=>?_) (by simpa using d c),aB,dF hi];obtain⟨j,a,rfl⟩:=bM b;rw[aB]at a;rw[List.getElem_take];simpa using h1 j qZ qZ
 ·rw[twA λo b=>?_]
  ·omega
  ·obtain⟨j,a,rfl⟩:=bM b;simpa using h1 j a qZ
def ML(hs:nm l){n:Int}{i:Nat}(h1:∀j (a:j<l.length),j<i->l[j].spec.num<n)(hi:i<l.length)(e:¬l[i].spec.num<n):
  cg l n=if l[i].spec.num=n then some l[i]else none:=by
 unfold cg;by_cases b:l[i].spec.num=n
 ·rw[ae b,dJ];refine⟨by simpa using b,i,hi,rfl,λj a=>?_⟩;have:=h1 j qZ a;simp;omega
 ·rw[aa b,dU];intro k c;obtain⟨j,a,rfl⟩:=bM c;simp only[aX];intro d;rcases Nat.lt_trichotomy j i with h|h|h
  ·grind
  ·subst h;exact b d
  ·have:=bL.1 hs i j hi a h;omega
def IJ(h1:∀j (a:j<l.length),l[j].spec.num<n):cg l n=none:=by
 unfold cg;rw[dU];intro k b;obtain⟨j,a,rfl⟩:=bM b;have:=h1 j a;simp;omega
def EG{k:Ct}(a:∀d,M0 w d->K (gI (if k.spec.num<n then -1 else if n<k.spec.num then 1 else 0)) d):Ca pQ 260 #[.agg (dD k).toArray,gU n] w K:=by
 refine cN Tryz.func260 ?_;obtain⟨g,e,c,f⟩:=Uf k w;have a:=a _ f;apply bh e;refine dq ?_;refine dq ?_;refine mK c Ox ?_;by_cases h1:k.spec.num<n
 ·refine dB h1 ?_;rw[ae h1]at a;exact a
 ·refine ey h1 ?_;rw[aa h1]at a;refine dq ?_;refine dq ?_;refine mK c Ox ?_;by_cases b:n<k.spec.num
  ·refine dB b ?_;rw[ae b]at a;exact a
  ·refine ey b ?_;rw[aa b]at a;exact a
def T8{i j:Nat}(h:i<j)(a:j<=1000000)(w:Wt_):∃x,(convert 3 263 (gI ((i:Int)+(j:Int)))).run pQ w=.ok x w/\∃y,(gx .shr 263 true x (gQ 1)).run pQ w=.ok y w/\(convert 263 3 y).run pQ w=.ok (gI (((i+j) / 2:Nat):Int)) w:=by
 refine⟨.int .u64 (((i+j:Nat):Int)),?_,gQ (((i+j) / 2:Nat):Int),?_,?_⟩
 ·simp[go_sem];rw[IntKind.wrap_u64];omega
 ·simp[go_sem,iU]
 ·simp[go_sem];rw[bU];omega
def SR{s:Vt_}(h:Rd w 27 s l.length (l.flatMap dD))(hn:l.length<=1000)(hs:nm l)
  (P:∀M,M0 w M->K (.tuple #[.int .i64 (iB l n),.bool (cg l n).isSome]) M):Ca pQ 259 #[s,gU n,.func (.func 260) #[] #[]] w K:=by
 refine cN Tryz.func259 ?_;obtain⟨a,c,E⟩:=h.isSl;apply iq (gI (l.length:Int)) w (by rw[E];simp[go_sem])
 refine d8 (λst W=>∃i j:Nat,i<=j/\j<=l.length/\st=(gI i,gI j,())/\M0 w W/\(∀x (d:x<l.length),x<i->l[x].spec.num<n)/\∀x (d:x<l.length),j<=x->¬l[x].spec.num<n)
  (λst _=>match st.1,st.2.1 with| .int _ i,.int _ j=>j.toNat - i.toNat|_,_=>0) ⟨0,l.length,qZ,qZ,rfl,oU,λx d h=>qZ,λx d h=>qZ⟩ ?_
 rintro⟨_,_,_⟩ W ⟨i,j,T,v,⟨⟩,f,z,N⟩ KN t;refine lE ?_;intro _
 have e:∀W,M0 w W->∀x (d:x<l.length),∃p,(iX GU s (gI (x:Int))).run pQ W=.ok p W/\(qm kP p).run pQ W=.ok (.agg (dD l[x]).toArray) W:=λW f x d=>by
  obtain⟨b,G,U,C,Q,V⟩:=(h.mod f dS).item bV d rfl;exact⟨.pointer (some ⟨b,G+x*27,none⟩),by rw[C];simp[go_sem,d,bD,qh],fK Hk tM (bV _) V⟩
 by_cases B:i<j
 ·have r:(i:Int)<(j:Int):=qZ;refine dB r ?_;apply ax (gI ((i:Int)+(j:Int))) W (by simp[go_sem];rw[lL]);obtain⟨x,Z,y,X,e3⟩:=T8 B qZ W;apply bh Z;apply bh X;apply bh e3;obtain⟨m,Y⟩:=df ((i+j) / 2);rw[<-Y];have k:m<l.length:=qZ;obtain⟨p,F,J⟩:=e W f m k;apply bh F;apply jP J;simp only[fR];refine EG λD H=>?_;have R:=f.trans H;by_cases A:l[m].spec.num<n
  ·rw[ae A];refine jZ ?_;apply ax (gI ((m+1:Nat):Int)) D (by simp[go_sem];rw[lL]);refine t _ _ ⟨m+1,j,qZ,v,rfl,R,λx d I=>?_,N⟩ (by grind);by_cases q:x=m
   ·subst q;exact A
   ·have:=bL.1 hs x m d k qZ;omega
  ·rw[aa A];have L:¬((if n<l[m].spec.num then 1 else 0:Int)<0):=by split<;>omega
   refine ey L ?_;refine t _ _ ⟨i,m,qZ,qZ,rfl,R,z,λx d I=>?_⟩ (by grind);by_cases q:x=m
   ·subst q;exact A
   ·have:=bL.1 hs m x k d qZ;omega
 ·obtain rfl:i=j:=qZ;refine eK ?_;by_cases o:i<l.length
  ·have u:(i:Int)<(l.length:Int):=qZ;refine dB u ?_;obtain⟨p,F,J⟩:=e W f i o;apply bh F;apply jP J;simp only[fR];have g:=N i o (az _);refine EG λD H=>?_;rw[aa g];refine ax (.bool (cg l n).isSome) D ?_ ?_
   ·rw[ML hs z o g];by_cases q:l[i].spec.num=n
    ·simp[go_sem,q]
    ·have d:n<l[i].spec.num:=qZ;simp[go_sem,q,d]
   have:=Av v z λv=>g;rw[<-this];exact P _ (f.trans H)
  ·obtain rfl:i=l.length:=qZ;refine eK ?_;have h1:iB l n=l.length:=Av v z λv=>by omega
   have S:=IJ λx d=>z x d d;have O:=P _ f;rw[h1,S]at O;exact O
end Go.Proofs
