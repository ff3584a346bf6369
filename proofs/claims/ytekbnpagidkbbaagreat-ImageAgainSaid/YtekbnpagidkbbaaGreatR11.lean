/- Part of a proof. -/
import Derived.Test.YtekbnpagidkbbaaGreatR10
set_option linter.all false
set_option maxRecDepth 100000
set_option maxHeartbeats 4000000
namespace Go.Proofs
open Go Go.Vc
attribute [local congr] bj
variable {w:Wt_}
def U7{gv:Vt_}{α:Type}{xs:List α}{XS:List (List Value)}{T TF:TypeId}{fv:α->Value}{fc:α->List Value}{u:List Nat->Option Code->World->Prop}{Q0:NP_}{yl n0 k:Nat}
  {J:(Nat->Prop)->Nat->World->Prop}{Js:(Nat->Prop)->World->Prop}
  (ht:pE gv (xs.map λa=>[fv a]) w)(hv:oH T fv fc xs)
  (hld:∀a∈xs,∀(W:Wt_) q,hC W q (fc a).toArray T->(iL T (bO q 0)).run pQ W=.ok (fv a) W)
  (s:∀Q p i W e,J Q i W->aR Q W e->(∀b,p b->(Q b\/W.heap.size<=b)/\b<e.heap.size)->J p i e)
  (y:∀Q p W e,Js Q W->aR Q W e->(∀b,p b->(Q b\/W.heap.size<=b)/\b<e.heap.size)->Js p e)
  (P:∀Q i x W,XS[i]? =some x->J Q i W->∀K' :aZ,(∀e,J Q (i+1) e->W.heap.size<=e.heap.size->(∀b,Q b->e.heap[b]? =W.heap[b]?)->K' (.bool true) e)->(∀e,Js Q e->W.heap.size<=e.heap.size->(∀b,Q b->e.heap[b]? =W.heap[b]?)->K' (.bool false) e)->lA pQ (.func (.yield yl) #[] #[]) x W K')
  (hxs:∀i (hi:i<xs.length),XS[k+i]? =some [fv xs[i]])
  (hy:hC w n0 #[.func (.yield yl) #[] #[]] TF)(hyl:∀W,hp W n0=some (.cells #[.func (.yield yl) #[] #[]] TF (0,0))->(iL TF (bO n0 0)).run pQ W=.ok (.func (.yield yl) #[] #[]) W)
  (hn0:Q0 n0)(hQ0:∀b,Q0 b->b<w.heap.size)(hJ0:J Q0 k w)
  (hend:∀Q W d,d=w.heap.size->J Q (k+xs.length) W->(∀b,Q0 b->Q b)->Q d->(∀b,Q b->b<W.heap.size)->(∀b,Q b->Q0 b\/w.heap.size<=b)->(∀b,Q0 b->W.heap[b]? =w.heap[b]?)->hp W d=some (.deferred (some []))->u [d] none W)
  (X:∀Q W d,d=w.heap.size->Js Q W->(∀b,Q0 b->Q b)->Q d->(∀b,Q b->b<W.heap.size)->(∀b,Q b->Q0 b\/w.heap.size<=b)->(∀b,Q0 b->W.heap[b]? =w.heap[b]?)->hp W d=some (.deferred (some []))->u [d] (some .ret) W):
  FO pQ none gv w 1 (λl x W KN KJ=>rv pQ (iA T true (.tuple #[])) W λv w1=>ru pQ (iS T v (x.getD 0 undef)) w1 λw2=>qt l w2 λw3=>
   rv pQ (iL TF (bO n0 0)) w3 λv41 w42=>rv pQ (iL T v) w42 λv43 w44=>lA pQ v41 [v43] w44 λv45 w46=>rv pQ (Op.unary .not v45) w46 λv47 w48=>sx v47 (KJ .ret w48) (KN w48)) u:=by
 obtain⟨⟨Ok,hit,hok⟩,-⟩:=ht;obtain⟨f,first,captured,rfl,hit0⟩:=hit.out;apply t0.2;show∀g:Loop,_;intro g n G hD hY;obtain⟨d,C⟩:=di w.heap.size;have O:(w.alloc (.deferred (some []))).heap.size=d+1:=by rw[cw,C]
 obtain⟨wr,F⟩:=di ((w.alloc (.deferred (some []))).alloc (.loop g));have N:wr.heap[d+1]? =some (.loop g):=by rw[F,er,ae O.symm]
 have hszr:wr.heap.size=d+2:=by rw[F,cw,O]
 have V:hp wr d=some (.deferred (some [])):=by rw[F];simp[go_sem,C]
 have Z:M0 w wr:=by rw[F];exact mG.alloc _
 have m:∀(W:Wt_) (o:Obj),aR (λb=>b=d+1) W (W.putObj (d+1) o):=λW o=>(aR.refl (λb=>b=d+1) W).putObj (b:=d+1) (.inl rfl) o;rw[O]at hY|-;rw[<-F];let U:(Nat->Prop)->Nat->Prop:=λQ b=>Q0 b\/b=d\/b=d+1\/Q b;let S:(Nat->Prop)->World->Prop:=λQ W=>hp W d=some (.deferred (some []))/\(∀b,Q b->d+1<b/\b<W.heap.size)/\∀b,Q0 b->W.heap[b]? =w.heap[b]?
 have hS:∀(Q p H:NP_) (W e:Wt_),S Q W->d+2<=W.heap.size->aR H W e->(∀b,H b->Q b\/b=d+1)->(∀b,p b->(Q b\/W.heap.size<=b)/\b<e.heap.size)->S p e:=by
  rintro Q p H W e ⟨s1,s2,s3⟩ hl j hH A;refine⟨j.hpk s1 λc=>?_,λb c=>?_,λb c=>?_⟩
  ·rcases hH _ c with h|h
   ·have:=s2 _ h;omega
   ·omega
  ·have ha:=A b c;rcases ha.1 with h|h
   ·grind
   ·grind
  ·have hbl:=hQ0 b c;rw[j.blk b qZ λhx=>?_,s3 b c];rcases hH _ hx with h|h
   ·have:=s2 _ h;omega
   ·omega
 have L:∀(Q p:NP_) (W e:Wt_),d+2<=W.heap.size->W.heap.size<=e.heap.size->(∀b,p b->(Q b\/W.heap.size<=b)/\b<e.heap.size)->∀b,U p b->(U Q b\/W.heap.size<=b)/\b<e.heap.size:=by
  rintro Q p W e h1 I t b (h|h|h|h)
  ·grind
  ·grind
  ·grind
  ·grind
 have z:∀{H Q:NP_} {W e:Wt_},aR H W e->(∀b,H b->Q b\/b=d+1)->aR (U Q) W e:=λj hH=>j.mono λb _ c=>by
  rcases hH b c with h|h
  ·grind
  ·grind
 refine hit0 _ (λQ i W=>J (U Q) (k+i) W/\S Q W/\W.heap[d+1]? =some (.loop g))
  (λQ W=>∃r,Js (U Q) W/\S Q W/\W.heap[d+1]? =some (.loop r)/\r.state=.done/\r.pending=some .ret) _ _ (hok _ Z) ?_ ?_ ?_ ?_ ?_ ?_
 ·intro Q W1 j hQ;have hs1:=j.size;refine⟨s _ _ _ _ _ hJ0 ((Z.trans j).to) ?_,⟨j.hpk V id,λb c=>by grind,λb c=>?_⟩,j.keep N id⟩
  ·rintro b (h|h|h|h)
   ·grind
   ·grind
   ·grind
   ·grind
  ·exact(Z.trans j).blk b (hQ0 b c) id
 ·rintro Q p i W e ⟨h1,I,t⟩ j A;have hl:=aB t;exact⟨s _ _ _ _ _ h1 (z j λb c=>.inl c) (L Q p W e qZ j.size A),hS _ _ _ _ _ I qZ j (λb c=>.inl c) A,j.keep t λc=>by grind⟩
 ·rintro Q p W e ⟨r,h1,I,t,h4⟩ j A;have hl:=aB t;exact⟨r,y _ _ _ _ h1 (z j λb c=>.inl c) (L Q p W e qZ j.size A),hS _ _ _ _ _ I qZ j (λb c=>.inl c) A,j.keep t λc=>by grind,h4⟩
 ·rintro Q i x W hx ⟨h1,I,t⟩ K' hT hF;apply kf.2;show Yl pQ (d+1) ⟨_⟩ W K';have e1:(#[]:Array Value).toList++x=x:=rfl;rw[e1]
  obtain⟨hi,rfl⟩:∃hi:i<xs.length,x=[fv xs[i]]:=by
   rw[cz]at hx;cases hh:xs[i]? with
   |none=>rw[hh]at hx;cases hx
   |some o=>
    obtain⟨hj,he⟩:=aJ.1 hh;rw[hh]at hx;exact⟨hj,by grind⟩
  apply hY _ W K' rfl ⟨g.state,g.pending,t⟩;obtain⟨w1,w2,v1,v2,v3,v4⟩:=hv xs[i] (aq hi) W;obtain⟨q,hq0⟩:=di W.heap.size;rw[<-hq0]at v1 v2 v3;apply bo v1;show ru pQ (iS T (bO q 0) (fv xs[i])) w1 _;apply iE v2;have r2:w2.heap[d+1]? =some (.loop g):=v4.keep t id;apply rI r2 n;have m3:=m w2 (.loop {g with state:=.busy});have r3:(w2.putObj (d+1) (.loop {g with state:=.busy})).heap[d+1]? =some (.loop {g with state:=.busy}):=by rw[dR,ae rfl,r2];rfl
  generalize w2.putObj (d+1) (.loop {g with state:=.busy})=w3 at m3 r3|-;have hdl:d+1<q:=by grind
  have q3:=m3.hpk v3 qZ;have hs3:=m3.size;have hs4:=v4.size;have M3:aR (λb=>b=d+1) W w3:=(v4.to).trans m3;have hQs:∀(e:Wt_),W.heap.size<=e.heap.size->∀b,Q b->(Q b\/W.heap.size<=b)/\b<e.heap.size:=λe hs b c=>⟨.inl c,by grind⟩
  have hJ3:=s _ _ _ _ _ h1 (z (Q:=Q) M3 λb c=>.inr c) (L Q Q W w3 qZ M3.size (hQs _ M3.size));have hS3:=hS _ _ _ _ _ I qZ M3 (λb c=>.inr c) (hQs _ M3.size);refine bo (hyl _ ?_) ?_
  ·have:=hS3.2.2 n0 hn0;unfold hp;rw[this];exact hy
  apply bo (hld xs[i] (aq hi) _ _ q3)
  have K:∀(e:Wt_) (o:Obj),w3.heap.size<=e.heap.size->(∀b,U Q b->e.heap[b]? =w3.heap[b]?)->
    e.heap[d+1]? =some (.loop {g with state:=.busy})/\S Q (e.putObj (d+1) o)/\(∀b,Q b->(e.putObj (d+1) o).heap[b]? =W.heap[b]?)/\W.heap.size<=(e.putObj (d+1) o).heap.size:=by
   intro e o hs B;have Y:=m e o;have hsp:=Y.size;have hs' :S Q e:=⟨by unfold hp;rw[B d (.inr (.inl rfl))];exact hS3.1,λb c=>by grind,λb c=>by grind⟩
   refine⟨by grind,hS _ _ _ _ _ hs' qZ Y (λb c=>.inr c) λb c=>⟨.inl c,by grind⟩,λb c=>?_,qZ⟩;have ha:=I.2.1 b c;rw[Y.blk b qZ qZ,B b (.inr (.inr (.inr c))),M3.blk b ha.2 qZ]
  refine P _ _ _ _ (hxs i hi) hJ3 _ (λe R hs B=>?_) λe R hs B=>?_
  ·refine eU ?_;obtain⟨k1,k2,k3,k4⟩:=K e (.loop {{g with state:=.busy}with state:=.ready,pending:=none}) hs B;refine⟨_,k1,hT _ ⟨?_,k2,?_⟩ k4 k3⟩
   ·exact s _ _ _ _ _ R (z (Q:=Q) (m e _) λb c=>.inr c) (L Q Q e _ qZ (m e _).size λb c=>⟨.inl c,(k2.2.1 b c).2⟩)
   ·rw[dR,ae rfl,k1];simp[<-n,<-G]
  ·refine lh ?_;obtain⟨k1,k2,k3,k4⟩:=K e (.loop {{g with state:=.busy}with state:=.done,pending:=some .ret}) hs B;refine⟨_,k1,hF _ ⟨{g with state:=.done,pending:=some .ret},?_,k2,?_,rfl,rfl⟩ k4 k3⟩
   ·exact y _ _ _ _ R (z (Q:=Q) (m e _) λb c=>.inr c) (L Q Q e _ qZ (m e _).size λb c=>⟨.inl c,(k2.2.1 b c).2⟩)
   ·rw[dR,ae rfl,k1];rfl
 ·rintro Q W ⟨h1,I,t⟩;refine⟨g,t,by rw[n];decide,?_⟩;rw[<-C];have hl:=aB t;have j:=m W (.loop {g with state:=.exhausted});generalize W.putObj (d+1) (.loop {g with state:=.exhausted})=M at j|-;have hs8:=j.size;rw[G];have D:∀b,Q b->(Q b\/W.heap.size<=b)/\b<M.heap.size:=λb c=>⟨.inl c,by grind⟩
  have E:=hS _ _ _ _ _ I qZ j (λb c=>.inr c) D;have h1' :J (U Q) (k+xs.length) W:=by grind
  refine hend (U Q) M d C (s _ _ _ _ _ h1' (z (Q:=Q) j λb c=>.inr c) (L Q Q W M qZ j.size D)) (λb c=>.inl c) (.inr (.inl rfl)) (λb c=>?_) (λb c=>?_) E.2.2 E.1
  ·grind
  ·rcases c with h|h|h|h
   ·exact .inl h
   ·exact gr
   ·exact gr
   ·exact .inr (by grind)
 ·rintro Q W ⟨r,h1,I,t,h4,h5⟩;refine⟨r,t,by rw[h4];decide,?_⟩;rw[<-C];have hl:=aB t;have j:=m W (.loop {r with state:=.exhausted});generalize W.putObj (d+1) (.loop {r with state:=.exhausted})=M at j|-;have hs8:=j.size;rw[h5];have D:∀b,Q b->(Q b\/W.heap.size<=b)/\b<M.heap.size:=λb c=>⟨.inl c,by grind⟩
  have E:=hS _ _ _ _ _ I qZ j (λb c=>.inr c) D;refine X (U Q) M d C (y _ _ _ _ h1 (z (Q:=Q) j λb c=>.inr c) (L Q Q W M qZ j.size D)) (λb c=>.inl c) (.inr (.inl rfl)) (λb c=>?_) (λb c=>?_) E.2.2 E.1
  ·exact(L Q Q W M qZ j.size D b c).2
  ·rcases c with h|h|h|h
   ·exact .inl h
   ·exact gr
   ·exact gr
   ·grind
def ig.keep{F:NP_}{w' :Wt_}{s:Nat}{buy:Bool}{l:List Od}(h:ig w s F buy l)(c:∀b,F b->w'.heap[b]? =w.heap[b]?):ig w' s F buy l:=by
 obtain⟨⟨sl,h1,e,a,f⟩,g,d⟩:=h;exact⟨⟨sl,(c s ((a s).2 (.inl rfl))).trans h1,e.keep λb i=>c b ((a b).2 (.inr i)),a,f⟩,g,d⟩
def ZW:∀a:Od,∀(W:Wt_) q,hC W q (dF a).toArray jG->(iL jG (bO q 0)).run pQ W=.ok (kx a) W:=λa W q h=>lE (o:=a) (At.all h)
def TU{b vb:Nat}{B:Bk}{T:TypeId}:Sl pQ (.func (.func 164) #[] #[.pointer (some ⟨vb,0,none⟩)]) ((B true++B false).map λo=>[kx o]) (λW=>hC W vb #[fi b] T/\∃F,gg W b F B):=by
 refine⟨⟨_,_,_,rfl,?_⟩⟩;rintro w J Js W K ⟨R,F,hq⟩ h0 m l u H hex;show Ca pQ _ #[.func (.yield w) #[] #[],.pointer (some ⟨vb,0,none⟩)] W K;refine cN Tryz.func164 ?_;obtain⟨z,E⟩:=di W.heap.size;have U:M0 W (W.alloc (.cells #[.func (.yield w) #[] #[]] 256)):=mG;have Y:hC (W.alloc (.cells #[.func (.yield w) #[] #[]] 256)) z #[.func (.yield w) #[] #[]] 256:=by rw[E];simp[go_sem]
 apply ao (bO z 0) (W.alloc (.cells #[.func (.yield w) #[] #[]] 256)) (by rw[E];rfl);generalize W.alloc (.cells #[.func (.yield w) #[] #[]] 256)=w1 at U Y|-;have O:=U.hpk R id;have L:=hq.mod U d9;apply ao (fi b) w1 (by simp[go_sem,O,fi]);apply qj L;refine eU ?_;apply ao (fi b) w1 (by simp[go_sem,O,fi]);refine D5 L λb' F' w2 q2 m2 n2=>?_;obtain⟨s,G,hr,Z⟩:=q2.r;have md:M0 w2 w2.drew:=vz;have r:=hr.mod md id λ_ _ _ h=>h;have c0:=r.blk;simp only[fi,bU];refine sB ?_;refine AV c0 ?_;refine sB ?_;refine AV c0 ?_;refine nI [dz (s true),dz (s false)] psU (dB psE) rfl rfl (by intro v hv;simp only[ax,fQ,mP]at hv;rcases hv with rfl|rfl<;>rfl) qZ ?_;have e0:(([dz (s true),dz (s false)]:LV_).flatMap (·.cells.toList)).toArray= #[dz (s true),dz (s false)]:=rfl;rw[e0];have M2:=(U.trans m2).trans md;have h1:=m2.hpk Y id;have h1:=md.hpk h1 id;generalize w2.drew=C at md r c0 M2 h1|-;obtain⟨q,D⟩:=di C.heap.size;have A:M0 C (C.alloc (.cells #[dz (s true),dz (s false)] 239)):=mG;have b4:hC (C.alloc (.cells #[dz (s true),dz (s false)] 239)) q #[dz (s true),dz (s false)] 239:=by rw[D];simp[go_sem]
 rw[<-D];generalize C.alloc (.cells #[dz (s true),dz (s false)] 239)=w4 at A b4|-;have r4:=r.mod A id λ_ _ _ h=>h;have n4:=A.hpk h1 id;have M4:=M2.trans A;refine qW0 ?_;have hs2:=m2.size;have hsd:=md.size;have hs4:=A.size;have hn0l:=aB Y;have hql:=aB b4;have n:∀d x,G d x->W.heap.size<=x/\x<w4.heap.size:=λd x c=>⟨by have:=n2 x ((Z x).2 (.inr (by cases d;exact .inr c;exact .inl c)));omega,r4.lt c⟩
 let g:Nat->Nat:=λi=>if i=0 then 0 else if i=1 then(B true).length else(B true++B false).length
 let St:(Nat->Prop)->List Nat->World->Prop:=λQ ds f=>hC f z #[.func (.yield w) #[] #[]] 256/\hC f q #[dz (s true),dz (s false)] 239/\(∀d,ig f (s d) (G d) d (B d))/\
  (∀d∈ds,hp f d=some (.deferred (some []))/\Q d)/\ds.Nodup/\(∀b,Q b->b<f.heap.size)/\Q z/\Q q/\∀d x,G d x->Q x
 have hJ4:J (λx=>x=z\/x=q\/G true x\/G false x) 0 w4:=h0 _ _ M4 λx c=>by
  rcases c with rfl|rfl|h|h
  ·omega
  ·omega
  ·exact n _ _ h
  ·exact n _ _ h
 refine d8 (λst f=>∃(i:Nat) (Q:NP_) (ds:List Nat),i<=2/\st=((gI i,()),ds)/\J Q (g i) f/\St Q ds f)
  (λst _=>match st.1.1 with| .int _ i=>2 - i.toNat|_=>0) ⟨0,_,[],qZ,rfl,hJ4,n4,b4,r4.sd,λd r=>absurd r fQ,ju,λx c=>?_,.inl rfl,.inr (.inl rfl),λd x c=>by cases d;exact .inr (.inr (.inr c));exact .inr (.inr (.inl c))⟩ ?_
 ·rcases c with rfl|rfl|h|h
  ·omega
  ·omega
  ·exact(n _ _ h).2
  ·exact(n _ _ h).2
 rintro⟨_,ds⟩ W5 ⟨i,Q,ds0,hi,⟨⟩,hJ,k1,k2,k3,k4,k5,k6,k7,k8,k9⟩ KN hKN;refine lV ?_;intro _;by_cases X:i<2
 ·have M:(i:Int)<2:=qZ;refine dY M ?_
  obtain⟨d,r⟩:∃d:Bool,(i=0/\d=true)\/(i=1/\d=false):=by
   by_cases h0:i=0
   ·exact⟨true,.inl ⟨h0,rfl⟩⟩
   ·exact⟨false,.inr ⟨qZ,rfl⟩⟩
  have N:¬(2:Int)<=(i:Int):=qZ;apply ao (bO q i) W5 (by simp[go_sem,X,N,bK]);apply ao (dz (s d)) W5 (by rcases r with⟨rfl,rfl⟩|⟨rfl,rfl⟩<;>simp[go_sem,k2]);refine K8 (k3 d) λgv w6 ht p=>?_;have hs6:=p.size;have V:=m _ Q _ _ _ hJ (p.to) λb R=>⟨.inl R,by grind⟩
  have hoff:g i+(B d).length=g (i+1):=by grind
  refine V7 ?_;refine U7 (XS:=(B true++B false).map λo=>[kx o]) (T:=jG) (fc:=dF) (Q0:=Q) (k:=g i) ht.m oH.od (λa _=>ZW a) m l u ?_ (p.hpk k1 id) ?_ k7 (λb R=>by grind) V ?_ ?_
  ·intro j hj;rcases r with⟨rfl,rfl⟩|⟨rfl,rfl⟩
   ·grind
   ·grind
  ·intro f h;simp[go_sem,h]
  ·intro Q' f dd hdd I y a2 a3 a4 S a6;have t:∀x o,Q x->hp w6 x=some o->hp f x=some o:=λx o c h=>by unfold hp;rw[S x c];exact h
   have hSd:∀d,ig f (s d) (G d) d (B d):=λe=>(((k3 e).mod p d9)).keep λx c=>S x (k9 e x c);refine OT ?_;simp only[jR];apply ao (gI ((i+1:Nat):Int)) f (by simp[go_sem];rw[mR]);refine hKN _ _ ⟨i+1,Q',[dd]++ds,qZ,rfl,by grind,t _ _ k7 (p.hpk k1 id),t _ _ k8 (p.hpk k2 id),hSd,λx c=>?_,?_,a3,y _ k7,y _ k8,λe x c=>y _ (k9 e x c)⟩ (by grind)
   ·rcases ax.1 c with rfl|c
    ·exact⟨a6,a2⟩
    ·exact⟨t _ _ (k4 x c).2 (p.hpk (k4 x c).1 id),y _ (k4 x c).2⟩
   ·grind
  ·intro Q' f dd hdd I y a2 a3 a4 S a6;refine OT ?_;simp only[jR];refine UC (ds:=[dd]++ds) ?_ ?_ λW8 P=>?_
   ·grind
   ·intro x c;rcases ax.1 c with rfl|c
    ·exact a6
    ·unfold hp;rw[S x (k4 x c).2];exact p.hpk (k4 x c).1 id
   ·refine hex _ _ (l _ Q' _ _ I (P.mono λx _ c=>?_) λx c=>⟨.inl c,by have:=a3 x c;have:=P.size;omega⟩);rcases ax.1 c with rfl|c
    ·exact a2
    ·exact y _ (k4 x c).2
 ·obtain rfl:i=2:=qZ;refine eU ?_;refine UC (ds:=ds) k5 (λx c=>(k4 x c).1) λW8 P=>?_;apply H Q _;have e:g 2=((B true++B false).map λo=>[kx o]).length:=by simp[g]
  rw[<-e];exact m _ Q _ _ _ hJ (P.mono λx _ c=>(k4 x c).2) λx c=>⟨.inl c,by have:=k6 x c;have:=P.size;omega⟩
def AF{K:aZ}{b:Nat}{F:NP_}{B:Bk}(h:gg w b F B)
  (f:∀d a,pE d ((B true++B false).map λo=>[kx o]) a->M0 w a->K d a):Ca pQ 61 #[fi b] w K:=by
 unfold fi;refine cN Tryz.func61 ?_;have c:M0 w (w.alloc (.cells #[fi b] 121)):=mG;apply ao (bO w.heap.size 0) (w.alloc (.cells #[fi b] 121)) (by simp[go_sem,fi]);have e:hC (w.alloc (.cells #[fi b] 121)) w.heap.size #[fi b] 121:=by simp[go_sem]
 exact f _ _ ⟨⟨_,TU (b:=b) (vb:=w.heap.size) (B:=B) (T:=121),λW m=>⟨m.hpk e id,F,h.mod (c.trans m) d9⟩⟩,_,_,rfl⟩ c
end Go.Proofs
namespace Go.Proofs
open Go Go.Vc
attribute [local congr] bj
variable {B:Bk}{n:Int}{F:NP_}{b:Nat}{w:Wt_}{K:aZ}
def gg.slt(h:gg w b F B):b<w.heap.size:=h.lt h.self
def gg.nn(h:gg w b F B):∀d,(B d).length<=100/\∀o∈B d,o.may=true/\o.buy=d/\o.Fit:=by
 obtain⟨s,G,a,c⟩:=h.r;exact λd=>⟨(a.sd d).len,(a.sd d).may⟩
def xu(h:gg w b F B)
  (f:∀d c,gg c b d (fq B n).2.1->aR F w c->(∀x,d x->F x\/w.heap.size<=x)->
   K (.tuple #[kx (fq B n).2.2,gI (fq B n).1]) c):Ca pQ 212 #[fi b,gQ n] w K:=by
 obtain⟨s,G,i,g⟩:=h.r;refine GJ i λl c e j k=>f _ _ e.q (j.mono λx _ a=>(g x).2 (.inr a)) λx a=>?_;rcases a with a|a|a
 ·grind
 ·grind
 ·grind
def zb{o:Od}{k:Int}(h:gg w b F B)(i:o.Fit)(l:0<=k/\k<256)
  (m:∀g sT e d,gg d b g (db B o k).2.1->Qh d sT e (db B o k).2.2.trades (db B o k).2.2.gone->aR F w d->(∀x,g x->F x\/w.heap.size<=x)->
   (∀x,aF sT x\/aF e x->w.heap.size<=x/\¬g x)->K (.tuple #[.agg (sw sT e (db B o k).2.2.filled (db B o k).2.2.left),gI (db B o k).1]) d):Ca pQ 155 #[fi b,kx o,gB k] w K:=by
 obtain⟨s,G,p,n⟩:=h.r;have v:=h.slt;refine RA p i l λu sT e d j r q t f=>m _ sT e _ j.q r (q.mono λx _ a=>(n x).2 (.inr a)) (λx a=>?_) λx a=>⟨(f x a).1,λc=>?_⟩
 ·rcases a with a|a|a
  ·grind
  ·grind
  ·grind
 ·rcases c with c|c|c
  ·grind
  ·exact(f x a).2 _ c
  ·exact(f x a).2 _ c
def HS{price left:Int}(h:gg w b F B)(g:ed price)(e:ed left)
  (l:∀j sT f d,gg d b j (cF B n price left).2.1->Qh d sT f (cF B n price left).2.2.trades (cF B n price left).2.2.gone->aR F w d->(∀x,j x->F x\/w.heap.size<=x)->
   (∀x,aF sT x\/aF f x->w.heap.size<=x/\¬j x)->K (.tuple #[.agg (sw sT f (cF B n price left).2.2.filled (cF B n price left).2.2.left),gI (cF B n price left).1]) d):Ca pQ 217 #[fi b,gQ n,gI price,gI left] w K:=by
 obtain⟨s,G,o,m⟩:=h.r;have u:=h.slt;refine JO o g e λt sT f d k q p r i=>l _ sT f _ k.q q (p.mono λx _ a=>(m x).2 (.inr a)) (λx a=>?_) λx a=>⟨(i x a).1,λc=>?_⟩
 ·rcases a with a|a|a
  ·grind
  ·grind
  ·grind
 ·rcases c with c|c|c
  ·grind
  ·exact(i x a).2 _ c
  ·exact(i x a).2 _ c
def Nr(h:gg w b F B)
  (d:∀a,M0 w a->K (.tuple #[kx (match B.find n with|none=>oQ|some (o,_)=>o),gI (match B.find n with|none=>7|some _=>0)]) a):Ca pQ 268 #[fi b,gQ n] w K:=by
 obtain⟨s,G,c,e⟩:=h.r;exact PD c d
def Bk.all(B:Bk):List Od:=B true++B false
def gg.all(h:gg w b F B):B.all.length<=200/\∀o∈B.all,o.may=true/\o.Fit:=by
 have:=h.nn;refine⟨by unfold Bk.all;rw[af];have h1:=(this true).1;have c:=(this false).1;omega,λo a=>?_⟩;rcases bf.1 a with a|a
 ·grind
 ·grind
def lW(a:Int)(o:Od):Bool:=decide (a=0)||decide (o.acct=a)
def uF(a:Int)(B:Bk)(l:List Od):Bk:=l.foldl (λB o=>if lW a o then(fq B o.num).2.1 else B) B
def jk(B:Bk)(a:Int):Bk×List Od:=(uF a B B.all,B.all.filter (lW a))
def Co(a:Int)(B:Bk)(l:List Od)(o:Od):uF a B (l++[o])=if lW a o then(fq (uF a B l) o.num).2.1 else uF a B l:=by
 unfold uF;rw[iV];rfl
def bR{α:Type}{l:List α}{i:Nat}(hi:i<l.length):l.take (i+1)=l.take i++[l[i]]:=by
 rw[fW,av hi];rfl
def T5{a:Int}(h:gg w b F B)
  (hK:∀m sl w',gg w' b m (jk B a).1->qT w' sl (jk B a).2->aR F w w' ->(∀x,m x->F x\/w.heap.size<=x)->(∀x,aF sl x->w.heap.size<=x/\¬m x)->K sl w'):Ca pQ 210 #[fi b,gU a] w K:=by
 unfold fi;refine cN Tryz.func210 ?_;obtain⟨g,r⟩:=di w.heap.size
 have hlay:∃u,((w.alloc (.cells #[fi b] 121)).alloc (.cells #[.int .u32 a] 45) |>.alloc (.cells #[gm] 146))=u/\u.heap.size=g+3/\M0 w u/\
   hC u g #[fi b] 121/\hC u (g+1) #[.int .u32 a] 45/\hC u (g+2) #[gm] 146:=by
  refine⟨_,rfl,by simp[go_sem,r],(mG.alloc _).alloc _,?_,?_,?_⟩<;>simp[go_sem,r]
 obtain⟨u,hw3,hsz3,m3,b0,b1,b2⟩:=hlay;apply ao (bO g 0) (w.alloc (.cells #[fi b] 121)) (by simp[go_sem,fi,r]);refine wL (bO (g+1) 0) r ?_;apply ao (bO (g+2) 0) u (by rw[<-hw3];simp[go_sem,r,gm]);clear hw3;apply ao (fi b) u (by simp[go_sem,b0,fi]);refine AF (h.mod m3 d9) λgv w5 ht V=>?_;have M5:=m3.trans V;have q5:=h.mod M5 d9;have hs5:=V.size;have y:∀x,F x->x<g:=λx c=>by rw[r];exact h.lt c
 have hal:=h.all
 let I:(Nat->Prop)->Nat->World->Prop:=λX i W=>∃m sl,gg W b m (uF a B (B.all.take i))/\qT W sl ((B.all.take i).filter (lW a))/\hC W g #[fi b] 121/\hC W (g+1) #[.int .u32 a] 45/\
  hC W (g+2) #[sl] 146/\(∀x,X x↔(g<=x/\x<g+3)\/m x\/aF sl x)/\(∀x,aF sl x->g+3<=x/\¬m x)/\∀x,m x->F x\/g+3<=x
 refine V7 ?_;refine Ek (X0:=λx=>(g<=x/\x<g+3)\/F x) (T:=jG) (fc:=dF) ht oH.od I (λ_ _ _=>False) ?_ (λ_ _ _ _ _ h=>h.elim) (λx c=>?_) ⟨F,gm,q5,ic.nil _ _ _,V.hpk b0 id,V.hpk b1 id,V.hpk b2 id,λx=>?_,λx c=>(by cases c),λx c=>.inl c⟩ ?_ ?_ (λ_ _ _ _ _ h=>h.elim)
 ·rintro X i W R H ⟨m,sl,M,D,Q,J,C,k,v,A⟩ Z z;exact⟨m,sl,M.mod Z λx c=>z x ((k x).2 (.inr (.inl c))),D.mod Z λx c=>z x ((k x).2 (.inr (.inr c))),Z.hpk Q (z _ ((k _).2 (.inl qZ))),Z.hpk J (z _ ((k _).2 (.inl qZ))),Z.hpk C (z _ ((k _).2 (.inl qZ))),k,v,A⟩
 ·rcases c with c|c
  ·omega
  ·have:=y x c;omega
 ·constructor
  ·rintro(c|c)
   ·exact .inl c
   ·exact .inr (.inl c)
  ·rintro(c|c|c)
   ·exact .inl c
   ·exact .inr c
   ·cases c
 ·rintro X i hi W q ⟨m,sl,M,D,Q,J,C,k,v,A⟩ mW z hdq hqW zgq KN KJ Y hKJ;have p:=zgq;unfold dF at p;obtain⟨o,ho⟩:=di (B.all[i]);have hoo:((B true++B false)[i]'hi)=o:=ho.symm;rw[hoo]at zgq p;have N:=bR (l:=B.all) hi;have S:B.all[i]'hi=o:=ho.symm;rw[S]at N;have hnq:∀x,X x->x≠q:=λx c=>by grind
  refine cT.at (λst R=>st=(.bool (lW a o),())/\R=W) ?_ ?_
  ·apply bo (by simp[-Int.natCast_add,go_sem,J]<;>first|exact xg|exact rfl);by_cases ha:a=0
   ·refine dN ha ?_;rw[kJ];exact⟨by simp[lW,ha],rfl⟩
   ·refine wL (.bool false) ha ?_;rw[jO];refine dN p ?_;apply bo (by simp[-Int.natCast_add,go_sem,p]<;>first|exact xg|exact rfl);apply bo (by simp[-Int.natCast_add,go_sem,J]<;>first|exact xg|exact rfl);apply ao (.bool (decide (o.acct=a))) W (by simp[go_sem];rfl);exact⟨by simp[lW,ha],rfl⟩
  rintro _ R ⟨rfl,rfl⟩;refine kR ?_;intro _;cases hof:lW a o with
  |false=>
   rw[jO];refine Y X R ⟨m,sl,?_,?_,Q,J,C,k,v,A⟩ rZ λx c=>⟨.inl c,by grind⟩
   ·rw[N,Co,aa (by simp[hof])];exact M
   ·grind
  |true=>
   rw[kJ];apply ao (fi b) R (by simp[go_sem,Q,fi]);refine dN p ?_;refine dN p ?_;refine xu M λF2 w6 q6 L n6=>?_;have m6X:aR X R w6:=L.mono λx _ c=>(k x).2 (.inr (.inl c));have G:∀x,m x->X x:=λx c=>(k x).2 (.inr (.inl c))
   have n:∀x,m x->x≠q/\¬(g<=x/\x<g+3):=λx c=>⟨hnq x (G x c),λhc=>by
    rcases A x c with j|j
    ·have:=y x j;omega
    ·omega⟩
   have g5:=L.hpk C λc=>(n _ c).2 qZ;have g3:=L.hpk Q λc=>(n _ c).2 qZ;have g4:=L.hpk J λc=>(n _ c).2 qZ;have gq6:=L.hpk zgq λc=>(n _ c).1 rfl;have o6:=D.mod L λx c=>(v x c).2;obtain⟨sa,sc,t,-⟩:=D.isSl;refine NR sl g5 t ?_;apply bo (lE (o:=o) (At.all gq6));have hs6:=L.size;have hfl:((B.all.take i).filter (lW a)).length<=200:=ck (bh _ _) (by grind);refine wj (x:=o) (f:=dF) ik (dB MY) dV mz rfl o6 qZ qZ λE O o7 P n7=>?_;obtain⟨sa',sc',U,-⟩:=o7.isSl;have hs7:=P.size;have hslq:∀x,aF sl x->x≠q/\g+3<=x/\x<w6.heap.size:=λx c=>⟨hnq x ((k x).2 (.inr (.inr c))),(v x c).1,o6.lt c⟩
   have g5' :=P.hpk g5 λc=>by grind
   have g3' :=P.hpk g3 λc=>by grind
   have g4' :=P.hpk g4 λc=>by grind
   have s:aR (λx=>x=g+2) O (O.setCell ⟨g+2,0,none⟩ E):=(aR.refl (λx=>x=g+2) O).sc;apply nE (O.setCell ⟨g+2,0,none⟩ E) (by rw[U];simp[go_sem,g5']);have g5v:hC (O.setCell ⟨g+2,0,none⟩ E) (g+2) #[E] 146:=by simp[go_sem,g5']
   generalize O.setCell ⟨g+2,0,none⟩ E=w8 at s g5v|-;have hs8:=s.size;have q8:=(q6.mod P λx c hs=>?_).mod s λx c he=>?_
   ·have o8:qT w8 E (List.filter (lW a) (List.take i B.all)++[o]):=o7.mod s λx c he=>by
     rcases n7 x c with j|j
     ·grind
     ·grind
    have hF2:∀x,F2 x->F x\/g+3<=x:=λx c=>by
     rcases n6 x c with j|j
     ·exact A x j
     ·grind
    refine Y (λx=>(g<=x/\x<g+3)\/F2 x\/aF E x) w8 ⟨F2,E,?_,?_,s.hpk g3' qZ,s.hpk g4' qZ,g5v,λx=>aG,λx c=>?_,hF2⟩ ?_ λx c=>?_
    ·rw[N,Co,ae hof];exact q8
    ·grind
    ·rcases n7 x c with j|j
     ·refine⟨(hslq x j).2.1,λhf=>?_⟩;rcases n6 x hf with h2|h2
      ·exact(v x j).2 h2
      ·grind
     ·refine⟨by grind,λhf=>?_⟩;have:=q6.lt hf;omega
    ·refine(m6X.on P λx c=>.inl ((k x).2 (.inr (.inr c)))).on s λx c=>.inl ((k x).2 (.inl qZ))
    ·rcases c with c|c|c
     ·grind
     ·exact⟨(n6 x c).imp (G x) id,by have:=q6.lt c;omega⟩
     ·refine⟨?_,by have:=o8.lt c;omega⟩;rcases n7 x c with j|j
      ·grind
      ·exact gr
   ·rcases n6 x c with j|j
    ·exact(v x hs).2 j
    ·grind
   ·rcases n6 x c with j|j
    ·grind
    ·grind
 ·rintro X W d hd ⟨m,sl,M,D,Q,J,C,k,v,A⟩ mW hdef z;obtain⟨sa,sc,t,-⟩:=D.isSl;have e:B.all.take (B true++B false).length=B.all:=aK;rw[e]at M D;refine OT ?_;simp only[jR];refine nS C t ?_;have s:aR (λx=>x=g+2) W (W.setCell ⟨g+2,0,none⟩ sl):=(aR.refl (λx=>x=g+2) W).sc;apply nE (W.setCell ⟨g+2,0,none⟩ sl) (by rw[t];simp[go_sem,C]);have g5:hC (W.setCell ⟨g+2,0,none⟩ sl) (g+2) #[sl] 146:=by simp[go_sem,C]
  generalize W.setCell ⟨g+2,0,none⟩ sl=W2 at s g5|-;refine zQ (s.hpk hdef qZ) λW3 mr=>?_;have hd3:d=w5.heap.size:=hd;apply lN sl (by have:=mr.hpk g5 qZ;simp[go_sem,this,t])
  have hXd:∀x,X x->x≠d:=λx c=>by
   rcases(z x c).2 with(j|j)|j
   ·omega
   ·have:=y x j;omega
   ·omega
  refine hK m sl W3 ((M.mod s λx c he=>?_).mod mr λx c=>hXd x ((k x).2 (.inr (.inl c)))) ((D.mod s λx c he=>by grind).mod mr λx c=>hXd x ((k x).2 (.inr (.inr c)))) ?_ (λx c=>(A x c).imp id λ_=>qZ) λx c=>⟨by grind,(v x c).2⟩
  ·rcases A x c with j|j
   ·have:=y x j;omega
   ·omega
  ·refine(((M5.to).on mW λx c=>?_).on s λx c=>gr).on mr λx c=>gr;rcases c with c|c
   ·exact gr
   ·exact .inl c
end Go.Proofs
namespace Go.Proofs
open Go Go.Vc
attribute [local congr] bj
def tg(l:List Od)(a:Int)(buy:Bool):Int:=((l.filter λo=>decide (o.acct=a)&& (o.buy==buy)).map (·.left)).sum
def qN(l:List Od)(o:Od)(a:Int)(buy:Bool):tg (l++[o]) a buy=tg l a buy+(if o.acct=a/\o.buy=buy then o.left else 0):=by
 unfold tg;rw[cy,aM,fU];congr 1;by_cases h:o.acct=a/\o.buy=buy
 ·grind
 ·grind
def sZ{l:List Od}{a:Int}{buy:Bool}(h:∀o∈l,1<=o.left/\o.left<=1000000):0<=tg l a buy/\tg l a buy<=l.length*1000000:=by
 have h1:=sL (l:=(l.filter λo=>decide (o.acct=a)&& (o.buy==buy)).map (·.left)) (B:=1000000) λx c=>by
  obtain⟨o,b,rfl⟩:=aL.1 c;have:=h o (aU.1 b).1;omega
 rw[ah]at h1;have d:=bh (λo:Od=>decide (o.acct=a)&& (o.buy==buy)) l;unfold tg;omega
def uT(B:Bk)(a:Int):Int×Int:=(tg B.all a true,tg B.all a false)
def NM{w:Wt_}{K:aZ}{b:Nat}{F:NP_}{B:Bk}{a:Int}(h:gg w b F B)
  (hK:∀w',M0 w w' ->K (.tuple #[.int .i64 (uT B a).1,gI (uT B a).2]) w'):Ca pQ 311 #[fi b,gU a] w K:=by
 unfold fi;refine cN Tryz.func311 ?_;obtain⟨c,k⟩:=di w.heap.size
 have M:∃s,((w.alloc (.cells #[.int .u32 a] 45)).alloc (.cells #[.int .i64 0] 2) |>.alloc (.cells #[.int .i64 0] 2))=s/\s.heap.size=c+3/\M0 w s/\
   hC s c #[.int .u32 a] 45/\hC s (c+1) #[.int .i64 0] 2/\hC s (c+2) #[.int .i64 0] 2:=by
  refine⟨_,rfl,by simp[go_sem,k],(mG.alloc _).alloc _,?_,?_,?_⟩<;>simp[go_sem,k]
 obtain⟨s,J,hsz3,m3,b0,b1,b2⟩:=M;refine wL (bO c 0) k ?_;apply ao (bO (c+1) 0) ((w.alloc (.cells #[.int .u32 a] 45)).alloc (.cells #[.int .i64 0] 2)) (by simp[go_sem,k]);apply ao (bO (c+2) 0) s (by rw[<-J];simp[go_sem,k]);clear J;refine AF (h.mod m3 d9) λgv w5 ht G=>?_;have M5:=m3.trans G;have hs5:=G.size;have Q:=h.all;have t:∀o∈B.all,1<=o.left/\o.left<=1000000:=λo p=>Od.left_bd (Q.2 o p).1
 let I:(Nat->Prop)->Nat->World->Prop:=λX i W=>hC W c #[.int .u32 a] 45/\hC W (c+1) #[.int .i64 (tg (B.all.take i) a true)] 2/\
  hC W (c+2) #[.int .i64 (tg (B.all.take i) a false)] 2/\X=λx=>c<=x/\x<c+3
 refine V7 ?_;refine Ek (X0:=λx=>c<=x/\x<c+3) (T:=jG) (fc:=dF) ht oH.od I (λ_ _ _=>False) ?_ (λ_ _ _ _ _ h=>h.elim) (λx r=>qZ) ⟨G.hpk b0 id,G.hpk b1 id,G.hpk b2 id,rfl⟩ ?_ ?_ (λ_ _ _ _ _ h=>h.elim)
 ·rintro X i W P H ⟨v,n,m,rfl⟩ U D;exact⟨U.hpk v (D _ qZ),U.hpk n (D _ qZ),U.hpk m (D _ qZ),rfl⟩
 ·rintro X i hi W q ⟨v,n,m,rfl⟩ Z D hdq hqW zgq KN KJ u hKJ;unfold dF at zgq;obtain⟨o,p⟩:=di (B.all[i]);have R:((B true++B false)[i]'hi)=o:=p.symm;rw[R]at zgq;have f:=bR (l:=B.all) hi;have E:B.all[i]'hi=o:=p.symm;rw[E]at f;have hb1:=sZ (l:=B.all.take i) (a:=a) (buy:=true) λo p=>t o (bF p);have hb2:=sZ (l:=B.all.take i) (a:=a) (buy:=false) λo p=>t o (bF p);have hb3:=t o (by grind);have Y:(B.all.take i).length<=200:=by grind
  have y:∀(P:Wt_),W.heap.size<=P.heap.size->∀x,c<=x/\x<c+3->((c<=x/\x<c+3)\/W.heap.size<=x)/\x<P.heap.size:=λP hs x r=>⟨.inl r,by grind⟩
  apply bo (by simp[-Int.natCast_add,go_sem,zgq]<;>first|exact xg|exact rfl);apply bo (by simp[-Int.natCast_add,go_sem,zgq]<;>first|exact xg|exact rfl);apply bo (by simp[-Int.natCast_add,go_sem,v]<;>first|exact xg|exact rfl);by_cases A:o.acct=a
  ·refine dN A ?_;rw[jO];refine dN zgq ?_;apply bo (by simp[-Int.natCast_add,go_sem,zgq]<;>first|exact xg|exact rfl);cases g:o.buy with
   |true=>
    rw[kJ];refine dN n ?_;refine dN zgq ?_;refine dN zgq ?_
    refine ao (gI (tg (B.all.take (i+1)) a true)) W (by
     rw[f,qN,ae ⟨A,g⟩];simp[go_sem];rw[mR]) ?_
    refine S6 n ?_;have j:aR (λx=>x=c+1) W (W.setCell ⟨c+1,0,none⟩ (gI (tg (B.all.take (i+1)) a true))):=(aR.refl (λx=>x=c+1) W).sc;have k3:hC (W.setCell ⟨c+1,0,none⟩ (gI (tg (B.all.take (i+1)) a true))) (c+1) #[.int .i64 (tg (B.all.take (i+1)) a true)] 2:=by simp[go_sem,n]
    refine u _ _ ⟨j.hpk v qZ,k3,?_,rfl⟩ (j.mono λx _ r=>qZ) (y _ j.size);have:tg (B.all.take (i+1)) a false=tg (B.all.take i) a false:=by rw[f,qN,aa (by simp[g]),iq]
    rw[this];exact j.hpk m qZ
   |false=>
    rw[jO];refine dN m ?_;refine dN zgq ?_;refine dN zgq ?_
    refine ao (gI (tg (B.all.take (i+1)) a false)) W (by
     rw[f,qN,ae ⟨A,g⟩];simp[go_sem];rw[mR]) ?_
    refine S6 m ?_;have j:aR (λx=>x=c+2) W (W.setCell ⟨c+2,0,none⟩ (gI (tg (B.all.take (i+1)) a false))):=(aR.refl (λx=>x=c+2) W).sc;have k3:hC (W.setCell ⟨c+2,0,none⟩ (gI (tg (B.all.take (i+1)) a false))) (c+2) #[.int .i64 (tg (B.all.take (i+1)) a false)] 2:=by simp[go_sem,m]
    refine u _ _ ⟨j.hpk v qZ,?_,k3,rfl⟩ (j.mono λx _ r=>qZ) (y _ j.size);have:tg (B.all.take (i+1)) a true=tg (B.all.take i) a true:=by rw[f,qN,aa (by simp[g]),iq]
    rw[this];exact j.hpk n qZ
  ·apply wL (.bool true) A;rw[kJ];refine u _ W ⟨v,?_,?_,rfl⟩ rZ (y _ (aD _))
   ·rw[f,qN,aa (λh=>A h.1),iq];exact n
   ·rw[f,qN,aa (λh=>A h.1),iq];exact m
 ·rintro X W d hd ⟨v,n,m,rfl⟩ Z L D;have e:B.all.take (B true++B false).length=B.all:=aK;rw[e]at n m;refine OT ?_;simp only[jR];have md:M0 W W.drew:=vz;have k2:=md.hpk n id;have k3:=md.hpk m id;have kd:=md.hpk L id;generalize W.drew=C at md k2 k3 kd|-;apply UK (gI (tg B.all a true)) k2;apply UK (gI (tg B.all a false)) k3;apply nE (C.setCell ⟨c+1,0,none⟩ (gI (tg B.all a true))) (by simp[go_sem,k2]);have j:aR (λx=>x=c+1) C (C.setCell ⟨c+1,0,none⟩ (gI (tg B.all a true))):=(aR.refl (λx=>x=c+1) C).sc;have j2:hC (C.setCell ⟨c+1,0,none⟩ (gI (tg B.all a true))) (c+1) #[.int .i64 (tg B.all a true)] 2:=by simp[go_sem,k2]
  have N:=j.hpk k3 qZ;have jd:=j.hpk kd qZ;generalize C.setCell ⟨c+1,0,none⟩ (gI (tg B.all a true))=z at j j2 N jd|-;refine⟨by simp[go_sem,N],?_⟩;apply nE (z.setCell ⟨c+2,0,none⟩ (gI (tg B.all a false))) (by simp[go_sem,N]);have O:aR (λx=>x=c+2) z (z.setCell ⟨c+2,0,none⟩ (gI (tg B.all a false))):=(aR.refl (λx=>x=c+2) z).sc;have g3:hC (z.setCell ⟨c+2,0,none⟩ (gI (tg B.all a false))) (c+2) #[.int .i64 (tg B.all a false)] 2:=by simp[go_sem,N]
  have g2:=O.hpk j2 qZ;have V:=O.hpk jd qZ;generalize z.setCell ⟨c+2,0,none⟩ (gI (tg B.all a false))=W3 at O g2 g3 V|-;refine zQ V λW4 S=>?_;have f2:=S.hpk g2 qZ;have f3:=S.hpk g3 qZ;apply UK (gI (tg B.all a true)) f2;refine AV f3 ?_;exact hK W4 (((((M5.on Z λx r=>gr).trans md).on j λx r=>gr).on O λx r=>gr).on S λx r=>gr)
end Go.Proofs
namespace Go.Proofs
open Go Go.Vc
attribute [local congr] bj
abbrev jW:TypeId:=120
abbrev Im:TypeId:=54
def qM:Tryz.prog.underlying Im=some (.slice jW):=cV
def sI:Tryz.prog.cellsOf jW=26+1:=cV
def CP:mh pQ jW=true:=cV
def Zy:nj pQ jW=true:=cV
def ad0:(jf pQ jW).length=26+1:=cV
def eCt:fY pQ jW 27 208=true:=cV
abbrev AH(w:Wt_)(s:Vt_)(l:List Ct):Prop:=ic w jW 27 s l.length (l.flatMap dA)
def sCt(w:Wt_):(Go.sizeOf jW).run pQ w=.ok 27 w:=Go.Vc.lI sI w
def PM:Extern.find Tryz.f261=some (Extern.SlicesOverlaps.overlaps #[Im,Im] #[4]):=cV
def wI{w:Wt_}{K:aZ}{s:Vt_}{l:List Ct}(h:Rd w 27 s l.length (l.flatMap dA))(q:l.length<=1000000)
  (i:∀d e,AH e d l->M0 w e->(∀b,aF d b->w.heap.size<=b)->K d e):Ca pQ 148 #[s] w K:=by
 refine cN Tryz.func148 ?_;obtain⟨a,c,f⟩:=h.isSl;by_cases g:a=none
 ·subst g;apply ao (.bool true) w (by rw[f];simp[go_sem]);rw[kJ]
  have o:l=[]:=by
   obtain⟨-,⟨p,_⟩|⟨b,n,m,j,_⟩⟩:=h
   ·grind
   ·rw[f]at j;cases j
  subst o;exact i _ _ (ic.nil _ _ _) rZ λb k=>by cases k
 ·apply ao (.bool false) w (by rw[f];cases a;exact absurd rfl g;simp[go_sem]);rw[jO];exact ZU qM (dB eCt) h (MS kH l) qZ i
def Gn{w:Wt_}{K:aZ}{s v:Vt_}{l:List Ct}{o:Ct}{i:Nat}(h:AH w s l)(hv:AH w v [o])(hd:∀b,aF s b->¬aF v b)(hi:i<=l.length)(hn:l.length<=1000000)
  (hK:∀s' w',AH w' s' (l.take i++o::l.drop i)->aR (aF s) w w' ->(∀b,aF s' b->aF s b\/w.heap.size<=b)->K s' w'):Ca pQ 202 #[s,gI (i:Int),v] w K:=by
 obtain⟨L,g,vrest,rfl,hvc,J,hvl,hv1⟩:=hv.pos (by simp);simp only[ee]at hvc hvl
 have n:(l.take i++o::l.drop i).length=l.length+1:=by
  rw[af,az,be,bC,dK hi];omega
 have S:([o].flatMap dA)=dA o:=by simp
 refine cN Tryz.func202 ?_;obtain⟨v0,hv0,-,-⟩:=Rd.from_ (P:=pQ) (kl:=.i64) (lo:=i) qM sI (h.rd:Rd w (26+1) s l.length (l.flatMap dA)) hi;apply bo (hv0 w);refine IF ?_;refine eU ?_;obtain⟨sa,sc,hs,-⟩:=h.isSl;apply iI (gI l.length) w (by rw[hs];simp[go_sem]);by_cases hil:i=l.length
 ·have r:(i:Int)=(l.length:Int):=qZ;refine dY r ?_;refine kg qM qM (dB eCt) h hv.rd (MS kH _) (by grind) λs3 y o3 B n3=>?_;refine hK _ _ ?_ B n3;have:l.take i++o::l.drop i=l++[o]:=by grind
  rw[this];unfold AH;rw[cE,af];exact o3
 have r:¬(i:Int)=(l.length:Int):=qZ;refine fF r ?_;obtain⟨b,c,rest,hse,hc,M,hrl,N⟩:=h.pos qZ;clear hs;subst hse;have hne:L≠b:=λe=>hd b rfl (by rw[<-e];rfl);have X:=h.1;apply ao (gI ((l.length+1:Nat):Int)) w (by simp[go_sem];rw[mR]);refine qN1 qM ?_;have A:(l.flatMap dA++rest).length=c*27:=by grind
 by_cases hroom:c<l.length+1
 ·have f:(c:Int)<(l.length:Int)+1:=qZ;refine dY f ?_;apply bo (IN qM sI (show i<=c by omega) qZ w);apply ao (gI ((l.length+1:Nat):Int)) w (by simp[go_sem];rw[mR]);apply ao (gI ((l.length+1 - i:Nat):Int)) w (by simp only[go_sem];simp;rw[mR];omega)
  have hOi:ic w jW (26+1) (.slice (some ⟨b,0,none⟩) i c) i ((l.take i).flatMap dA):=by
   refine⟨by rw[uB bM,az,dK hi],.inr ⟨b,c,(l.flatMap dA++rest).drop (i*27),rfl,qZ,?_,?_,?_⟩⟩
   ·rw[M];congr 2
    have:(l.take i).flatMap dA=(l.flatMap dA++rest).take (i*27):=by
     rw[aO (by rw[X];omega),Ta bM]
    rw[this,cJ]
   ·grind
   ·refine bg.2 λx D=>?_;have D:=gY D;rcases bf.1 D with h1|h1
    ·exact bg.1 (MS kH l) x h1
    ·grind
  refine zL qM Tryz.underlying3 (dB eCt) hOi qZ λs2 C z hz hz1 o2 m2 n2 Y=>?_;obtain⟨mF,nF⟩:=Y _ _ rfl qZ;rw[show i+(l.length+1 - i)=l.length+1 by omega]at o2;obtain⟨m,xE,a,rfl,G,U,V,R⟩:=o2.pos qZ;have T:w.heap.size<=m:=nF m rfl;have hbb:b≠m:=by grind
  apply bo (wO qM sI qZ G qZ C);have hA:((l.take i).flatMap dA).length=i*27:=by rw[uB bM,az,dK hi]
  have hsz2:((l.take i).flatMap dA++z++a).length=xE*27:=by grind
  have hv2:Rd C 27 (.slice (some ⟨L,0,none⟩) 1 g) 1 (dA o):=by
   have:=hv.rd.mod mF d9;rw[S]at this;exact this
  apply qH (sz:=26) (k:=1) qM sI U hv2 (by grind) (by grind) (kH o);have B:aR (λb=>b=m) C (C.setRow m (jp ((l.take i).flatMap dA++z++a) (i*27) ((dA o).take 27)).toArray):=(aR.refl (λb=>b=m) C).setRow (.inl rfl) _;have e5:(dA o).take 27=dA o:=aC (by rw[bM];omega)
  have H:jp ((l.take i).flatMap dA++z++a) (i*27) (dA o)=(l.take i).flatMap dA++dA o++(z++a).drop 27:=by
   unfold jp;rw[ar ((l.take i).flatMap dA) z a,<-hA,dU,bM,<-cL,da]
  have j:(C.setRow m (jp ((l.take i).flatMap dA++z++a) (i*27) ((dA o).take 27)).toArray).heap[m]? =some (.cells ((l.take i).flatMap dA++dA o++(z++a).drop 27).toArray jW (0,0)):=by
   rw[eK,ae rfl,U,e5,H]
  show jC _ _ _;rw[show((l.take i).flatMap dA++z++a).toArray.toList=(l.take i).flatMap dA++z++a from rfl,show 1*(26+1)=27 from rfl];generalize C.setRow m (jp ((l.take i).flatMap dA++z++a) (i*27) ((dA o).take 27)).toArray=y at B j|-;apply du (gI ((i+1:Nat):Int)) (λW=>by simp[go_sem];rw[mR]);apply cx (λW=>wO qM sI (show i+1<=l.length+1 by omega) G qZ W);apply cx (λW=>wO qM sI (show i<=l.length by omega) hc qZ W);have mD:aR (λb=>b=m) C y.drew:=B.drew;have q:y.drew.heap[m]? =some (.cells ((l.take i).flatMap dA++dA o++(z++a).drop 27).toArray jW (0,0)):=j
  have t:Rd y.drew (26+1) (.slice (some ⟨b,i*(26+1),none⟩) (l.length - i) (c - i)) (l.length - i) ((l.drop i).flatMap dA):=by
   have F:At w b 0 (l.flatMap dA):=⟨_,_,_,M,by grind,by simp⟩
   have h1:=F.sub (i*27) ((l.length - i)*27) (by rw[X];omega);rw[V5 bM,aC (by rw[uB bM,bC];exact aD _),cX]at h1;refine⟨by rw[uB bM,bC],.inr ⟨b,i*(26+1),c - i,rfl,qZ,?_⟩⟩;exact(h1.mod mF id).mod mD λe=>hbb e
  have hsz3:((l.take i).flatMap dA++dA o++(z++a).drop 27).length=xE*27:=by
   rw[af,af,hA,bM,bC,af,hz,V];omega
  apply qH (sz:=26) (k:=l.length - i) qM sI q t (by grind) (by grind) (MS kH _);have u:((l.drop i).flatMap dA).length=(l.length - i)*27:=by rw[uB bM,bC]
  have I:jp ((l.take i).flatMap dA++dA o++(z++a).drop 27) ((i+1)*(26+1)) (((l.drop i).flatMap dA).take ((l.length - i)*(26+1)))=(l.take i++o::l.drop i).flatMap dA++a:=by
   have hAo:((l.take i).flatMap dA++dA o).length=(i+1)*(26+1):=by grind
   have e2:((l.drop i).flatMap dA).take ((l.length - i)*(26+1))=(l.drop i).flatMap dA:=aC (by grind);rw[e2];unfold jp;rw[<-hAo,dU,u,<-cL,da,cL];rw[show 27+(l.length - i)*27=z.length by rw[hz];omega,da];simp[ar]
  refine hK _ _ ⟨by grind,.inr ⟨m,xE,a,by rw[n],by rw[n];exact G,?_,by grind,R⟩⟩ ?_ λZ p=>?_
  ·rw[eK,ae rfl,q];show some (Obj.cells (jp ((l.take i).flatMap dA++dA o++(z++a).drop 27) ((i+1)*(26+1)) (((l.drop i).flatMap dA).take ((l.length - i)*(26+1)))).toArray jW (0,0))=_;rw[I]
  ·exact((mF.to).on mD λZ p=>.inr (by grind)).setRow (.inr T) _
  ·grind
 ·have f:¬(c:Int)<(l.length:Int)+1:=qZ;refine fF f ?_;apply ao (gI ((l.length+1:Nat):Int)) w (by simp[go_sem];rw[mR]);apply bo (IN qM sI (show l.length+1<=c by omega) qZ w);apply ao (gI ((i+1:Nat):Int)) w (by simp[go_sem];rw[mR]);apply bo (wO qM sI (show i+1<=l.length+1 by omega) qZ qZ w)
  have hov:(callFunc 261 #[.slice (some ⟨L,0,none⟩) 1 g,.slice (some ⟨b,(i+1)*(26+1),none⟩) (l.length+1 - (i+1)) (c - (i+1))]).run pQ w=.ok (.value (.bool false)) w:=by
   rw[run_callFunc_extern Tryz.func261 cV cV cV PM];rw[Lib.run_overlaps_apart w Im 4 jW qM 27 sCt ⟨L,0,none⟩ ⟨b,(i+1)*(26+1),none⟩ 1 g _ _ hne jW jW _ _ (shp J) (shp M) (by grind) (KA J _) (KA J _)];rfl
  refine⟨?_⟩;show rn pQ (callFunc 261 #[.slice (some ⟨L,0,none⟩) 1 g,.slice (some ⟨b,(i+1)*(26+1),none⟩) (l.length+1 - (i+1)) (c - (i+1))]) w _;apply uz hov;refine lh ?_;apply du (gI ((i+1:Nat):Int)) (λW=>by simp[go_sem];rw[mR]);apply cx (λW=>wO qM sI (show i+1<=l.length+1 by omega) qZ qZ W);apply cx (λW=>wO qM sI (show i<=l.length+1 by omega) qZ qZ W);have q:w.drew.heap[b]? =some (.cells (l.flatMap dA++rest).toArray jW (0,0)):=M;have O:27<=rest.length:=by rw[hrl];omega
  have t:Rd w.drew (26+1) (.slice (some ⟨b,i*(26+1),none⟩) (l.length+1 - i) (c - i)) (l.length+1 - i) ((l.drop i).flatMap dA++rest.take 27):=by
   have F:At w b 0 (l.flatMap dA++rest):=At.all (bT M);have h1:=F.sub (i*27) ((l.length+1 - i)*27) (by rw[A];omega);rw[dq (by rw[X];omega),V5 bM,cX]at h1
   have e1:((l.drop i).flatMap dA++rest).take ((l.length+1 - i)*27)=(l.drop i).flatMap dA++rest.take 27:=by
    have hd:((l.drop i).flatMap dA).length=(l.length - i)*27:=by rw[uB bM,bC]
    rw[show(l.length+1 - i)*27=((l.drop i).flatMap dA).length+27 by rw[hd];omega,iO]
   rw[e1]at h1;refine⟨by rw[af,uB bM,bC,az,dK O];omega,.inr ⟨b,i*(26+1),c - i,rfl,qZ,h1.keep rfl⟩⟩
  have u:((l.drop i).flatMap dA).length=(l.length - i)*27:=by rw[uB bM,bC]
  apply qH (sz:=26) (k:=l.length - i) qM sI q t (by grind) (by rw[dv,A];omega) (by rw[eB,MS kH];exact bg.2 λx D=>bg.1 N x (bF D));have hA:((l.take i).flatMap dA).length=i*27:=by rw[uB bM,az,dK hi]
  obtain⟨d,Q,E⟩:∃d:List Value,l.flatMap dA++rest=(l.take i).flatMap dA++(d++((l.flatMap dA++rest).drop ((i+1)*27)))/\d.length=27:=by
   refine⟨((l.flatMap dA++rest).drop (i*27)).take 27,?_,by grind⟩;have e1:(l.take i).flatMap dA=(l.flatMap dA++rest).take (i*27):=by rw[aO (by rw[X];omega),Ta bM]
   rw[e1,show(i+1)*27=i*27+27 by omega,<-cL,cJ,cJ]
  have H:jp (l.flatMap dA++rest) ((i+1)*(26+1)) (((l.drop i).flatMap dA++rest.take 27).take ((l.length - i)*(26+1)))=(l.take i).flatMap dA++d++((l.drop i).flatMap dA++rest.drop 27):=by
   have e2:((l.drop i).flatMap dA++rest.take 27).take ((l.length - i)*(26+1))=(l.drop i).flatMap dA:=by
    rw[show(l.length - i)*(26+1)=((l.drop i).flatMap dA).length by rw[u],dU]
   have e3:(l.flatMap dA++rest).take ((i+1)*(26+1))=(l.take i).flatMap dA++d:=by
    rw[Q,<-ar,show(i+1)*(26+1)=((l.take i).flatMap dA++d).length by grind,dU]
   have e4:(l.flatMap dA++rest).drop ((i+1)*(26+1)+(l.length - i)*27)=rest.drop 27:=by
    rw[show(i+1)*(26+1)+(l.length - i)*27=(l.flatMap dA).length+27 by rw[X];omega,<-cL,da]
   unfold jp;rw[e2,u,e3,e4];simp[ar]
  have B:aR (aF (.slice (some ⟨b,0,none⟩) l.length c)) w (w.drew.setRow b (jp (l.flatMap dA++rest) ((i+1)*(26+1)) (((l.drop i).flatMap dA++rest.take 27).take ((l.length - i)*(26+1)))).toArray):=vz.setRow (.inl (show aF (.slice (some ⟨b,0,none⟩) l.length c) b from rfl)) _
  have j:(w.drew.setRow b (jp (l.flatMap dA++rest) ((i+1)*(26+1)) (((l.drop i).flatMap dA++rest.take 27).take ((l.length - i)*(26+1)))).toArray).heap[b]? =some (.cells ((l.take i).flatMap dA++d++((l.drop i).flatMap dA++rest.drop 27)).toArray jW (0,0)):=by
   rw[eK,ae rfl,q,H]
  rw[show(l.flatMap dA++rest).toArray.toList=l.flatMap dA++rest from rfl];generalize w.drew.setRow b (jp (l.flatMap dA++rest) ((i+1)*(26+1)) (((l.drop i).flatMap dA++rest.take 27).take ((l.length - i)*(26+1)))).toArray=y at B j|-;apply bo (wO qM sI (show i<=l.length+1 by omega) qZ qZ y)
  have hv3:Rd y 27 (.slice (some ⟨L,0,none⟩) 1 g) 1 (dA o):=by
   have:=hv.rd.mod B λZ p hs' =>hd Z hs' p.sl;rw[S]at this;exact this
  apply qH (sz:=26) (k:=1) qM sI j hv3 (by grind) (by grind) (kH o)
  have I:jp ((l.take i).flatMap dA++d++((l.drop i).flatMap dA++rest.drop 27)) (i*(26+1)) ((dA o).take (1*(26+1)))=(l.take i++o::l.drop i).flatMap dA++rest.drop 27:=by
   have e5:(dA o).take (1*(26+1))=dA o:=aC (by rw[bM];omega);rw[e5];unfold jp;rw[bM,show i*(26+1)=((l.take i).flatMap dA).length by rw[hA],ar ((l.take i).flatMap dA) d,dU,<-cL,da,<-E,da];simp[ar]
  refine hK _ _ ⟨by rw[uB bM,n],.inr ⟨b,c,rest.drop 27,by rw[n],by rw[n];omega,?_,by grind,bg.2 λx D=>bg.1 N x (gY D)⟩⟩ (B.setRow (.inl (show aF (.slice (some ⟨b,0,none⟩) l.length c) b from rfl)) _) λZ p=>.inl p;show(y.setRow b (jp ((l.take i).flatMap dA++d++((l.drop i).flatMap dA++rest.drop 27)) (i*(26+1)) ((dA o).take (1*(26+1)))).toArray).heap[b]? =_;rw[eK,ae rfl,j,I]
end Go.Proofs
namespace Go.Proofs
open Go Go.Vc
attribute [local congr] bj
variable {n:Int}{l:List Ct}{F:NP_}{c:Nat}{w:Wt_}{K:aZ}
structure oR where
 day:Int
 l:List Ct
variable {S:oR}
def Ct.Ok(k:Ct):Prop:=k.Fit/\k.spec.may=true/\k.spec.isPrice k.price=true/\1<=k.st/\k.st<=3
def iR(l:List Ct)(n:Int):Nat:=(l.takeWhile λk=>decide (k.spec.num<n)).length
def cj(l:List Ct)(n:Int):Option Ct:=l.find? λk=>decide (k.spec.num=n)
def nQ(l:List Ct):Prop:=l.Pairwise λa b=>a.spec.num<b.spec.num
structure mC(w:Wt_)(c:Nat)(F:NP_)(S:oR):Prop where
 out:∃sl,hC w c #[.bool true,gU S.day,sl] 172/\AH w sl S.l/\(∀x,F x↔x=c\/aF sl x)/\¬aF sl c
 len:S.l.length<=16
 day:iU S.day
 ok:∀k∈S.l,k.Ok
 srt:nQ S.l
def mC.mod{G:NP_}{w' :Wt_}(h:mC w c F S)(e:aR G w w')(d:∀b,F b->¬G b):mC w' c F S:=by
 obtain⟨⟨sl,h1,f,a,i⟩,k,m,j,l⟩:=h;exact⟨⟨sl,e.hpk h1 (d c ((a c).2 (.inl rfl))),f.mod e λb g=>d b ((a b).2 (.inr g)),a,i⟩,k,m,j,l⟩
def mC.lt(h:mC w c F S){b:Nat}(a:F b):b<w.heap.size:=by
 obtain⟨⟨sl,h1,d,e,f⟩,g⟩:=h;rcases(e b).1 a with rfl|a
 ·exact aB h1
 ·exact d.lt a
def fO(c:Nat):Value:=bO c 0
def Dr(s:Sp):(eV s)[23]? =some (gU s.last):=by have:=Wy s [];rwa[aN]at this
def ae7(s:Sp):(eV s)[24]? =some (gI s.first):=by have:=SX s [];rwa[aN]at this
def ctT(k:Ct)(i:Nat)(h:i<25):(dA k)[i]? =(eV k.spec)[i]? :=by
 rw[dA,cg (by rw[br];omega)]
def P3(k:Ct):(dA k)[0]? =some (gU k.spec.num):=rfl
def Wu(k:Ct):(dA k)[23]? =some (gU k.spec.last):=by rw[ctT k 23 qZ,Dr]
def C7(k:Ct):(dA k)[25]? =some (gB k.st):=by have:=WB k [];rwa[aN]at this
def Qt(k:Ct):(dA k)[26]? =some (gI k.price):=by have:=Wc k [];rwa[aN]at this
def VS(k:Ct)(w:Wt_):∃a,(Instr.box jW (.agg (dA k).toArray)).run pQ w=.ok (bO w.heap.size 0) a/\hC a w.heap.size (dA k).toArray jW/\M0 w a:=
 ⟨w.alloc (.cells (dA k).toArray jW),rfl,by simp[go_sem],(aR.refl _ w).alloc _⟩
def NQ(d:∀c F a,mC a c F ⟨0,[]⟩->M0 w a->(∀b,F b->w.heap.size<=b)->K (fO c) a):Ca pQ 33 #[] w K:=by
 refine cN Tryz.func33 ?_;refine dI ?_;apply ao (fO w.heap.size) (w.alloc (.cells #[.bool true,gU 0,.slice none 0 0] 172)) rfl;exact d _ (λx=>x=w.heap.size) _ ⟨⟨.slice none 0 0,by simp[go_sem],ic.nil _ _ _,λx=>⟨λh=>.inl h,λh=>h.elim id λh=>by cases h⟩,λh=>by cases h⟩,by simp,⟨by simp,by simp⟩,by simp,List.Pairwise.nil⟩ mG λb e=>by omega
def qn(h:mC w c F S)(a:K (.bool true) w):Ca pQ 152 #[fO c] w K:=by
 obtain⟨⟨sl,h1,b,f,d⟩,e⟩:=h;unfold fO;refine cN Tryz.func152 ?_;refine lh ?_;simp only[bU];refine dI ?_;refine dN h1 ?_;exact a
def twG{α:Type}{l:List α}{p:α->Bool}{j:Nat}(b:j<l.length)(h:∀o∈l.take j,p o=true)(a:p l[j]=false):l.takeWhile p=l.take j:=by
 induction l generalizing j with
 |nil=>simp at b
 |cons x l c=>
  cases j with
  |zero=>simp at a;simp[a]
  |succ j=>
   simp only[ij,ax,forall_eq_or_imp]at h;rw[List.takeWhile_cons_of_pos h.1,ij,c (by simpa using b) h.2 (by simpa using a)]
def twA{α:Type}{l:List α}{p:α->Bool}(h:∀o∈l,p o=true):l.takeWhile p=l:=by
 induction l with
 |nil=>rfl
 |cons x l b=>rw[List.takeWhile_cons_of_pos (h x (by simp)),b λo a=>h o (by simp[a])]
def Bu{i:Nat}(hi:i<=l.length)(h1:∀j (a:j<l.length),j<i->l[j].spec.num<n)(d:∀(a:i<l.length),¬l[i].spec.num<n):iR l n=i:=by
 unfold iR;by_cases c:i<l.length
 ·rw[twG (p:=λk:Ct=>decide (k.spec.num<n)) c (λo b=>?_) (by simpa using d c),az,dK hi];obtain⟨j,a,rfl⟩:=bQ b;rw[az]at a;rw[List.getElem_take];simpa using h1 j qZ qZ
 ·rw[twA λo b=>?_]
  ·omega
  ·obtain⟨j,a,rfl⟩:=bQ b;simpa using h1 j a qZ
def Ox(hs:nQ l){n:Int}{i:Nat}(h1:∀j (a:j<l.length),j<i->l[j].spec.num<n)(hi:i<l.length)(e:¬l[i].spec.num<n):
  cj l n=if l[i].spec.num=n then some l[i]else none:=by
 unfold cj;by_cases b:l[i].spec.num=n
 ·rw[ae b,dP];refine⟨by simpa using b,i,hi,rfl,λj a=>?_⟩;have:=h1 j qZ a;simp;omega
 ·rw[aa b,dZ];intro k c;obtain⟨j,a,rfl⟩:=bQ c;simp only[aS];intro d;rcases Nat.lt_trichotomy j i with h|h|h
  ·grind
  ·subst h;exact b d
  ·have:=bP.1 hs i j hi a h;omega
def J7(h1:∀j (a:j<l.length),l[j].spec.num<n):cj l n=none:=by
 unfold cj;rw[dZ];intro k b;obtain⟨j,a,rfl⟩:=bQ b;have:=h1 j a;simp;omega
def Gf{k:Ct}(a:∀d,M0 w d->K (gI (if k.spec.num<n then -1 else if n<k.spec.num then 1 else 0)) d):Ca pQ 260 #[.agg (dA k).toArray,gU n] w K:=by
 refine cN Tryz.func260 ?_;obtain⟨g,e,c,f⟩:=VS k w;have a:=a _ f;apply bo e;refine dI ?_;refine dI ?_;refine nS c P3 ?_;by_cases h1:k.spec.num<n
 ·refine dY h1 ?_;rw[ae h1]at a;exact a
 ·refine fF h1 ?_;rw[aa h1]at a;refine dI ?_;refine dI ?_;refine nS c P3 ?_;by_cases b:n<k.spec.num
  ·refine dY b ?_;rw[ae b]at a;exact a
  ·refine fF b ?_;rw[aa b]at a;exact a
def VO{i j:Nat}(h:i<j)(a:j<=1000000)(w:Wt_):∃x,(convert 3 263 (gI ((i:Int)+(j:Int)))).run pQ w=.ok x w/\∃y,(io .shr 263 true x (gQ 1)).run pQ w=.ok y w/\(convert 263 3 y).run pQ w=.ok (gI (((i+j) / 2:Nat):Int)) w:=by
 refine⟨.int .u64 (((i+j:Nat):Int)),?_,gQ (((i+j) / 2:Nat):Int),?_,?_⟩
 ·simp[go_sem];rw[IntKind.wrap_u64];omega
 ·simp[go_sem,jx]
 ·simp[go_sem];rw[bV];omega
def Uy{s:Vt_}(h:Rd w 27 s l.length (l.flatMap dA))(hn:l.length<=1000)(hs:nQ l)
  (P:∀M,M0 w M->K (.tuple #[.int .i64 (iR l n),.bool (cj l n).isSome]) M):Ca pQ 259 #[s,gU n,.func (.func 260) #[] #[]] w K:=by
 refine cN Tryz.func259 ?_;obtain⟨a,c,E⟩:=h.isSl;apply iI (gI (l.length:Int)) w (by rw[E];simp[go_sem])
 refine d8 (λst W=>∃i j:Nat,i<=j/\j<=l.length/\st=(gI i,gI j,())/\M0 w W/\(∀x (d:x<l.length),x<i->l[x].spec.num<n)/\∀x (d:x<l.length),j<=x->¬l[x].spec.num<n)
  (λst _=>match st.1,st.2.1 with| .int _ i,.int _ j=>j.toNat - i.toNat|_,_=>0) ⟨0,l.length,qZ,qZ,rfl,rZ,λx d h=>qZ,λx d h=>qZ⟩ ?_
 rintro⟨_,_,_⟩ W ⟨i,j,T,v,⟨⟩,f,z,N⟩ KN t;refine lV ?_;intro _
 have e:∀W,M0 w W->∀x (d:x<l.length),∃p,(iX Im s (gI (x:Int))).run pQ W=.ok p W/\(qE jW p).run pQ W=.ok (.agg (dA l[x]).toArray) W:=λW f x d=>by
  obtain⟨b,G,U,C,Q,V⟩:=(h.mod f d9).item bM d rfl;exact⟨.pointer (some ⟨b,G+x*27,none⟩),by rw[C];simp[go_sem,d,bK,qM],jh CP sI (bM _) V⟩
 by_cases B:i<j
 ·have r:(i:Int)<(j:Int):=qZ;refine dY r ?_;apply ao (gI ((i:Int)+(j:Int))) W (by simp[go_sem];rw[mR]);obtain⟨x,Z,y,X,e3⟩:=VO B qZ W;apply bo Z;apply bo X;apply bo e3;obtain⟨m,Y⟩:=di ((i+j) / 2);rw[<-Y];have k:m<l.length:=qZ;obtain⟨p,F,J⟩:=e W f m k;apply bo F;apply kY J;simp only[eX];refine Gf λD H=>?_;have R:=f.trans H;by_cases A:l[m].spec.num<n
  ·rw[ae A];refine lh ?_;apply ao (gI ((m+1:Nat):Int)) D (by simp[go_sem];rw[mR]);refine t _ _ ⟨m+1,j,qZ,v,rfl,R,λx d I=>?_,N⟩ (by grind);by_cases q:x=m
   ·subst q;exact A
   ·have:=bP.1 hs x m d k qZ;omega
  ·rw[aa A];have L:¬((if n<l[m].spec.num then 1 else 0:Int)<0):=by split<;>omega
   refine fF L ?_;refine t _ _ ⟨i,m,qZ,qZ,rfl,R,z,λx d I=>?_⟩ (by grind);by_cases q:x=m
   ·subst q;exact A
   ·have:=bP.1 hs m x k d qZ;omega
 ·obtain rfl:i=j:=qZ;refine eU ?_;by_cases o:i<l.length
  ·have u:(i:Int)<(l.length:Int):=qZ;refine dY u ?_;obtain⟨p,F,J⟩:=e W f i o;apply bo F;apply kY J;simp only[eX];have g:=N i o (aD _);refine Gf λD H=>?_;rw[aa g];refine ao (.bool (cj l n).isSome) D ?_ ?_
   ·rw[Ox hs z o g];by_cases q:l[i].spec.num=n
    ·simp[go_sem,q]
    ·have d:n<l[i].spec.num:=qZ;simp[go_sem,q,d]
   have:=Bu v z λv=>g;rw[<-this];exact P _ (f.trans H)
  ·obtain rfl:i=l.length:=qZ;refine eU ?_;have h1:iR l n=l.length:=Bu v z λv=>by omega
   have S:=J7 λx d=>z x d d;have O:=P _ f;rw[h1,S]at O;exact O
end Go.Proofs
