/- Part of a proof. -/
import Derived.Test.YtekbnpagidkbbaaGreatT10
set_option linter.all false
set_option maxRecDepth 100000
set_option maxHeartbeats 4000000
namespace Go.Proofs
open Go Go.Vc
attribute [local congr] bj
variable {w:Wt_}
def Vt{gv:Vt_}{α:Type}{xs:List α}{XS:List (List Value)}{T TF:TypeId}{fv:α->Value}{fc:α->List Value}{u:List Nat->Option Code->World->Prop}{Q0:NP_}{yl n0 k:Nat}
  {J:(Nat->Prop)->Nat->World->Prop}{Js:(Nat->Prop)->World->Prop}
  (ht:uK gv (xs.map λa=>[fv a]) w)(hv:oC T fv fc xs)
  (hld:∀a∈xs,∀(W:Wt_) q,hC W q (fc a).toArray T->(iL T (cU q 0)).run pQ W=.ok (fv a) W)
  (s:∀Q p i W e,J Q i W->bn Q W e->(∀b,p b->(Q b\/W.heap.size<=b)/\b<e.heap.size)->J p i e)
  (y:∀Q p W e,Js Q W->bn Q W e->(∀b,p b->(Q b\/W.heap.size<=b)/\b<e.heap.size)->Js p e)
  (R:∀Q i x W,XS[i]? =some x->J Q i W->∀K' :be,(∀e,J Q (i+1) e->W.heap.size<=e.heap.size->(∀b,Q b->e.heap[b]? =W.heap[b]?)->K' (.bool true) e)->(∀e,Js Q e->W.heap.size<=e.heap.size->(∀b,Q b->e.heap[b]? =W.heap[b]?)->K' (.bool false) e)->om pQ (.func (.yield yl) #[] #[]) x W K')
  (hxs:∀i (hi:i<xs.length),XS[k+i]? =some [fv xs[i]])
  (hy:hC w n0 #[.func (.yield yl) #[] #[]] TF)(hyl:∀W,hp W n0=some (.cells #[.func (.yield yl) #[] #[]] TF (0,0))->(iL TF (cU n0 0)).run pQ W=.ok (.func (.yield yl) #[] #[]) W)
  (hn0:Q0 n0)(hQ0:∀b,Q0 b->b<w.heap.size)(hJ0:J Q0 k w)
  (hend:∀Q W d,d=w.heap.size->J Q (k+xs.length) W->(∀b,Q0 b->Q b)->Q d->(∀b,Q b->b<W.heap.size)->(∀b,Q b->Q0 b\/w.heap.size<=b)->(∀b,Q0 b->W.heap[b]? =w.heap[b]?)->hp W d=some (.deferred (some []))->u [d] none W)
  (Y:∀Q W d,d=w.heap.size->Js Q W->(∀b,Q0 b->Q b)->Q d->(∀b,Q b->b<W.heap.size)->(∀b,Q b->Q0 b\/w.heap.size<=b)->(∀b,Q0 b->W.heap[b]? =w.heap[b]?)->hp W d=some (.deferred (some []))->u [d] (some .ret) W):
  HD pQ none gv w 1 (λl x W KN KJ=>rv pQ (iA T true (.tuple #[])) W λv w1=>ru pQ (iS T v (x.getD 0 undef)) w1 λw2=>qr l w2 λw3=>
   rv pQ (iL TF (cU n0 0)) w3 λv41 w42=>rv pQ (iL T v) w42 λv43 w44=>om pQ v41 [v43] w44 λv45 w46=>rv pQ (Op.unary .not v45) w46 λv47 w48=>xe v47 (KJ .ret w48) (KN w48)) u:=by
 obtain⟨⟨Ok,hit,hok⟩,-⟩:=ht;obtain⟨f,first,captured,rfl,hit0⟩:=hit.out;apply rG.2;show∀g:Loop,_;intro g n G hD hY;obtain⟨d,C⟩:=dW w.heap.size;have P:(w.alloc (.deferred (some []))).heap.size=d+1:=by rw[ci,C]
 obtain⟨wr,F⟩:=dW ((w.alloc (.deferred (some []))).alloc (.loop g));have O:wr.heap[d+1]? =some (.loop g):=by rw[F,dZ,ab P.symm]
 have hszr:wr.heap.size=d+2:=by rw[F,ci,P]
 have X:hp wr d=some (.deferred (some [])):=by rw[F];simp[go_sem,C]
 have hmr:M0 w wr:=by rw[F];exact nl.alloc _
 have m:∀(W:Wt_) (o:Obj),bn (λb=>b=d+1) W (W.putObj (d+1) o):=λW o=>(bn.refl (λb=>b=d+1) W).putObj (b:=d+1) (.inl rfl) o;rw[P]at hY|-;rw[<-F];let U:(Nat->Prop)->Nat->Prop:=λQ b=>Q0 b\/b=d\/b=d+1\/Q b;let S:(Nat->Prop)->World->Prop:=λQ W=>hp W d=some (.deferred (some []))/\(∀b,Q b->d+1<b/\b<W.heap.size)/\∀b,Q0 b->W.heap[b]? =w.heap[b]?
 have hS:∀(Q p H:NP_) (W e:Wt_),S Q W->d+2<=W.heap.size->bn H W e->(∀b,H b->Q b\/b=d+1)->(∀b,p b->(Q b\/W.heap.size<=b)/\b<e.heap.size)->S p e:=by
  rintro Q p H W e ⟨s1,s2,s3⟩ hl j hH A;refine⟨j.hpk s1 λc=>?_,λb c=>?_,λb c=>?_⟩
  ·rcases hH _ c with h|h
   ·have:=s2 _ h;omega
   ·omega
  ·have ha:=A b c;rcases ha.1 with h|h
   ·grind
   ·grind
  ·have hbl:=hQ0 b c;rw[j.blk b qZ λhx=>?_,s3 b c];rcases hH _ hx with h|h
   ·have:=s2 _ h;omega
   ·omega
 have M:∀(Q p:NP_) (W e:Wt_),d+2<=W.heap.size->W.heap.size<=e.heap.size->(∀b,p b->(Q b\/W.heap.size<=b)/\b<e.heap.size)->∀b,U p b->(U Q b\/W.heap.size<=b)/\b<e.heap.size:=by
  rintro Q p W e K I t b (h|h|h|h)
  ·grind
  ·grind
  ·grind
  ·grind
 have z:∀{H Q:NP_} {W e:Wt_},bn H W e->(∀b,H b->Q b\/b=d+1)->bn (U Q) W e:=λj hH=>j.mono λb _ c=>by
  rcases hH b c with h|h
  ·grind
  ·grind
 refine hit0 _ (λQ i W=>J (U Q) (k+i) W/\S Q W/\W.heap[d+1]? =some (.loop g))
  (λQ W=>∃r,Js (U Q) W/\S Q W/\W.heap[d+1]? =some (.loop r)/\r.state=.done/\r.pending=some .ret) _ _ (hok _ hmr) ?_ ?_ ?_ ?_ ?_ ?_
 ·intro Q W1 j hQ;have hs1:=j.size;refine⟨s _ _ _ _ _ hJ0 ((hmr.trans j).to) ?_,⟨j.hpk X id,λb c=>by grind,λb c=>?_⟩,j.keep O id⟩
  ·rintro b (h|h|h|h)
   ·grind
   ·grind
   ·grind
   ·grind
  ·exact(hmr.trans j).blk b (hQ0 b c) id
 ·rintro Q p i W e ⟨K,I,t⟩ j A;have hl:=aJ t;exact⟨s _ _ _ _ _ K (z j λb c=>.inl c) (M Q p W e qZ j.size A),hS _ _ _ _ _ I qZ j (λb c=>.inl c) A,j.keep t λc=>by grind⟩
 ·rintro Q p W e ⟨r,K,I,t,h4⟩ j A;have hl:=aJ t;exact⟨r,y _ _ _ _ K (z j λb c=>.inl c) (M Q p W e qZ j.size A),hS _ _ _ _ _ I qZ j (λb c=>.inl c) A,j.keep t λc=>by grind,h4⟩
 ·rintro Q i x W hx ⟨K,I,t⟩ K' hT hF;apply jf.2;show Yl pQ (d+1) ⟨_⟩ W K';have e1:(#[]:Array Value).toList++x=x:=rfl;rw[e1]
  obtain⟨hi,rfl⟩:∃hi:i<xs.length,x=[fv xs[i]]:=by
   rw[bY]at hx;cases hh:xs[i]? with
   |none=>rw[hh]at hx;cases hx
   |some o=>
    obtain⟨hj,he⟩:=aF.1 hh;rw[hh]at hx;exact⟨hj,by grind⟩
  apply hY _ W K' rfl ⟨g.state,g.pending,t⟩;obtain⟨w1,w2,v1,v2,v3,v4⟩:=hv xs[i] (ar hi) W;obtain⟨q,hq0⟩:=dW W.heap.size;rw[<-hq0]at v1 v2 v3;apply dy v1;show ru pQ (iS T (cU q 0) (fv xs[i])) w1 _;apply lO v2;have r2:w2.heap[d+1]? =some (.loop g):=v4.keep t id;apply pu r2 n;have m3:=m w2 (.loop {g with state:=.busy});have r3:(w2.putObj (d+1) (.loop {g with state:=.busy})).heap[d+1]? =some (.loop {g with state:=.busy}):=by rw[dJ,ab rfl,r2];rfl
  generalize w2.putObj (d+1) (.loop {g with state:=.busy})=w3 at m3 r3|-;have hdl:d+1<q:=by grind
  have q3:=m3.hpk v3 qZ;have hs3:=m3.size;have hs4:=v4.size;have M3:bn (λb=>b=d+1) W w3:=(v4.to).trans m3;have hQs:∀(e:Wt_),W.heap.size<=e.heap.size->∀b,Q b->(Q b\/W.heap.size<=b)/\b<e.heap.size:=λe hs b c=>⟨.inl c,by grind⟩
  have hJ3:=s _ _ _ _ _ K (z (Q:=Q) M3 λb c=>.inr c) (M Q Q W w3 qZ M3.size (hQs _ M3.size));have hS3:=hS _ _ _ _ _ I qZ M3 (λb c=>.inr c) (hQs _ M3.size);refine dy (hyl _ ?_) ?_
  ·have:=hS3.2.2 n0 hn0;unfold hp;rw[this];exact hy
  apply dy (hld xs[i] (ar hi) _ _ q3)
  have L:∀(e:Wt_) (o:Obj),w3.heap.size<=e.heap.size->(∀b,U Q b->e.heap[b]? =w3.heap[b]?)->
    e.heap[d+1]? =some (.loop {g with state:=.busy})/\S Q (e.putObj (d+1) o)/\(∀b,Q b->(e.putObj (d+1) o).heap[b]? =W.heap[b]?)/\W.heap.size<=(e.putObj (d+1) o).heap.size:=by
   intro e o hs B;have Z:=m e o;have hsp:=Z.size;have hs' :S Q e:=⟨by unfold hp;rw[B d (.inr (.inl rfl))];exact hS3.1,λb c=>by grind,λb c=>by grind⟩
   refine⟨by grind,hS _ _ _ _ _ hs' qZ Z (λb c=>.inr c) λb c=>⟨.inl c,by grind⟩,λb c=>?_,qZ⟩;have ha:=I.2.1 b c;rw[Z.blk b qZ qZ,B b (.inr (.inr (.inr c))),M3.blk b ha.2 qZ]
  refine R _ _ _ _ (hxs i hi) hJ3 _ (λe V hs B=>?_) λe V hs B=>?_
  ·refine fh ?_;obtain⟨k1,k2,k3,k4⟩:=L e (.loop {{g with state:=.busy}with state:=.ready,pending:=none}) hs B;refine⟨_,k1,hT _ ⟨?_,k2,?_⟩ k4 k3⟩
   ·exact s _ _ _ _ _ V (z (Q:=Q) (m e _) λb c=>.inr c) (M Q Q e _ qZ (m e _).size λb c=>⟨.inl c,(k2.2.1 b c).2⟩)
   ·rw[dJ,ab rfl,k1];simp[<-n,<-G]
  ·refine lV ?_;obtain⟨k1,k2,k3,k4⟩:=L e (.loop {{g with state:=.busy}with state:=.done,pending:=some .ret}) hs B;refine⟨_,k1,hF _ ⟨{g with state:=.done,pending:=some .ret},?_,k2,?_,rfl,rfl⟩ k4 k3⟩
   ·exact y _ _ _ _ V (z (Q:=Q) (m e _) λb c=>.inr c) (M Q Q e _ qZ (m e _).size λb c=>⟨.inl c,(k2.2.1 b c).2⟩)
   ·rw[dJ,ab rfl,k1];rfl
 ·rintro Q W ⟨K,I,t⟩;refine⟨g,t,by rw[n];decide,?_⟩;rw[<-C];have hl:=aJ t;have j:=m W (.loop {g with state:=.exhausted});generalize W.putObj (d+1) (.loop {g with state:=.exhausted})=N at j|-;have hs8:=j.size;rw[G];have D:∀b,Q b->(Q b\/W.heap.size<=b)/\b<N.heap.size:=λb c=>⟨.inl c,by grind⟩
  have E:=hS _ _ _ _ _ I qZ j (λb c=>.inr c) D;have h1' :J (U Q) (k+xs.length) W:=by grind
  refine hend (U Q) N d C (s _ _ _ _ _ h1' (z (Q:=Q) j λb c=>.inr c) (M Q Q W N qZ j.size D)) (λb c=>.inl c) (.inr (.inl rfl)) (λb c=>?_) (λb c=>?_) E.2.2 E.1
  ·grind
  ·rcases c with h|h|h|h
   ·exact .inl h
   ·exact gT
   ·exact gT
   ·exact .inr (by grind)
 ·rintro Q W ⟨r,K,I,t,h4,h5⟩;refine⟨r,t,by rw[h4];decide,?_⟩;rw[<-C];have hl:=aJ t;have j:=m W (.loop {r with state:=.exhausted});generalize W.putObj (d+1) (.loop {r with state:=.exhausted})=N at j|-;have hs8:=j.size;rw[h5];have D:∀b,Q b->(Q b\/W.heap.size<=b)/\b<N.heap.size:=λb c=>⟨.inl c,by grind⟩
  have E:=hS _ _ _ _ _ I qZ j (λb c=>.inr c) D;refine Y (U Q) N d C (y _ _ _ _ K (z (Q:=Q) j λb c=>.inr c) (M Q Q W N qZ j.size D)) (λb c=>.inl c) (.inr (.inl rfl)) (λb c=>?_) (λb c=>?_) E.2.2 E.1
  ·exact(M Q Q W N qZ j.size D b c).2
  ·rcases c with h|h|h|h
   ·exact .inl h
   ·exact gT
   ·exact gT
   ·grind
def gX.keep{F:NP_}{w' :Wt_}{s:Nat}{buy:Bool}{l:List Od}(h:gX w s F buy l)(c:∀b,F b->w'.heap[b]? =w.heap[b]?):gX w' s F buy l:=by
 obtain⟨⟨sl,g,e,a,f⟩,i,d⟩:=h;exact⟨⟨sl,(c s ((a s).2 (.inl rfl))).trans g,e.keep λb j=>c b ((a b).2 (.inr j)),a,f⟩,i,d⟩
def ac5:∀a:Od,∀(W:Wt_) q,hC W q (dp a).toArray kQ->(iL kQ (cU q 0)).run pQ W=.ok (mi a) W:=λa W q h=>me (o:=a) (At.all h)
def Ul{b vb:Nat}{B:Bk}{T:TypeId}:SK pQ (.func (.func 164) #[] #[.pointer (some ⟨vb,0,none⟩)]) ((B true++B false).map λo=>[mi o]) (λW=>hC W vb #[fe b] T/\∃F,gW W b F B):=by
 refine⟨⟨_,_,_,rfl,?_⟩⟩;rintro w J Js W K ⟨R,F,hq⟩ h0 m l u H hex;show Ca pQ _ #[.func (.yield w) #[] #[],.pointer (some ⟨vb,0,none⟩)] W K;refine cN Tryz.func164 ?_;obtain⟨z,E⟩:=dW W.heap.size;have U:M0 W (W.alloc (.cells #[.func (.yield w) #[] #[]] 256)):=nl;have Z:hC (W.alloc (.cells #[.func (.yield w) #[] #[]] 256)) z #[.func (.yield w) #[] #[]] 256:=by rw[E];simp[go_sem]
 apply az (cU z 0) (W.alloc (.cells #[.func (.yield w) #[] #[]] 256)) (by rw[E];rfl);generalize W.alloc (.cells #[.func (.yield w) #[] #[]] 256)=w1 at U Z|-;have O:=U.hpk R id;have L:=hq.mod U eI;apply az (fe b) w1 (by simp[go_sem,O,fe]);apply pB L;refine fh ?_;apply az (fe b) w1 (by simp[go_sem,O,fe]);refine D6 L λb' F' w2 q2 m2 n2=>?_;obtain⟨s,G,hr,hF'⟩:=q2.r;have md:M0 w2 w2.drew:=wl;have r:=hr.mod md id λ_ _ _ h=>h;have c0:=r.blk;simp only[fe,cJ];refine vn ?_;refine AN c0 ?_;refine vn ?_;refine AN c0 ?_;refine oE [dc (s true),dc (s false)] psU (dG psE) rfl rfl (by intro v hv;simp only[aq,fD,mz]at hv;rcases hv with rfl|rfl<;>rfl) qZ ?_;have e0:(([dc (s true),dc (s false)]:LV_).flatMap (·.cells.toList)).toArray= #[dc (s true),dc (s false)]:=rfl;rw[e0];have M2:=(U.trans m2).trans md;have V:=m2.hpk Z id;have V:=md.hpk V id;generalize w2.drew=C at md r c0 M2 V|-;obtain⟨q,D⟩:=dW C.heap.size;have A:M0 C (C.alloc (.cells #[dc (s true),dc (s false)] 239)):=nl;have b4:hC (C.alloc (.cells #[dc (s true),dc (s false)] 239)) q #[dc (s true),dc (s false)] 239:=by rw[D];simp[go_sem]
 rw[<-D];generalize C.alloc (.cells #[dc (s true),dc (s false)] 239)=w4 at A b4|-;have r4:=r.mod A id λ_ _ _ h=>h;have n4:=A.hpk V id;have M4:=M2.trans A;refine qW0 ?_;have hs2:=m2.size;have hsd:=md.size;have hs4:=A.size;have hn0l:=aJ Z;have hql:=aJ b4;have n:∀d x,G d x->W.heap.size<=x/\x<w4.heap.size:=λd x c=>⟨by have:=n2 x ((hF' x).2 (.inr (by cases d;exact .inr c;exact .inl c)));omega,r4.lt c⟩
 let g:Nat->Nat:=λi=>if i=0 then 0 else if i=1 then(B true).length else(B true++B false).length
 let St:(Nat->Prop)->List Nat->World->Prop:=λQ ds f=>hC f z #[.func (.yield w) #[] #[]] 256/\hC f q #[dc (s true),dc (s false)] 239/\(∀d,gX f (s d) (G d) d (B d))/\
  (∀d∈ds,hp f d=some (.deferred (some []))/\Q d)/\ds.Nodup/\(∀b,Q b->b<f.heap.size)/\Q z/\Q q/\∀d x,G d x->Q x
 have hJ4:J (λx=>x=z\/x=q\/G true x\/G false x) 0 w4:=h0 _ _ M4 λx c=>by
  rcases c with rfl|rfl|h|h
  ·omega
  ·omega
  ·exact n _ _ h
  ·exact n _ _ h
 refine iz (λst f=>∃(i:Nat) (Q:NP_) (ds:List Nat),i<=2/\st=((gI i,()),ds)/\J Q (g i) f/\St Q ds f)
  (λst _=>match st.1.1 with| .int _ i=>2 - i.toNat|_=>0) ⟨0,_,[],qZ,rfl,hJ4,n4,b4,r4.sd,λd r=>absurd r fD,je,λx c=>?_,.inl rfl,.inr (.inl rfl),λd x c=>by cases d;exact .inr (.inr (.inr c));exact .inr (.inr (.inl c))⟩ ?_
 ·rcases c with rfl|rfl|h|h
  ·omega
  ·omega
  ·exact(n _ _ h).2
  ·exact(n _ _ h).2
 rintro⟨_,ds⟩ W5 ⟨i,Q,ds0,hi,⟨⟩,hJ,k1,k2,k3,k4,k5,k6,k7,k8,k9⟩ KN hKN;refine rT ?_;intro _;by_cases Y:i<2
 ·have M:(i:Int)<2:=qZ;refine ee M ?_
  obtain⟨d,r⟩:∃d:Bool,(i=0/\d=true)\/(i=1/\d=false):=by
   by_cases h0:i=0
   ·exact⟨true,.inl ⟨h0,rfl⟩⟩
   ·exact⟨false,.inr ⟨qZ,rfl⟩⟩
  have N:¬(2:Int)<=(i:Int):=qZ;apply az (cU q i) W5 (by simp[go_sem,Y,N,bQ]);apply az (dc (s d)) W5 (by rcases r with⟨rfl,rfl⟩|⟨rfl,rfl⟩<;>simp[go_sem,k2]);refine Lr (k3 d) λgv w6 ht p=>?_;have hs6:=p.size;have X:=m _ Q _ _ _ hJ (p.to) λb R=>⟨.inl R,by grind⟩
  have hoff:g i+(B d).length=g (i+1):=by grind
  refine ouF ?_;refine Vt (XS:=(B true++B false).map λo=>[mi o]) (T:=kQ) (fc:=dp) (Q0:=Q) (k:=g i) ht.m oC.od (λa _=>ac5 a) m l u ?_ (p.hpk k1 id) ?_ k7 (λb R=>by grind) X ?_ ?_
  ·intro j hj;rcases r with⟨rfl,rfl⟩|⟨rfl,rfl⟩
   ·grind
   ·grind
  ·intro f h;simp[go_sem,h]
  ·intro Q' f dd hdd I y a2 a3 a4 S a6;have t:∀x o,Q x->hp w6 x=some o->hp f x=some o:=λx o c h=>by unfold hp;rw[S x c];exact h
   have hSd:∀d,gX f (s d) (G d) d (B d):=λe=>(((k3 e).mod p eI)).keep λx c=>S x (k9 e x c);refine XP ?_;simp only[lP];apply az (gI ((i+1:Nat):Int)) f (by simp[go_sem];rw[mL]);refine hKN _ _ ⟨i+1,Q',[dd]++ds,qZ,rfl,by grind,t _ _ k7 (p.hpk k1 id),t _ _ k8 (p.hpk k2 id),hSd,λx c=>?_,?_,a3,y _ k7,y _ k8,λe x c=>y _ (k9 e x c)⟩ (by grind)
   ·rcases aq.1 c with rfl|c
    ·exact⟨a6,a2⟩
    ·exact⟨t _ _ (k4 x c).2 (p.hpk (k4 x c).1 id),y _ (k4 x c).2⟩
   ·grind
  ·intro Q' f dd hdd I y a2 a3 a4 S a6;refine XP ?_;simp only[lP];refine UV (ds:=[dd]++ds) ?_ ?_ λW8 P=>?_
   ·grind
   ·intro x c;rcases aq.1 c with rfl|c
    ·exact a6
    ·unfold hp;rw[S x (k4 x c).2];exact p.hpk (k4 x c).1 id
   ·refine hex _ _ (l _ Q' _ _ I (P.mono λx _ c=>?_) λx c=>⟨.inl c,by have:=a3 x c;have:=P.size;omega⟩);rcases aq.1 c with rfl|c
    ·exact a2
    ·exact y _ (k4 x c).2
 ·obtain rfl:i=2:=qZ;refine fh ?_;refine UV (ds:=ds) k5 (λx c=>(k4 x c).1) λW8 P=>?_;apply H Q _;have e:g 2=((B true++B false).map λo=>[mi o]).length:=by simp[g]
  rw[<-e];exact m _ Q _ _ _ hJ (P.mono λx _ c=>(k4 x c).2) λx c=>⟨.inl c,by have:=k6 x c;have:=P.size;omega⟩
def EX{K:be}{b:Nat}{F:NP_}{B:Bk}(h:gW w b F B)
  (f:∀d a,uK d ((B true++B false).map λo=>[mi o]) a->M0 w a->K d a):Ca pQ 61 #[fe b] w K:=by
 unfold fe;refine cN Tryz.func61 ?_;have c:M0 w (w.alloc (.cells #[fe b] 121)):=nl;apply az (cU w.heap.size 0) (w.alloc (.cells #[fe b] 121)) (by simp[go_sem,fe]);have e:hC (w.alloc (.cells #[fe b] 121)) w.heap.size #[fe b] 121:=by simp[go_sem]
 exact f _ _ ⟨⟨_,Ul (b:=b) (vb:=w.heap.size) (B:=B) (T:=121),λW m=>⟨m.hpk e id,F,h.mod (c.trans m) eI⟩⟩,_,_,rfl⟩ c
end Go.Proofs
namespace Go.Proofs
open Go Go.Vc
attribute [local congr] bj
variable {B:Bk}{n:Int}{F:NP_}{b:Nat}{w:Wt_}{K:be}
def gW.slt(h:gW w b F B):b<w.heap.size:=h.lt h.self
def gW.nn(h:gW w b F B):∀d,(B d).length<=100/\∀o∈B d,o.may=true/\o.buy=d/\o.Fit:=by
 obtain⟨s,G,a,c⟩:=h.r;exact λd=>⟨(a.sd d).len,(a.sd d).may⟩
def wO(h:gW w b F B)
  (f:∀d c,gW c b d (eY B n).2.1->bn F w c->(∀x,d x->F x\/w.heap.size<=x)->
   K (.tuple #[mi (eY B n).2.2,gI (eY B n).1]) c):Ca pQ 212 #[fe b,gQ n] w K:=by
 obtain⟨s,G,i,g⟩:=h.r;refine GI i λl c e j k=>f _ _ e.q (j.mono λx _ a=>(g x).2 (.inr a)) λx a=>?_;rcases a with a|a|a
 ·grind
 ·grind
 ·grind
def Oi{o:Od}{k:Int}(h:gW w b F B)(i:o.Fit)(l:0<=k/\k<256)
  (m:∀g sT e d,gW d b g (cE B o k).2.1->Qr d sT e (cE B o k).2.2.trades (cE B o k).2.2.gone->bn F w d->(∀x,g x->F x\/w.heap.size<=x)->
   (∀x,aQ sT x\/aQ e x->w.heap.size<=x/\¬g x)->K (.tuple #[.agg (uX sT e (cE B o k).2.2.filled (cE B o k).2.2.left),gI (cE B o k).1]) d):Ca pQ 155 #[fe b,mi o,gB k] w K:=by
 obtain⟨s,G,p,n⟩:=h.r;have v:=h.slt;refine RP p i l λu sT e d j r q t f=>m _ sT e _ j.q r (q.mono λx _ a=>(n x).2 (.inr a)) (λx a=>?_) λx a=>⟨(f x a).1,λc=>?_⟩
 ·rcases a with a|a|a
  ·grind
  ·grind
  ·grind
 ·rcases c with c|c|c
  ·grind
  ·exact(f x a).2 _ c
  ·exact(f x a).2 _ c
def HT{price left:Int}(h:gW w b F B)(g:dM price)(e:dM left)
  (l:∀j sT f d,gW d b j (co B n price left).2.1->Qr d sT f (co B n price left).2.2.trades (co B n price left).2.2.gone->bn F w d->(∀x,j x->F x\/w.heap.size<=x)->
   (∀x,aQ sT x\/aQ f x->w.heap.size<=x/\¬j x)->K (.tuple #[.agg (uX sT f (co B n price left).2.2.filled (co B n price left).2.2.left),gI (co B n price left).1]) d):Ca pQ 217 #[fe b,gQ n,gI price,gI left] w K:=by
 obtain⟨s,G,o,m⟩:=h.r;have u:=h.slt;refine JS o g e λt sT f d k q p r i=>l _ sT f _ k.q q (p.mono λx _ a=>(m x).2 (.inr a)) (λx a=>?_) λx a=>⟨(i x a).1,λc=>?_⟩
 ·rcases a with a|a|a
  ·grind
  ·grind
  ·grind
 ·rcases c with c|c|c
  ·grind
  ·exact(i x a).2 _ c
  ·exact(i x a).2 _ c
def NM(h:gW w b F B)
  (d:∀a,M0 w a->K (.tuple #[mi (match B.find n with|none=>ou|some (o,_)=>o),gI (match B.find n with|none=>7|some _=>0)]) a):Ca pQ 268 #[fe b,gQ n] w K:=by
 obtain⟨s,G,c,e⟩:=h.r;exact PP c d
def Bk.all(B:Bk):List Od:=B true++B false
def gW.all(h:gW w b F B):B.all.length<=200/\∀o∈B.all,o.may=true/\o.Fit:=by
 have:=h.nn;refine⟨by unfold Bk.all;rw[ad];have d:=(this true).1;have c:=(this false).1;omega,λo a=>?_⟩;rcases aN.1 a with a|a
 ·grind
 ·grind
def lv(a:Int)(o:Od):Bool:=decide (a=0)||decide (o.acct=a)
def tY(a:Int)(B:Bk)(l:List Od):Bk:=l.foldl (λB o=>if lv a o then(eY B o.num).2.1 else B) B
def iU(B:Bk)(a:Int):Bk×List Od:=(tY a B B.all,B.all.filter (lv a))
def Cg(a:Int)(B:Bk)(l:List Od)(o:Od):tY a B (l++[o])=if lv a o then(eY (tY a B l) o.num).2.1 else tY a B l:=by
 unfold tY;rw[iP];rfl
def bV{α:Type}{l:List α}{i:Nat}(hi:i<l.length):l.take (i+1)=l.take i++[l[i]]:=by
 rw[fN,ao hi];rfl
def Ut{a:Int}(h:gW w b F B)
  (hK:∀m sl w',gW w' b m (iU B a).1->sZ w' sl (iU B a).2->bn F w w' ->(∀x,m x->F x\/w.heap.size<=x)->(∀x,aQ sl x->w.heap.size<=x/\¬m x)->K sl w'):Ca pQ 210 #[fe b,gU a] w K:=by
 unfold fe;refine cN Tryz.func210 ?_;obtain⟨g,r⟩:=dW w.heap.size
 have hlay:∃u,((w.alloc (.cells #[fe b] 121)).alloc (.cells #[.int .u32 a] 45) |>.alloc (.cells #[jq] 146))=u/\u.heap.size=g+3/\M0 w u/\
   hC u g #[fe b] 121/\hC u (g+1) #[.int .u32 a] 45/\hC u (g+2) #[jq] 146:=by
  refine⟨_,rfl,by simp[go_sem,r],(nl.alloc _).alloc _,?_,?_,?_⟩<;>simp[go_sem,r]
 obtain⟨u,hw3,hsz3,m3,b0,b1,b2⟩:=hlay;apply az (cU g 0) (w.alloc (.cells #[fe b] 121)) (by simp[go_sem,fe,r]);refine xm (cU (g+1) 0) r ?_;apply az (cU (g+2) 0) u (by rw[<-hw3];simp[go_sem,r,jq]);clear hw3;apply az (fe b) u (by simp[go_sem,b0,fe]);refine EX (h.mod m3 eI) λgv w5 ht V=>?_;have M5:=m3.trans V;have q5:=h.mod M5 eI;have hs5:=V.size;have y:∀x,F x->x<g:=λx c=>by rw[r];exact h.lt c
 have hal:=h.all
 let I:(Nat->Prop)->Nat->World->Prop:=λX i W=>∃m sl,gW W b m (tY a B (B.all.take i))/\sZ W sl ((B.all.take i).filter (lv a))/\hC W g #[fe b] 121/\hC W (g+1) #[.int .u32 a] 45/\
  hC W (g+2) #[sl] 146/\(∀x,X x↔(g<=x/\x<g+3)\/m x\/aQ sl x)/\(∀x,aQ sl x->g+3<=x/\¬m x)/\∀x,m x->F x\/g+3<=x
 refine ouF ?_;refine KF (X0:=λx=>(g<=x/\x<g+3)\/F x) (T:=kQ) (fc:=dp) ht oC.od I (λ_ _ _=>False) ?_ (λ_ _ _ _ _ h=>h.elim) (λx c=>?_) ⟨F,jq,q5,il.nil _ _ _,V.hpk b0 id,V.hpk b1 id,V.hpk b2 id,λx=>?_,λx c=>(by cases c),λx c=>.inl c⟩ ?_ ?_ (λ_ _ _ _ _ h=>h.elim)
 ·rintro X i W R H ⟨m,sl,M,D,Q,J,C,k,v,A⟩ Z z;exact⟨m,sl,M.mod Z λx c=>z x ((k x).2 (.inr (.inl c))),D.mod Z λx c=>z x ((k x).2 (.inr (.inr c))),Z.hpk Q (z _ ((k _).2 (.inl qZ))),Z.hpk J (z _ ((k _).2 (.inl qZ))),Z.hpk C (z _ ((k _).2 (.inl qZ))),k,v,A⟩
 ·rcases c with c|c
  ·omega
  ·have:=y x c;omega
 ·constructor
  ·rintro(c|c)
   ·exact .inl c
   ·exact .inr (.inl c)
  ·rintro(c|c|c)
   ·exact .inl c
   ·exact .inr c
   ·cases c
 ·rintro X i hi W q ⟨m,sl,M,D,Q,J,C,k,v,A⟩ mW z hdq hqW zgq KN KJ Y hKJ;have p:=zgq;unfold dp at p;obtain⟨o,ho⟩:=dW (B.all[i]);have hoo:((B true++B false)[i]'hi)=o:=ho.symm;rw[hoo]at zgq p;have N:=bV (l:=B.all) hi;have S:B.all[i]'hi=o:=ho.symm;rw[S]at N;have hnq:∀x,X x->x≠q:=λx c=>by grind
  refine dU.at (λst R=>st=(.bool (lv a o),())/\R=W) ?_ ?_
  ·apply dy (by simp[-Int.natCast_add,go_sem,J]<;>first|exact ww|exact rfl);by_cases ha:a=0
   ·refine dD ha ?_;rw[nO];exact⟨by simp[lv,ha],rfl⟩
   ·refine xm (.bool false) ha ?_;rw[lW];refine dD p ?_;apply dy (by simp[-Int.natCast_add,go_sem,p]<;>first|exact ww|exact rfl);apply dy (by simp[-Int.natCast_add,go_sem,J]<;>first|exact ww|exact rfl);apply az (.bool (decide (o.acct=a))) W (by simp[go_sem];rfl);exact⟨by simp[lv,ha],rfl⟩
  rintro _ R ⟨rfl,rfl⟩;refine qk ?_;intro _;cases hof:lv a o with
  |false=>
   rw[lW];refine Y X R ⟨m,sl,?_,?_,Q,J,C,k,v,A⟩ rC λx c=>⟨.inl c,by grind⟩
   ·rw[N,Cg,aa (by simp[hof])];exact M
   ·grind
  |true=>
   rw[nO];apply az (fe b) R (by simp[go_sem,Q,fe]);refine dD p ?_;refine dD p ?_;refine wO M λF2 w6 q6 L n6=>?_;have m6X:bn X R w6:=L.mono λx _ c=>(k x).2 (.inr (.inl c));have G:∀x,m x->X x:=λx c=>(k x).2 (.inr (.inl c))
   have n:∀x,m x->x≠q/\¬(g<=x/\x<g+3):=λx c=>⟨hnq x (G x c),λhc=>by
    rcases A x c with j|j
    ·have:=y x j;omega
    ·omega⟩
   have g5:=L.hpk C λc=>(n _ c).2 qZ;have g3:=L.hpk Q λc=>(n _ c).2 qZ;have g4:=L.hpk J λc=>(n _ c).2 qZ;have gq6:=L.hpk zgq λc=>(n _ c).1 rfl;have o6:=D.mod L λx c=>(v x c).2;obtain⟨sa,sc,t,-⟩:=D.isSl;refine N9 sl g5 t ?_;apply dy (me (o:=o) (At.all gq6));have hs6:=L.size;have hfl:((B.all.take i).filter (lv a)).length<=200:=bK (aX _ _) (by grind);refine vz (x:=o) (f:=dp) gR (dG Ny) dH lR rfl o6 qZ qZ λE O o7 P n7=>?_;obtain⟨sa',sc',U,-⟩:=o7.isSl;have hs7:=P.size;have hslq:∀x,aQ sl x->x≠q/\g+3<=x/\x<w6.heap.size:=λx c=>⟨hnq x ((k x).2 (.inr (.inr c))),(v x c).1,o6.lt c⟩
   have g5' :=P.hpk g5 λc=>by grind
   have g3' :=P.hpk g3 λc=>by grind
   have g4' :=P.hpk g4 λc=>by grind
   have s:bn (λx=>x=g+2) O (O.setCell ⟨g+2,0,none⟩ E):=(bn.refl (λx=>x=g+2) O).sc;apply nz (O.setCell ⟨g+2,0,none⟩ E) (by rw[U];simp[go_sem,g5']);have g5v:hC (O.setCell ⟨g+2,0,none⟩ E) (g+2) #[E] 146:=by simp[go_sem,g5']
   generalize O.setCell ⟨g+2,0,none⟩ E=w8 at s g5v|-;have hs8:=s.size;have q8:=(q6.mod P λx c hs=>?_).mod s λx c he=>?_
   ·have o8:sZ w8 E (List.filter (lv a) (List.take i B.all)++[o]):=o7.mod s λx c he=>by
     rcases n7 x c with j|j
     ·grind
     ·grind
    have hF2:∀x,F2 x->F x\/g+3<=x:=λx c=>by
     rcases n6 x c with j|j
     ·exact A x j
     ·grind
    refine Y (λx=>(g<=x/\x<g+3)\/F2 x\/aQ E x) w8 ⟨F2,E,?_,?_,s.hpk g3' qZ,s.hpk g4' qZ,g5v,λx=>aI,λx c=>?_,hF2⟩ ?_ λx c=>?_
    ·rw[N,Cg,ab hof];exact q8
    ·grind
    ·rcases n7 x c with j|j
     ·refine⟨(hslq x j).2.1,λhf=>?_⟩;rcases n6 x hf with h2|h2
      ·exact(v x j).2 h2
      ·grind
     ·refine⟨by grind,λhf=>?_⟩;have:=q6.lt hf;omega
    ·refine(m6X.on P λx c=>.inl ((k x).2 (.inr (.inr c)))).on s λx c=>.inl ((k x).2 (.inl qZ))
    ·rcases c with c|c|c
     ·grind
     ·exact⟨(n6 x c).imp (G x) id,by have:=q6.lt c;omega⟩
     ·refine⟨?_,by have:=o8.lt c;omega⟩;rcases n7 x c with j|j
      ·grind
      ·exact gT
   ·rcases n6 x c with j|j
    ·exact(v x hs).2 j
    ·grind
   ·rcases n6 x c with j|j
    ·grind
    ·grind
 ·rintro X W d hd ⟨m,sl,M,D,Q,J,C,k,v,A⟩ mW hdef z;obtain⟨sa,sc,t,-⟩:=D.isSl;have e:B.all.take (B true++B false).length=B.all:=aL;rw[e]at M D;refine XP ?_;simp only[lP];refine nm C t ?_;have s:bn (λx=>x=g+2) W (W.setCell ⟨g+2,0,none⟩ sl):=(bn.refl (λx=>x=g+2) W).sc;apply nz (W.setCell ⟨g+2,0,none⟩ sl) (by rw[t];simp[go_sem,C]);have g5:hC (W.setCell ⟨g+2,0,none⟩ sl) (g+2) #[sl] 146:=by simp[go_sem,C]
  generalize W.setCell ⟨g+2,0,none⟩ sl=W2 at s g5|-;refine WK (s.hpk hdef qZ) λW3 mr=>?_;have hd3:d=w5.heap.size:=hd;apply mE sl (by have:=mr.hpk g5 qZ;simp[go_sem,this,t])
  have hXd:∀x,X x->x≠d:=λx c=>by
   rcases(z x c).2 with(j|j)|j
   ·omega
   ·have:=y x j;omega
   ·omega
  refine hK m sl W3 ((M.mod s λx c he=>?_).mod mr λx c=>hXd x ((k x).2 (.inr (.inl c)))) ((D.mod s λx c he=>by grind).mod mr λx c=>hXd x ((k x).2 (.inr (.inr c)))) ?_ (λx c=>(A x c).imp id λ_=>qZ) λx c=>⟨by grind,(v x c).2⟩
  ·rcases A x c with j|j
   ·have:=y x j;omega
   ·omega
  ·refine(((M5.to).on mW λx c=>?_).on s λx c=>gT).on mr λx c=>gT;rcases c with c|c
   ·exact gT
   ·exact .inl c
end Go.Proofs
namespace Go.Proofs
open Go Go.Vc
attribute [local congr] bj
def rU(l:List Od)(a:Int)(buy:Bool):Int:=((l.filter λo=>decide (o.acct=a)&& (o.buy==buy)).map (·.left)).sum
def qe(l:List Od)(o:Od)(a:Int)(buy:Bool):rU (l++[o]) a buy=rU l a buy+(if o.acct=a/\o.buy=buy then o.left else 0):=by
 unfold rU;rw[cj,aK,fK];congr 1;by_cases h:o.acct=a/\o.buy=buy
 ·grind
 ·grind
def rS{l:List Od}{a:Int}{buy:Bool}(h:∀o∈l,1<=o.left/\o.left<=1000000):0<=rU l a buy/\rU l a buy<=l.length*1000000:=by
 have c:=rK (l:=(l.filter λo=>decide (o.acct=a)&& (o.buy==buy)).map (·.left)) (B:=1000000) λx d=>by
  obtain⟨o,b,rfl⟩:=aD.1 d;have:=h o (aM.1 b).1;omega
 rw[af]at c;have e:=aX (λo:Od=>decide (o.acct=a)&& (o.buy==buy)) l;unfold rU;omega
def uj(B:Bk)(a:Int):Int×Int:=(rU B.all a true,rU B.all a false)
def N6{w:Wt_}{K:be}{b:Nat}{F:NP_}{B:Bk}{a:Int}(h:gW w b F B)
  (hK:∀w',M0 w w' ->K (.tuple #[.int .i64 (uj B a).1,gI (uj B a).2]) w'):Ca pQ 311 #[fe b,gU a] w K:=by
 unfold fe;refine cN Tryz.func311 ?_;obtain⟨c,k⟩:=dW w.heap.size
 have M:∃s,((w.alloc (.cells #[.int .u32 a] 45)).alloc (.cells #[.int .i64 0] 2) |>.alloc (.cells #[.int .i64 0] 2))=s/\s.heap.size=c+3/\M0 w s/\
   hC s c #[.int .u32 a] 45/\hC s (c+1) #[.int .i64 0] 2/\hC s (c+2) #[.int .i64 0] 2:=by
  refine⟨_,rfl,by simp[go_sem,k],(nl.alloc _).alloc _,?_,?_,?_⟩<;>simp[go_sem,k]
 obtain⟨s,J,hsz3,m3,b0,b1,b2⟩:=M;refine xm (cU c 0) k ?_;apply az (cU (c+1) 0) ((w.alloc (.cells #[.int .u32 a] 45)).alloc (.cells #[.int .i64 0] 2)) (by simp[go_sem,k]);apply az (cU (c+2) 0) s (by rw[<-J];simp[go_sem,k]);clear J;refine EX (h.mod m3 eI) λgv w5 ht G=>?_;have M5:=m3.trans G;have hs5:=G.size;have Q:=h.all;have t:∀o∈B.all,1<=o.left/\o.left<=1000000:=λo p=>Od.left_bd (Q.2 o p).1
 let I:(Nat->Prop)->Nat->World->Prop:=λX i W=>hC W c #[.int .u32 a] 45/\hC W (c+1) #[.int .i64 (rU (B.all.take i) a true)] 2/\
  hC W (c+2) #[.int .i64 (rU (B.all.take i) a false)] 2/\X=λx=>c<=x/\x<c+3
 refine ouF ?_;refine KF (X0:=λx=>c<=x/\x<c+3) (T:=kQ) (fc:=dp) ht oC.od I (λ_ _ _=>False) ?_ (λ_ _ _ _ _ h=>h.elim) (λx r=>qZ) ⟨G.hpk b0 id,G.hpk b1 id,G.hpk b2 id,rfl⟩ ?_ ?_ (λ_ _ _ _ _ h=>h.elim)
 ·rintro X i W P H ⟨v,n,m,rfl⟩ U D;exact⟨U.hpk v (D _ qZ),U.hpk n (D _ qZ),U.hpk m (D _ qZ),rfl⟩
 ·rintro X i hi W q ⟨v,n,m,rfl⟩ Z D hdq hqW zgq KN KJ u hKJ;unfold dp at zgq;obtain⟨o,p⟩:=dW (B.all[i]);have R:((B true++B false)[i]'hi)=o:=p.symm;rw[R]at zgq;have f:=bV (l:=B.all) hi;have E:B.all[i]'hi=o:=p.symm;rw[E]at f;have hb1:=rS (l:=B.all.take i) (a:=a) (buy:=true) λo p=>t o (bm p);have hb2:=rS (l:=B.all.take i) (a:=a) (buy:=false) λo p=>t o (bm p);have hb3:=t o (by grind);have Y:(B.all.take i).length<=200:=by grind
  have y:∀(P:Wt_),W.heap.size<=P.heap.size->∀x,c<=x/\x<c+3->((c<=x/\x<c+3)\/W.heap.size<=x)/\x<P.heap.size:=λP hs x r=>⟨.inl r,by grind⟩
  apply dy (by simp[-Int.natCast_add,go_sem,zgq]<;>first|exact ww|exact rfl);apply dy (by simp[-Int.natCast_add,go_sem,zgq]<;>first|exact ww|exact rfl);apply dy (by simp[-Int.natCast_add,go_sem,v]<;>first|exact ww|exact rfl);by_cases A:o.acct=a
  ·refine dD A ?_;rw[lW];refine dD zgq ?_;apply dy (by simp[-Int.natCast_add,go_sem,zgq]<;>first|exact ww|exact rfl);cases g:o.buy with
   |true=>
    rw[nO];refine dD n ?_;refine dD zgq ?_;refine dD zgq ?_
    refine az (gI (rU (B.all.take (i+1)) a true)) W (by
     rw[f,qe,ab ⟨A,g⟩];simp[go_sem];rw[mL]) ?_
    refine Tr n ?_;have j:bn (λx=>x=c+1) W (W.setCell ⟨c+1,0,none⟩ (gI (rU (B.all.take (i+1)) a true))):=(bn.refl (λx=>x=c+1) W).sc;have k3:hC (W.setCell ⟨c+1,0,none⟩ (gI (rU (B.all.take (i+1)) a true))) (c+1) #[.int .i64 (rU (B.all.take (i+1)) a true)] 2:=by simp[go_sem,n]
    refine u _ _ ⟨j.hpk v qZ,k3,?_,rfl⟩ (j.mono λx _ r=>qZ) (y _ j.size);have:rU (B.all.take (i+1)) a false=rU (B.all.take i) a false:=by rw[f,qe,aa (by simp[g]),ig]
    rw[this];exact j.hpk m qZ
   |false=>
    rw[lW];refine dD m ?_;refine dD zgq ?_;refine dD zgq ?_
    refine az (gI (rU (B.all.take (i+1)) a false)) W (by
     rw[f,qe,ab ⟨A,g⟩];simp[go_sem];rw[mL]) ?_
    refine Tr m ?_;have j:bn (λx=>x=c+2) W (W.setCell ⟨c+2,0,none⟩ (gI (rU (B.all.take (i+1)) a false))):=(bn.refl (λx=>x=c+2) W).sc;have k3:hC (W.setCell ⟨c+2,0,none⟩ (gI (rU (B.all.take (i+1)) a false))) (c+2) #[.int .i64 (rU (B.all.take (i+1)) a false)] 2:=by simp[go_sem,m]
    refine u _ _ ⟨j.hpk v qZ,?_,k3,rfl⟩ (j.mono λx _ r=>qZ) (y _ j.size);have:rU (B.all.take (i+1)) a true=rU (B.all.take i) a true:=by rw[f,qe,aa (by simp[g]),ig]
    rw[this];exact j.hpk n qZ
  ·apply xm (.bool true) A;rw[nO];refine u _ W ⟨v,?_,?_,rfl⟩ rC (y _ (aB _))
   ·rw[f,qe,aa (λh=>A h.1),ig];exact n
   ·rw[f,qe,aa (λh=>A h.1),ig];exact m
 ·rintro X W d hd ⟨v,n,m,rfl⟩ Z L D;have e:B.all.take (B true++B false).length=B.all:=aL;rw[e]at n m;refine XP ?_;simp only[lP];have md:M0 W W.drew:=wl;have k2:=md.hpk n id;have k3:=md.hpk m id;have kd:=md.hpk L id;generalize W.drew=C at md k2 k3 kd|-;apply U4 (gI (rU B.all a true)) k2;apply U4 (gI (rU B.all a false)) k3;apply nz (C.setCell ⟨c+1,0,none⟩ (gI (rU B.all a true))) (by simp[go_sem,k2]);have j:bn (λx=>x=c+1) C (C.setCell ⟨c+1,0,none⟩ (gI (rU B.all a true))):=(bn.refl (λx=>x=c+1) C).sc;have j2:hC (C.setCell ⟨c+1,0,none⟩ (gI (rU B.all a true))) (c+1) #[.int .i64 (rU B.all a true)] 2:=by simp[go_sem,k2]
  have N:=j.hpk k3 qZ;have jd:=j.hpk kd qZ;generalize C.setCell ⟨c+1,0,none⟩ (gI (rU B.all a true))=z at j j2 N jd|-;refine⟨by simp[go_sem,N],?_⟩;apply nz (z.setCell ⟨c+2,0,none⟩ (gI (rU B.all a false))) (by simp[go_sem,N]);have O:bn (λx=>x=c+2) z (z.setCell ⟨c+2,0,none⟩ (gI (rU B.all a false))):=(bn.refl (λx=>x=c+2) z).sc;have g3:hC (z.setCell ⟨c+2,0,none⟩ (gI (rU B.all a false))) (c+2) #[.int .i64 (rU B.all a false)] 2:=by simp[go_sem,N]
  have g2:=O.hpk j2 qZ;have V:=O.hpk jd qZ;generalize z.setCell ⟨c+2,0,none⟩ (gI (rU B.all a false))=W3 at O g2 g3 V|-;refine WK V λW4 S=>?_;have f2:=S.hpk g2 qZ;have f3:=S.hpk g3 qZ;apply U4 (gI (rU B.all a true)) f2;refine AN f3 ?_;exact hK W4 (((((M5.on Z λx r=>gT).trans md).on j λx r=>gT).on O λx r=>gT).on S λx r=>gT)
end Go.Proofs
namespace Go.Proofs
open Go Go.Vc
attribute [local congr] bj
abbrev lN:TypeId:=120
abbrev Kn:TypeId:=54
def pG:Tryz.prog.underlying Kn=some (.slice lN):=cH
def qp:Tryz.prog.cellsOf lN=26+1:=cH
def Dq:lI pQ lN=true:=cH
def XL:mR pQ lN=true:=cH
def ag9:(iK pQ lN).length=26+1:=cH
def eCt:fj pQ lN 27 208=true:=cH
abbrev AD(w:Wt_)(s:Vt_)(l:List Ct):Prop:=il w lN 27 s l.length (l.flatMap dh)
def sCt(w:Wt_):(Go.sizeOf lN).run pQ w=.ok 27 w:=Go.Vc.kY qp w
def PX:Extern.find Tryz.f261=some (Extern.SlicesOverlaps.overlaps #[Kn,Kn] #[4]):=cH
def vU{w:Wt_}{K:be}{s:Vt_}{l:List Ct}(h:Rd w 27 s l.length (l.flatMap dh))(q:l.length<=1000000)
  (i:∀d e,AD e d l->M0 w e->(∀b,aQ d b->w.heap.size<=b)->K d e):Ca pQ 148 #[s] w K:=by
 refine cN Tryz.func148 ?_;obtain⟨a,c,f⟩:=h.isSl;by_cases g:a=none
 ·subst g;apply az (.bool true) w (by rw[f];simp[go_sem]);rw[nO]
  have o:l=[]:=by
   obtain⟨-,⟨p,_⟩|⟨b,n,m,j,_⟩⟩:=h
   ·grind
   ·rw[f]at j;cases j
  subst o;exact i _ _ (il.nil _ _ _) rC λb k=>by cases k
 ·apply az (.bool false) w (by rw[f];cases a;exact absurd rfl g;simp[go_sem]);rw[lW];exact ac3 pG (dG eCt) h (O8 g9 l) qZ i
def Gn{w:Wt_}{K:be}{s v:Vt_}{l:List Ct}{o:Ct}{i:Nat}(h:AD w s l)(hv:AD w v [o])(hd:∀b,aQ s b->¬aQ v b)(hi:i<=l.length)(hn:l.length<=1000000)
  (hK:∀s' w',AD w' s' (l.take i++o::l.drop i)->bn (aQ s) w w' ->(∀b,aQ s' b->aQ s b\/w.heap.size<=b)->K s' w'):Ca pQ 202 #[s,gI (i:Int),v] w K:=by
 obtain⟨M,g,vrest,rfl,hvc,L,hvl,hv1⟩:=hv.pos (by simp);simp only[dq]at hvc hvl
 have n:(l.take i++o::l.drop i).length=l.length+1:=by
  rw[ad,av,aR,bi,cV hi];omega
 have T:([o].flatMap dh)=dh o:=by simp
 refine cN Tryz.func202 ?_;obtain⟨v0,hv0,-,-⟩:=Rd.from_ (P:=pQ) (kl:=.i64) (lo:=i) pG qp (h.rd:Rd w (26+1) s l.length (l.flatMap dh)) hi;apply dy (hv0 w);refine II ?_;refine fh ?_;obtain⟨sa,sc,hs,-⟩:=h.isSl;apply ke (gI l.length) w (by rw[hs];simp[go_sem]);by_cases hil:i=l.length
 ·have r:(i:Int)=(l.length:Int):=qZ;refine ee r ?_;refine lA pG pG (dG eCt) h hv.rd (O8 g9 _) (by grind) λs3 A o3 C n3=>?_;refine hK _ _ ?_ C n3;have:l.take i++o::l.drop i=l++[o]:=by grind
  rw[this];unfold AD;rw[bD,ad];exact o3
 have r:¬(i:Int)=(l.length:Int):=qZ;refine fH r ?_;obtain⟨b,c,rest,hse,hc,N,hrl,O⟩:=h.pos qZ;clear hs;subst hse;have hne:M≠b:=λe=>hd b rfl (by rw[<-e];rfl);have Y:=h.1;apply az (gI ((l.length+1:Nat):Int)) w (by simp[go_sem];rw[mL]);refine qN1 pG ?_;have B:(l.flatMap dh++rest).length=c*27:=by grind
 by_cases hroom:c<l.length+1
 ·have f:(c:Int)<(l.length:Int)+1:=qZ;refine ee f ?_;apply dy (IT pG qp (show i<=c by omega) qZ w);apply az (gI ((l.length+1:Nat):Int)) w (by simp[go_sem];rw[mL]);apply az (gI ((l.length+1 - i:Nat):Int)) w (by simp only[go_sem];simp;rw[mL];omega)
  have hOi:il w lN (26+1) (.slice (some ⟨b,0,none⟩) i c) i ((l.take i).flatMap dh):=by
   refine⟨by rw[tU bC,av,cV hi],.inr ⟨b,c,(l.flatMap dh++rest).drop (i*27),rfl,qZ,?_,?_,?_⟩⟩
   ·rw[N];congr 2
    have:(l.take i).flatMap dh=(l.flatMap dh++rest).take (i*27):=by
     rw[aP (by rw[Y];omega),Tu bC]
    rw[this,ce]
   ·grind
   ·refine aW.2 λx E=>?_;have E:=gJ E;rcases aN.1 E with y|y
    ·exact aW.1 (O8 g9 l) x y
    ·grind
  refine zz pG Tryz.underlying3 (dG eCt) hOi qZ λs2 D z hz hz1 o2 m2 n2 Z=>?_;obtain⟨mF,nF⟩:=Z _ _ rfl qZ;rw[show i+(l.length+1 - i)=l.length+1 by omega]at o2;obtain⟨m,wZ,a,rfl,H,V,X,S⟩:=o2.pos qZ;have U:w.heap.size<=m:=nF m rfl;have hbb:b≠m:=by grind
  apply dy (vY pG qp qZ H qZ D);have hA:((l.take i).flatMap dh).length=i*27:=by rw[tU bC,av,cV hi]
  have hsz2:((l.take i).flatMap dh++z++a).length=wZ*27:=by grind
  have hv2:Rd D 27 (.slice (some ⟨M,0,none⟩) 1 g) 1 (dh o):=by
   have:=hv.rd.mod mF eI;rw[T]at this;exact this
  apply pZ (sz:=26) (k:=1) pG qp V hv2 (by grind) (by grind) (g9 o);have C:bn (λb=>b=m) D (D.setRow m (ji ((l.take i).flatMap dh++z++a) (i*27) ((dh o).take 27)).toArray):=(bn.refl (λb=>b=m) D).setRow (.inl rfl) _;have e5:(dh o).take 27=dh o:=ay (by rw[bC];omega)
  have I:ji ((l.take i).flatMap dh++z++a) (i*27) (dh o)=(l.take i).flatMap dh++dh o++(z++a).drop 27:=by
   unfold ji;rw[ag ((l.take i).flatMap dh) z a,<-hA,df,bC,<-cw,ck]
  have j:(D.setRow m (ji ((l.take i).flatMap dh++z++a) (i*27) ((dh o).take 27)).toArray).heap[m]? =some (.cells ((l.take i).flatMap dh++dh o++(z++a).drop 27).toArray lN (0,0)):=by
   rw[eU,ab rfl,V,e5,I]
  show qM _ _ _;rw[show((l.take i).flatMap dh++z++a).toArray.toList=(l.take i).flatMap dh++z++a from rfl,show 1*(26+1)=27 from rfl];generalize D.setRow m (ji ((l.take i).flatMap dh++z++a) (i*27) ((dh o).take 27)).toArray=A at C j|-;apply eQ (gI ((i+1:Nat):Int)) (λW=>by simp[go_sem];rw[mL]);apply gP (λW=>vY pG qp (show i+1<=l.length+1 by omega) H qZ W);apply gP (λW=>vY pG qp (show i<=l.length by omega) hc qZ W);have mD:bn (λb=>b=m) D A.drew:=C.drew;have q:A.drew.heap[m]? =some (.cells ((l.take i).flatMap dh++dh o++(z++a).drop 27).toArray lN (0,0)):=j
  have t:Rd A.drew (26+1) (.slice (some ⟨b,i*(26+1),none⟩) (l.length - i) (c - i)) (l.length - i) ((l.drop i).flatMap dh):=by
   have G:At w b 0 (l.flatMap dh):=⟨_,_,_,N,by grind,by simp⟩
   have y:=G.sub (i*27) ((l.length - i)*27) (by rw[Y];omega);rw[Wx bC,ay (by rw[tU bC,bi];exact aB _),cI]at y;refine⟨by rw[tU bC,bi],.inr ⟨b,i*(26+1),c - i,rfl,qZ,?_⟩⟩;exact(y.mod mF id).mod mD λe=>hbb e
  have hsz3:((l.take i).flatMap dh++dh o++(z++a).drop 27).length=wZ*27:=by
   rw[ad,ad,hA,bC,bi,ad,hz,X];omega
  apply pZ (sz:=26) (k:=l.length - i) pG qp q t (by grind) (by grind) (O8 g9 _);have u:((l.drop i).flatMap dh).length=(l.length - i)*27:=by rw[tU bC,bi]
  have J:ji ((l.take i).flatMap dh++dh o++(z++a).drop 27) ((i+1)*(26+1)) (((l.drop i).flatMap dh).take ((l.length - i)*(26+1)))=(l.take i++o::l.drop i).flatMap dh++a:=by
   have hAo:((l.take i).flatMap dh++dh o).length=(i+1)*(26+1):=by grind
   have e2:((l.drop i).flatMap dh).take ((l.length - i)*(26+1))=(l.drop i).flatMap dh:=ay (by grind);rw[e2];unfold ji;rw[<-hAo,df,u,<-cw,ck,cw];rw[show 27+(l.length - i)*27=z.length by rw[hz];omega,ck];simp[ag]
  refine hK _ _ ⟨by grind,.inr ⟨m,wZ,a,by rw[n],by rw[n];exact H,?_,by grind,S⟩⟩ ?_ λb' p=>?_
  ·rw[eU,ab rfl,q];show some (Obj.cells (ji ((l.take i).flatMap dh++dh o++(z++a).drop 27) ((i+1)*(26+1)) (((l.drop i).flatMap dh).take ((l.length - i)*(26+1)))).toArray lN (0,0))=_;rw[J]
  ·exact((mF.to).on mD λb' p=>.inr (by grind)).setRow (.inr U) _
  ·grind
 ·have f:¬(c:Int)<(l.length:Int)+1:=qZ;refine fH f ?_;apply az (gI ((l.length+1:Nat):Int)) w (by simp[go_sem];rw[mL]);apply dy (IT pG qp (show l.length+1<=c by omega) qZ w);apply az (gI ((i+1:Nat):Int)) w (by simp[go_sem];rw[mL]);apply dy (vY pG qp (show i+1<=l.length+1 by omega) qZ qZ w)
  have hov:(callFunc 261 #[.slice (some ⟨M,0,none⟩) 1 g,.slice (some ⟨b,(i+1)*(26+1),none⟩) (l.length+1 - (i+1)) (c - (i+1))]).run pQ w=.ok (.value (.bool false)) w:=by
   rw[run_callFunc_extern Tryz.func261 cH cH cH PX];rw[Lib.run_overlaps_apart w Kn 4 lN pG 27 sCt ⟨M,0,none⟩ ⟨b,(i+1)*(26+1),none⟩ 1 g _ _ hne lN lN _ _ (shp L) (shp N) (by grind) (KK L _) (KK L _)];rfl
  refine⟨?_⟩;show rn pQ (callFunc 261 #[.slice (some ⟨M,0,none⟩) 1 g,.slice (some ⟨b,(i+1)*(26+1),none⟩) (l.length+1 - (i+1)) (c - (i+1))]) w _;apply zw hov;refine lV ?_;apply eQ (gI ((i+1:Nat):Int)) (λW=>by simp[go_sem];rw[mL]);apply gP (λW=>vY pG qp (show i+1<=l.length+1 by omega) qZ qZ W);apply gP (λW=>vY pG qp (show i<=l.length+1 by omega) qZ qZ W);have q:w.drew.heap[b]? =some (.cells (l.flatMap dh++rest).toArray lN (0,0)):=N;have Q:27<=rest.length:=by rw[hrl];omega
  have t:Rd w.drew (26+1) (.slice (some ⟨b,i*(26+1),none⟩) (l.length+1 - i) (c - i)) (l.length+1 - i) ((l.drop i).flatMap dh++rest.take 27):=by
   have G:At w b 0 (l.flatMap dh++rest):=At.all (cO N);have y:=G.sub (i*27) ((l.length+1 - i)*27) (by rw[B];omega);rw[cT (by rw[Y];omega),Wx bC,cI]at y
   have e1:((l.drop i).flatMap dh++rest).take ((l.length+1 - i)*27)=(l.drop i).flatMap dh++rest.take 27:=by
    have hd:((l.drop i).flatMap dh).length=(l.length - i)*27:=by rw[tU bC,bi]
    rw[show(l.length+1 - i)*27=((l.drop i).flatMap dh).length+27 by rw[hd];omega,iH]
   rw[e1]at y;refine⟨by rw[ad,tU bC,bi,av,cV Q];omega,.inr ⟨b,i*(26+1),c - i,rfl,qZ,y.keep rfl⟩⟩
  have u:((l.drop i).flatMap dh).length=(l.length - i)*27:=by rw[tU bC,bi]
  apply pZ (sz:=26) (k:=l.length - i) pG qp q t (by grind) (by rw[dC,B];omega) (by rw[ez,O8 g9];exact aW.2 λx E=>aW.1 O x (bm E));have hA:((l.take i).flatMap dh).length=i*27:=by rw[tU bC,av,cV hi]
  obtain⟨d,R,F⟩:∃d:List Value,l.flatMap dh++rest=(l.take i).flatMap dh++(d++((l.flatMap dh++rest).drop ((i+1)*27)))/\d.length=27:=by
   refine⟨((l.flatMap dh++rest).drop (i*27)).take 27,?_,by grind⟩;have e1:(l.take i).flatMap dh=(l.flatMap dh++rest).take (i*27):=by rw[aP (by rw[Y];omega),Tu bC]
   rw[e1,show(i+1)*27=i*27+27 by omega,<-cw,ce,ce]
  have I:ji (l.flatMap dh++rest) ((i+1)*(26+1)) (((l.drop i).flatMap dh++rest.take 27).take ((l.length - i)*(26+1)))=(l.take i).flatMap dh++d++((l.drop i).flatMap dh++rest.drop 27):=by
   have e2:((l.drop i).flatMap dh++rest.take 27).take ((l.length - i)*(26+1))=(l.drop i).flatMap dh:=by
    rw[show(l.length - i)*(26+1)=((l.drop i).flatMap dh).length by rw[u],df]
   have e3:(l.flatMap dh++rest).take ((i+1)*(26+1))=(l.take i).flatMap dh++d:=by
    rw[R,<-ag,show(i+1)*(26+1)=((l.take i).flatMap dh++d).length by grind,df]
   have e4:(l.flatMap dh++rest).drop ((i+1)*(26+1)+(l.length - i)*27)=rest.drop 27:=by
    rw[show(i+1)*(26+1)+(l.length - i)*27=(l.flatMap dh).length+27 by rw[Y];omega,<-cw,ck]
   unfold ji;rw[e2,u,e3,e4];simp[ag]
  have C:bn (aQ (.slice (some ⟨b,0,none⟩) l.length c)) w (w.drew.setRow b (ji (l.flatMap dh++rest) ((i+1)*(26+1)) (((l.drop i).flatMap dh++rest.take 27).take ((l.length - i)*(26+1)))).toArray):=wl.setRow (.inl (show aQ (.slice (some ⟨b,0,none⟩) l.length c) b from rfl)) _
  have j:(w.drew.setRow b (ji (l.flatMap dh++rest) ((i+1)*(26+1)) (((l.drop i).flatMap dh++rest.take 27).take ((l.length - i)*(26+1)))).toArray).heap[b]? =some (.cells ((l.take i).flatMap dh++d++((l.drop i).flatMap dh++rest.drop 27)).toArray lN (0,0)):=by
   rw[eU,ab rfl,q,I]
  rw[show(l.flatMap dh++rest).toArray.toList=l.flatMap dh++rest from rfl];generalize w.drew.setRow b (ji (l.flatMap dh++rest) ((i+1)*(26+1)) (((l.drop i).flatMap dh++rest.take 27).take ((l.length - i)*(26+1)))).toArray=A at C j|-;apply dy (vY pG qp (show i<=l.length+1 by omega) qZ qZ A)
  have hv3:Rd A 27 (.slice (some ⟨M,0,none⟩) 1 g) 1 (dh o):=by
   have:=hv.rd.mod C λb' p hs' =>hd b' hs' p.sl;rw[T]at this;exact this
  apply pZ (sz:=26) (k:=1) pG qp j hv3 (by grind) (by grind) (g9 o)
  have J:ji ((l.take i).flatMap dh++d++((l.drop i).flatMap dh++rest.drop 27)) (i*(26+1)) ((dh o).take (1*(26+1)))=(l.take i++o::l.drop i).flatMap dh++rest.drop 27:=by
   have e5:(dh o).take (1*(26+1))=dh o:=ay (by rw[bC];omega);rw[e5];unfold ji;rw[bC,show i*(26+1)=((l.take i).flatMap dh).length by rw[hA],ag ((l.take i).flatMap dh) d,df,<-cw,ck,<-F,ck];simp[ag]
  refine hK _ _ ⟨by rw[tU bC,n],.inr ⟨b,c,rest.drop 27,by rw[n],by rw[n];omega,?_,by grind,aW.2 λx E=>aW.1 O x (gJ E)⟩⟩ (C.setRow (.inl (show aQ (.slice (some ⟨b,0,none⟩) l.length c) b from rfl)) _) λb' p=>.inl p;show(A.setRow b (ji ((l.take i).flatMap dh++d++((l.drop i).flatMap dh++rest.drop 27)) (i*(26+1)) ((dh o).take (1*(26+1)))).toArray).heap[b]? =_;rw[eU,ab rfl,j,J]
end Go.Proofs
namespace Go.Proofs
open Go Go.Vc
attribute [local congr] bj
variable {n:Int}{l:List Ct}{F:NP_}{c:Nat}{w:Wt_}{K:be}
structure oq where
 day:Int
 l:List Ct
variable {S:oq}
def Ct.Ok(k:Ct):Prop:=k.Fit/\k.spec.may=true/\k.spec.isPrice k.price=true/\1<=k.st/\k.st<=3
def iM(l:List Ct)(n:Int):Nat:=(l.takeWhile λk=>decide (k.spec.num<n)).length
def bU(l:List Ct)(n:Int):Option Ct:=l.find? λk=>decide (k.spec.num=n)
def nU(l:List Ct):Prop:=l.Pairwise λa b=>a.spec.num<b.spec.num
structure mP(w:Wt_)(c:Nat)(F:NP_)(S:oq):Prop where
 out:∃sl,hC w c #[.bool true,gU S.day,sl] 172/\AD w sl S.l/\(∀x,F x↔x=c\/aQ sl x)/\¬aQ sl c
 len:S.l.length<=16
 day:gM S.day
 ok:∀k∈S.l,k.Ok
 srt:nU S.l
def mP.mod{G:NP_}{w' :Wt_}(h:mP w c F S)(e:bn G w w')(d:∀b,F b->¬G b):mP w' c F S:=by
 obtain⟨⟨sl,j,f,a,i⟩,l,n,k,m⟩:=h;exact⟨⟨sl,e.hpk j (d c ((a c).2 (.inl rfl))),f.mod e λb g=>d b ((a b).2 (.inr g)),a,i⟩,l,n,k,m⟩
def mP.lt(h:mP w c F S){b:Nat}(a:F b):b<w.heap.size:=by
 obtain⟨⟨sl,e,d,f,g⟩,i⟩:=h;rcases(f b).1 a with rfl|a
 ·exact aJ e
 ·exact d.lt a
def gk(c:Nat):Value:=cU c 0
def Dp(s:Sp):(fk s)[23]? =some (gU s.last):=by have:=WT s [];rwa[aC]at this
def ai2(s:Sp):(fk s)[24]? =some (gI s.first):=by have:=Tj s [];rwa[aC]at this
def ctT(k:Ct)(i:Nat)(h:i<25):(dh k)[i]? =(fk k.spec)[i]? :=by
 rw[dh,bP (by rw[bb];omega)]
def XM(k:Ct):(dh k)[0]? =some (gU k.spec.num):=rfl
def WQ(k:Ct):(dh k)[23]? =some (gU k.spec.last):=by rw[ctT k 23 qZ,Dp]
def Ga(k:Ct):(dh k)[25]? =some (gB k.st):=by have:=WW k [];rwa[aC]at this
def Wv(k:Ct):(dh k)[26]? =some (gI k.price):=by have:=WC k [];rwa[aC]at this
def Wf(k:Ct)(w:Wt_):∃a,(Instr.box lN (.agg (dh k).toArray)).run pQ w=.ok (cU w.heap.size 0) a/\hC a w.heap.size (dh k).toArray lN/\M0 w a:=
 ⟨w.alloc (.cells (dh k).toArray lN),rfl,by simp[go_sem],(bn.refl _ w).alloc _⟩
def N8(d:∀c F a,mP a c F ⟨0,[]⟩->M0 w a->(∀b,F b->w.heap.size<=b)->K (gk c) a):Ca pQ 33 #[] w K:=by
 refine cN Tryz.func33 ?_;refine dF ?_;apply az (gk w.heap.size) (w.alloc (.cells #[.bool true,gU 0,.slice none 0 0] 172)) rfl;exact d _ (λx=>x=w.heap.size) _ ⟨⟨.slice none 0 0,by simp[go_sem],il.nil _ _ _,λx=>⟨λh=>.inl h,λh=>h.elim id λh=>by cases h⟩,λh=>by cases h⟩,by simp,⟨by simp,by simp⟩,by simp,List.Pairwise.nil⟩ nl λb e=>by omega
def pE(h:mP w c F S)(b:K (.bool true) w):Ca pQ 152 #[gk c] w K:=by
 obtain⟨⟨sl,a,d,g,e⟩,f⟩:=h;unfold gk;refine cN Tryz.func152 ?_;refine lV ?_;simp only[cJ];refine dF ?_;refine dD a ?_;exact b
def twG{α:Type}{l:List α}{p:α->Bool}{j:Nat}(b:j<l.length)(h:∀o∈l.take j,p o=true)(a:p l[j]=false):l.takeWhile p=l.take j:=by
 induction l generalizing j with
 |nil=>simp at b
 |cons x l c=>
  cases j with
  |zero=>simp at a;simp[a]
  |succ j=>
   simp only[gY,aq,forall_eq_or_imp]at h;rw[List.takeWhile_cons_of_pos h.1,gY,c (by simpa using b) h.2 (by simpa using a)]
def twA{α:Type}{l:List α}{p:α->Bool}(h:∀o∈l,p o=true):l.takeWhile p=l:=by
 induction l with
 |nil=>rfl
 |cons x l b=>rw[List.takeWhile_cons_of_pos (h x (by simp)),b λo a=>h o (by simp[a])]
def Bn{i:Nat}(hi:i<=l.length)(d:∀j (a:j<l.length),j<i->l[j].spec.num<n)(e:∀(a:i<l.length),¬l[i].spec.num<n):iM l n=i:=by
 unfold iM;by_cases c:i<l.length
 ·rw[twG (p:=λk:Ct=>decide (k.spec.num<n)) c (λo b=>?_) (by simpa using e c),av,cV hi];obtain⟨j,a,rfl⟩:=bI b;rw[av]at a;rw[List.getElem_take];simpa using d j qZ qZ
 ·rw[twA λo b=>?_]
  ·omega
  ·obtain⟨j,a,rfl⟩:=bI b;simpa using d j a qZ
def OK(hs:nU l){n:Int}{i:Nat}(d:∀j (a:j<l.length),j<i->l[j].spec.num<n)(hi:i<l.length)(f:¬l[i].spec.num<n):
  bU l n=if l[i].spec.num=n then some l[i]else none:=by
 unfold bU;by_cases b:l[i].spec.num=n
 ·rw[ab b,dE];refine⟨by simpa using b,i,hi,rfl,λj a=>?_⟩;have:=d j qZ a;simp;omega
 ·rw[aa b,dS];intro k c;obtain⟨j,a,rfl⟩:=bI c;simp only[ax];intro e;rcases Nat.lt_trichotomy j i with h|h|h
  ·grind
  ·subst h;exact b e
  ·have:=bH.1 hs i j hi a h;omega
def Kf(c:∀j (a:j<l.length),l[j].spec.num<n):bU l n=none:=by
 unfold bU;rw[dS];intro k b;obtain⟨j,a,rfl⟩:=bI b;have:=c j a;simp;omega
def Gf{k:Ct}(a:∀e,M0 w e->K (gI (if k.spec.num<n then -1 else if n<k.spec.num then 1 else 0)) e):Ca pQ 260 #[.agg (dh k).toArray,gU n] w K:=by
 refine cN Tryz.func260 ?_;obtain⟨h,f,d,g⟩:=Wf k w;have a:=a _ g;apply dy f;refine dF ?_;refine dF ?_;refine nm d XM ?_;by_cases c:k.spec.num<n
 ·refine ee c ?_;rw[ab c]at a;exact a
 ·refine fH c ?_;rw[aa c]at a;refine dF ?_;refine dF ?_;refine nm d XM ?_;by_cases b:n<k.spec.num
  ·refine ee b ?_;rw[ab b]at a;exact a
  ·refine fH b ?_;rw[aa b]at a;exact a
def ZJ{i j:Nat}(h:i<j)(a:j<=1000000)(w:Wt_):∃x,(convert 3 263 (gI ((i:Int)+(j:Int)))).run pQ w=.ok x w/\∃y,(nV .shr 263 true x (gQ 1)).run pQ w=.ok y w/\(convert 263 3 y).run pQ w=.ok (gI (((i+j) / 2:Nat):Int)) w:=by
 refine⟨.int .u64 (((i+j:Nat):Int)),?_,gQ (((i+j) / 2:Nat):Int),?_,?_⟩
 ·simp[go_sem];rw[IntKind.wrap_u64];omega
 ·simp[go_sem,jj]
 ·simp[go_sem];rw[cy];omega
def UR{s:Vt_}(h:Rd w 27 s l.length (l.flatMap dh))(hn:l.length<=1000)(hs:nU l)
  (P:∀M,M0 w M->K (.tuple #[.int .i64 (iM l n),.bool (bU l n).isSome]) M):Ca pQ 259 #[s,gU n,.func (.func 260) #[] #[]] w K:=by
 refine cN Tryz.func259 ?_;obtain⟨a,c,E⟩:=h.isSl;apply ke (gI (l.length:Int)) w (by rw[E];simp[go_sem])
 refine iz (λst W=>∃i j:Nat,i<=j/\j<=l.length/\st=(gI i,gI j,())/\M0 w W/\(∀x (d:x<l.length),x<i->l[x].spec.num<n)/\∀x (d:x<l.length),j<=x->¬l[x].spec.num<n)
  (λst _=>match st.1,st.2.1 with| .int _ i,.int _ j=>j.toNat - i.toNat|_,_=>0) ⟨0,l.length,qZ,qZ,rfl,rC,λx d h=>qZ,λx d h=>qZ⟩ ?_
 rintro⟨_,_,_⟩ W ⟨i,j,T,v,⟨⟩,f,z,N⟩ KN t;refine rT ?_;intro _
 have e:∀W,M0 w W->∀x (d:x<l.length),∃p,(iX Kn s (gI (x:Int))).run pQ W=.ok p W/\(pp lN p).run pQ W=.ok (.agg (dh l[x]).toArray) W:=λW f x d=>by
  obtain⟨b,G,V,C,Q,X⟩:=(h.mod f eI).item bC d rfl;exact⟨.pointer (some ⟨b,G+x*27,none⟩),by rw[C];simp[go_sem,d,bQ,pG],ft Dq qp (bC _) X⟩
 by_cases B:i<j
 ·have r:(i:Int)<(j:Int):=qZ;refine ee r ?_;apply az (gI ((i:Int)+(j:Int))) W (by simp[go_sem];rw[mL]);obtain⟨x,e1,y,Y,e3⟩:=ZJ B qZ W;apply dy e1;apply dy Y;apply dy e3;obtain⟨m,Z⟩:=dW ((i+j) / 2);rw[<-Z];have k:m<l.length:=qZ;obtain⟨p,F,J⟩:=e W f m k;apply dy F;apply kI J;simp only[iI];refine Gf λD H=>?_;have R:=f.trans H;by_cases A:l[m].spec.num<n
  ·rw[ab A];refine lV ?_;apply az (gI ((m+1:Nat):Int)) D (by simp[go_sem];rw[mL]);refine t _ _ ⟨m+1,j,qZ,v,rfl,R,λx d I=>?_,N⟩ (by grind);by_cases q:x=m
   ·subst q;exact A
   ·have:=bH.1 hs x m d k qZ;omega
  ·rw[aa A];have L:¬((if n<l[m].spec.num then 1 else 0:Int)<0):=by split<;>omega
   refine fH L ?_;refine t _ _ ⟨i,m,qZ,qZ,rfl,R,z,λx d I=>?_⟩ (by grind);by_cases q:x=m
   ·subst q;exact A
   ·have:=bH.1 hs m x k d qZ;omega
 ·obtain rfl:i=j:=qZ;refine fh ?_;by_cases o:i<l.length
  ·have u:(i:Int)<(l.length:Int):=qZ;refine ee u ?_;obtain⟨p,F,J⟩:=e W f i o;apply dy F;apply kI J;simp only[iI];have g:=N i o (aB _);refine Gf λD H=>?_;rw[aa g];refine az (.bool (bU l n).isSome) D ?_ ?_
   ·rw[OK hs z o g];by_cases q:l[i].spec.num=n
    ·simp[go_sem,q]
    ·have d:n<l[i].spec.num:=qZ;simp[go_sem,q,d]
   have:=Bn v z λv=>g;rw[<-this];exact P _ (f.trans H)
  ·obtain rfl:i=l.length:=qZ;refine fh ?_;have U:iM l n=l.length:=Bn v z λv=>by omega
   have S:=Kf λx d=>z x d d;have O:=P _ f;rw[U,S]at O;exact O
end Go.Proofs
