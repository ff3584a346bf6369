/- Part of a proof. -/
import Derived.Test.YtnfloameajanhaaGreatY6
set_option linter.all false
namespace Go.Proofs
open Go Go.Vc
attribute [local congr] cR
variable {B:Bk}{k:Ct}{n a:Int}{l:List Ct}{F:NP_}{b i c:Nat}{T:TypeId}{s:Vt_}{w:Wt_}{K:cG}
def Ub{gv:Vt_}{α:Type}{xs:List α}{XS:List (List Value)}{TF:TypeId}{fv:α->Value}{fc:α->List Value}{u:List Nat->Option Code->World->Prop}{Q0:NP_}{yl n0 k:Nat}
  {J:(Nat->Prop)->Nat->World->Prop}{Js:(Nat->Prop)->World->Prop}
  (ht:th gv (xs.map λa=>[fv a]) w)(hv:rS T fv fc xs)
  (hld:∀a∈xs,∀(W:Wt_) q,hC W q (fc a).toArray T->(iL T (pt q 0)).run pQ W=.ok (fv a) W)
  (s:∀Q p i W e,J Q i W->de Q W e->(∀b,p b->(Q b\/W.heap.size<=b)/\b<e.heap.size)->J p i e)
  (y:∀Q p W e,Js Q W->de Q W e->(∀b,p b->(Q b\/W.heap.size<=b)/\b<e.heap.size)->Js p e)
  (R:∀Q i x W,XS[i]? =some x->J Q i W->∀K' :cG,(∀e,J Q (i+1) e->W.heap.size<=e.heap.size->(∀b,Q b->e.heap[b]? =W.heap[b]?)->K' (.bool true) e)->(∀e,Js Q e->W.heap.size<=e.heap.size->(∀b,Q b->e.heap[b]? =W.heap[b]?)->K' (.bool false) e)->iv pQ (.func (.yield yl) #[] #[]) x W K')
  (hxs:∀i (hi:i<xs.length),XS[k+i]? =some [fv xs[i]])
  (hy:hC w n0 #[.func (.yield yl) #[] #[]] TF)(hyl:∀W,hp W n0=some (.cells #[.func (.yield yl) #[] #[]] TF (0,0))->(iL TF (pt n0 0)).run pQ W=.ok (.func (.yield yl) #[] #[]) W)
  (hn0:Q0 n0)(hQ0:∀b,Q0 b->b<w.heap.size)(hJ0:J Q0 k w)
  (hend:∀Q W d,d=w.heap.size->J Q (k+xs.length) W->(∀b,Q0 b->Q b)->Q d->(∀b,Q b->b<W.heap.size)->(∀b,Q b->Q0 b\/w.heap.size<=b)->(∀b,Q0 b->W.heap[b]? =w.heap[b]?)->hp W d=some (.deferred (some []))->u [d] none W)
  (Y:∀Q W d,d=w.heap.size->Js Q W->(∀b,Q0 b->Q b)->Q d->(∀b,Q b->b<W.heap.size)->(∀b,Q b->Q0 b\/w.heap.size<=b)->(∀b,Q0 b->W.heap[b]? =w.heap[b]?)->hp W d=some (.deferred (some []))->u [d] (some .ret) W):
  yP pQ none gv w 1 (λl x W KN KJ=>rv pQ (iA T true (.tuple #[])) W λv w1=>ru pQ (iS T v (x.getD 0 undef)) w1 λw2=>lC l w2 λw3=>
   rv pQ (iL TF (pt n0 0)) w3 λv41 w42=>rv pQ (iL T v) w42 λv43 w44=>iv pQ v41 [v43] w44 λv45 w46=>rv pQ (Op.unary .not v45) w46 λv47 w48=>cV v47 (KJ .ret w48) (KN w48)) u:=by
 obtain⟨⟨Ok,hit,hok⟩,-⟩:=ht;obtain⟨f,first,captured,rfl,hit0⟩:=hit.out;apply wu.2;show∀g:Loop,_;intro g n G hD hY;obtain⟨d,C⟩:=dW w.heap.size;have P:(w.alloc (.deferred (some []))).heap.size=d+1:=by rw[eG,C]
 obtain⟨wr,F⟩:=dW ((w.alloc (.deferred (some []))).alloc (.loop g));have O:wr.heap[d+1]? =some (.loop g):=by rw[F,gy,bZ P.symm]
 have hszr:wr.heap.size=d+2:=by rw[F,eG,P]
 have X:hp wr d=some (.deferred (some [])):=by rw[F];simp[go_sem,C]
 have hmr:M0 w wr:=by rw[F];exact lm.alloc _
 have m:∀(W:Wt_) (o:Obj),de (λb=>b=d+1) W (W.putObj (d+1) o):=λW o=>(de.refl (λb=>b=d+1) W).putObj (b:=d+1) (.inl rfl) o;rw[P]at hY|-;rw[<-F];let U:(Nat->Prop)->Nat->Prop:=λQ b=>Q0 b\/b=d\/b=d+1\/Q b;let S:(Nat->Prop)->World->Prop:=λQ W=>hp W d=some (.deferred (some []))/\(∀b,Q b->d+1<b/\b<W.heap.size)/\∀b,Q0 b->W.heap[b]? =w.heap[b]?
 have hS:∀(Q p H:NP_) (W e:Wt_),S Q W->d+2<=W.heap.size->de H W e->(∀b,H b->Q b\/b=d+1)->(∀b,p b->(Q b\/W.heap.size<=b)/\b<e.heap.size)->S p e:=by
  rintro Q p H W e ⟨s1,s2,s3⟩ hl j hH A;refine⟨j.hpk s1 λc=>?_,λb c=>?_,λb c=>?_⟩
  ·rcases hH _ c with h|h
   ·have:=s2 _ h;omega
   ·omega
  ·have ha:=A b c;rcases ha.1 with h|h
   ·grind
   ·grind
  ·have hbl:=hQ0 b c;rw[j.blk b qZ λhx=>?_,s3 b c];rcases hH _ hx with h|h
   ·have:=s2 _ h;omega
   ·omega
 have M:∀(Q p:NP_) (W e:Wt_),d+2<=W.heap.size->W.heap.size<=e.heap.size->(∀b,p b->(Q b\/W.heap.size<=b)/\b<e.heap.size)->∀b,U p b->(U Q b\/W.heap.size<=b)/\b<e.heap.size:=by
  rintro Q p W e K I t b (h|h|h|h)
  ·grind
  ·grind
  ·grind
  ·grind
 have z:∀{H Q:NP_} {W e:Wt_},de H W e->(∀b,H b->Q b\/b=d+1)->de (U Q) W e:=λj hH=>j.mono λb _ c=>by
  rcases hH b c with h|h
  ·grind
  ·grind
 refine hit0 _ (λQ i W=>J (U Q) (k+i) W/\S Q W/\W.heap[d+1]? =some (.loop g))
  (λQ W=>∃r,Js (U Q) W/\S Q W/\W.heap[d+1]? =some (.loop r)/\r.state=.done/\r.pending=some .ret) _ _ (hok _ hmr) ?_ ?_ ?_ ?_ ?_ ?_
 ·intro Q W1 j hQ;have hs1:=j.size;refine⟨s _ _ _ _ _ hJ0 ((hmr.trans j).to) ?_,⟨j.hpk X id,λb c=>by grind,λb c=>?_⟩,j.keep O id⟩
  ·rintro b (h|h|h|h)
   ·grind
   ·grind
   ·grind
   ·grind
  ·exact(hmr.trans j).blk b (hQ0 b c) id
 ·rintro Q p i W e ⟨K,I,t⟩ j A;have hl:=cB t;exact⟨s _ _ _ _ _ K (z j λb c=>.inl c) (M Q p W e qZ j.size A),hS _ _ _ _ _ I qZ j (λb c=>.inl c) A,j.keep t λc=>by grind⟩
 ·rintro Q p W e ⟨r,K,I,t,h4⟩ j A;have hl:=cB t;exact⟨r,y _ _ _ _ K (z j λb c=>.inl c) (M Q p W e qZ j.size A),hS _ _ _ _ _ I qZ j (λb c=>.inl c) A,j.keep t λc=>by grind,h4⟩
 ·rintro Q i x W hx ⟨K,I,t⟩ K' hT hF;apply oe.2;show Yl pQ (d+1) ⟨_⟩ W K';have e1:(#[]:Array Value).toList++x=x:=rfl;rw[e1]
  obtain⟨hi,rfl⟩:∃hi:i<xs.length,x=[fv xs[i]]:=by
   rw[dO]at hx;cases hh:xs[i]? with
   |none=>rw[hh]at hx;cases hx
   |some o=>
    obtain⟨hj,he⟩:=cP.1 hh;rw[hh]at hx;exact⟨hj,by grind⟩
  apply hY _ W K' rfl ⟨g.state,g.pending,t⟩;obtain⟨w1,w2,v1,v2,v3,v4⟩:=hv xs[i] (cC hi) W;obtain⟨q,hq0⟩:=dW W.heap.size;rw[<-hq0]at v1 v2 v3;apply cI v1;show ru pQ (iS T (pt q 0) (fv xs[i])) w1 _;apply ir v2;have r2:w2.heap[d+1]? =some (.loop g):=v4.keep t id;apply ux r2 n;have m3:=m w2 (.loop {g with state:=.busy});have r3:(w2.putObj (d+1) (.loop {g with state:=.busy})).heap[d+1]? =some (.loop {g with state:=.busy}):=by rw[fY,bZ rfl,r2];rfl
  generalize w2.putObj (d+1) (.loop {g with state:=.busy})=w3 at m3 r3|-;have hdl:d+1<q:=by grind
  have q3:=m3.hpk v3 qZ;have hs3:=m3.size;have hs4:=v4.size;have M3:de (λb=>b=d+1) W w3:=(v4.to).trans m3;have hQs:∀(e:Wt_),W.heap.size<=e.heap.size->∀b,Q b->(Q b\/W.heap.size<=b)/\b<e.heap.size:=λe hs b c=>⟨.inl c,by grind⟩
  have hJ3:=s _ _ _ _ _ K (z (Q:=Q) M3 λb c=>.inr c) (M Q Q W w3 qZ M3.size (hQs _ M3.size));have hS3:=hS _ _ _ _ _ I qZ M3 (λb c=>.inr c) (hQs _ M3.size);refine cI (hyl _ ?_) ?_
  ·have:=hS3.2.2 n0 hn0;unfold hp;rw[this];exact hy
  apply cI (hld xs[i] (cC hi) _ _ q3)
  have L:∀(e:Wt_) (o:Obj),w3.heap.size<=e.heap.size->(∀b,U Q b->e.heap[b]? =w3.heap[b]?)->
    e.heap[d+1]? =some (.loop {g with state:=.busy})/\S Q (e.putObj (d+1) o)/\(∀b,Q b->(e.putObj (d+1) o).heap[b]? =W.heap[b]?)/\W.heap.size<=(e.putObj (d+1) o).heap.size:=by
   intro e o hs B;have Z:=m e o;have hsp:=Z.size;have hs' :S Q e:=⟨by unfold hp;rw[B d (.inr (.inl rfl))];exact hS3.1,λb c=>by grind,λb c=>by grind⟩
   refine⟨by grind,hS _ _ _ _ _ hs' qZ Z (λb c=>.inr c) λb c=>⟨.inl c,by grind⟩,λb c=>?_,qZ⟩;have ha:=I.2.1 b c;rw[Z.blk b qZ qZ,B b (.inr (.inr (.inr c))),M3.blk b ha.2 qZ]
  refine R _ _ _ _ (hxs i hi) hJ3 _ (λe V hs B=>?_) λe V hs B=>?_
  ·refine qSf0 ?_;obtain⟨k1,k2,k3,k4⟩:=L e (.loop {{g with state:=.busy}with state:=.ready,pending:=none}) hs B;refine⟨_,k1,hT _ ⟨?_,k2,?_⟩ k4 k3⟩
   ·exact s _ _ _ _ _ V (z (Q:=Q) (m e _) λb c=>.inr c) (M Q Q e _ qZ (m e _).size λb c=>⟨.inl c,(k2.2.1 b c).2⟩)
   ·rw[fY,bZ rfl,k1];simp[<-n,<-G]
  ·refine qSt0 ?_;obtain⟨k1,k2,k3,k4⟩:=L e (.loop {{g with state:=.busy}with state:=.done,pending:=some .ret}) hs B;refine⟨_,k1,hF _ ⟨{g with state:=.done,pending:=some .ret},?_,k2,?_,rfl,rfl⟩ k4 k3⟩
   ·exact y _ _ _ _ V (z (Q:=Q) (m e _) λb c=>.inr c) (M Q Q e _ qZ (m e _).size λb c=>⟨.inl c,(k2.2.1 b c).2⟩)
   ·rw[fY,bZ rfl,k1];rfl
 ·rintro Q W ⟨K,I,t⟩;refine⟨g,t,by rw[n];decide,?_⟩;rw[<-C];have hl:=cB t;have j:=m W (.loop {g with state:=.exhausted});generalize W.putObj (d+1) (.loop {g with state:=.exhausted})=N at j|-;have hs8:=j.size;rw[G];have D:∀b,Q b->(Q b\/W.heap.size<=b)/\b<N.heap.size:=λb c=>⟨.inl c,by grind⟩
  have E:=hS _ _ _ _ _ I qZ j (λb c=>.inr c) D;have h1' :J (U Q) (k+xs.length) W:=by grind
  refine hend (U Q) N d C (s _ _ _ _ _ h1' (z (Q:=Q) j λb c=>.inr c) (M Q Q W N qZ j.size D)) (λb c=>.inl c) (.inr (.inl rfl)) (λb c=>?_) (λb c=>?_) E.2.2 E.1
  ·grind
  ·rcases c with h|h|h|h
   ·exact .inl h
   ·exact gz
   ·exact gz
   ·exact .inr (by grind)
 ·rintro Q W ⟨r,K,I,t,h4,h5⟩;refine⟨r,t,by rw[h4];decide,?_⟩;rw[<-C];have hl:=cB t;have j:=m W (.loop {r with state:=.exhausted});generalize W.putObj (d+1) (.loop {r with state:=.exhausted})=N at j|-;have hs8:=j.size;rw[h5];have D:∀b,Q b->(Q b\/W.heap.size<=b)/\b<N.heap.size:=λb c=>⟨.inl c,by grind⟩
  have E:=hS _ _ _ _ _ I qZ j (λb c=>.inr c) D;refine Y (U Q) N d C (y _ _ _ _ K (z (Q:=Q) j λb c=>.inr c) (M Q Q W N qZ j.size D)) (λb c=>.inl c) (.inr (.inl rfl)) (λb c=>?_) (λb c=>?_) E.2.2 E.1
  ·exact(M Q Q W N qZ j.size D b c).2
  ·rcases c with h|h|h|h
   ·exact .inl h
   ·exact gz
   ·exact gz
   ·grind
def lp.keep{w' :Wt_}{s:Nat}{buy:Bool}{l:List Od}(h:lp w s F buy l)(c:∀b,F b->w'.heap[b]? =w.heap[b]?):lp w' s F buy l:=by
 obtain⟨⟨sl,g,e,a,f⟩,i,d⟩:=h;exact⟨⟨sl,(c s ((a s).2 (.inl rfl))).trans g,e.keep λb j=>c b ((a b).2 (.inr j)),a,f⟩,i,d⟩
def ag0:∀a:Od,∀(W:Wt_) q,hC W q (fL a).toArray pz->(iL pz (pt q 0)).run pQ W=.ok (oG a) W:=λa W q h=>lM (o:=a) (At.all h)
def Tm{vb:Nat}:RZ pQ (.func (.func 56) #[] #[.pointer (some ⟨vb,0,none⟩)]) ((B true++B false).map λo=>[oG o]) (λW=>hC W vb #[jY b] T/\∃F,kK W b F B):=by
 refine⟨⟨_,_,_,rfl,?_⟩⟩;rintro w J Js W K ⟨R,F,hq⟩ h0 m l u H hex;show Ca pQ _ #[.func (.yield w) #[] #[],.pointer (some ⟨vb,0,none⟩)] W K;apply at4;obtain⟨z,E⟩:=dW W.heap.size;have U:M0 W (W.alloc (.cells #[.func (.yield w) #[] #[]] 141)):=lm;have Z:hC (W.alloc (.cells #[.func (.yield w) #[] #[]] 141)) z #[.func (.yield w) #[] #[]] 141:=by rw[E];simp[go_sem]
 apply cx (pt z 0) (W.alloc (.cells #[.func (.yield w) #[] #[]] 141)) (by rw[E];rfl);generalize W.alloc (.cells #[.func (.yield w) #[] #[]] 141)=w1 at U Z|-;have O:=U.hpk R id;have L:=hq.mod U eQ;apply cx (jY b) w1 (by simp[go_sem,O,jY]);apply sY L;refine qSf0 ?_;apply cx (jY b) w1 (by simp[go_sem,O,jY]);refine EY L λb' F' w2 q2 m2 n2=>?_;obtain⟨s,G,hr,hF'⟩:=q2.r;have md:M0 w2 w2.drew:=mP;have r:=hr.mod md id λ_ _ _ h=>h;have c0:=r.blk;simp only[jY,dr];refine qP0 ?_;refine qW1 c0 ?_;refine qP0 ?_;refine qW1 c0 ?_;refine oJ [fQ (s true),fQ (s false)] psU (eO psE) rfl rfl (by intro v hv;simp only[cH,mi,or_false]at hv;rcases hv with rfl|rfl<;>rfl) qZ ?_;have e0:(([fQ (s true),fQ (s false)]:LV_).flatMap (·.cells.toList)).toArray= #[fQ (s true),fQ (s false)]:=rfl;rw[e0];have M2:=(U.trans m2).trans md;have V:=m2.hpk Z id;have V:=md.hpk V id;generalize w2.drew=C at md r c0 M2 V|-;obtain⟨q,D⟩:=dW C.heap.size;have A:M0 C (C.alloc (.cells #[fQ (s true),fQ (s false)] 142)):=lm;have b4:hC (C.alloc (.cells #[fQ (s true),fQ (s false)] 142)) q #[fQ (s true),fQ (s false)] 142:=by rw[D];simp[go_sem]
 rw[<-D];generalize C.alloc (.cells #[fQ (s true),fQ (s false)] 142)=w4 at A b4|-;have r4:=r.mod A id λ_ _ _ h=>h;have n4:=A.hpk V id;have M4:=M2.trans A;refine qW0 ?_;have hs2:=m2.size;have hsd:=md.size;have hs4:=A.size;have hn0l:=cB Z;have hql:=cB b4;have n:∀d x,G d x->W.heap.size<=x/\x<w4.heap.size:=λd x c=>⟨by have:=n2 x ((hF' x).2 (.inr (by cases d;exact .inr c;exact .inl c)));omega,r4.lt c⟩
 let g:Nat->Nat:=λi=>if i=0 then 0 else if i=1 then(B true).length else(B true++B false).length
 let St:(Nat->Prop)->List Nat->World->Prop:=λQ ds f=>hC f z #[.func (.yield w) #[] #[]] 141/\hC f q #[fQ (s true),fQ (s false)] 142/\(∀d,lp f (s d) (G d) d (B d))/\
  (∀d∈ds,hp f d=some (.deferred (some []))/\Q d)/\ds.Nodup/\(∀b,Q b->b<f.heap.size)/\Q z/\Q q/\∀d x,G d x->Q x
 have hJ4:J (λx=>x=z\/x=q\/G true x\/G false x) 0 w4:=h0 _ _ M4 λx c=>by
  rcases c with rfl|rfl|h|h
  ·omega
  ·omega
  ·exact n _ _ h
  ·exact n _ _ h
 refine eS (λst f=>∃(i:Nat) (Q:NP_) (ds:List Nat),i<=2/\st=((gI i,()),ds)/\J Q (g i) f/\St Q ds f)
  (λst _=>match st.1.1 with| .int _ i=>2 - i.toNat|_=>0) ⟨0,_,[],qZ,rfl,hJ4,n4,b4,r4.sd,λd r=>absurd r mi,nB,λx c=>?_,.inl rfl,.inr (.inl rfl),λd x c=>by cases d;exact .inr (.inr (.inr c));exact .inr (.inr (.inl c))⟩ ?_
 ·rcases c with rfl|rfl|h|h
  ·omega
  ·omega
  ·exact(n _ _ h).2
  ·exact(n _ _ h).2
 rintro⟨_,ds⟩ W5 ⟨i,Q,ds0,hi,⟨⟩,hJ,k1,k2,k3,k4,k5,k6,k7,k8,k9⟩ KN hKN;unfold UR;intro _;by_cases Y:i<2
 ·have M:(i:Int)<2:=qZ;refine qSt1 M ?_
  obtain⟨d,r⟩:∃d:Bool,(i=0/\d=true)\/(i=1/\d=false):=by
   by_cases h0:i=0
   ·exact⟨true,.inl ⟨h0,rfl⟩⟩
   ·exact⟨false,.inr ⟨qZ,rfl⟩⟩
  have N:¬(2:Int)<=(i:Int):=qZ;apply cx (pt q i) W5 (by simp[go_sem,Y,N,cS]);apply cx (fQ (s d)) W5 (by rcases r with⟨rfl,rfl⟩|⟨rfl,rfl⟩<;>simp[go_sem,k2]);refine K7 (k3 d) λgv w6 ht p=>?_;have hs6:=p.size;have X:=m _ Q _ _ _ hJ (p.to) λb R=>⟨.inl R,by grind⟩
  have hoff:g i+(B d).length=g (i+1):=by grind
  delta Vb
  refine Ub (XS:=(B true++B false).map λo=>[oG o]) (T:=pz) (fc:=fL) (Q0:=Q) (k:=g i) ht.m rS.od (λa _=>ag0 a) m l u ?_ (p.hpk k1 id) ?_ k7 (λb R=>by grind) X ?_ ?_
  ·intro j hj;rcases r with⟨rfl,rfl⟩|⟨rfl,rfl⟩
   ·grind
   ·grind
  ·intro f h;simp[go_sem,h]
  ·intro Q' f dd hdd I y a2 a3 a4 S a6;have t:∀x o,Q x->hp w6 x=some o->hp f x=some o:=λx o c h=>by unfold hp;rw[S x c];exact h
   have hSd:∀d,lp f (s d) (G d) d (B d):=λe=>(((k3 e).mod p eQ)).keep λx c=>S x (k9 e x c);unfold Rx;simp only[iJ];apply cx (gI ((i+1:Nat):Int)) f (by simp[go_sem];rw[wI_]);refine hKN _ _ ⟨i+1,Q',[dd]++ds,qZ,rfl,by grind,t _ _ k7 (p.hpk k1 id),t _ _ k8 (p.hpk k2 id),hSd,λx c=>?_,?_,a3,y _ k7,y _ k8,λe x c=>y _ (k9 e x c)⟩ (by grind)
   ·rcases cH.1 c with rfl|c
    ·exact⟨a6,a2⟩
    ·exact⟨t _ _ (k4 x c).2 (p.hpk (k4 x c).1 id),y _ (k4 x c).2⟩
   ·grind
  ·intro Q' f dd hdd I y a2 a3 a4 S a6;unfold Rx;simp only[iJ];refine Nk (ds:=[dd]++ds) ?_ ?_ λW8 P=>?_
   ·grind
   ·intro x c;rcases cH.1 c with rfl|c
    ·exact a6
    ·unfold hp;rw[S x (k4 x c).2];exact p.hpk (k4 x c).1 id
   ·refine hex _ _ (l _ Q' _ _ I (P.mono λx _ c=>?_) λx c=>⟨.inl c,by have:=a3 x c;have:=P.size;omega⟩);rcases cH.1 c with rfl|c
    ·exact a2
    ·exact y _ (k4 x c).2
 ·obtain rfl:i=2:=qZ;refine qSf0 ?_;refine Nk (ds:=ds) k5 (λx c=>(k4 x c).1) λW8 P=>?_;apply H Q _;have e:g 2=((B true++B false).map λo=>[oG o]).length:=by simp[g]
  rw[<-e];exact m _ Q _ _ _ hJ (P.mono λx _ c=>(k4 x c).2) λx c=>⟨.inl c,by have:=k6 x c;have:=P.size;omega⟩
def Ce(h:kK w b F B)
  (e:∀gv a,th gv ((B true++B false).map λo=>[oG o]) a->M0 w a->K gv a):Ca pQ 31 #[jY b] w K:=by
 apply aE8;have c:M0 w (w.alloc (.cells #[jY b] 100)):=lm;apply cx (pt w.heap.size 0) (w.alloc (.cells #[jY b] 100)) (by simp[go_sem,jY]);have d:hC (w.alloc (.cells #[jY b] 100)) w.heap.size #[jY b] 100:=by simp[go_sem]
 exact e _ _ ⟨⟨_,Tm (b:=b) (vb:=w.heap.size) (B:=B) (T:=100),λW m=>⟨m.hpk d id,F,h.mod (c.trans m) eQ⟩⟩,_,_,rfl⟩ c
def kK.slt(h:kK w b F B):b<w.heap.size:=h.lt h.self
def kK.nn(h:kK w b F B):∀d,(B d).length<=100/\∀o∈B d,o.may=true/\o.buy=d/\o.Fit:=by
 obtain⟨s,G,a,c⟩:=h.r;exact λd=>⟨(a.sd d).len,(a.sd d).may⟩
def zu(h:kK w b F B)
  (f:∀d c,kK c b d (jX B n).2.1->de F w c->(∀x,d x->F x\/w.heap.size<=x)->
   K (.tuple #[oG (jX B n).2.2,gI (jX B n).1]) c):Ca pQ 137 #[jY b,gQ n] w K:=by
 obtain⟨s,G,i,g⟩:=h.r;refine G5 i λl c e j k=>f _ _ e.q (j.mono λx _ a=>(g x).2 (.inr a)) λx a=>?_;rcases a with a|a|a
 ·grind
 ·grind
 ·grind
def EP{o:Od}{k:Int}(h:kK w b F B)(j:o.Fit)(m:0<=k/\k<256)
  (n:∀i e f d,kK d b i (gD B o k).2.1->Ji d e f (gD B o k).2.2.trades (gD B o k).2.2.gone->de F w d->(∀x,i x->F x\/w.heap.size<=x)->
   (∀x,cK e x\/cK f x->w.heap.size<=x/\¬i x)->K (.tuple #[.agg (uy e f (gD B o k).2.2.filled (gD B o k).2.2.left),gI (gD B o k).1]) d):Ca pQ 145 #[jY b,oG o,gB k] w K:=by
 obtain⟨s,G,q,p⟩:=h.r;have y:=h.slt;refine Q6 q j m λv e f d l t r u g=>n _ e f _ l.q t (r.mono λx _ a=>(p x).2 (.inr a)) (λx a=>?_) λx a=>⟨(g x a).1,λc=>?_⟩
 ·rcases a with a|a|a
  ·grind
  ·grind
  ·grind
 ·rcases c with c|c|c
  ·grind
  ·exact(g x a).2 _ c
  ·exact(g x a).2 _ c
def BC{price left:Int}(h:kK w b F B)(i:jl price)(f:jl left)
  (m:∀k e g d,kK d b k (fX B n price left).2.1->Ji d e g (fX B n price left).2.2.trades (fX B n price left).2.2.gone->de F w d->(∀x,k x->F x\/w.heap.size<=x)->
   (∀x,cK e x\/cK g x->w.heap.size<=x/\¬k x)->K (.tuple #[.agg (uy e g (fX B n price left).2.2.filled (fX B n price left).2.2.left),gI (fX B n price left).1]) d):Ca pQ 142 #[jY b,gQ n,gI price,gI left] w K:=by
 obtain⟨s,G,p,o⟩:=h.r;have v:=h.slt;refine JI p i f λu e g d l r q t j=>m _ e g _ l.q r (q.mono λx _ a=>(o x).2 (.inr a)) (λx a=>?_) λx a=>⟨(j x a).1,λc=>?_⟩
 ·rcases a with a|a|a
  ·grind
  ·grind
  ·grind
 ·rcases c with c|c|c
  ·grind
  ·exact(j x a).2 _ c
  ·exact(j x a).2 _ c
def MY(h:kK w b F B)
  (d:∀a,M0 w a->K (.tuple #[oG (match B.find n with|none=>pC|some (o,_)=>o),gI (match B.find n with|none=>7|some _=>0)]) a):Ca pQ 168 #[jY b,gQ n] w K:=by
 obtain⟨s,G,c,e⟩:=h.r;exact OT c d
def Bk.all(B:Bk):List Od:=B true++B false
def kK.all(h:kK w b F B):B.all.length<=200/\∀o∈B.all,o.may=true/\o.Fit:=by
 have:=h.nn;refine⟨by unfold Bk.all;rw[cD];have d:=(this true).1;have c:=(this false).1;omega,λo a=>?_⟩;rcases dg.1 a with a|a
 ·grind
 ·grind
def pA(a:Int)(o:Od):Bool:=decide (a=0)||decide (o.acct=a)
def yr(a:Int)(B:Bk)(l:List Od):Bk:=l.foldl (λB o=>if pA a o then(jX B o.num).2.1 else B) B
def qi(B:Bk)(a:Int):Bk×List Od:=(yr a B B.all,B.all.filter (pA a))
def Dy(a:Int)(B:Bk)(l:List Od)(o:Od):yr a B (l++[o])=if pA a o then(jX (yr a B l) o.num).2.1 else yr a B l:=by
 unfold yr;rw[kH];rfl
def eA{α:Type}{l:List α}(hi:i<l.length):l.take (i+1)=l.take i++[l[i]]:=by
 rw[kL,cE hi];rfl
def KV(h:kK w b F B)
  (hK:∀m sl w',kK w' b m (qi B a).1->qR w' sl (qi B a).2->de F w w' ->(∀x,m x->F x\/w.heap.size<=x)->(∀x,cK sl x->w.heap.size<=x/\¬m x)->K sl w'):Ca pQ 135 #[jY b,gU a] w K:=by
 apply Zo;obtain⟨g,r⟩:=dW w.heap.size
 have hlay:∃u,((w.alloc (.cells #[jY b] 100)).alloc (.cells #[.int .u32 a] 23) |>.alloc (.cells #[dv] 95))=u/\u.heap.size=g+3/\M0 w u/\
   hC u g #[jY b] 100/\hC u (g+1) #[.int .u32 a] 23/\hC u (g+2) #[dv] 95:=by
  refine⟨_,rfl,by simp[go_sem,r],(lm.alloc _).alloc _,?_,?_,?_⟩<;>simp[go_sem,r]
 obtain⟨u,hw3,hsz3,m3,b0,b1,b2⟩:=hlay;apply cx (pt g 0) (w.alloc (.cells #[jY b] 100)) (by simp[go_sem,jY,r]);refine qSv1 (pt (g+1) 0) r ?_;apply cx (pt (g+2) 0) u (by rw[<-hw3];simp[go_sem,r,dv]);clear hw3;apply cx (jY b) u (by simp[go_sem,b0,jY]);refine Ce (h.mod m3 eQ) λgv w5 ht V=>?_;have M5:=m3.trans V;have q5:=h.mod M5 eQ;have hs5:=V.size;have y:∀x,F x->x<g:=λx c=>by rw[r];exact h.lt c
 have hal:=h.all
 let I:(Nat->Prop)->Nat->World->Prop:=λX i W=>∃m sl,kK W b m (yr a B (B.all.take i))/\qR W sl ((B.all.take i).filter (pA a))/\hC W g #[jY b] 100/\hC W (g+1) #[.int .u32 a] 23/\
  hC W (g+2) #[sl] 95/\(∀x,X x↔(g<=x/\x<g+3)\/m x\/cK sl x)/\(∀x,cK sl x->g+3<=x/\¬m x)/\∀x,m x->F x\/g+3<=x
 delta Pa
 refine zj (X0:=λx=>(g<=x/\x<g+3)\/F x) (T:=pz) (fc:=fL) ht rS.od I (λ_ _ _=>False) ?_ (λ_ _ _ _ _ h=>h.elim) (λx c=>?_) ⟨F,dv,q5,jo.nil _ _ _,V.hpk b0 id,V.hpk b1 id,V.hpk b2 id,λx=>?_,λx c=>(by cases c),λx c=>.inl c⟩ ?_ ?_ (λ_ _ _ _ _ h=>h.elim)
 ·rintro X i W R H ⟨m,sl,M,D,Q,J,C,k,v,A⟩ Z z;exact⟨m,sl,M.mod Z λx c=>z x ((k x).2 (.inr (.inl c))),D.mod Z λx c=>z x ((k x).2 (.inr (.inr c))),Z.hpk Q (z _ ((k _).2 (.inl qZ))),Z.hpk J (z _ ((k _).2 (.inl qZ))),Z.hpk C (z _ ((k _).2 (.inl qZ))),k,v,A⟩
 ·rcases c with c|c
  ·omega
  ·have:=y x c;omega
 ·constructor
  ·rintro(c|c)
   ·exact .inl c
   ·exact .inr (.inl c)
  ·rintro(c|c|c)
   ·exact .inl c
   ·exact .inr c
   ·cases c
 ·rintro X i hi W q ⟨m,sl,M,D,Q,J,C,k,v,A⟩ mW z hdq hqW zgq KN KJ Y hKJ;have p:=zgq;unfold fL at p;obtain⟨o,ho⟩:=dW (B.all[i]);have hoo:((B true++B false)[i]'hi)=o:=ho.symm;rw[hoo]at zgq p;have N:=eA (l:=B.all) hi;have S:B.all[i]'hi=o:=ho.symm;rw[S]at N;have hnq:∀x,X x->x≠q:=λx c=>by grind
  refine dK.at (λst R=>st=(.bool (pA a o),())/\R=W) ?_ ?_
  ·apply cI (by simp[-Int.natCast_add,go_sem,J]<;>first|exact sI|exact rfl);by_cases ha:a=0
   ·refine qS1 ha ?_;rw[kx];exact⟨by simp[pA,ha],rfl⟩
   ·refine qSv1 (.bool false) ha ?_;rw[gP];refine qS1 p ?_;apply cI (by simp[-Int.natCast_add,go_sem,p]<;>first|exact sI|exact rfl);apply cI (by simp[-Int.natCast_add,go_sem,J]<;>first|exact sI|exact rfl);apply cx (.bool (decide (o.acct=a))) W (by simp[go_sem];rfl);exact⟨by simp[pA,ha],rfl⟩
  rintro _ R ⟨rfl,rfl⟩;unfold Sw;intro _;cases hof:pA a o with
  |false=>
   rw[gP];refine Y X R ⟨m,sl,?_,?_,Q,J,C,k,v,A⟩ lX λx c=>⟨.inl c,by grind⟩
   ·rw[N,Dy,aZ (by simp[hof])];exact M
   ·grind
  |true=>
   rw[kx];apply cx (jY b) R (by simp[go_sem,Q,jY]);refine qS1 p ?_;refine qS1 p ?_;refine zu M λF2 w6 q6 L n6=>?_;have m6X:de X R w6:=L.mono λx _ c=>(k x).2 (.inr (.inl c));have G:∀x,m x->X x:=λx c=>(k x).2 (.inr (.inl c))
   have n:∀x,m x->x≠q/\¬(g<=x/\x<g+3):=λx c=>⟨hnq x (G x c),λhc=>by
    rcases A x c with j|j
    ·have:=y x j;omega
    ·omega⟩
   have g5:=L.hpk C λc=>(n _ c).2 qZ;have g3:=L.hpk Q λc=>(n _ c).2 qZ;have g4:=L.hpk J λc=>(n _ c).2 qZ;have gq6:=L.hpk zgq λc=>(n _ c).1 rfl;have o6:=D.mod L λx c=>(v x c).2;obtain⟨sa,sc,t,-⟩:=D.isSl;refine qSv2 sl g5 t ?_;apply cI (lM (o:=o) (At.all gq6));have hs6:=L.size;have hfl:((B.all.take i).filter (pA a)).length<=200:=dD (dm _ _) (by grind);refine vK (x:=o) (f:=fL) mH (eO Oh) gM pD rfl o6 qZ qZ λE O o7 P n7=>?_;obtain⟨sa',sc',U,-⟩:=o7.isSl;have hs7:=P.size;have hslq:∀x,cK sl x->x≠q/\g+3<=x/\x<w6.heap.size:=λx c=>⟨hnq x ((k x).2 (.inr (.inr c))),(v x c).1,o6.lt c⟩
   have g5' :=P.hpk g5 λc=>by grind
   have g3' :=P.hpk g3 λc=>by grind
   have g4' :=P.hpk g4 λc=>by grind
   have s:de (λx=>x=g+2) O (O.setCell ⟨g+2,0,none⟩ E):=(de.refl (λx=>x=g+2) O).sc;apply pH (O.setCell ⟨g+2,0,none⟩ E) (by rw[U];simp[go_sem,g5']);have g5v:hC (O.setCell ⟨g+2,0,none⟩ E) (g+2) #[E] 95:=by simp[go_sem,g5']
   generalize O.setCell ⟨g+2,0,none⟩ E=w8 at s g5v|-;have hs8:=s.size;have q8:=(q6.mod P λx c hs=>?_).mod s λx c he=>?_
   ·have o8:qR w8 E (List.filter (pA a) (List.take i B.all)++[o]):=o7.mod s λx c he=>by
     rcases n7 x c with j|j
     ·grind
     ·grind
    have hF2:∀x,F2 x->F x\/g+3<=x:=λx c=>by
     rcases n6 x c with j|j
     ·exact A x j
     ·grind
    refine Y (λx=>(g<=x/\x<g+3)\/F2 x\/cK E x) w8 ⟨F2,E,?_,?_,s.hpk g3' qZ,s.hpk g4' qZ,g5v,λx=>fd,λx c=>?_,hF2⟩ ?_ λx c=>?_
    ·rw[N,Dy,bZ hof];exact q8
    ·grind
    ·rcases n7 x c with j|j
     ·refine⟨(hslq x j).2.1,λhf=>?_⟩;rcases n6 x hf with h2|h2
      ·exact(v x j).2 h2
      ·grind
     ·refine⟨by grind,λhf=>?_⟩;have:=q6.lt hf;omega
    ·refine(m6X.on P λx c=>.inl ((k x).2 (.inr (.inr c)))).on s λx c=>.inl ((k x).2 (.inl qZ))
    ·rcases c with c|c|c
     ·grind
     ·exact⟨(n6 x c).imp (G x) id,by have:=q6.lt c;omega⟩
     ·refine⟨?_,by have:=o8.lt c;omega⟩;rcases n7 x c with j|j
      ·grind
      ·exact gz
   ·rcases n6 x c with j|j
    ·exact(v x hs).2 j
    ·grind
   ·rcases n6 x c with j|j
    ·grind
    ·grind
 ·rintro X W d hd ⟨m,sl,M,D,Q,J,C,k,v,A⟩ mW hdef z;obtain⟨sa,sc,t,-⟩:=D.isSl;have e:B.all.take (B true++B false).length=B.all:=cN;rw[e]at M D;unfold Qv;simp only[iJ];refine qS2 C t ?_;have s:de (λx=>x=g+2) W (W.setCell ⟨g+2,0,none⟩ sl):=(de.refl (λx=>x=g+2) W).sc;apply pH (W.setCell ⟨g+2,0,none⟩ sl) (by rw[t];simp[go_sem,C]);have g5:hC (W.setCell ⟨g+2,0,none⟩ sl) (g+2) #[sl] 95:=by simp[go_sem,C]
  generalize W.setCell ⟨g+2,0,none⟩ sl=W2 at s g5|-;refine Bz (s.hpk hdef qZ) λW3 mr=>?_;have hd3:d=w5.heap.size:=hd;apply oy sl (by have:=mr.hpk g5 qZ;simp[go_sem,this,t])
  have hXd:∀x,X x->x≠d:=λx c=>by
   rcases(z x c).2 with(j|j)|j
   ·omega
   ·have:=y x j;omega
   ·omega
  refine hK m sl W3 ((M.mod s λx c he=>?_).mod mr λx c=>hXd x ((k x).2 (.inr (.inl c)))) ((D.mod s λx c he=>by grind).mod mr λx c=>hXd x ((k x).2 (.inr (.inr c)))) ?_ (λx c=>(A x c).imp id λ_=>qZ) λx c=>⟨by grind,(v x c).2⟩
  ·rcases A x c with j|j
   ·have:=y x j;omega
   ·omega
  ·refine(((M5.to).on mW λx c=>?_).on s λx c=>gz).on mr λx c=>gz;rcases c with c|c
   ·exact gz
   ·exact .inl c
def oM(l:List Od)(a:Int)(buy:Bool):Int:=((l.filter λo=>decide (o.acct=a)&& (o.buy==buy)).map (·.left)).sum
def ox(l:List Od)(o:Od)(a:Int)(buy:Bool):oM (l++[o]) a buy=oM l a buy+(if o.acct=a/\o.buy=buy then o.left else 0):=by
 unfold oM;rw[dJ,dy,g9];congr 1;by_cases h:o.acct=a/\o.buy=buy
 ·grind
 ·grind
def vF{l:List Od}{buy:Bool}(h:∀o∈l,1<=o.left/\o.left<=1000000):0<=oM l a buy/\oM l a buy<=l.length*1000000:=by
 have c:=vu (l:=(l.filter λo=>decide (o.acct=a)&& (o.buy==buy)).map (·.left)) (B:=1000000) λx d=>by
  obtain⟨o,b,rfl⟩:=cF.1 d;have:=h o (cO.1 b).1;omega
 rw[cz]at c;have e:=dm (λo:Od=>decide (o.acct=a)&& (o.buy==buy)) l;unfold oM;omega
def xd(B:Bk)(a:Int):Int×Int:=(oM B.all a true,oM B.all a false)
def Ns(h:kK w b F B)
  (hK:∀w',M0 w w' ->K (.tuple #[.int .i64 (xd B a).1,gI (xd B a).2]) w'):Ca pQ 206 #[jY b,gU a] w K:=by
 apply am9;obtain⟨c,k⟩:=dW w.heap.size
 have M:∃s,((w.alloc (.cells #[.int .u32 a] 23)).alloc (.cells #[.int .i64 0] 2) |>.alloc (.cells #[.int .i64 0] 2))=s/\s.heap.size=c+3/\M0 w s/\
   hC s c #[.int .u32 a] 23/\hC s (c+1) #[.int .i64 0] 2/\hC s (c+2) #[.int .i64 0] 2:=by
  refine⟨_,rfl,by simp[go_sem,k],(lm.alloc _).alloc _,?_,?_,?_⟩<;>simp[go_sem,k]
 obtain⟨s,J,hsz3,m3,b0,b1,b2⟩:=M;refine qSv1 (pt c 0) k ?_;apply cx (pt (c+1) 0) ((w.alloc (.cells #[.int .u32 a] 23)).alloc (.cells #[.int .i64 0] 2)) (by simp[go_sem,k]);apply cx (pt (c+2) 0) s (by rw[<-J];simp[go_sem,k]);clear J;refine Ce (h.mod m3 eQ) λgv w5 ht G=>?_;have M5:=m3.trans G;have hs5:=G.size;have Q:=h.all;have t:∀o∈B.all,1<=o.left/\o.left<=1000000:=λo p=>Od.left_bd (Q.2 o p).1
 let I:(Nat->Prop)->Nat->World->Prop:=λX i W=>hC W c #[.int .u32 a] 23/\hC W (c+1) #[.int .i64 (oM (B.all.take i) a true)] 2/\
  hC W (c+2) #[.int .i64 (oM (B.all.take i) a false)] 2/\X=λx=>c<=x/\x<c+3
 delta OX
 refine zj (X0:=λx=>c<=x/\x<c+3) (T:=pz) (fc:=fL) ht rS.od I (λ_ _ _=>False) ?_ (λ_ _ _ _ _ h=>h.elim) (λx r=>qZ) ⟨G.hpk b0 id,G.hpk b1 id,G.hpk b2 id,rfl⟩ ?_ ?_ (λ_ _ _ _ _ h=>h.elim)
 ·rintro X i W P H ⟨v,n,m,rfl⟩ U D;exact⟨U.hpk v (D _ qZ),U.hpk n (D _ qZ),U.hpk m (D _ qZ),rfl⟩
 ·rintro X i hi W q ⟨v,n,m,rfl⟩ mW D hdq hqW zgq KN KJ u hKJ;unfold fL at zgq;obtain⟨o,p⟩:=dW (B.all[i]);have R:((B true++B false)[i]'hi)=o:=p.symm;rw[R]at zgq;have f:=eA (l:=B.all) hi;have E:B.all[i]'hi=o:=p.symm;rw[E]at f;have hb1:=vF (l:=B.all.take i) (a:=a) (buy:=true) λo p=>t o (ek p);have hb2:=vF (l:=B.all.take i) (a:=a) (buy:=false) λo p=>t o (ek p);have hb3:=t o (by grind);have Y:(B.all.take i).length<=200:=by grind
  have y:∀(P:Wt_),W.heap.size<=P.heap.size->∀x,c<=x/\x<c+3->((c<=x/\x<c+3)\/W.heap.size<=x)/\x<P.heap.size:=λP hs x r=>⟨.inl r,by grind⟩
  apply cI (by simp[-Int.natCast_add,go_sem,zgq]<;>first|exact sI|exact rfl);apply cI (by simp[-Int.natCast_add,go_sem,zgq]<;>first|exact sI|exact rfl);apply cI (by simp[-Int.natCast_add,go_sem,v]<;>first|exact sI|exact rfl);by_cases A:o.acct=a
  ·refine qS1 A ?_;rw[gP];refine qS1 zgq ?_;apply cI (by simp[-Int.natCast_add,go_sem,zgq]<;>first|exact sI|exact rfl);cases g:o.buy with
   |true=>
    rw[kx];refine qS1 n ?_;refine qS1 zgq ?_;refine qS1 zgq ?_
    refine cx (gI (oM (B.all.take (i+1)) a true)) W (by
     rw[f,ox,bZ ⟨A,g⟩];simp[go_sem];rw[wI_]) ?_
    refine qU1 n ?_;have j:de (λx=>x=c+1) W (W.setCell ⟨c+1,0,none⟩ (gI (oM (B.all.take (i+1)) a true))):=(de.refl (λx=>x=c+1) W).sc;have k3:hC (W.setCell ⟨c+1,0,none⟩ (gI (oM (B.all.take (i+1)) a true))) (c+1) #[.int .i64 (oM (B.all.take (i+1)) a true)] 2:=by simp[go_sem,n]
    refine u _ _ ⟨j.hpk v qZ,k3,?_,rfl⟩ (j.mono λx _ r=>qZ) (y _ j.size);have:oM (B.all.take (i+1)) a false=oM (B.all.take i) a false:=by rw[f,ox,aZ (by simp[g]),ft]
    rw[this];exact j.hpk m qZ
   |false=>
    rw[gP];refine qS1 m ?_;refine qS1 zgq ?_;refine qS1 zgq ?_
    refine cx (gI (oM (B.all.take (i+1)) a false)) W (by
     rw[f,ox,bZ ⟨A,g⟩];simp[go_sem];rw[wI_]) ?_
    refine qU1 m ?_;have j:de (λx=>x=c+2) W (W.setCell ⟨c+2,0,none⟩ (gI (oM (B.all.take (i+1)) a false))):=(de.refl (λx=>x=c+2) W).sc;have k3:hC (W.setCell ⟨c+2,0,none⟩ (gI (oM (B.all.take (i+1)) a false))) (c+2) #[.int .i64 (oM (B.all.take (i+1)) a false)] 2:=by simp[go_sem,m]
    refine u _ _ ⟨j.hpk v qZ,?_,k3,rfl⟩ (j.mono λx _ r=>qZ) (y _ j.size);have:oM (B.all.take (i+1)) a true=oM (B.all.take i) a true:=by rw[f,ox,aZ (by simp[g]),ft]
    rw[this];exact j.hpk n qZ
  ·apply qSv1 (.bool true) A;rw[kx];refine u _ W ⟨v,?_,?_,rfl⟩ lX (y _ (cJ _))
   ·rw[f,ox,aZ (λh=>A h.1),ft];exact n
   ·rw[f,ox,aZ (λh=>A h.1),ft];exact m
 ·rintro X W d hd ⟨v,n,m,rfl⟩ mW L D;have e:B.all.take (B true++B false).length=B.all:=cN;rw[e]at n m;unfold PW;simp only[iJ];have md:M0 W W.drew:=mP;have k2:=md.hpk n id;have k3:=md.hpk m id;have kd:=md.hpk L id;generalize W.drew=C at md k2 k3 kd|-;apply qWv1 (gI (oM B.all a true)) k2;apply qWv1 (gI (oM B.all a false)) k3;apply pH (C.setCell ⟨c+1,0,none⟩ (gI (oM B.all a true))) (by simp[go_sem,k2]);have j:de (λx=>x=c+1) C (C.setCell ⟨c+1,0,none⟩ (gI (oM B.all a true))):=(de.refl (λx=>x=c+1) C).sc;have Z:hC (C.setCell ⟨c+1,0,none⟩ (gI (oM B.all a true))) (c+1) #[.int .i64 (oM B.all a true)] 2:=by simp[go_sem,k2]
  have N:=j.hpk k3 qZ;have jd:=j.hpk kd qZ;generalize C.setCell ⟨c+1,0,none⟩ (gI (oM B.all a true))=z at j Z N jd|-;refine⟨by simp[go_sem,N],?_⟩;apply pH (z.setCell ⟨c+2,0,none⟩ (gI (oM B.all a false))) (by simp[go_sem,N]);have O:de (λx=>x=c+2) z (z.setCell ⟨c+2,0,none⟩ (gI (oM B.all a false))):=(de.refl (λx=>x=c+2) z).sc;have g3:hC (z.setCell ⟨c+2,0,none⟩ (gI (oM B.all a false))) (c+2) #[.int .i64 (oM B.all a false)] 2:=by simp[go_sem,N]
  have g2:=O.hpk Z qZ;have V:=O.hpk jd qZ;generalize z.setCell ⟨c+2,0,none⟩ (gI (oM B.all a false))=W3 at O g2 g3 V|-;refine Bz V λW4 S=>?_;have f2:=S.hpk g2 qZ;have f3:=S.hpk g3 qZ;apply qWv1 (gI (oM B.all a true)) f2;refine qW1 f3 ?_;exact hK W4 (((((M5.on mW λx r=>gz).trans md).on j λx r=>gz).on O λx r=>gz).on S λx r=>gz)
abbrev oT:TypeId:=83
abbrev Kd:TypeId:=57
def qU:Tryz.prog.underlying Kd=some (.slice oT):=cU
def yV:Tryz.prog.cellsOf oT=26+1:=cU
def ME:pY pQ oT=true:=cU
def zCt:se pQ oT=true:=cU
def ao6:(lT pQ oT).length=26+1:=cU
def eCt:lN pQ oT 27 208=true:=cU
abbrev Ch(w:Wt_)(s:Vt_)(l:List Ct):Prop:=jo w oT 27 s l.length (l.flatMap fI)
def sCt(w:Wt_):(Go.sizeOf oT).run pQ w=.ok 27 w:=Go.Vc.oK yV w
def OZ:Extern.find Tryz.f161=some (Extern.SlicesOverlaps.overlaps #[Kd,Kd] #[4]):=cU
def C1(h:Rd w 27 s l.length (l.flatMap fI))(q:l.length<=1000000)
  (i:∀d e,Ch e d l->M0 w e->(∀b,cK d b->w.heap.size<=b)->K d e):Ca pQ 55 #[s] w K:=by
 apply ax0;obtain⟨a,c,f⟩:=h.isSl;by_cases g:a=none
 ·subst g;apply cx (.bool true) w (by rw[f];simp[go_sem]);rw[kx]
  have o:l=[]:=by
   obtain⟨-,⟨p,_⟩|⟨b,n,m,j,_⟩⟩:=h
   ·grind
   ·rw[f]at j;cases j
  subst o;exact i _ _ (jo.nil _ _ _) lX λb k=>by cases k
 ·apply cx (.bool false) w (by rw[f];cases a;exact absurd rfl g;simp[go_sem]);rw[gP];exact af6 qU (eO eCt) h (MH sy l) qZ i
def GQ{v:Vt_}{o:Ct}(h:Ch w s l)(hv:Ch w v [o])(hd:∀b,cK s b->¬cK v b)(hi:i<=l.length)(hn:l.length<=1000000)
  (hK:∀s' w',Ch w' s' (l.take i++o::l.drop i)->de (cK s) w w' ->(∀b,cK s' b->cK s b\/w.heap.size<=b)->K s' w'):Ca pQ 126 #[s,gI (i:Int),v] w K:=by
 obtain⟨M,g,vrest,rfl,hvc,L,hvl,hv1⟩:=hv.pos (by simp);simp only[nP]at hvc hvl
 have n:(l.take i++o::l.drop i).length=l.length+1:=by
  rw[cD,cZ,dc,dV,fS hi];omega
 have T:([o].flatMap fI)=fI o:=by simp
 apply aa3;obtain⟨v0,hv0,-,-⟩:=Rd.from_ (P:=pQ) (kl:=.i64) (lo:=i) qU yV (h.rd:Rd w (26+1) s l.length (l.flatMap fI)) hi;apply cI (hv0 w);refine qN0 ?_;refine qSf0 ?_;obtain⟨sa,sc,hs,-⟩:=h.isSl;apply jm (gI l.length) w (by rw[hs];simp[go_sem]);by_cases hil:i=l.length
 ·have r:(i:Int)=(l.length:Int):=qZ;refine qSt1 r ?_;refine jR qU qU (eO eCt) h hv.rd (MH sy _) (by grind) λs3 A o3 C n3=>?_;refine hK _ _ ?_ C n3;have:l.take i++o::l.drop i=l++[o]:=by grind
  rw[this];unfold Ch;rw[eJ,cD];exact o3
 have r:¬(i:Int)=(l.length:Int):=qZ;refine qSf1 r ?_;obtain⟨b,c,rest,hse,hc,N,hrl,O⟩:=h.pos qZ;clear hs;subst hse;have hne:M≠b:=λe=>hd b rfl (by rw[<-e];rfl);have Y:=h.1;apply cx (gI ((l.length+1:Nat):Int)) w (by simp[go_sem];rw[wI_]);refine qN1 qU ?_;have B:(l.flatMap fI++rest).length=c*27:=by grind
 by_cases hroom:c<l.length+1
 ·have f:(c:Int)<(l.length:Int)+1:=qZ;refine qSt1 f ?_;apply cI (IU qU yV (show i<=c by omega) qZ w);apply cx (gI ((l.length+1:Nat):Int)) w (by simp[go_sem];rw[wI_]);apply cx (gI ((l.length+1 - i:Nat):Int)) w (by simp only[go_sem];simp;rw[wI_];omega)
  have hOi:jo w oT (26+1) (.slice (some ⟨b,0,none⟩) i c) i ((l.take i).flatMap fI):=by
   refine⟨by rw[wT eE,cZ,fS hi],.inr ⟨b,c,(l.flatMap fI++rest).drop (i*27),rfl,qZ,?_,?_,?_⟩⟩
   ·rw[N];congr 2
    have:(l.take i).flatMap fI=(l.flatMap fI++rest).take (i*27):=by
     rw[dh (by rw[Y];omega),SN eE]
    rw[this,fP]
   ·grind
   ·refine dF.2 λx E=>?_;have E:=kT E;rcases dg.1 E with y|y
    ·exact dF.1 (MH sy l) x y
    ·grind
  refine Bs qU Tryz.underlying3 (eO eCt) hOi qZ λs2 D z hz hz1 o2 m2 n2 Z=>?_;obtain⟨mF,nF⟩:=Z _ _ rfl qZ;rw[show i+(l.length+1 - i)=l.length+1 by omega]at o2;obtain⟨m,zG,a,rfl,H,V,X,S⟩:=o2.pos qZ;have U:w.heap.size<=m:=nF m rfl;have hbb:b≠m:=by grind
  apply cI (yI qU yV qZ H qZ D);have hA:((l.take i).flatMap fI).length=i*27:=by rw[wT eE,cZ,fS hi]
  have hsz2:((l.take i).flatMap fI++z++a).length=zG*27:=by grind
  have hv2:Rd D 27 (.slice (some ⟨M,0,none⟩) 1 g) 1 (fI o):=by
   have:=hv.rd.mod mF eQ;rw[T]at this;exact this
  apply tI (sz:=26) (k:=1) qU yV V hv2 (by grind) (by grind) (sy o);have C:de (λb=>b=m) D (D.setRow m (mh ((l.take i).flatMap fI++z++a) (i*27) ((fI o).take 27)).toArray):=(de.refl (λb=>b=m) D).setRow (.inl rfl) _;have e5:(fI o).take 27=fI o:=cT (by rw[eE];omega)
  have I:mh ((l.take i).flatMap fI++z++a) (i*27) (fI o)=(l.take i).flatMap fI++fI o++(z++a).drop 27:=by
   unfold mh;rw[df ((l.take i).flatMap fI) z a,<-hA,fN,eE,<-eN,fj]
  have j:(D.setRow m (mh ((l.take i).flatMap fI++z++a) (i*27) ((fI o).take 27)).toArray).heap[m]? =some (.cells ((l.take i).flatMap fI++fI o++(z++a).drop 27).toArray oT (0,0)):=by
   rw[ij,bZ rfl,V,e5,I]
  show wS _ _ _;rw[show((l.take i).flatMap fI++z++a).toArray.toList=(l.take i).flatMap fI++z++a from rfl,show 1*(26+1)=27 from rfl];generalize D.setRow m (mh ((l.take i).flatMap fI++z++a) (i*27) ((fI o).take 27)).toArray=A at C j|-;apply dX (gI ((i+1:Nat):Int)) (λW=>by simp[go_sem];rw[wI_]);apply dw (λW=>yI qU yV (show i+1<=l.length+1 by omega) H qZ W);apply dw (λW=>yI qU yV (show i<=l.length by omega) hc qZ W);have mD:de (λb=>b=m) D A.drew:=C.drew;have q:A.drew.heap[m]? =some (.cells ((l.take i).flatMap fI++fI o++(z++a).drop 27).toArray oT (0,0)):=j
  have t:Rd A.drew (26+1) (.slice (some ⟨b,i*(26+1),none⟩) (l.length - i) (c - i)) (l.length - i) ((l.drop i).flatMap fI):=by
   have G:At w b 0 (l.flatMap fI):=⟨_,_,_,N,by grind,by simp⟩
   have y:=G.sub (i*27) ((l.length - i)*27) (by rw[Y];omega);rw[Vp eE,cT (by rw[wT eE,dV];exact cJ _),eU]at y;refine⟨by rw[wT eE,dV],.inr ⟨b,i*(26+1),c - i,rfl,qZ,?_⟩⟩;exact(y.mod mF id).mod mD λe=>hbb e
  have hsz3:((l.take i).flatMap fI++fI o++(z++a).drop 27).length=zG*27:=by
   rw[cD,cD,hA,eE,dV,cD,hz,X];omega
  apply tI (sz:=26) (k:=l.length - i) qU yV q t (by grind) (by grind) (MH sy _);have u:((l.drop i).flatMap fI).length=(l.length - i)*27:=by rw[wT eE,dV]
  have J:mh ((l.take i).flatMap fI++fI o++(z++a).drop 27) ((i+1)*(26+1)) (((l.drop i).flatMap fI).take ((l.length - i)*(26+1)))=(l.take i++o::l.drop i).flatMap fI++a:=by
   have hAo:((l.take i).flatMap fI++fI o).length=(i+1)*(26+1):=by grind
   have e2:((l.drop i).flatMap fI).take ((l.length - i)*(26+1))=(l.drop i).flatMap fI:=cT (by grind);rw[e2];unfold mh;rw[<-hAo,fN,u,<-eN,fj,eN];rw[show 27+(l.length - i)*27=z.length by rw[hz];omega,fj];simp[df]
  refine hK _ _ ⟨by grind,.inr ⟨m,zG,a,by rw[n],by rw[n];exact H,?_,by grind,S⟩⟩ ?_ λb' p=>?_
  ·rw[ij,bZ rfl,q];show some (Obj.cells (mh ((l.take i).flatMap fI++fI o++(z++a).drop 27) ((i+1)*(26+1)) (((l.drop i).flatMap fI).take ((l.length - i)*(26+1)))).toArray oT (0,0))=_;rw[J]
  ·exact((mF.to).on mD λb' p=>.inr (by grind)).setRow (.inr U) _
  ·grind
 ·have f:¬(c:Int)<(l.length:Int)+1:=qZ;refine qSf1 f ?_;apply cx (gI ((l.length+1:Nat):Int)) w (by simp[go_sem];rw[wI_]);apply cI (IU qU yV (show l.length+1<=c by omega) qZ w);apply cx (gI ((i+1:Nat):Int)) w (by simp[go_sem];rw[wI_]);apply cI (yI qU yV (show i+1<=l.length+1 by omega) qZ qZ w)
  have hov:(callFunc 161 #[.slice (some ⟨M,0,none⟩) 1 g,.slice (some ⟨b,(i+1)*(26+1),none⟩) (l.length+1 - (i+1)) (c - (i+1))]).run pQ w=.ok (.value (.bool false)) w:=by
   rw[run_callFunc_extern Tryz.func161 cU cU cU OZ];rw[Lib.run_overlaps_apart w Kd 4 oT qU 27 sCt ⟨M,0,none⟩ ⟨b,(i+1)*(26+1),none⟩ 1 g _ _ hne oT oT _ _ (shp L) (shp N) (by grind) (Ku L _) (Ku L _)];rfl
  refine⟨?_⟩;show rn pQ (callFunc 161 #[.slice (some ⟨M,0,none⟩) 1 g,.slice (some ⟨b,(i+1)*(26+1),none⟩) (l.length+1 - (i+1)) (c - (i+1))]) w _;apply mB hov;refine qSt0 ?_;apply dX (gI ((i+1:Nat):Int)) (λW=>by simp[go_sem];rw[wI_]);apply dw (λW=>yI qU yV (show i+1<=l.length+1 by omega) qZ qZ W);apply dw (λW=>yI qU yV (show i<=l.length+1 by omega) qZ qZ W);have q:w.drew.heap[b]? =some (.cells (l.flatMap fI++rest).toArray oT (0,0)):=N;have Q:27<=rest.length:=by rw[hrl];omega
  have t:Rd w.drew (26+1) (.slice (some ⟨b,i*(26+1),none⟩) (l.length+1 - i) (c - i)) (l.length+1 - i) ((l.drop i).flatMap fI++rest.take 27):=by
   have G:At w b 0 (l.flatMap fI++rest):=At.all (fy N);have y:=G.sub (i*27) ((l.length+1 - i)*27) (by rw[B];omega);rw[eZ (by rw[Y];omega),Vp eE,eU]at y
   have e1:((l.drop i).flatMap fI++rest).take ((l.length+1 - i)*27)=(l.drop i).flatMap fI++rest.take 27:=by
    have hd:((l.drop i).flatMap fI).length=(l.length - i)*27:=by rw[wT eE,dV]
    rw[show(l.length+1 - i)*27=((l.drop i).flatMap fI).length+27 by rw[hd];omega,lJ]
   rw[e1]at y;refine⟨by rw[cD,wT eE,dV,cZ,fS Q];omega,.inr ⟨b,i*(26+1),c - i,rfl,qZ,y.keep rfl⟩⟩
  have u:((l.drop i).flatMap fI).length=(l.length - i)*27:=by rw[wT eE,dV]
  apply tI (sz:=26) (k:=l.length - i) qU yV q t (by grind) (by rw[eT,B];omega) (by rw[gj,MH sy];exact dF.2 λx E=>dF.1 O x (ek E));have hA:((l.take i).flatMap fI).length=i*27:=by rw[wT eE,cZ,fS hi]
  obtain⟨d,R,F⟩:∃d:List Value,l.flatMap fI++rest=(l.take i).flatMap fI++(d++((l.flatMap fI++rest).drop ((i+1)*27)))/\d.length=27:=by
   refine⟨((l.flatMap fI++rest).drop (i*27)).take 27,?_,by grind⟩;have e1:(l.take i).flatMap fI=(l.flatMap fI++rest).take (i*27):=by rw[dh (by rw[Y];omega),SN eE]
   rw[e1,show(i+1)*27=i*27+27 by omega,<-eN,fP,fP]
  have I:mh (l.flatMap fI++rest) ((i+1)*(26+1)) (((l.drop i).flatMap fI++rest.take 27).take ((l.length - i)*(26+1)))=(l.take i).flatMap fI++d++((l.drop i).flatMap fI++rest.drop 27):=by
   have e2:((l.drop i).flatMap fI++rest.take 27).take ((l.length - i)*(26+1))=(l.drop i).flatMap fI:=by
    rw[show(l.length - i)*(26+1)=((l.drop i).flatMap fI).length by rw[u],fN]
   have e3:(l.flatMap fI++rest).take ((i+1)*(26+1))=(l.take i).flatMap fI++d:=by
    rw[R,<-df,show(i+1)*(26+1)=((l.take i).flatMap fI++d).length by grind,fN]
   have e4:(l.flatMap fI++rest).drop ((i+1)*(26+1)+(l.length - i)*27)=rest.drop 27:=by
    rw[show(i+1)*(26+1)+(l.length - i)*27=(l.flatMap fI).length+27 by rw[Y];omega,<-eN,fj]
   unfold mh;rw[e2,u,e3,e4];simp[df]
  have C:de (cK (.slice (some ⟨b,0,none⟩) l.length c)) w (w.drew.setRow b (mh (l.flatMap fI++rest) ((i+1)*(26+1)) (((l.drop i).flatMap fI++rest.take 27).take ((l.length - i)*(26+1)))).toArray):=mP.setRow (.inl (show cK (.slice (some ⟨b,0,none⟩) l.length c) b from rfl)) _
  have j:(w.drew.setRow b (mh (l.flatMap fI++rest) ((i+1)*(26+1)) (((l.drop i).flatMap fI++rest.take 27).take ((l.length - i)*(26+1)))).toArray).heap[b]? =some (.cells ((l.take i).flatMap fI++d++((l.drop i).flatMap fI++rest.drop 27)).toArray oT (0,0)):=by
   rw[ij,bZ rfl,q,I]
  rw[show(l.flatMap fI++rest).toArray.toList=l.flatMap fI++rest from rfl];generalize w.drew.setRow b (mh (l.flatMap fI++rest) ((i+1)*(26+1)) (((l.drop i).flatMap fI++rest.take 27).take ((l.length - i)*(26+1)))).toArray=A at C j|-;apply cI (yI qU yV (show i<=l.length+1 by omega) qZ qZ A)
  have hv3:Rd A 27 (.slice (some ⟨M,0,none⟩) 1 g) 1 (fI o):=by
   have:=hv.rd.mod C λb' p hs' =>hd b' hs' p.sl;rw[T]at this;exact this
  apply tI (sz:=26) (k:=1) qU yV j hv3 (by grind) (by grind) (sy o)
  have J:mh ((l.take i).flatMap fI++d++((l.drop i).flatMap fI++rest.drop 27)) (i*(26+1)) ((fI o).take (1*(26+1)))=(l.take i++o::l.drop i).flatMap fI++rest.drop 27:=by
   have e5:(fI o).take (1*(26+1))=fI o:=cT (by rw[eE];omega);rw[e5];unfold mh;rw[eE,show i*(26+1)=((l.take i).flatMap fI).length by rw[hA],df ((l.take i).flatMap fI) d,fN,<-eN,fj,<-F,fj];simp[df]
  refine hK _ _ ⟨by rw[wT eE,n],.inr ⟨b,c,rest.drop 27,by rw[n],by rw[n];omega,?_,by grind,dF.2 λx E=>dF.1 O x (kT E)⟩⟩ (C.setRow (.inl (show cK (.slice (some ⟨b,0,none⟩) l.length c) b from rfl)) _) λb' p=>.inl p;show(A.setRow b (mh ((l.take i).flatMap fI++d++((l.drop i).flatMap fI++rest.drop 27)) (i*(26+1)) ((fI o).take (1*(26+1)))).toArray).heap[b]? =_;rw[ij,bZ rfl,j,J]
structure sE where
 day:Int
 l:List Ct
variable {S:sE}
def Ct.Ok(k:Ct):Prop:=k.Fit/\k.spec.may=true/\k.spec.isPrice k.price=true/\1<=k.st/\k.st<=3
def lW(l:List Ct)(n:Int):Nat:=(l.takeWhile λk=>decide (k.spec.num<n)).length
def eR(l:List Ct)(n:Int):Option Ct:=l.find? λk=>decide (k.spec.num=n)
def qO(l:List Ct):Prop:=l.Pairwise λa b=>a.spec.num<b.spec.num
structure pN(w:Wt_)(c:Nat)(F:NP_)(S:sE):Prop where
 out:∃sl,hC w c #[.bool true,gU S.day,sl] 137/\Ch w sl S.l/\(∀x,F x↔x=c\/cK sl x)/\¬cK sl c
 len:S.l.length<=16
 day:pL S.day
 ok:∀k∈S.l,k.Ok
 srt:qO S.l
def pN.mod{G:NP_}{w' :Wt_}(h:pN w c F S)(e:de G w w')(d:∀b,F b->¬G b):pN w' c F S:=by
 obtain⟨⟨sl,j,f,a,i⟩,l,n,k,m⟩:=h;exact⟨⟨sl,e.hpk j (d c ((a c).2 (.inl rfl))),f.mod e λb g=>d b ((a b).2 (.inr g)),a,i⟩,l,n,k,m⟩
def pN.lt(h:pN w c F S){b:Nat}(a:F b):b<w.heap.size:=by
 obtain⟨⟨sl,e,d,f,g⟩,i⟩:=h;rcases(f b).1 a with rfl|a
 ·exact cB e
 ·exact d.lt a
def iZ(c:Nat):Value:=pt c 0
def El(s:Sp):(jA s)[23]? =some (gU s.last):=by have:=aq2 s [];rwa[ew]at this
def aq9(s:Sp):(jA s)[24]? =some (gI s.first):=by have:=Xa s [];rwa[ew]at this
def ctT(k:Ct)(i:Nat)(h:i<25):(fI k)[i]? =(jA k.spec)[i]? :=by
 rw[fI,dC (by rw[dP];omega)]
def G9(k:Ct):(fI k)[0]? =some (gU k.spec.num):=rfl
def ao4(k:Ct):(fI k)[23]? =some (gU k.spec.last):=by rw[ctT k 23 qZ,El]
def D5(k:Ct):(fI k)[25]? =some (gB k.st):=by have:=WW k [];rwa[ew]at this
def Hs(k:Ct):(fI k)[26]? =some (gI k.price):=by have:=VD k [];rwa[ew]at this
def GT(k:Ct)(w:Wt_):∃a,(Instr.box oT (.agg (fI k).toArray)).run pQ w=.ok (pt w.heap.size 0) a/\hC a w.heap.size (fI k).toArray oT/\M0 w a:=
 ⟨w.alloc (.cells (fI k).toArray oT),rfl,by simp[go_sem],(de.refl _ w).alloc _⟩
def Nu(d:∀c F a,pN a c F ⟨0,[]⟩->M0 w a->(∀b,F b->w.heap.size<=b)->K (iZ c) a):Ca pQ 49 #[] w K:=by
 apply aC5;refine qS0 ?_;apply cx (iZ w.heap.size) (w.alloc (.cells #[.bool true,gU 0,.slice none 0 0] 137)) rfl;exact d _ (λx=>x=w.heap.size) _ ⟨⟨.slice none 0 0,by simp[go_sem],jo.nil _ _ _,λx=>⟨λh=>.inl h,λh=>h.elim id λh=>by cases h⟩,λh=>by cases h⟩,by simp,⟨by simp,by simp⟩,by simp,List.Pairwise.nil⟩ lm λb e=>by omega
def sZ(h:pN w c F S)(b:K (.bool true) w):Ca pQ 54 #[iZ c] w K:=by
 obtain⟨⟨sl,a,d,g,e⟩,f⟩:=h;apply aC8;unfold iZ;refine qSt0 ?_;simp only[dr];refine qS0 ?_;refine qS1 a ?_;exact b
def twG{α:Type}{l:List α}{p:α->Bool}{j:Nat}(b:j<l.length)(h:∀o∈l.take j,p o=true)(a:p l[j]=false):l.takeWhile p=l.take j:=by
 induction l generalizing j with
 |nil=>simp at b
 |cons x l c=>
  cases j with
  |zero=>simp at a;simp[a]
  |succ j=>
   simp only[lq,cH,forall_eq_or_imp]at h;rw[List.takeWhile_cons_of_pos h.1,lq,c (by simpa using b) h.2 (by simpa using a)]
def twA{α:Type}{l:List α}{p:α->Bool}(h:∀o∈l,p o=true):l.takeWhile p=l:=by
 induction l with
 |nil=>rfl
 |cons x l b=>rw[List.takeWhile_cons_of_pos (h x (by simp)),b λo a=>h o (by simp[a])]
def CQ(hi:i<=l.length)(d:∀j (a:j<l.length),j<i->l[j].spec.num<n)(e:∀(a:i<l.length),¬l[i].spec.num<n):lW l n=i:=by
 unfold lW;by_cases c:i<l.length
 ·rw[twG (p:=λk:Ct=>decide (k.spec.num<n)) c (λo b=>?_) (by simpa using e c),cZ,fS hi];obtain⟨j,a,rfl⟩:=cX b;rw[cZ]at a;rw[List.getElem_take];simpa using d j qZ qZ
 ·rw[twA λo b=>?_]
  ·omega
  ·obtain⟨j,a,rfl⟩:=cX b;simpa using d j a qZ
def NS(d:qO l){n:Int}{i:Nat}(e:∀j (a:j<l.length),j<i->l[j].spec.num<n)(hi:i<l.length)(g:¬l[i].spec.num<n):
  eR l n=if l[i].spec.num=n then some l[i]else none:=by
 unfold eR;by_cases b:l[i].spec.num=n
 ·rw[bZ b,fV];refine⟨by simpa using b,i,hi,rfl,λj a=>?_⟩;have:=e j qZ a;simp;omega
 ·rw[aZ b,fW];intro k c;obtain⟨j,a,rfl⟩:=cX c;simp only[dN];intro f;rcases Nat.lt_trichotomy j i with h|h|h
  ·grind
  ·subst h;exact b f
  ·have:=eI.1 d i j hi a h;omega
def J1(c:∀j (a:j<l.length),l[j].spec.num<n):eR l n=none:=by
 unfold eR;rw[fW];intro k b;obtain⟨j,a,rfl⟩:=cX b;have:=c j a;simp;omega
def GG(a:∀e,M0 w e->K (gI (if k.spec.num<n then -1 else if n<k.spec.num then 1 else 0)) e):Ca pQ 160 #[.agg (fI k).toArray,gU n] w K:=by
 apply aa9;obtain⟨h,f,d,g⟩:=GT k w;have a:=a _ g;apply cI f;refine qS0 ?_;refine qS0 ?_;refine qS2 d G9 ?_;by_cases c:k.spec.num<n
 ·refine qSt1 c ?_;rw[bZ c]at a;exact a
 ·refine qSf1 c ?_;rw[aZ c]at a;refine qS0 ?_;refine qS0 ?_;refine qS2 d G9 ?_;by_cases b:n<k.spec.num
  ·refine qSt1 b ?_;rw[bZ b]at a;exact a
  ·refine qSf1 b ?_;rw[aZ b]at a;exact a
def UI{j:Nat}(h:i<j)(a:j<=1000000)(w:Wt_):∃x,(convert 3 203 (gI ((i:Int)+(j:Int)))).run pQ w=.ok x w/\∃y,(qE .shr 203 true x (gQ 1)).run pQ w=.ok y w/\(convert 203 3 y).run pQ w=.ok (gI (((i+j) / 2:Nat):Int)) w:=by
 refine⟨.int .u64 (((i+j:Nat):Int)),?_,gQ (((i+j) / 2:Nat):Int),?_,?_⟩
 ·simp[go_sem];rw[IntKind.wrap_u64];omega
 ·simp[go_sem,lZ]
 ·simp[go_sem];rw[eF];omega
def TD(h:Rd w 27 s l.length (l.flatMap fI))(hn:l.length<=1000)(H:qO l)
  (Q:∀N,M0 w N->K (.tuple #[.int .i64 (lW l n),.bool (eR l n).isSome]) N):Ca pQ 159 #[s,gU n,.func (.func 160) #[] #[]] w K:=by
 apply ad2;obtain⟨a,c,E⟩:=h.isSl;apply jm (gI (l.length:Int)) w (by rw[E];simp[go_sem])
 refine eS (λst W=>∃i j:Nat,i<=j/\j<=l.length/\st=(gI i,gI j,())/\M0 w W/\(∀x (d:x<l.length),x<i->l[x].spec.num<n)/\∀x (d:x<l.length),j<=x->¬l[x].spec.num<n)
  (λst _=>match st.1,st.2.1 with| .int _ i,.int _ j=>j.toNat - i.toNat|_,_=>0) ⟨0,l.length,qZ,qZ,rfl,lX,λx d h=>qZ,λx d h=>qZ⟩ ?_
 rintro⟨_,_,_⟩ W ⟨i,j,U,v,⟨⟩,f,z,O⟩ KN t;unfold OR;intro _
 have e:∀W,M0 w W->∀x (d:x<l.length),∃p,(iX Kd s (gI (x:Int))).run pQ W=.ok p W/\(fH oT p).run pQ W=.ok (.agg (fI l[x]).toArray) W:=λW f x d=>by
  obtain⟨b,G,X,C,R,Y⟩:=(h.mod f eQ).item eE d rfl;exact⟨.pointer (some ⟨b,G+x*27,none⟩),by rw[C];simp[go_sem,d,cS,qU],gm ME yV (eE _) Y⟩
 by_cases B:i<j
 ·have r:(i:Int)<(j:Int):=qZ;refine qSt1 r ?_;apply cx (gI ((i:Int)+(j:Int))) W (by simp[go_sem];rw[wI_]);obtain⟨x,e1,y,Z,e3⟩:=UI B qZ W;apply cI e1;apply cI Z;apply cI e3;obtain⟨m,hm⟩:=dW ((i+j) / 2);rw[<-hm];have k:m<l.length:=qZ;obtain⟨p,F,L⟩:=e W f m k;apply cI F;apply iW L;simp only[kE];refine GG λD I=>?_;have S:=f.trans I;by_cases A:l[m].spec.num<n
  ·rw[bZ A];refine qSt0 ?_;apply cx (gI ((m+1:Nat):Int)) D (by simp[go_sem];rw[wI_]);refine t _ _ ⟨m+1,j,qZ,v,rfl,S,λx d J=>?_,O⟩ (by grind);by_cases q:x=m
   ·subst q;exact A
   ·have:=eI.1 H x m d k qZ;omega
  ·rw[aZ A];have M:¬((if n<l[m].spec.num then 1 else 0:Int)<0):=by split<;>omega
   refine qSf1 M ?_;refine t _ _ ⟨i,m,qZ,qZ,rfl,S,z,λx d J=>?_⟩ (by grind);by_cases q:x=m
   ·subst q;exact A
   ·have:=eI.1 H m x k d qZ;omega
 ·obtain rfl:i=j:=qZ;refine qSf0 ?_;by_cases o:i<l.length
  ·have u:(i:Int)<(l.length:Int):=qZ;refine qSt1 u ?_;obtain⟨p,F,L⟩:=e W f i o;apply cI F;apply iW L;simp only[kE];have g:=O i o (cJ _);refine GG λD I=>?_;rw[aZ g];refine cx (.bool (eR l n).isSome) D ?_ ?_
   ·rw[NS H z o g];by_cases q:l[i].spec.num=n
    ·simp[go_sem,q]
    ·have d:n<l[i].spec.num:=qZ;simp[go_sem,q,d]
   have:=CQ v z λv=>g;rw[<-this];exact Q _ (f.trans I)
  ·obtain rfl:i=l.length:=qZ;refine qSf0 ?_;have V:lW l n=l.length:=CQ v z λv=>by omega
   have T:=J1 λx d=>z x d d;have P:=Q _ f;rw[V,T]at P;exact P
def Bb(m:qO l){n:Int}{k:Ct}(h:eR l n=some k):∃d:lW l n<l.length,l[lW l n]=k/\k.spec.num=n:=by
 unfold eR at h;obtain⟨o,i,d,b,g⟩:=fV.1 h;have a:k.spec.num=n:=by simpa using o
 have e:lW l n=i:=by
  refine CQ qZ (λj f c=>?_) λf=>by rw[b];omega
  have:=eI.1 m j i f d c;rw[b]at this;omega
 subst e;exact⟨d,b,a⟩
def ry(h:eR l n=some k):k∈l:=fl h
def I6(h:pN w c F S)
  (f:∀b,M0 w b->K (.tuple #[.int .i64 (lW S.l n),.bool (eR S.l n).isSome]) b):Ca pQ 125 #[iZ c,gU n] w K:=by
 obtain⟨⟨sl,e,d,o,k⟩,m,p,l,g⟩:=h;apply aj7;unfold iZ;simp only[dr];obtain⟨sa,sc,a,-⟩:=d.isSl;refine qS0 ?_;refine qSv2 sl e a ?_;refine TD d.rd qZ g λj i=>?_;refine qS0 ?_;refine qS0 ?_;exact f _ i
def ex(l:List Ct)(n:Int):Int:=match eR l n with|none=>7|some k=>if k.st=3 then 50 else 0
def Ch.item{sl:Vt_}(h:Ch w sl l){i:Nat}(hi:i<l.length):
  ∃b a rest,sl=.slice (some ⟨b,0,none⟩) l.length a/\(∀k:IntKind,(iX Kd sl (.int k (i:Int))).run pQ w=.ok (pt b (i*27)) w)/\At w b (i*27) (fI l[i])/\
   hC w b (l.flatMap fI++rest).toArray oT/\∀j,j<27->(l.flatMap fI++rest)[i*27+j]? =(fI l[i])[j]? :=by
 obtain⟨b,a,rest,rfl,p,d,o⟩:=h.pos qZ;have c:At w b 0 (l.flatMap fI++rest):=At.all (fy d);have f:=h.1;have e:=c.sub (i*27) 27 (by grind);rw[eZ (by rw[f];omega),dh (by grind),oB fI 27 l i (λx _=>eE x) hi,eU]at e;refine⟨b,a,rest,rfl,λk=>by simp[go_sem,hi,cS,qU],e,fy d,λj n=>?_⟩;rw[dC (by rw[f];omega)];have m:=oB fI 27 l i (λx _=>eE x) hi;have g:(((l.flatMap fI).drop (i*27)).take 27)[j]? =(fI l[i])[j]? :=by rw[m]
 rw[iE,bZ n,iY]at g;exact g
def xW(h:pN w c F S)
  (y:∀g,ex S.l n≠0->M0 w g->K (.tuple #[.pointer none,gI (ex S.l n)]) g)
  (D:∀i (hi:i<S.l.length) b d g,S.l[i].spec.num=n->S.l[i].st≠3->eR S.l n=some S.l[i]->ex S.l n=0->M0 w g->hC g c #[.bool true,gU S.day,.slice (some ⟨b,0,none⟩) S.l.length d] 137->
   Ch g (.slice (some ⟨b,0,none⟩) S.l.length d) S.l->(∀x,F x↔x=c\/x=b)->b≠c->K (.tuple #[.pointer (some ⟨b,i*27,none⟩),gI 0]) g):Ca pQ 128 #[iZ c,gU n] w K:=by
 apply ac7;apply sZ h;refine qSf0 ?_;refine I6 h λs q=>?_;have B:=h.mod q eQ;refine qS0 ?_;refine qS0 ?_;cases l:eR S.l n with
 |none=>
  refine qSt0 ?_;have e:ex S.l n=7:=by unfold ex;rw[l]
  have m:=y s (by rw[e];decide) q;rw[e]at m;exact m
 |some k=>
  refine qSf0 ?_;obtain⟨hi,f,r⟩:=Bb h.srt l;obtain⟨⟨sl,u,v,C,A⟩,G,J,E,I⟩:=B;obtain⟨b,d,rest,rfl,j,H,z,o⟩:=v.item hi;have p:=o 25 qZ;rw[D5,f]at p;simp only[iZ,dr];refine qS0 ?_;refine qS1 u ?_;apply cI (j .i64);refine qS1 cS ?_;refine qS2 z p ?_;by_cases a:k.st=3
  ·refine qSt1 a ?_;have e:ex S.l n=50:=by unfold ex;rw[l];simp only;rw[bZ a]
   have m:=y s (by rw[e];decide) q;rw[e]at m;exact m
  ·refine qSf1 a ?_;refine qS0 ?_;refine qS1 u ?_;apply cI (j .i64);have e:ex S.l n=0:=by unfold ex;rw[l];simp only;rw[aZ a]
   refine D _ hi b d s (by rw[f];exact r) (by rw[f];exact a) (by rw[l,f]) e q u v (λx=>?_) λt=>A (by rw[t];rfl);rw[C x];exact⟨λh=>h.imp id λh=>by cases h;rfl,λh=>h.imp id λh=>by rw[h];rfl⟩
def LB(h:pN w c F S)(b:K (gU S.day) w):Ca pQ 41 #[iZ c] w K:=by
 obtain⟨⟨sl,a,d,g,e⟩,f⟩:=id h;apply aC4;apply sZ h;refine qSf0 ?_;simp only[iZ,dr];refine qS0 ?_;refine qS1 a ?_;exact b
def eD(S:sE):Int×sE:=if S.day=4294967295 then(6,S)else(0,⟨S.day+1,S.l⟩)
def OA(h:pN w c F S)
  (a:∀f,pN f c F (eD S).2->de F w f->K (gI (eD S).1) f):Ca pQ 129 #[iZ c] w K:=by
 obtain⟨⟨sl,d,k,o,g⟩,m,p,l,n⟩:=id h;apply aq6;apply sZ h;refine qSf0 ?_;simp only[iZ,dr];refine qS0 ?_;refine qS1 d ?_;unfold eD at a;by_cases b:S.day=4294967295
 ·refine qSt1 b ?_;rw[bZ b]at a;exact a _ h lX
 ·refine qSf1 b ?_;rw[aZ b]at a;refine qS0 ?_;refine qS1 d ?_;apply cx (gU (S.day+1)) w (by simp[go_sem];rw[IntKind.wrap_u32];omega);refine qS0 ?_;refine qU1 d ?_;have j:de (λx=>x=c) w (w.setCell ⟨c,1,none⟩ (gU (S.day+1))):=(de.refl (λx=>x=c) w).sc;refine a _ ⟨⟨sl,by simp[go_sem,d],k.mod j λx i e=>g (e▸i),o,g⟩,m,⟨by grind,by grind⟩,l,n⟩ (j.mono λx _ i=>by grind)
def II:Sp:=⟨0,0,0,0,0,0,Vector.replicate 16 0,0,0,0⟩
def JJ:Ct:=⟨II,0,0⟩
def Qd:lT pQ oT=fI JJ:=cU
def TW:Tryz.prog.built oT []=some (fI JJ).toArray:=cU
def Wi{W:Wt_}{q:Nat}{k0:Ct}{K:Value->World->Prop}(h:hC W q (fI k0).toArray oT)
  (i:∀d,de (λb=>b=q) W d->K (.agg (fI k).toArray) d):
  nj pQ (jH oT (pt q 0) (.agg (fI k).toArray)) W λa=>pS pQ (fH oT (pt q 0)) a λj=>K j a:=by
 apply uH (n:=26) (c:=(fI k0).toArray) (e:=oT) yV (eE k) h (by rw[eE,eT,eE];exact cJ _) (sy k);rw[show(fI k0).toArray.toList=fI k0 from rfl,tp (by rw[eE,eE])]
 have f:hC (W.setRow q (fI k).toArray) q (fI k).toArray oT:=by
  show(W.setRow q _).heap[q]? =_;have g:W.heap[q]? =some (.cells (fI k0).toArray oT (0,0)):=h;rw[ij,bZ rfl,g]
 apply sm (fI k) 26 ME yV (eE k) (At.all f);exact i _ ((de.refl (λb=>b=q) W).setRow (.inl rfl) _)
def iU(l:List Ct)(n:Int):Ct×Int:=match eR l n with|none=>(JJ,7)|some k=>(k,0)
def Cp(h:pN w c F S)
  (a:∀p,M0 w p->K (.tuple #[.agg (fI (iU S.l n).1).toArray,gI (iU S.l n).2]) p):Ca pQ 94 #[iZ c,gU n] w K:=by
 apply ay1;apply rg zCt;obtain⟨q,d⟩:=dW w.heap.size;have j:M0 w (w.alloc (.cells (lT pQ oT).toArray oT)):=lm;have s:hC (w.alloc (.cells (lT pQ oT).toArray oT)) q (fI JJ).toArray oT:=by rw[Qd,d];simp[go_sem]
 rw[<-d];generalize w.alloc (.cells (lT pQ oT).toArray oT)=N at j s|-;have f:=h.mod j eQ;apply sZ f;refine qSf0 ?_;refine I6 f λG l=>?_;have z:=f.mod l eQ;have r:=j.trans l;have o:=l.hpk s id;refine qS0 ?_;refine qS0 ?_;unfold iU at a;cases g:eR S.l n with
 |none=>
  rw[g]at a;refine qSt0 ?_;apply lL TW;refine Wi o λE m=>?_;exact a _ (r.on m λx D=>gz)
 |some k=>
  rw[g]at a;refine qSf0 ?_;obtain⟨C,i,v⟩:=Bb h.srt g;obtain⟨⟨sl,A,y,O,I⟩,L,P,J,M⟩:=z;obtain⟨b,B,rest,rfl,e,t,H,u⟩:=y.item C;simp only[iZ,dr];refine qS0 ?_;refine qS1 A ?_;apply cI (e .i64);rw[i]at t;apply jq (fI k) 26 ME yV (eE k) t;refine Wi o λE m=>?_;exact a _ (r.on m λx D=>gz)
def xr(h:pN w c F S)
  (J:∀y A r,pN r y A S->M0 w r->(∀b,A b->w.heap.size<=b)->K (iZ y) r):Ca pQ 45 #[iZ c] w K:=by
 obtain⟨⟨sl,C,u,X,V⟩,I,R,H,N⟩:=id h;obtain⟨sa,sc,d,-⟩:=u.isSl;apply ay7;apply sZ h;refine qSf0 ?_;simp only[iZ,dr];refine qSv2 (.agg #[.bool true,gU S.day,sl]) C d ?_;obtain⟨q,g⟩:=dW w.heap.size
 have k:∃a,(iA 137 true (.tuple #[])).run pQ w=.ok (pt q 0) a/\∃j,(iS 137 (pt q 0) (.agg #[.bool true,gU S.day,sl])).run pQ a=.ok () j/\
   hC j q #[.bool true,gU S.day,sl] 137/\M0 w j/\w.heap.size<j.heap.size:=by
  obtain⟨a,f⟩:=dW (w.alloc (.cells #[.bool false,gU 0,.slice none 0 0] 137));have O:M0 w a:=by rw[f];exact(de.refl _ w).alloc _
  have t:hC a q #[.bool false,gU 0,.slice none 0 0] 137:=by rw[f,g];simp[go_sem]
  have M:a.heap.size=w.heap.size+1:=by rw[f,eG]
  refine⟨a,by rw[f,g];simp[go_sem],((a.setCell ⟨q,0,none⟩ (.bool true)).setCell ⟨q,1,none⟩ (gU S.day)).setCell ⟨q,2,none⟩ sl,by rw[d];simp[go_sem,t],by rw[d];simp[go_sem,t],?_,by simp only[wt];omega⟩;exact O.on ((((de.refl (λx=>x=q) a).sc).sc).sc) λx n=>gz
 obtain⟨a,T,j,L,P,o,Q⟩:=k;apply cI T;apply ir L;have k1:=o.hpk C id;refine qS0 ?_;refine qSv2 sl k1 d ?_;refine C1 (l:=S.l) (u.mod o eQ).rd qZ λi m D v G=>?_;have z:=v.hpk P id;refine qS0 ?_;obtain⟨W,U,p,-⟩:=D.isSl;apply pH (m.setCell ⟨q,2,none⟩ i) (by rw[p];simp[go_sem,z]);have E:de (λx=>x=q) m (m.setCell ⟨q,2,none⟩ i):=(de.refl (λx=>x=q) m).sc;have B:¬cK i q:=λn=>by grind
 refine J q (λb=>b=q\/cK i b) _ ⟨⟨i,by simp[go_sem,z],D.mod E λx n e=>B (e▸n),λb=>fd,B⟩,I,R,H,N⟩ ((o.trans v).on E λx n=>gz) λb s=>?_;rcases s with rfl|s
 ·omega
 ·have:=G b s;omega
def lr(l:List Ct)(n:Int)(f:Ct->Ct):List Ct:=l.map λk=>if k.spec.num=n then f k else k
def rL(b:qO l){n:Int}{i:Nat}(hi:i<l.length)(k:l[i].spec.num=n)(f:Ct->Ct):lr l n f=l.set i (f l[i]):=by
 unfold lr;apply List.ext_getElem
 ·simp
 ·intro j d e;have a:j<l.length:=by simpa using d
  rw[List.getElem_set,eL];by_cases c:i=j
  ·grind
  ·rw[aZ c,aZ];intro g;rcases Nat.lt_or_ge i j with h|h
   ·have:=eI.1 b i j hi a h;omega
   ·have:=eI.1 b j i a hi qZ;omega
def sM{f:Ct->Ct}(j:∀k∈l,k.spec.num=n->(f k).Ok/\(f k).spec.num=k.spec.num)(e:∀k∈l,k.Ok)(d:qO l):(∀k∈lr l n f,k.Ok)/\qO (lr l n f)/\(lr l n f).length=l.length:=by
 have a:∀k∈l,(if k.spec.num=n then f k else k).spec.num=k.spec.num:=λk b=>by
  split
  ·grind
  ·rfl
 refine⟨λk b=>?_,?_,by simp[lr]⟩
 ·obtain⟨x,i,rfl⟩:=cF.1 b;split
  ·grind
  ·exact e x i
 ·unfold qO lr;rw[fD];refine d.imp_of_mem λc g h=>?_;rw[a _ c,a _ g];exact h
def Ch.set1{cap:Nat}(h:Ch w (.slice (some ⟨b,0,none⟩) l.length cap) l){i:Nat}(hi:i<l.length){j:Nat}(s:j<27){v:Vt_}(t:v.oneCell' =true){f:Ct}(d:(fI l[i]).set j v=fI f):
  Ch (w.setCell ⟨b,i*27+j,none⟩ v) (.slice (some ⟨b,0,none⟩) l.length cap) (l.set i f):=by
 obtain⟨r,k,rest,o,q,m,g,c⟩:=h.pos qZ;cases o;have n:=h.1
 have a:(l.flatMap fI).set (i*27+j) v=(l.set i f).flatMap fI:=by
  clear h n m g c q;induction l generalizing i with
  |nil=>simp at hi
  |cons x l p=>
   cases i with
   |zero=>
    simp only[iN]at d;rw[eu,nv,eU,gZ _ _ (by rw[eE];omega),d];rfl
   |succ i=>
    have e:(i+1)*27+j=(fI x).length+(i*27+j):=by rw[eE];omega
    rw[eu,e,gh _ _ qZ,jN,p (by simpa using hi) (by simpa using d)];rfl
 refine⟨by grind,.inr ⟨b,cap,rest,by grind,by grind,?_,by grind,c⟩⟩;rw[nL,bZ rfl,m,iK,ed,gZ _ _ (by rw[n];omega),a]
def FA(k:Ct)(x:Int):(fI k).set 25 (gB x)=fI {k with st:=x}:=by
 unfold fI;rw[gh _ _ (by rw[dP];omega),dP];rfl
def Uw(k:Ct)(x:Int):(fI k).set 26 (gI x)=fI {k with price:=x}:=by
 unfold fI;rw[gh _ _ (by rw[dP];omega),dP];rfl
def Ck(h:k.Ok){x:Int}(a:1<=x/\x<=3):({k with st:=x}:Ct).Ok:=⟨⟨h.1.1,⟨by show 0<=x;omega,by show x<256;omega⟩,h.1.2.2⟩,h.2.1,h.2.2.1,a⟩
def tS{s:Sp}{p:Int}(h:s.isPrice p=true):1<=p/\p<=10000000:=by
 unfold Sp.isPrice CG amongB MP at h;simp only[cL,dN]at h;exact h.2.1
def CZ(h:k.Ok){x:Int}(a:k.spec.isPrice x=true):({k with price:=x}:Ct).Ok:=by
 have b:=tS a;exact⟨⟨h.1.1,h.1.2.1,⟨by show _<=x;omega,by show x<_;omega⟩⟩,h.2.1,a,h.2.2.2⟩
def pN.turn{cap:Nat}{l' :List Ct}(j:hC w c #[.bool true,gU S.day,.slice (some ⟨b,0,none⟩) l'.length cap] 137)
  (d:Ch w (.slice (some ⟨b,0,none⟩) l'.length cap) l')(l:∀x,F x↔x=c\/x=b)(a:b≠c)(f:l'.length<=16)(e:pL S.day)(i:∀k∈l',k.Ok)(g:qO l'):pN w c F ⟨S.day,l'⟩:=
 ⟨⟨_,j,d,λx=>by rw[l x];exact⟨λh=>h.imp id λh=>by rw[h];rfl,λh=>h.imp id λh=>by cases h;rfl⟩,λh=>a (by cases h;rfl)⟩,f,e,i,g⟩
def nz(S:sE)(n:Int)(on:Bool):Int×sE:=if ex S.l n≠0 then(ex S.l n,S)else(0,⟨S.day,lr S.l n λk=>{k with st:=if on then 2 else 1}⟩)
def Qn{on:Bool}(h:pN w c F S)
  (d:∀G,pN G c F (nz S n on).2->de F w G->K (gI (nz S n on).1) G):Ca pQ 86 #[iZ c,gU n,.bool on] w K:=by
 apply aB5;refine xW h (λa D B=>?_) λi s b o a C T hg D B Q P J m=>?_
 ·refine qS0 ?_;refine qS0 ?_;refine qSt1 D ?_;have e:nz S n on=(ex S.l n,S):=by unfold nz;rw[bZ D]
  rw[e]at d;exact d _ (h.mod B eQ) (B.to)
 ·refine qS0 ?_;refine qS0 ?_;refine qSf0 ?_;have e:nz S n on=(0,⟨S.day,lr S.l n λk=>{k with st:=if on then 2 else 1}⟩):=by unfold nz;rw[aZ (by rw[D];simp)]
  rw[e]at d;simp only[dr];obtain⟨b',N,rest,H,R,hA,O,t⟩:=P.item s;cases H;have r:=t 25 qZ;rw[D5]at r;have p:F b:=(J b).2 (.inr rfl);have V:∀x y,de F a ((a.setCell ⟨b,i*27+25,none⟩ x).setCell ⟨b,i*27+25,none⟩ y):=λx y=>(((de.refl F a).setCell (.inl p) _ _).setCell (.inl p) _ _)
  have L:∀x,de F a (a.setCell ⟨b,i*27+25,none⟩ x):=λx=>((de.refl F a).setCell (.inl p) _ _)
  have u:de F w a:=B.to;refine qS1 cS ?_;refine qU2 O r ?_;have l1:=P.set1 s (j:=25) qZ (v:=gB 1) rfl (FA _ _);have A:∀y:Int,1<=y/\y<=3->_:=λy X=>sM (l:=S.l) (n:=n) (f:=λk=>{k with st:=y}) (λk U _=>⟨Ck (h.ok k U) X,rfl⟩) h.ok h.srt
  have g:∀(W:Wt_) x,hC W c #[.bool true,gU S.day,.slice (some ⟨b,0,none⟩) S.l.length o] 137->hC (W.setCell ⟨b,i*27+25,none⟩ x) c #[.bool true,gU S.day,.slice (some ⟨b,0,none⟩) S.l.length o] 137:=λW x h=>by
   have:de (λz=>z=b) W (W.setCell ⟨b,i*27+25,none⟩ x):=(de.refl (λz=>z=b) W).sc;exact this.hpk h λe=>m e.symm
  cases on with
  |false=>
   rw[gP];have q:=A 1 qZ;rw[rL h.srt s C]at q;simp only[dE,eW]at d;rw[rL h.srt s C]at d;refine d _ (pN.turn (by rw[ey];exact g _ _ Q) (by grind) J m (by rw[ey];exact h.len) h.day q.1 q.2.1) (u.trans (L _))
  |true=>
   rw[kx];refine qS1 cS ?_
   have Y:i*27+25<(S.l.flatMap fI++rest).length:=by
    have:=(cP.1 r).1;exact this
   have M:((S.l.flatMap fI++rest).set (i*27+25) (gB 1))[i*27+25]? =some (gB 1):=by grind
   refine qU2 O M ?_;have E:i<(S.l.set i {S.l[i]with st:=1}).length:=by grind
   have I:Ch (a.setCell ⟨b,i*27+25,none⟩ (gB 1)) (.slice (some ⟨b,0,none⟩) (S.l.set i {S.l[i]with st:=1}).length o) (S.l.set i {S.l[i]with st:=1}):=by grind
   have Z:=I.set1 E (j:=25) qZ (v:=gB 2) rfl (FA _ _);rw[nt,gV,ey]at Z;have q:=A 2 qZ;rw[rL h.srt s C]at q;simp only[fh]at d;rw[rL h.srt s C]at d;refine d _ (pN.turn (by rw[ey];exact g _ _ (g _ _ Q)) (by grind) J m (by rw[ey];exact h.len) h.day q.1 q.2.1) (u.trans (V _ _))
def jJ(S:sE)(n price:Int):Int×sE:=
 match eR S.l n with
 |none=>(7,S)
 |some k=>if k.st=3 then(50,S)else if k.spec.isPrice price=false then(52,S)else(0,⟨S.day,lr S.l n λk=>{k with price:=price}⟩)
def GN{price:Int}(h:pN w c F S)
  (o:∀C,pN C c F (jJ S n price).2->de F w C->K (gI (jJ S n price).1) C):Ca pQ 87 #[iZ c,gU n,gI price] w K:=by
 apply au6;refine xW h (λN s u=>?_) λi g b G N U E D s u hc T R p=>?_
 ·refine qS0 ?_;refine qS0 ?_;refine qSt1 s ?_
  have e:jJ S n price=(ex S.l n,S):=by
   unfold jJ ex;unfold ex at s;cases D:eR S.l n with
   |none=>rfl
   |some k=>
    rw[D]at s;simp only at s|-;by_cases h3:k.st=3
    ·grind
    ·grind
  rw[e]at o;exact o _ (h.mod u eQ) (u.to)
 ·refine qS0 ?_;refine qS0 ?_;refine qSf0 ?_;simp only[dr];obtain⟨Z,q,rest,m,A,Q,O,d⟩:=T.item g;cases m
  have M:At N b (i*27) (jA S.l[i].spec):=by
   have:=Q.sub 0 25 (by rw[eE];omega);rw[iw,fI,dh (by rw[dP];omega),cT (by rw[dP];omega)]at this;exact this
  refine qS1 cS ?_;apply jq (jA S.l[i].spec) 24 DW Cc (dP _) M;have L:=h.ok S.l[i] (cC g);refine wL L.1.1 λy B=>?_;have J:=u.trans B
  have Y:jJ S n price=if S.l[i].spec.isPrice price=false then(52,S)else(0,⟨S.day,lr S.l n λk=>{k with price:=price}⟩):=by
   unfold jJ;rw[D];simp only;rw[aZ E]
  rw[Y]at o;cases hp:S.l[i].spec.isPrice price with
  |false=>
   refine qSt0 ?_;rw[bZ hp]at o;exact o _ (h.mod J eQ) (J.to)
  |true=>
   refine qSf0 ?_;rw[aZ (by rw[hp];simp),rL h.srt g U]at o;have r:Ch y (.slice (some ⟨b,0,none⟩) S.l.length G) S.l:=T.mod B eQ;have I:=B.hpk hc id;obtain⟨Z,q,rest,m,A,Q,O,d⟩:=r.item g;cases m;have t:=d 26 qZ;rw[Hs]at t;refine qS1 cS ?_;refine qU2 O t ?_;have l1:=r.set1 g (j:=26) qZ (v:=gI price) rfl (Uw _ _)
   have H:=sM (l:=S.l) (n:=n) (f:=λk=>{k with price:=price}) (λk P X=>⟨CZ (h.ok k P) (by
    have:k=S.l[i]:=by
     obtain⟨j,W,rfl⟩:=cX P;rcases Nat.lt_trichotomy j i with a|a|a
     ·have:=eI.1 h.srt j i W g a;omega
     ·subst a;rfl
     ·have:=eI.1 h.srt i j g W a;omega
    rw[this];exact hp),rfl⟩) h.ok h.srt
   rw[rL h.srt g U]at H;have V:de (λz=>z=b) y (y.setCell ⟨b,i*27+26,none⟩ (gI price)):=(de.refl (λz=>z=b) y).sc;refine o _ (pN.turn (by rw[ey];exact V.hpk I λe=>p e.symm) (by grind) R p (by rw[ey];exact h.len) h.day H.1 H.2.1) ((J.to).trans (V.mono λx _ hx=>(R x).2 (.inr hx)))
def Ki(a b:Sp):Bool:=decide (a.last<b.last)||(decide (a.last=b.last)&& decide (a.num<b.num))
def So{a b:Sp}(d:∀l,M0 w l->K (.bool (Ki a b)) l):Ca pQ 203 #[.agg (jA a).toArray,.agg (jA b).toArray] w K:=by
 apply aa8;obtain⟨j,o,c,n⟩:=EN a w;apply cI o;obtain⟨p,i⟩:=dW w.heap.size;rw[<-i]at c|-;obtain⟨r,m,g,k⟩:=EN b j;apply cI m;have c:=k.hpk c id;have d:=d _ (n.trans k);unfold Ki at d;obtain⟨q,h⟩:=dW j.heap.size;rw[<-h]at g|-;refine qS0 ?_;refine qS2 c El ?_;refine qS0 ?_;refine qS2 g El ?_;by_cases f:a.last<b.last
 ·refine qSt1 f ?_;simpa [f]using d
 ·refine qSf1 f ?_;refine qS0 ?_;refine qS2 c El ?_;refine qS0 ?_;refine qS2 g El ?_;by_cases e:a.last=b.last
  ·refine qSt1 e ?_;refine qS0 ?_;refine qS2 c Qa ?_;refine qS0 ?_;refine qS2 g Qa ?_;refine qS0 ?_;simpa [e]using d
  ·refine qSf1 e ?_;simpa [f,e]using d
def FU(k y:Ct):Bool:=decide (y.st≠3)&& Ki y.spec k.spec
def Qo{y:Ct}{p off:Nat}(i:hC w p #[.pointer (some ⟨b,off,none⟩)] T)(h:At w b off (fI k))
  (f:∀l,M0 w l->K (.bool (FU k y)) l):Ca pQ 202 #[.agg (fI y).toArray,.pointer (some ⟨p,0,none⟩)] w K:=by
 apply aa7;obtain⟨j,s,a,r⟩:=GT y w;apply cI s;obtain⟨q,g⟩:=dW w.heap.size;rw[<-g]at a|-;have md:=r.drew;have a:hC j.drew q (fI y).toArray oT:=a;have n:=md.hpk i id;have m:=h.mod md id;generalize j.drew=u at md a n m|-;refine qP0 ?_;refine qW2 a D5 ?_;unfold FU at f;by_cases d:y.st=3
 ·refine qPf1 d ?_;have e:=f _ md;simpa [d]using e
 ·refine qPt1 d ?_
  have c:∀{W:Wt_} {b off:Nat} {x:Ct},At W b off (fI x)->At W b off (jA x.spec):=λh=>by
   have:=h.sub 0 25 (by rw[eE];omega);rw[iw,fI,dh (by rw[dP];omega),cT (by rw[dP];omega)]at this;exact this
  refine qP0 ?_;apply sm (jA y.spec) 24 DW Cc (dP _) (c (At.all a));refine qW1 n ?_;simp only[dr];refine qP1 cS ?_;apply sm (jA k.spec) 24 DW Cc (dP _) (c m);refine So λt o=>?_;have e:=f _ (md.trans o);simpa [d]using e
def R6(w:Wt_)(fv:Vt_)(p:Ct->Bool)(l:List Ct):Prop:=
 ∃g cp,fv=.func (.func g) #[] cp/\∀x∈l,∀W,M0 w W->∀K,(∀W',M0 W W' ->K (.bool (p x)) W')->Ca pQ g ⟨[.agg (fI x).toArray]++cp.toList⟩ W K
def Ch.ld(h:Rd w 27 s l.length (l.flatMap fI)){x:Nat}(e:x<l.length):
  ∃p,(iX Kd s (gI (x:Int))).run pQ w=.ok p w/\(fH oT p).run pQ w=.ok (.agg (fI l[x]).toArray) w:=by
 obtain⟨b,a,f,c,d,g⟩:=h.item eE e rfl;exact⟨.pointer (some ⟨b,a+x*27,none⟩),by rw[c];simp[go_sem,e,cS],gm ME yV (eE _) g⟩
def I4{fv:Vt_}{p:Ct->Bool}(h:Rd w 27 s l.length (l.flatMap fI))(G:l.length<=1000000)(z:R6 w fv p l)
  (u:∀t,M0 w t->K (gI (uK l p)) t):Ca pQ 244 #[s,fv] w K:=by
 obtain⟨g,H,rfl,r⟩:=z;apply ah6;obtain⟨a,c,A⟩:=h.isSl;apply jm (gI (l.length:Int)) w (by rw[A];simp[go_sem])
 refine eS (λst W=>∃(i:Nat) (x:Vt_),i<=l.length/\st=(x,gI i,())/\M0 w W/\∀j,∀d,j<i->p l[j]=false)
  (λst _=>match st.2.1 with| .int _ i=>l.length - i.toNat|_=>0) ⟨0,gI 0,qZ,rfl,lX,λj _ h=>qZ⟩ ?_
 rintro⟨_,_⟩ W ⟨i,x,F,⟨⟩,f,e⟩ E o;unfold Oy;intro _;by_cases b:i<l.length
 ·have k:(i:Int)<(l.length:Int):=qZ;refine qSt1 k ?_;obtain⟨q,v,C⟩:=Ch.ld (h.mod f eQ) b;apply cI v;apply iW C;simp only[kE];refine r l[i] (cC b) W f _ λI n=>?_;cases hp:p l[i]with
  |true=>
   rw[kx]
   have:uK l p=(i:Int):=by
    unfold uK
    have:l.findIdx? p=some i:=by
     rw[eB];refine⟨b,hp,λj d=>?_⟩;rw[e j qZ d];simp
    rw[this]
   have m:=u _ (f.trans n);rw[this]at m;exact m
  |false=>
   rw[gP];apply qSj i;refine o _ _ ⟨i+1,_,qZ,rfl,f.trans n,λj d y=>?_⟩ (by grind);by_cases D:j=i
   ·subst D;exact hp
   ·grind
 ·obtain rfl:i=l.length:=qZ;refine qSf0 ?_
  have:uK l p= -1:=by
   unfold uK
   have:l.findIdx? p=none:=by
    rw[fR];intro x B;obtain⟨j,d,rfl⟩:=cX B;exact e j d d
   rw[this]
  have m:=u _ f;rw[this]at m;exact m
def Qx{α:Type}(l:List α)(p:α->Bool):decide (0<=uK l p)=l.any p:=by
 unfold uK;cases h:l.findIdx? p with
 |none=>
  rw[fR]at h;have:l.any p=false:=by grind
  rw[this];rfl
 |some i=>
  obtain⟨a,hp,-⟩:=eB.1 h;have:l.any p=true:=gA.2 ⟨l[i],cC a,hp⟩;rw[this];exact db (by simp)
def DO{fv:Vt_}{p:Ct->Bool}(h:Rd w 27 s l.length (l.flatMap fI))(f:l.length<=1000000)(e:R6 w fv p l)
  (c:∀a,M0 w a->K (.bool (l.any p)) a):Ca pQ 201 #[s,fv] w K:=by
 apply aq3;refine I4 h f e λb d=>?_;apply cx (.bool (l.any p)) b (by rw[<-Qx];simp[go_sem]);exact c _ d
def qI(S:sE)(n:Int):Int:=
 match eR S.l n with
 |none=>7
 |some k=>if k.st=3 then 50 else if S.day<k.spec.last\/S.l.any (FU k)=true then 51 else 0
def zV(h:ex S.l n≠0):qI S n=ex S.l n:=by
 unfold qI ex;unfold ex at h;cases a:eR S.l n with
 |none=>rfl
 |some k=>
  rw[a]at h;simp only at h|-;by_cases b:k.st=3
  ·grind
  ·grind
def TG(h:pN w c F S)
  (D:∀V,M0 w V->K (gI (qI S n)) V):Ca pQ 167 #[iZ c,gU n] w K:=by
 apply ak4
 have f:∀W v,(∃o,v=.pointer o)->∃a C,(iA 214 true (.tuple #[])).run pQ W=.ok (pt W.heap.size 0) a/\(iS 214 (pt W.heap.size 0) v).run pQ a=.ok () C/\
   hC C W.heap.size #[v] 214/\M0 W C:=λW v hv=>by
  obtain⟨o,rfl⟩:=hv;obtain⟨a,k⟩:=dW (W.alloc (.cells #[.pointer none] 214));have B:M0 W a:=by rw[k];exact(de.refl _ W).alloc _
  have U:hC a W.heap.size #[.pointer none] 214:=by rw[k];simp[go_sem]
  exact⟨a,a.setCell ⟨W.heap.size,0,none⟩ (.pointer o),by rw[k];simp[go_sem],by simp[go_sem,U],by simp[go_sem,U],B.on ((de.refl (λx=>x=W.heap.size) a).sc) λx hx=>gz⟩
 refine xW h (λa Q B=>?_) λi hi b N a hn M hg Q B hc hl hF hbc=>?_
 ·refine qS0 ?_;refine qS0 ?_;obtain⟨C,u,E,G,J,t⟩:=f a (.pointer none) ⟨_,rfl⟩;apply cI E;apply ir G;refine qSt1 Q ?_;have g:=D _ (B.trans t);rw[zV Q]at g;exact g
 ·refine qS0 ?_;refine qS0 ?_;obtain⟨C,u,E,G,J,t⟩:=f a (pt b (i*27)) ⟨_,rfl⟩;obtain⟨q,O⟩:=dW a.heap.size;rw[<-O]at E G J;apply cI E;apply ir G;refine qSf0 ?_;have M3:=B.trans t;have R:=t.hpk hc id;have P:=hl.mod t eQ
  have e0:qI S n=if S.day<S.l[i].spec.last\/S.l.any (FU S.l[i])=true then 51 else 0:=by
   unfold qI;rw[hg];simp only;rw[aZ M]
  rw[e0]at D;have md:M0 u u.drew:=mP;have r:=md.hpk R id;have m:Ch u.drew (.slice (some ⟨b,0,none⟩) S.l.length N) S.l:=P.mod md eQ;have j:=md.hpk J id;have I:=M3.trans md;refine dK.at (λst W=>st=(.bool (decide (S.day<S.l[i].spec.last\/S.l.any (FU S.l[i])=true)),())/\M0 w W) ?_ ?_
  ·obtain⟨b',X,rest,L,hix,Z,Y,A⟩:=m.item hi;cases L;have z:=A 23 qZ;rw[ao4]at z;simp only[iZ,dr];generalize u.drew=w4 at md r m j I Z Y|-;refine qP0 ?_;refine qW1 r ?_;refine qW1 j ?_;simp only[dr];refine qP1 cS ?_;refine qP1 cS ?_;refine qW2 Y z ?_;by_cases d:S.day<S.l[i].spec.last
   ·refine qPt1 d ?_;exact⟨by simp[d],I⟩
   ·refine qPf1 d ?_;refine qP0 ?_;refine qW1 r ?_;refine DO (l:=S.l) (p:=FU S.l[i]) m.rd (by have:=h.len;omega) ⟨_,_,rfl,λy hy W s K' T=>?_⟩ λw5 m5=>?_
    ·exact Qo (s.hpk j id) (Z.mod s id) T
    ·refine⟨?_,I.trans m5⟩
     have e:decide (S.day<S.l[i].spec.last\/S.l.any (FU S.l[i])=true)=S.l.any (FU S.l[i]):=by
      rw[iC,decide_eq_true_iff];exact⟨λh=>h.resolve_left d,.inr⟩
     rw[e]
  rintro _ W ⟨rfl,s⟩;unfold PP;intro _;by_cases H:S.day<S.l[i].spec.last\/S.l.any (FU S.l[i])=true
  ·rw[qo H];have g:=D _ s;rw[bZ H]at g;exact g
  ·rw[cy,aZ (by grind)];have g:=D _ s;rw[aZ H]at g;exact g
def jy(S:sE)(n:Int):Int×sE:=if qI S n≠0 then(qI S n,S)else(0,⟨S.day,lr S.l n λk=>{k with st:=3}⟩)
def zK(h:qI S n=0):ex S.l n=0:=by
 apply dU;intro a;rw[zV a]at h;exact a h
def Km(h:pN w c F S)
  (a:∀r,pN r c F (jy S n).2->de F w r->K (gI (jy S n).1) r):Ca pQ 134 #[iZ c,gU n] w K:=by
 apply an1;refine TG h λU u=>?_;have A:=h.mod u eQ;unfold jy at a;by_cases d:qI S n=0
 ·rw[aZ (by simpa using d)]at a;rw[d];refine qSf0 ?_;refine xW A (λp H D=>absurd (zK d) H) λi q b N p E L R H D P C B g=>?_;refine qS0 ?_;refine qS0 ?_;refine qSt0 ?_;simp only[dr];obtain⟨Q,y,rest,s,I,T,J,m⟩:=C.item q;cases s;have o:=m 25 qZ;rw[D5]at o;refine qS1 cS ?_;refine qU2 J o ?_;have V:=C.set1 q (j:=25) qZ (v:=gB 3) rfl (FA _ _);have G:de (λz=>z=b) p (p.setCell ⟨b,i*27+25,none⟩ (gB 3)):=(de.refl (λz=>z=b) p).sc;have t:=sM (l:=S.l) (n:=n) (f:=λk=>{k with st:=3}) (λk M _=>⟨Ck (h.ok k M) qZ,rfl⟩) h.ok h.srt;rw[rL h.srt q E]at t;rw[rL h.srt q E]at a;exact a _ (pN.turn (by rw[ey];exact G.hpk P λe=>g e.symm) (by grind) B g (by rw[ey];exact h.len) h.day t.1 t.2.1) (((u.trans D).to).trans (G.mono λx _ O=>(B x).2 (.inr O)))
 ·rw[bZ d]at a;refine qSt1 d ?_;exact a _ A (u.to)
def Ep{W:Wt_}{K:Value->World->Prop}(c:∀a,hC a W.heap.size (fI k).toArray oT->M0 W a->K (pt W.heap.size 0) a):
  rx pQ (nE oT) W λv b=>nj pQ (jH oT v (.agg (fI k).toArray)) b λa=>K v a:=by
 apply xM 26 zCt yV (eE k) ao6 (sy k);exact c _ (by simp[go_sem]) lm
def TL:CW pQ (.func (.func 53) #[] #[.pointer (some ⟨b,0,none⟩)]) (S.l.map λk=>[.agg (fI k).toArray]) (λW=>hC W b #[iZ c] T/\∃F,pN W c F S):=by
 refine⟨⟨_,_,_,rfl,?_⟩⟩;rintro y J Js W K ⟨g,F,x⟩ H j d f w;apply av1;apply cx (iZ c) W (by simp[go_sem,g,iZ]);apply sZ x;refine qSf0 ?_;obtain⟨⟨sl,A,B,X,V⟩,Y,c6⟩:=id x;apply cx (iZ c) W (by simp[go_sem,g,iZ]);simp only[iZ,dr];obtain⟨U,R,r,-⟩:=B.isSl;refine qS1 A ?_;refine qSv2 sl A r ?_;refine C1 (l:=S.l) B.rd qZ λs O t G P=>?_;obtain⟨sa,sc,v,-⟩:=t.isSl;apply jm (gI (S.l.length:Int)) O (by rw[v];simp[go_sem]);have u:=H _ _ G λb g=>⟨P b g,t.lt g⟩
 refine eS (λst m=>∃i,i<=S.l.length/\st=(gI i,())/\J (cK s) i m/\Ch m s S.l)
  (λst _=>match st.1 with| .int _ i=>S.l.length - i.toNat|_=>0) ⟨0,qZ,rfl,u,t⟩ ?_
 rintro⟨_,_⟩ m ⟨i,Z,⟨⟩,C,z⟩ Q o;unfold WY;intro _;by_cases e:i<S.l.length
 ·have h:(i:Int)<(S.l.length:Int):=qZ;refine qSt1 h ?_;obtain⟨p,I,M⟩:=Ch.ld z.rd e;apply cI I;apply iW M;refine Ep λE L D=>?_;apply jq (fI S.l[i]) 26 ME yV (eE _) (At.all L);have n:=z.mod D eQ;refine d (cK s) i [.agg (fI S.l[i]).toArray] E (by simp[e]) (j _ _ _ _ C D) _ (λN a q=>?_) λN a=>?_
  ·refine qSf0 ?_;apply qSj i;exact o _ _ ⟨i+1,qZ,rfl,a,n.keep q⟩ (by grind)
  ·refine qSt0 ?_;exact w _ a
 ·obtain rfl:i=S.l.length:=qZ;refine qSf0 ?_;exact f _ m (by simpa using C)
def zq(h:pN w c F S)
  (f:∀gv a,th gv (S.l.map λk=>[.agg (fI k).toArray]) a->M0 w a->K gv a):Ca pQ 29 #[iZ c] w K:=by
 apply aC7;have d:M0 w (w.alloc (.cells #[iZ c] 33)):=lm;apply cx (pt w.heap.size 0) (w.alloc (.cells #[iZ c] 33)) (by simp[go_sem,iZ]);have e:hC (w.alloc (.cells #[iZ c] 33)) w.heap.size #[iZ c] 33:=by simp[go_sem]
 exact f _ _ ⟨⟨_,(TL (c:=c) (b:=w.heap.size) (S:=S) (T:=33)).m,λW m=>⟨m.hpk e id,F,h.mod (d.trans m) eQ⟩⟩,_,_,rfl⟩ d
def OO(s:Sp)(x p:Int):Tryz.prog.built oT [(0,.agg (jA s).toArray),(1,gB x),(2,gI p)]=some (fI ⟨s,x,p⟩).toArray:=by
 have c:∀a,Tryz.prog.built oT a=Instr.fill (λi=>#[(0,25),(25,1),(26,1)][i]?) (lT pQ oT).toArray a:=λa=>by kernel_rfl
 rw[c,Qd];rw[uz (off:=0) (size:=25) rfl (by show(jA s).toArray.size=25;rw[eT,dP]) (by rw[eE];omega)];rw[uz (off:=25) (size:=1) rfl rfl (by rw[ve (by show 0+(jA s).length<=_;rw[dP,eE];omega),eE];omega)];rw[uz (off:=26) (size:=1) rfl rfl (by rw[ve (by rw[ve (by show 0+(jA s).length<=_;rw[dP,eE];omega),eE];show 25+1<=27;omega),ve (by show 0+(jA s).length<=_;rw[dP,eE];omega),eE];omega)];rw[Dj];congr 2
 have b:mh (fI JJ) 0 (jA s)=jA s++[.int .u8 0,gI 0]:=by
  unfold mh;rw[kw,jO,dP,fI,List.drop_left' (by rw[dP])];rfl
 show mh (mh (mh (fI JJ) 0 (jA s)) 25 [.int .u8 x]) 26 [.int .i64 p]=_;rw[b]
 have d:mh (jA s++[.int .u8 0,gI 0]) 25 [.int .u8 x]=jA s++[.int .u8 x,gI 0]:=by
  unfold mh;rw[List.take_left' (dP s),qF,fg (by rw[dP];simp),dP];simp
 rw[d];unfold mh;rw[List.take_append,cT (by rw[dP];omega),dP,fg (by simp[dP])];simp[fI]
def rJ(s:Sp):Ct:=⟨s,1,s.first⟩
def kC(S:sE)(s:Sp):Int×sE:=
 if s.may=false then(2,S)else if(eR S.l s.num).isSome then(8,S)else if s.last<S.day then(51,S)else if 16<=S.l.length then(9,S)
 else(0,⟨S.day,S.l.take (lW S.l s.num)++rJ s::S.l.drop (lW S.l s.num)⟩)
def EV(i:qO l)(B:∀k∈l,k.Ok){k:Ct}(v:k.Ok)(r:eR l k.spec.num=none):(∀x∈l.take (lW l k.spec.num)++k::l.drop (lW l k.spec.num),x.Ok)/\qO (l.take (lW l k.spec.num)++k::l.drop (lW l k.spec.num))/\lW l k.spec.num<=l.length:=by
 have e:l.take (lW l k.spec.num)=l.takeWhile λx=>decide (x.spec.num<k.spec.num):=by
  unfold lW;have d:l.takeWhile (λx=>decide (x.spec.num<k.spec.num))++l.dropWhile (λx=>decide (x.spec.num<k.spec.num))=l:=List.takeWhile_append_dropWhile
  conv=>lhs;rw[<-d];arg 1;rw[d]
  rw[fN]
 have w:l.drop (lW l k.spec.num)=l.dropWhile λx=>decide (x.spec.num<k.spec.num):=by
  unfold lW;have d:l.takeWhile (λx=>decide (x.spec.num<k.spec.num))++l.dropWhile (λx=>decide (x.spec.num<k.spec.num))=l:=List.takeWhile_append_dropWhile
  conv=>lhs;rw[<-d];arg 1;rw[d]
  rw[fj]
 have f:lW l k.spec.num<=l.length:=(List.takeWhile_sublist _).length_le
 have m:∀x∈l.take (lW l k.spec.num),x.spec.num<k.spec.num:=λx c=>by
  rw[e]at c;have:=List.all_takeWhile (l:=l) (p:=λx:Ct=>decide (x.spec.num<k.spec.num));simpa using dF.1 this x c
 have h:∀x∈l.drop (lW l k.spec.num),k.spec.num<x.spec.num:=λx c=>by
  have u:x.spec.num≠k.spec.num:=λn=>by
   unfold eR at r;have:=fW.1 r x (kT c);simp[n]at this
  have s:¬x.spec.num<k.spec.num:=λn=>by
   by_cases t:lW l k.spec.num<l.length
   ·have g:¬l[lW l k.spec.num].spec.num<k.spec.num:=by
     have o:(l.drop (lW l k.spec.num))[0]? =some l[lW l k.spec.num]:=by grind
     rw[w]at o;have d:=List.head?_dropWhile_not (λx:Ct=>decide (x.spec.num<k.spec.num)) l;rw[List.head?_eq_getElem?,o]at d;simpa using d
    obtain⟨j,A,rfl⟩:=cX c;rw[List.getElem_drop]at n;rw[dV]at A;by_cases y:j=0
    ·grind
    ·have:=eI.1 i (lW l k.spec.num) (lW l k.spec.num+j) t qZ qZ;omega
   ·grind
  omega
 refine⟨λx c=>?_,?_,f⟩
 ·rcases dg.1 c with c|c
  ·grind
  ·rcases cH.1 c with rfl|c
   ·exact v
   ·grind
 ·unfold qO;rw[lV,fO];refine⟨i.sublist (List.take_sublist _ _),⟨h,i.sublist (List.drop_sublist _ _)⟩,λa z b q=>?_⟩;rcases cH.1 q with rfl|q
  ·exact m a z
  ·grind
def Sp.may_price{s:Sp}(h:s.may=true):s.isPrice s.first=true:=by
 unfold Sp.isPrice;rw[h];unfold Sp.may at h;simp only[cL]at h;simpa using h.2
def QA{s:Sp}(h:pN w c F S)(R:s.Fit)
  (M:∀F' w',pN w' c F' (kC S s).2->de F w w' ->(∀x,F' x->F x\/w.heap.size<=x)->K (gI (kC S s).1) w'):Ca pQ 84 #[iZ c,.agg (jA s).toArray] w K:=by
 apply aD8;obtain⟨w1,e1,N,m1⟩:=EN s w;apply cI e1;obtain⟨p,hp0⟩:=dW w.heap.size;rw[<-hp0]at N|-;have L:=h.mod m1 eQ;have C:∀{W W' :Wt_},M0 W W' ->de F W W' :=λm=>m.to
 have n:∀e W,kC S s=(e,S)->M0 w W->K (gI e) W:=λe W he m=>by
  rw[he]at M;exact M F W (h.mod m eQ) (C m) λx f=>.inl f
 apply sZ L;refine qSf0 ?_;apply jq (jA s) 24 DW Cc (dP s) (At.all N);refine vP R λw2 Z=>?_;have M2:=m1.trans Z;have b2:=Z.hpk N id;cases a:s.may with
 |false=>
  refine qSt0 ?_;exact n 2 w2 (by unfold kC;rw[bZ a]) M2
 |true=>
  refine qSf0 ?_;refine qS0 ?_;refine qS2 b2 Qa ?_;have q2:=L.mod Z eQ;refine I6 q2 λz X=>?_;have M3:=M2.trans X;have b3:=X.hpk b2 id;refine qS0 ?_;refine qS0 ?_;cases A:eR S.l s.num with
  |some k=>
   rw[show(some k).isSome=true from rfl,cy,bZ rfl];exact n 8 z (by unfold kC;rw[aZ (by simp[a]),A];rfl) M3
  |none=>
   rw[show(none:Option Ct).isSome=false from rfl,cy,aZ gL];have q3:=q2.mod X eQ;obtain⟨⟨sl,L,h2,h3,h4⟩,h5,h6,h7,h8⟩:=q3;obtain⟨sa,sc,l,-⟩:=h2.isSl;have md:M0 z z.drew:=mP;have J:=md.hpk L id;have b4:=md.hpk b3 id;have l4:Ch z.drew sl S.l:=h2.mod md eQ;have H:=M3.trans md;generalize z.drew=t at md J b4 l4 H|-;refine qP0 ?_;refine qW2 b4 El ?_;simp only[iZ,dr];refine qP0 ?_;refine qW1 J ?_;by_cases d:s.last<S.day
   ·refine qPt1 d ?_;exact n 51 t (by unfold kC;rw[aZ (by simp[a]),A,aZ (by simp),bZ d]) H
   ·refine qPf1 d ?_;refine qS0 ?_;refine qSv2 sl J l ?_;apply jm (gI (S.l.length:Int)) t (by rw[l];simp[go_sem]);by_cases r:16<=S.l.length
    ·have g:(16:Int)<=(S.l.length:Int):=qZ;refine qSt1 g ?_;exact n 9 t (by unfold kC;rw[aZ (by simp[a]),A,aZ (by simp),aZ d,bZ r]) H
    ·have g:¬(16:Int)<=(S.l.length:Int):=qZ;refine qSf1 g ?_;have j:M0 t t.drew:=mP;have c5:=j.hpk J id;have O:=j.hpk b4 id;have P:Ch t.drew sl S.l:=l4.mod j eQ;have M5:=H.trans j;generalize t.drew=y at j c5 O P M5|-;refine qP0 ?_;refine qWv2 sl c5 l ?_;apply sm (jA s) 24 DW Cc (dP s) (At.all O);apply dw (λ_=>by simp[-Int.natCast_add,go_sem]<;>first|exact sI|exact rfl);apply qWv2 (gI s.first) O aq9;refine AN (cells:=(fI (rJ s)).toArray) ?_ ?_
     ·exact OO s 1 s.first
     refine oJ [.agg (fI (rJ s)).toArray] qU (eO eCt) rfl rfl (by intro v hv;rw[eK.1 hv];show(fI (rJ s)).toArray.size=27;rw[eT,eE]) qZ ?_;have e0:(([.agg (fI (rJ s)).toArray]:LV_).flatMap (·.cells.toList)).toArray=(fI (rJ s)).toArray:=by simp[Value.cells]
     rw[e0];have G:M0 y (y.alloc (.cells (fI (rJ s)).toArray oT)):=lm
     have Y:Ch (y.alloc (.cells (fI (rJ s)).toArray oT)) (.slice (some ⟨y.heap.size,0,none⟩) 1 1) [rJ s]:=
      ⟨by simp[eE],.inr ⟨_,1,[],rfl,by simp,by rw[gy,bZ rfl];simp,by simp,rfl⟩⟩
     obtain⟨q,Q⟩:=dW y.heap.size;rw[<-Q]at Y|-;generalize y.alloc (.cells (fI (rJ s)).toArray oT)=w6 at G Y|-;have U:=G.hpk c5 id;have l6:Ch w6 sl S.l:=P.mod G eQ;refine⟨by simp[go_sem,U,l],?_⟩;have u:=EV h8 h7 (k:=rJ s) ⟨⟨R,⟨by show(0:Int)<=1;omega,by show(1:Int)<256;omega⟩,R.2.2.2.2.2.2.2.2.2⟩,a,Sp.may_price a,by show(1:Int)<=1;omega,by show(1:Int)<=3;omega⟩ A;refine GQ (o:=rJ s) (i:=lW S.l s.num) l6 Y (λb hb T=>?_) u.2.2 qZ λD E o7 m7 n7=>?_
     ·have:=P.lt hb;have:b=q:=by cases T;rfl
      omega
     have c7:=m7.hpk U λf=>h4 f;obtain⟨ta,tc,V,-⟩:=o7.isSl;apply dw (λ_=>by simp[-Int.natCast_add,go_sem]<;>first|exact sI|exact rfl);apply pH (E.setCell ⟨c,2,none⟩ D) (by rw[V];simp[go_sem,c7]);have mv:de (λx=>x=c) E (E.setCell ⟨c,2,none⟩ D):=(de.refl (λx=>x=c) E).sc
     have e:kC S s=(0,⟨S.day,S.l.take (lW S.l s.num)++rJ s::S.l.drop (lW S.l s.num)⟩):=by
      unfold kC;rw[aZ (by simp[a]),A,aZ (by simp),aZ d,aZ r]
     rw[e]at M;have hM:=M5.trans G;have hsM:=hM.size;have hcs:c<w6.heap.size:=cB U
     have B:¬cK D c:=λf=>by
      rcases n7 c f with I|I
      ·exact h4 I
      ·omega
     refine M (λx=>x=c\/cK D x) _ ⟨⟨D,by simp[go_sem,c7],o7.mod mv λx f e=>B (e▸f),λx=>fd,B⟩,?_,h6,u.1,u.2.1⟩ ((((C hM).on m7 λx f=>.inl ((h3 x).2 (.inr f)))).on mv λx f=>.inl ((h3 x).2 (.inl f))) λx f=>?_
     ·grind
     ·rcases f with rfl|f
      ·grind
      ·rcases n7 x f with I|I
       ·grind
       ·exact gz
end Go.Proofs
