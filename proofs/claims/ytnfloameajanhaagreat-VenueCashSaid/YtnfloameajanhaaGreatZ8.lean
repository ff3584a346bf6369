/- Part of a proof. -/
import Derived.Laws.BitsAllLaws
import Derived.Test.YtnfloameajanhaaGreatRows
import Derived.WalkKit
import Derived.ProofKit
import Derived.OpenShut
import Derived.Test.YtnfloameajanhaaGreatZ7
set_option linter.all false
namespace Go.Proofs
open Go Go.Vc
attribute [local congr] cR
variable {c x:Cm}{d n nx:Int}{F:NP_}{v p b l mb md lo:Nat}{cs:Nat->List Value}{ss:Nat->Value}{P:Program}{S:Ven}{w W w' :Wt_}{K:cG}
def Hf{L:Led}(h:L.Ok)(c a:Int): -10000000<=(L.position c a).q/\(L.position c a).q<=10000000:=by
 unfold Led.position;cases d:L.pos? (c,a)with
 |none=>exact⟨by grind,by grind⟩
 |some p=>
  have b:=fl d;have:=h.pos p b;have e:MP=10000000:=rfl;exact⟨by grind,by grind⟩
section
variable{w:Wt_}{K:cG}{v c l mb md:Nat}{A:List (Int×Nat)}{D:List (Int×Value)}{fp:Pt->Nat->Prop}{S:Ven}
def O1{k:Ct}{a q:Int}{p lo:Nat}{sT:Vt_}{r:Rp}(h:ik w v c l mb md A D fp S)(n:S.Ok)(T:ex S.cal.l k.spec.num=0)(hq: -10000000<=q/\q<=10000000)
  (hr:B5 w p sT r lo (dY fp))(hpf:¬dY fp p)(hlo:lo<=w.heap.size)(hb:((0<=r.left/\r.left<=100000000000)/\0<=r.filled/\r.filled<=100000000000)/\r.trades.length<=5000)
  (hK:∀D' B E Q,ik Q v c l mb md A D' B (S.sell k a q r).2.2->B5 Q p E (S.sell k a q r).2.1 lo (dY B)->de (λy=>dY fp y\/y=p\/cK sT y) w Q->(∀y,dY B y->dY fp y\/w.heap.size<=y)->(∀y,cK E y->cK sT y\/w.heap.size<=y)->
   ((0<=(S.sell k a q r).2.1.left/\(S.sell k a q r).2.1.left<=r.left+640000000)/\0<=(S.sell k a q r).2.1.filled/\(S.sell k a q r).2.1.filled<=r.filled+50000000)/\(S.sell k a q r).2.1.trades.length<=r.trades.length+114->K (gI (S.sell k a q r).1) Q):
  Ca pQ 148 #[eY v,.agg (fI k).toArray,gU a,gI q,.pointer (some ⟨p,0,none⟩)] w K:=by
 apply an5;obtain⟨P,e1,b1,m1⟩:=GT k w;apply cI e1;obtain⟨pk,hpk0⟩:=dW w.heap.size;rw[<-hpk0]at b1|-;obtain⟨pa,F⟩:=dW P.heap.size;have m2:M0 P (P.alloc (.cells #[.int .u32 a] 23)):=lm;have b2:hC (P.alloc (.cells #[.int .u32 a] 23)) pa #[.int .u32 a] 23:=by rw[F];simp[go_sem]
 apply cx (pt pa 0) (P.alloc (.cells #[.int .u32 a] 23)) (by rw[F];simp[go_sem]);generalize P.alloc (.cells #[.int .u32 a] 23)=H at m2 b2|-;have M2:=m1.trans m2;have k2:=m2.hpk b1 id;have h2:=h.md0 M2;have r2:=hr.mod M2 id eQ;have hpkpa:pk<pa:=by have:=cB b1;omega
 have hpw:=cB hr.at_;have hn:pL k.spec.num:=alive_u32 n.cal T;refine cx (pt pk 0) H (by simp[go_sem]) (cx (pt pk 0) H (by simp[go_sem]) ?_);refine qS2 k2 G9 ?_;obtain⟨d,t⟩:=dW (decide (0<q):Bool);obtain⟨qty,I⟩:=dW (max q (-q):Int);apply cx (.bool d) H (by rw[t];simp[go_sem]);apply cx (gI (-q)) H (by simp[go_sem];rw[wI_]);apply jm (gI qty) H (by rw[I];simp[go_sem]);simp only[eY,dr];refine cI (jk 3 qZ _) (cI (AJ _ h2.blk) ?_);apply iW (uF h2.mbd k.spec.num);obtain⟨L,hL⟩:=dW (S.bd k.spec.num);have hLl:L.length<=50:=by rw[hL];exact n.ord.bdl _
 have J:=h2.bd k.spec.num;rw[<-hL]at J;obtain⟨ba,bc,hbs,-⟩:=J.isSl;apply jm (gI (L.length:Int)) H (by rw[hbs];simp[go_sem]);let s:List Od->List Od:=λl=>l.filter λo=>o.buy==d;have hs2:=M2.size;have hlt2:=cB b2
 refine eS (λst W=>∃(j:Nat) (sl:Vt_),j<=L.length/\st=(sl,gI j,())/\qR W sl (s (L.take j))/\M0 H W/\∀y,cK sl y->H.heap.size<=y)
  (λst _=>match st.2.1 with| .int _ i=>L.length - i.toNat|_=>0) ⟨0,dv,qZ,rfl,jo.nil _ _ _,lX,λy g=>(by cases g)⟩ ?_
 rintro _ W ⟨j,sl,hj,rfl,t1,N,t3⟩ KN hKN;unfold Oq;intro _;have hW:=h2.md0 N;have oW:=J.mod N eQ;have hsW:=N.size;by_cases V:j<L.length
 ·have hlt' :(j:Int)<(L.length:Int):=qZ;refine qSt1 hlt' ?_;obtain⟨pj,p1,p2⟩:=J7 oW.rd V;refine cI p1 (cI p2 ?_);obtain⟨wa,ea,ba',ma⟩:=kD W;apply cI ea;obtain⟨q5,hq5⟩:=dW W.heap.size;rw[<-hq5]at ba' |-;obtain⟨o,U⟩:=dW (L[j]);rw[<-U];obtain⟨wb,eb,bb,mb'⟩:=jK (o' :=o) ba';apply ir eb;have Mb:M0 W wb:=ma.on mb' λb hb=>gz;have tb:=t1.mod Mb eQ;have htk:=eA V;rw[<-U]at htk;refine cx (pt q5 2) wb (by simp[go_sem]) (cx (.bool o.buy) wb (by simp[go_sem,bb,fL]) ?_);refine qS0 ?_;have u:L.length - (((j+1:Nat):Int)).toNat<L.length - ((j:Int)).toNat:=qZ;cases hbl:(o.buy==d)with
  |true=>
   rw[kx];apply cI (lM (o:=o) (At.all bb));have hsel50:(s (L.take j)).length<=50:=dD (dm _ _) (by grind);refine vK (x:=o) (f:=fL) mH (eO Oh) gM pD rfl tb qZ qZ λs' wc oc mc nc=>?_;apply cx (gI ((j+1:Nat):Int)) wc (by simp[go_sem];rw[wI_]);have hsb:=Mb.size;refine hKN _ _ ⟨j+1,s',qZ,rfl,?_,(N.trans Mb).on mc λy g=>.inr (t3 y g),λy g=>?_⟩ u
   ·grind
   ·rcases nc y g with h' |h'
    ·exact t3 y h'
    ·omega
  |false=>
   rw[gP];apply cx (gI ((j+1:Nat):Int)) wb (by simp[go_sem];rw[wI_]);refine hKN _ _ ⟨j+1,sl,qZ,rfl,?_,N.trans Mb,t3⟩ u
   have e:s (L.take (j+1))=s (L.take j):=by
    show(L.take (j+1)).filter _=_;rw[htk,dJ,cY (p:=λo:Od=>o.buy==d) (by rw[hbl];simp),iz,ew]
   rw[e];exact tb
 ·obtain rfl:j=L.length:=qZ;refine qSf0 ?_;rw[cN]at t1;obtain⟨O,M⟩:=dW (s L);rw[<-M]at t1;have G:∀o∈O,o∈S.bd k.spec.num:=λo ho=>by grind
  have hSLl:O.length<=50:=by grind
  refine RB (l:=O) (sells:=d) (qty:=qty) t1.rd qZ (λo ho=>(n.ord.std _ o (vk (G o ho))).fit) (by grind) λsf w3 o3 m3 n3=>?_;obtain⟨X,hX⟩:=dW (pG d qty O)
  have m:S.sell k a q r=if X.2.2≠0 then(X.2.2,r,S)else Et k a d X.1 qty X.2.1 r S:=by
   rw[T5,hX,M,hL];simp only[s,t,I]
  obtain⟨f1,f2,f3⟩:=Dn (sells:=d) (qty:=qty) (l:=O) (λo ho=>n.ord.bdMay _ o (G o ho)) qZ;have Z:=R3 d qty O;rw[<-hX]at o3 f1 f2 Z|-;refine qS0 ?_;refine qS0 ?_;refine qS0 ?_;have M3:M0 w w3:=(M2.trans N).trans m3;have R:=N.trans m3;have h3:=h.md0 M3;have r3:=hr.mod M3 id eQ;by_cases C:X.2.2≠0
  ·rw[bZ C]at m;refine qSt1 C ?_;rw[m]at hK;exact hK D fp sT w3 h3 r3 (M3.to) (λy g=>.inl g) (λy g=>.inl g) ⟨⟨⟨hb.1.1.1,by grind⟩,hb.1.2.1,by grind⟩,by grind⟩
  rw[aZ C]at m;have hX0:X.2.2=0:=by simpa using C
  refine qSf1 hX0 ?_;obtain⟨fa,fc,hfs,-⟩:=o3.isSl;apply jm (gI (X.2.1.length:Int)) w3 (by rw[hfs];simp[go_sem]);have hfpw:∀{y},dY fp y->y<w.heap.size:=λ⟨pt,g⟩=>h.lt g;have hsTw:∀{y},cK sT y->y<w.heap.size:=λg=>hr.own.lt g;have z:∀{y},w.heap.size<=y->¬dY fp y/\y≠p/\¬cK sT y:=λg=>⟨λhc=>by grind,qZ,λhc=>by grind⟩
  have hs3:=M3.size
  refine IR h3 n T hn (R.hpk k2 id) (R.hpk b2 id) r3 (z qZ) (z qZ) hpf qZ o3 (λy g=>z (by grind)) qZ Z
   (f2 ((n.ord.bdNd k.spec.num).sublist (by rw[M,<-hL];exact jv.map _))) (λf hf=>⟨(f1 f hf).1,?_⟩) hb λD' B E Q Y hY a1 a2 a3 a4 a5 a6=>?_
  ·grind
  ·rw[m,<-hY]at hK;exact hK D' B E Q a1 a2 ((M3.to).trans a3) (λy g=>(a4 y g).imp id λh' =>qZ) (λy g=>(a5 y g).imp id λh' =>qZ) a6
end
def DP{a:Ac}(h:lw w v F S)(hok:S.Ok)(hK:AK w v F (S.liquidate a) K):Ca pQ 97 #[eY v,oz a] w K:=by
 obtain⟨c,l,mb,md,A,D,fp,hr,hF⟩:=h;apply aE1;obtain⟨P,hn0⟩:=dW w.heap.size
 have hlay:∃w2,(w.alloc (.cells #[eY v] 39)).alloc (.cells (dH a).toArray Gv)=w2/\w2.heap.size=P+2/\M0 w w2/\hC w2 P #[eY v] 39/\hC w2 (P+1) (dH a).toArray Gv:=by
  refine⟨_,rfl,by simp[go_sem,hn0],lm.alloc _,?_,?_⟩<;>simp[go_sem,hn0]
 obtain⟨w2,hw2,hsz2,m2,b1,b2⟩:=hlay;apply cx (pt P 0) (w.alloc (.cells #[eY v] 39)) (by rw[hn0];rfl);apply cx (pt (P+1) 0) w2 (by rw[<-hw2];simp[go_sem,hn0,oz,dH]);clear hw2;obtain⟨w3,e3,b3,m3⟩:=qy w2;apply cI e3;obtain⟨p,hp0⟩:=dW (P+2);rw[hsz2,<-hp0]at b3|-;obtain⟨w4,e4,b4,m4⟩:=U1 w3;apply cI e4;obtain⟨j,he6⟩:=dW w3.heap.size;rw[<-he6]at b4|-;have hpe:p<j:=by have:=cB b3;omega
 have M4:=(m2.trans m3).trans m4;have h4:=hr.md0 M4;have g0:=m4.hpk (m3.hpk b1 id) id;have ga:=m4.hpk (m3.hpk b2 id) id;have gp:=m4.hpk b3 id;have ga' :=ga;unfold dH at ga';have hfl:∀pt x,fp pt x->x<P:=λpt x Z=>by rw[hn0];exact hr.lt Z
 have L:∀x,dY fp x->x<P:=λx ⟨pt,Z⟩=>hfl pt x Z;have hFa:∀x,dY fp x↔F x:=λx=>(hF x).symm;have lv0:∀{W},hC W P #[eY v] 39->(iL 39 (pt P 0)).run pQ W=.ok (eY v) W:=λhW=>by simp[go_sem,hW,eY]
 have hse6:=cB b4;have B:S.liquidate a=if a.dfl=false then(162,zRp,S)else sellL a.num S.cal.l zRp S:=rfl
 have R:∀e r T J g n W ds,S.liquidate a=(e,r,T)->ik W v c l mb md A J g T->B5 W p n r (j+1) (dY g)->yE W j e->de (dY fp) w W->(∀y,dY g y->(dY fp y\/j<y)/\y ∉ ds)->(∀y,cK n y->y ∉ ds)->ds.Nodup->(∀d∈ds,hp W d=some (.deferred (some []))/\j<d)->
   lj ds W λw83=>uc pQ (iL lx (pt p 0)) w83 λv84=>uc pQ (iL 43 (pt j 0)) w83 λv85=>K (.tuple #[v84,v85]) w83:=by
  intro e r T J g n W ds he a1 b er m hup hds hnd hdW;refine Nk hnd (λd hd=>(hdW d hd).1) λz m' =>?_;have hdq:∀d∈ds,j<d:=λd hd=>(hdW d hd).2;refine dp (lB (m'.hpk b.at_ λt=>by grind)) (dp (B4 (m'.hpk er λt=>by grind)) ?_);have bq:=b.q;refine hK.tell (F' :=dY g) he (a1.mod m' λpt y f t=>(hup y ⟨pt,f⟩).2 t).q (bq.mod m' λy f t=>?_) ((m.mono λy _ f=>(hFa y).1 f).on m' λy f=>.inr (by grind)) (λy f=>(hup y f).1.imp (hFa y).1 λo=>qZ) λy f=>?_
  ·rcases f with f|f|f
   ·exact hds y f t
   ·cases f
   ·cases f
  ·rcases f with f|f|f
   ·exact⟨by have:=(b.nw y f).1;omega,(b.nw y f).2.2⟩
   ·cases f
   ·cases f
 have setR:∀e0 e r T J g n W,ik W v c l mb md A J g T->B5 W p n r (j+1) (dY g)->yE W j e0->(∀y,dY g y->y≠p/\y≠j)->∀K2,(∀z,ik z v c l mb md A J g T->B5 z p n r (j+1) (dY g)->yE z j e->de (λy=>y=p\/y=j) W z->K2 z)->
   ∃W1,(iS lx (pt p 0) (ud r n dv dv)).run pQ W=.ok () W1/\yE W1 j e0/\ru pQ (iS 43 (pt j 0) (gI e)) W1 K2:=by
  intro e0 e r T J g n W a1 b er hup K2 hk;obtain⟨sa,sc,hs,-⟩:=b.own.isSl;obtain⟨W1,f1,x1,y1⟩:=pl (r:=r) b.at_ rfl ⟨⟨_,_,_,hs⟩,gJ,gJ⟩;have er1:=y1.hpk er qZ;obtain⟨W2,f2,x2,y2⟩:=Hb e er1;refine⟨W1,f1,er1,ir f2 (hk W2 ((a1.mod y1 λpt y f e=>(hup y ⟨pt,f⟩).1 e).mod y2 λpt y f e=>(hup y ⟨pt,f⟩).2 e) ⟨y2.hpk x1 qZ,(b.own.mod y1 λy f e=>(b.nw y f).2.1 e).mod y2 λy f e=>by have:=(b.nw y f).1;omega,b.g0,b.a0,b.nw⟩ x2 ((y1.mono λy _ f=>.inl f).trans (y2.mono λy _ f=>.inr f)))⟩
 have rt0:∀{W},hC W p (mC zRp dv dv dv).toArray lx->B5 W p dv zRp (j+1) (dY fp):=λhW=>⟨hW,jo.nil _ _ _,rfl,rfl,λy f=>(by cases f)⟩
 have hupfp:∀y,dY fp y->y≠p/\y≠j:=λy f=>by grind
 refine cx (pt (P+1) 3) w4 (by simp[go_sem]) (cx (.bool a.dfl) w4 (by simp[go_sem,ga']) ?_);refine qS0 ?_;cases hdf:a.dfl with
 |false=>
  rw[hdf,bZ rfl]at B;rw[show(!false)=true from rfl,cy,bZ rfl];apply cI (lB gp);obtain⟨W1,f1,x1,k1⟩:=setR 0 162 zRp S D fp dv w4 h4 (rt0 gp) b4 hupfp _ λz v' r' e' m' =>R 162 zRp S D fp dv z [] B v' r' e' ((M4.to (G:=dY fp)).on m' λy f=>gz) (λy f=>⟨.inl f,by simp⟩) (λy f=>(by cases f)) (by simp) (by simp);exact ir f1 k1
 |true=>
  rw[hdf,aZ (by simp)]at B;rw[show(!true)=false from rfl,cy,aZ gL];apply cI (lv0 g0);simp only[eY,dr];refine cI (jk 0 qZ _) (cI (EQ _ h4.blk) ?_);refine zq h4.cal λgv w5 ht m5=>?_;have h5:=h4.md0 m5;have k0:=m5.hpk g0 id;have ka:=m5.hpk ga' id;have kp:=m5.hpk gp id;have ke:=m5.hpk b4 id;have M5:=M4.trans m5;have hs5:=m5.size;let BD:Rp->Nat->Prop:=λr i=>((0<=r.left/\r.left<=640000000*i)/\0<=r.filled/\r.filled<=50000000*i)/\r.trades.length<=114*i;let XX:(Nat->Prop)->(Pt->Nat->Prop)->Value->Prop:=λX g n=>(∀y,X y↔dY g y\/y=p\/y=j\/cK n y)/\(∀y,dY g y->dY fp y\/j<y)/\(∀y,cK n y->j<y)
  let I:(Nat->Prop)->Nat->World->Prop:=λX i W=>∃(J:List (Int×Value)) (g:Pt->Nat->Prop) (n:Vt_) (r:Rp) (u:Ven),ik W v c l mb md A J g u/\B5 W p n r (j+1) (dY g)/\yE W j 0/\XX X g n/\sellL a.num (S.cal.l.drop i) r u=sellL a.num S.cal.l zRp S/\u.Ok/\u.cal=S.cal/\BD r i;let Ex:Code->(Nat->Prop)->World->Prop:=λcc X W=>∃(J:List (Int×Value)) (g:Pt->Nat->Prop) (n:Vt_) (e:Int) (r:Rp) (u:Ven),cc=.ret/\ik W v c l mb md A J g u/\B5 W p n r (j+1) (dY g)/\yE W j e/\XX X g n/\sellL a.num S.cal.l zRp S=(e,r,u)
  have hX0n:∀{y},(y=P\/y=P+1)->¬(dY fp y\/y=p\/y=j):=λf t=>by
   rcases t with t|t|t
   ·have:=L _ t;omega
   ·omega
   ·omega
  have hcl:=hok.cal.len
  delta UT
  refine CX (X0:=λy=>dY fp y\/y=p\/y=j) (fv:=λk:Ct=>.agg (fI k).toArray) (asg:=λx W K=>rx pQ (nE oT) W λv w1=>nj pQ (jH oT v x) w1 λw2=>K v w2) (Pv:=AR oT fI) (xs:=S.cal.l) ht Ar wQ I Ex ?_ ?_ (λx Z=>?_) ⟨D,fp,dv,zRp,S,h5,rt0 kp,ke,⟨λy=>⟨λf=>f.imp id λh=>h.imp id .inl,λf=>f.imp id λh=>h.imp id λh=>h.elim id λh=>by cases h⟩,λy f=>.inl f,λy f=>(by cases f)⟩,rfl,hok,rfl,⟨⟨⟨by show(0:Int)<=0;omega,by show(0:Int)<=_;omega⟩,by show(0:Int)<=0;omega,by show(0:Int)<=_;omega⟩,by show 0<=_;omega⟩⟩ ?_ ?_ ?_
  ·rintro X i W z H ⟨J,g,n,r,u,i1,i2,i3,s,O,i6,i7,i8⟩ hm U;exact⟨J,g,n,r,u,i1.mod hm λpt y f=>U y ((s.1 y).2 (.inl ⟨pt,f⟩)),i2.mod hm (U _ ((s.1 _).2 (.inr (.inl rfl)))) λy f=>U y ((s.1 y).2 (.inr (.inr (.inr f)))),hm.hpk i3 (U _ ((s.1 _).2 (.inr (.inr (.inl rfl))))),s,O,i6,i7,i8⟩
  ·rintro cc X W z H ⟨J,g,n,e,r,u,i0,i1,i2,i3,s,O⟩ hm U;exact⟨J,g,n,e,r,u,i0,i1.mod hm λpt y f=>U y ((s.1 y).2 (.inl ⟨pt,f⟩)),i2.mod hm (U _ ((s.1 _).2 (.inr (.inl rfl)))) λy f=>U y ((s.1 y).2 (.inr (.inr (.inr f)))),hm.hpk i3 (U _ ((s.1 _).2 (.inr (.inr (.inl rfl))))),s,O⟩
  ·rcases Z with Z|Z|Z
   ·have:=L x Z;omega
   ·omega
   ·omega
  ·rintro X i hi W qk vv ⟨J,g,n,r,u,i1,i2,i3,s,O,i6,i7,i8⟩ mW U hdq hqW ⟨rfl,zgq⟩ ⟨rec0,hrec⟩ KN KJ hKN hKJ;have f0:=mW.hpk k0 (hX0n (.inl rfl));have fa:=mW.hpk ka (hX0n (.inr rfl));obtain⟨k,hk⟩:=dW (S.cal.l[i]);have hk' :=hk;rw[<-hk']at zgq;have hdrop:S.cal.l.drop i=k::S.cal.l.drop (i+1):=by rw[hk];exact fF hi
   rw[hdrop]at O;have hXs:∀b,X b->b<W.heap.size:=λb hb=>by grind
   have hXself:∀{z:Wt_},W.heap.size<=z.heap.size->∀b,X b->(X b\/W.heap.size<=b)/\b<z.heap.size:=λhle b hb=>⟨.inl hb,by grind⟩
   have hi16:i<16:=by grind
   obtain⟨Q,hQ⟩:=dW (u.led.position k.spec.num a.num);have N:M0 W W.drew:=mP;have h6:=i1.md0 N;have r6:=i2.mod N id eQ;have e6' :=N.hpk i3 id;have c0:=N.hpk f0 id;have ca:=N.hpk fa id;have cq:=N.hpk zgq id;have hs6:W.drew.heap.size=W.heap.size:=rfl
   try dsimp only
   generalize W.drew=W1 at N h6 r6 e6' c0 ca cq hs6|-;apply dp (lv0 c0);simp only[eY,dr];refine dw (jk 1 qZ) (dp (ld1 _ h6.blk) ?_);refine qP0 ?_;refine qP0 ?_;refine qW2 cq G9 ?_;refine qPv0 (pt (P+1) 0) (qWv1 (gU a.num) ca ?_);refine rK h6.led λW2 m2=>?_;rw[<-hQ];apply dw (Vi Q);have MW2:=N.trans m2;have h7:=h6.md0 m2;have r7:=r6.mod m2 id eQ;have e7:=m2.hpk e6' id;have d0:=m2.hpk c0 id;have da:=m2.hpk ca id;have dq:=m2.hpk cq id;have hs7:=m2.size;by_cases hQ0:Q.q=0
   ·refine qSf1 hQ0 ?_
    have e5:sellL a.num (k::S.cal.l.drop (i+1)) r u=sellL a.num (S.cal.l.drop (i+1)) r u:=by
     rw[sellL];simp only;rw[<-hQ,bZ hQ0]
    rw[e5]at O;refine hKN X W2 ⟨J,g,n,r,u,h7,r7,e7,s,O,i6,i7,⟨⟨⟨i8.1.1.1,?_⟩,i8.1.2.1,?_⟩,?_⟩⟩ (MW2.to) (hXself MW2.size)
    ·grind
    ·have:=i8.1.2.2;push_cast;omega
    ·have:=i8.2;omega
   ·refine qSt1 hQ0 ?_;apply cI (lv0 d0);apply jq (fI k) 26 ME yV (eE k) (At.all dq);refine cx (pt (P+1) 0) W2 (by simp[go_sem]) (cx (gU a.num) W2 (by simp[go_sem,da]) ?_);have hal:ex u.cal.l k.spec.num=0:=EW i6 (a:=a.num) (by grind)
    have hpf' :¬dY g p:=λt=>by
      rcases s.2.1 p t with o|o
      ·have:=L p o;omega
      ·omega
    have hpe' :¬dY g j:=λt=>by
      rcases s.2.1 j t with o|o
      ·grind
      ·omega
    have hseW:=cB i3;have hqb:=Hf i6.led.led k.spec.num a.num;rw[<-hQ]at hqb;refine O1 h7 i6 hal hqb r7 hpf' qZ ⟨⟨⟨i8.1.1.1,by grind⟩,i8.1.2.1,by grind⟩,by have:=i8.2;omega⟩ λD2 C E W3 v3 r3 m3' u3 t3 bd3=>?_;obtain⟨Y,hY⟩:=dW (u.sell k a.num Q.q r);have hsok:=LD i6 (k:=k) (a:=a.num) (q:=Q.q) (r:=r) hal;rw[<-hY]at v3 r3 bd3 hsok|-
    have hsl:sellL a.num (k::S.cal.l.drop (i+1)) r u=if Y.1≠0 then Y else sellL a.num (S.cal.l.drop (i+1)) Y.2.1 Y.2.2:=by
     rw[sellL];simp only;rw[<-hQ,aZ hQ0,<-hY]
    rw[hsl]at O;have hs3:=m3'.size
    have e3' :=m3'.hpk e7 λt=>by
     rcases t with t|t|t
     ·exact hpe' t
     ·omega
     ·grind
    obtain⟨W4,f4,x4,m4'⟩:=Hb Y.1 e3';refine ir f4 (cI (B4 x4) ?_)
    have V:∀y,dY C y->(X y\/W.heap.size<=y)/\(dY fp y\/j<y)/\y≠p/\y≠j:=λy f=>by
     rcases u3 y f with o|o
     ·have h2:=s.2.1 y o;refine⟨.inl ((s.1 y).2 (.inl o)),h2,?_,?_⟩
      ·rcases h2 with h2|h2
       ·have:=L y h2;omega
       ·omega
      ·rcases h2 with h2|h2
       ·have:=L y h2;omega
       ·omega
     ·grind
    have hst2:∀y,cK E y->(X y\/W.heap.size<=y)/\j<y:=λy f=>by
     rcases t3 y f with o|o
     ·grind
     ·grind
    have v4:=v3.mod m4' λpt y f e=>(V y ⟨pt,f⟩).2.2.2 e;have r4:=r3.mod m4' qZ λy f e=>by grind
    have hXe6:=(s.1 j).2 (.inr (.inr (.inl rfl)));have hXp:=(s.1 p).2 (.inr (.inl rfl));have MX4:=(MW2.to).trans ((m3'.mono λy _ f=>(s.1 y).2 (f.imp id λh=>h.imp id .inr)).trans (m4'.mono λy _ f=>by rw[f];exact hXe6))
    have hX' :∀sT' z,(∀y,cK sT' y->(X y\/W.heap.size<=y))->ik z v c l mb md A D2 C Y.2.2->B5 z p sT' Y.2.1 (j+1) (dY C)->j<z.heap.size->∀b,(dY C b\/b=p\/b=j\/cK sT' b)->(X b\/W.heap.size<=b)/\b<z.heap.size:=by
     intro sT' z hs a1 a2 a3 b hb;rcases hb with hb|hb|hb|hb
     ·obtain⟨pt,hpt⟩:=hb;exact⟨(V b ⟨pt,hpt⟩).1,a1.lt hpt⟩
     ·grind
     ·grind
     ·exact⟨hs b hb,a2.own.lt hb⟩
    have hXX:XX (λb=>dY C b\/b=p\/b=j\/cK E b) C E:=⟨λy=>fd,λy f=>(V y f).2.1,λy f=>(hst2 y f).2⟩
    by_cases hYe:Y.1≠0
    ·rw[bZ hYe]at O;refine qSt1 hYe ?_;have M:M0 W4 W4.drew:=mP;have v5:=v4.md0 M;have r5:=r4.mod M id eQ;have x5:=M.hpk x4 id;have MX5:=MX4.trans (M.to (G:=X))
     try dsimp only
     generalize W4.drew=W5 at M v5 r5 x5 MX5|-;refine dp (lB r5.at_) (dp (B4 x5) ?_)
     obtain⟨W6,f6,x6,k6⟩:=setR Y.1 Y.1 Y.2.1 Y.2.2 D2 C E W5 v5 r5 x5 (λy f=>(V y f).2.2) _ λz v' r' e' m' =>hKJ .ret (λb=>dY C b\/b=p\/b=j\/cK E b) z ⟨D2,C,E,Y.1,Y.2.1,Y.2.2,rfl,v',r',e',hXX,O.symm⟩ (MX5.trans (m'.mono λy _ f=>by
      rcases f with f|f
      ·rw[f];exact hXp
      ·rw[f];exact hXe6)) (hX' E z (λy f=>(hst2 y f).1) v' r' (cB e'))
     exact ir f6 ⟨B4 x6,k6⟩
    ·rw[aZ hYe]at O;have hY0:Y.1=0:=by simpa using hYe
     refine qSf1 hY0 ?_;rw[hY0]at x4;refine hKN (λb=>dY C b\/b=p\/b=j\/cK E b) W4 ⟨D2,C,E,Y.2.1,Y.2.2,v4,r4,x4,hXX,O,hsok.1,hsok.2.1.trans i7,⟨⟨⟨bd3.1.1.1,?_⟩,bd3.1.2.1,?_⟩,?_⟩⟩ MX4 (hX' E W4 (λy f=>(hst2 y f).1) v4 r4 (cB x4))
     ·grind
     ·grind
     ·grind
  ·rintro X W d hd ⟨J,g,n,r,u,i1,i2,i3,s,O,i6,i7,i8⟩ mW hdef U
   have i5' :sellL a.num S.cal.l zRp S=(0,r,u):=by
    have e:=O;rw[lv]at e;rw[<-e];rfl
   rw[i5']at B;have hdd:j<d:=qZ
   have hXd:¬X d:=λt=>by
    rcases(U d t).2 with o|o
    ·rcases o with o|o|o
     ·have:=L _ o;omega
     ·omega
     ·omega
    ·omega
   have MW:=(M5.to (G:=dY fp)).on mW λy f=>by
    rcases f with f|f|f
    ·exact .inl f
    ·exact gz
    ·exact gz
   have hupq:∀y,dY g y->y≠p/\y≠j:=λy f=>by
    rcases s.2.1 y f with o|o
    ·have:=L y o;omega
    ·omega
   unfold OG;simp only[iJ];apply cI (lB i2.at_);obtain⟨W1,f1,x1,k1⟩:=setR 0 0 r u J g n W i1 i2 i3 hupq _ λz v' r' e' m' =>R 0 r u J g n z [d] B v' r' e' (MW.on m' λy f=>gz) (λy f=>⟨s.2.1 y f,by grind⟩) (λy f=>by grind) (by simp) (λx Z=>by rw[eK.1 Z];exact⟨m'.hpk hdef qZ,hdd⟩);exact ir f1 k1
  ·rintro cc X W d hd ⟨J,g,n,e,r,u,rfl,i1,i2,i3,s,O⟩ mW hdef U;rw[O]at B;have hdd:j<d:=qZ
   have hXd:¬X d:=λt=>by
    rcases(U d t).2 with o|o
    ·rcases o with o|o|o
     ·have:=L _ o;omega
     ·omega
     ·omega
    ·omega
   have MW:=(M5.to (G:=dY fp)).on mW λy f=>by
    rcases f with f|f|f
    ·exact .inl f
    ·exact gz
    ·exact gz
   unfold OG;simp only[iJ];exact R e r u J g n W [d] B i1 i2 i3 MW (λy f=>⟨s.2.1 y f,by grind⟩) (λy f=>by grind) (by simp) (λx Z=>by grind)
def yA:lT pQ om=cmC zCm:=cU
def NT:se pQ om=true:=cU
def td(W:Wt_):(iF om (pt p 0) 0).run pQ W=.ok (pt p 0) W:=by simp[go_sem]
def Nj(W:Wt_):(iF om (pt p 0) 5).run pQ W=.ok (pt p 5) W:=by simp[go_sem]
def sH(h:iy W p c):(iL 22 (pt p 0)).run pQ W=.ok (gB c.kind) W:=by simp[go_sem,h,ZV]
def Q1(h:iy W p c):At W p 5 (jA c.spec):=by
 have:=(At.all h).sub 5 25 (by rw[ni];omega)
 have e:((cmC c).drop 5).take 25=jA c.spec:=by
  show(jA c.spec++_).take 25=_;rw[<-dP c.spec,fN]
 rw[e]at this;exact this
def B8(c:Cm)(i:Nat)(v:Vt_):(cmC c).set (30+i) v=[.int .u8 c.kind,gU c.acct,gU c.ct,gQ c.num,gI c.amt]++(jA c.spec++([.bool c.on,.bool c.buy,gB c.ty,gI c.price,gI c.qty]:LV_).set i v):=by
 unfold cmC;rw[gh _ _ (by show 5<=30+i;omega),gh _ _ (by rw[dP];show 25<=30+i - 5;omega),dP];have:30+i - [Value.int .u8 c.kind,gU c.acct,gU c.ct,gQ c.num,gI c.amt].length - 25=i:=by grind
 rw[this]
def Jt(x:Int)(h:iy W p c):∃a,(iS 23 (pt p 1) (gU x)).run pQ W=.ok () a/\iy a p {c with acct:=x}/\de (λb=>b=p) W a:=by
 refine⟨W.setCell ⟨p,1,none⟩ (gU x),by simp[go_sem,h,cm1],?_,(de.refl (λb=>b=p) W).sc⟩;show hp _ p=_;rw[nO,bZ rfl,h,iK,ed];congr 3
def SA(x:Int)(h:iy W p c):∃a,(iS 23 (pt p 2) (gU x)).run pQ W=.ok () a/\iy a p {c with ct:=x}/\de (λb=>b=p) W a:=by
 refine⟨W.setCell ⟨p,2,none⟩ (gU x),by simp[go_sem,h,cm2],?_,(de.refl (λb=>b=p) W).sc⟩;show hp _ p=_;rw[nO,bZ rfl,h,iK,ed];congr 3
def Yy(x:Int)(h:iy W p c):∃a,(iS 24 (pt p 3) (gQ x)).run pQ W=.ok () a/\iy a p {c with num:=x}/\de (λb=>b=p) W a:=by
 refine⟨W.setCell ⟨p,3,none⟩ (gQ x),by simp[go_sem,h,cm3],?_,(de.refl (λb=>b=p) W).sc⟩;show hp _ p=_;rw[nO,bZ rfl,h,iK,ed];congr 3
def ai5(x:Int)(h:iy W p c):∃a,(iS 2 (pt p 4) (gI x)).run pQ W=.ok () a/\iy a p {c with amt:=x}/\de (λb=>b=p) W a:=by
 refine⟨W.setCell ⟨p,4,none⟩ (gI x),by simp[go_sem,h,cm4],?_,(de.refl (λb=>b=p) W).sc⟩;show hp _ p=_;rw[nO,bZ rfl,h,iK,ed];congr 3
def Yo(x:Bool)(h:iy W p c):∃a,(iS 4 (pt p 30) (.bool x)).run pQ W=.ok () a/\iy a p {c with on:=x}/\de (λb=>b=p) W a:=by
 refine⟨W.setCell ⟨p,30,none⟩ (.bool x),by simp[go_sem,h,SJ],?_,(de.refl (λb=>b=p) W).sc⟩;show hp _ p=_;rw[nO,bZ rfl,h,iK,ed];congr 3;rw[show 30=30+0 from rfl,B8];rfl
def aB7(x:Bool)(h:iy W p c):∃a,(iS 4 (pt p 31) (.bool x)).run pQ W=.ok () a/\iy a p {c with buy:=x}/\de (λb=>b=p) W a:=by
 refine⟨W.setCell ⟨p,31,none⟩ (.bool x),by simp[go_sem,h,S4],?_,(de.refl (λb=>b=p) W).sc⟩;show hp _ p=_;rw[nO,bZ rfl,h,iK,ed];congr 3;rw[show 31=30+1 from rfl,B8];rfl
def YF(x:Int)(h:iy W p c):∃a,(iS 2 (pt p 33) (gI x)).run pQ W=.ok () a/\iy a p {c with price:=x}/\de (λb=>b=p) W a:=by
 refine⟨W.setCell ⟨p,33,none⟩ (gI x),by simp[go_sem,h,TT],?_,(de.refl (λb=>b=p) W).sc⟩;show hp _ p=_;rw[nO,bZ rfl,h,iK,ed];congr 3;rw[show 33=30+3 from rfl,B8];rfl
def US(x:Int)(h:iy W p c):∃a,(iS 2 (pt p 34) (gI x)).run pQ W=.ok () a/\iy a p {c with qty:=x}/\de (λb=>b=p) W a:=by
 refine⟨W.setCell ⟨p,34,none⟩ (gI x),by simp[go_sem,h,TC],?_,(de.refl (λb=>b=p) W).sc⟩;show hp _ p=_;rw[nO,bZ rfl,h,iK,ed];congr 3;rw[show 34=30+4 from rfl,B8];rfl
def ac2{K:World->Prop}(s:Sp)(h:iy W p c)(g:∀a,iy a p {c with spec:=s}->de (λb=>b=p) W a->K a):nj pQ (jH 27 (pt p 5) (.agg (jA s).toArray)) W K:=by
 refine uH Cc (dP s) h (by rw[eT,ni,dP];omega) (xS s) (g _ ?_ ((de.refl (λb=>b=p) W).setRow (.inl rfl) _));show hp _ p=_
 have e:mh (cmC c).toArray.toList 5 (jA s)=cmC {c with spec:=s}:=by
  show mh (cmC c) 5 (jA s)=_
  have d:(cmC c).drop (5+(jA s).length)=[.bool c.on,.bool c.buy,gB c.ty,gI c.price,gI c.qty]:=by
   rw[dP,<-dP c.spec,<-eN];show(jA c.spec++_).drop _=_;rw[fj]
  unfold mh;rw[d];rfl
 have i:hC (W.setRow p (mh (cmC c).toArray.toList 5 (jA s)).toArray) p (mh (cmC c).toArray.toList 5 (jA s)).toArray om:=by
  show(W.setRow p _).heap[p]? =_;have f:W.heap[p]? =some (.cells (cmC c).toArray om (0,0)):=h;rw[ij,bZ rfl,f]
 rw[i,e]
def OS{K:World->Prop}(d:Cm)(h:iy W p c)(f:∀a,iy a p d->de (λb=>b=p) W a->K a):nj pQ (jH om (pt p 0) (vI d)) W K:=by
 refine uH nCm (ni d) h (by rw[eT,ni,ni];omega) (Ky d) (f _ ?_ ((de.refl (λb=>b=p) W).setRow (.inl rfl) _));show hp _ p=_
 have g:hC (W.setRow p (mh (cmC c).toArray.toList 0 (cmC d)).toArray) p (mh (cmC c).toArray.toList 0 (cmC d)).toArray om:=by
  show(W.setRow p _).heap[p]? =_;have e:W.heap[p]? =some (.cells (cmC c).toArray om (0,0)):=h;rw[ij,bZ rfl,e]
 rw[g,tp (by show(cmC d).length=(cmC c).length;rw[ni,ni])]
def UL(b:∀a,iy a W.heap.size zCm->M0 W a->K (pt W.heap.size 0) a):rx pQ (nE om) W K:=by
 apply rg NT;rw[yA];exact b _ (by show hp _ _=_;simp[go_sem]) lm
def Ta(k:Int):Tryz.prog.built om [(0,gB k)]=some (cmC {zCm with kind:=k}).toArray:=by
 have b:∀a,Tryz.prog.built om a=Instr.fill (λi=>#[(0,1),(1,1),(2,1),(3,1),(4,1),(5,25),(30,1),(31,1),(32,1),(33,1),(34,1)][i]?) (lT pQ om).toArray a:=λa=>by kernel_rfl
 rw[b,yA];rw[uz (off:=0) (size:=1) rfl rfl (by rw[ni];omega),Dj];rfl
def Sn:Tryz.prog.built 27 []=some (jA II).toArray:=cU
structure BS(p z q:Nat)(x:Cm)(w0 W:Wt_)(b:Cm):Prop where
 fp:iy W p x
 fz:iy W z zCm
 fq:iy W q b
 fm:de (λy=>y=z\/y=q) w0 W
def BS.set{z q:Nat}{b d:Cm}{f:Wt_}{s:Sem Unit}{K:World->Prop}(h:BS p z q x f W b)(g:p≠q/\z≠q)(k:∃a,s.run pQ W=.ok () a/\iy a q d/\de (λy=>y=q) W a)(i:∀a,BS p z q x f a d->K a):ru pQ s W K:=by
 obtain⟨a,e,c,m⟩:=k;exact ir e (i a ⟨m.hpk h.fp g.1,m.hpk h.fz g.2,c,h.fm.trans (m.mono λy _ j=>.inr j)⟩)
def BS.drew{z q:Nat}{b:Cm}{a:Wt_}(h:BS p z q x a W b):BS p z q x a W.drew b:=by
 have m:M0 W W.drew:=mP;exact⟨m.hpk h.fp id,m.hpk h.fz id,m.hpk h.fq id,h.fm.trans (m.to)⟩
set_option maxRecDepth 10000 in
set_option maxHeartbeats 4000000 in
def Uc(hK:∀w',M0 w w' ->K (vI x.bare) w'):Ca pQ 80 #[vI x] w K:=by
 apply az7;obtain⟨w1,e1,J,m1⟩:=uT x w;apply cI e1;obtain⟨p,hp0⟩:=dW w.heap.size;rw[<-hp0]at J|-;refine UL λw2 Q m2=>?_;obtain⟨z,Z⟩:=dW w1.heap.size;rw[<-Z]at Q|-;have V:iy w2 p x:=m2.hpk J id;refine cI (td _) (cI (sH V) ?_);apply lL (Ta x.kind);refine UL λw3 T M=>?_;obtain⟨q,hq0⟩:=dW w2.heap.size;rw[<-hq0]at T|-;have hpz:p<z:=by have:=cB J;omega
 have hzq:z<q:=by have:=cB Q;omega
 refine OS {zCm with kind:=x.kind} T λg G I=>?_;have t:iy g p x:=I.hpk (M.hpk V id) qZ;have U:iy g z zCm:=I.hpk (M.hpk Q id) qZ;have M4:de (λy=>y=z\/y=q) w g:=(((m1.trans m2).trans M).to).trans (I.mono λy _ r=>.inr r);clear J Q T V e1 m1 m2 M I;refine cI (td _) (cI (sH t) ?_)
 have fin:∀(b:Cm) (W:Wt_),x.bare=b->BS p z q x g W b->rx pQ (fH om (pt q 0)) W λS w33=>nj pQ (jH om (pt z 0) S) w33 λC=>pS pQ (fH om (pt z 0)) C λX=>K X C:=by
  intro b W hb h;have B:=h.fq;have h2:=h.fz;have hm:=h.fm;apply iW (vm B);refine OS b h2 λW2 a2 n2=>?_;apply li (vm a2);rw[<-hb];exact hK W2 ((de.refl (λ_=>False) w).on ((M4.trans hm).trans (n2.mono λy _ r=>.inl r)) λy r=>.inr (by grind))
 have e:p≠q/\z≠q:=⟨qZ,qZ⟩
 have k:BS p z q x g g {zCm with kind:=x.kind}:=⟨t,U,G,lX⟩
 refine dK.at (λst W=>st=(.bool (decide (x.kind=1\/x.kind=2)),())/\g=W) ?_ ?_
 ·by_cases B:x.kind=1
  ·apply qSv1 (.bool true) B;rw[kx];exact⟨by simp[B],rfl⟩
  ·apply qSv1 (.bool false) B;rw[gP];apply cx (.bool (decide (x.kind=2))) g (by simp[go_sem];rfl);exact⟨by simp[B],rfl⟩
 rintro _ _ ⟨rfl,rfl⟩;unfold WX;intro _;by_cases A:x.kind=1\/x.kind=2
 ·rw[qo A];have a:x.bare={zCm with kind:=x.kind,acct:=x.acct,amt:=x.amt}:=by rcases A with h|h<;>simp[Cm.bare,h]
  have c:=k.drew
  try dsimp only
  generalize g.drew=v at c|-;exact dw pM (dp (rk c.fp) (dw JB (dp (Nx c.fp) (dw pM (c.set e (Jt x.acct c.fq) λj d=>⟨Nx d.fp,dw JB (d.set e (ai5 x.amt d.fq) λi f=>fin _ i a f)⟩)))))
 rw[cy,aZ (by grind)];by_cases H:x.kind=3
 ·apply qSv1 (.bool true) H;rw[kx];have a:x.bare={zCm with kind:=x.kind,spec:=x.spec}:=by simp[Cm.bare,H]
  apply cI (Nj _);apply jq (jA x.spec) 24 DW Cc (dP _) (Q1 t);apply cI (Nj _);refine ac2 x.spec G λj q6 D=>?_;exact fin _ j a ⟨D.hpk t e.1,D.hpk U e.2,q6,D.mono λy _ r=>.inr r⟩
 apply qSv1 (.bool false) H;rw[gP];by_cases N:x.kind=4
 ·apply qSv1 (.bool true) N;rw[kx];have a:x.bare={zCm with kind:=x.kind,ct:=x.ct,on:=x.on}:=by simp[Cm.bare,N]
  have c:=k.drew
  try dsimp only
  generalize g.drew=v at c|-;exact dw tZ (dp (sD c.fp) (dw H6 (dp (Jd c.fp) (dw tZ (c.set e (SA x.ct c.fq) λj d=>⟨Jd d.fp,dw H6 (d.set e (Yo x.on d.fq) λi f=>fin _ i a f)⟩)))))
 apply qSv1 (.bool false) N;rw[gP];by_cases L:x.kind=5
 ·apply qSv1 (.bool true) L;rw[kx];have a:x.bare={x with num:=0,amt:=0,spec:=II,on:=false}:=by simp[Cm.bare,L]
  apply iW (vm t);refine OS x G λv q5 m5=>?_;apply lL Sn;apply cI (B7 _);obtain⟨j,e6,q6,D⟩:=Yy 0 q5;refine ir e6 (cI (JB _) ?_);obtain⟨i,e7,q7,m7⟩:=ai5 0 q6;refine ir e7 (cI (Nj _) ?_);refine ac2 II q7 λw8 q8 m8=>?_;apply cI (H6 _);obtain⟨E,e9,q9,m9⟩:=Yo false q8;apply ir e9;have M9:de (λy=>y=q) g E:=(((m5.trans D).trans m7).trans m8).trans m9;exact fin _ E a ⟨M9.hpk t e.1,M9.hpk U e.2,q9,M9.mono λy _ r=>.inr r⟩
 apply qSv1 (.bool false) L;rw[gP];by_cases u:x.kind=6
 ·apply qSv1 (.bool true) u;rw[kx];have a:x.bare={zCm with kind:=x.kind,acct:=x.acct,num:=x.num}:=by simp[Cm.bare,u]
  have c:=k.drew
  try dsimp only
  generalize g.drew=v at c|-;exact dw pM (dp (rk c.fp) (dw B7 (dp (BV c.fp) (dw pM (c.set e (Jt x.acct c.fq) λj d=>⟨BV d.fp,dw B7 (d.set e (Yy x.num d.fq) λi f=>fin _ i a f)⟩)))))
 apply qSv1 (.bool false) u;rw[gP];by_cases P:x.kind=7
 ·apply qSv1 (.bool true) P;rw[kx];have a:x.bare={zCm with kind:=x.kind,acct:=x.acct,num:=x.num,price:=x.price,qty:=x.qty}:=by simp[Cm.bare,P]
  have c:=k.drew
  try dsimp only
  generalize g.drew=v at c|-;exact dw pM (dp (rk c.fp) (dw B7 (dp (BV c.fp) (dw DK (dp (yG c.fp) (dw yy (dp (um c.fp) (dw pM (c.set e (Jt x.acct c.fq) λj d=>⟨um d.fp,yG d.fp,BV d.fp,dw B7 (d.set e (Yy x.num d.fq) λi f=>⟨um f.fp,yG f.fp,dw DK (f.set e (YF x.price f.fq) λw8 s=>⟨um s.fp,dw yy (s.set e (US x.qty s.fq) λE F=>fin _ E a F)⟩)⟩)⟩)))))))))
 apply qSv1 (.bool false) P;rw[gP];by_cases O:x.kind=8
 ·apply qSv1 (.bool true) O;rw[kx];have a:x.bare={zCm with kind:=x.kind,acct:=x.acct,ct:=x.ct}:=by simp[Cm.bare,O]
  have c:=k.drew
  try dsimp only
  generalize g.drew=v at c|-;exact dw pM (dp (rk c.fp) (dw tZ (dp (sD c.fp) (dw pM (c.set e (Jt x.acct c.fq) λj d=>⟨sD d.fp,dw tZ (d.set e (SA x.ct d.fq) λi f=>fin _ i a f)⟩)))))
 apply qSv1 (.bool false) O;rw[gP];by_cases R:x.kind=9
 ·apply qSv1 (.bool true) R;rw[kx];have a:x.bare={zCm with kind:=x.kind,acct:=x.acct,ct:=x.ct,buy:=x.buy,price:=x.price,qty:=x.qty}:=by simp[Cm.bare,R]
  have c:=k.drew
  try dsimp only
  generalize g.drew=v at c|-;exact dw pM (dp (rk c.fp) (dw tZ (dp (sD c.fp) (dw MG (dp (Jr c.fp) (dw DK (dp (yG c.fp) (dw yy (dp (um c.fp) (dw pM (c.set e (Jt x.acct c.fq) λj d=>⟨um d.fp,yG d.fp,Jr d.fp,sD d.fp,dw tZ (d.set e (SA x.ct d.fq) λi f=>⟨um f.fp,yG f.fp,Jr f.fp,dw MG (f.set e (aB7 x.buy f.fq) λw8 s=>⟨um s.fp,yG s.fp,dw DK (s.set e (YF x.price s.fq) λE F=>⟨um F.fp,dw yy (F.set e (US x.qty F.fq) λw10 Y=>fin _ w10 a Y)⟩)⟩)⟩)⟩)))))))))))
 apply qSv1 (.bool false) R;rw[gP];by_cases n:x.kind=10
 ·apply qSv1 (.bool true) n;rw[kx];have a:x.bare={zCm with kind:=x.kind,acct:=x.acct,on:=x.on}:=by simp[Cm.bare,n]
  have c:=k.drew
  try dsimp only
  generalize g.drew=v at c|-;exact dw pM (dp (rk c.fp) (dw H6 (dp (Jd c.fp) (dw pM (c.set e (Jt x.acct c.fq) λj d=>⟨Jd d.fp,dw H6 (d.set e (Yo x.on d.fq) λi f=>fin _ i a f)⟩)))))
 apply qSv1 (.bool false) n;rw[gP];by_cases o:x.kind=11
 ·apply qSv1 (.bool true) o;rw[kx];have a:x.bare={zCm with kind:=x.kind,ct:=x.ct,price:=x.price}:=by simp[Cm.bare,o]
  have c:=k.drew
  try dsimp only
  generalize g.drew=v at c|-;exact dw tZ (dp (sD c.fp) (dw DK (dp (yG c.fp) (dw tZ (c.set e (SA x.ct c.fq) λj d=>⟨yG d.fp,dw DK (d.set e (YF x.price d.fq) λi f=>fin _ i a f)⟩)))))
 apply qSv1 (.bool false) o;rw[gP];by_cases l:x.kind=13
 ·apply qSv1 (.bool true) l;rw[kx];have a:x.bare={zCm with kind:=x.kind,acct:=x.acct}:=by simp[Cm.bare,l]
  exact cI (pM _) (cI (rk t) (cI (pM _) (k.set e (Jt x.acct G) λj u=>fin _ j a u)))
 apply qSv1 (.bool false) l;rw[gP];by_cases m:x.kind=14
 ·apply qSv1 (.bool true) m;rw[kx];have a:x.bare={zCm with kind:=x.kind,ct:=x.ct}:=by simp[Cm.bare,m]
  exact cI (tZ _) (cI (sD t) (cI (tZ _) (k.set e (SA x.ct G) λj u=>fin _ j a u)))
 apply qSv1 (.bool false) m;rw[gP];have a:x.bare={zCm with kind:=x.kind}:=by simp[Cm.bare,A,H,N,L,u,P,O,R,n,o,l,m]
 exact fin _ g a k
def Bx{P:Program}{w:Wt_}{e:TypeId}(j:P.underlying e=some (.int .i64))(d:Nat)(x y:List Int)(p:x.length=y.length):∀(k i:Nat),i+k=x.length->
  (Op.eqItems (d+1) e 1 (x.map λn=>Value.int .i64 n).toArray (y.map λn=>Value.int .i64 n).toArray (List.range' i k)).run P w=.ok (decide (x.drop i=y.drop i)) w
 |0,i,h=>by
  have f:x.drop i=[]:=fg qZ;have c:y.drop i=[]:=fg qZ;simp[Op.eqItems,f,c]
 |k+1,i,h=>by
  have o:i<x.length:=qZ;have m:i<y.length:=qZ
  have a:∀(z:List Int) (l:i<z.length),(part e (z.map λn=>Value.int .i64 n).toArray (i*1)).run P w=.ok (gI z[i]) w:=by
   intro z l
   have f:(z.map λn=>Value.int .i64 n).toArray[i]? =some (gI z[i]):=by
    rw[eX,dO,cE l];rfl
   have c:(isAgg e).run P w=.ok false w:=by
    unfold isAgg;simp[dx j,Result.andThen]
   simp[part,c,Result.andThen,f]
  rw[List.range'_succ];unfold Op.eqItems;simp only[fE,a x o,a y m,Result.andThen];rw[run_equalIn_int w d e .i64 .i64 _ _ j];rw[fF o,fF m];by_cases b:x[i]=y[i]
  ·have g:(x[i]==y[i])=true:=by simp[b]
   simp only[g,b,mR,tJ];have:=Bx (w:=w) j d x y p k (i+1) qZ;simpa using this
  ·have g:(x[i]==y[i])=false:=by simpa using b
   simp only[g,mR,b,false_and,decide_false];simp
set_option maxRecDepth 10000 in
def aa0(x y:Vector Int 16)(d:Nat)(w:Wt_):(Op.equalIn (d+2) 25 (.agg (xD x).toArray) (.agg (xD y).toArray)).run pQ w=.ok (decide (x=y)) w:=by
 obtain⟨g,b,-⟩:=tC (P:=pQ) (t:=2) (n:=0) cU;have c:Tryz.prog.underlying 25=some (.array 16 2):=cU;have f:Tryz.prog.cellsOf 2=1:=cU;rw[run_equalIn_array w (d+1) _ _ c b,f];have:=Bx (P:=pQ) (w:=w) (e:=2) cU d x.toList y.toList (by simp) 16 0 (by simp);rw[List.range_eq_range'];show(Op.eqItems (d+1) _ 1 (x.toList.map λn=>Value.int .i64 n).toArray (y.toList.map λn=>Value.int .i64 n).toArray (List.range' 0 16)).run pQ w=_;rw[this];congr 1
 have a:(x.toList=y.toList)↔x=y:=by
  constructor
  ·intro h;exact Vector.toList_inj.1 h
  ·rintro rfl;rfl
 simp only[iw];exact qP.2 a
def nk{d:Nat}{xs c:Array Value}{f:Field}{e:List Field}{a b:Vt_}{r r' :Bool}(i:f.name≠ "_")(j:(part f.type xs f.offset).run P w=.ok a w)(g:(part f.type c f.offset).run P w=.ok b w)
  (k:(Op.equalIn d f.type a b).run P w=.ok r w)(h:(Op.eqFields d xs c e).run P w=.ok r' w):(Op.eqFields d xs c (f::e)).run P w=.ok (r&& r') w:=by
 simp only[Op.eqFields,i,ne_eq,not_false_eq_true,fh,fE,j,g,k,Result.andThen_ok];cases r
 ·simp
 ·simpa using h
def G7{xs a:Array Value}:(Op.eqFields b xs a []).run P w=.ok true w:=by simp[Op.eqFields]
def jC{e:TypeId}{l:LV_}{off:Nat}{v:Vt_}(a:P.plainKey e=true)(h:l[off]? =some v):(part e l.toArray off).run P w=.ok v w:=run_part_plain w a (by simpa using h)
def yq{e:TypeId}{l m:LV_}{off n:Nat}(a:pY P e=true)(b:P.cellsOf e=n+1)(h:(l.drop off).take (n+1)=m):(part e l.toArray off).run P w=.ok (.agg m.toArray) w:=by
 have c:l.toArray.extract off (off+(n+1))=m.toArray:=by
  apply nQ;rw[Array.toList_extract];simp[List.extract,h]
 simp[part,AS a,Go.Vc.oK b,Result.andThen,h]
def eqB(x y:Bool)(d:Nat)(w:Wt_):(Op.equalIn (d+1) 4 (.bool x) (.bool y)).run pQ w=.ok (x==y) w:=by
 have a:Tryz.prog.underlying 4=some .bool:=cU;simp[Op.equalIn,dx a,Result.andThen]
set_option maxRecDepth 10000 in
def LP(a b:Sp)(d:Nat)(w:Wt_):(Op.equalIn (d+3) 27 (.agg (jA a).toArray) (.agg (jA b).toArray)).run pQ w=.ok (decide (a=b)) w:=by
 have u:Tryz.prog.underlying 27=some (.struct (Tryz.prog.fieldsOf 27)):=cU;have h:Tryz.prog.stoodInHeld 27=false:=cU;rw[run_equalIn_struct w (d+2) 27 _ _ u h];unfold Program.fieldsOf;rw[Tryz.underlying27];have g:∀s:Sp,((jA s).drop 6).take 16=xD s.shifts:=xK
 have c:∀s:Sp,(jA s)[22]? =some (gI s.credit)/\(jA s)[23]? =some (gU s.last)/\(jA s)[24]? =some (gI s.first):=λs=>by
  have key:∀i,(jA s)[22+i]? =([.int .i64 s.credit,gU s.last,gI s.first]:LV_)[i]? :=λi=>by
   unfold jA;rw[cQ (by show 6<=22+i;omega),cQ (by grind),rh];congr 1;show 22+i - 6 - 16=i;omega
  exact⟨key 0,key 1,key 2⟩
 have e:∀(t:TypeId) (q:IntKind) (x y:Int),Tryz.prog.underlying t=some (.int q)->(Op.equalIn (d+2) t (.int q x) (.int q y)).run pQ w=.ok (x==y) w:=λt q x y l=>run_equalIn_int w (d+1) t q q x y l
 have f:decide (a=b)=((a.num==b.num)&& ((a.route==b.route)&& ((a.tick==b.tick)&& ((a.lot==b.lot)&& ((a.band==b.band)&& ((a.limit==b.limit)&& (decide (a.shifts=b.shifts)&& ((a.credit==b.credit)&& ((a.last==b.last)&& ((a.first==b.first)&& true)))))))))):=by
  obtain⟨J,K,A,D,B,I,r,m,F,k⟩:=a;obtain⟨o,G,z,H,p,v,E,L,C,j⟩:=b;rw[iC];simp[Sp.mk.injEq]
 rw[f];apply nk (by decide) (jC cU rfl) (jC cU rfl) (e _ _ _ _ cU);apply nk (by decide) (jC cU rfl) (jC cU rfl) (e _ _ _ _ cU);apply nk (by decide) (jC cU rfl) (jC cU rfl) (e _ _ _ _ cU);apply nk (by decide) (jC cU rfl) (jC cU rfl) (e _ _ _ _ cU);apply nk (by decide) (jC cU rfl) (jC cU rfl) (e _ _ _ _ cU);apply nk (by decide) (jC cU rfl) (jC cU rfl) (e _ _ _ _ cU);apply nk (by decide) (yq (n:=15) cU cU (g a)) (yq (n:=15) cU cU (g b)) (aa0 a.shifts b.shifts d w);apply nk (by decide) (jC cU (c a).1) (jC cU (c b).1) (e _ _ _ _ cU);apply nk (by decide) (jC cU (c a).2.1) (jC cU (c b).2.1) (e _ _ _ _ cU);apply nk (by decide) (jC cU (c a).2.2) (jC cU (c b).2.2) (e _ _ _ _ cU);exact G7
def ZH(c:Cm):((cmC c).drop 5).take 25=jA c.spec:=by
 show(jA c.spec++_).take 25=_;rw[<-dP c.spec,fN]
def ae3(a b:Cm)(w:Wt_):(Op.equalIn 10000 om (vI a) (vI b)).run pQ w=.ok (decide (a=b)) w:=by
 have u:Tryz.prog.underlying om=some (.struct (Tryz.prog.fieldsOf om)):=cU;have h:Tryz.prog.stoodInHeld om=false:=cU;unfold vI;rw[run_equalIn_struct w 9999 om _ _ u h];unfold Program.fieldsOf;rw[Tryz.underlying30];have c:∀(t:TypeId) (q:IntKind) (x y:Int),Tryz.prog.underlying t=some (.int q)->(Op.equalIn 9999 t (.int q x) (.int q y)).run pQ w=.ok (x==y) w:=λt q x y j=>run_equalIn_int w 9998 t q q x y j
 have d:decide (a=b)=((a.kind==b.kind)&& ((a.acct==b.acct)&& ((a.ct==b.ct)&& ((a.num==b.num)&& ((a.amt==b.amt)&& (decide (a.spec=b.spec)&& ((a.on==b.on)&& ((a.buy==b.buy)&& ((a.ty==b.ty)&& ((a.price==b.price)&& ((a.qty==b.qty)&& true))))))))))):=by
  obtain⟨G,H,s,A,v,F,o,k,C,g,i⟩:=a;obtain⟨l,D,r,E,m,p,B,I,z,f,e⟩:=b;rw[iC];simp[Cm.mk.injEq]
 rw[d];apply nk (by decide) (jC cU (ZV a)) (jC cU (ZV b)) (c _ _ _ _ cU);apply nk (by decide) (jC cU (cm1 a)) (jC cU (cm1 b)) (c _ _ _ _ cU);apply nk (by decide) (jC cU (cm2 a)) (jC cU (cm2 b)) (c _ _ _ _ cU);apply nk (by decide) (jC cU (cm3 a)) (jC cU (cm3 b)) (c _ _ _ _ cU);apply nk (by decide) (jC cU (cm4 a)) (jC cU (cm4 b)) (c _ _ _ _ cU);refine nk (by decide) (yq (n:=24) cU cU (ZH a)) (yq (n:=24) cU cU (ZH b)) (LP a.spec b.spec 9996 w) ?_;refine nk (by decide) (jC cU (SJ a)) (jC cU (SJ b)) (eqB _ _ 9998 w) ?_;refine nk (by decide) (jC cU (S4 a)) (jC cU (S4 b)) (eqB _ _ 9998 w) ?_;apply nk (by decide) (jC cU (YA a)) (jC cU (YA b)) (c _ _ _ _ cU);apply nk (by decide) (jC cU (TT a)) (jC cU (TT b)) (c _ _ _ _ cU);apply nk (by decide) (jC cU (TC a)) (jC cU (TC b)) (c _ _ _ _ cU);exact G7
def XA(a b:Cm)(w:Wt_):(qE .eql om false (vI a) (vI b)).run pQ w=.ok (.bool (decide (a=b))) w:=by
 have:=ae3 a b w;unfold vI at this|-;generalize(cmC a).toArray=A at this;generalize(cmC b).toArray=B at this;simp[go_sem,this,Result.andThen]
def TO(v:x.Fit)(b:∀q,M0 w q->K (.bool x.may) q):Ca pQ 38 #[vI x] w K:=by
 apply aA7;obtain⟨d,y,o,u⟩:=uT x w;apply cI y;obtain⟨p,n⟩:=dW w.heap.size;rw[<-n]at o|-;have a:M0 d d.drew:=mP;have c:iy d.drew p x:=a.hpk o id;have f:=u.trans a
 try dsimp only
 generalize d.drew=s at a c f|-;unfold Cm.may at b;refine dw td (dp (sH c) ?_);by_cases l:1<=x.kind
 ·apply dX (.bool true) (λ_=>by simp[go_sem];omega);rw[kx];refine dw td (dp (sH c) ?_);by_cases g:x.kind<=14
  ·apply dX (.bool true) (λ_=>by simp[go_sem];omega);rw[kx];refine li (vm c) (li (vm c) ?_);refine Uc λi r=>?_;have m:iy i p x:=r.hpk c id;refine⟨vm m,?_⟩;have j:=f.trans r;apply dw (XA x x.bare);by_cases e:x=x.bare
   ·rw[qo e];refine dw td (dp (sH m) ?_);apply dX (.bool (decide (x.kind≠3))) (λ_=>by simp[go_sem];rfl);by_cases k:x.kind≠3
    ·rw[qo k];have:=b i j;rw[db ⟨l,g⟩,db e,db k]at this;exact this
    ·rw[cy,aZ (by grind)];apply dw Nj;apply sm (jA x.spec) 24 DW Cc (dP _) (Q1 m);refine vP v.2.2.2.2.2.1 λt z=>?_;have:=b t (j.trans z);rw[db ⟨l,g⟩,db e,ej k]at this;simpa using this
   ·rw[cy,aZ (by grind)];have:=b i j;rw[ej e,sj,jp]at this;exact this
  ·apply dX (.bool false) (λ_=>by simp[go_sem];omega);rw[gP];have:=b s f;rw[ej (λh=>g h.2),jp,jp]at this;exact this
 ·apply dX (.bool false) (λ_=>by simp[go_sem];omega);rw[gP];have:=b s f;rw[ej (λh=>l h.1),jp,jp]at this;exact this
def rO.setCal{c:Nat}{A:List (Int×Nat)}{D:List (Int×Value)}{fp:Pt->Nat->Prop}(h:rO w v c l mb md A D fp S){G:NP_}{C:sE}(a:de (fp .cal) w w')(f:pN w' c G C)(e:∀x,G x->fp .cal x\/w.heap.size<=x):rO w' v c l mb md A D (mj fp .cal G) {S with cal:=C} where
 blk:=a.hpk h.blk (h.ap (by simp) _ h.self)
 cal:=by rw[ip];exact f
 led:=by rw[eH (by simp)];exact h.led.mod a (h.ap (by simp))
 mbk:=h.mbk.mod a (h.ap (by simp) _ ((h.fmb mb).2 rfl))
 mbd:=h.mbd.mod a (h.ap (by simp) _ ((h.fmd md).2 rfl))
 bk n b hl:=by rw[eH (by simp)];exact(h.bk n b hl).mod a (h.ap (by simp))
 nbk n hl:=by rw[eH (by simp)];exact h.nbk n hl
 bd n:=(h.bd n).mod a λx d=>h.ap (by simp) x ((h.fbd n x).2 d)
 fv:=by rw[eH (by simp)];exact h.fv
 fmb:=by rw[eH (by simp)];exact h.fmb
 fmd:=by rw[eH (by simp)];exact h.fmd
 fbd n x:=by rw[eH (by simp)];exact h.fbd n x
 dj:=h.djU e
def Mu{C:sE}{s:Sp}(h:(kC C s).1=0):eR C.l s.num=none/\∀m,eR (kC C s).2.l m=if s.num=m then some (rJ s)else eR C.l m:=by
 unfold kC at h|-;split at h
 ·cases h
 ·split at h
  ·cases h
  ·split at h
   ·cases h
   ·split at h
    ·cases h
    ·rename_i d a e c
     have b:eR C.l s.num=none:=by
      cases f:eR C.l s.num with
      |none=>rfl
      |some k=>rw[f]at a;exact absurd rfl a
     refine⟨b,λm=>?_⟩;rw[aZ d,aZ a,aZ e,aZ c];exact C6 (k:=rJ s) b _ m
def Nz{C:sE}{s:Sp}(h:(kC C s).1≠0):(kC C s).2=C:=by
 unfold kC at h|-;split
 ·rfl
 ·split
  ·rfl
  ·split
   ·rfl
   ·split
    ·rfl
    ·grind
def RG(C:sE)(n:Int)(on:Bool)(m:Int):(eR (nz C n on).2.l m).isSome=(eR C.l m).isSome:=by
 unfold nz;split
 ·rfl
 ·rw[vf (f:=λk=>{k with st:=if on then 2 else 1}) λ_ _=>rfl,qe]
def Hz(C:sE)(n p:Int)(m:Int):(eR (jJ C n p).2.l m).isSome=(eR C.l m).isSome:=by
 unfold jJ;split
 ·rfl
 ·split
  ·rfl
  ·split
   ·rfl
   ·rw[vf (f:=λk=>{k with price:=p}) λ_ _=>rfl,qe]
def Mn(h:lw w v F S)(s:S.Ok)(hx:x.Fit)(hK:AK w v F (S.done x) K):Ca pQ 39 #[eY v,vI x] w K:=by
 have hQ:=h;obtain⟨c,l,mb,md,A,D,fp,hr,hF⟩:=h;apply az6;obtain⟨w1,e1,b1,m1⟩:=uT x w;apply cI e1;obtain⟨p,hp0⟩:=dW w.heap.size;rw[<-hp0]at b1|-;obtain⟨J,e3,b3,m3⟩:=qy w1;apply cI e3;obtain⟨q,hq0⟩:=dW w1.heap.size;rw[<-hq0]at b3|-;have hpq:p<q:=by have:=cB b1;omega
 have M3:=m1.trans m3;have c3:iy J p x:=m3.hpk b1 id;have h3:=hr.md0 M3;have Q3:=hQ.md0 M3;have hFl:∀y,F y->y<p:=λy d=>by obtain⟨pt,hp⟩:=(hF y).1 d;have:=hr.lt hp;omega
 have hfpF:∀pt y,fp pt y->F y:=λpt y d=>(hF y).2 ⟨_,d⟩;have i:∀y,dY fp y↔F y:=λy=>(hF y).symm;have hq3:q<J.heap.size:=cB b3;have hnq:∀{pt y},fp pt y->y≠q/\y≠p:=λd=>by grind
 obtain⟨f1,f2,f3,f4,f5,f6,f7,f8,f9⟩:=id hx
 have B:∀(e:Int) (T:Ven) (F' :NP_) (W:Wt_),S.done x=(e,zRp,T)->lw W v F' T->hC W q (mC zRp dv dv dv).toArray lx->de F w W->(∀y,F' y->(F y\/w.heap.size<=y)/\y≠q)->
   ru pQ (iS lx (pt q 0) (ud zRp dv dv dv)) W λw20=>uc pQ (iL lx (pt q 0)) w20 λv21=>K (.tuple #[v21,gI e]) w20:=by
  intro e T F' W he a b m hn;obtain⟨W1,g1,x1,y1⟩:=pl (r:=zRp) b rfl ⟨gJ,gJ,gJ⟩;refine ir g1 (dp (lB x1) ?_);exact hK.nil he (a.mod y1 λy d e=>(hn y d).2 e) (m.on y1 λy d=>gz) λy d=>(hn y d).1
 have o:∀(Y:Int×Rp×Ven) (W:Wt_),S.done x=Y->M0 J W->AK W v F Y (λt w1=>rv pQ (Instr.extract t 0) w1 λv188 w189=>rv pQ (Instr.extract t 1) w189 λv190 w191=>ru pQ (iS lx (pt q 0) v188) w191 λw192=>uc pQ (iL lx (pt q 0)) w192 λv193=>K (.tuple #[v193,v190]) w192):=by
  intro Y W hY V sT sG sA F' w' a1 a2 a3 a4 a5;refine qS0 ?_;refine qS0 ?_;have hsW:=V.size;have qW:=a3.hpk (V.hpk b3 id) λhc=>by grind
  obtain⟨t1,t2,t3⟩:=a2.isSl;obtain⟨W1,g1,x1,y1⟩:=pl (r:=Y.2.1) qW rfl ⟨t1,t2,t3⟩;refine ir g1 (dp (lB x1) ?_);have hw3:=M3.size;refine hK.tell (F' :=F') hY (a1.mod y1 λy d e=>?_) (a2.mod y1 λy d e=>?_) (((M3.trans V).to (G:=F)).trans a3 |>.on y1 λy d=>gz) (λy d=>(a4 y d).imp id λP=>qZ) λy d=>⟨by grind,(a5 y d).2⟩
  ·rcases a4 y d with P|P
   ·have:=hFl y P;omega
   ·omega
  ·have:=(a5 y d).1;omega
 refine cI (td _) (cI (sH c3) ?_);have kq:∀{W M:Wt_} {pt:Pt},de (fp pt) W M->hC W q (mC zRp dv dv dv).toArray lx->hp M q=some (.cells (mC zRp dv dv dv).toArray lx (0,0)):=λm hh=>m.hpk hh λhc=>(hnq hc).1 rfl;have k:M0 J J.drew:=mP;have Q:=h3.md0 k;have cd:iy J.drew p x:=k.hpk c3 id;have bd:=k.hpk b3 id;have Md:=M3.trans k;have hFQ:∀{W T},ik W v c l mb md A D fp T->lw W v F T:=λa=>⟨c,l,mb,md,A,D,fp,a,hF⟩
 have j:∀y,F y->(F y\/w.heap.size<=y)/\y≠q:=λy d=>⟨.inl d,by grind⟩
 have MF:∀{W:Wt_} {pt:Pt},de (fp pt) J.drew W->de F w W:=λm=>(Md.to).trans (m.mono λy _ d=>hfpF _ y d);by_cases k1:x.kind=1
 ·refine qSt1 k1 ?_;simp only[eY,dr];apply dp (lB bd);refine dw (jk 1 qZ) (dp (ld1 _ Q.blk) ?_);refine dw pM (dp (rk cd) ?_);refine dw JB (dp (Nx cd) ?_);refine Kl Q.led f2 λZ q4 z=>?_;have O:=kq z bd;refine⟨lB O,?_⟩;exact B _ {S with led:=(S.led.deposit x.acct x.amt).2} F Z (by unfold Ven.done;rw[bZ k1]) (hFQ (Q.setLed z q4)) O (MF z) j
 refine qSf1 k1 ?_;by_cases k2:x.kind=2
 ·refine qSt1 k2 ?_;refine dp (lB bd) (li (vm cd) ?_);have hx2:({x with kind:=2}:Cm)=x:=by cases x;simp_all
  refine Gh Q s hx λZ R z=>?_;rw[hx2]at R|-;have O:=kq z bd;refine⟨lB O,?_⟩;have hz:S.done x=((S.done x).1,zRp,(S.done x).2.2):=by unfold Ven.done;rw[aZ k1,bZ k2]
  exact B _ (S.done x).2.2 F Z hz (hFQ R) O (MF z) j
 refine qSf1 k2 ?_;by_cases k3:x.kind=3
 ·refine qSt1 k3 ?_;obtain⟨C,hC⟩:=dW (kC S.cal x.spec)
  have hdone:S.done x=(C.1,zRp,if C.1=0 then{S with cal:=C.2,bk:=upd S.bk x.spec.num Bk.empty}else{S with cal:=C.2}):=by
   unfold Ven.done;rw[aZ k1,aZ k2,bZ k3,hC]
  refine dK.at (λst W=>st=(gI C.1,())/\hp W q=some (.cells (mC zRp dv dv dv).toArray lx (0,0))/\de F w W/\∃F',lw W v F' (if C.1=0 then{S with cal:=C.2,bk:=upd S.bk x.spec.num Bk.empty}else{S with cal:=C.2})/\∀y,F' y->(F y\/w.heap.size<=y)/\y≠q) ?_ ?_
  ·simp only[eY,dr];refine dw (jk 0 qZ) (dp (EQ _ Q.blk) ?_);apply dw Nj;apply sm (jA x.spec) 24 DW Cc (dP _) (Q1 cd);refine QA Q.cal f6 λG Z q4 z n4=>?_;rw[<-hC]at q4|-;have O:=kq z bd;have c4:iy Z p x:=z.hpk cd λhc=>(hnq hc).2 rfl;have hsd:=Md.size;have hqd:q<J.drew.heap.size:=cB bd
   have hup:∀y,dY (mj fp .cal G) y->F y\/J.drew.heap.size<=y:=λy d=>by
    rcases zX n4 y d with P|P
    ·exact .inl ((i y).1 P)
    ·exact .inr P
   have hs4:=z.size;by_cases hCe:C.1=0
   ·refine qSt1 hCe ?_;obtain⟨g1,g2⟩:=Mu (hC▸hCe:(kC S.cal x.spec).1=0);rw[<-hC]at g2;have R:=Q.torO.setCal z q4 n4;have U:M0 Z Z.drew:=mP;have v5:=R.mod U λ_ _ _ h=>h;have b5:=U.hpk O id;have c5:iy Z.drew p x:=U.hpk c4 id;have hs5:Z.drew.heap.size=Z.heap.size:=rfl;have M5:de F w Z.drew:=(MF z).trans (U.to)
    try dsimp only
    generalize Z.drew=w5 at U v5 b5 c5 hs5 M5|-;simp only[dr];refine dw (jk 2 qZ) (dp (IL _ v5.blk) ?_);refine dw Nj (qPv0 (pt p 5) ?_)
    have cm5n:∀{W:Wt_},iy W p x->(iL 23 (pt p 5)).run pQ W=.ok (gU x.spec.num) W:=λhW=>by
     have h5:(cmC x)[5]? =some (gU x.spec.num):=rfl;simp[go_sem,hW,h5]
    apply dp (cm5n c5);refine P7 λnb Gb w6 q6 m6 n6=>?_;have v6:=v5.mod m6 λ_ _ _ h=>h;have c6:iy w6 p x:=m6.hpk c5 id;refine⟨cm5n c6,IL _ v6.blk,?_⟩
    have hA:lk A x.spec.num=none:=by
     have:=hr.dom x.spec.num;rw[g1]at this;cases hl:lk A x.spec.num with
     |none=>rfl
     |some b=>rw[hl]at this;cases this
    refine kV (enc:=iI) (ev:=jY) (x:=x.spec.num) (v:=nb) Dc rP v6.mbk λw7 a7 m7 hs7=>?_;have v7:=v5.addBk (n:=x.spec.num) hA m6 q6 n6 a7 m7;have hmbF:F mb:=hfpF _ _ ((hr.fmb mb).2 rfl)
    have v7' :ik w7 v c l mb md (put A x.spec.num nb) D (mj (mj fp .cal G) (.bk x.spec.num) Gb) {S with cal:=C.2,bk:=upd S.bk x.spec.num Bk.empty}:=⟨v7,λm=>by
     rw[sn,g2 m];by_cases hm:x.spec.num=m
     ·rw[bZ hm,bZ hm];rfl
     ·rw[aZ hm,aZ hm];exact hr.dom m,λm hm=>by
     rw[g2 m];by_cases hmm:x.spec.num=m
     ·rw[bZ hmm];rfl
     ·rw[aZ hmm];exact hr.dod m hm⟩
    have hs6:=m6.size;refine⟨by grind,m7.hpk (m6.hpk b5 id) (λe=>by grind),(M5.trans (m6.to)).trans (m7.mono λy _ d=>by rw[d];exact hmbF),_,by rw[bZ hCe];exact v7'.q,λy d=>?_⟩;rcases zX (n:=w5.heap.size) (λy d=>.inr (n6 y d)) y d with P|P
    ·rcases hup y P with h'' |h''
     ·exact⟨.inl h'',by grind⟩
     ·exact⟨gz,qZ⟩
    ·exact⟨gz,qZ⟩
   ·refine qSf1 hCe ?_;have hCs:C.2=S.cal:=by rw[hC];exact Nz (by grind)
    have R:=Q.setCal z q4 n4 λm=>by rw[hCs]
    refine⟨rfl,O,MF z,_,by rw[aZ hCe];exact R.q,λy d=>?_⟩;rcases hup y d with h'' |h''
    ·exact⟨.inl h'',by grind⟩
    ·exact⟨gz,qZ⟩
  rintro _ W ⟨rfl,j1,j2,F',j3,j4⟩;unfold WN;intro _;apply cI (lB j1);exact B C.1 _ F' W hdone j3 j1 j2 j4
 refine qSf1 k3 ?_;by_cases k4:x.kind=4
 ·refine qSt1 k4 ?_;simp only[eY,dr];apply dp (lB bd);refine dw (jk 0 qZ) (dp (EQ _ Q.blk) ?_);refine dw tZ (dp (sD cd) ?_);refine dw H6 (dp (Jd cd) ?_);refine Qn Q.cal λZ q4 z=>?_;have O:=kq z bd;refine⟨lB O,?_⟩;have R:=Q.setCal z q4 (λy d=>.inl d) λm=>RG _ _ _ m;rw[xO]at R;exact B _ {S with cal:=(nz S.cal x.ct x.on).2} F Z (by unfold Ven.done;rw[aZ k1,aZ k2,aZ k3,bZ k4]) (hFQ R) O (MF z) j
 refine qSf1 k4 ?_;by_cases k11:x.kind=11
 ·refine qSt1 k11 ?_;simp only[eY,dr];apply dp (lB bd);refine dw (jk 0 qZ) (dp (EQ _ Q.blk) ?_);refine dw tZ (dp (sD cd) ?_);refine dw DK (dp (yG cd) ?_);refine GN Q.cal λZ q4 z=>?_;have O:=kq z bd;refine⟨lB O,?_⟩;have R:=Q.setCal z q4 (λy d=>.inl d) λm=>Hz _ _ _ m;rw[xO]at R;exact B _ {S with cal:=(jJ S.cal x.ct x.price).2} F Z (by unfold Ven.done;rw[aZ k1,aZ k2,aZ k3,aZ k4,bZ k11]) (hFQ R) O (MF z) j
 refine qSf1 k11 ?_;by_cases k12:x.kind=12
 ·refine qSt1 k12 ?_;exact IM Q3 s (o S.settle J (by unfold Ven.done;rw[aZ k1,aZ k2,aZ k3,aZ k4,aZ k11,bZ k12]) lX)
 refine qSf1 k12 ?_;by_cases k14:x.kind=14
 ·refine qSt1 k14 ?_;refine cI (tZ _) (cI (sD c3) ?_);exact Jw Q3 s (o (S.expire x.ct) J (by unfold Ven.done;rw[aZ k1,aZ k2,aZ k3,aZ k4,aZ k11,aZ k12,bZ k14]) lX)
 refine qSf1 k14 ?_;refine cI (pM _) (cI (rk c3) ?_);have hZ:∀{W:Wt_},M0 J W->hC W q (mC zRp dv dv dv).toArray lx:=λm=>m.hpk b3 id
 have I:∀(e:Int) (W:Wt_),S.done x=(e,zRp,S)->M0 J W->rv pQ (iL lx (pt q 0)) W λv115 w116=>ru pQ (iS lx (pt q 0) v115) w116 λw20=>uc pQ (iL lx (pt q 0)) w20 λv21=>K (.tuple #[v21,gI e]) w20:=λe W he m=>
  cI (lB (hZ m)) (B e S F W he (Q3.md0 m) (hZ m) ((M3.trans m).to) j)
 by_cases N:x.acct=0
 ·refine qSt1 N ?_;exact I 2 J (by unfold Ven.done;rw[aZ k1,aZ k2,aZ k3,aZ k4,aZ k11,aZ k12,aZ k14,bZ N]) lX
 refine qSf1 N ?_;refine cI (td _) (cI (sH c3) ?_);by_cases k6:x.kind=6
 ·refine qSt1 k6 ?_;apply iW (vm c3);exact J3 Q3 s hx (o (S.cancel x) J (by unfold Ven.done;rw[aZ k1,aZ k2,aZ k3,aZ k4,aZ k11,aZ k12,aZ k14,aZ N,bZ k6]) lX)
 refine qSf1 k6 ?_;by_cases k7:x.kind=7
 ·refine qSt1 k7 ?_;apply iW (vm c3);exact In Q3 s hx N (o (S.replace x) J (by unfold Ven.done;rw[aZ k1,aZ k2,aZ k3,aZ k4,aZ k11,aZ k12,aZ k14,aZ N,aZ k6,bZ k7]) lX)
 refine qSf1 k7 ?_;obtain⟨E,hE⟩:=dW (if S.led.getO x.acct=none then 7 else 0:Int)
 have f:S.done x=if S.led.getO x.acct=none then(7,zRp,S)else if x.kind=5 then S.place x else if x.kind=9 then S.bid x else if x.kind=8 then
   (if x.ct≠0/\(iU S.cal.l x.ct).2≠0 then((iU S.cal.l x.ct).2,zRp,S)else(0,{zRp with gone:=(S.clear x.acct x.ct).1},(S.clear x.acct x.ct).2))
   else if x.kind=10 then(((if x.on then(S.clear x.acct 0).2 else S).led.set {S.acc x.acct with kil:=x.on}).1,if x.on then{zRp with gone:=(S.clear x.acct 0).1}else zRp,{(if x.on then(S.clear x.acct 0).2 else S)with led:=((if x.on then(S.clear x.acct 0).2 else S).led.set {S.acc x.acct with kil:=x.on}).2})
   else if x.kind=13 then S.liquidate (S.acc x.acct)else(0,zRp,S):=by
  unfold Ven.done;rw[aZ k1,aZ k2,aZ k3,aZ k4,aZ k11,aZ k12,aZ k14,aZ N,aZ k6,aZ k7]
 refine dK.at (λst W=>∃ra,st=(.pointer (some ⟨ra,0,none⟩),gI E,())/\hC W ra (dH (S.acc x.acct)).toArray Gv/\q<ra/\M0 J W) ?_ ?_
 ·have hsd:J.drew.heap.size=J.heap.size:=rfl;simp only[eY,dr];clear hx k1 k2 k3 k4 k6 k7 k11 k12 k14 I
  try dsimp only
  generalize J.drew=u at k Q cd hsd|-;refine dw (jk 1 qZ) (dp (ld1 _ Q.blk) ?_);refine dw pM (dp (rk cd) ?_);refine⟨?_,?_⟩
  ·refine ug Q.led λu2 X=>?_;rw[oV,<-hE];refine qP0 ?_;refine qP0 ?_;obtain⟨u3,u4,x1,x2,x3,x4⟩:=C0 (S.acc x.acct) u2;refine cI x1 (ir x2 ?_);exact⟨_,rfl,x3,by have:=X.size;omega,(k.trans X).trans x4⟩
  ·obtain⟨u2,x1,x2,X⟩:=zi u;apply cI x1;have h5' :=Q.md0 X;refine⟨rk (X.hpk cd id),ld1 _ h5'.blk,?_⟩;refine ug h5'.led λu3 mu3=>?_;rw[oV,<-hE];refine qP0 ?_;refine qP0 ?_;obtain⟨u4,y1,y2,y3⟩:=zR (S.acc x.acct) (mu3.hpk x2 id);apply ir y1;exact⟨_,rfl,y2,qZ,((k.trans X).trans mu3).on y3 λb hb=>gz⟩
 rintro _ W ⟨ra,rfl,ba,hra,V⟩;unfold VI;intro _;have hW:=h3.md0 V;have QW:=Q3.md0 V;have cW:iy W p x:=V.hpk c3 id;have bW:=V.hpk b3 id;have MW:=M3.trans V;have hsW:=V.size;have hraW:=cB ba;by_cases hg:S.led.getO x.acct=none
 ·rw[bZ hg]at hE f;subst hE;refine qSt0 ?_;exact I 7 W f V
 rw[aZ hg]at hE f;subst hE;refine qSf0 ?_
 have last:∀(r:Rp) (T:Ven) (D' :List (Int×Value)) (fp' :Pt->Nat->Prop) (sG:Vt_) (M:Wt_) (st:Value×Unit),S.done x=(0,r,T)->ik M v c l mb md A D' fp' T->hC M q (mC r dv sG dv).toArray lx->vG M dv sG dv r->de F w M->(∀y,dY fp' y->(F y\/w.heap.size<=y)/\y≠q)->(∀y,cK sG y->w.heap.size<=y/\y≠q/\¬dY fp' y)->
   GW (pt q 0) K st M:=by
  intro r T D' fp' sG M st he a b rq m hn hs;unfold GW;intro _;obtain⟨t1,t2,t3⟩:=rq.isSl;apply cI (lB b);obtain⟨W1,g1,x1,y1⟩:=pl (r:=r) b rfl ⟨t1,t2,t3⟩;refine ir g1 (dp (lB x1) ?_);refine hK.tell (F' :=dY fp') he (a.mod y1 λpt y d e=>(hn y ⟨pt,d⟩).2 e).q (rq.mod y1 λy d e=>?_) (m.on y1 λy d=>gz) (λy d=>(hn y d).1) λy d=>?_
  ·rcases d with d|d|d
   ·cases d
   ·exact(hs y d).2.1 e
   ·cases d
  ·rcases d with d|d|d
   ·cases d
   ·exact⟨(hs y d).1,(hs y d).2.2⟩
   ·cases d
 have rqG:∀{M:Wt_} {sG:Vt_} {g:List Int},vO M sG g->vG M dv sG dv {zRp with gone:=g}:=λhg=>⟨jo.nil _ _ _,hg,jo.nil _ _ _,λy d=>(by cases d),λy d=>(by cases d),λy _ d=>(by cases d)⟩
 have rp0' :BN W q dv dv zRp 0 (dY fp):=⟨bW,vG.nil _ 0,λy d=>by rcases d with d|d<;>cases d⟩
 by_cases k5:x.kind=5
 ·rw[bZ k5]at f;apply dK.on;refine cI (td _) (cI (sH cW) ?_);refine qSt1 k5 ?_;apply iW (vm cW);exact MO QW s hx N (o (S.place x) W f V)
 rw[aZ k5]at f;by_cases k9:x.kind=9
 ·rw[bZ k9]at f;apply dK.on;refine cI (td _) (cI (sH cW) ?_);refine qSf1 k5 ?_;refine qSt1 k9 ?_;apply iW (vm cW);exact TI QW s hx N (o (S.bid x) W f V)
 rw[aZ k9]at f;by_cases k8:x.kind=8
 ·rw[bZ k8]at f;apply dK.on;refine cI (td _) (cI (sH cW) ?_);refine qSf1 k5 ?_;refine qSf1 k9 ?_;refine qSt1 k8 ?_
  have go2:∀(W2:Wt_) (st:Value×Unit),M0 J W2->¬(x.ct≠0/\(iU S.cal.l x.ct).2≠0)->Sf (pt p 0) (eY v) (pt q 0) (GW (pt q 0) K) st W2:=by
   intro W2 st m2 hct;rw[aZ hct]at f;unfold Sf;intro _;have c2:iy W2 p x:=m2.hpk c3 id;refine cI (pM _) (cI (rk c2) ?_);refine cI (tZ _) (cI (sD c2) ?_);have hs2:=m2.size;refine Ax (h3.md0 m2) s.cal (λn=>s.ord.bdl n) λsi D8 H W8 v8 i8 m8 n8 s8 l8=>?_;refine qS0 ?_;have b8:=m8.hpk (hZ m2) λhc=>by grind
   obtain⟨ia,ic,his,-⟩:=i8.isSl;obtain⟨W9,e9,b9,m9⟩:=E7 (L:=(S.clear x.acct x.ct).1) b8 ⟨_,_,_,his⟩ gJ;apply ir e9;have hMw:=(M3.trans m2).size
   have hn9:∀y,dY H y->(F y\/w.heap.size<=y)/\y≠q:=λy d=>by
    rcases n8 y d with P|P
    ·exact j y ((i y).1 P)
    ·exact⟨gz,qZ⟩
   exact last {zRp with gone:=(S.clear x.acct x.ct).1} _ D8 H si W9 _ f (v8.mod m9 λpt y d e=>(hn9 y ⟨pt,d⟩).2 e) b9 (rqG (i8.mod m9 λy d e=>by grind)) (((M3.trans m2).to (G:=F)).trans (m8.mono λy _ d=>(i y).1 d) |>.on m9 λy d=>.inr (by grind)) hn9 λy d=>⟨by grind,by grind,(s8 y d).2⟩
  apply dK.on;refine cI (tZ _) (cI (sD cW) ?_);by_cases hc0:x.ct≠0
  ·refine qSt1 hc0 ?_;obtain⟨G,hG⟩:=dW (iU S.cal.l x.ct);refine dK.at (λst M=>st=(gI G.2,())/\M0 J M) ?_ ?_
   ·have k:M0 W W.drew:=mP;have h4:=hW.md0 k;have c4:iy W.drew p x:=k.hpk cW id;have z:=V.trans k
    try dsimp only
    generalize W.drew=u at k h4 c4 z|-;simp only[eY,dr];refine dw (jk 0 qZ) (dp (EQ _ h4.blk) ?_);refine dw tZ (dp (sD c4) ?_);refine⟨?_,?_⟩
    ·refine Cp h4.cal λu2 X=>?_;rw[<-hG];refine qP0 ?_;refine qP0 ?_;refine Ep λu3 b3' m3' =>?_;exact⟨rfl,(z.trans X).trans m3'⟩
    ·apply rg zCt;have ma:M0 u (u.alloc (.cells (lT pQ oT).toArray oT)):=lm;have ba' :hC (u.alloc (.cells (lT pQ oT).toArray oT)) u.heap.size (lT pQ oT).toArray oT:=by simp[go_sem]
     generalize u.alloc (.cells (lT pQ oT).toArray oT)=u2 at ma ba' |-;refine⟨sD (ma.hpk c4 id),EQ _ (h4.md0 ma).blk,?_⟩;refine Cp (h4.md0 ma).cal λu3 mu3=>?_;rw[<-hG];refine qP0 ?_;refine qP0 ?_;have hb3:=mu3.hpk ba' id;apply uH yV (eE G.1) hb3 (by rw[eT,eE,ao6];omega) (sy G.1);exact⟨rfl,((z.trans ma).trans mu3).on ((de.refl (λy=>y=u.heap.size) u3).setRow (.inl rfl) _) λy d=>.inr (by have:=z.size;omega)⟩
   rintro _ W2 ⟨rfl,m2⟩;unfold Wh;intro _;by_cases hGe:G.2≠0
   ·refine qSt1 hGe ?_;exact I G.2 W2 (by rw[f,bZ ⟨hc0,by grind⟩,hG]) m2
   ·have hG0:G.2=0:=by simpa using hGe
    refine qSf1 hG0 ?_;exact go2 W2 _ m2 λh=>h.2 (by grind)
  ·have hc0' :x.ct=0:=by simpa using hc0
   refine qSf1 hc0' ?_;exact go2 W _ V λh=>hc0 h.1
 rw[aZ k8]at f;by_cases k10:x.kind=10
 ·rw[bZ k10]at f;apply dK.on;refine cI (td _) (cI (sH cW) ?_);refine qSf1 k5 ?_;refine qSf1 k9 ?_;refine qSf1 k8 ?_;refine qSt1 k10 ?_;refine cI (H6 _) (cI (Jd cW) ?_);refine qS0 ?_;have ba' :=ba;unfold dH at ba';obtain⟨ac,hac⟩:=dW ({S.acc x.acct with kil:=x.on}:Ac);have mS:de (λy=>y=ra) W (W.setCell ⟨ra,2,none⟩ (.bool x.on)):=(de.refl (λy=>y=ra) W).sc;have bS:hC (W.setCell ⟨ra,2,none⟩ (.bool x.on)) ra (dH ac).toArray Gv:=by rw[hac];simp[go_sem,ba',dH]
  refine qU1 ba' ?_;generalize W.setCell ⟨ra,2,none⟩ (.bool x.on)=W2 at mS bS|-;have hFra:∀{y},F y->y≠ra:=λd=>by grind
  have h2:=hW.mod mS λpt y d=>hFra (hfpF _ _ d);have c2:iy W2 p x:=mS.hpk cW qZ;have b2:=mS.hpk bW qZ;have M2:de F w W2:=(MW.to (G:=F)).on mS λy d=>.inr (by grind);have hsW2:=mS.size;obtain⟨S1,hS1⟩:=dW (if x.on then(S.clear x.acct 0).2 else S:Ven);obtain⟨r1,hr1⟩:=dW (if x.on then{zRp with gone:=(S.clear x.acct 0).1}else zRp:Rp);rw[<-hS1,<-hr1,<-hac]at f;refine dK.at (λst M=>∃(D8:List (Int×Value)) (H:Pt->Nat->Prop) (sG:Vt_),ik M v c l mb md A D8 H S1/\hC M q (mC r1 dv sG dv).toArray lx/\vG M dv sG dv r1/\hC M ra (dH ac).toArray Gv/\de F w M/\(∀y,dY H y->(F y\/w.heap.size<=y)/\y≠q/\y≠ra)/\(∀y,cK sG y->w.heap.size<=y/\y≠q/\¬dY H y)) ?_ ?_
  ·refine cI (H6 _) (cI (Jd c2) ?_);cases hon:x.on with
   |false=>
    rw[gP];have e1:S1=S:=by rw[hS1,hon];rfl
    have e2:r1=zRp:=by rw[hr1,hon];rfl
    rw[e1,e2];exact⟨D,fp,dv,h2,b2,vG.nil _ 0,bS,M2,λy d=>⟨(j y ((i y).1 d)).1,(j y ((i y).1 d)).2,hFra ((i y).1 d)⟩,λy d=>(by cases d)⟩
   |true=>
    rw[kx];have e1:S1=(S.clear x.acct 0).2:=by rw[hS1,hon];rfl
    have e2:r1={zRp with gone:=(S.clear x.acct 0).1}:=by rw[hr1,hon];rfl
    refine cI (pM _) (cI (rk c2) ?_);refine Ax h2 s.cal (λn=>s.ord.bdl n) λsi D8 H W8 v8 i8 m8 n8 s8 l8=>?_;refine qS0 ?_;have b8:=m8.hpk b2 λhc=>by grind
    obtain⟨ia,ic,his,-⟩:=i8.isSl;obtain⟨W9,e9,b9,m9⟩:=E7 (L:=(S.clear x.acct 0).1) b8 ⟨_,_,_,his⟩ gJ;apply ir e9
    have hn9:∀y,dY H y->(F y\/w.heap.size<=y)/\y≠q/\y≠ra:=λy d=>by
     rcases n8 y d with P|P
     ·exact⟨(j y ((i y).1 P)).1,(j y ((i y).1 P)).2,hFra ((i y).1 P)⟩
     ·exact⟨.inr (by grind),qZ,qZ⟩
    rw[e1,e2];refine⟨D8,H,si,v8.mod m9 λpt y d e=>(hn9 y ⟨pt,d⟩).2.1 e,b9,rqG (i8.mod m9 λy d e=>by grind),m9.hpk (m8.hpk bS λhc=>hFra ((i _).1 hc) rfl) qZ,(M2.trans (m8.mono λy _ d=>(i y).1 d)).on m9 λy d=>.inr (by grind),hn9,λy d=>⟨by grind,by grind,(s8 y d).2⟩⟩
  rintro _ W3 ⟨D8,H,sG,j1,j2,j3,j4,j5,j6,j7⟩;unfold WV;intro _;have k:M0 W3 W3.drew:=mP;have R:=j1.md0 k;have O:=k.hpk j2 id;have q4:=j3.mod k eQ;have a4:=k.hpk j4 id;have M4:=j5.trans (k.to (G:=F))
  try dsimp only
  generalize W3.drew=W4 at k R O q4 a4 M4|-;apply dp (lB O);simp only[eY,dr];refine dw (jk 1 qZ) (dp (ld1 _ R.blk) ?_);apply dp (O6 a4);have hacn:ac.num=(S.acc x.acct).num:=by rw[hac]
  refine FL R.led (by rw[hacn];exact LZ (by obtain⟨-,s⟩:=hr.led;exact s) _) λW5 q5 m5=>?_;have v5:=R.setLed m5 q5;have b5:=m5.hpk O λhc=>(j6 q ⟨_,hc⟩).2.1 rfl
  have rq5:=q4.mod m5 λy d hc=>by
   rcases d with d|d|d
   ·cases d
   ·exact(j7 y d).2.2 ⟨_,hc⟩
   ·cases d
  refine⟨lB b5,?_⟩;obtain⟨t1,t2,t3⟩:=rq5.isSl;obtain⟨W6,g6,x6,y6⟩:=pl (r:=r1) b5 rfl ⟨t1,t2,t3⟩;refine ir g6 (dp (lB x6) ?_);refine hK.tell (F' :=dY H) f (v5.mod y6 λpt y d e=>(j6 y ⟨pt,d⟩).2.1 e).q (rq5.mod y6 λy d e=>?_) ((M4.on m5 λy d=>(j6 y ⟨_,d⟩).1).on y6 λy d=>.inr (by grind)) (λy d=>(j6 y d).1) λy d=>?_
  ·rcases d with d|d|d
   ·cases d
   ·exact(j7 y d).2.1 e
   ·cases d
  ·rcases d with d|d|d
   ·cases d
   ·exact⟨(j7 y d).1,(j7 y d).2.2⟩
   ·cases d
 rw[aZ k10]at f;by_cases k13:x.kind=13
 ·rw[bZ k13]at f;apply dK.on;refine cI (td _) (cI (sH cW) ?_);refine qSf1 k5 ?_;refine qSf1 k9 ?_;refine qSf1 k8 ?_;refine qSf1 k10 ?_;refine qSt1 k13 ?_;apply cI (O6 ba);exact DP QW s (o (S.liquidate (S.acc x.acct)) W f V)
 rw[aZ k13]at f;apply dK.on;refine cI (td _) (cI (sH cW) ?_);refine qSf1 k5 ?_;refine qSf1 k9 ?_;refine qSf1 k8 ?_;refine qSf1 k10 ?_;refine qSf1 k13 ?_;unfold GW;intro _;exact I 0 W f V
def ik.move{u c:Nat}{A:List (Int×Nat)}{D:List (Int×Value)}{fp:Pt->Nat->Prop}(h:ik w u c l mb md A D fp S)(o:∀p,p≠ .v->¬fp p v)(q:hC w' v #[iZ c,iG l,.map (some mb),.map (some md),gQ S.next] vy)(i:de (λy=>y=v) w w'):
  ik w' v c l mb md A D (mj fp .v λy=>y=v) S:=by
 have g:∀p,p≠ .v->∀y,fp p y->¬y=v:=λp hp y r e=>o p hp (e▸r)
 refine⟨{
  blk:=q
  cal:=by rw[eH (by simp)];exact h.cal.mod i (g .cal (by simp))
  led:=by rw[eH (by simp)];exact h.led.mod i (g .led (by simp))
  mbk:=h.mbk.mod i (g .mb (by simp) _ ((h.fmb mb).2 rfl))
  mbd:=h.mbd.mod i (g .md (by simp) _ ((h.fmd md).2 rfl))
  bk:=λn b m=>by rw[eH (by simp)];exact(h.bk n b m).mod i (g (.bk n) (by simp))
  nbk:=λn m=>by rw[eH (by simp)];exact h.nbk n m
  bd:=λn=>(h.bd n).mod i λx s=>g (.bd n) (by simp) x ((h.fbd n x).2 s)
  fv:=λx=>by rw[ip]
  fmb:=by rw[eH (by simp)];exact h.fmb
  fmd:=by rw[eH (by simp)];exact h.fmd
  fbd:=λn x=>by rw[eH (by simp)];exact h.fbd n x
  dj:=?_},h.dom,h.dod⟩
 intro a b x j d;by_cases k:a=.v
 ·by_cases f:b=.v
  ·rw[k,f]
  ·rw[k,ip]at j;rw[eH f]at d;exact absurd (j▸d) (o b f)
 ·by_cases f:b=.v
  ·rw[f,ip]at d;rw[eH k]at j;exact absurd (d▸j) (o a k)
  ·rw[eH k]at j;rw[eH f]at d;exact h.dj _ _ _ j d
def af0{c:Nat}(h:hC W v #[iZ c,iG l,.map (some mb),.map (some md),gQ n] vy):(iL vy (pt v 0)).run pQ W=.ok (.agg #[iZ c,iG l,.map (some mb),.map (some md),gQ n]) W:=by
 simp only[iZ,iG]at h|-;simp[go_sem,h]
def Zu{c c' l' mb' md' :Nat}{n' :Int}(h:hC W v #[iZ c,iG l,.map (some mb),.map (some md),gQ n] vy):
  ∃a,(iS vy (pt v 0) (.agg #[iZ c',iG l',.map (some mb'),.map (some md'),gQ n'])).run pQ W=.ok () a/\hC a v #[iZ c',iG l',.map (some mb'),.map (some md'),gQ n'] vy/\de (λy=>y=v) W a:=by
 simp only[iZ,iG]at h|-
 exact⟨((((W.setCell ⟨v,0,none⟩ (iZ c')).setCell ⟨v,1,none⟩ (iG l')).setCell ⟨v,2,none⟩ (.map (some mb'))).setCell ⟨v,3,none⟩ (.map (some md'))).setCell ⟨v,4,none⟩ (gQ n'),
  by simp[go_sem,h,iZ,iG],by simp[go_sem,h,iZ,iG],(((((de.refl (λy=>y=v) W).sc).sc).sc).sc).sc⟩
def kW(h:lw w v F S)(J:S.Ok)(hx:x.Fit)
  (hK:∀C E H F' w',lw w' v F' (S.apply x).2->vG w' C E H (S.apply x).1->de F w w' ->(∀y,F' y->F y\/w.heap.size<=y)->(∀y,cK C y\/cK E y\/cK H y->w.heap.size<=y/\¬F' y)->K (ud (S.apply x).1 C E H) w'):
  Ca pQ 18 #[eY v,vI x] w K:=by
 have hQ:=h;obtain⟨c,l,mb,md,A,D,fp,hr,hF⟩:=h;apply an6;obtain⟨w1,e1,b1,m1⟩:=uT x w;apply cI e1;obtain⟨p,hp0⟩:=dW w.heap.size;rw[<-hp0]at b1|-;obtain⟨w3,e3,b3,m3⟩:=qy w1;apply cI e3;obtain⟨q,hq0⟩:=dW w1.heap.size;rw[<-hq0]at b3|-;have hpq:p<q:=by have:=cB b1;omega
 have M3:=m1.trans m3;have c3:iy w3 p x:=m3.hpk b1 id;have h3:=hr.md0 M3;have hFl:∀y,F y->y<p:=λy a=>by obtain⟨pt,hp⟩:=(hF y).1 a;have:=hr.lt hp;omega
 have hq3:q<w3.heap.size:=cB b3
 have o:∀(e:Int) (W:Wt_),S.apply x=(failR e,S)->M0 w W->hC W q (mC zRp dv dv dv).toArray lx->
   Ca pQ 33 #[.int .i64 e] W λv8 w9=>ru pQ (iS lx (pt q 0) v8) w9 λj=>uc pQ (iL lx (pt q 0)) j λv11=>K v11 j:=by
  intro e W he m b;refine vQ λW1 t=>?_;obtain⟨W2,g2,x2,y2⟩:=pl (r:=failR e) (sT:=dv) (sG:=dv) (sA:=dv) (t.hpk b id) rfl ⟨gJ,gJ,gJ⟩;refine ir g2 (dp (lB x2) ?_);have L:=hK dv dv dv F W2;rw[he]at L;refine L ((hQ.md0 (m.trans t)).mod y2 λy a e=>by grind) (vG.nil _ e) (((m.trans t).to).on y2 λy a=>.inr (by grind)) (λy a=>.inl a) λy a=>?_;rcases a with a|a|a<;>cases a
 apply vT h3.blk;refine qSf0 ?_;apply iW (vm c3);refine TO hx λP X=>?_;have M4:=M3.trans X;have c4:iy P p x:=X.hpk c3 id;have b4:=X.hpk b3 id;refine qS0 ?_;cases n:x.may with
 |false=>
  rw[show(!false)=true from rfl,cy,bZ rfl];exact o 160 P (by unfold Ven.apply;rw[bZ n]) M4 b4
 |true=>
  rw[show(!true)=false from rfl,cy,aZ gL];refine He (hr.md0 M4) J λu Fu w5 Q5 I n5=>?_;have M5:=M4.trans I;have c5:iy w5 p x:=I.hpk c4 id;have b5:=I.hpk b4 id;have v5:=I.hpk (X.hpk h3.blk id) id;have hs5:=M4.size;have hq4:q<P.heap.size:=cB b4;have hs45:=I.size;apply iW (vm c5);refine Mn Q5 J hx λC E H F6 Z a1 a2 a3 a4 a5=>?_;obtain⟨Y,hY⟩:=dW (S.done x);rw[<-hY]at a1 a2|-;refine qS0 ?_;refine qS0 ?_
  have Q:∀y,F6 y->P.heap.size<=y:=λy a=>by
   rcases a4 y a with d|d
   ·exact n5 y d
   ·omega
  have N:∀{y},y<P.heap.size->¬Fu y:=λh1 h2=>by grind
  have b6:=a3.hpk b5 (N hq4);have hvw:v<w.heap.size:=by have:=hFl v hQ.self;omega
  have v6:=a3.hpk v5 (N qZ);have M6:M0 w Z:=M5.on a3 λy a=>.inr (by grind);obtain⟨w7,e7,b7,m7⟩:=qy Z;apply cI e7;obtain⟨z,hz⟩:=dW Z.heap.size;rw[<-hz]at b7|-;obtain⟨t1,t2,t3⟩:=a2.isSl;obtain⟨w8,e8,b8,m8⟩:=pl (r:=Y.2.1) b7 rfl ⟨t1,t2,t3⟩;apply ir e8;have T:M0 Z w8:=m7.on m8 λy a=>gz;have V:=M6.trans T;have Q8:=a1.md0 T;have R8:=a2.mod T eQ;have R:=T.hpk b6 id;have v8:=T.hpk v6 id;have i:S.apply x=if Y.1≠0 then(failR Y.1,S)else(Y.2.1,Y.2.2):=by unfold Ven.apply;rw[aZ (by rw[n];simp),hY]
  by_cases g:Y.1≠0
  ·rw[bZ g]at i;refine qSt1 g ?_;exact o Y.1 w8 i V R
  rw[aZ g]at i;have hY0:Y.1=0:=by simpa using g
  refine qSf1 hY0 ?_;obtain⟨c6,l6,mb6,md6,A6,D6,s,M,k⟩:=Q8;simp only[eY,dr];apply cI (af0 M.blk);obtain⟨w9,e9,b9,U⟩:=Zu (c' :=c6) (l' :=l6) (mb' :=mb6) (md' :=md6) (n' :=Y.2.2.next) v8;apply ir e9;have hv6:∀pt,¬s pt v:=λpt hc=>by have:=Q v ((k v).2 ⟨pt,hc⟩);omega
  have h9:=M.move (λpt _=>hv6 pt) b9 U;have R9:=R8.mod U λy a e=>by grind
  have b9z:=U.hpk b8 (by grind);have b9q:=U.hpk R qZ;apply cI (lB b9z);obtain⟨j,e10,b10,B⟩:=pl (r:=Y.2.1) b9q rfl ⟨t1,t2,t3⟩;refine ir e10 (dp (lB b10) ?_)
  have f:∀y,dY (mj s .v λy=>y=v) y->y=v\/F6 y:=λy ⟨pt,a⟩=>by
   by_cases O:pt=.v
   ·subst O;rw[ip]at a;exact .inl a
   ·rw[eH O]at a;exact .inr ((k y).2 ⟨pt,a⟩)
  have L:=hK C E H (dY (mj s .v λy=>y=v)) j;rw[i]at L;refine L (h9.mod B λpt y a e=>?_).q (R9.mod B λy a e=>?_) (((V.to (G:=F)).trans (U.mono λy _ a=>by rw[a];exact hQ.self)).on B λy a=>gz) (λy a=>?_) λy a=>⟨?_,λhc=>?_⟩
  ·rcases f y ⟨pt,a⟩with d|d
   ·omega
   ·have:=Q y d;omega
  ·grind
  ·rcases f y a with d|d
   ·exact .inl (d▸hQ.self)
   ·grind
  ·grind
  ·rcases f y hc with d|d
   ·grind
   ·exact(a5 y a).2 d
def ya:Tryz.prog.underlying 56=some (.slice 70):=cU
def aB0:lN pQ 70 4 24=true:=cU
def wR{gv:Vt_}{L:List Ac}(Z:th gv (L.map λa=>[oz a]) w)(hl:L.length<=100000)
  (hK:∀c C,jo C 70 4 c L.length (L.flatMap dH)->M0 w C->(∀y,cK c y->w.heap.size<=y)->K c C):Ca pQ 42 #[gv] w K:=by
 apply aD4;apply aA3;obtain⟨p,s⟩:=dW w.heap.size;have G:M0 w (w.alloc (.cells #[dv] 56)):=lm;have z:hC (w.alloc (.cells #[dv] 56)) p #[dv] 56:=by rw[s];simp[go_sem]
 apply cx (pt p 0) (w.alloc (.cells #[dv] 56)) (by rw[s];simp[go_sem,dv]);generalize w.alloc (.cells #[dv] 56)=w1 at G z|-;have Y:=cB z;let I:(Nat->Prop)->Nat->World->Prop:=λX i W=>∃sl,hC W p #[sl] 56/\jo W 70 4 sl (L.take i).length ((L.take i).flatMap dH)/\(∀y,X y↔y=p\/cK sl y)/\∀y,cK sl y->p<y
 delta UV
 refine zj (X0:=λx=>x=p) (T:=Gv) (fc:=dH) (Z.mod G) rS.ac I (λ_ _ _=>False) ?_ (λ_ _ _ _ _ h=>h.elim) (λx hx=>qZ) ⟨dv,z,jo.nil _ _ _,λy=>⟨.inl,λb=>b.elim id λb=>by cases b⟩,λy b=>(by cases b)⟩ ?_ ?_ (λ_ _ _ _ _ h=>h.elim)
 ·rintro X i W W' H ⟨sl,k,g,j,q⟩ R o;exact⟨sl,R.hpk k (o _ ((j _).2 (.inl rfl))),g.mod R λy b=>o y ((j y).2 (.inr b)),j,q⟩
 ·rintro X i hi W r ⟨sl,k,g,j,q⟩ N o hdq hqW zgq KN KJ E V;obtain⟨sa,sc,l,-⟩:=g.isSl;have D:=eA hi;apply cx sl W (by rw[l]at k|-;simp[go_sem,k]);apply cI (O6 zgq);have Q:(L.take i).length<=100000:=by grind
  refine yM (x:=L[i]) (f:=dH) ya (eO aB0) (λ_=>rfl) rfl rfl g qZ qZ λc n F A S=>?_;obtain⟨ta,tc,B,-⟩:=F.isSl;have O:=A.hpk k λhc=>by grind
  apply pH (n.setCell ⟨p,0,none⟩ c) (by rw[B];simp[go_sem,O]);have u:de (λy=>y=p) n (n.setCell ⟨p,0,none⟩ c):=(de.refl (λy=>y=p) n).sc;have U:hC (n.setCell ⟨p,0,none⟩ c) p #[c] 56:=by simp[go_sem,O]
  generalize n.setCell ⟨p,0,none⟩ c=J at u U|-;have hsW:=A.size;have P:=u.size
  have v:∀y,cK c y->p<y:=λy b=>by
   rcases S y b with m|m
   ·exact q y m
   ·omega
  refine E (λy=>y=p\/cK c y) J ⟨c,U,?_,λy=>fd,v⟩ ((A.mono λy _ b=>(j y).2 (.inr b)).trans (u.mono λy _ b=>(j y).2 (.inl b))) λy b=>?_
  ·rw[D];exact F.mod u λy b e=>by grind
  ·rcases b with rfl|b
   ·grind
   ·refine⟨(S y b).imp (λm=>(j y).2 (.inr m)) id,?_⟩;have:=F.lt b;omega
 ·rintro X W d hd ⟨sl,k,g,j,q⟩ N t o;replace g:jo W 70 4 sl (L.take L.length).length ((L.take L.length).flatMap dH):=g;rw[cN]at g;obtain⟨sa,sc,l,-⟩:=g.isSl;unfold VX;simp only[iJ];apply cx sl W (by rw[l]at k|-;simp[go_sem,k]);refine Bz t λJ M=>?_;refine hK sl J (g.mod M λy b e=>?_) (((G.on N λy b=>gz)).on M λy b=>gz) λy b=>by grind
  rcases(o y ((j y).2 (.inr b))).2 with m|m
  ·have:=q y b;omega
  ·omega
abbrev sV:TypeId:=61
def UM:Nat->TypeId
 |3=>70
 |4=>83
 |5=>79
 |_=>76
def xL:Nat->TypeId
 |3=>56
 |4=>57
 |5=>58
 |_=>59
def MN:Nat->Nat
 |3=>4
 |4=>27
 |5=>4
 |_=>6
def stB:Nat->Nat
 |3=>24
 |4=>208
 |5=>24
 |_=>40
def Zb(i:Nat):Tryz.prog.underlying (xL i)=some (.slice (UM i)):=by
 unfold xL UM;split<;>kernel_rfl
def Qg(i:Nat):lN pQ (UM i) (MN i) (stB i)=true:=by
 unfold UM MN stB;split<;>kernel_rfl
def aw6(i:Nat):MN i<=27/\stB i<=208:=by
 unfold MN stB;split<;>exact⟨qZ,qZ⟩
def rN(d n f:Int)(ss:Nat->Value):List Value:=[.int .u32 d,gQ n,gI f,ss 3,ss 4,ss 5,ss 6,ss 7]
def As(d n f:Int)(ss:Nat->Value):Value:=.agg (rN d n f ss).toArray
def vl{α:Type}(f:Nat->α)(i:Nat)(x:α):Nat->α:=λj=>if j=i then x else f j
structure U7(w:Wt_)(b:Nat)(d nx fu:Int)(ss:Nat->Value)(n:Nat->Nat)(cs:Nat->List Value)(lo:Nat):Prop where
 at_:hC w b (rN d nx fu ss).toArray sV
 own:∀i,3<=i->i<=7->jo w (UM i) (MN i) (ss i) (n i) (cs i)
 dj:∀i j y,3<=i->i<=7->3<=j->j<=7->cK (ss i) y->cK (ss j) y->i=j
 nw:∀i y,3<=i->i<=7->cK (ss i) y->lo<=y/\y≠b
def U7.mod{a:Int}{n:Nat->Nat}(h:U7 w b d nx a ss n cs lo)(e:de F w w')(j:¬F b)(g:∀i y,3<=i->i<=7->cK (ss i) y->¬F y):U7 w' b d nx a ss n cs lo:=
 ⟨e.hpk h.at_ j,λi c f=>(h.own i c f).mod e λy k=>g i y c f k,h.dj,h.nw⟩
def dZ(W:Wt_){b:Nat}(i:Nat)(hi:i<8):(iF sV (pt b 0) i).run pQ W=.ok (pt b i) W:=by
 have:i=0\/i=1\/i=2\/i=3\/i=4\/i=5\/i=6\/i=7:=qZ;rcases this with rfl|rfl|rfl|rfl|rfl|rfl|rfl|rfl<;>simp[go_sem]
def U7.ld{j:Int}{n:Nat->Nat}(h:U7 w b d nx j ss n cs lo)(i:Nat)(hi:3<=i)(g:i<=7):(iL (xL i) (pt b i)).run pQ w=.ok (ss i) w:=by
 obtain⟨a,c,f,-⟩:=(h.own i hi g).isSl;have e:=h.at_;have:i=3\/i=4\/i=5\/i=6\/i=7:=qZ;rcases this with rfl|rfl|rfl|rfl|rfl<;>(simp only[xL];rw[f];simp only[rN]at e;rw[f]at e;simp[go_sem,e])
def YE{M:Int}{n:Nat->Nat}(h:U7 w b d nx M ss n cs lo)(i:Nat)(hi:3<=i)(u:i<=7){F:Vt_}{c:LV_}{K:World->Prop}(R:F.cells.toList=c)(x:c.length=MN i)(B:c.all (·.oneCell')=true)(hn:n i<=1000000)(hlo:lo<=w.heap.size)
  (hK:∀o k,U7 k b d nx M (vl ss i o) (vl n i (n i+1)) (vl cs i (cs i++c)) lo->de (λy=>y=b\/cK (ss i) y) w k->(∀y,cK o y->cK (ss i) y\/w.heap.size<=y)->K k):
  rx pQ (jQ (xL i) 1 [(0,F)]) w λv w1=>rx pQ (eg #[xL i,xL i] (xL i) [ss i,v]) w1 λv2 w2=>rv pQ (iF sV (pt b 0) i) w2 λv3 w3=>ru pQ (iS (xL i) v3 v2) w3 K:=by
 have O:F.cells.size=MN i:=by rw[<-mI,R,x]
 have N:=aw6 i;refine oJ [F] (Zb i) (eO (Qg i)) rfl rfl (by intro v hv;rw[eK.1 hv];exact O) qZ ?_;have Y:(([F]:LV_).flatMap (·.cells.toList)).toArray=c.toArray:=by simp[R]
 rw[Y];have V:M0 w (w.alloc (.cells c.toArray (UM i))):=lm
 have r1:Rd (w.alloc (.cells c.toArray (UM i))) (MN i) (.slice (some ⟨w.heap.size,0,none⟩) 1 1) 1 c:=
  ⟨by rw[x];omega,.inr ⟨_,0,1,rfl,cJ _,At.all (fy (by rw[gy,bZ rfl]))⟩⟩
 have s:=h.own i hi u;have hbl:b<w.heap.size:=cB h.at_;refine jR (Zb i) (Zb i) (eO (Qg i)) (s.mod V eQ) r1 B (dD (jE (show n i+1<=1000001 by omega) N.2) (by decide)) λo k S m' n' =>?_;apply cI (dZ k i qZ);have Z:(w.alloc (.cells c.toArray (UM i))).heap.size=w.heap.size+1:=eG ..;have L:de (cK (ss i)) w k:=(V.mono (G:=cK (ss i)) λ_ _ h=>h.elim).trans m'
 have q:∀y,cK o y->cK (ss i) y\/w.heap.size<=y:=λy f=>by
  rcases n' y f with m|m
  ·exact .inl m
  ·exact gz
 have r:=L.hpk h.at_ λx=>(h.nw i b hi u x).2 rfl;obtain⟨a,cc,E,-⟩:=S.isSl
 have D:(iS (xL i) (pt b i) o).run pQ k=.ok () (k.setCell ⟨b,i,none⟩ o)/\hC (k.setCell ⟨b,i,none⟩ o) b (rN d nx M (vl ss i o)).toArray sV:=by
  obtain⟨a0,c0,P,-⟩:=s.isSl;have:i=3\/i=4\/i=5\/i=6\/i=7:=qZ;rcases this with rfl|rfl|rfl|rfl|rfl<;>(simp only[rN]at r;rw[P]at r;refine⟨by simp only[xL];rw[E];simp[go_sem,r],by rw[E];simp[go_sem,r,rN,vl]⟩)
 apply ir D.1;have Q:de (λy=>y=b) k (k.setCell ⟨b,i,none⟩ o):=(de.refl (λy=>y=b) k).sc
 have C:∀y,cK o y->lo<=y/\y≠b:=λy f=>by
  rcases q y f with m|m
  ·exact h.nw i y hi u m
  ·grind
 refine hK o _ ⟨D.2,λj l p=>?_,λJ H y T W X U z t=>?_,λj y l p f=>?_⟩ ((L.mono λy _ f=>.inr f).trans (Q.mono λy _ f=>.inl f)) q
 ·unfold vl;by_cases g:j=i
  ·subst g;rw[bZ rfl,bZ rfl,bZ rfl];exact S.mod Q λy f e=>(C y f).2 e
  ·rw[aZ g,aZ g,aZ g];exact((h.own j l p).mod L λy f x=>g (h.dj j i y l p hi u f x)).mod Q λy f e=>(h.nw j y l p f).2 e
 ·unfold vl at z t;have hlt:∀j,3<=j->j<=7->cK (ss j) y->y<w.heap.size:=λj b1 b2 f=>(h.own j b1 b2).lt f;by_cases I:J=i
  ·by_cases A:H=i
   ·rw[I,A]
   ·rw[bZ I]at z;rw[aZ A]at t;rcases q y z with m|m
    ·rw[I];exact h.dj i H y hi u X U m t
    ·grind
  ·rw[aZ I]at z;by_cases A:H=i
   ·rw[bZ A]at t;rcases q y t with m|m
    ·rw[A];exact h.dj J i y T W hi u z m
    ·grind
   ·rw[aZ A]at t;exact h.dj J H y T W X U z t
 ·unfold vl at f;by_cases g:j=i
  ·grind
  ·rw[aZ g]at f;exact h.nw j y l p f
def ju(x:Int×Od):List Value:=gU x.1::fL x.2
def LN(A:List Ac)(C:List Ct)(P:List Po)(O B:List (Int×Od)):Nat->Nat
 |3=>A.length
 |4=>C.length
 |5=>P.length
 |6=>O.length
 |7=>B.length
 |_=>0
def LC(A:List Ac)(C:List Ct)(P:List Po)(O B:List (Int×Od)):Nat->List Value
 |3=>A.flatMap dH
 |4=>C.flatMap fI
 |5=>P.flatMap ec
 |6=>O.flatMap ju
 |7=>B.flatMap ju
 |_=>[]
abbrev SB(w:Wt_)(b:Nat)(d nx fu:Int)(ss:Nat->Value)(A:List Ac)(C:List Ct)(P:List Po)(O B:List (Int×Od))(lo:Nat):Prop:=U7 w b d nx fu ss (LN A C P O B) (LC A C P O B) lo
def XS(ss:Nat->Value)(b:Nat):Nat->Prop:=λy=>y=b\/∃i,3<=i/\i<=7/\cK (ss i) y
section
variable{w:Wt_}{b lo:Nat}{d nx fu:Int}{ss:Nat->Value}{A:List Ac}{C:List Ct}{P:List Po}{O B:List (Int×Od)}
def SB.modX{H:NP_}{w' :Wt_}(h:SB w b d nx fu ss A C P O B lo)(c:de H w w')(a:∀y,XS ss b y->¬H y):SB w' b d nx fu ss A C P O B lo:=
 h.mod c (a b (.inl rfl)) λi y g e f=>a y (.inr ⟨i,g,e,f⟩)
def SB.ltX(h:SB w b d nx fu ss A C P O B lo){y:Nat}(a:XS ss b y):y<w.heap.size:=by
 rcases a with rfl|⟨i,e,c,a⟩
 ·exact cB h.at_
 ·exact(h.own i e c).lt a
def KE{i:Nat}(hi:3<=i)(r:i<=7){u:Vt_}{c:LV_}{p:List Ac}{l:List Ct}{q:List Po}{o m:List (Int×Od)}{K:World->Prop}(h:SB w b d nx fu ss A C P O B lo)(L:u.cells.toList=c)(H:c.length=MN i)(k:c.all (·.oneCell')=true)(M:LN A C P O B i<=1000000)(s:lo<=w.heap.size)
  (S:vl (LN A C P O B) i (LN A C P O B i+1)=LN p l q o m)(R:vl (LC A C P O B) i (LC A C P O B i++c)=LC p l q o m)
  (G:∀f e,SB e b d nx fu f p l q o m lo->de (XS ss b) w e->(∀y,XS f b y->XS ss b y\/w.heap.size<=y)->K e):
  rx pQ (jQ (xL i) 1 [(0,u)]) w λv x=>rx pQ (eg #[xL i,xL i] (xL i) [ss i,v]) x λI N=>rv pQ (iF sV (pt b 0) i) N λE F=>ru pQ (iS (xL i) E I) F K:=by
 refine YE h i hi r L H k M s λz e Q J D=>G (vl ss i z) e ?_ (J.mono λy _ a=>a.imp id λa=>⟨i,hi,r,a⟩) λy a=>?_
 ·grind
 ·rcases a with a|⟨j,n,t,a⟩
  ·exact .inl (.inl a)
  ·unfold vl at a;by_cases g:j=i
   ·rw[bZ g]at a;exact(D y a).imp (λh=>.inr ⟨i,hi,r,h⟩) id
   ·rw[aZ g]at a;exact .inl (.inr ⟨j,n,t,a⟩)
end
def tH{α:Type}{f g:Nat->α}{i:Nat}{x:α}(c:g i=x)(a:∀j,j≠i->g j=f j):vl f i x=g:=by
 funext j;unfold vl;by_cases h:j=i
 ·rw[bZ h,h,c]
 ·rw[aZ h,a j h]
def LN4(A:List Ac)(C:List Ct)(P:List Po)(O B:List (Int×Od))(k:Ct):vl (LN A C P O B) 4 (LN A C P O B 4+1)=LN A (C++[k]) P O B:=
 tH (by simp[LN]) λj a=>by unfold LN;split<;>first|rfl|exact absurd rfl a
def LC4(A:List Ac)(C:List Ct)(P:List Po)(O B:List (Int×Od))(k:Ct):vl (LC A C P O B) 4 (LC A C P O B 4++fI k)=LC A (C++[k]) P O B:=
 tH (by simp[LC]) λj a=>by unfold LC;split<;>first|rfl|exact absurd rfl a
def LN5(A:List Ac)(C:List Ct)(P:List Po)(O B:List (Int×Od))(k:Po):vl (LN A C P O B) 5 (LN A C P O B 5+1)=LN A C (P++[k]) O B:=
 tH (by simp[LN]) λj a=>by unfold LN;split<;>first|rfl|exact absurd rfl a
def LC5(A:List Ac)(C:List Ct)(P:List Po)(O B:List (Int×Od))(k:Po):vl (LC A C P O B) 5 (LC A C P O B 5++ec k)=LC A C (P++[k]) O B:=
 tH (by simp[LC]) λj a=>by unfold LC;split<;>first|rfl|exact absurd rfl a
def LN6(A:List Ac)(C:List Ct)(P:List Po)(O B:List (Int×Od))(k:Int×Od):vl (LN A C P O B) 6 (LN A C P O B 6+1)=LN A C P (O++[k]) B:=
 tH (by simp[LN]) λj a=>by unfold LN;split<;>first|rfl|exact absurd rfl a
def LC6(A:List Ac)(C:List Ct)(P:List Po)(O B:List (Int×Od))(k:Int×Od):vl (LC A C P O B) 6 (LC A C P O B 6++ju k)=LC A C P (O++[k]) B:=
 tH (by simp[LC]) λj a=>by unfold LC;split<;>first|rfl|exact absurd rfl a
def LN7(A:List Ac)(C:List Ct)(P:List Po)(O B:List (Int×Od))(k:Int×Od):vl (LN A C P O B) 7 (LN A C P O B 7+1)=LN A C P O (B++[k]):=
 tH (by simp[LN]) λj a=>by unfold LN;split<;>first|rfl|exact absurd rfl a
def LC7(A:List Ac)(C:List Ct)(P:List Po)(O B:List (Int×Od))(k:Int×Od):vl (LC A C P O B) 7 (LC A C P O B 7++ju k)=LC A C P O (B++[k]):=
 tH (by simp[LC]) λj a=>by unfold LC;split<;>first|rfl|exact absurd rfl a
def VL(n:Int)(o:Od)(W:Wt_):(Instr.build 76 #[(0,gU n),(1,oG o)]).run pQ W=.ok (.agg (ju (n,o)).toArray) W:=by
 simp[go_sem,oG,fL,ju]
def FJ{f:Int}(h:hC W p (rN d n f ss).toArray sV):(iL sV (pt p 0)).run pQ W=.ok (As d n f ss) W:=
 gm (P:=pQ) (t:=sV) (n:=7) cU cU rfl (At.all h)
def Uz{cs:Array Value}{f:Int}(h:hC W p cs sV)(r:cs.size=8)(j:∀i,3<=i->i<=7->∃a n c,ss i=.slice a n c):
  ∃k,(iS sV (pt p 0) (As d n f ss)).run pQ W=.ok () k/\hp k p=some (.cells (rN d n f ss).toArray sV (0,0))/\de (λb=>b=p) W k:=by
 have q:cs.toList.length=8:=by simpa using r
 have s:Tryz.prog.cellsOf sV=7+1:=cU
 have g:(rN d n f ss).all (·.oneCell')=true:=by
  obtain⟨_,_,_,u⟩:=j 3 qZ qZ;obtain⟨_,_,_,v⟩:=j 4 qZ qZ;obtain⟨_,_,_,l⟩:=j 5 qZ qZ;obtain⟨_,_,_,o⟩:=j 6 qZ qZ;obtain⟨_,_,_,m⟩:=j 7 qZ qZ;unfold rN;rw[u,v,l,o,m];rfl
 have e:=xw (P:=pQ) (t:=sV) (b:=p) (off:=0) (cs:=rN d n f ss) s rfl h (by show 0+8<=cs.size;omega) g;refine⟨W.setRow p (mh cs.toList 0 (rN d n f ss)).toArray,?_,?_,(de.refl (λb=>b=p) W).setRow (.inl rfl) _⟩
 ·have:(jH sV (pt p 0) (As d n f ss)).run pQ W=_:=e;unfold jH at this;exact this
 ·rw[ED,bZ rfl,h,tp (by rw[q];rfl)]
def AA(s:Vt_):Nat->Value:=λi=>if i=3 then s else dv
def CR(W:Wt_):∃a,(iA sV true (.tuple #[])).run pQ W=.ok (pt W.heap.size 0) a/\hC a W.heap.size (rN 0 0 0 (AA dv)).toArray sV/\M0 W a:=
 ⟨W.alloc (.cells (rN 0 0 0 (AA dv)).toArray sV),by simp[go_sem,rN,AA,dv],by simp[go_sem],(de.refl _ W).alloc _⟩
def Kz(d n f:Int)(s:Vt_)(W:Wt_)(e:∃a n c,s=.slice a n c):(Instr.build sV #[(0,gU d),(1,gQ n),(2,gI f),(3,s)]).run pQ W=.ok (As d n f (AA s)) W:=by
 obtain⟨_,_,_,rfl⟩:=e;simp[go_sem,As,rN,AA,dv]
def wP(S:Ven)(i:Nat):List Po:=(S.nums.take i).flatMap S.led.holders
def wi(S:Ven)(i:Nat):List (Int×Od):=(S.nums.take i).flatMap λn=>(S.bk n).all.map λo=>(n,o)
def vV(S:Ven)(i:Nat):List (Int×Od):=(S.nums.take i).flatMap λn=>(S.bd n).map λo=>(n,o)
def aC2{i:Nat}(hi:i<S.cal.l.length):S.nums.take (i+1)=S.nums.take i++[S.cal.l[i].spec.num]:=by
 have a:i<S.nums.length:=by unfold Ven.nums;rw[cz];exact hi
 rw[eA a];simp[Ven.nums]
def uM(h:S.led.Ok)(i:Nat):(wP S i).length<=64*i:=by
 unfold wP;induction i with
 |zero=>simp
 |succ i a=>
  by_cases b:i<S.nums.length
  ·rw[eA b,eJ,cD];have:=tV h S.nums[i];simp only[eu,qN,ew];omega
  ·rw[cT qZ];rw[cT qZ]at a;omega
def tX(h:vg S)(i:Nat):(wi S i).length<=200*i:=by
 unfold wi;induction i with
 |zero=>simp
 |succ i a=>
  by_cases b:i<S.nums.length
  ·rw[eA b,eJ,cD];have e:=(h.side S.nums[i] true).1;have d:=(h.side S.nums[i] false).1
   have f:((S.bk S.nums[i]).all.map λo=>(S.nums[i],o)).length<=200:=by
    rw[cz];unfold Bk.all;rw[cD];omega
   simp only[eu,qN,ew];omega
  ·rw[cT qZ];rw[cT qZ]at a;omega
def tO(h:vg S)(i:Nat):(vV S i).length<=50*i:=by
 unfold vV;induction i with
 |zero=>simp
 |succ i a=>
  by_cases b:i<S.nums.length
  ·rw[eA b,eJ,cD];have d:=h.bdl S.nums[i];simp only[eu,qN,ew,cz];omega
  ·rw[cT qZ];rw[cT qZ]at a;omega
section
variable{w:Wt_}{K:cG}{v c l mb md:Nat}{A:List (Int×Nat)}{D:List (Int×Value)}{fp:Pt->Nat->Prop}{S:Ven}
def mK(h:ik w v c l mb md A D fp S)(hok:S.Ok)
  (hK:∀F b J w',SB w' b S.cal.day S.next S.led.fund F S.led.all S.cal.l (S.nums.flatMap S.led.holders) (S.nums.flatMap λn=>(S.bk n).all.map λo=>(n,o)) (S.nums.flatMap λn=>(S.bd n).map λo=>(n,o)) J->w.heap.size<=J->M0 w w' ->w.heap.size<=b->K (As S.cal.day S.next S.led.fund F) w'):
  Ca pQ 20 #[eY v] w K:=by
 apply an3;obtain⟨n0,hn0⟩:=dW w.heap.size
 have hlay:∃w1,w.alloc (.cells #[eY v] 39)=w1/\w1.heap.size=n0+1/\M0 w w1/\hC w1 n0 #[eY v] 39:=by
  refine⟨_,rfl,by simp[go_sem,hn0],(de.refl _ w).alloc _,?_⟩;simp[go_sem,hn0]
 obtain⟨w1,hw1,hsz1,U,b1⟩:=hlay;apply cx (pt n0 0) w1 (by rw[<-hw1,hn0];rfl);clear hw1;obtain⟨w2,e2,b2,m2⟩:=CR w1;apply cI e2;obtain⟨p2,hp2⟩:=dW (n0+1);rw[hsz1,<-hp2]at b2|-;have M2:=U.trans m2;have h2:=h.md0 M2;have g0:=m2.hpk b1 id;have lv0:∀{W},hC W n0 #[eY v] 39->(iL 39 (pt n0 0)).run pQ W=.ok (eY v) W:=λhW=>by simp[go_sem,hW,eY]
 apply cI (lv0 g0);apply vT h2.blk;refine qSf0 ?_;apply cI (lv0 g0);simp only[eY,dr];refine cI (jk 1 qZ _) (cI (ld1 _ h2.blk) ?_);refine ug h2.led λw3 m3=>?_;have hg0:S.led.getV 0=(⟨0,S.led.fund,false,false⟩,0):=rfl;rw[hg0];refine qS0 ?_;refine qS0 ?_;obtain⟨w4,w5,e4,e5,b5,m5⟩:=C0 ⟨0,S.led.fund,false,false⟩ w3;obtain⟨ra,hra⟩:=dW w3.heap.size;refine cI e4 (ir e5 ?_);rw[<-hra]at b5|-;have M5:=(M2.trans m3).trans m5;have h5:=h.md0 M5;have g5:=m5.hpk (m3.hpk g0 id) id;have p5:=m5.hpk (m3.hpk b2 id) id;obtain⟨J,hlo⟩:=dW w5.heap.size;have hp25:p2<J:=by rw[hlo];exact cB p5
 have Q:S.led.Ok:=hok.led.led;have hal:=Q.len;refine dK.at (λst W=>∃sb s,st=(.pointer (some ⟨sb,0,none⟩),())/\SB W sb S.cal.day S.next S.led.fund (AA s) S.led.all [] [] [] [] J/\J<=sb/\M0 w5 W) ?_ ?_
 ·have T:M0 w5 w5.drew:=mP;have hsu:w5.drew.heap.size=w5.heap.size:=rfl;have hu:=h5.md0 T;have gu:=T.hpk g5 id;have bu:=T.hpk b5 id
  try dsimp only
  generalize w5.drew=u at T hsu hu gu bu|-
  have fx:∀W,M0 u W->(iL 2 (pt ra 1)).run pQ W=.ok (gI S.led.fund) W/\(iL 24 (pt v 4)).run pQ W=.ok (gQ S.next) W/\(iL 39 (pt n0 0)).run pQ W=.ok (eY v) W/\(iL 34 (pt v 1)).run pQ W=.ok (iG l) W/\(iL 33 (pt v 0)).run pQ W=.ok (iZ c) W:=λW m=>by
   have hW:=hu.md0 m;have bW:=m.hpk bu id;exact⟨by simp[go_sem,bW,dH],wD _ hW.blk,lv0 (m.hpk gu id),ld1 _ hW.blk,EQ _ hW.blk⟩
  have fin:∀(W:Wt_) (sb:Nat) (s:Vt_) (K2:World->Prop),M0 u W->hC W sb (rN 0 0 0 (AA dv)).toArray sV->J<=sb->jo W 70 4 s S.led.all.length (S.led.all.flatMap dH)->(∀y,cK s y->J<=y/\y≠sb)->
    (∀t,SB t sb S.cal.day S.next S.led.fund (AA s) S.led.all [] [] [] [] J->M0 w5 t->K2 t)->ru pQ (iS sV (pt sb 0) (As S.cal.day S.next S.led.fund (AA s))) W K2:=by
   intro W sb s K2 m hb hsb ho hs hk;obtain⟨sa,sc,R,-⟩:=ho.isSl
   obtain⟨t,e',b',m'⟩:=Uz (d:=S.cal.day) (n:=S.next) (f:=S.led.fund) (ss:=AA s) hb rfl λi _ _=>by
    unfold AA;split
    ·exact⟨_,_,_,R⟩
    ·exact⟨none,0,0,rfl⟩
   refine ir e' (hk t ⟨b',λi hi hj=>?_,λi j y hi1 hi2 hj1 hj2 h1 h2=>?_,λi y hi hj g=>?_⟩ ((T.trans m).on m' λy g=>gz))
   ·have hi' :i=3\/i=4\/i=5\/i=6\/i=7:=qZ;rcases hi' with rfl|rfl|rfl|rfl|rfl
    ·exact ho.mod m' λy g e=>(hs y g).2 e
    ·exact jo.nil _ _ _
    ·exact jo.nil _ _ _
    ·exact jo.nil _ _ _
    ·exact jo.nil _ _ _
   ·unfold AA at h1 h2;by_cases hi:i=3
    ·by_cases hj:j=3
     ·rw[hi,hj]
     ·rw[aZ hj]at h2;cases h2
    ·rw[aZ hi]at h1;cases h1
   ·unfold AA at g;by_cases hi3:i=3
    ·rw[bZ hi3]at g;exact hs y g
    ·rw[aZ hi3]at g;cases g
  have rU:=fx u lX;apply dp rU.2.2.1;simp only[eY,dr];refine dw (jk 0 qZ) (dp rU.2.2.2.2 ?_);apply dp rU.2.2.1;simp only[eY,dr];refine dw (jk 4 qZ) (dp rU.2.1 ?_);refine qPv0 (pt ra 1) (dp rU.1 ?_);apply dp rU.2.2.1;simp only[eY,dr];refine dw (jk 1 qZ) (dp rU.2.2.2.1 ?_);refine⟨?_,?_⟩
  ·apply LB hu.cal;refine⟨rU.2.2.2.1,rU.2.2.1,rU.1,rU.2.1,rU.2.2.1,?_,?_⟩
   ·refine tU hu.led λgv u1 ht U=>?_;have r1:=fx u1 U;refine⟨r1.1,r1.2.1,r1.2.2.1,?_,?_⟩
    ·refine wR ht.m qZ λs u2 o2 m2 n2=>?_;have M:=U.trans m2;have G:=fx u2 M;refine⟨G.1,G.2.1,G.2.2.1,?_⟩;obtain⟨sa,sc,R,-⟩:=o2.isSl;apply dw (λW=>Kz _ _ _ _ W ⟨_,_,_,R⟩);obtain⟨u3,e3,b3,E⟩:=CR u2;apply cI e3;have r3:=fx u3 (M.trans E);refine⟨r3.1,r3.2.1,r3.2.2.1,?_⟩;have hs2:=U.size;have hs3:=m2.size;exact fin u3 _ s _ (M.trans E) b3 qZ (o2.mod E eQ) (λy g=>⟨by have:=n2 y g;omega,by have:=o2.lt g;omega⟩) λt hW' mW' =>⟨_,s,rfl,hW',qZ,mW'⟩
    ·obtain⟨u2,e2',N,p⟩:=CR u1;apply cI e2';have G:=fx u2 (U.trans p);refine⟨G.1,G.2.1,G.2.2.1,?_⟩;refine wR (ht.m.mod p) qZ λs u3 o3 E n3=>?_;have M:=(U.trans p).trans E;have r3:=fx u3 M;refine⟨r3.1,r3.2.1,r3.2.2.1,?_⟩;obtain⟨sa,sc,R,-⟩:=o3.isSl;apply dw (λW=>Kz _ _ _ _ W ⟨_,_,_,R⟩);have hs1:=U.size;have hs2:=cB N;exact fin u3 _ s _ M (E.hpk N id) qZ o3 (λy g=>⟨by have:=n3 y g;omega,by have:=n3 y g;omega⟩) λt hW' mW' =>⟨_,s,rfl,hW',qZ,mW'⟩
   ·obtain⟨u2,e2',N,p⟩:=CR u;apply cI e2';have G:=fx u2 p;refine⟨G.2.2.2.1,G.2.2.1,G.1,G.2.1,G.2.2.1,?_⟩;refine tU (hu.md0 p).led λgv u1 ht U=>?_;have r1:=fx u1 (p.trans U);refine⟨r1.1,r1.2.1,r1.2.2.1,?_⟩;refine wR ht.m qZ λs u3 o3 E n3=>?_;have M:=(p.trans U).trans E;have r3:=fx u3 M;refine⟨r3.1,r3.2.1,r3.2.2.1,?_⟩;obtain⟨sa,sc,R,-⟩:=o3.isSl;apply dw (λW=>Kz _ _ _ _ W ⟨_,_,_,R⟩);have hs1:=U.size;have hs2:=cB N;exact fin u3 _ s _ M (E.hpk (U.hpk N id) id) qZ o3 (λy g=>⟨by have:=n3 y g;omega,by have:=n3 y g;omega⟩) λt hW' mW' =>⟨_,s,rfl,hW',qZ,mW'⟩
  ·obtain⟨u2,e2',N,p⟩:=CR u;apply cI e2';have G:=fx u2 p;refine⟨G.2.2.2.1,G.2.2.1,G.1,G.2.1,G.2.2.1,G.2.2.2.2,G.2.2.1,?_⟩;apply LB (hu.md0 p).cal;refine⟨G.2.2.2.1,G.2.2.1,G.1,G.2.1,G.2.2.1,?_⟩;refine tU (hu.md0 p).led λgv u1 ht U=>?_;have r1:=fx u1 (p.trans U);refine⟨r1.1,r1.2.1,r1.2.2.1,?_⟩;refine wR ht.m qZ λs u3 o3 E n3=>?_;have M:=(p.trans U).trans E;have r3:=fx u3 M;refine⟨r3.1,r3.2.1,r3.2.2.1,?_⟩;obtain⟨sa,sc,R,-⟩:=o3.isSl;apply dw (λW=>Kz _ _ _ _ W ⟨_,_,_,R⟩);have hs1:=U.size;have hs2:=cB N;exact fin u3 _ s _ M (E.hpk (U.hpk N id) id) qZ o3 (λy g=>⟨by have:=n3 y g;omega,by have:=n3 y g;omega⟩) λt hW' mW' =>⟨_,s,rfl,hW',qZ,mW'⟩
 rintro _ w6 ⟨sb,s,rfl,q6,hsb,m6⟩;unfold OH;intro _;have hs6:=m6.size;have h6:=h5.md0 m6;have g6:=m6.hpk g5 id;have p6:=m6.hpk p5 id;have M6:=M5.trans m6;apply cI (lv0 g6);simp only[eY,dr];refine cI (jk 0 qZ _) (cI (EQ _ h6.blk) ?_);refine zq h6.cal λgv w7 ht m7=>?_;have h7:=h6.md0 m7;have g7:=m7.hpk g6 id;have p7:=m7.hpk p6 id;have q7:=SB.modX q6 m7 eQ;have M7:=M6.trans m7;have hfl:∀pt y,fp pt y->y<n0:=λpt y g=>by rw[hn0];exact h.lt g
 have hXlo:∀{F:Nat->Value} {W:Wt_} {C:List Ct} {P:List Po} {O B:List (Int×Od)},SB W sb S.cal.day S.next S.led.fund F S.led.all C P O B J->∀y,XS F sb y->J<=y:=λhh y g=>by
  rcases g with rfl|⟨i,hi,hj,g⟩
  ·exact hsb
  ·exact(hh.nw i y hi hj g).1
 have hs7:=m7.size;have hcl:S.cal.l.length<=16:=hok.cal.len;let I:(Nat->Prop)->Nat->World->Prop:=λX i W=>∃F,SB W sb S.cal.day S.next S.led.fund F S.led.all (S.cal.l.take i) (wP S i) (wi S i) (vV S i) J/\∀y,X y↔XS F sb y
 delta RQ
 refine CX (X0:=XS (AA s) sb) (fv:=λk:Ct=>.agg (fI k).toArray) (asg:=λx W K=>rx pQ (nE oT) W λv w1=>nj pQ (jH oT v x) w1 λw2=>K v w2) (Pv:=AR oT fI) (xs:=S.cal.l) ht Ar wQ I (λ_ _ _=>False) ?_ (λ_ _ _ _ _ h=>h.elim) (λy g=>q7.ltX g) ⟨AA s,q7,λ_=>fd⟩ ?_ ?_ (λ_ _ _ _ _ h=>h.elim)
 ·rintro X i W t H ⟨F,i1,i2⟩ hm hX;exact⟨F,i1.modX hm λy g=>hX y ((i2 y).2 g),i2⟩
 ·rintro X i hi W q vv ⟨F,i1,i2⟩ mW hX hdq hqW ⟨rfl,zgq⟩ ⟨rec0,hrec⟩ KN KJ hKN hKJ;obtain⟨k,hk⟩:=dW (S.cal.l[i]);have hk' :k=S.cal.l[i]'hi:=hk;rw[<-hk']at zgq;obtain⟨n,hn⟩:=dW k.spec.num;have hi16:i<16:=by have:i<S.cal.l.length:=hi;omega
  have hct:=eA (l:=S.cal.l) hi;rw[<-hk']at hct;have hnt:=aC2 (S:=S) hi;have hnk:S.cal.l[i].spec.num=n:=by rw[hn,hk']
  rw[hnk]at hnt;have L:∀y,XS (AA s) sb y->J<=y:=hXlo q7;have hW:=h7.mod mW λpt y g V=>by have:=hfl pt y g;have:=L y V;omega
  have gW:=mW.hpk g7 λV=>by have:=L _ V;omega
  have hlX:∀y,XS F sb y->y<q/\y≠w7.heap.size+1/\J<=y:=λy g=>by
   have h1:=hX y ((i2 y).2 g);refine⟨h1.1,?_,hXlo i1 y g⟩;rcases h1.2 with Y|Y
   ·have:=q7.ltX Y;omega
   ·omega
  refine cx (pt q 0) W (by simp[go_sem]) (cx (pt q 0) W (by simp[go_sem]) ?_);refine qSv3 (gU n) zgq G9 hn ?_
  have hlay:∃W2,(W.alloc (.cells #[.int .u32 0] 23)).setCell ⟨W.heap.size,0,none⟩ (gU n)=W2/\M0 W W2/\hC W2 W.heap.size #[.int .u32 n] 23:=
   ⟨_,rfl,lm.setCell (.inr (cJ _)) _ _,by simp[go_sem]⟩
  obtain⟨W2,hW2,mW2,bn⟩:=hlay;apply cx (pt W.heap.size 0) (W.alloc (.cells #[.int .u32 0] 23)) (by simp[go_sem]);apply pH W2 (by rw[<-hW2];simp[go_sem]);clear hW2;obtain⟨pn,hpn⟩:=dW W.heap.size;rw[<-hpn]at bn|-;have hpnl:=cB bn;have i3:=i1.modX mW2 eQ;have gq2:=mW2.hpk zgq id;have hV2:=hW.md0 mW2;have g2:=mW2.hpk gW id;have rc2:=mW2.keep (hrec:hp W _=_) id;have hsW2:=mW2.size;have hn0W:n0<W.heap.size:=cB gW;have hlW:w7.heap.size+1<W.heap.size:=qZ;have ln:∀{t},hC t pn #[.int .u32 n] 23->(iL 23 (pt pn 0)).run pQ t=.ok (gU n) t:=λhh=>by simp[go_sem,hh]
  have hnX:∀y,XS F sb y->y≠n0/\y≠pn/\y≠w7.heap.size+1/\∀pt,¬fp pt y:=λy g=>by
   have h1:=hlX y g;have h2:=i1.ltX g;exact⟨qZ,qZ,h1.2.1,λpt V=>by have:=hfl pt y V;omega⟩
  let ST:World->Prop:=λt=>de (XS F sb) W2 t;have keep:∀{t},ST t->ik t v c l mb md A D fp S/\hC t n0 #[eY v] 39/\hC t pn #[.int .u32 n] 23/\(∃r,hp t (w7.heap.size+1)=some (.loop r)):=λm=>⟨hV2.mod m λpt y g V=>(hnX y V).2.2.2 pt g,m.hpk g2 λV=>(hnX _ V).1 rfl,m.hpk bn λV=>(hnX _ V).2.1 rfl,rec0,m.keep rc2 λV=>(hnX _ V).2.2.1 rfl⟩
  have sub:∀{z:Nat->Value} {t W'' :Wt_},W2.heap.size<=t.heap.size->(∀y,XS z sb y->XS F sb y\/W2.heap.size<=y)->de (XS z sb) t W'' ->ST t->ST W'' :=by
   intro z t W'' hle hs m hst;exact de.on (hst:de (XS F sb) W2 t) m λy g=>hs y g
  refine cI (dZ W2 4 qZ) (cI (i3.ld 4 qZ qZ) ?_);apply jq (fI k) 26 ME yV (eE k) (At.all gq2);refine KE (i:=4) qZ qZ (c:=fI k) i3 rfl (eE k) (sy k) (by show(S.cal.l.take i).length<=_;rw[cZ];omega) qZ (LN4 _ _ _ _ _ k) (LC4 _ _ _ _ _ k) λss1 W3 q3 m3 n3=>?_;have st3:ST W3:=m3;have T:M0 W3 W3.drew:=mP;have q4:=q3.modX T eQ;have st4:ST W3.drew:=st3.trans (T.to);have hs4:W3.drew.heap.size=W3.heap.size:=rfl
  try dsimp only
  generalize W3.drew=W4 at T q4 st4 hs4|-;have hs23:=st4.size;obtain⟨hV4,g4,n4,-⟩:=keep st4;apply dp (lv0 g4);simp only[eY,dr];refine dw (jk 1 qZ) (dp (ld1 _ hV4.blk) ?_);apply dp (ln n4);refine yJ hV4.led (by have:=xo hok.cal hok.led;omega) λgv5 W5 ht5 m5=>?_;have q5:=q4.modX m5 eQ;have st5:ST W5:=st4.trans (m5.to);obtain⟨-,-,-,hrc5⟩:=keep st5;have hs5:=st5.size;obtain⟨H,hH⟩:=dW (S.led.holders n);rw[<-hH]at ht5;have hHl:H.length<=64:=by rw[hH];exact tV Q n
  have hpl:=uM Q i
  delta UB
  refine Lh (l0:=w7.heap.size+1) (X0:=XS ss1 sb) (fv:=tn) (asg:=λx W K=>rv pQ (iA 79 true (.tuple #[])) W λv w1=>ru pQ (iS 79 v x) w1 λw2=>K v w2) (Pv:=AR 79 ec) (xs:=H) hrc5 ht5.m (wF rS.po) wQ
   (λX j t=>∃z,SB t sb S.cal.day S.next S.led.fund z S.led.all (S.cal.l.take i++[k]) (wP S i++H.take j) (wi S i) (vV S i) J/\∀y,X y↔XS z sb y) (λ_ _ _=>False) ?_ (λ_ _ _ _ _ h=>h.elim) (λy g=>q5.ltX g) ⟨ss1,by rw[kw,ew];exact q5,λ_=>fd⟩ ?_ ?_ (λ_ _ _ h=>h.elim)
  ·rintro X j t W'' H' ⟨z,j1,j2⟩ hm hX';exact⟨z,j1.modX hm λy g=>hX' y ((j2 y).2 g),j2⟩
  ·rintro X j hj W6 qv vv ⟨z,j1,j2⟩ mW6 hX6 hdq6 hqW6 ⟨rfl,gv6⟩ KN2 KJ2 hKN2 hKJ2;have htk:=eA (l:=H) hj;have lo6:J<=W6.heap.size:=by have:=mW6.size;omega
   refine cI (dZ W6 5 qZ) (cI (j1.ld 5 qZ qZ) ?_);have gv6' :=gv6;unfold ec at gv6';apply cx (tn H[j]) W6 (by simp[go_sem,gv6',tn]);refine KE (i:=5) qZ qZ (c:=ec H[j]) j1 rfl rfl rfl (by show(wP S i++H.take j).length<=_;rw[cD,cZ];omega) lo6 (LN5 _ _ _ _ _ H[j]) (LC5 _ _ _ _ _ H[j]) λss2 W7 q7' m7' n7' =>?_;refine hKN2 (XS ss2 sb) W7 ⟨ss2,by rw[htk,<-df];exact q7',λ_=>fd⟩ (m7'.mono λy _ g=>(j2 y).2 g) λy g=>⟨(n7' y g).imp (j2 y).2 id,q7'.ltX g⟩
  ·rintro X W6 ⟨ss2,j1,j2⟩ mW6 hX6;rw[show H.take H.length=H from cN]at j1;have s12:∀y,XS ss1 sb y->XS F sb y\/W2.heap.size<=y:=n3
   have s2:∀y,XS ss2 sb y->XS F sb y\/W2.heap.size<=y:=λy g=>by
    rcases(hX6 y ((j2 y).2 g)).2 with Y|Y
    ·exact s12 y Y
    ·exact gz
   have st6:ST W6:=sub hs5 s12 mW6 st5;unfold VY;simp only[iJ];have mdr6:M0 W6 W6.drew:=mP;have q6' :=j1.modX mdr6 eQ;have st7:ST W6.drew:=st6.trans (mdr6.to)
   try dsimp only
   generalize W6.drew=W7 at mdr6 q6' st7|-;obtain⟨hV7,g7',n7',-⟩:=keep st7;apply dp (lv0 g7');simp only[eY,dr];have hsome:(eR S.cal.l n).isSome=true:=vj.1 (by rw[hn];exact dn (by rw[hk];exact cC hi));obtain⟨b,hb,hB⟩:=Wm hV7 (n:=n) hsome;refine dw (jk 2 qZ) (dp (IL _ hV7.blk) ?_);apply dp (ln n7');apply li (xz hV7.mbk hb);refine Ce hB λgv8 W8 ht8 m8=>?_;have q8:=q6'.modX m8 eQ;have st8:ST W8:=st7.trans (m8.to);obtain⟨-,-,-,hrc8⟩:=keep st8;have hs8:=st8.size;obtain⟨Z,hAl⟩:=dW ((S.bk n).all);have ht8' :th gv8 (Z.map λo=>[oG o]) W8:=by rw[hAl];exact ht8
   have hAll:Z.length<=200:=by rw[hAl];exact hB.all.1
   have hol:=tX hok.ord i
   delta O7
   refine Lh (l0:=w7.heap.size+1) (X0:=XS ss2 sb) (fv:=oG) (asg:=λx W K=>rv pQ (iA pz true (.tuple #[])) W λv w1=>ru pQ (iS pz v x) w1 λw2=>K v w2) (Pv:=AR pz fL) (xs:=Z) hrc8 ht8' (wF rS.od) wQ
    (λX j t=>∃z,SB t sb S.cal.day S.next S.led.fund z S.led.all (S.cal.l.take i++[k]) (wP S i++H) (wi S i++(Z.take j).map λo=>(n,o)) (vV S i) J/\(∀y,X y↔XS z sb y)) (λ_ _ _=>False) ?_ (λ_ _ _ _ _ h=>h.elim) (λy g=>q8.ltX g) ⟨ss2,by simpa using q8,λ_=>fd⟩ ?_ ?_ (λ_ _ _ h=>h.elim)
   ·rintro X j t W'' H' ⟨z,j1,j2⟩ hm hX';exact⟨z,j1.modX hm λy g=>hX' y ((j2 y).2 g),j2⟩
   ·rintro X j hj W9 qv vv ⟨z,j1',j2'⟩ mW9 hX9 hdq9 hqW9 ⟨rfl,gv9⟩ KN2 KJ2 hKN2 hKJ2;have htk:=eA (l:=Z) hj;have lo9:J<=W9.heap.size:=by have:=mW9.size;omega
    have n9:=(keep (sub hs8 s2 mW9 st8)).2.2.1;refine cI (dZ W9 6 qZ) (cI (j1'.ld 6 qZ qZ) ?_);apply cI (ln n9);apply cI (lM (o:=Z[j]) (At.all gv9));apply cI (VL n Z[j] W9);refine KE (i:=6) qZ qZ (c:=ju (n,Z[j])) j1' rfl rfl rfl (by show(wi S i++(Z.take j).map _).length<=_;rw[cD,cz,cZ];omega) lo9 (LN6 _ _ _ _ _ (n,Z[j])) (LC6 _ _ _ _ _ (n,Z[j])) λss3 W10 q10 m10 n10=>?_;refine hKN2 (XS ss3 sb) W10 ⟨ss3,by rw[htk,dy,<-df];exact q10,λ_=>fd⟩ (m10.mono λy _ g=>(j2' y).2 g) λy g=>⟨(n10 y g).imp (j2' y).2 id,q10.ltX g⟩
   ·rintro X9 W9 ⟨ss3,j1',j2'⟩ mW9 hX9;rw[show Z.take Z.length=Z from cN]at j1'
    have s3:∀y,XS ss3 sb y->XS F sb y\/W2.heap.size<=y:=λy g=>by
     rcases(hX9 y ((j2' y).2 g)).2 with Y|Y
     ·exact s2 y Y
     ·exact gz
    have st9:ST W9:=sub hs8 s2 mW9 st8;unfold RM;simp only[iJ];have mdr9:M0 W9 W9.drew:=mP;have q10:=j1'.modX mdr9 eQ;have st10:ST W9.drew:=st9.trans (mdr9.to)
    try dsimp only
    generalize W9.drew=W10 at mdr9 q10 st10|-;obtain⟨hV10,g10,n10,-⟩:=keep st10;apply dp (lv0 g10);simp only[eY,dr];refine dw (jk 3 qZ) (dp (AJ _ hV10.blk) ?_);apply dp (ln n10);apply li (uF hV10.mbd n);obtain⟨Bd,hBd⟩:=dW (S.bd n);have hBdl:Bd.length<=50:=by rw[hBd];exact hok.ord.bdl n
    have hbd10:qR W10 (rz D n) Bd:=by rw[hBd];exact hV10.bd n
    obtain⟨ba,bc,hbs,-⟩:=hbd10.isSl;apply oy (gI (Bd.length:Int)) (by rw[hbs];simp[go_sem]);have hbl:=tO hok.ord i;have hs10:=st10.size
    refine eS (λst t=>∃(j:Nat) (z:Nat->Value),j<=Bd.length/\st=(gI j,())/\SB t sb S.cal.day S.next S.led.fund z S.led.all (S.cal.l.take i++[k]) (wP S i++H) (wi S i++Z.map λo=>(n,o)) (vV S i++(Bd.take j).map λo=>(n,o)) J/\(∀y,XS z sb y->XS F sb y\/W2.heap.size<=y)/\ST t)
     (λst _=>match st.1 with| .int _ i=>Bd.length - i.toNat|_=>0) ⟨0,ss3,qZ,rfl,by simpa using q10,s3,st10⟩ ?_
    rintro _ W11 ⟨j,ss4,hj,rfl,t1,t2,t3⟩ KM hKM;unfold Py;intro _;obtain⟨hV11,g11,n11,-⟩:=keep t3;have hbd11:qR W11 (rz D n) Bd:=by rw[hBd];exact hV11.bd n
    have hs11:=t3.size;by_cases hlt:j<Bd.length
    ·have hlt' :(j:Int)<(Bd.length:Int):=qZ;refine qSt1 hlt' ?_;obtain⟨pj,p1,p2'⟩:=J7 hbd11.rd hlt;refine cI p1 (cI p2' ?_);obtain⟨wa,ea,ba',ma⟩:=kD W11;apply cI ea;obtain⟨q9,hq9⟩:=dW W11.heap.size;rw[<-hq9]at ba' |-;obtain⟨wb,eb,bb,mb'⟩:=jK (o' :=Bd[j]) ba';apply ir eb;have Mb:M0 W11 wb:=ma.on mb' λb hb=>gz;have tb:=t1.modX Mb eQ;have stb:ST wb:=t3.trans (Mb.to);have nb:=(keep stb).2.2.1;have hsb' :=stb.size;refine cI (dZ wb 7 qZ) (cI (tb.ld 7 qZ qZ) ?_);apply cI (ln nb);apply cI (lM (o:=Bd[j]) (At.all bb));apply cI (VL n Bd[j] wb);refine KE (i:=7) qZ qZ (c:=ju (n,Bd[j])) tb rfl rfl rfl (by show(vV S i++(Bd.take j).map _).length<=_;rw[cD,cz,cZ];omega) qZ (LN7 _ _ _ _ _ (n,Bd[j])) (LC7 _ _ _ _ _ (n,Bd[j])) λss5 wc qc mc nc=>?_;apply cx (gI ((j+1:Nat):Int)) wc (by simp[go_sem];rw[wI_]);refine hKM _ _ ⟨j+1,ss5,qZ,rfl,by rw[eA hlt,dy,<-df];exact qc,λy g=>?_,sub hsb' t2 mc stb⟩ (by show Bd.length - (((j+1:Nat):Int)).toNat<Bd.length - ((j:Int)).toNat;omega);rcases nc y g with Y|Y
     ·exact t2 y Y
     ·exact gz
    ·obtain rfl:j=Bd.length:=qZ;refine qSf0 ?_;rw[cN]at t1;refine hKN (XS ss4 sb) W11 ⟨ss4,?_,λ_=>fd⟩ ((mW2.to).trans (t3.mono λy _ g=>(i2 y).2 g)) λy g=>⟨?_,t1.ltX g⟩
     ·have e1:wP S (i+1)=wP S i++H:=by unfold wP;rw[hnt,eJ,hH];simp
      have e2:wi S (i+1)=wi S i++Z.map λo=>(n,o):=by unfold wi;rw[hnt,eJ,hAl];simp
      have e3:vV S (i+1)=vV S i++Bd.map λo=>(n,o):=by unfold vV;rw[hnt,eJ,hBd];simp
      rw[hct,e1,e2,e3];exact t1
     ·rcases t2 y g with Y|Y
      ·exact .inl ((i2 y).2 Y)
      ·exact gz
 ·rintro X W d hd ⟨F,i1,i2⟩ mW hdef hX
  have i1' :SB W sb S.cal.day S.next S.led.fund F S.led.all S.cal.l (S.nums.flatMap S.led.holders) (S.nums.flatMap λn=>(S.bk n).all.map λo=>(n,o)) (S.nums.flatMap λn=>(S.bd n).map λo=>(n,o)) J:=by
   have e0:S.cal.l.length=S.nums.length:=by unfold Ven.nums;rw[cz]
   have e1:wP S S.cal.l.length=S.nums.flatMap S.led.holders:=by unfold wP;rw[e0,cN]
   have e2:wi S S.cal.l.length=S.nums.flatMap λn=>(S.bk n).all.map λo=>(n,o):=by unfold wi;rw[e0,cN]
   have e3:vV S S.cal.l.length=S.nums.flatMap λn=>(S.bd n).map λo=>(n,o):=by unfold vV;rw[e0,cN]
   have i1'' :SB W sb S.cal.day S.next S.led.fund F S.led.all (S.cal.l.take S.cal.l.length) (wP S S.cal.l.length) (wi S S.cal.l.length) (vV S S.cal.l.length) J:=i1;rw[cN,e1,e2,e3]at i1'';exact i1''
  have L:∀y,XS (AA s) sb y->J<=y:=hXlo q7;have pW:=mW.hpk p7 λV=>by have:=L _ V;omega
  unfold Rr;simp only[iJ];apply cI (FJ i1'.at_)
  obtain⟨W2,e2',N,p⟩:=Uz (d:=S.cal.day) (n:=S.next) (f:=S.led.fund) (ss:=F) pW rfl λi hi hj=>by
   obtain⟨a,c,hs,-⟩:=(i1'.own i hi hj).isSl;exact⟨_,_,_,hs⟩
  apply ir e2'
  have hdX:¬XS F sb d:=λV=>by
   rcases(hX d ((i2 d).2 V)).2 with Y|Y
   ·have:=q7.ltX Y;omega
   ·omega
  refine Bz (p.hpk hdef qZ) λW3 E=>?_;apply dp (FJ (E.hpk N qZ));have hlo5:=M5.size;refine hK F sb J W3 ((i1'.modX p λy g e=>by have:=hXlo i1' y g;omega).modX E λy g e=>hdX (e▸g)) qZ ?_ qZ;exact((M7.on mW λy g=>.inr (by have:=L y g;omega)).on p λy g=>gz).on E λy g=>gz
end
end Go.Proofs
namespace Go.Proofs
open Go Go.Vc
def Lf:Sp:=⟨1,1,1,1,50,100,⟨#[5,-5,0,0,0,0,0,0,0,0,0,0,0,0,0,0],rfl⟩,0,5,100⟩
def Zc:Cm:={zCm with kind:=1,acct:=1,amt:=1000}
def YZ:Cm:={zCm with kind:=1,acct:=2,amt:=1000}
def Y7:Cm:={zCm with kind:=3,spec:=Lf}
def Y1:Cm:={zCm with kind:=5,acct:=1,ct:=1,buy:=true,ty:=1,price:=100,qty:=3}
def Zf:Cm:={zCm with kind:=5,acct:=2,ct:=1,ty:=1,price:=100,qty:=3}
def kC6:Cm:={zCm with kind:=11,ct:=1,price:=110}
def Z5:Cm:={zCm with kind:=12}
def kC8:Cm:={zCm with kind:=2,acct:=1,amt:=1016}
def XN:=Ven.empty.apply Zc
def Xj:=XN.2.apply YZ
def Yf:=Xj.2.apply Y7
def Xi:=Yf.2.apply Y1
def Oi:=Xi.2.apply Zf
def ML:=Oi.2.apply kC6
def ze:=ML.2.apply Z5
def YN:=ze.2.apply kC8
def Yp:XN.1.err=0:=cU
def YR:Xj.1.err=0:=cU
def YY:Yf.1.err=0:=cU
def Xx:Xi.1.err=0:=cU
def YH:Oi.1.err=0:=cU
def XE:ML.1.err=0:=cU
def Xt:ze.1.err=0:=cU
def S9:ze.2.led.all.map (·.cash)=[1030,970]:=cU
def YO:YN.1.err=161:=cU
def ls:zCm.Fit:=by
 refine⟨?_,?_,?_,?_,?_,?_,?_,?_,?_⟩<;>first|exact py|skip
def SK:Lf.Fit:=by
 refine⟨py,py,py,py,py,py,?_,py,py,py⟩;intro x a;have h:x∈([5,-5,0,0,0,0,0,0,0,0,0,0,0,0,0,0]:List Int):=a;have:x=5\/x= -5\/x=0:=by simpa using h
 rcases this with rfl|rfl|rfl<;>exact py
def N8:Zc.Fit/\YZ.Fit/\Y7.Fit/\Y1.Fit/\Zf.Fit/\kC6.Fit/\Z5.Fit/\kC8.Fit:=by
 have a:=ls.2.2.2.2.2.1;refine⟨?_,?_,?_,?_,?_,?_,?_,?_⟩
 ·exact⟨py,py,py,py,py,a,py,py,py⟩
 ·exact⟨py,py,py,py,py,a,py,py,py⟩
 ·exact⟨py,py,py,py,py,SK,py,py,py⟩
 ·exact⟨py,py,py,py,py,a,py,py,py⟩
 ·exact⟨py,py,py,py,py,a,py,py,py⟩
 ·exact⟨py,py,py,py,py,a,py,py,py⟩
 ·exact⟨py,py,py,py,py,a,py,py,py⟩
 ·exact⟨py,py,py,py,py,a,py,py,py⟩
end Go.Proofs
set_option maxRecDepth 100000
namespace Go.Proofs
open Go Go.Vc
section
variable{a b c:Vt_}{W:Wt_}{Z:cG}
def ca51(v:gx (nE 27) W λa b=>gx (rB 27 #[(0,(gU 1)),(1,(gB 1)),(2,(gI 1)),(3,(gI 1)),(4,(gI 50)),(5,(gI 100)),(8,(gU 5)),(9,(gI 100))]) b λc d=>gx (nE 27) d λe f=>nj pQ (jH 27 e c) f λg=>gf 27 e 6 g λh i=>gi 25 h (gI 0) i λj k=>gs 2 j (gI 5) k λl=>gf 27 e 6 l λm n=>gi 25 m (gI 1) n λo p=>gs 2 o (gI (-5)) p λq=>gx (fH 27 e) q λr s=>nj pQ (jH 27 a r) s λt=>pS pQ (fH 27 a) t λu=>Z u t):Ca pQ 51 #[] W Z:=cj Tryz.func51 v
def L26_0(a b c:Vt_)(d:cG)(e:T3)(f:Wt_)(g:T3->Wp):=gc e.2.2.1 a f λh i=>cV h (gi 65 b e.2.2.1 i λj k=>gx (fH 30 j) k λl m=>Ca pQ 18 #[c,l] m λn o=>gr (Instr.field 52 n 0) o λp q=>gE p q λr s=>cV r (d (gT (.pointer none) bF) s) (g1 e.2.2.1 s λt u=>g (e.1,e.2.1,t,()) u)) (d (gT c bT) i)
def ca26(u:Ca pQ 22 #[] W λa b=>gb .eql 39 true a (.pointer none) b λc d=>cV c (Z (gT (.pointer none) bF) d) (gx (rB 30 #[(0,(gB 1)),(1,(gU 1)),(4,(gI 1000))]) d λe f=>gx (rB 30 #[(0,(gB 1)),(1,(gU 2)),(4,(gI 1000))]) f λg h=>Ca pQ 51 #[] h λi j=>gx (rB 30 #[(0,(gB 3)),(5,i)]) j λk l=>gx (rB 30 #[(0,(gB 5)),(1,(gU 1)),(2,(gU 1)),(7,bT),(8,(gB 1)),(9,(gI 100)),(10,(gI 3))]) l λm n=>gx (rB 30 #[(0,(gB 5)),(1,(gU 2)),(2,(gU 1)),(8,(gB 1)),(9,(gI 100)),(10,(gI 3))]) n λo p=>gx (jQ 65 5 [(0,e),(1,g),(2,k),(3,m),(4,o)]) p λq r=>gn 65 false q r λs t=>qC (L26_0 s q a Z) ((.pointer none),bF,(gI 0),()) t)):Ca pQ 26 #[] W Z:=cj Tryz.func26 u
def J13_0(a:cG)(b:Vt_)(c:T1)(d:Wt_):=NV->cV c.1 (a bF d) (Ca pQ 20 #[b] d λe f=>gv 61 e f λg h=>gY 61 g 3 56 h.drew λi=>gw (Builtin.len_ #[56] 3 #[i]) h.drew λj=>my .eql 3 true j (gI 2) λk=>cV k (gY 61 g 3 56 h.drew λl=>mf 56 l (gI 0) λm=>gY 70 m 1 2 h.drew λn=>my .eql 2 true n (gI 1030) λo=>cV o (gY 61 g 3 56 h.drew λp=>mf 56 p (gI 1) λq=>gY 70 q 1 2 h.drew λr=>my .eql 2 true r (gI 970) λs=>cV s (DS pQ (rB 30 #[(0,(gB 2)),(1,(gU 1)),(4,(gI 1016))]) λt=>Ca pQ 18 #[b,t] h.drew λu v=>gp (Instr.field 52 u 0) λw=>my .eql 43 true w (gI 161) λx=>cV x (gp (Instr.build 52 #[(0,(gI 160))]) λy=>gx (jQ 31 1 [(0,(gB 99))]) v λz A=>Ca pQ 15 #[b,z] A λB C=>pS pQ (uL 31 9 B) C λD=>Ca pQ 16 #[y] C λE F=>Sem.run pQ (uL 31 9 B) F=.ok D F/\(pS pQ (uL 31 9 E) F λG=>my .eql 9 false D G λH=>a H F)) (a bF v)) (a bF h.drew)) (a bF h.drew)) (a bF h.drew))
def ca13(y:Ca pQ 26 #[] W λa b=>nR a b λc d e=>jW (λf=>gt d e λg h=>cV g (f (bT,()) h) (gx (rB 30 #[(0,(gB 11)),(2,(gU 1)),(9,(gI 110))]) h λi j=>Ca pQ 18 #[c,i] j λk l=>gr (Instr.field 52 k 0) l λm n=>gE m n λo p=>cV o (f (bT,()) p) (gx (rB 30 #[(0,(gB 12))]) p λq r=>Ca pQ 18 #[c,q] r λs t=>gr (Instr.field 52 s 0) t λu v=>gE u v λw x=>f (w,()) x))) (J13_0 Z c)):Ca pQ 13 #[] W Z:=cj Tryz.func13 y
def Zx(a:Vt_)(b:cG)(c:T2)(d:Wt_)(e:T2->Wp):=NV->dz 52 a 6 50 d λf g=>gn 50 false f g λh i=>gb .lss 3 false c.2.1 h i λj k=>cV j (dz 52 a 6 50 k λl m=>uB 50 l c.2.1 23 m λn o=>gr (convert 23 24 n) o λp q=>Ca pQ 36 #[p] q λr s=>gx (eg #[31,31] 31 [c.1,r]) s λt u=>g1 c.2.1 u λv w=>e (t,v,()) w) (b c.1 k)
def ab6(a:Vt_)(b:cG)(c:T2)(d:Wt_)(e:T2->Wp):=NV->dz 52 a 5 49 d λf g=>gn 49 false f g λh i=>gb .lss 3 false c.2.1 h i λj k=>cV j (dz 52 a 5 49 k λl m=>uB 49 l c.2.1 24 m λn o=>Ca pQ 36 #[n] o λp q=>gx (eg #[31,31] 31 [c.1,p]) q λr s=>g1 c.2.1 s λt u=>e (r,t,()) u) (dz 52 a 6 50 k λv w=>gn 50 false v w λx y=>gr (convert 3 24 x) y λz A=>Ca pQ 36 #[z] A λB C=>gx (eg #[31,31] 31 [c.1,B]) C λD E=>qB (Zx a b) (D,(gI 0),()) E)
def af8(a:Vt_)(b:cG)(c:T2)(d:Wt_)(e:T2->Wp):=NV->dz 52 a 4 48 d λf g=>gn 48 false f g λh i=>gb .lss 3 false c.2.1 h i λj k=>cV j (dz 52 a 4 48 k λl m=>uB 48 l c.2.1 111 m λn o=>gv 111 n o λp q=>dz 111 p 0 2 q λr s=>Ca pQ 37 #[r] s λt u=>gx (eg #[31,31] 31 [c.1,t]) u λv w=>dz 111 p 1 2 w λx y=>Ca pQ 37 #[x] y λz A=>gx (eg #[31,31] 31 [v,z]) A λB C=>dz 111 p 2 24 C λD E=>Ca pQ 36 #[D] E λF G=>gx (eg #[31,31] 31 [B,F]) G λH I=>dz 111 p 3 23 I λJ K=>gr (convert 23 24 J) K λL M=>Ca pQ 36 #[L] M λN O=>gx (eg #[31,31] 31 [H,N]) O λP Q=>g1 c.2.1 Q λR S=>e (P,R,()) S) (dz 52 a 5 49 k λT U=>gn 49 false T U λV X=>gr (convert 3 24 V) X λY aa=>Ca pQ 36 #[Y] aa λab ac=>gx (eg #[31,31] 31 [c.1,ab]) ac λad ae=>qB (ab6 a b) (ad,(gI 0),()) ae)
def ca16(P:gq 52 a W λb c=>dz 52 b 0 43 c λd e=>gr (convert 43 24 d) e λf g=>Ca pQ 36 #[f] g λh i=>dz 52 b 0 43 i λj k=>gE j k λl m=>cV l (Z h m) (dz 52 b 1 24 m λn o=>Ca pQ 36 #[n] o λp q=>gx (eg #[31,31] 31 [h,p]) q λr s=>dz 52 b 2 2 s λt u=>Ca pQ 37 #[t] u λv w=>gx (eg #[31,31] 31 [r,v]) w λx y=>dz 52 b 3 2 y λz A=>Ca pQ 37 #[z] A λB C=>gx (eg #[31,31] 31 [x,B]) C λD E=>dz 52 b 4 48 E λF G=>gn 48 false F G λH I=>gr (convert 3 24 H) I λJ K=>Ca pQ 36 #[J] K λL M=>gx (eg #[31,31] 31 [D,L]) M λN O=>qB (af8 b Z) (N,(gI 0),()) O)):Ca pQ 16 #[a] W Z:=cj Tryz.func16 P
def J15_0(a:Vt_)(b:cG)(c:Unit)(d:Wt_):=NV->gl 52 a d λe f=>Ca pQ 35 #[e] f λg h=>nR g h λi j k=>b i k
def ca15(B:Ca pQ 33 #[(gI 1)] W λc d=>gv 52 c d λe f=>dK (S:=Unit) (λg=>Ca pQ 27 #[a] f λh i=>cV h (Ca pQ 34 #[b] i λj k=>nR j k λl m n=>gx (nE 30) n λo p=>nj pQ (jH 30 o l) p λq=>Ca pQ 33 #[(gI 160)] q λr s=>gs 52 e r s λt=>gb .eql 43 true m (gI 0) t λu v=>cV u (gx (fH 30 o) v λw x=>Ca pQ 18 #[a,w] x λy z=>gs 52 e y z λA=>g (()) A) (g (()) v)) (g (()) i)) (J15_0 e Z)):Ca pQ 15 #[a,b] W Z:=cj Tryz.func15 B
def J34_0(a b:Vt_)(c:Unit->Wp)(d:Vt_)(e:T1)(f:Wt_):=NV->cV e.1 (iv pQ (.func (.func 64) #[] #[a,b]) [] f λg h=>gl 151 a h λi j=>Ca pQ 67 #[i] j λk l=>qM 30 b 4 2 k l λm=>c (()) m) (gC d 3 f λn o=>cV n (gl 151 a o λp q=>Ca pQ 68 #[p] q λr s=>gf 30 b 5 s λt u=>nj pQ (jH 27 t r) u λv=>c (()) v) (gC d 4 o λw x=>cV w (iv pQ (.func (.func 65) #[] #[a,b]) [] x λy z=>gl 151 a z λA B=>Ca pQ 69 #[A] B λC D=>qM 30 b 6 4 C D λE=>c (()) E) (gC d 5 x λF G=>cV F (iv pQ (.func (.func 64) #[] #[a,b]) [] G λH I=>iv pQ (.func (.func 65) #[] #[a,b]) [] I λJ K=>gl 151 a K λL M=>Ca pQ 69 #[L] M λN O=>qM 30 b 7 4 N O λP=>gl 151 a P λQ R=>Ca pQ 63 #[Q,(gQ 255)] R λS T=>gr (convert 24 28 S) T λU V=>qM 30 b 8 28 U V λX=>iv pQ (.func (.func 66) #[] #[a,b]) [] X λY aa=>c (()) aa) (gC d 6 G λab ac=>cV ab (iv pQ (.func (.func 64) #[] #[a,b]) [] ac λad ae=>gl 151 a ae λaf ag=>Ca pQ 70 #[af] ag λah ai=>qM 30 b 3 24 ah ai λaj=>c (()) aj) (gC d 7 ac λak al=>cV ak (iv pQ (.func (.func 64) #[] #[a,b]) [] al λam an=>gl 151 a an λao ap=>Ca pQ 70 #[ao] ap λaq ar=>qM 30 b 3 24 aq ar λau=>iv pQ (.func (.func 66) #[] #[a,b]) [] au λav aw=>c (()) aw) (gC d 8 al λax ay=>cV ax (iv pQ (.func (.func 64) #[] #[a,b]) [] ay λaz aA=>iv pQ (.func (.func 65) #[] #[a,b]) [] aA λaB aC=>c (()) aC) (gC d 9 ay λaD aE=>cV aD (iv pQ (.func (.func 64) #[] #[a,b]) [] aE λaF aG=>iv pQ (.func (.func 65) #[] #[a,b]) [] aG λaH aI=>gl 151 a aI λaJ aK=>Ca pQ 69 #[aJ] aK λaL aM=>qM 30 b 7 4 aL aM λaN=>iv pQ (.func (.func 66) #[] #[a,b]) [] aN λaO aP=>c (()) aP) (gC d 10 aE λaQ aR=>cV aQ (iv pQ (.func (.func 64) #[] #[a,b]) [] aR λaS aT=>gl 151 a aT λaU aV=>Ca pQ 69 #[aU] aV λaX aY=>qM 30 b 6 4 aX aY λa0=>c (()) a0) (gC d 11 aR λa1 a2=>cV a1 (iv pQ (.func (.func 65) #[] #[a,b]) [] a2 λa3 a4=>gl 151 a a4 λa5 a6=>Ca pQ 67 #[a5] a6 λa7 a8=>qM 30 b 9 2 a7 a8 λa9=>c (()) a9) (gC d 13 a2 λba bb=>cV ba (iv pQ (.func (.func 64) #[] #[a,b]) [] bb λbc bd=>c (()) bd) (gC d 14 bb λbe bf=>cV be (iv pQ (.func (.func 65) #[] #[a,b]) [] bf λbg bh=>c (()) bh) (c (()) bf))))))))))))
def J34_1(a:Vt_)(b:cG)(c:Vt_)(d:T1)(e:Wt_):=NV->cV d.1 (gx (rB 30 #[]) e λf g=>nj pQ (jH 30 a f) g λh=>pS pQ (fH 30 a) h λi=>b (gT i (gI 5)) h) (gx (fH 30 c) e λj k=>nj pQ (jH 30 a j) k λl=>pS pQ (fH 30 a) l λm=>b (gT m (gI 0)) l)
def J34_2(a b c:Vt_)(d:cG)(e:Unit)(f:Wt_):=NV->jW (λg=>gl 151 a f λh i=>Ca pQ 71 #[h] i λj k=>gE j k λl m=>cV l (g (bT,()) m) (gx (fH 30 b) m λn o=>Ca pQ 38 #[n] o λp q=>gt p q λr s=>g (r,()) s)) (J34_1 c d b)
def ca34(A:gx (nE 30) W λb c=>Ca pQ 62 #[a] c λd e=>gv 151 d e λf g=>gl 151 f g λh i=>Ca pQ 63 #[h,(gQ 14)] i λj k=>gr (convert 24 22 j) k λl m=>gx (rB 30 #[(0,l)]) m λn o=>gx (nE 30) o λp q=>nj pQ (jH 30 p n) q λr=>dK (S:=Unit) (λs=>dz 30 p 0 22 r λt u=>jW (λv=>gC t 1 u λw x=>cV w (v (w,()) x) (gC t 2 x λy z=>v (y,()) z)) (J34_0 f p s t)) (J34_2 f p b Z)):Ca pQ 34 #[a] W Z:=cj Tryz.func34 A
def ca35(O:gq 52 a W λb c=>gl 52 b c λd e=>Ca pQ 72 #[d] e λf g=>gt f g λh i=>cV h (Z (gT (.slice none 0 0) (gI 2)) i) (dz 52 b 0 43 i λj k=>gr (convert 43 24 j) k λl m=>Ca pQ 73 #[(.slice none 0 0),l] m λn o=>dz 52 b 0 43 o λp q=>gE p q λr s=>cV r (Z (gT n (gI 0)) s) (gY 52 b 1 24 s.drew λt=>kg 52 b 2 λu=>eP 2 u s.drew λv=>kg 52 b 3 λw=>eP 2 w s.drew λx=>Ca pQ 73 #[n,t] s.drew λy z=>gk 2 w x z/\gk 2 u v z/\(Ca pQ 74 #[y,v,x] z λA B=>dz 52 b 4 48 B λC D=>Ca pQ 75 #[A,C,(.func (.func 76) #[] #[])] D λE F=>dz 52 b 5 49 F λG H=>Ca pQ 77 #[E,G,(.func (.func 73) #[] #[])] H λI J=>dz 52 b 6 50 J λK L=>Ca pQ 78 #[I,K,(.func (.func 79) #[] #[])] L λM N=>Z (gT M (gI 0)) N)))):Ca pQ 35 #[a] W Z:=cj Tryz.func35 O
def J72_0(a:cG)(b:Vt_)(c:T1)(d:Wt_):=NV->cV c.1 (a bF d) (dz 52 b 4 48 d λe f=>gn 48 false e f λg h=>gb .leq 3 true g (gI 4000) h λi j=>cV i (dz 52 b 5 49 j λk l=>gn 49 false k l λm n=>gb .leq 3 true m (gI 4000) n λo p=>cV o (dz 52 b 6 50 p λq r=>gn 50 false q r λs t=>gb .leq 3 true s (gI 4000) t a) (a bF p)) (a bF j))
def ca72(w:gq 52 a W λb c=>jW (λd=>dz 52 b 0 43 c λe f=>gb .lss 43 true e (gI 0) f λg h=>cV g (d (bT,()) h) (dz 52 b 0 43 h λi j=>gb .gtr 43 true i (gI 999) j λk l=>cV k (d (bT,()) l) (dz 52 b 0 43 l λm n=>gE m n λo p=>cV o (gl 52 b p λq r=>Ca pQ 117 #[q] r λs t=>gt s t λu v=>d (u,()) v) (d (bF,()) p)))) (J72_0 Z b)):Ca pQ 72 #[a] W Z:=cj Tryz.func72 w
def ca62(h:gr (Instr.build 200 #[(0,a)]) W λb c=>gq 200 b c Z):Ca pQ 62 #[a] W Z:=cj Tryz.func62 h
def J63_0(a:T1->Wp)(b:Vt_)(c:T1)(d:Wt_):=NV->cV c.1 (a ((gI 5),()) d) (a (b,()) d)
def J63_1(a:Vt_)(b:cG)(c d:Vt_)(e:T1)(f:Wt_):=NV->gE e.1 f λg h=>cV g (ez a λi=>qM 200 i 2 43 e.1 h λj=>b (gQ 0) j) (ez a λk=>qM 200 k 1 3 c h λl=>b d l)
def ca63(r:Ca pQ 114 #[a] W λc d=>cV c (Z (gQ 0) d) (Ca pQ 115 #[a] d λe f=>nR e f λg h i=>ge e 2 i λj k=>jW (λl=>jW (λm=>gb .eql 43 true j (gI 0) k λn o=>cV n (gb .gtr 24 false g b o λp q=>m (p,()) q) (m (bF,()) o)) (J63_0 l j)) (J63_1 a Z h g))):Ca pQ 63 #[a,b] W Z:=cj Tryz.func63 r
def L73_0(a:cG)(b:T2)(c:Wt_)(d:T2->Wp):=NV->gb .geq 24 true b.1 (gQ 128) c λe f=>cV e (gr (convert 24 5 b.1) f λg h=>gb .or 5 true g (gB 128) h λi j=>gx (jQ 31 1 [(0,i)]) j λk l=>gx (eg #[31,31] 31 [b.2.1,k]) l λm n=>gb .shr 24 true b.1 (gQ 7) n λo p=>d (o,m,()) p) (gr (convert 24 5 b.1) f λq r=>gx (jQ 31 1 [(0,q)]) r λs t=>gx (eg #[31,31] 31 [b.2.1,s]) t a)
def ca73(h:qB (L73_0 Z) (b,a,()) W):Ca pQ 73 #[a,b] W Z:=cj Tryz.func73 h
def ca114(h:gb .eql 151 true a (.pointer none) W λb c=>cV b (Z bT c) (ez a λd=>dz 200 d 2 43 c λe f=>gE e f Z)):Ca pQ 114 #[a] W Z:=cj Tryz.func114 h
def J115_0(a:cG)(b:Vt_)(c:T4)(d:Vt_)(e:T1)(f:Wt_):=NV->cV e.1 (a (.tuple #[(gQ 0),(gI 0),(gI 5)]) f) (ez b λg=>kg 200 g 1 λh=>eP 3 h f.drew λi=>my .add 3 false i c.2.2.2.1 λj=>my .add 3 true j (gI 1) λk=>Sem.run pQ (iL 3 h) f.drew=.ok i f.drew/\(a (.tuple #[d,k,(gI 0)]) f.drew))
def J115_1(a:cG)(b:Vt_)(c:T4)(d:Vt_)(e:T4->Wp)(f:T1)(g:Wt_):=NV->cV f.1 (a (.tuple #[(gQ 0),(gI 0),(gI 5)]) g) (gb .and 5 true b (gB 127) g λh i=>gr (convert 5 24 h) i λj k=>gb .mul 3 true (gI 7) c.2.2.2.1 k λl m=>gb .shl 24 false j l m λn o=>gb .or 24 false c.1 n o λp q=>gb .lss 5 true b (gB 128) q λr s=>cV r (jW (λt=>gb .eql 5 true b (gB 0) s λu v=>cV u (gb .gtr 3 true c.2.2.2.1 (gI 0) v λw x=>t (w,()) x) (t (bF,()) v)) (J115_0 a d c p)) (g1 c.2.2.2.1 s λy z=>e (p,c.2.1,c.2.2.1,y,()) z))
def L115_2(a b:Vt_)(c:cG)(d:Vt_)(e:T4)(f:Wt_)(g:T4->Wp):=gc e.2.2.2.1 a f λh i=>cV h (uB 31 b e.2.2.2.1 5 i λj k=>jW (λl=>gb .eql 3 true e.2.2.2.1 (gI 9) k λm n=>cV m (gb .gtr 5 true j (gB 1) n λo p=>cV o (l (bT,()) p) (gb .gtr 3 true e.2.2.2.1 (gI 9) p λq r=>l (q,()) r)) (gb .gtr 3 true e.2.2.2.1 (gI 9) n λs t=>l (s,()) t)) (J115_1 c j e d g)) (c (.tuple #[(gQ 0),(gI 0),(gI 4)]) i)
def ca115(h:ez a λb=>gY 200 b 0 31 W.drew λc=>ez a λd=>gY 200 d 1 3 W.drew λe=>gp (Instr.sliceAt 31 c (some e) none none) λf=>gw (Builtin.len_ #[31] 3 #[f]) W.drew λg=>qD (L115_2 g f Z a) ((gQ 0),(gI 0),(gI 0),(gI 0),()) W.drew):Ca pQ 115 #[a] W Z:=cj Tryz.func115 h
def J71_0(a:cG)(b:Vt_)(c:T1)(d:Wt_):=NV->cV c.1 (a (gI 5) d) (ez b λe=>dz 200 e 2 43 d a)
def ca71(n:gb .eql 151 true a (.pointer none) W λb c=>cV b (Z (gI 1) c) (jW (λd=>ez a λe=>gY 200 e 2 43 c.drew λf=>my .eql 43 true f (gI 0) λg=>cV g (ez a λh=>gY 200 h 1 3 c.drew λi=>ez a λj=>gY 200 j 0 31 c.drew λk=>gw (Builtin.len_ #[31] 3 #[k]) c.drew λl=>my .lss 3 false i l λm=>d (m,()) c.drew) (d (bF,()) c.drew)) (J71_0 Z a))):Ca pQ 71 #[a] W Z:=cj Tryz.func71 n
end
end Go.Proofs
namespace Go.Proofs
open Go Go.Vc
attribute [local congr] cR
variable {a:Ac}{l:List UInt8}{F:NP_}{b r:Nat}{s:Rs}{v:Vt_}{w:Wt_}{K:cG}
abbrev aa5:TypeId:=65
def BU:Tryz.prog.underlying aa5=some (.slice om):=cU
def zH{s:Vt_}{L:List Cm}(h:Rd w 35 s L.length (L.flatMap cmC)){i:Nat}(hi:i<L.length):
  ∃b a,(∀W,(iX aa5 s (gI (i:Int))).run pQ W=.ok (pt b a) W)/\At w b a (cmC L[i]):=by
 obtain⟨b,a,e,c,d,f⟩:=h.item ni hi rfl;exact⟨b,a+i*35,λW=>by rw[c];simp[go_sem,hi,cS],f⟩
def vx{off:Nat}{c:Cm}(h:At w b off (cmC c)):(fH om (pt b off)).run pQ w=.ok (vI c) w:=gm aCm nCm (ni c) h
def bk1:Tryz.prog.built om [(0,gB 1),(1,gU 1),(4,gI 1000)]=some (cmC Zc).toArray:=cU
def bk2:Tryz.prog.built om [(0,gB 1),(1,gU 2),(4,gI 1000)]=some (cmC YZ).toArray:=cU
def bk3:Tryz.prog.built om [(0,gB 3),(5,.agg (jA Lf).toArray)]=some (cmC Y7).toArray:=cU
def bk4:Tryz.prog.built om [(0,gB 5),(1,gU 1),(2,gU 1),(7,.bool true),(8,gB 1),(9,gI 100),(10,gI 3)]=some (cmC Y1).toArray:=cU
def bk5:Tryz.prog.built om [(0,gB 5),(1,gU 2),(2,gU 1),(8,gB 1),(9,gI 100),(10,gI 3)]=some (cmC Zf).toArray:=cU
def bk6:Tryz.prog.built om [(0,gB 11),(2,gU 1),(9,gI 110)]=some (cmC kC6).toArray:=cU
def bk7:Tryz.prog.built om [(0,gB 12)]=some (cmC Z5).toArray:=cU
def bk8:Tryz.prog.built om [(0,gB 2),(1,gU 1),(4,gI 1016)]=some (cmC kC8).toArray:=cU
def SP:Sp:={Lf with shifts:=⟨#[0,0,0,0,0,0,0,0,0,0,0,0,0,0,0,0],rfl⟩}
def SR:Sp:={Lf with shifts:=⟨#[5,0,0,0,0,0,0,0,0,0,0,0,0,0,0,0],rfl⟩}
def aA4:Tryz.prog.built 27 [(0,gU 1),(1,gB 1),(2,gI 1),(3,gI 1),(4,gI 50),(5,gI 100),(8,gU 5),(9,gI 100)]=some (jA SP).toArray:=cU
def al4:se pQ 27=true:=cU
def ZM:lT pQ 27=jA II:=cU
def Mr(H:∀r,M0 w r->K (.agg (jA Lf).toArray) r):Ca pQ 51 #[] w K:=by
 apply ca51;apply rg al4;rw[ZM];obtain⟨z,v⟩:=dW w.heap.size;have A:M0 w (w.alloc (.cells (jA II).toArray 27)):=lm;have f:hC (w.alloc (.cells (jA II).toArray 27)) z (jA II).toArray 27:=by rw[v];simp[go_sem]
 rw[<-v];generalize w.alloc (.cells (jA II).toArray 27)=e at A f|-;apply lL aA4;apply rg al4;rw[ZM];obtain⟨q,u⟩:=dW e.heap.size;have g:M0 e (e.alloc (.cells (jA II).toArray 27)):=lm;have x:hC (e.alloc (.cells (jA II).toArray 27)) q (jA II).toArray 27:=by rw[u];simp[go_sem]
 rw[<-u];generalize e.alloc (.cells (jA II).toArray 27)=L at g x|-;have E:z<q:=by have:=cB f;omega
 have G:=g.hpk f id
 have put:∀{W:Wt_} {p:Nat} {a b:Sp} {i:World->Prop},hC W p (jA a).toArray 27->(∀n,hC n p (jA b).toArray 27->de (λy=>y=p) W n->i n)->nj pQ (jH 27 (pt p 0) (.agg (jA b).toArray)) W i:=by
  intro W p a b i h F;refine uH Cc (dP b) h (by rw[eT,dP,dP];omega) (xS b) (F _ ?_ ((de.refl (λy=>y=p) W).setRow (.inl rfl) _));have I:W.heap[p]? =some (.cells (jA a).toArray 27 (0,0)):=h;show(W.setRow p _).heap[p]? =_;rw[ij,bZ rfl,I,tp (by show(jA b).length=(jA a).length;rw[dP,dP])]
 refine put (b:=SP) x λd t s=>?_;have J:=s.hpk G qZ;refine qS0 ?_;refine qS1 cS ?_;apply pH (d.setCell ⟨q,6,none⟩ (gI 5)) (by simp[go_sem,t,SP,Lf,jA,xD]);have m:de (λy=>y=q) d (d.setCell ⟨q,6,none⟩ (gI 5)):=(de.refl (λy=>y=q) d).sc;have k:hC (d.setCell ⟨q,6,none⟩ (gI 5)) q (jA SR).toArray 27:=by simp[go_sem,t,SP,SR,Lf,jA,xD]
 generalize d.setCell ⟨q,6,none⟩ (gI 5)=c at m k|-;refine qS0 ?_;refine qS1 cS ?_;apply pH (c.setCell ⟨q,7,none⟩ (gI (-5))) (by simp[go_sem,k,SR,Lf,jA,xD]);have l:de (λy=>y=q) c (c.setCell ⟨q,7,none⟩ (gI (-5))):=(de.refl (λy=>y=q) c).sc;have o:hC (c.setCell ⟨q,7,none⟩ (gI (-5))) q (jA Lf).toArray 27:=by simp[go_sem,k,SR,Lf,jA,xD]
 generalize c.setCell ⟨q,7,none⟩ (gI (-5))=M at l o|-;apply jq (jA Lf) 24 DW Cc (dP _) (At.all o);refine put (b:=Lf) (l.hpk (m.hpk J qZ) qZ) λD C B=>?_;apply sm (jA Lf) 24 DW Cc (dP _) (At.all C);refine H D ((((((A.trans g).on s λy j=>gz).on m λy j=>gz).on l λy j=>gz).on B λy j=>gz))
def aA8:∃y,lN pQ om 35 y=true/\True:=⟨((Tryz.prog.info? om).map (·.bytes)).getD 0,by kernel_rfl,trivial⟩
def BG(r:Rp)(sT sG sA:Vt_)(W:Wt_):(Instr.field 52 (ud r sT sG sA) 0).run pQ W=.ok (gI r.err) W:=by
 simp[Instr.field,go_sem,part,isAgg,asAgg,ud]
def DM:List Cm:=[Zc,YZ,Y7,Y1,Zf]
def Ii:Nat->Ven
 |0=>Ven.empty
 |1=>XN.2
 |2=>Xj.2
 |3=>Yf.2
 |4=>Xi.2
 |_=>Oi.2
def Yc:Ven.empty.apply Zc=XN:=by unfold XN;rfl
def X5:XN.2.apply YZ=Xj:=by rw[Xj]
def Ya:Xj.2.apply Y7=Yf:=by rw[Yf]
def Xq:Yf.2.apply Y1=Xi:=by rw[Xi]
def XD:Xi.2.apply Zf=Oi:=by rw[Oi]
def QX:Ii 0=Ven.empty:=by rw[Ii]
def VF:Ii 1=XN.2:=by rw[Ii]
def UH:Ii 2=Xj.2:=by rw[Ii]
def UO:Ii 3=Yf.2:=by rw[Ii]
def WR:Ii 4=Xi.2:=by rw[Ii]
def WZ:Ii 5=Oi.2:=by rw[Ii]<;>decide
def ax1:(DM.flatMap cmC).length=DM.length*35:=by simp[DM,ni]
def Ah{A B:Ven}{Y:Rp×Ven}{c:Cm}(b:A.apply c=Y)(a:Y.1.err=0)(d:B=Y.2)(e:c.Fit):(A.apply c).1.err=0/\(A.apply c).2=B/\c.Fit:=by grind
def Ht:∀{i:Nat} (hi:i<DM.length),((Ii i).apply DM[i]).1.err=0/\((Ii i).apply DM[i]).2=Ii (i+1)/\DM[i].Fit:=by
 intro i hi;have k:i<5:=hi;obtain⟨c,a,d,b,f,l,h,j⟩:=N8;have g:i=0\/i=1\/i=2\/i=3\/i=4:=qZ;rcases g with rfl|rfl|rfl|rfl|rfl
 ·have e:DM[0]'hi=Zc:=rfl;rw[e];exact Ah (by rw[QX,Yc]) Yp VF c
 ·have e:DM[1]'hi=YZ:=rfl;rw[e];exact Ah (by rw[VF,X5]) YR UH a
 ·have e:DM[2]'hi=Y7:=rfl;rw[e];exact Ah (by rw[UH,Ya]) YY UO d
 ·have e:DM[3]'hi=Y1:=rfl;rw[e];exact Ah (by rw[UO,Xq]) Xx WR b
 ·have e:DM[4]'hi=Zf:=rfl;rw[e];exact Ah (by rw[WR,XD]) YH WZ f
def Pw:∀i,i<=5->(Ii i).Ok:=by
 intro i d;induction i with
 |zero=>rw[QX];exact qX
 |succ n a=>
  obtain⟨_,b,c⟩:=Ht (i:=n) (by show n<5;omega);rw[<-b];exact mV (a qZ) c
def Pr(U:∀v F m,lw m v F Oi.2->Oi.2.Ok->M0 w m->(∀y,F y->w.heap.size<=y)->K (.tuple #[eY v,.bool true]) m):Ca pQ 26 #[] w K:=by
 apply ca26;refine tB λv k L E H J=>?_;apply cx (.bool false) L (by simp[eY,go_sem]);rw[gP];refine lL bk1 (lL bk2 (Mr λj t=>?_));refine lL bk3 (lL bk4 (lL bk5 ?_));obtain⟨y,a,_⟩:=aA8
 refine oJ (e:=om) (sz:=35) (DM.map vI) BU (eO a) rfl rfl (λx Y=>by
  obtain⟨c,_,rfl⟩:=cF.1 Y;show(cmC c).toArray.size=35;rw[eT,ni]) (by decide) ?_
 have d:((DM.map vI).flatMap (·.cells.toList))=DM.flatMap cmC:=rfl;rw[d];obtain⟨z,G⟩:=dW j.heap.size;have B:hC (j.alloc (.cells (DM.flatMap cmC).toArray om)) z (DM.flatMap cmC).toArray om:=by rw[G];simp[go_sem]
 have u:M0 j (j.alloc (.cells (DM.flatMap cmC).toArray om)):=lm;rw[<-G];generalize j.alloc (.cells (DM.flatMap cmC).toArray om)=A at B u|-;refine qN0 ?_;have p:=t.trans u;have Z:∀y,k y->y<z:=λy a=>by have:=E.lt a;have:=t.size;omega
 have C:=E.md0 p;rw[<-QX]at C
 refine eS (λs W=>∃(i:Nat) (F:NP_),s.2.2.1=gI i/\i<=5/\lw W v F (Ii i)/\de k A W/\(∀y,F y->k y\/A.heap.size<=y))
  (λs _=>match s.2.2.1 with| .int _ i=>(5 - i).toNat|_=>0) ⟨0,k,rfl,qZ,C,lX,λy a=>.inl a⟩ ?_
 rintro⟨a1,a2,a3,a4⟩ W ⟨i,F,I,V,Q,M,N⟩ KN o;simp only at I;subst I;unfold L26_0;intro _;have O:M0 w W:=((H.trans p).on M λy a=>.inr (J y a))
 by_cases f:i<5
 ·apply cx (.bool true) W (by simp[go_sem];omega);rw[kx];have T:hC W z (DM.flatMap cmC).toArray om:=M.hpk B (λh=>by grind);have r:Rd W 35 (.slice (some ⟨z,0,none⟩) 5 5) DM.length (DM.flatMap cmC):=⟨ax1,.inr ⟨_,0,5,rfl,cJ _,At.all T⟩⟩
  obtain⟨b,X,he,n⟩:=zH r (i:=i) f;apply cI (he W);apply iW (vx n);obtain⟨s1,S,s3⟩:=Ht (i:=i) f;refine kW Q (Pw i V) s3 λsT sG sA R l D R4 m4 P _=>?_;apply cx (gI 0) l (by rw[BG,s1]);refine qSf0 ?_;apply cx (gI ((i+1:Nat):Int)) l (by simp[go_sem];rw[wI_]);rw[S]at D
  exact o _ l ⟨i+1,R,rfl,qZ,D,M.on m4 λy a=>N y a,λy a=>by
   rcases P y a with h|h
   ·exact N y h
   ·have:=M.size;exact gz⟩ (by grind)
 ·apply cx (.bool false) W (by simp[go_sem];omega);rw[gP];have q:i=5:=qZ;subst q;have g:=Pw 5 qZ;rw[WZ]at g Q
  exact U v F W Q g O λy a=>by
   rcases N y a with h|h
   ·exact J y h
   ·have:=H.size;have:=p.size;omega
def boxRp(r:Rp)(sT sG sA:Vt_)(w:Wt_):∃a,(Instr.box 52 (ud r sT sG sA)).run pQ w=.ok (pt w.heap.size 0) a/\hC a w.heap.size (mC r sT sG sA).toArray 52/\M0 w a:=
 ⟨w.alloc (.cells (mC r sT sG sA).toArray 52),rfl,by show hp _ _=_;simp[go_sem],(de.refl _ w).alloc _⟩
def pZ{lo:Nat}{d nx j:Int}{ss:Nat->Value}{A:List Ac}{C:List Ct}{P:List Po}{O B:List (Int×Od)}{K:Value->World->Prop}(h:SB w b d nx j ss A C P O B lo)
  (t:∀p l,SB l p d nx j ss A C P O B lo->M0 w l->w.heap.size<=p->K (pt p 0) l):
  rv pQ (iA sV true (.tuple #[])) w λq o=>ru pQ (iS sV q (As d nx j ss)) o λk=>K q k:=by
 obtain⟨o,D,r,x⟩:=CR w;apply cI D
 obtain⟨k,u,v,s⟩:=Uz (d:=d) (n:=nx) (f:=j) (ss:=ss) r rfl λi e g=>by
  obtain⟨a,c,z,_⟩:=(h.own i e g).isSl;exact⟨a,_,c,z⟩
 apply ir u;have M:M0 w k:=x.on s λy m=>gz;refine t _ k ⟨v,λi e g=>(h.own i e g).mod M eQ,h.dj,λi y e g m=>⟨(h.nw i y e g m).1,?_⟩⟩ M (cJ _);have:=(h.own i e g).lt m;omega
def uj{lo:Nat}{d nx j:Int}{ss:Nat->Value}{A:List Ac}{C:List Ct}{P:List Po}{O B:List (Int×Od)}(h:SB w b d nx j ss A C P O B lo){i:Nat}(hi:i<A.length):
  ∃a c,(∀W,(iX 56 (ss 3) (gI (i:Int))).run pQ W=.ok (pt a c) W)/\At w a c (dH A[i])/\cK (ss 3) a:=by
 have m:Rd w 4 (ss 3) A.length (A.flatMap dH):=(h.own 3 qZ qZ).rd;obtain⟨b,c,k,e,g,l⟩:=m.item (f:=dH) (λx=>by simp[dH]) hi rfl;exact⟨b,c+i*4,λW=>by rw[e];simp[go_sem,hi,cS],l,by rw[e];exact rfl⟩
def LM(e:Int)(W:Wt_):(Instr.build 52 #[(0,gI e)]).run pQ W=.ok (ud (failR e) dv dv dv) W:=by simp[go_sem,ud,failR,zRp,dv]
def QN:Oi.2.apply kC6=ML:=by rw[ML]
def OK:ML.2.apply Z5=ze:=by rw[ze]
def XG:ze.2.apply kC8=YN:=by rw[YN]
def aE3(h:Oi.2.Ok):ML.2.Ok:=by rw[<-QN];exact mV h N8.2.2.2.2.2.1
def ax8(h:ML.2.Ok):ze.2.Ok:=by rw[<-OK];exact mV h N8.2.2.2.2.2.2.1
def aD1:∃a b,ze.2.led.all=[a,b]/\a.cash=1030/\b.cash=970:=by
 have h:=S9;generalize ze.2.led.all=L at h;have d:L.length=2:=by have:=fC List.length h;simpa using this
 obtain⟨a,b,rfl⟩:∃a b,L=[a,b]:=by
  cases L with
  |nil=>cases d
  |cons a t=>
   cases t with
   |nil=>cases d
   |cons b u=>
    cases u with
    |nil=>exact⟨a,b,rfl⟩
    |cons c z=>simp at d
 simp only[cM,List.map_nil,mR,and_true]at h;exact⟨a,b,rfl,h.1,h.2⟩
def XW{v:Nat}(h:lw w v F Oi.2)(f:Oi.2.Ok)
  (m:∀j l k i g,lw g v i ML.2->ML.2.Ok->de F w g->(∀y,i y->F y\/w.heap.size<=y)->K (ud ML.1 j l k) g):Ca pQ 18 #[eY v,vI kC6] w K:=by
 refine kW h f N8.2.2.2.2.2.1 λj l k i g a b c d e=>?_;rw[QN]at a b|-;exact m j l k i g a (aE3 f) c d
def Yk{v:Nat}(h:lw w v F ML.2)(f:ML.2.Ok)
  (m:∀j l k i g,lw g v i ze.2->ze.2.Ok->de F w g->(∀y,i y->F y\/w.heap.size<=y)->K (ud ze.1 j l k) g):Ca pQ 18 #[eY v,vI Z5] w K:=by
 refine kW h f N8.2.2.2.2.2.2.1 λj l k i g a b c d e=>?_;rw[OK]at a b|-;exact m j l k i g a (ax8 f) c d
def Xk{v:Nat}(h:lw w v F ze.2)(i:ze.2.Ok)
  (m:∀j l k g f,lw f v g YN.2->de F w f->(∀y,g y->F y\/w.heap.size<=y)->K (ud YN.1 j l k) f):Ca pQ 18 #[eY v,vI kC8] w K:=by
 refine kW h i N8.2.2.2.2.2.2.2 λj l k g f a b c d e=>?_;rw[XG]at a b|-;exact m j l k g f a c d
def NM 
  (t:∀v F W,lw W v F ze.2->ze.2.Ok->M0 w W->(∀y,F y->w.heap.size<=y)->J13_0 K (eY v) (.bool false,()) W):Ca pQ 13 #[] w K:=by
 apply ca13;refine Pr λv F A r j m x=>?_;refine qS0 ?_;refine qS0 ?_;refine dK.at (λs W=>s=(.bool false,())/\∃F,lw W v F ze.2/\ze.2.Ok/\M0 w W/\∀y,F y->w.heap.size<=y) ?_ ?_
 ·refine qSf0 ?_;refine lL bk6 (XW r j λf i g d z k a c n=>?_);apply cI (BG ML.1 f i g z);rw[XE];refine qSf0 ?_;refine lL bk7 (Yk k a λf i g F3 p u e o q=>?_);apply cI (BG ze.1 f i g p);rw[Xt];refine qS0 ?_;have C:=m.size;have B:=c.size;have l:∀y,d y->w.heap.size<=y:=λy b=>by grind
  refine⟨rfl,F3,u,e,(m.on c λy b=>.inr (x y b)).on o λy b=>.inr (l y b),λy b=>?_⟩;rcases q y b with h|h
  ·exact l y h
  ·omega
 rintro _ W ⟨rfl,d,k,a,c,n⟩;exact t v d W k a c n
def av8{L:List Ac}{b:Ac}(h:L=[a,b])(hi:0<L.length):L[0]=a:=by subst h;rfl
def au3{L:List Ac}{b:Ac}(h:L=[a,b])(hi:1<L.length):L[1]=b:=by subst h;rfl
def qV{off:Nat}(h:At w b off (dH a)):(iL 2 (pt b (off+1))).run pQ w=.ok (gI a.cash) w:=by
 have:=h.cell 1 (gI a.cash) rfl;obtain⟨C,e,fz,d,c⟩:=h.get;have f:=c 1 _ rfl;simp[go_sem,d,f]
def Mh{v:Nat}(h:lw w v F ze.2)(f:ze.2.Ok)
  (hK:∀m W,lw W v m YN.2->de F w W->(∀y,m y->F y\/w.heap.size<=y)->
   wS pQ (Instr.build 52 #[(0,(gI 160))]) λu=>
   rx pQ (jQ 31 1 [(0,(gB 99))]) W λr s=>
   Ca pQ 15 #[eY v,r] s λk g=>
   pS pQ (uL 31 9 k) g λj=>
   Ca pQ 16 #[u] g λC d=>
   (uL 31 9 k).run pQ d=.ok j d/\
   (pS pQ (uL 31 9 C) d λG=>
   wS pQ (qE .eql 9 false j G) λz=>
   K z d)):J13_0 K (eY v) (.bool false,()) w:=by
 unfold J13_0;intro _;rw[gP];obtain⟨c,l,mb,md,A,D,fp,N,V⟩:=h;have hQ:lw w v F ze.2:=⟨c,l,mb,md,A,D,fp,N,V⟩
 refine mK N f λss b lo w1 s1 R m1 hb=>?_;refine pZ s1 λp H s2 m2 hp2=>?_;have M:=m1.trans m2;obtain⟨x,y,B,Q,t⟩:=aD1;have hl:ze.2.led.all.length=2:=by rw[B];rfl
 have E:(LN ze.2.led.all ze.2.cal.l (ze.2.nums.flatMap ze.2.led.holders) (ze.2.nums.flatMap λn=>(ze.2.bk n).all.map λo=>(n,o)) (ze.2.nums.flatMap λn=>(ze.2.bd n).map λo=>(n,o)) 3)=2:=hl;have md:M0 H H.drew:=mP;have e:=SB.modX s2 md eQ;have q:=M.trans md
 try dsimp only
 generalize H.drew=w3 at e q|-;have O:=hQ.md0 q;obtain⟨a,cc,J,_⟩:=(e.own 3 qZ qZ).isSl;rw[E]at J;obtain⟨a0,o0,X,I,-⟩:=uj e (i:=0) qZ;obtain⟨a1,o1,i1,L,-⟩:=uj e (i:=1) qZ;have T:=av8 B qZ;have x1:=au3 B qZ;rw[T]at I;rw[x1]at L;refine dw (λ_=>dZ _ 3 qZ) (dp (e.ld 3 qZ qZ) ?_);apply oy (gI 2) (by rw[J];simp[go_sem]);refine qPt0 ?_;refine dw (λ_=>dZ _ 3 qZ) (dp (e.ld 3 qZ qZ) (dw X ?_));refine qP0 ?_;apply oy (gI 1030) (by rw[qV I,Q]);refine qPt0 ?_;refine dw (λ_=>dZ _ 3 qZ) (dp (e.ld 3 qZ qZ) (dw i1 ?_));refine qP0 ?_;apply oy (gI 970) (by rw[qV L,t]);refine qPt0 ?_;refine AN bk8 (Xk O f λP U Z m Y q4 S n4=>?_);apply dw (λW=>BG YN.1 P U Z W);rw[YO];refine qPt0 ?_
 exact hK m Y q4 ((q.to).trans S) λy t=>by
  rcases n4 y t with h|h
  ·exact .inl h
  ·have:=q.size;exact gz
def UF:lN pQ 5 1 1=true:=cU
def u8C:Tryz.prog.cellsOf 5=0+1:=cU
abbrev tBs:TypeId:=31
def Gr:Tryz.prog.underlying tBs=some (.slice 5):=Tryz.underlying31
set_option maxRecDepth 100000 in
def Ul(n:Nat):bits .or .u8 (IntKind.u8.wrap (n:Int)) 128=((UInt8.ofNat (n%128+128)).toNat:Int):=by
 have a:IntKind.u8.wrap (n:Int)=((n%256:Nat):Int):=by rw[mQ];omega
 have b:(UInt8.ofNat (n%128+128)).toNat=n%128+128:=Lq qZ;rw[a,show(128:Int)=((128:Nat):Int)from rfl,u8_or_nat _ _ qZ qZ,b];congr 1;have h:∀m:Fin 256,m.val|||128=m.val%128+128:=by decide
 have:=h ⟨n%256,qZ⟩;simp only at this;rw[this];omega
def Uf{s:Vt_}{k n:Nat}(h:jo w 5 1 s k (bv l))(J:n<18446744073709551616)(O:k<=1000000000)
  (F:∀g u,jo u 5 1 g (k+(pP n).length) (bv (l++pP n))->de (cK s) w u->(∀b,cK g b->cK s b\/w.heap.size<=b)->K g u):
  Ca pQ 73 #[s,gQ n] w K:=by
 apply ca73
 refine eS (λst W=>∃(m:Nat) (a:List UInt8) (g:Vt_),pP n=a++pP m/\m<=n/\st=(gQ (m:Int),g,())/\jo W 5 1 g (k+a.length) (bv (l++a))/\de (cK s) w W/\(∀b,cK g b->cK s b\/w.heap.size<=b))
  (λst _=>match st.1 with| .int _ i=>i.toNat|_=>0) ⟨n,[],s,rfl,cJ _,rfl,by simpa using h,lX,λb o=>.inl o⟩ ?_
 rintro⟨_,_⟩ W ⟨m,a,g,c,P,⟨⟩,C,t,f⟩ N z;unfold L73_0;intro _;have q:=CT J;rw[c,cD]at q;by_cases E:128<=m
 ·have d:(128:Int)<=(m:Int):=qZ;refine qSt1 d ?_;refine qS0 ?_;refine qS0 ?_;rw[Ul];refine Qm [UInt8.ofNat (m%128+128)] Gr (eO UF) rfl rfl qZ λv I A j M=>?_;refine jR (m:=1) Gr Gr (eO UF) (C.mod j eQ) A.rd (JE _) qZ λD H r x y=>?_;refine qS0 ?_;have B:pP m=UInt8.ofNat (m%128+128)::pP (m / 128):=Co qZ;refine z _ _ ⟨m / 128,a++[UInt8.ofNat (m%128+128)],D,by rw[c,B];simp,qZ,rfl,?_,?_,?_⟩ ?_
  ·rw[<-A4,df]at r;have e:k+(a++[UInt8.ofNat (m%128+128)]).length=k+a.length+1:=by simp;omega
   rw[e];exact r
  ·exact(t.on j λ_ h=>h.elim).on x f
  ·intro b o;rcases y b o with p|p
   ·exact f b p
   ·have:=(t.on j (G:=λ_=>False) λ_ h=>h.elim).size;omega
  ·grind
 ·have d:¬(128:Int)<=(m:Int):=qZ;refine qSf1 d ?_
  have L:IntKind.u8.wrap (m:Int)=((UInt8.ofNat m).toNat:Int):=by
   rw[Lq qZ,mQ];omega
  refine qS0 ?_;rw[L];refine Qm [UInt8.ofNat m] Gr (eO UF) rfl rfl qZ λv I A j M=>?_;refine jR (m:=1) Gr Gr (eO UF) (C.mod j eQ) A.rd (JE _) qZ λD H r x y=>?_;have B:pP m=[UInt8.ofNat m]:=wK qZ;refine F _ _ ?_ ((t.on j λ_ h=>h.elim).on x f) ?_
  ·rw[c,B];rw[<-A4,df]at r;have e:k+(a++[UInt8.ofNat m]).length=k+a.length+1:=by simp;omega
   rw[e];exact r
  ·intro b o;rcases y b o with p|p
   ·exact f b p
   ·have:=(t.on j (G:=λ_=>False) λ_ h=>h.elim).size;omega
def uD(r:Nat):Value:=pt r 0
structure sJ(w:Wt_)(r:Nat)(v:Vt_)(l:List UInt8)(s:Rs):Prop where
 blk:hC w r #[v,gI s.at_,gI s.e] 200
 rd:Rd w 1 v l.length (bv l)
 le:s.at_<=l.length
 ne:¬BQ v r
 len:l.length<=1000000000
def sJ.mod{w' :Wt_}(h:sJ w r v l s)(a:de F w w')(d:¬F r)(c:∀b,BQ v b->¬F b):sJ w' r v l s:=
 ⟨a.keep h.blk d,h.rd.mod a c,h.le,h.ne,h.len⟩
def sJ.lt(h:sJ w r v l s):r<w.heap.size:=cB h.blk
def FC(h:Rd w 1 v l.length (bv l))(d:l.length<=1000000000)
  (e:∀b,sJ b w.heap.size v l ⟨0,0⟩->M0 w b->K (uD w.heap.size) b):Ca pQ 62 #[v] w K:=by
 obtain⟨a,c,rfl⟩:=h.isSl;apply ca62;simp[go_sem];refine e _ ⟨?_,h.mod lm eQ,nY _,λf=>Nat.lt_irrefl _ (h.lt f),d⟩ lm;simp[go_sem]
def X8(h:sJ w r v l s)(a:K (.bool (decide (s.e≠0))) w):Ca pQ 114 #[uD r] w K:=by
 apply ca114;have c:=h.blk;simp[go_sem,uD,c]
 have e:((s.e:Int) != 0)=decide (s.e≠0):=by
  by_cases b:s.e=0<;>simp[b]
 first
  |exact a
  |(rw[e];exact a)
  |(simpa using a)
def IP(l:List UInt8)(at_:Nat):Value:=
 match ID (l.drop at_) 0 0 with
 | .error e=>.tuple #[.int .u64 0,gI 0,gI e]
 | .ok (n,k)=>.tuple #[.int .u64 n,gI (at_+k:Nat),gI 0]
def aC9(k:Nat):(2:Int) ^ (7*k)=((128 ^ k:Nat):Int):=by
 rw[Int.pow_mul];simp
def XZ(h:sJ w r v l s)(G:∀w',M0 w w' ->K (IP l s.at_) w'):Ca pQ 115 #[uD r] w K:=by
 have H:=h.blk;have hlen:=h.len;obtain⟨v',z,F,hin⟩:=h.rd.from_ (P:=pQ) Gr u8C h.le .i64;simp only[eU,pX]at F;rw[Ud]at F;apply ca115;simp only[uD,dr];apply dX (pt r 0) (λW=>by simp[go_sem]);refine qW1 H ?_;apply dX (pt r 1) (λW=>by simp[go_sem]);refine qW1 H ?_;apply dX v' z;obtain⟨a',c',V⟩:=F.isSl;apply oy (gI ((l.length - s.at_:Nat):Int)) (by rw[V];simp[go_sem]);have o:=F.mod (de.refl (λ_=>False) w).drew eQ;generalize I:w.drew=T at o|-;have j:M0 w T:=by subst I;exact(de.refl _ w).drew
 have Z:hp T r=some (.cells #[v,gI s.at_,gI s.e] 200 (0,0)):=j.keep H id;obtain⟨L,q⟩:=dW (l.drop s.at_);rw[<-q]at o;have hLl:L.length=l.length - s.at_:=by rw[q];simp
 refine eS (λst W=>∃(i acc:Nat),i<=L.length/\i<=9/\acc<128 ^ i/\ID L 0 0=ID (L.drop i) i acc/\(∃x1 x2:Value,st=(gQ (acc:Int),x1,x2,gI (i:Int),()))/\W=T)
  (λst _=>match st.2.2.2.1 with| .int _ i=>10 - i.toNat|_=>0) ⟨0,0,qZ,qZ,by decide,rfl,⟨_,_,rfl⟩,rfl⟩ ?_
 rintro⟨_,_⟩ W ⟨i,acc,hi,O,hacc,B,⟨x1,x2,⟨⟩⟩,rfl⟩ KN M;unfold L115_2;intro _;by_cases u:i<L.length
 ·obtain⟨b,off,cap,C,e,fz,Q,hcap,hC,R⟩:=o.byte (i:=i) qZ u;have hx:=(L[i]).toNat_lt;have X:L.drop i=L[i]::L.drop (i+1):=fF u;have g:(i:Int)<((l.length - s.at_:Nat):Int):=qZ;refine qS1 g ?_;rw[cy,bZ rfl,Q];have D:i<l.length - s.at_:=qZ;refine qS2 D cS ?_;refine qS2 hC R ?_;obtain⟨x,m⟩:=dW ((L[i]).toNat);rw[<-m];rw[<-m]at hx
  have a:ID L 0 0=if i=9/\1<x\/9<i then .error 5
    else if x<128 then(if x=0/\0<i then .error 5 else .ok (acc+x%128*128 ^ i,i+1))
    else ID (L.drop (i+1)) (i+1) (acc+x%128*128 ^ i):=by
   rw[B,X];simp only[ID];rw[<-m]
  refine dK.at (λst S=>st=(.bool (decide (i=9/\1<x\/9<i)),())/\S=W) ?_ ?_
  ·by_cases Y:i=9
   ·subst Y;refine qSt0 ?_;by_cases h1:1<x
    ·have p:(1:Int)<(x:Int):=qZ;refine qSt1 p ?_;exact⟨by simp[h1],rfl⟩
    ·have p:¬(1:Int)<(x:Int):=qZ;refine qSf1 p ?_;refine qS0 ?_;exact⟨by simp[h1],rfl⟩
   ·have J:¬(i:Int)=9:=qZ;have y:¬(9:Int)<(i:Int):=qZ;refine qSf1 J ?_;refine qS1 y ?_;exact⟨by simp[Y];omega,rfl⟩
  rintro _ W ⟨rfl,rfl⟩;unfold J115_1;intro _;by_cases c:i=9/\1<x\/9<i
  ·rw[bZ c]at a;simp only[c,qb,cy,fh];have:=G _ j;unfold IP at this;rw[<-q,a]at this;exact this
  rw[aZ c]at a;simp only[c,decide_false,cy,dE,eW]
  have ea:bits .and .u8 (x:Int) 127=((x%128:Nat):Int):=by
   rw[show(127:Int)=((127:Nat):Int)from rfl,u8_and_nat _ _ qZ qZ];congr 1;exact Nat.and_two_pow_sub_one_eq_mod x 7
  have hs:x%128*128 ^ i<18446744073709551616:=by
   by_cases Y:i=9
   ·grind
   ·have h8:128 ^ i<=128 ^ 8:=lS (by decide) qZ;have h7:=jE (show x%128<=127 by omega) h8;have e8:(127:Nat)*128 ^ 8<18446744073709551616:=by decide
    omega
  have f:acc<18446744073709551616:=by
   have h8:128 ^ i<=128 ^ 9:=lS (by decide) O;have e9:(128:Nat) ^ 9=9223372036854775808:=by decide
   omega
  have eo:acc|||(x%128*128 ^ i)=acc+x%128*128 ^ i:=by
   have e1:(128:Nat) ^ i=2 ^ (7*i):=by rw[Nat.pow_mul]
   have:=Nat.two_pow_add_eq_or_of_lt (i:=7*i) (b:=acc) (by grind) (x%128);rw[<-e1,fe (128 ^ i)]at this;rw[Nat.or_comm,<-this,jf]
  have hsum:acc+x%128*128 ^ i<18446744073709551616:=by
   rw[<-eo];exact Nat.or_lt_two_pow (n:=64) f hs
  apply cx (gB ((x%128:Nat):Int)) W (by simp only[go_sem];simp[-Int.natCast_emod,go_sem,ea]);apply cx (gQ ((x%128:Nat):Int)) W (by simp[-Int.natCast_emod,go_sem,G8 (n:=((x%128:Nat):Int)) qZ qZ]);apply cx (gI ((7*i:Nat):Int)) W (by simp[go_sem];rw[wI_]);refine cx (gQ ((x%128*128 ^ i:Nat):Int)) W ?_ ?_
  ·have e7:((7*i:Nat):Int).toNat=7*i:=qZ;have e8:¬((7*i:Nat):Int)<0:=qZ;simp[-Int.natCast_mul,-Int.natCast_emod,go_sem,e7,e8];rw[aC9,<-iB,wU_]
  refine cx (gQ ((acc+x%128*128 ^ i:Nat):Int)) W ?_ ?_
  ·simp only[go_sem];simp[-Int.natCast_add,-Int.natCast_mul,-Int.natCast_emod,go_sem];rw[u64_or_nat _ _ f hs,eo]
  by_cases k:x<128
  ·have d:(x:Int)<128:=qZ;rw[bZ k]at a;refine qSt1 d ?_;refine dK.at (λst S=>st=(.bool (decide (x=0/\0<i)),())/\S=W) ?_ ?_
   ·by_cases U:x=0
    ·refine qSt1 U ?_;refine qSv0 (.bool (decide ((0:Int)<(i:Int)))) ?_;refine⟨?_,rfl⟩;have e:decide ((0:Int)<(i:Int))=decide (x=0/\0<i):=by grind
     rw[e]
    ·have h0' :¬(x:Int)=0:=qZ;refine qSf1 U ?_;exact⟨by simp[U],rfl⟩
   rintro _ W ⟨rfl,rfl⟩;unfold J115_0;intro _;by_cases E:x=0/\0<i
   ·rw[bZ E]at a;simp only[E,and_self,qb,cy,fh];have:=G _ j;unfold IP at this;rw[<-q,a]at this;exact this
   rw[aZ E]at a;simp only[E,decide_false,cy,dE,eW];have hat:s.at_+i+1<9223372036854775808:=qZ;simp only[uD,dr];apply dX (pt r 1) (λW=>by simp[go_sem])
   have t:∀A,A.heap=W.heap->(iL 3 (pt r 1)).run pQ A=.ok (gI s.at_) A:=λA e=>by
    have N:hp A r=some (.cells #[v,gI s.at_,gI s.e] 200 (0,0)):=by unfold hp;rw[e];exact Z
    simp[go_sem,N]
   refine oy (gI s.at_) (t _ rfl) ?_;apply dX (gI ((s.at_+i:Nat):Int)) (λW=>by simp[go_sem];rw[wI_]);apply dX (gI ((s.at_+(i+1):Nat):Int)) (λW=>by simp[go_sem];rw[wI_];omega);refine⟨t _ rfl,?_⟩;have:=G _ j.drew;unfold IP at this;rw[<-q,a]at this;exact this
  ·have d:¬(x:Int)<128:=qZ;rw[aZ k]at a;refine qSf1 d ?_;apply cx (gI ((i+1:Nat):Int)) W (by simp[go_sem];rw[wI_]);have hi9' :i≠9:=λe=>c (.inl ⟨e,qZ⟩);refine M _ _ ⟨i+1,_,qZ,qZ,?_,a,⟨_,_,rfl⟩,rfl⟩ ?_
   ·rw[Nat.pow_succ];have:x%128*128 ^ i<=127*128 ^ i:=dM _ qZ;omega
   ·grind
 ·have g:¬(i:Int)<((l.length - s.at_:Nat):Int):=qZ;refine qSf1 g ?_
  have a:ID L 0 0=.error 4:=by
   rw[B,List.drop_eq_nil_of_le qZ];rfl
  have:=G _ j;unfold IP at this;rw[<-q,a]at this;exact this
def TJ:∀{k acc e:Nat},ID l k acc=.error e->e=4\/e=5:=by
 induction l with
 |nil=>intro k acc e h;cases h;exact .inl rfl
 |cons x r a=>
  intro k acc e h;simp only[ID]at h;split at h
  ·cases h;exact .inr rfl
  ·split at h
   ·split at h
    ·cases h;exact .inr rfl
    ·cases h
   ·exact a h
def sJ.fault(h:sJ w r v l s)(e:Nat):
  sJ (w.setCell ⟨r,2,none⟩ (gI e)) r v l {s with e:=e}/\de (λb=>b=r) w (w.setCell ⟨r,2,none⟩ (gI e)):=by
 have a:de (λb=>b=r) w (w.setCell ⟨r,2,none⟩ (gI e)):=(de.refl (λb=>b=r) w).sc;exact⟨⟨by simp[go_sem,h.blk],h.rd.mod a λb c e=>h.ne (by grind),h.le,h.ne,h.len⟩,a⟩
def sJ.go(h:sJ w r v l s)(a:Nat)(d:a<=l.length):
  sJ (w.setCell ⟨r,1,none⟩ (gI a)) r v l {s with at_:=a}/\de (λb=>b=r) w (w.setCell ⟨r,1,none⟩ (gI a)):=by
 have c:de (λb=>b=r) w (w.setCell ⟨r,1,none⟩ (gI a)):=(de.refl (λb=>b=r) w).sc;exact⟨⟨by simp[go_sem,h.blk],h.rd.mod c λb f e=>h.ne (by grind),d,h.ne,h.len⟩,c⟩
def OQ{most:Nat}(h:sJ w r v l s)(y:most<18446744073709551616)
  (i:∀x,sJ x r v l (uu l most s).2->de (λb=>b=r) w x->K (gQ (uu l most s).1) x):Ca pQ 63 #[uD r,gQ most] w K:=by
 apply ca63;apply X8 h;by_cases z:s.e≠0
 ·rw[qo z];have j:uu l most s=(0,s):=by unfold uu;rw[bZ z]
  rw[j]at i;exact i _ h lX
 rw[cy,aZ (by grind)]
 have j:uu l most s=match ID (l.drop s.at_) 0 0 with
  | .error e=>(0,{s with e:=e})
  | .ok (n,k)=>if most<n then(0,{s with e:=5})else(n,{s with at_:=s.at_+k}):=by unfold uu;rw[aZ z];cases ID (l.drop s.at_) 0 0<;>rfl
 refine XZ h λa t=>?_;have g:=h.mod t id eQ
 have o:∀(e n k:Nat) (a:Wt_),sJ a r v l s->M0 w a->s.at_+k<=l.length->
   (if e≠0 then uu l most s=(0,{s with e:=e})else uu l most s=(n,{s with at_:=s.at_+k}))->
   J63_1 (uD r) K (gI (s.at_+k:Nat)) (gQ n) (gI e,()) a:=by
  intro e n k a g t E u;unfold J63_1;intro _;have C:∀A,de (λb=>b=r) a A->de (λb=>b=r) w A:=λA D=>(t.to).trans D;by_cases B:e≠0
  ·rw[bZ B]at u;rw[u]at i;have f:¬(e:Int)=0:=qZ;apply cx (.bool true) a (by simp[go_sem,f];omega);rw[kx];obtain⟨q,m⟩:=g.fault e;simp only[uD,dr];refine qS0 ?_;refine qU1 g.blk ?_;exact i _ q (C _ m)
  ·rw[aZ B]at u;rw[u]at i;have f:(e:Int)=0:=qZ;refine qSf1 f ?_;obtain⟨q,m⟩:=g.go (s.at_+k) E;simp only[uD,dr];refine qS0 ?_;refine qU1 g.blk ?_;exact i _ q (C _ m)
 cases d:ID (l.drop s.at_) 0 0 with
 |error e=>
  have F:=TJ d;unfold IP;rw[d]at j|-;simp only at j|-;refine qS0 ?_;refine qS0 ?_;refine qS0 ?_;refine dK.at (λst W=>st=(gI e,())/\W=a) ?_ ?_
  ·refine dK.at (λst W=>st=(.bool false,())/\W=a) ?_ ?_
   ·have f:¬(e:Int)=0:=qZ;apply cx (.bool false) a (by simp[go_sem];omega);rw[gP];exact sI
   ·rintro _ a ⟨rfl,rfl⟩;unfold J63_0;intro _;rw[gP];exact sI
  ·rintro _ a ⟨rfl,rfl⟩;have I:e≠0:=qZ;unfold J63_1;intro _;rw[j]at i;apply cx (.bool true) a (by simp[go_sem];omega);rw[kx];obtain⟨q,m⟩:=g.fault e;simp only[uD,dr];refine qS0 ?_;refine qU1 g.blk ?_;exact i _ q ((t.to).trans m)
 |ok p=>
  obtain⟨n,k⟩:=p;have G:=Sx d;have H:=h.le;rw[dV]at G;unfold IP;rw[d]at j|-;simp only at j|-;refine qS0 ?_;refine qS0 ?_;refine qS0 ?_;refine dK.at (λst W=>st=(gI (if most<n then 5 else 0:Nat),())/\W=a) ?_ ?_
  ·refine dK.at (λst W=>st=(.bool (decide (most<n)),())/\W=a) ?_ ?_
   ·refine qSt0 ?_;refine qS0 ?_;exact sI
   ·rintro _ a ⟨rfl,rfl⟩;unfold J63_0;intro _;by_cases c:most<n
    ·rw[qo c,bZ c];simp
    ·rw[cy,aZ (by grind),aZ c];simp
  ·rintro _ a ⟨rfl,rfl⟩;apply o (if most<n then 5 else 0) n k _ g t qZ;by_cases c:most<n
   ·grind
   ·grind
def Tz(h:sJ w r v l s)
  (g:∀f,M0 w f->K (gI (Gn l s)) f):Ca pQ 71 #[uD r] w K:=by
 have b:=h.blk;obtain⟨a,c,rfl⟩:=h.rd.isSl;apply ca71;apply cx (.bool false) w (by simp[go_sem,uD]);rw[gP];refine dK.at (λst W=>st=(.bool (decide (s.e=0/\s.at_<l.length)),())/\W=w.drew) ?_ ?_
 ·simp only[uD,dr];apply dX (pt r 2) (λW=>by simp[go_sem]);refine qW1 b ?_;by_cases d:s.e=0
  ·apply dX (.bool true) (λW=>by simp[go_sem,d]);rw[kx];apply dX (pt r 1) (λW=>by simp[go_sem]);refine qW1 b ?_;apply dX (pt r 0) (λW=>by simp[go_sem]);refine qW1 b ?_;refine qW0 ?_;apply dX (.bool (decide (s.at_<l.length))) (λW=>by simp[go_sem]);simp[d]
  ·apply dX (.bool false) (λW=>by simp[go_sem];omega);rw[gP];simp[d]
 rintro _ _ ⟨rfl,rfl⟩;unfold J71_0;intro _;have i:M0 w w.drew:=mP;by_cases e:s.e=0/\s.at_<l.length
 ·rw[qo e];have:=g _ i;unfold Gn at this;rw[bZ e]at this;exact this
 ·rw[cy,aZ (by grind)];have:=g _ i;unfold Gn at this;rw[aZ e]at this;simp only[uD,dr];refine qS0 ?_;refine qS1 b ?_;exact this
def az3:uu [99] 14 ⟨0,0⟩=(0,⟨0,5⟩):=by rfl
def aj9:Gn [99] ⟨0,5⟩=5:=by rfl
def bkZ:Tryz.prog.built om [(0,gB 0)]=some (cmC zCm).toArray:=cU
def aD3:Tryz.prog.built om []=some (cmC zCm).toArray:=cU
def GX{W:Wt_}{p:Nat}{a b:Cm}{d:World->Prop}(h:iy W p a)(e:∀c,iy c p b->de (λy=>y=p) W c->d c):nj pQ (jH om (pt p 0) (.agg (cmC b).toArray)) W d:=by
 refine uH nCm (ni b) h (by rw[eT,ni,ni];omega) (Ky b) (e _ ?_ ((de.refl (λy=>y=p) W).setRow (.inl rfl) _));have f:W.heap[p]? =some (.cells (cmC a).toArray om (0,0)):=h;show(W.setRow p _).heap[p]? =_;rw[ij,bZ rfl,f,tp (by show(cmC b).length=(cmC a).length;rw[ni,ni])]
def Na(h:Rd w 1 v 1 (bv [99]))(X:∀E,M0 w E->K (.tuple #[vI zCm,gI 5]) E):Ca pQ 34 #[v] w K:=by
 apply ca34;apply rg NT;rw[yA];obtain⟨z,H⟩:=dW w.heap.size;have A:M0 w (w.alloc (.cells (cmC zCm).toArray om)):=lm;have m:iy (w.alloc (.cells (cmC zCm).toArray om)) z zCm:=by show hp _ _=_;rw[H];simp[go_sem]
 rw[<-H];generalize w.alloc (.cells (cmC zCm).toArray om)=O at A m|-;have P:=h.mod A eQ;refine FC (l:=[99]) P (by decide) λi B n=>?_;generalize hr:O.heap.size=r at B n|-;have b2:=n.hpk m id;have hzr:z<r:=by have:=cB m;omega
 have Z:w.heap.size<=z:=qZ;have M2:=A.trans n;obtain⟨q,o⟩:=dW i.heap.size;have N:r<q:=by have:=B.lt;omega
 have f:∃c,(i.alloc (.cells #[.pointer none] 151)).setCell ⟨q,0,none⟩ (uD r)=c/\M0 i c/\hC c q #[uD r] 151:=
  ⟨_,rfl,lm.setCell (.inr (by grind)) _ _,by rw[o];simp[go_sem,uD]⟩
 obtain⟨c,d,C,L⟩:=f;apply cx (pt q 0) (i.alloc (.cells #[.pointer none] 151)) (by rw[o];simp[go_sem]);apply pH c (by rw[<-d,o];simp[go_sem,uD]);clear d;have S:=B.mod C id eQ;have Y:=C.hpk b2 id;apply cx (uD r) c (by simp[go_sem,L,uD]);refine OQ (l:=[99]) (s:=⟨0,0⟩) (most:=14) S (by decide) λa G u=>?_;rw[az3]at G|-;have hql:∀b,BQ v b->b<z:=λb F=>by have:=h.lt F;omega
 have c5:=u.hpk Y qZ;have D:=u.hpk L qZ;have Q:M0 w a:=(M2.trans C).on u λy t=>gz;apply cx (gB 0) a (by simp[go_sem];decide);apply lL bkZ;apply rg NT;rw[yA];obtain⟨y,t⟩:=dW a.heap.size;have k:M0 a (a.alloc (.cells (cmC zCm).toArray om)):=lm;have J:iy (a.alloc (.cells (cmC zCm).toArray om)) y zCm:=by show hp _ _=_;rw[t];simp[go_sem]
 rw[<-t];generalize a.alloc (.cells (cmC zCm).toArray om)=w6 at k J|-;have hqy:q<y:=by have:=cB D;omega
 refine GX (b:=zCm) J λg M I=>?_;have p:M0 a g:=k.on I λx hx=>gz;have U:=(G.mod k id eQ).mod I qZ λb F e=>by grind
 have V:=p.hpk c5 id;have b7:=p.hpk D id;refine dK.at (λs W=>s=()/\W=g) ?_ ?_
 ·apply qSv0 (pt y 0);apply cx (gB 0) g (sH M);refine dK.at (λs W=>s=(.bool false,())/\W=g) ?_ ?_
  ·apply qSv0 (.bool false);rw[gP];apply qSv0 (.bool false);exact sI
  ·rintro _ W ⟨rfl,rfl⟩;unfold J34_0;intro _;rw[gP];apply qSv0 (.bool false);rw[gP];apply qSv0 (.bool false);rw[gP];apply qSv0 (.bool false);rw[gP];apply qSv0 (.bool false);rw[gP];apply qSv0 (.bool false);rw[gP];apply qSv0 (.bool false);rw[gP];apply qSv0 (.bool false);rw[gP];apply qSv0 (.bool false);rw[gP];apply qSv0 (.bool false);rw[gP];apply qSv0 (.bool false);rw[gP];apply qSv0 (.bool false);rw[gP];exact sI
 rintro _ W ⟨rfl,rfl⟩;unfold J34_2;intro _;refine dK.at (λs W' =>s=(.bool true,())/\M0 W W') ?_ ?_
 ·apply cx (uD r) W (by simp[go_sem,b7,uD]);refine Tz U λw8 j=>?_;rw[aj9];apply qSv0 (.bool true);rw[kx];exact⟨rfl,j⟩
 rintro _ W8 ⟨rfl,j⟩;unfold J34_1;intro _;rw[kx];apply lL aD3;refine GX (b:=zCm) (j.hpk V id) λw9 T R=>?_;apply li (vm T);exact X w9 (((Q.trans p).trans j).on R λx hx=>gz)
end Go.Proofs
set_option maxRecDepth 100000
namespace Go.Proofs
open Go Go.Vc
section
variable{a:Vt_}{W:Wt_}{Z:cG}
def au8(r:gb .lss 24 true a (gQ 128) W λb c=>cV b (gr (convert 24 5 a) c λd e=>gx (jQ 31 1 [(0,d)]) e Z) (gb .rem 24 true a (gQ 128) c λf g=>gr (convert 24 5 f) g λh i=>gb .add 5 true h (gB 128) i λj k=>gx (jQ 31 1 [(0,j)]) k λl m=>gb .quo 24 true a (gQ 128) m λn o=>Ca pQ 36 #[n] o λp q=>gx (eg #[31,31] 31 [l,p]) q Z)):Ca pQ 36 #[a] W Z:=cj Tryz.func36 r
def ar2(F:gq 52 a W λb c=>dz 52 b 1 24 c λd e=>gb .eql 24 true d (gQ 0) e λf g=>cV f (dz 52 b 2 2 g λh i=>gb .eql 2 true h (gI 0) i λj k=>cV j (dz 52 b 3 2 k λl m=>gb .eql 2 true l (gI 0) m λn o=>cV n (dz 52 b 4 48 o λp q=>gn 48 false p q λr s=>dz 52 b 5 49 s λt u=>gn 49 false t u λv w=>gb .add 3 false r v w λx y=>dz 52 b 6 50 y λz A=>gn 50 false z A λB C=>gb .add 3 false x B C λD E=>gb .eql 3 true D (gI 0) E Z) (Z bF o)) (Z bF k)) (Z bF g)):Ca pQ 117 #[a] W Z:=cj Tryz.func117 F
end
end Go.Proofs
namespace Go.Proofs
open Go Go.Vc
attribute [local congr] cR
variable {e:Nat}{w:Wt_}{K:cG}
def TS:∀(n:Nat) (u:n<18446744073709551616) {w:Wt_} {K:cG}
  (d:∀g h,jo h 5 1 g (pP n).length (bv (pP n))->M0 w h->(∀b,cK g b->w.heap.size<=b)->K g h),Ca pQ 36 #[.int .u64 n] w K:=by
 intro n;induction n using Nat.strongRecOn with
 |_ n y=>
  intro u w K d;apply au8;by_cases k:n<128
  ·have a:(n:Int)<128:=qZ;apply qSv1 (.bool true) a;rw[kx]
   have x:IntKind.u8.wrap (n:Int)=((UInt8.ofNat n).toNat:Int):=by
    rw[Lq qZ,mQ];omega
   apply qSv0 (gB (IntKind.u8.wrap (n:Int)));rw[x];refine Qm [UInt8.ofNat n] Gr (eO UF) rfl rfl qZ λv o j e f=>?_;rw[wK k]at d;exact d _ _ j e λb c=>(f b c).1
  ·have a:¬(n:Int)<128:=qZ;apply qSv1 (.bool false) a;rw[gP];apply cx (gQ ((n%128:Nat):Int)) w (by simp[go_sem];try rw[kv qZ]);apply cx (gB ((n%128:Nat):Int)) w (by simp[go_sem];rw[mQ];omega);apply cx (gB ((UInt8.ofNat (n%128+128)).toNat:Int)) w (by rw[Lq qZ];simp[go_sem];rw[mQ];omega);refine Qm [UInt8.ofNat (n%128+128)] Gr (eO UF) rfl rfl qZ λv o j e f=>?_;apply cx (gQ ((n / 128:Nat):Int)) o (by simp[go_sem];try rw[wU_]);refine y (n / 128) qZ qZ λF C r i D=>?_;have E:=CT (n:=n / 128) qZ;refine jR (m:=(pP (n / 128)).length) Gr Gr (eO UF) (j.mod i eQ) r.rd (JE _) qZ λB A t z q=>?_;rw[<-A4]at t;rw[Co k]at d;have s:=e.size;have p:=i.size;refine d _ _ ?_ ((e.trans i).on z λb c=>.inr (f b c).1) λb c=>?_
   ·grind
   ·rcases q b c with l|l
    ·exact(f b l).1
    ·omega
def GE(q:0<e/\e<=999)(k:∀s c,jo c 5 1 s (pP e).length (bv (pP e))->M0 w c->(∀b,cK s b->w.heap.size<=b)->K s c):
  Ca pQ 16 #[ud (failR e) dv dv dv] w K:=by
 apply ca16;obtain⟨g,n,a,i⟩:=boxRp (failR e) dv dv dv w;apply cI n;obtain⟨p,d⟩:=dW w.heap.size;rw[<-d]at a|-;apply qSv0 (pt p 0);apply cx (gI e) g (by simp[go_sem,a,mC,failR]);apply cx (gQ e) g (by simp[go_sem];rw[wU_]);refine TS e qZ λs f l h o=>?_;have m:=h.hpk a id;apply qSv0 (pt p 0);apply cx (gI e) f (by simp[go_sem,m,mC,failR]);apply cx (.bool true) f (by simp[go_sem];omega);rw[kx];exact k s f l (i.trans h) λb j=>by have:=o b j;have:=i.size;omega
def Tv{e:Int}(f:∀b,M0 w b->K (.bool true) b):Ca pQ 117 #[ud (failR e) dv dv dv] w K:=by
 apply ar2;obtain⟨c,d,a,g⟩:=boxRp (failR e) dv dv dv w;apply cI d;generalize w.heap.size=p at a|-;simp[go_sem,a,mC,failR,zRp,dv];exact f c g
def Tr(k:0<e/\e<=999)(h:∀g,M0 w g->K (.bool true) g):Ca pQ 72 #[ud (failR e) dv dv dv] w K:=by
 apply ca72;obtain⟨a,j,c,i⟩:=boxRp (failR e) dv dv dv w;apply cI j;generalize w.heap.size=p at c|-;refine dK.at (λs W=>s=(.bool false,())/\M0 w W/\hC W p (mC (failR e) dv dv dv).toArray lx) ?_ ?_
 ·have lf:(iF lx (pt p 0) 0).run pQ a=.ok (pt p 0) a:=by simp[go_sem]
  have d:(iL 43 (pt p 0)).run pQ a=.ok (gI e) a:=by simp[go_sem,c,mC,failR]
  refine cI lf (cI d ?_);apply qSv0 (.bool false);rw[gP];refine cI lf (cI d ?_);apply cx (.bool false) a (by simp[go_sem];omega);rw[gP];refine cI lf (cI d ?_);apply cx (.bool true) a (by simp[go_sem];omega);rw[kx];apply cI (lB c);refine Tv λl f=>?_;apply qSv0 (.bool false);exact⟨rfl,i.trans f,f.hpk c id⟩
 rintro _ W ⟨rfl,M,b⟩;unfold J72_0;intro _;rw[gP];simp[go_sem,b,mC,failR,zRp,dv];exact h W M
def GS(B:0<e/\e<=999)(x:∀s g,jo g 5 1 s (pP e).length (bv (pP e))->M0 w g->(∀b,cK s b->w.heap.size<=b)->K (.tuple #[s,gI 0]) g):
  Ca pQ 35 #[ud (failR e) dv dv dv] w K:=by
 apply ca35;obtain⟨C,A,d,q⟩:=boxRp (failR e) dv dv dv w;apply cI A;obtain⟨p,i⟩:=dW w.heap.size;rw[<-i]at d|-;apply cI (lB d);refine Tr B λj f=>?_;have o:=f.hpk d id;apply qSv0 (.bool false);rw[gP];apply qSv0 (pt p 0);apply cx (gI e) j (by simp[go_sem,o,mC,failR]);apply cx (gQ e) j (by simp[go_sem];rw[wU_]);refine Uf (l:=[]) (k:=0) (n:=e) (jo.nil _ _ _) qZ qZ λs c m r u=>?_;have a:M0 j c:=r.mono λy _ z=>by cases z
 have v:=a.hpk o id;apply qSv0 (pt p 0);apply cx (gI e) c (by simp[go_sem,v,mC,failR]);apply cx (.bool true) c (by simp[go_sem];omega);rw[kx];rw[eU,jO]at m
 exact x s c m ((q.trans f).trans a) λb t=>by
  rcases u b t with h|h
  ·cases h
  ·have:=(q.trans f).size;omega
def Me:Tryz.prog.underlying 9=some .string:=cU
def Y3:Tryz.prog.underlying 5=some (.int .u8):=cU
def YQ(x y:List UInt8)(w:Wt_):(qE .eql 9 false (.string (tY x)) (.string (tY y))).run pQ w=.ok (.bool (decide (x=y))) w:=by
 simp[go_sem];by_cases h:x=y<;>simp[h]
def TR{v:Nat}{F:NP_}{S:Ven}{s:Vt_}(h:lw w v F S)(Z:Rd w 1 s 1 (bv [99]))
  (P:∀f i,jo i 5 1 f (pP 160).length (bv (pP 160))->M0 w i->(∀b,cK f b->w.heap.size<=b)->K f i):Ca pQ 15 #[eY v,s] w K:=by
 apply ca15;refine vQ λm x=>?_;obtain⟨w2,R,B,H⟩:=qy m;apply cI R;obtain⟨p,k⟩:=dW m.heap.size;rw[<-k]at B|-;obtain⟨o,e3,L,I⟩:=pl (r:=failR 1) (sT:=dv) (sG:=dv) (sA:=dv) B rfl ⟨gJ,gJ,gJ⟩;apply ir e3;have hwp:w.heap.size<=p:=by have:=x.size;omega
 have j:M0 w o:=(x.trans H).on I λy g=>gz;refine dK.at (λ_ W=>M0 w W/\hC W p (mC (failR 160) dv dv dv).toArray lx) ?_ ?_
 ·have Y:=h.md0 j;obtain⟨c,l,mb,md,A,D,fp,V,hF⟩:=Y;apply vT V.blk;rw[kx];refine Na (Z.mod j eQ) λd C=>?_;apply qSv0 (vI zCm);apply qSv0 (gI 5);apply rg NT;rw[yA];obtain⟨z,t⟩:=dW d.heap.size;have u:M0 d (d.alloc (.cells (cmC zCm).toArray om)):=lm;have n:iy (d.alloc (.cells (cmC zCm).toArray om)) z zCm:=by show hp _ _=_;rw[t];simp[go_sem]
  rw[<-t];generalize d.alloc (.cells (cmC zCm).toArray om)=w5 at u n|-;refine GX (b:=zCm) n λJ b6 G=>?_;have T:M0 o J:=(C.trans u).on G λy g=>.inr (by have:=C.size;omega);refine vQ λw7 U=>?_;have q:=T.trans U;obtain⟨w8,X,b8,O⟩:=pl (r:=failR 160) (sT:=dv) (sG:=dv) (sA:=dv) (q.hpk L id) rfl ⟨gJ,gJ,gJ⟩;apply ir X;apply qSv0 (.bool false);rw[gP];exact⟨(j.trans q).on O λy g=>gz,b8⟩
 rintro _ W ⟨M,b⟩;unfold J15_0;intro _;apply cI (lB b);refine GS (e:=160) (by decide) λf w9 E N Q=>?_;obtain⟨a,c,rfl⟩:=E.rd.isSl;apply qSv0 (.slice a (pP 160).length c);apply qSv0 (gI 0);exact P _ w9 E (M.trans N) λy g=>by have:=Q y g;have:=M.size;omega
def kf(p:∀c,M0 w c->K (.bool true) c):Ca pQ 13 #[] w K:=by
 refine NM λv F B o b g j=>?_;refine Mh o b λm k z l x=>?_
 have C:∀y,m y->w.heap.size<=y:=λy a=>by
  rcases x y a with h|h
  ·exact j y h
  ·have:=g.size;omega
 have t:M0 w k:=g.on l λy a=>.inr (j y a);apply dw (λW=>LM 160 W);show rx pQ (jQ tBs 1 [(0,gB (((99:UInt8).toNat:Nat):Int))]) k _;refine Qm [99] Gr (eO UF) rfl rfl qZ λs G r d H=>?_;refine TR (z.md0 d) r.rd λD A i u I=>?_;apply xV Gr Y3 Me i.rd;refine GE (e:=160) (by decide) λJ q n f E=>?_;refine⟨AM Gr Y3 Me (i.mod f eQ).rd,?_⟩;apply xV Gr Y3 Me n.rd;apply dw (λW=>YQ _ _ W);rw[db rfl];exact p q (((t.trans d).trans u).trans f)
section
variable{w:Wt_}{b lo:Nat}{d nx fu:Int}{ss:Nat->Value}{A:List Ac}{C:List Ct}{P:List Po}{O B:List (Int×Od)}
end
def lenV{T e:TypeId}(f:Tryz.prog.underlying T=some (.slice e))(a:Option Addr)(n:Nat)(c:Nat)(W:Wt_):(builtin .len #[T] 3 #[false] #[.slice a n c]).run pQ W=.ok (.value (gI (n:Int))) W:=by simp[go_sem,f]
def ltV(a b:Nat)(W:Wt_):(qE .lss 3 false (gI (a:Int)) (gI (b:Int))).run pQ W=.ok (.bool (decide (a<b))) W:=by simp[go_sem]
def addV{i:Nat}(h:i<1000000)(W:Wt_):(qE .add 3 true (gI (i:Int)) (gI 1)).run pQ W=.ok (gI ((i+1:Nat):Int)) W:=by
 simp[go_sem];rw[wI_]
end Go.Proofs
namespace Go.Proofs.YtnfloameajanhaaGreat
open Go Go.Vc Go.Proofs Go.ChangeShapes Go.WideShapes Go.ChangeAt Go.RowKit
variable {n:Int}{c:List Value}
def own:ownKnob Tryz.prog.godebug=none:=cU
def laidOut:laidOutB Tryz.prog=true:=cU
def list_choose{α β:Type}{f:β->α}{Q:β->Prop}:∀{L:List α},(∀c∈L,∃o,c=f o/\Q o)->∃l:List β,L=l.map f/\∀o∈l,Q o
 | [],_=>⟨[],rfl,by simp⟩
 |c::L,h=>by
  obtain⟨o,rfl,b⟩:=h c List.mem_cons_self;obtain⟨l,rfl,d⟩:=list_choose λc a=>h c (List.mem_cons_of_mem _ a);exact⟨o::l,rfl,λx e=>by grind⟩
def wfR(h:(Lit.int .i64 n).wf=true):jl n:=by
 simp[Lit.wf,IntKind.min,IntKind.max,IntKind.signed,IntKind.bits]at h;exact⟨qZ,qZ⟩
def wfU(h:(Lit.int .u32 n).wf=true):pL n:=by
 simp[Lit.wf,IntKind.min,IntKind.max,IntKind.signed,IntKind.bits]at h;exact⟨qZ,qZ⟩
def wfQ(h:(Lit.int .u64 n).wf=true):P6 n:=by
 simp[Lit.wf,IntKind.min,IntKind.max,IntKind.signed,IntKind.bits]at h;exact⟨qZ,qZ⟩
def wf8(h:(Lit.int .u8 n).wf=true):0<=n/\n<256:=by
 simp[Lit.wf,IntKind.min,IntKind.max,IntKind.signed,IntKind.bits]at h;exact⟨qZ,qZ⟩
section
variable{H:Type}{enc:TypeId×Value->H}{w:World}{c:List Value}{fs:Array Field}
def Flds(enc:TypeId×Value->H)(w:World)(c:List Value)(fs:Array Field):Prop:=
 ∀f∈fs.toList,∃f' y,DataW.trod enc Tryz.prog w 0 (λ_=>true) true f' f.type ((c.drop f.offset).take (Tryz.prog.cellsOf f.type))=some y/\Wt Tryz.prog reachBytes f.type y.1
def Flds.int(h:Flds enc w c fs)(i:Nat){f:Field}(d:fs.toList[i]? =some f){k:IntKind}(g:Tryz.prog.underlying f.type=some (.int k))(j:Tryz.prog.cellsOf f.type=1):∃n,c.drop f.offset=.int k n::c.drop (f.offset+1)/\(Lit.int k n).wf=true:=by
 obtain⟨l,y,a,-⟩:=h f (List.mem_of_getElem? d);rw[j]at a;obtain⟨n,e,-,b⟩:=DataW.trod_int g a;refine⟨n,?_,b⟩;rw[<-List.take_append_drop 1 (c.drop f.offset),e,List.drop_drop];rfl
def Flds.bool(h:Flds enc w c fs)(i:Nat){f:Field}(b:fs.toList[i]? =some f)(d:Tryz.prog.underlying f.type=some .bool)(g:Tryz.prog.cellsOf f.type=1):∃n,c.drop f.offset=.bool n::c.drop (f.offset+1):=by
 obtain⟨j,y,a,-⟩:=h f (List.mem_of_getElem? b);rw[g]at a;obtain⟨n,e,-⟩:=DataW.trod_bool d a;refine⟨n,?_⟩;rw[<-List.take_append_drop 1 (c.drop f.offset),e,List.drop_drop];rfl
end
def drop_at{o n:Nat}{x:List Value}(h:(c.drop o).take n=x):c.drop o=x++c.drop (o+n):=by
 rw[<-h,<-List.drop_drop,List.take_append_drop]
def open_sp{H:Type}{enc:TypeId×Value->H}{w:World}{f:Nat}{y:DataW H×List MemPlace}(hl:c.length=25)(h:DataW.trod enc Tryz.prog w 0 (λ_=>true) true f 27 c=some y)(hB:Wt Tryz.prog reachBytes 27 y.1):
  ∃o,c=jA o/\o.Fit:=by
 have a:Flds enc w c _:=ET Tryz.underlying27 h hB;obtain⟨X,v,w0⟩:=a.int 0 rfl (k:=.u32) cU cU;obtain⟨n1,F,K⟩:=a.int 1 rfl (k:=.u8) cU cU;obtain⟨n2,D,w2⟩:=a.int 2 rfl (k:=.i64) cU cU;obtain⟨P,G,O⟩:=a.int 3 rfl (k:=.i64) cU cU;obtain⟨S,I,J⟩:=a.int 4 rfl (k:=.i64) cU cU;obtain⟨N,z,V⟩:=a.int 5 rfl (k:=.i64) cU cU;obtain⟨f6,y6,t,-⟩:=a _ (List.mem_of_getElem? (i:=6) rfl);obtain⟨n7,A,T⟩:=a.int 7 rfl (k:=.i64) cU cU;obtain⟨n8,E,w8⟩:=a.int 8 rfl (k:=.u32) cU cU;obtain⟨W,B,w9⟩:=a.int 9 rfl (k:=.i64) cU cU;simp only at v F D G I z A E B t;have b:Tryz.prog.cellsOf 25=16:=cU;have Z:Tryz.prog.cellsOf 2=1:=cU;rw[b]at t;obtain⟨xs,m,-,-,u,M,g⟩:=DataW.trod_array Tryz.underlying25 t;rw[b]at u;rw[Z]at g
 obtain⟨L,Y,R⟩:=list_choose (L:=(c.drop 6).take 16) (f:=λn:Int=>Value.int .i64 n) (Q:=jl) λx s=>by
  obtain⟨i,r⟩:=List.getElem?_of_mem s;have d:=(List.getElem?_eq_some_iff.1 r).1;have C:=g i qZ;rw[Nat.mul_one,List.getElem?_eq_getElem (l:=xs) qZ]at C;obtain⟨n,e,-,hw⟩:=DataW.trod_int Tryz.underlying2 C;refine⟨n,?_,wfR hw⟩;rw[List.drop_eq_getElem_cons d,List.take_succ_cons,List.take_zero]at e;rw[List.getElem?_eq_getElem d]at r;exact(Option.some.inj r).symm.trans (List.cons.inj e).1
 have j:L.length=16:=by grind
 refine⟨⟨X,n1,n2,P,S,N,⟨L.toArray,by simpa using j⟩,n7,n8,W⟩,?_,wfU w0,wf8 K,wfR w2,wfR O,wfR J,wfR V,λx g=>R x (by simpa using g),wfR T,wfU w8,wfR w9⟩;have U:=drop_at Y;have q:c.drop 25=[]:=List.drop_eq_nil_of_le qZ;have p:c=c.drop 0:=rfl;rw[p,v,F,D,G,I,z,U,A,E,B,q];rfl
def open_cm{H:Type}{enc:TypeId×Value->H}{w:World}{f:Nat}{y:DataW H×List MemPlace}(W:c.length=35)(h:DataW.trod enc Tryz.prog w 0 (λ_=>true) true f 30 c=some y)(S:Wt Tryz.prog reachBytes 30 y.1):
  ∃o,c=cmC o/\o.Fit:=by
 have a:Flds enc w c _:=ET Tryz.underlying30 h S;obtain⟨J,p,M⟩:=a.int 0 rfl (k:=.u8) cU cU;obtain⟨Q,x,C⟩:=a.int 1 rfl (k:=.u32) cU cU;obtain⟨U,u,T⟩:=a.int 2 rfl (k:=.u32) cU cU;obtain⟨F,z,E⟩:=a.int 3 rfl (k:=.u64) cU cU;obtain⟨G,A,B⟩:=a.int 4 rfl (k:=.i64) cU cU;obtain⟨X,V,j,q⟩:=a _ (List.mem_of_getElem? (i:=5) rfl);obtain⟨K,t⟩:=a.bool 6 rfl cU cU;obtain⟨L,r⟩:=a.bool 7 rfl cU cU;obtain⟨O,v,P⟩:=a.int 8 rfl (k:=.u8) cU cU;obtain⟨I,s,R⟩:=a.int 9 rfl (k:=.i64) cU cU;obtain⟨g,b,n⟩:=a.int 10 rfl (k:=.i64) cU cU;simp only at p x u z A t r v s b j q;have m:Tryz.prog.cellsOf 27=25:=cU;rw[m]at j;obtain⟨sp,N,d⟩:=open_sp (by grind) j q;refine⟨⟨J,Q,U,F,G,sp,K,L,O,I,g⟩,?_,wf8 M,wfU C,wfU T,wfQ E,wfR B,d,wf8 P,wfR R,wfR n⟩;have D:=drop_at N;have e:c.drop 35=[]:=List.drop_eq_nil_of_le qZ;have l:c=c.drop 0:=rfl;rw[l,p,x,u,z,A,D,t,r,v,s,b,e];rfl
end Go.Proofs.YtnfloameajanhaaGreat
