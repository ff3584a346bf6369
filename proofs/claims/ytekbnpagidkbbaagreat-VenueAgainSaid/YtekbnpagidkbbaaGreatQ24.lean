/- Part of a proof. -/
import Derived.Test.YtekbnpagidkbbaaGreatQ23
set_option linter.all false
set_option maxRecDepth 100000
set_option maxHeartbeats 1000000
namespace Go.Proofs
open Go Go.Vc
attribute [local congr] aZ
variable {c:Cm}{p:Nat}{W:Wt_}
def Ae:iQ pQ lZ=jO kw:=cy
def TM:mG pQ lZ=true:=cy
def P8(W:Wt_):(iF lZ (bO p 0) 0).run pQ W=.ok (bO p 0) W:=by simp[go_sem]
def SU(W:Wt_):(iF lZ (bO p 0) 5).run pQ W=.ok (bO p 5) W:=by simp[go_sem]
def MA(h:dX W p c):(iL 44 (bO p 0)).run pQ W=.ok (gB c.kind) W:=by simp[go_sem,h,ZR]
def P1(h:dX W p c):At W p 5 (fC c.spec):=by
 have:=(At.all h).sub 5 25 (by rw[fW];omega)
 have e:((jO c).drop 5).take 25=fC c.spec:=by
  show(fC c.spec++_).take 25=_;rw[<-bG c.spec,dG]
 rw[e]at this;exact this
def zh(c:Cm)(i:Nat)(v:Vt_):(jO c).set (30+i) v=[.int .u8 c.kind,gU c.acct,gU c.ct,gQ c.num,gI c.amt]++(fC c.spec++([.bool c.on,.bool c.buy,gB c.ty,gI c.price,gI c.qty]:LV_).set i v):=by
 unfold jO;rw[dO _ _ (by show 5<=30+i;omega),dO _ _ (by rw[bG];show 25<=30+i - 5;omega),bG];have:30+i - [Value.int .u8 c.kind,gU c.acct,gU c.ct,gQ c.num,gI c.amt].length - 25=i:=by show 30+i - 5 - 25=i;omega
 rw[this]
def H6(x:Int)(h:dX W p c):∃a,(iS 45 (bO p 1) (gU x)).run pQ W=.ok () a/\dX a p {c with acct:=x}/\aS (λb=>b=p) W a:=by
 refine⟨W.setCell ⟨p,1,none⟩ (gU x),by simp[go_sem,h,Yy],?_,(aS.refl (λb=>b=p) W).setCell (.inl rfl) _ _⟩;show hp _ p=_;rw[jY,ae rfl,h,eM,bP];congr 3
def Ri(x:Int)(h:dX W p c):∃a,(iS 45 (bO p 2) (gU x)).run pQ W=.ok () a/\dX a p {c with ct:=x}/\aS (λb=>b=p) W a:=by
 refine⟨W.setCell ⟨p,2,none⟩ (gU x),by simp[go_sem,h,Xt],?_,(aS.refl (λb=>b=p) W).setCell (.inl rfl) _ _⟩;show hp _ p=_;rw[jY,ae rfl,h,eM,bP];congr 3
def Wy(x:Int)(h:dX W p c):∃a,(iS 37 (bO p 3) (gQ x)).run pQ W=.ok () a/\dX a p {c with num:=x}/\aS (λb=>b=p) W a:=by
 refine⟨W.setCell ⟨p,3,none⟩ (gQ x),by simp[go_sem,h,YG],?_,(aS.refl (λb=>b=p) W).setCell (.inl rfl) _ _⟩;show hp _ p=_;rw[jY,ae rfl,h,eM,bP];congr 3
def YU(x:Int)(h:dX W p c):∃a,(iS 2 (bO p 4) (gI x)).run pQ W=.ok () a/\dX a p {c with amt:=x}/\aS (λb=>b=p) W a:=by
 refine⟨W.setCell ⟨p,4,none⟩ (gI x),by simp[go_sem,h,YH],?_,(aS.refl (λb=>b=p) W).setCell (.inl rfl) _ _⟩;show hp _ p=_;rw[jY,ae rfl,h,eM,bP];congr 3
def Wj(x:Bool)(h:dX W p c):∃a,(iS 4 (bO p 30) (.bool x)).run pQ W=.ok () a/\dX a p {c with on:=x}/\aS (λb=>b=p) W a:=by
 refine⟨W.setCell ⟨p,30,none⟩ (.bool x),by simp[go_sem,h,Nz],?_,(aS.refl (λb=>b=p) W).setCell (.inl rfl) _ _⟩;show hp _ p=_;rw[jY,ae rfl,h,eM,bP];congr 3;rw[show 30=30+0 from rfl,zh];rfl
def ae5(x:Bool)(h:dX W p c):∃a,(iS 4 (bO p 31) (.bool x)).run pQ W=.ok () a/\dX a p {c with buy:=x}/\aS (λb=>b=p) W a:=by
 refine⟨W.setCell ⟨p,31,none⟩ (.bool x),by simp[go_sem,h,NN],?_,(aS.refl (λb=>b=p) W).setCell (.inl rfl) _ _⟩;show hp _ p=_;rw[jY,ae rfl,h,eM,bP];congr 3;rw[show 31=30+1 from rfl,zh];rfl
def WG(x:Int)(h:dX W p c):∃a,(iS 2 (bO p 33) (gI x)).run pQ W=.ok () a/\dX a p {c with price:=x}/\aS (λb=>b=p) W a:=by
 refine⟨W.setCell ⟨p,33,none⟩ (gI x),by simp[go_sem,h,PJ],?_,(aS.refl (λb=>b=p) W).setCell (.inl rfl) _ _⟩;show hp _ p=_;rw[jY,ae rfl,h,eM,bP];congr 3;rw[show 33=30+3 from rfl,zh];rfl
def Ue(x:Int)(h:dX W p c):∃a,(iS 2 (bO p 34) (gI x)).run pQ W=.ok () a/\dX a p {c with qty:=x}/\aS (λb=>b=p) W a:=by
 refine⟨W.setCell ⟨p,34,none⟩ (gI x),by simp[go_sem,h,Pj],?_,(aS.refl (λb=>b=p) W).setCell (.inl rfl) _ _⟩;show hp _ p=_;rw[jY,ae rfl,h,eM,bP];congr 3;rw[show 34=30+4 from rfl,zh];rfl
def Yg{K:World->Prop}(s:Sp)(h:dX W p c)(g:∀a,dX a p {c with spec:=s}->aS (λb=>b=p) W a->K a):vD pQ (oT 48 (bO p 5) (.agg (fC s).toArray)) W K:=by
 refine qX xG (bG s) h (by rw[cI,fW,bG];omega) (tm s) (g _ ?_ ((aS.refl (λb=>b=p) W).setRow (.inl rfl) _));show hp _ p=_
 have e:iC (jO c).toArray.toList 5 (fC s)=jO {c with spec:=s}:=by
  show iC (jO c) 5 (fC s)=_
  have d:(jO c).drop (5+(fC s).length)=[.bool c.on,.bool c.buy,gB c.ty,gI c.price,gI c.qty]:=by
   rw[bG,<-bG c.spec,<-cB];show(fC c.spec++_).drop _=_;rw[cU]
  unfold iC;rw[d];rfl
 have i:hp (W.setRow p (iC (jO c).toArray.toList 5 (fC s)).toArray) p=some (.cells (iC (jO c).toArray.toList 5 (fC s)).toArray lZ (0,0)):=by
  show(W.setRow p _).heap[p]? =_;have f:W.heap[p]? =some (.cells (jO c).toArray lZ (0,0)):=h;rw[d9,ae rfl,f]
 rw[i,e]
def NX{K:World->Prop}(d:Cm)(h:dX W p c)(f:∀a,dX a p d->aS (λb=>b=p) W a->K a):vD pQ (oT lZ (bO p 0) (vg d)) W K:=by
 refine qX MG (fW d) h (by rw[cI,fW,fW];omega) (Jh d) (f _ ?_ ((aS.refl (λb=>b=p) W).setRow (.inl rfl) _));show hp _ p=_
 have g:hp (W.setRow p (iC (jO c).toArray.toList 0 (jO d)).toArray) p=some (.cells (iC (jO c).toArray.toList 0 (jO d)).toArray lZ (0,0)):=by
  show(W.setRow p _).heap[p]? =_;have e:W.heap[p]? =some (.cells (jO c).toArray lZ (0,0)):=h;rw[d9,ae rfl,e]
 rw[g,lR (by show(jO d).length=(jO c).length;rw[fW,fW])]
def T9{K:aY}(b:∀a,dX a W.heap.size kw->M0 W a->K (bO W.heap.size 0) a):rx pQ (tW lZ) W K:=by
 refine nE TM ?_;rw[Ae];exact b _ (by show hp _ _=_;simp[go_sem]) ((aS.refl _ W).alloc _)
def RX(k:Int):Tryz.prog.built lZ [(0,gB k)]=some (jO {kw with kind:=k}).toArray:=by
 have h1:∀a,Tryz.prog.built lZ a=Instr.fill (λi=>#[(0,1),(1,1),(2,1),(3,1),(4,1),(5,25),(30,1),(31,1),(32,1),(33,1),(34,1)][i]?) (iQ pQ lZ).toArray a:=λa=>by kernel_rfl
 rw[h1,Ae];rw[qS (off:=0) (size:=1) rfl rfl (by rw[fW];omega),A4];rfl
def Q1:Tryz.prog.built 48 []=some (fC BI).toArray:=cy
def Tp{x:Cm}{w:Wt_}{K:aY}(hK:∀w',M0 w w' ->K (vg x.bare) w'):Ca pQ 130 #[vg x] w K:=by
 refine cN Tryz.func130 ?_;obtain⟨w1,e1,b1,m1⟩:=Ur x w;refine bh e1 ?_;obtain⟨p,hp0⟩:=df w.heap.size;rw[<-hp0]at b1|-;refine T9 λw2 b2 m2=>?_;obtain⟨z,hz0⟩:=df w1.heap.size;rw[<-hz0]at b2|-;have c2:dX w2 p x:=m2.hpk b1 id;refine bh (P8 _) (bh (MA c2) ?_);refine lS (RX x.kind) ?_;refine T9 λw3 b3 m3=>?_;obtain⟨q,hq0⟩:=df w2.heap.size;rw[<-hq0]at b3|-;have hpz:p<z:=by have:=ay b1;omega
 have hzq:z<q:=by have:=ay b2;omega
 refine NX {kw with kind:=x.kind} b3 λc N m4=>?_;have J:dX c p x:=m4.hpk (m3.hpk c2 id) qZ;have H:dX c z kw:=m4.hpk (m3.hpk b2 id) qZ;have M4:aS (λy=>y=z\/y=q) w c:=(((m1.trans m2).trans m3).to).trans (m4.mono λy _ g=>.inr g);clear b1 b2 b3 c2 e1 m1 m2 m3 m4;refine bh (P8 _) (bh (MA J) ?_)
 have fin:∀(b:Cm) (W:Wt_),x.bare=b->dX W q b->dX W z kw->aS (λy=>y=z\/y=q) c W->rx pQ (qm lZ (bO q 0)) W λv32 w33=>vD pQ (oT lZ (bO z 0) v32) w33 λw34=>BL pQ (qm lZ (bO z 0)) w34 λv35=>K v35 w34:=by
  intro b W hb h1 h2 hm;refine jP (HX h1) ?_;refine NX b h2 λW2 a2 n2=>?_;refine nt (HX a2) ?_;rw[<-hb];exact hK W2 ((aS.refl (λ_=>False) w).on ((M4.trans hm).trans (n2.mono λy _ g=>.inl g)) λy g=>.inr (by rcases g with g|g<;>omega))
 have e:z≠q:=qZ;have f:p≠q:=qZ;refine cG.at (λst W=>st=(.bool (decide (x.kind=1\/x.kind=2)),())/\c=W) ?_ ?_
 ·by_cases h1:x.kind=1
  ·refine dE h1 ?_;rw[jV];exact⟨by simp[h1],rfl⟩
  ·refine tX (.bool false) h1 ?_;rw[ij];refine ax (.bool (decide (x.kind=2))) c (by simp[go_sem];rfl) ?_;exact⟨by simp[h1],rfl⟩
 rintro _ _ ⟨rfl,rfl⟩;refine jG ?_;intro _;by_cases m:x.kind=1\/x.kind=2
 ·rw[mP m];have a:x.bare={kw with kind:=x.kind,acct:=x.acct,amt:=x.amt}:=by unfold Cm.bare;simp only;rw[ae m]
  have d:M0 c c.drew:=(aS.refl _ c).drew;have h:dX c.drew p x:=d.hpk J id;have o:dX c.drew q {kw with kind:=x.kind}:=d.hpk N id;have r:dX c.drew z kw:=d.hpk H id;have t:aS (λy=>y=z\/y=q) c c.drew:=d.to
  try dsimp only
  generalize c.drew=w5 at d h o r t|-;refine bQ vl (cK (FD h) ?_);refine bQ VY (cK (Za h) ?_);refine bQ vl ?_;obtain⟨j,u,s,i⟩:=H6 x.acct o;have n:dX j p x:=i.hpk h f;have F:dX j z kw:=i.hpk r e;have C:aS (λy=>y=z\/y=q) c j:=t.trans (i.mono λy _ g=>.inr g);refine gg u ⟨Za n,?_⟩;refine bQ VY ?_;obtain⟨k,A,v,l⟩:=YU x.amt s;have L:dX k p x:=l.hpk n f;have D:dX k z kw:=l.hpk F e;have B:aS (λy=>y=z\/y=q) c k:=C.trans (l.mono λy _ g=>.inr g);refine gg A ?_;exact fin _ k a v D B
 rw[Hm m];by_cases G:x.kind=3
 ·refine dB G ?_;have a:x.bare={kw with kind:=x.kind,spec:=x.spec}:=by unfold Cm.bare;simp only;rw[aa m,ae G]
  refine bh (SU _) ?_;refine fX (fC x.spec) 24 zF xG (bG _) (P1 J) ?_;refine bh (SU _) ?_;refine Yg x.spec N λj s i=>?_;exact fin _ j a s (i.hpk H e) (i.mono λy _ g=>.inr g)
 refine ey G ?_;by_cases I:x.kind=4
 ·refine dB I ?_;have a:x.bare={kw with kind:=x.kind,ct:=x.ct,on:=x.on}:=by unfold Cm.bare;simp only;rw[aa m,aa G,ae I]
  have d:M0 c c.drew:=(aS.refl _ c).drew;have h:dX c.drew p x:=d.hpk J id;have o:dX c.drew q {kw with kind:=x.kind}:=d.hpk N id;have r:dX c.drew z kw:=d.hpk H id;have t:aS (λy=>y=z\/y=q) c c.drew:=d.to
  try dsimp only
  generalize c.drew=w5 at d h o r t|-;refine bQ BQ (cK (Ho h) ?_);refine bQ P6 (cK (R8 h) ?_);refine bQ BQ ?_;obtain⟨j,u,s,i⟩:=Ri x.ct o;have n:dX j p x:=i.hpk h f;have F:dX j z kw:=i.hpk r e;have C:aS (λy=>y=z\/y=q) c j:=t.trans (i.mono λy _ g=>.inr g);refine gg u ⟨R8 n,?_⟩;refine bQ P6 ?_;obtain⟨k,A,v,l⟩:=Wj x.on s;have L:dX k p x:=l.hpk n f;have D:dX k z kw:=l.hpk F e;have B:aS (λy=>y=z\/y=q) c k:=C.trans (l.mono λy _ g=>.inr g);refine gg A ?_;exact fin _ k a v D B
 refine ey I ?_;by_cases O:x.kind=5
 ·refine dB O ?_;have a:x.bare={x with num:=0,amt:=0,spec:=BI,on:=false}:=by unfold Cm.bare;simp only;rw[aa m,aa G,aa I,ae O]
  refine jP (HX J) ?_;refine NX x N λw5 o m5=>?_;refine lS Q1 ?_;refine bh (Nj _) ?_;obtain⟨j,u,s,i⟩:=Wy 0 o;refine gg u (bh (VY _) ?_);obtain⟨k,A,v,l⟩:=YU 0 s;refine gg A (bh (SU _) ?_);refine Yg BI v λY q8 X=>?_;refine bh (P6 _) ?_;obtain⟨Q,e9,q9,V⟩:=Wj false q8;refine gg e9 ?_;have M9:aS (λy=>y=q) c Q:=(((m5.trans i).trans l).trans X).trans V;exact fin _ Q a q9 (M9.hpk H e) (M9.mono λy _ g=>.inr g)
 refine ey O ?_;by_cases R:x.kind=6
 ·refine dB R ?_;have a:x.bare={kw with kind:=x.kind,acct:=x.acct,num:=x.num}:=by unfold Cm.bare;simp only;rw[aa m,aa G,aa I,aa O,ae R]
  have d:M0 c c.drew:=(aS.refl _ c).drew;have h:dX c.drew p x:=d.hpk J id;have o:dX c.drew q {kw with kind:=x.kind}:=d.hpk N id;have r:dX c.drew z kw:=d.hpk H id;have t:aS (λy=>y=z\/y=q) c c.drew:=d.to
  try dsimp only
  generalize c.drew=w5 at d h o r t|-;refine bQ vl (cK (FD h) ?_);refine bQ Nj (cK (PU h) ?_);refine bQ vl ?_;obtain⟨j,u,s,i⟩:=H6 x.acct o;have n:dX j p x:=i.hpk h f;have F:dX j z kw:=i.hpk r e;have C:aS (λy=>y=z\/y=q) c j:=t.trans (i.mono λy _ g=>.inr g);refine gg u ⟨PU n,?_⟩;refine bQ Nj ?_;obtain⟨k,A,v,l⟩:=Wy x.num s;have L:dX k p x:=l.hpk n f;have D:dX k z kw:=l.hpk F e;have B:aS (λy=>y=z\/y=q) c k:=C.trans (l.mono λy _ g=>.inr g);refine gg A ?_;exact fin _ k a v D B
 refine ey R ?_;by_cases S:x.kind=7
 ·refine dB S ?_;have a:x.bare={kw with kind:=x.kind,acct:=x.acct,num:=x.num,price:=x.price,qty:=x.qty}:=by unfold Cm.bare;simp only;rw[aa m,aa G,aa I,aa O,aa R,ae S]
  have d:M0 c c.drew:=(aS.refl _ c).drew;have h:dX c.drew p x:=d.hpk J id;have o:dX c.drew q {kw with kind:=x.kind}:=d.hpk N id;have r:dX c.drew z kw:=d.hpk H id;have t:aS (λy=>y=z\/y=q) c c.drew:=d.to
  try dsimp only
  generalize c.drew=w5 at d h o r t|-;refine bQ vl (cK (FD h) ?_);refine bQ Nj (cK (PU h) ?_);refine bQ Ni (cK (DG h) ?_);refine bQ KC (cK (wD h) ?_);refine bQ vl ?_;obtain⟨j,u,s,i⟩:=H6 x.acct o;have n:dX j p x:=i.hpk h f;have F:dX j z kw:=i.hpk r e;have C:aS (λy=>y=z\/y=q) c j:=t.trans (i.mono λy _ g=>.inr g);refine gg u ⟨wD n,DG n,PU n,?_⟩;refine bQ Nj ?_;obtain⟨k,A,v,l⟩:=Wy x.num s;have L:dX k p x:=l.hpk n f;have D:dX k z kw:=l.hpk F e;have B:aS (λy=>y=z\/y=q) c k:=C.trans (l.mono λy _ g=>.inr g);refine gg A ⟨wD L,DG L,?_⟩;refine bQ Ni ?_;obtain⟨Y,e8,q8,X⟩:=WG x.price v;have c8:dX Y p x:=X.hpk L f;have z8:dX Y z kw:=X.hpk D e;have M8:aS (λy=>y=z\/y=q) c Y:=B.trans (X.mono λy _ g=>.inr g);refine gg e8 ⟨wD c8,?_⟩;refine bQ KC ?_;obtain⟨Q,e9,q9,V⟩:=Ue x.qty q8;have c9:dX Q p x:=V.hpk c8 f;have z9:dX Q z kw:=V.hpk z8 e;have M9:aS (λy=>y=z\/y=q) c Q:=M8.trans (V.mono λy _ g=>.inr g);refine gg e9 ?_;exact fin _ Q a q9 z9 M9
 refine ey S ?_;by_cases U:x.kind=8
 ·refine dB U ?_;have a:x.bare={kw with kind:=x.kind,acct:=x.acct,ct:=x.ct}:=by unfold Cm.bare;simp only;rw[aa m,aa G,aa I,aa O,aa R,aa S,ae U]
  have d:M0 c c.drew:=(aS.refl _ c).drew;have h:dX c.drew p x:=d.hpk J id;have o:dX c.drew q {kw with kind:=x.kind}:=d.hpk N id;have r:dX c.drew z kw:=d.hpk H id;have t:aS (λy=>y=z\/y=q) c c.drew:=d.to
  try dsimp only
  generalize c.drew=w5 at d h o r t|-;refine bQ vl (cK (FD h) ?_);refine bQ BQ (cK (Ho h) ?_);refine bQ vl ?_;obtain⟨j,u,s,i⟩:=H6 x.acct o;have n:dX j p x:=i.hpk h f;have F:dX j z kw:=i.hpk r e;have C:aS (λy=>y=z\/y=q) c j:=t.trans (i.mono λy _ g=>.inr g);refine gg u ⟨Ho n,?_⟩;refine bQ BQ ?_;obtain⟨k,A,v,l⟩:=Ri x.ct s;have L:dX k p x:=l.hpk n f;have D:dX k z kw:=l.hpk F e;have B:aS (λy=>y=z\/y=q) c k:=C.trans (l.mono λy _ g=>.inr g);refine gg A ?_;exact fin _ k a v D B
 refine ey U ?_;by_cases Z:x.kind=9
 ·refine dB Z ?_;have a:x.bare={kw with kind:=x.kind,acct:=x.acct,ct:=x.ct,buy:=x.buy,price:=x.price,qty:=x.qty}:=by unfold Cm.bare;simp only;rw[aa m,aa G,aa I,aa O,aa R,aa S,aa U,ae Z]
  have d:M0 c c.drew:=(aS.refl _ c).drew;have h:dX c.drew p x:=d.hpk J id;have o:dX c.drew q {kw with kind:=x.kind}:=d.hpk N id;have r:dX c.drew z kw:=d.hpk H id;have t:aS (λy=>y=z\/y=q) c c.drew:=d.to
  try dsimp only
  generalize c.drew=w5 at d h o r t|-;refine bQ vl (cK (FD h) ?_);refine bQ BQ (cK (Ho h) ?_);refine bQ Yi (cK (VJ h) ?_);refine bQ Ni (cK (DG h) ?_);refine bQ KC (cK (wD h) ?_);refine bQ vl ?_;obtain⟨j,u,s,i⟩:=H6 x.acct o;have n:dX j p x:=i.hpk h f;have F:dX j z kw:=i.hpk r e;have C:aS (λy=>y=z\/y=q) c j:=t.trans (i.mono λy _ g=>.inr g);refine gg u ⟨wD n,DG n,VJ n,Ho n,?_⟩;refine bQ BQ ?_;obtain⟨k,A,v,l⟩:=Ri x.ct s;have L:dX k p x:=l.hpk n f;have D:dX k z kw:=l.hpk F e;have B:aS (λy=>y=z\/y=q) c k:=C.trans (l.mono λy _ g=>.inr g);refine gg A ⟨wD L,DG L,VJ L,?_⟩;refine bQ Yi ?_;obtain⟨Y,e8,q8,X⟩:=ae5 x.buy v;have c8:dX Y p x:=X.hpk L f;have z8:dX Y z kw:=X.hpk D e;have M8:aS (λy=>y=z\/y=q) c Y:=B.trans (X.mono λy _ g=>.inr g);refine gg e8 ⟨wD c8,DG c8,?_⟩;refine bQ Ni ?_;obtain⟨Q,e9,q9,V⟩:=WG x.price q8;have c9:dX Q p x:=V.hpk c8 f;have z9:dX Q z kw:=V.hpk z8 e;have M9:aS (λy=>y=z\/y=q) c Q:=M8.trans (V.mono λy _ g=>.inr g);refine gg e9 ⟨wD c9,?_⟩;refine bQ KC ?_;obtain⟨w10,e10,q10,m10⟩:=Ue x.qty q9;have z10:dX w10 z kw:=m10.hpk z9 e;have M10:aS (λy=>y=z\/y=q) c w10:=M9.trans (m10.mono λy _ g=>.inr g);refine gg e10 ?_;exact fin _ w10 a q10 z10 M10
 refine ey Z ?_;by_cases E:x.kind=10
 ·refine dB E ?_;have a:x.bare={kw with kind:=x.kind,acct:=x.acct,on:=x.on}:=by unfold Cm.bare;simp only;rw[aa m,aa G,aa I,aa O,aa R,aa S,aa U,aa Z,ae E]
  have d:M0 c c.drew:=(aS.refl _ c).drew;have h:dX c.drew p x:=d.hpk J id;have o:dX c.drew q {kw with kind:=x.kind}:=d.hpk N id;have r:dX c.drew z kw:=d.hpk H id;have t:aS (λy=>y=z\/y=q) c c.drew:=d.to
  try dsimp only
  generalize c.drew=w5 at d h o r t|-;refine bQ vl (cK (FD h) ?_);refine bQ P6 (cK (R8 h) ?_);refine bQ vl ?_;obtain⟨j,u,s,i⟩:=H6 x.acct o;have n:dX j p x:=i.hpk h f;have F:dX j z kw:=i.hpk r e;have C:aS (λy=>y=z\/y=q) c j:=t.trans (i.mono λy _ g=>.inr g);refine gg u ⟨R8 n,?_⟩;refine bQ P6 ?_;obtain⟨k,A,v,l⟩:=Wj x.on s;have L:dX k p x:=l.hpk n f;have D:dX k z kw:=l.hpk F e;have B:aS (λy=>y=z\/y=q) c k:=C.trans (l.mono λy _ g=>.inr g);refine gg A ?_;exact fin _ k a v D B
 refine ey E ?_;by_cases M:x.kind=11
 ·refine dB M ?_;have a:x.bare={kw with kind:=x.kind,ct:=x.ct,price:=x.price}:=by unfold Cm.bare;simp only;rw[aa m,aa G,aa I,aa O,aa R,aa S,aa U,aa Z,aa E,ae M]
  have d:M0 c c.drew:=(aS.refl _ c).drew;have h:dX c.drew p x:=d.hpk J id;have o:dX c.drew q {kw with kind:=x.kind}:=d.hpk N id;have r:dX c.drew z kw:=d.hpk H id;have t:aS (λy=>y=z\/y=q) c c.drew:=d.to
  try dsimp only
  generalize c.drew=w5 at d h o r t|-;refine bQ BQ (cK (Ho h) ?_);refine bQ Ni (cK (DG h) ?_);refine bQ BQ ?_;obtain⟨j,u,s,i⟩:=Ri x.ct o;have n:dX j p x:=i.hpk h f;have F:dX j z kw:=i.hpk r e;have C:aS (λy=>y=z\/y=q) c j:=t.trans (i.mono λy _ g=>.inr g);refine gg u ⟨DG n,?_⟩;refine bQ Ni ?_;obtain⟨k,A,v,l⟩:=WG x.price s;have D:dX k z kw:=l.hpk F e;have B:aS (λy=>y=z\/y=q) c k:=C.trans (l.mono λy _ g=>.inr g);refine gg A ?_;exact fin _ k a v D B
 refine ey M ?_;by_cases P:x.kind=13
 ·refine dB P ?_;have a:x.bare={kw with kind:=x.kind,acct:=x.acct}:=by unfold Cm.bare;simp only;rw[aa m,aa G,aa I,aa O,aa R,aa S,aa U,aa Z,aa E,aa M,ae P]
  refine bh (vl _) (bh (FD J) (bh (vl _) ?_));obtain⟨j,u,s,i⟩:=H6 x.acct N;refine gg u ?_;exact fin _ j a s (i.hpk H e) (i.mono λy _ g=>.inr g)
 refine ey P ?_;by_cases T:x.kind=14
 ·refine dB T ?_;have a:x.bare={kw with kind:=x.kind,ct:=x.ct}:=by unfold Cm.bare;simp only;rw[aa m,aa G,aa I,aa O,aa R,aa S,aa U,aa Z,aa E,aa M,aa P,ae T]
  refine bh (BQ _) (bh (Ho J) (bh (BQ _) ?_));obtain⟨j,u,s,i⟩:=Ri x.ct N;refine gg u ?_;exact fin _ j a s (i.hpk H e) (i.mono λy _ g=>.inr g)
 refine ey T ?_;have a:x.bare={kw with kind:=x.kind}:=by unfold Cm.bare;simp only;rw[aa m,aa G,aa I,aa O,aa R,aa S,aa U,aa Z,aa E,aa M,aa P,aa T]
 exact fin _ c a N H (aS.refl _ _)
end Go.Proofs
set_option maxRecDepth 100000
set_option maxHeartbeats 1000000
namespace Go.Proofs
open Go Go.Vc
attribute [local congr] aZ
variable {P:Program}{w:Wt_}
def yF{P:Program}{w:Wt_}{e:TypeId}(g:P.underlying e=some (.int .i64))(d:Nat)(x y:List Int)(o:x.length=y.length):∀(k i:Nat),i+k=x.length->
  (Op.eqItems (d+1) e 1 (x.map λn=>Value.int .i64 n).toArray (y.map λn=>Value.int .i64 n).toArray (List.range' i k)).run P w=.ok (decide (x.drop i=y.drop i)) w
 |0,i,h=>by
  have h1:x.drop i=[]:=ck qZ;have c:y.drop i=[]:=ck qZ;simp[Op.eqItems,h1,c]
 |k+1,i,h=>by
  have m:i<x.length:=qZ;have l:i<y.length:=qZ
  have a:∀(z:List Int) (j:i<z.length),(part e (z.map λn=>Value.int .i64 n).toArray (i*1)).run P w=.ok (gI z[i]) w:=by
   intro z j
   have h1:(z.map λn=>Value.int .i64 n).toArray[i]? =some (gI z[i]):=by
    rw[cQ,cz,aq j];rfl
   have c:(isAgg e).run P w=.ok false w:=by
    unfold isAgg;simp[aO g,Result.andThen]
   simp[part,c,Result.andThen,h1]
  rw[List.range'_succ];unfold Op.eqItems;simp only[dh,a x m,a y l,Result.andThen];rw[run_equalIn_int w d e .i64 .i64 _ _ g];rw[dA m,dA l];by_cases b:x[i]=y[i]
  ·have f:(x[i]==y[i])=true:=by simp[b]
   simp only[f,b,jr,true_and];have:=yF (w:=w) g d x y o k (i+1) qZ;simpa using this
  ·have f:(x[i]==y[i])=false:=by simpa using b
   simp only[f,jr,b,false_and,decide_false];simp
set_option maxRecDepth 10000 in
def X2(x y:Vector Int 16)(d:Nat)(w:Wt_):(Op.equalIn (d+2) 46 (.agg (uy x).toArray) (.agg (uy y).toArray)).run pQ w=.ok (decide (x=y)) w:=by
 obtain⟨g,b,-⟩:=pU (P:=pQ) (t:=2) (n:=0) cy;have c:Tryz.prog.underlying 46=some (.array 16 2):=cy;have f:Tryz.prog.cellsOf 2=1:=cy;rw[run_equalIn_array w (d+1) _ _ c b,f];have:=yF (P:=pQ) (w:=w) (e:=2) cy d x.toList y.toList (by simp) 16 0 (by simp);rw[List.range_eq_range'];show(Op.eqItems (d+1) _ 1 (x.toList.map λn=>Value.int .i64 n).toArray (y.toList.map λn=>Value.int .i64 n).toArray (List.range' 0 16)).run pQ w=_;rw[this];congr 1
 have a:(x.toList=y.toList)↔x=y:=by
  constructor
  ·intro h;exact Vector.toList_inj.1 h
  ·rintro rfl;rfl
 simp only[eT];exact kA.2 a
def lU{d:Nat}{xs c:Array Value}{f:Field}{e:List Field}{a b:Vt_}{r r' :Bool}(i:f.name≠ "_")(h1:(part f.type xs f.offset).run P w=.ok a w)(g:(part f.type c f.offset).run P w=.ok b w)
  (j:(Op.equalIn d f.type a b).run P w=.ok r w)(h:(Op.eqFields d xs c e).run P w=.ok r' w):(Op.eqFields d xs c (f::e)).run P w=.ok (r&& r') w:=by
 simp only[Op.eqFields,i,ne_eq,not_false_eq_true,cZ,dh,h1,g,j,Result.andThen_ok];cases r
 ·simp
 ·simpa using h
def Ov{b:Nat}{xs a:Array Value}:(Op.eqFields b xs a []).run P w=.ok true w:=by simp[Op.eqFields]
def gC{e:TypeId}{l:LV_}{off:Nat}{v:Vt_}(a:P.plainKey e=true)(h:l[off]? =some v):(part e l.toArray off).run P w=.ok v w:=run_part_plain w a (by simpa using h)
def CS{e:TypeId}{l m:LV_}{off n:Nat}(a:lI P e=true)(b:P.cellsOf e=n+1)(h:(l.drop off).take (n+1)=m):(part e l.toArray off).run P w=.ok (.agg m.toArray) w:=by
 have c:l.toArray.extract off (off+(n+1))=m.toArray:=by
  apply kg;rw[Array.toList_extract];simp[List.extract,h]
 simp[part,xT a,Go.Vc.kZ b,Result.andThen,h]
def eqB(x y:Bool)(d:Nat)(w:Wt_):(Op.equalIn (d+1) 4 (.bool x) (.bool y)).run pQ w=.ok (x==y) w:=by
 have a:Tryz.prog.underlying 4=some .bool:=cy;simp[Op.equalIn,aO a,Result.andThen]
set_option maxRecDepth 10000 in
def UU(a b:Sp)(d:Nat)(w:Wt_):(Op.equalIn (d+3) 48 (.agg (fC a).toArray) (.agg (fC b).toArray)).run pQ w=.ok (decide (a=b)) w:=by
 have u:Tryz.prog.underlying 48=some (.struct (Tryz.prog.fieldsOf 48)):=cy;have h:Tryz.prog.stoodInHeld 48=false:=cy;rw[run_equalIn_struct w (d+2) 48 _ _ u h];unfold Program.fieldsOf;rw[Tryz.underlying48];have g:∀s:Sp,((fC s).drop 6).take 16=uy s.shifts:=uG
 have c:∀s:Sp,(fC s)[22]? =some (gI s.credit)/\(fC s)[23]? =some (gU s.last)/\(fC s)[24]? =some (gI s.first):=λs=>by
  have key:∀i,(fC s)[22+i]? =([.int .i64 s.credit,gU s.last,gI s.first]:LV_)[i]? :=λi=>by
   unfold fC;rw[bH (by show 6<=22+i;omega),bH (by grind),nG];congr 1;show 22+i - 6 - 16=i;omega
  exact⟨key 0,key 1,key 2⟩
 have e:∀(t:TypeId) (q:IntKind) (x y:Int),Tryz.prog.underlying t=some (.int q)->(Op.equalIn (d+2) t (.int q x) (.int q y)).run pQ w=.ok (x==y) w:=λt q x y l=>run_equalIn_int w (d+1) t q q x y l
 have f:decide (a=b)=((a.num==b.num)&& ((a.route==b.route)&& ((a.tick==b.tick)&& ((a.lot==b.lot)&& ((a.band==b.band)&& ((a.limit==b.limit)&& (decide (a.shifts=b.shifts)&& ((a.credit==b.credit)&& ((a.last==b.last)&& ((a.first==b.first)&& true)))))))))):=by
  obtain⟨J,K,A,D,B,I,r,m,F,k⟩:=a;obtain⟨o,G,z,H,p,v,E,L,C,j⟩:=b;rw[dr];simp[Sp.mk.injEq]
 rw[f];apply lU (by decide) (gC cy rfl) (gC cy rfl) (e _ _ _ _ cy);apply lU (by decide) (gC cy rfl) (gC cy rfl) (e _ _ _ _ cy);apply lU (by decide) (gC cy rfl) (gC cy rfl) (e _ _ _ _ cy);apply lU (by decide) (gC cy rfl) (gC cy rfl) (e _ _ _ _ cy);apply lU (by decide) (gC cy rfl) (gC cy rfl) (e _ _ _ _ cy);apply lU (by decide) (gC cy rfl) (gC cy rfl) (e _ _ _ _ cy);apply lU (by decide) (CS (n:=15) cy cy (g a)) (CS (n:=15) cy cy (g b)) (X2 a.shifts b.shifts d w);apply lU (by decide) (gC cy (c a).1) (gC cy (c b).1) (e _ _ _ _ cy);apply lU (by decide) (gC cy (c a).2.1) (gC cy (c b).2.1) (e _ _ _ _ cy);apply lU (by decide) (gC cy (c a).2.2) (gC cy (c b).2.2) (e _ _ _ _ cy);exact Ov
def XM(c:Cm):((jO c).drop 5).take 25=fC c.spec:=by
 show(fC c.spec++_).take 25=_;rw[<-bG c.spec,dG]
def Yp(a b:Cm)(w:Wt_):(Op.equalIn 10000 lZ (vg a) (vg b)).run pQ w=.ok (decide (a=b)) w:=by
 have u:Tryz.prog.underlying lZ=some (.struct (Tryz.prog.fieldsOf lZ)):=cy;have h:Tryz.prog.stoodInHeld lZ=false:=cy;unfold vg;rw[run_equalIn_struct w 9999 lZ _ _ u h];unfold Program.fieldsOf;rw[Tryz.underlying51];have c:∀(t:TypeId) (q:IntKind) (x y:Int),Tryz.prog.underlying t=some (.int q)->(Op.equalIn 9999 t (.int q x) (.int q y)).run pQ w=.ok (x==y) w:=λt q x y j=>run_equalIn_int w 9998 t q q x y j
 have d:decide (a=b)=((a.kind==b.kind)&& ((a.acct==b.acct)&& ((a.ct==b.ct)&& ((a.num==b.num)&& ((a.amt==b.amt)&& (decide (a.spec=b.spec)&& ((a.on==b.on)&& ((a.buy==b.buy)&& ((a.ty==b.ty)&& ((a.price==b.price)&& ((a.qty==b.qty)&& true))))))))))):=by
  obtain⟨G,H,s,A,v,F,o,k,C,g,i⟩:=a;obtain⟨l,D,r,E,m,p,B,I,z,f,e⟩:=b;rw[dr];simp[Cm.mk.injEq]
 rw[d];apply lU (by decide) (gC cy (ZR a)) (gC cy (ZR b)) (c _ _ _ _ cy);apply lU (by decide) (gC cy (Yy a)) (gC cy (Yy b)) (c _ _ _ _ cy);apply lU (by decide) (gC cy (Xt a)) (gC cy (Xt b)) (c _ _ _ _ cy);apply lU (by decide) (gC cy (YG a)) (gC cy (YG b)) (c _ _ _ _ cy);apply lU (by decide) (gC cy (YH a)) (gC cy (YH b)) (c _ _ _ _ cy);refine lU (by decide) (CS (n:=24) cy cy (XM a)) (CS (n:=24) cy cy (XM b)) (UU a.spec b.spec 9996 w) ?_;refine lU (by decide) (gC cy (Nz a)) (gC cy (Nz b)) (eqB _ _ 9998 w) ?_;refine lU (by decide) (gC cy (NN a)) (gC cy (NN b)) (eqB _ _ 9998 w) ?_;apply lU (by decide) (gC cy (WB a)) (gC cy (WB b)) (c _ _ _ _ cy);apply lU (by decide) (gC cy (PJ a)) (gC cy (PJ b)) (c _ _ _ _ cy);apply lU (by decide) (gC cy (Pj a)) (gC cy (Pj b)) (c _ _ _ _ cy);exact Ov
def Vo(a b:Cm)(w:Wt_):(gx .eql lZ false (vg a) (vg b)).run pQ w=.ok (.bool (decide (a=b))) w:=by
 have:=Yp a b w;unfold vg at this|-;generalize(jO a).toArray=A at this;generalize(jO b).toArray=B at this;simp[go_sem,this,Result.andThen]
def S3{x:Cm}{K:aY}(u:x.Fit)(b:∀o,M0 w o->K (.bool x.may) o):Ca pQ 47 #[vg x] w K:=by
 refine cN Tryz.func47 ?_;obtain⟨d,v,n,t⟩:=Ur x w;apply bh v;obtain⟨p,m⟩:=df w.heap.size;rw[<-m]at n|-;have a:M0 d d.drew:=sK;have c:dX d.drew p x:=a.hpk n id;have f:=t.trans a
 try dsimp only
 generalize d.drew=r at a c f|-;unfold Cm.may at b;refine bQ P8 (cK (MA c) ?_);by_cases h1:1<=x.kind
 ·apply cT (.bool true) (λ_=>by simp[go_sem];omega);rw[jV];refine bQ P8 (cK (MA c) ?_);by_cases g:x.kind<=14
  ·apply cT (.bool true) (λ_=>by simp[go_sem];omega);rw[jV];refine nt (HX c) (nt (HX c) ?_);refine Tp λi q=>?_;have l:dX i p x:=q.hpk c id;refine⟨HX l,?_⟩;have j:=f.trans q;apply bQ (Vo x x.bare);by_cases e:x=x.bare
   ·rw[mP e];refine bQ P8 (cK (MA l) ?_);apply cT (.bool (decide (x.kind≠3))) (λ_=>by simp[go_sem];rfl);by_cases k:x.kind≠3
    ·rw[mP k];have:=b i j;rw[aQ ⟨h1,g⟩,aQ e,aQ k]at this;exact this
    ·rw[aw,aa (by grind)];apply bQ SU;apply kI (fC x.spec) 24 zF xG (bG _) (P1 l);refine sg u.2.2.2.2.2.1 λs y=>?_;have:=b s (j.trans y);rw[aQ ⟨h1,g⟩,aQ e,br k]at this;simpa using this
   ·rw[aw,aa (by grind)];have:=b i j;rw[br e,oH,fl]at this;exact this
  ·apply cT (.bool false) (λ_=>by simp[go_sem];omega);rw[ij];have:=b r f;rw[br (λh=>g h.2),fl,fl]at this;exact this
 ·apply cT (.bool false) (λ_=>by simp[go_sem];omega);rw[ij];have:=b r f;rw[br (λh=>h1 h.1),fl,fl]at this;exact this
end Go.Proofs
set_option maxRecDepth 100000
set_option maxHeartbeats 1000000
namespace Go.Proofs
open Go Go.Vc
attribute [local congr] aZ
def K7{C:oe}{s:Sp}(h:(fD C s).1=0):cg C.l s.num=none/\∀m,cg (fD C s).2.l m=if s.num=m then some (mf s)else cg C.l m:=by
 unfold fD at h|-;split at h
 ·cases h
 ·split at h
  ·cases h
  ·split at h
   ·cases h
   ·split at h
    ·cases h
    ·rename_i h1 a d c
     have b:cg C.l s.num=none:=by
      cases e:cg C.l s.num with
      |none=>rfl
      |some k=>rw[e]at a;exact absurd rfl a
     refine⟨b,λm=>?_⟩;rw[aa h1,aa a,aa d,aa c];exact vC (k:=mf s) b _ m
def Ml{C:oe}{s:Sp}(h:(fD C s).1≠0):(fD C s).2=C:=by
 unfold fD at h|-;split
 ·rfl
 ·split
  ·rfl
  ·split
   ·rfl
   ·split
    ·rfl
    ·grind
def Qn(C:oe)(n:Int)(on:Bool)(m:Int):(cg (jy C n on).2.l m).isSome=(cg C.l m).isSome:=by
 unfold jy;split
 ·rfl
 ·rw[pL (f:=λk=>{k with st:=if on then 2 else 1}) λ_ _=>rfl,mj]
def Ft(C:oe)(n p:Int)(m:Int):(cg (fJ C n p).2.l m).isSome=(cg C.l m).isSome:=by
 unfold fJ;split
 ·rfl
 ·split
  ·rfl
  ·split
   ·rfl
   ·rw[pL (f:=λk=>{k with price:=p}) λ_ _=>rfl,mj]
end Go.Proofs
set_option maxRecDepth 100000
set_option maxHeartbeats 1000000
namespace Go.Proofs
open Go Go.Vc
attribute [go_sem] ZR Xt
section
variable{L L0 M:List As}{φ:WP}{K:Value->WP}{k0:WP}{v c l mb md b mw:Nat}{A:List (Int×Nat)}{D:List (Int×Value)}{S:bo}{n a:Int}{X:bE}{bk:Int->Bk}{bd:Int->List Od}{s:Vt_}{os:List Od}{C:oe}{B:Bk}
def OM{s:Sp}(e:s.Fit)(i:Gs (nJ c (fD C s).2::M) (K (gI (fD C s).1)))(p:dV L (nJ c C::M):=by repeat first|(with_reducible exact eg)|(with_reducible apply ee)):Gs L (Cw pQ 134 #[fF c,.agg (fC s).toArray] K):=
 Gs.old (A:=nJ c C) (val:=λ_:Unit=>_) (p:=λ_=>True) (B:=λ_=>nJ c (fD C s).2) (λw F _ q K h=>PC q e λf g j k d=>h () g f trivial j k d) (λ_ _=>i) p
def On(d:∀b,Gs (Bq b Bk.empty::L) (K (fa b))):Gs L (Cw pQ 52 #[] K):=
 Gs.nw (φ:=λk=>Cw pQ _ _ k) (val:=fa) (p:=λ_=>True) (B:=λb=>Bq b Bk.empty) (λw y K h=>Fo λb F e q m nn=>h b e F trivial q m nn) (λb _=>d b)
def Kp(N:lk A n=none)(H:Gs (rG (put A n b) (eL bk n B)::M) φ)(p:dV L (Bq b B::rG A bk::M):=by repeat first|(with_reducible exact dV.refl)|((apply nL);(·repeat first|(with_reducible exact eg)|(with_reducible apply ee)))):Gs L φ:=⟨λw ⟨F,z⟩=>by
 obtain⟨r,O,h1,⟨G,F3,⟨t,q⟩,J,I,u⟩,y,P⟩:=(p.out w F).1 z;have no:∀{m x},(lk A m).isSome=true->t m x->¬r x:=λg d j=>y _ j ((u _).2 (.inl ((q.f _).2 ⟨_,trivial,g,d⟩)));have e:∀m,lk (put A n b) m=if n=m then some b else lk A m:=λm=>kJ ..
 refine H.go w (Ss.cons.2 ⟨λx=>r x\/G x,F3,⟨λm x=>if m=n then r x else(lk A m).isSome=true/\t m x,λm E _ h=>?_,λm k x _ _=>?_,λx=>?_⟩,J,λx d j=>?_⟩)
 ·rw[e]at h;by_cases f:m=n
  ·subst f;rw[ae rfl]at h;cases h;simp only[cO,cZ];exact h1
  ·rw[aa λe=>f e.symm]at h;rw[eJ _ _ _ f];simpa [f,h]using q.q m E trivial h
 ·by_cases f:m=n<;>by_cases o:k=n<;>simp only[f,o,cZ,da]
  ·simp
  ·exact λh i=>(no i.1 i.2 h).elim
  ·exact λh i=>(no h.1 h.2 i).elim
  ·exact λh i=>q.dj m k x trivial trivial h.2 i.2
 ·rw[q.f];constructor
  ·rintro(h|⟨m,-,g,d⟩)
   ·exact⟨n,trivial,by rw[e,ae rfl];rfl,by simpa using h⟩
   ·have f:m≠n:=λh=>by rw[h,N]at g;cases g
    exact⟨m,trivial,by rw[e,aa λh=>f h.symm];exact g,by simpa [f]using⟨g,d⟩⟩
  ·rintro⟨m,-,g,d⟩;by_cases f:m=n
   ·exact .inl (by simpa [f]using d)
   ·rw[aa f]at d;exact .inr ⟨m,trivial,d.1,d.2⟩
 ·rcases d with d|d
  ·exact y x d ((u x).2 (.inr j))
  ·exact I x d j⟩
def Gs.bA{P:Program}{t:TypeId}{k:Value->WP}(e:mG P t=true)(d:∀b,Gs (pt b (iQ P t) t::L) (k (bO b 0))):Gs L (Xw P (tW t) k):=⟨λw y=>by
 refine nE e ((d _).go _ (y.new ((aS.refl _ w).alloc _) (F' :=λx=>x=w.heap.size) ⟨?_,λ_=>aG⟩ λx f=>qZ));rw[xh,ae rfl]⟩
def ae4(v c l mb md:Nat)(x:Int×Rp×bo)(L:List As)(K:Value->WP):Prop:=∀A,QE v c l mb md A x L K
def oB.list{C C' :List Ct}(h:oB A D C bk)(i:cg C n=none)(hC:∀m,(cg C' m).isSome=(decide (n=m)||(cg C m).isSome)):oB (Go.Vc.put A n b) D C' (eL bk n Bk.empty)/\lk A n=none:=by
 have g:lk A n=none:=by
  have:=h.dom n;rw[i]at this;cases f:lk A n with
  |none=>rfl
  |some x=>rw[f]at this;cases this
 refine⟨⟨λm=>?_,λm d=>?_,λm d=>?_⟩,g⟩
 ·rw[kJ,hC];by_cases e:n=m
  ·rw[ae e];simp[e]
  ·rw[aa e,h.dom m];simp[e]
 ·rw[hC,h.dod m d,Bool.or_true]
 ·rw[kJ]at d;by_cases e:n=m
  ·rw[ae e]at d;cases d
  ·rw[aa e]at d;rw[eJ _ _ _ λh=>e h.symm];exact h.nbk m d
set_option maxHeartbeats 4000000 in
def KE{x:Cm}(k:oB A D S.cal.l S.bk)(i:S.Ok)(hx:x.Fit)(hK:ae4 v c l mb md (S.done x) L K)(pk:dV L0 (vs v c l mb md A D S L):=by repeat first|(with_reducible exact dV.refl)|((apply nL);(·repeat first|(with_reducible exact eg)|(with_reducible apply ee)))):Gs L0 (Cw pQ 48 #[dL v,vg x] K):=by
 refine Gs.pk ?_ pk;refine sN Tryz.func48 ?_;unfold dL;have hxf:=hx;obtain⟨f1,f2,f3,f4,f5,f6,f7,f8,f9⟩:=hxf;have d:=hK A;refine au ?_;intro p;refine au ?_;intro q;refine au ?_;refine Gs.Ib (λh=>?_) λh=>?_
 ·have F:S.done x=((S.led.deposit x.acct x.amt).1,jw,{S with led:=(S.led.deposit x.acct x.amt).2}):=by unfold bo.done;rw[ae (by simpa using h)]
  refine au ?_;refine Iz f2 ?_;refine au ?_;exact d.fail F (D:=D) k
 have Q:¬x.kind=1:=by simpa using h
 refine au ?_;refine Gs.Ib (λh=>?_) λh=>?_
 ·have F:S.done x=((if(S.led.withdraw x.acct x.amt).1≠0 then(S.led.withdraw x.acct x.amt).1 else if(({S with led:=(S.led.withdraw x.acct x.amt).2}:bo).acc x.acct).dfl=true then 120 else({S with led:=(S.led.withdraw x.acct x.amt).2}:bo).bears x.acct),jw,{S with led:=(S.led.withdraw x.acct x.amt).2}):=by unfold bo.done;rw[aa Q,ae (by simpa using h)]
  refine au ?_;refine Gs.WX (λw z=>ky (by repeat first|(with_reducible exact eg)|(with_reducible apply ee)) Qs MG (fW x) w z) ?_;refine D9 k i hx ?_;refine au ?_;exact d.fail F (D:=D) k
 have W:¬x.kind=2:=by simpa using h
 refine au ?_;refine Gs.Ib (λh=>?_) λh=>?_
 ·have F:S.done x=((fD S.cal x.spec).1,jw,if(fD S.cal x.spec).1=0 then{S with cal:=(fD S.cal x.spec).2,bk:=eL S.bk x.spec.num Bk.empty}else{S with cal:=(fD S.cal x.spec).2}):=by unfold bo.done;rw[aa Q,aa W,ae (by simpa using h)]
  have R:=λh=>K7 (C:=S.cal) (s:=x.spec) h;have V:=λh=>Ml (C:=S.cal) (s:=x.spec) h;obtain⟨Y,hY⟩:=df (fD S.cal x.spec);rw[<-hY]at F R V;obtain⟨e,C⟩:=Y
  dsimp only at F R V
  refine Gs.j (λ_:List (Int×Nat)=>(gI e,())) (λA' =>pt q Nl qL::vs v c l mb md A' D (S.done x).2.2 L) (λA' =>oB A' D (S.done x).2.2.cal.l (S.done x).2.2.bk) (λJ H=>?_) λA' Z=>?_
  ·refine au ?_;refine Gs.WX (λw z=>fK zF xG (bG _) (P1 (tG (by repeat first|(with_reducible exact eg)|(with_reducible apply ee)) z))) ?_;refine OM f6 ?_;rw[<-hY];rw[F]at H
   dsimp only at H|-
   refine au ?_;refine Gs.Ib (λN=>?_) λN=>?_
   ·obtain rfl:e=0:=by simpa using N
    rw[ae rfl]at H;obtain⟨l1,l2⟩:=R rfl;refine au ?_;refine On (λnb=>?_);refine au ?_;obtain⟨h1,h2⟩:=k.list (C' :=C.l) (b:=nb) l1 (λm=>by rw[l2];by_cases e:x.spec.num=m<;>simp[e]);refine Gs.mup (enc:=eQ) (ev:=fa) (x:=x.spec.num) (v:=nb) wA kM ?_ (by repeat first|(with_reducible exact eg)|(with_reducible apply ee));refine Kp (n:=x.spec.num) h2 ?_;exact(H _ h1).fin
   ·have N:¬e=0:=by simpa using N
    rw[aa N]at H;exact(H A (by dsimp only;rw[V N];exact k)).fin
  refine Gs.z ?_;rw[F]at Z|-
  dsimp only at Z|-
  refine au ?_;exact(hK A').fail (D:=D) F Z
 have n3:¬x.kind=3:=by simpa using h
 refine au ?_;refine Gs.Ib (λh=>?_) λh=>?_
 ·have F:S.done x=((jy S.cal x.ct x.on).1,jw,{S with cal:=(jy S.cal x.ct x.on).2}):=by unfold bo.done;rw[aa Q,aa W,aa n3,ae (by simpa using h)]
  refine au ?_;refine O9 ?_;refine au ?_;exact d.fail F (D:=D) (k.cal λm=>Qn ..)
 have n4:¬x.kind=4:=by simpa using h
 refine au ?_;refine Gs.Ib (λh=>?_) λh=>?_
 ·have F:S.done x=((fJ S.cal x.ct x.price).1,jw,{S with cal:=(fJ S.cal x.ct x.price).2}):=by unfold bo.done;rw[aa Q,aa W,aa n3,aa n4,ae (by simpa using h)]
  refine au ?_;refine Fj ?_;refine au ?_;exact d.fail F (D:=D) (k.cal λm=>Ft ..)
 have O:¬x.kind=11:=by simpa using h
 refine au ?_;refine Gs.Ib (λh=>?_) λh=>?_
 ·have F:S.done x=S.settle:=by unfold bo.done;rw[aa Q,aa W,aa n3,aa n4,aa O,ae (by simpa using h)]
  rw[F]at d;refine Hz k i (λt g u o j E=>?_);generalize S.settle=Y at d j E|-;refine au ?_;exact(d t g u o j E).fin
 have U:¬x.kind=12:=by simpa using h
 refine au ?_;refine Gs.Ib (λh=>?_) λh=>?_
 ·have F:S.done x=S.expire x.ct:=by unfold bo.done;rw[aa Q,aa W,aa n3,aa n4,aa O,aa U,ae (by simpa using h)]
  rw[F]at d;refine au ?_;refine HD k i (λt g u o j E=>?_);generalize S.expire x.ct=Y at d j E|-;refine au ?_;exact(d t g u o j E).fin
 have n14:¬x.kind=14:=by simpa using h
 have f:S.done x=if x.acct=0 then(2,jw,S)else if x.kind=6 then S.cancel x else if x.kind=7 then S.replace x else if S.led.getO x.acct=none then(7,jw,S)else if x.kind=5 then S.place x else if x.kind=9 then S.bid x else
   if x.kind=8 then(if x.ct≠0/\(dI S.cal.l x.ct).2≠0 then((dI S.cal.l x.ct).2,jw,S)else(0,{jw with gone:=(S.clear x.acct x.ct).1},(S.clear x.acct x.ct).2))else
   if x.kind=10 then(((if x.on then(S.clear x.acct 0).2 else S).led.set {S.acc x.acct with kil:=x.on}).1,(if x.on then{jw with gone:=(S.clear x.acct 0).1}else jw),{(if x.on then(S.clear x.acct 0).2 else S)with led:=((if x.on then(S.clear x.acct 0).2 else S).led.set {S.acc x.acct with kil:=x.on}).2})else
   if x.kind=13 then S.liquidate (S.acc x.acct)else(0,jw,S):=by unfold bo.done;rw[aa Q,aa W,aa n3,aa n4,aa O,aa U,aa n14]
 clear Q W n3 n4 O U n14;refine au ?_;refine Gs.Ib (λh=>?_) λh=>?_
 ·rw[ae (by simpa using h)]at f;refine au ?_;exact d.fail f (D:=D) k
 have ha:x.acct≠0:=by simpa using h
 rw[aa ha]at f;refine au ?_;refine Gs.Ib (λh=>?_) λh=>?_
 ·rw[ae (by simpa using h)]at f;rw[f]at d;refine Gs.X (λw z=>ky (by repeat first|(with_reducible exact eg)|(with_reducible apply ee)) Qs MG (fW x) w z) ?_;refine Is k i hx (λt g u o j E=>?_);generalize S.cancel x=Y at d j E|-;refine au ?_;exact(d t g u o j E).fin
 rw[aa (by simpa using h)]at f;refine au ?_;refine Gs.Ib (λh=>?_) λh=>?_
 ·rw[ae (by simpa using h)]at f;rw[f]at d;refine Gs.X (λw z=>ky (by repeat first|(with_reducible exact eg)|(with_reducible apply ee)) Qs MG (fW x) w z) ?_;refine EZ k i hx ha (λt g u o j E=>?_);generalize S.replace x=Y at d j E|-;refine au ?_;exact(d t g u o j E).fin
 rw[aa (by simpa using h)]at f;refine Gs.j (λr:Nat=>(.pointer (some ⟨r,0,none⟩),gI (if S.led.getO x.acct=none then 7 else 0),())) (λr=>pt r (Xq (S.acc x.acct)) 100::pt q Nl qL::pt p (jO x) lZ::vs v c l mb md A D S L) (λ_=>True) (λJ H=>?_) λr _=>?_
 ·refine au ?_;refine Gs.An ?_ (au ?_)
  ·refine rq ?_;rw[nC S];refine au ?_;intro r;refine au ?_;exact(H r trivial).fin
  ·intro r;refine au ?_;refine rq ?_;rw[nC S];refine au ?_;exact(H r trivial).fin
 dsimp only
 refine Gs.z (au ?_);refine Gs.Ib (λh=>?_) λh=>?_
 ·have h:S.led.getO x.acct=none:=by simpa using h
  rw[ae h]at f|-;refine au ?_;exact d.fail f (D:=D) k
 have hg:¬S.led.getO x.acct=none:=by simpa using h
 rw[aa hg]at f|-;refine Gs.j (λ_:(Option Addr×Nat)×List (Int×Value)=>(gI 0,())) (λz=>pt q (BF 0 0 0 0 (.slice none 0 0) (ej z.1 (S.done x).2.1.gone.length) (.slice none 0 0)) qL::sB (ej z.1 (S.done x).2.1.gone.length) (S.done x).2.1.gone::vs v c l mb md A z.2 (S.done x).2.2 L) (λz=>S.done x=(0,{jw with gone:=(S.done x).2.1.gone},(S.done x).2.2)/\oB A z.2 (S.done x).2.2.cal.l (S.done x).2.2.bk/\(S.done x).2.1.gone.length<=1000000) (λJ H=>?_) λz hz=>?_
 ·refine au ?_;refine Gs.Ib (λh=>?_) λh=>?_
  ·rw[ae (by simpa using h)]at f;rw[f]at d;refine Gs.X (λw z=>ky (by repeat first|(with_reducible exact eg)|(with_reducible apply ee)) Qs MG (fW x) w z) ?_;refine LY k i hx ha (λt g u o j E=>?_);generalize S.place x=Y at d j E|-;refine au ?_;exact(d t g u o j E).fin
  rw[aa (by simpa using h)]at f;refine au ?_;refine Gs.Ib (λh=>?_) λh=>?_
  ·rw[ae (by simpa using h)]at f;rw[f]at d;refine Gs.X (λw z=>ky (by repeat first|(with_reducible exact eg)|(with_reducible apply ee)) Qs MG (fW x) w z) ?_;refine Ro k i hx ha (λt g u o j E=>?_);generalize S.bid x=Y at d j E|-;refine au ?_;exact(d t g u o j E).fin
  rw[aa (by simpa using h)]at f;refine au ?_;refine Gs.Ib (λh=>?_) λh=>?_
  ·rw[ae (by simpa using h)]at f;refine Gs.j (λ_:Unit=>(gI 0,())) (λ_=>pt q Nl qL::pt p (jO x) lZ::vs v c l mb md A D S L) (λ_=>¬(x.ct≠0/\(dI S.cal.l x.ct).2≠0)) (λJ2 I=>?_) λ_ hm=>?_
   ·refine au ?_;refine Gs.Ib (λhc=>?_) λhc=>?_
    ·refine Gs.j1 (gI (dI S.cal.l x.ct).2,()) (λJ3 hJ3=>?_) ?_
     ·refine au ?_;refine Gs.An ?_ ?_
      ·refine zm ?_;refine au ?_;refine Gs.bvar cy tM (bV _) cy (lV _) λr=>?_;exact hJ3.fin
      ·refine Gs.bA cy (λb=>?_);refine au ?_;refine zm ?_;refine au ?_;refine Gs.stY (cs' :=dD (dI S.cal.l x.ct).1) (by repeat first|(with_reducible exact eg)|(with_reducible apply ee)) (bV _) tM (by rw[bV];exact Nat.le_of_ble_eq_true cy) (lV _) (lR (by rw[bV];kernel_rfl)) ?_;exact hJ3.fin
     refine Gs.z (au ?_);refine Gs.Ib (λN=>?_) λN=>?_
     ·rw[ae ⟨by simpa using hc,by simpa using N⟩]at f;refine au ?_;exact d.fail f (D:=D) k
     ·exact(I () λh=>h.2 (by simpa using N)).fin
    ·exact(I () λh=>h.1 (by simpa using hc)).fin
   rw[aa hm]at f;refine Gs.z (au ?_);refine yg k i.cal (λn=>i.ord.bdl n) (λy o j w2=>?_);have P:=rA S x.acct x.ct;rw[f]at H
   dsimp only at H
   have w3:(S.clear x.acct x.ct).1.length<=1000000:=qZ;generalize S.clear x.acct x.ct=Y at H j w3 P|-;refine au ?_;exact(H (y,o) ⟨rfl,by rw[P];exact j,w3⟩).fin
  rw[aa (by simpa using h)]at f;refine au ?_;refine Gs.Ib (λh=>?_) λh=>?_
  ·rw[ae (by simpa using h)]at f;refine au ?_;obtain⟨G,hG⟩:=df (if x.on then(S.clear x.acct 0).1 else []);obtain⟨T,hT⟩:=df (if x.on then(S.clear x.acct 0).2 else S);have P:=rA S x.acct 0;have hgo:(if x.on then{jw with gone:=(S.clear x.acct 0).1}else jw)={jw with gone:=G}:=by rw[hG];split<;>rfl
   rw[hgo,<-hT]at f;refine Gs.j (λ_:(Option Addr×Nat)×List (Int×Value)=>()) (λz=>pt r (Xq {S.acc x.acct with kil:=x.on}) 100::pt q (BF 0 0 0 0 (.slice none 0 0) (ej z.1 G.length) (.slice none 0 0)) qL::sB (ej z.1 G.length) G::vs v c l mb md A z.2 T L) (λz=>oB A z.2 T.cal.l T.bk/\G.length<=1000000) (λJ2 I=>?_) λz hz=>?_
   ·refine au ?_;refine Gs.Ib (λho=>?_) λho=>?_
    ·rw[ae ho]at hG hT;refine au ?_;refine yg k i.cal (λn=>i.ord.bdl n) (λy o j w2=>?_);rw[<-P,<-hT]at j;rw[<-hG]at w2|-;rw[<-hT];refine au ?_;exact(I (y,o) ⟨j,qZ⟩).fin
    ·rw[aa (by rw[ho];decide)]at hG hT;subst hG hT;refine Gs.idn ?_;have:=I ((none,0),D) ⟨k,aJ _⟩
     dsimp only[List.length_nil]at this
     exact this.fin
   obtain⟨y,o⟩:=z;obtain⟨hz,hGl⟩:=hz
   dsimp only at hz|-
   refine Gs.z ?_;refine FV (X:=T.led) (λhTk=>?_);refine au ?_;refine Dt (a:={S.acc x.acct with kil:=x.on}) (Kz i.led.led x.acct) ?_;rw[f]at d;generalize T.led.set {S.acc x.acct with kil:=x.on}=Y at d|-;refine au ?_;refine Gs.tdn (Gs.uin ?_);have:=d (none,0) y (none,0) o hz ⟨aJ _,hGl,aJ _⟩
   dsimp only[jw,List.length_nil]at this
   exact this.fin
  rw[aa (by simpa using h)]at f;refine au ?_;refine Gs.Ib (λh=>?_) λh=>?_
  ·rw[ae (by simpa using h)]at f;rw[f]at d;refine au ?_;refine BG (ac:=S.acc x.acct) k i (λt g u o j E=>?_);generalize S.liquidate (S.acc x.acct)=Y at d j E|-;refine au ?_;exact(d t g u o j E).fin
  rw[aa (by simpa using h)]at f;rw[f]at H;refine Gs.idn ?_;have:=H ((none,0),D) ⟨rfl,k,aJ _⟩
  dsimp only[jw,List.length_nil]at this
  exact this.fin
 obtain⟨y,o⟩:=z;obtain⟨h1,h2,h3⟩:=hz
 dsimp only at h1 h2 h3|-
 rw[h1]at d;generalize(S.done x).2.1.gone=G at d h3|-;generalize(S.done x).2.2=T at d h2|-;refine Gs.z (au ?_);refine Gs.tdn (Gs.uin ?_);have:=d (none,0) y (none,0) o h2 ⟨aJ _,h3,aJ _⟩
 dsimp only[jw,List.length_nil]at this
 exact this.fin
end
end Go.Proofs
set_option maxRecDepth 100000
set_option maxHeartbeats 1000000
namespace Go.Proofs
open Go Go.Vc
attribute [local go_sem] fF eu
abbrev XK(v c l mb md:Nat)(n:Int):As:=pt v [.pointer (some ⟨c,0,none⟩),.pointer (some ⟨l,0,none⟩),.map (some mb),.map (some md),gQ n] zS
section
variable{L L0 M:List As}{φ:WP}{K:Value->WP}{k0:WP}{v c l mb md b mw:Nat}{A:List (Int×Nat)}{D:List (Int×Value)}{S:bo}{n a:Int}{X:bE}{bk:Int->Bk}{bd:Int->List Od}{s:Vt_}{os:List Od}{C:oe}{B:Bk}
def PP(e:∀d,Gs (nJ d C::L) (K (fF d)))(p:dV L (nJ c C::M):=by repeat first|(with_reducible exact eg)|(with_reducible apply ee)):Gs L (Cw pQ 91 #[fF c] K):=
 Gs.nw (φ:=λk=>Cw pQ _ _ k) (val:=fF) (p:=λ_=>True) (B:=λd=>nJ d C) (λw y K h=>(jF p y).elim λF q=>P7 q λd f g i m nn=>h d g f trivial i m nn) (λb _=>e b)
def O4(e:∀d,Gs (mi d X::L) (K (eu d)))(p:dV L (mi l X::M):=by repeat first|(with_reducible exact eg)|(with_reducible apply ee)):Gs L (Cw pQ 92 #[eu l] K):=
 Gs.nw (φ:=λk=>Cw pQ _ _ k) (val:=eu) (p:=λ_=>True) (B:=λd=>mi d X) (λw y K h=>(jF p y).elim λF q=>R2 q λg d f i m nn=>h d g f trivial i m nn) (λb _=>e b)
def Lr(f:lk A n=some b)(g:∀d,Gs (Bq d (bk n)::L) (K (fa d)))(p:dV L (rG A bk::M):=by repeat first|(with_reducible exact eg)|(with_reducible apply ee)):Gs L (Cw pQ 93 #[fa b] K):=
 Gs.nw (φ:=λk=>Cw pQ _ _ k) (val:=fa) (p:=λ_=>True) (B:=λd=>Bq d (bk n)) (λw y K h=>(jF p y).elim λF ⟨o,q⟩=>C1 (q.q n b trivial f) λd i e j m nn=>h d e i trivial j m nn) (λb _=>g b)
def OD(g:∀w,Ss w L->Rd w 5 s os.length (os.flatMap dx))(i:os.length<=1000000)(e:∀d,Gs (lX d os::L) (K d)):Gs L (Cw pQ 94 #[s] K):=
 Gs.nw (φ:=λk=>Cw pQ _ _ k) (val:=id) (p:=λ_=>True) (B:=λd=>lX d os) (λw y K h=>sX (g w y) i λd f o m nn=>h d f (aK d) trivial ⟨o,λ_=>aG⟩ m nn) (λd _=>e d)
def MD(d:∀c,Gs (nJ c ⟨0,[]⟩::L) (K (fF c))):Gs L (Cw pQ 33 #[] K):=
 Gs.nw (φ:=λk=>Cw pQ _ _ k) (val:=fF) (p:=λ_=>True) (B:=λc=>nJ c ⟨0,[]⟩) (λw y K h=>Mc λc F e q m nn=>h c e F trivial q m nn) (λb _=>d b)
def LP(d:∀l,Gs (mi l bE.empty::L) (K (eu l))):Gs L (Cw pQ 34 #[] K):=
 Gs.nw (φ:=λk=>Cw pQ _ _ k) (val:=eu) (p:=λ_=>True) (B:=λl=>mi l bE.empty) (λw y K h=>HE λe l F q m nn=>h l e F trivial q m nn) (λb _=>d b)
def Gs.mkM{P:Program}{κ ν:Type} [DecidableEq κ]{enc:κ->Value}{ev:ν->Value}{t:TypeId}{k:Value->WP}(d:∀m,Gs (mp enc ev m ([]:List (κ×ν))::L) (k (.map (some m)))):Gs L (Vw P (Instr.makeMap t none) k):=⟨λw y=>by
 refine bh (zO _) ((d _).go _ (y.new ((aS.refl _ w).alloc _) (F' :=λx=>x=w.heap.size) ⟨eF.new w,λ_=>aG⟩ λx e=>qZ))⟩
def Gs.mkB(d:∀m,Gs (No m []::L) (K (.map (some m)))):Gs L (Vw pQ (Instr.makeMap 90 none) K):=Gs.mkM d
def Gs.mkD(d:∀m,Gs (Nq m []::L) (K (.map (some m)))):Gs L (Vw pQ (Instr.makeMap 91 none) K):=Gs.mkM d
def UI(h:Gs (rG [] bk::L) φ):Gs L φ:=⟨λw y=>h.go w (y.new (aS.refl _ w) (F' :=λ_=>False) ⟨λ_ _=>False,⟨λn b _ e=>(by cases e),λn m x _ _ h=>h.elim,λx=>⟨False.elim,λ⟨n,_,h,_⟩=>(by cases h)⟩⟩⟩ λ_ h=>h.elim)⟩
def Uc(h:Gs (tU [] (λ_=>[])::L) φ):Gs L φ:=⟨λw y=>h.go w (y.new (aS.refl _ w) (F' :=λ_=>False) ⟨λn _=>gD.nil _ _ _,λn m x _ _ h=>(by cases h),λx=>⟨False.elim,λ⟨n,_,h⟩=>(by cases h)⟩⟩ λ_ h=>h.elim)⟩
def J0(d:∀v c l mb md,Gs (vs v c l mb md [] [] bo.empty L) (K (dL v))):Gs L (Cw pQ 8 #[] K):=by
 refine sN Tryz.func8 ?_;refine MD (λc=>?_);refine LP (λl=>?_);refine Gs.mkB (λmb=>?_);refine Gs.mkD (λmd=>?_);refine au ?_;intro v;refine UI (bk:=λ_=>Bk.empty) (Uc ?_);have h:Gs (XK v c l mb md 1::nJ c ⟨0,[]⟩::mi l bE.empty::No mb []::Nq md []::rG [] (λ_=>Bk.empty)::tU [] (λ_=>[])::L) (K (dL v)):=d v c l mb md;exact h.fin
def oB.nil:oB [] [] bo.empty.cal.l bo.empty.bk:=⟨λ_=>rfl,λ_ h=>(by cases h),λ_ _=>rfl⟩
structure ag2 where
 v:Nat
 c:Nat
 l:Nat
 mb:Nat
 md:Nat
structure ad6 where
 R:List (Int×Nat)
 p:Option (Int×Nat)
 A:List (Int×Nat)
structure ac4 where
 R:List (Int×Value)
 p:Option (Int×Value)
 D:List (Int×Value)
def X7{α:Type}{R:List (Int×α)}{i:Nat}{p:Int×α}(h:(R.map (·.1)).Nodup)(hi:R[i]? =some p):((R.eraseIdx i).map (·.1)).Nodup/\∀q∈R.eraseIdx i,q.1≠p.1:=by
 obtain⟨g,rfl⟩:=aF.1 hi;have f:=h;rw[<-cH i R,<-ce g,aM,aD,du,bY]at f;obtain⟨h1,⟨j,m⟩,k⟩:=f;refine⟨h.sublist ((eB _ _).map _),λq d e=>?_⟩;rw[List.eraseIdx_eq_take_drop_succ,bm]at d;rcases d with d|d
 ·exact k q.1 (aR d) _ ai e
 ·exact j (e▸aR d)
def Vy(S:bo)(A:List (Int×Nat)):Int->Bk:=λn=>if(lk A n).isSome then S.bk n else Bk.empty
def Xh(S:bo)(D:List (Int×Value)):Int->List Od:=λn=>if(lk D n).isSome then S.bd n else []
def Sr(S:bo)(A:List (Int×Nat))(n:Int)(b:Nat):eL (Vy S A) n (S.bk n)=Vy S (put A n b):=by
 funext m;unfold Vy;rw[kJ];by_cases h:m=n
 ·subst h;rw[cO,ae rfl];rfl
 ·rw[eJ _ _ _ h,aa (c:=n=m) λe=>h e.symm]
def TX(S:bo)(D:List (Int×Value))(n:Int)(s:Vt_):eL (Xh S D) n (S.bd n)=Xh S (put D n s):=by
 funext m;unfold Xh;rw[kJ];by_cases h:m=n
 ·subst h;rw[cO,ae rfl];rfl
 ·rw[eJ _ _ _ h,aa (c:=n=m) λe=>h e.symm]
structure U4{α:Type}(A A' R:List (Int×α)):Prop where
 r:∀q∈R,q∈A
 nd:(R.map (·.1)).Nodup
 no:∀q∈R,lk A' q.1=none
 sub:∀n,(lk A' n).isSome=true->(lk A n).isSome=true
 all:∀q∈A,q∈R\/(lk A' q.1).isSome=true
def U4.step{α:Type}{A g R:List (Int×α)}{i:Nat}{p:Int×α}{x:α}(h:U4 A g R)(hi:R[i]? =some p)(k:lk A p.1=some p.2):U4 A (put g p.1 x) (R.eraseIdx i):=by
 obtain⟨r,m⟩:=X7 h.nd hi;have j:∀q∈R.eraseIdx i,q∈R:=λq d=>(eB _ _).mem d;refine⟨λq d=>h.r q (j q d),r,λq d=>?_,λn f=>?_,λq d=>?_⟩
 ·rw[kJ,aa λe=>m q d e.symm];exact h.no q (j q d)
 ·rw[kJ]at f;by_cases e:p.1=n
  ·rw[<-e,k];rfl
  ·rw[aa e]at f;exact h.sub n f
 ·rw[kJ];by_cases e:p.1=q.1
  ·rw[ae e];exact .inr rfl
  ·rw[aa e];exact(h.all q d).imp (λo=>(Bv hi o).resolve_left λh=>e (h▸rfl)) id
def U4.fin{α:Type}{A e:List (Int×α)}(h:U4 A e [])(n:Int):(lk e n).isSome=(lk A n).isSome:=by
 cases h1:(lk e n).isSome with
 |true=>rw[h.sub n h1]
 |false=>
  cases f:lk A n with
  |none=>rfl
  |some x=>
   rcases h.all _ (xD f)with d|d
   ·cases d
   ·rw[h1]at d;cases d
set_option maxHeartbeats 4000000 in
def P0(E:oB A D S.cal.l S.bk)(N:S.Ok)(W:∀t o r e d g q,oB g q S.cal.l S.bk->Gs (vs t o r e d g q S (vs v c l mb md A D S L)) (K (dL t)))(pk:dV L0 (vs v c l mb md A D S L):=by repeat first|(with_reducible exact dV.refl)|((apply nL);(·repeat first|(with_reducible exact eg)|(with_reducible apply ee)))):Gs L0 (Cw pQ 38 #[dL v] K):=by
 refine Gs.pk ?_ pk;refine sN Tryz.func38 ?_;unfold dL;refine xR ?_;refine au ?_;refine Gs.j (λy:ag2=>(.pointer (some ⟨y.v,0,none⟩),())) (λy=>XK y.v y.c y.l y.mb y.md S.next::nJ y.c S.cal::mi y.l S.led::No y.mb []::Nq y.md []::vs v c l mb md A D S L) (λ_=>True) (λJ Z=>?_) λy _=>?_
 ·refine au ?_
  repeat' (first|(intro t;exact(Z ⟨t,_,_,_,_⟩ trivial).fin)|(refine Gs.An ?_ ?_ <;>refine au ?_)|(refine PP (λo=>?_);refine au ?_)|(refine O4 (λr=>?_);refine au ?_)|((with_reducible refine Gs.mkB (λe=>?_));refine au ?_)|((with_reducible refine Gs.mkD (λd=>?_));refine au ?_))
 show Gs (Nr y.v y.c y.l y.mb y.md S.next::_) _;obtain⟨t,o,r,e,d⟩:=y
 dsimp only
 refine Gs.z (au ?_);refine I3 (λO=>?_);refine Gs.mpN (enc:=eQ) (ev:=fa) (D:=A) (λU=>?_) (by repeat first|(with_reducible exact eg)|(with_reducible apply ee));refine Gs.mpN (enc:=eQ) (ev:=xk) (D:=D) (λT=>?_) (by repeat first|(with_reducible exact eg)|(with_reducible apply ee));refine Gs.rng wA (λit=>?_) (by repeat first|(with_reducible exact eg)|(with_reducible apply ee));refine UI (bk:=Vy S []) ?_;refine Gs.l (λ_:ad6=>()) (·.R.length) (λx=>Nk eQ fa mb A it x.R x.p::Nr t o r e d S.next::nJ o S.cal::mi r S.led::No e x.A::Nq d []::rG x.A (Vy S x.A)::Nr v c l mb md S.next::nJ c S.cal::mi l S.led::Nq md D::rG A S.bk::tU D S.bd::L) (λx=>U4 A x.A x.R) ⟨A,none,[]⟩ rfl ⟨λ_ h=>h,U,λ_ _=>rfl,λ_ h=>(by cases h),λ_ h=>.inl h⟩ ?_ (by repeat first|(with_reducible exact dV.refl)|((apply nL);(·repeat first|(with_reducible exact eg)|(with_reducible apply ee))));rintro⟨R,Y,g⟩ j V f
 dsimp only at j f|-
 refine Gs.z ?_;refine Gs.nxt (λF=>?_) (λi p u=>?_) (by repeat first|(with_reducible exact eg)|(with_reducible apply ee))
 ·subst F;have k:=j.fin
  have I:Vy S g=S.bk:=by
   funext n;unfold Vy;rw[k];by_cases h:(lk A n).isSome=true
   ·rw[ae h]
   ·rw[aa h,E.nbk n (by simpa using h)]
  rw[I];clear f j;refine au ?_;refine Gs.rng qD (λQ=>?_) (by repeat first|(with_reducible exact eg)|(with_reducible apply ee));refine Uc ?_;refine Gs.l (λ_:ac4=>()) (·.R.length) (λx=>Nk eQ xk md D Q x.R x.p::Nr t o r e d S.next::nJ o S.cal::mi r S.led::No e g::Nq d x.D::rG g S.bk::tU x.D (Xh S x.D)::Nr v c l mb md S.next::nJ c S.cal::mi l S.led::No mb A::rG A S.bk::tU D S.bd::L) (λx=>U4 D x.D x.R) ⟨D,none,[]⟩ rfl ⟨λ_ h=>h,T,λ_ _=>rfl,λ_ h=>(by cases h),λ_ h=>.inl h⟩ ?_ ?_
  rotate_left
  ·show dV _ (Nk eQ xk md D Q D none::Nr t o r e d S.next::nJ o S.cal::mi r S.led::No e g::Nq d []::rG g S.bk::tU [] (λ_=>[])::Nr v c l mb md S.next::nJ c S.cal::mi l S.led::No mb A::rG A S.bk::tU D S.bd::L);exact(by repeat first|(with_reducible exact dV.refl)|((apply nL);(·repeat first|(with_reducible exact eg)|(with_reducible apply ee))))
  rintro⟨R,Y,q⟩ j V f
  dsimp only at j f|-
  refine Gs.z ?_;refine Gs.nxt (λF=>?_) (λi p u=>?_) (by repeat first|(with_reducible exact eg)|(with_reducible apply ee))
  ·subst F
   have P:Xh S q=S.bd:=by
    funext n;unfold Xh;rw[j.fin];by_cases h:(lk D n).isSome=true
    ·rw[ae h]
    ·rw[aa h,O n (by simpa using h)]
   rw[P];refine au ?_;exact(W t o r e d g q ⟨λn=>by rw[k];exact E.dom n,λn h=>E.dod n (j.sub n h),λn h=>E.nbk n (by have:=k n;rw[h]at this;simpa using this.symm)⟩).fin
  ·obtain⟨n,s⟩:=p;have m:lk D n=some s:=sL T (j.r _ (cX u));have H:kQ D n=s:=by unfold kQ;rw[m];rfl
   refine au ?_;refine Gs.ent ?_ (by repeat first|(with_reducible exact eg)|(with_reducible apply ee));refine au ?_;refine OD (os:=S.bd n) (s:=s) (H▸pD n) (by have:=N.ord.bdl n;omega) (λw=>?_);refine au ?_;refine Gs.mup (enc:=eQ) (ev:=xk) (D:=q) (x:=n) (v:=w) qD kM ?_ (by repeat first|(with_reducible exact eg)|(with_reducible apply ee));refine wI (D:=q) (n:=n) ?_;refine A6 (D:=q) (n:=n) (s:=w) (os:=S.bd n) ?_;rw[TX S q n w];have G:=j.step (x:=w) u m;exact(f ⟨R.eraseIdx i,some (n,s),put q n w⟩ G (by have:=(aF.1 u).1;show(R.eraseIdx i).length<_;rw[iG this];omega)).fin
 ·obtain⟨n,b⟩:=p;have m:lk A n=some b:=sL U (j.r _ (cX u));refine au ?_;refine Gs.ent ?_ (by repeat first|(with_reducible exact eg)|(with_reducible apply ee));refine au ?_;refine Lr (n:=n) m (λz=>?_);refine au ?_;refine Gs.mup (enc:=eQ) (ev:=fa) (D:=g) (x:=n) (v:=z) wA kM ?_ (by repeat first|(with_reducible exact eg)|(with_reducible apply ee));refine Kp (A:=g) (n:=n) (j.no _ (cX u)) ?_;rw[Sr S g n z];have G:=j.step (x:=z) u m;exact(f ⟨R.eraseIdx i,some (n,b),put g n z⟩ G (by have:=(aF.1 u).1;show(R.eraseIdx i).length<_;rw[iG this];omega)).fin
end
end Go.Proofs
set_option maxRecDepth 100000
set_option maxHeartbeats 1000000
namespace Go.Proofs
open Go Go.Vc
section
variable{L L0 M:List As}{φ:WP}{K:Value->WP}{k0:WP}{v c l mb md b:Nat}{A:List (Int×Nat)}{D:List (Int×Value)}{S:bo}{n a:Int}{x:Cm}
def R7(f:x.Fit)(d:Gs L (K (.bool x.may))):Gs L (Cw pQ 47 #[vg x] K):=⟨λw y=>S3 f λe m=>d.go e (y.md0 m)⟩
def BY{e:Int}(d:Gs L (K (wT (iZ e) (.slice none 0 0) (.slice none 0 0) (.slice none 0 0)))):Gs L (Cw pQ 41 #[.int .i64 e] K):=by
 refine sN Tryz.func41 ?_;refine au ?_;intro p;refine au ?_;exact d.fin
set_option maxHeartbeats 2000000 in
def C9(j:S.Ok)(H:x.Fit)(o:∀t g u,Z5 (S.apply x).1->Gs (tZ v (S.apply x).2::Ak (ej t (S.apply x).1.trades.length) (S.apply x).1.trades::sB (ej g (S.apply x).1.gone.length) (S.apply x).1.gone::yT (ej u (S.apply x).1.accts.length) (S.apply x).1.accts::L) (K (wT (S.apply x).1 (ej t (S.apply x).1.trades.length) (ej g (S.apply x).1.gone.length) (ej u (S.apply x).1.accts.length)))):
  Gs (tZ v S::L) (Cw pQ 15 #[dL v,vg x] K):=by
 refine Ou λc l mb md A D I=>?_
 have G:∀{e:Int} {M},S.apply x=(iZ e,S)->Sb M (vs v c l mb md A D S L)->Gs M (K (wT (iZ e) (.slice none 0 0) (.slice none 0 0) (.slice none 0 0))):=λ{e M} h p=>by
  refine Gs.fin (M:=vs v c l mb md A D S L) ?_ p;refine uQ (C:=S.cal) I ?_;refine Gs.tdn (Gs.idn (Gs.uin ?_));have:=o (none,0) (none,0) (none,0);rw[h]at this;have:=this ⟨aJ _,aJ _,aJ _⟩
  dsimp only[iZ,jw,List.length_nil]at this
  exact this.fin
 refine sN Tryz.func15 ?_;unfold dL;refine au ?_;intro p;refine au ?_;intro q;refine au ?_;refine xR ?_;refine au ?_;refine Gs.X (λw z=>ky (by repeat first|(with_reducible exact eg)|(with_reducible apply ee)) Qs MG (fW x) w z) ?_;refine R7 H ?_;refine au ?_;refine Gs.Ib (λi=>?_) λi=>?_
 ·have h:S.apply x=(iZ 160,S):=by unfold bo.apply;rw[ae (by simpa using i)]
  refine BY ?_;refine au ?_;exact G h (by repeat first|(with_reducible exact Sb.refl)|((apply Sb.pick);(·repeat first|(with_reducible exact eg)|(with_reducible apply ee)))|(with_reducible apply Sb.drop))
 have i:x.may=true:=by simpa using i
 have d:S.apply x=if(S.done x).1≠0 then(iZ (S.done x).1,S)else((S.done x).2.1,(S.done x).2.2):=by unfold bo.apply;rw[aa (by rw[i];decide)]
 refine P0 I j (λR J P y s W X m=>?_);refine Gs.X (λw z=>ky (b:=p) (cs:=jO x) (by repeat first|(with_reducible exact eg)|(with_reducible apply ee)) Qs MG (fW x) w z) ?_;refine KE m j H (λO t g u N f k=>?_);generalize S.done x=Y at d f k|-;obtain⟨e,r,T⟩:=Y;obtain⟨U,Z,Q,V,F,B,E⟩:=r
 dsimp only at d f|-
 unfold dL;refine au ?_;intro r;refine au ?_;refine Gs.Ib (λh=>?_) λh=>?_
 ·rw[ae (by simpa using h)]at d;refine BY ?_;refine au ?_;exact G d (by repeat first|(with_reducible exact Sb.refl)|((apply Sb.pick);(·repeat first|(with_reducible exact eg)|(with_reducible apply ee)))|(with_reducible apply Sb.drop))
 rw[aa (by simpa using h)]at d;rw[d]at o;refine au ?_;refine Gs.fin (M:=vo v J P y s O N T.cal T.led T.bk T.bd T.next (Ak (ej t F.length) F::sB (ej g B.length) B::yT (ej u E.length) E::L)) ?_;refine uQ f ?_;exact o t g u k
end
def tg{w:Wt_}{K:aY}{v:Nat}{F:NP_}{S:bo}{x:Cm}(h:oP w v F S)(p:S.Ok)(G:x.Fit)
  (r:∀i k j f d,oP d v f (S.apply x).2->RpQ d i k j (S.apply x).1->aS F w d->(∀y,f y->F y\/w.heap.size<=y)->(∀y,aK i y\/aK k y\/aK j y->(F y\/w.heap.size<=y)/\¬f y)->K (wT (S.apply x).1 i k j) d):
  Ca pQ 15 #[dL v,vg x] w K:=by
 refine Gs.from (A:=tZ v S) (φ:=Cw pQ 15 #[dL v,vg x] K) h (C9 p G λt g u _=>⟨λd y=>?_⟩);obtain⟨O,C,Z,h1,⟨H,V,⟨s,P⟩,⟨F3,Q,⟨B,Y⟩,⟨J,I,⟨E,e4⟩,⟨F5,U,⟨q,m⟩,-,-,X⟩,W,R⟩,d3,g3⟩,d2,N⟩,d1,T⟩:=y;have old:∀y,¬F5 y->F y\/w.heap.size<=y:=λy o=>aI λe=>o ((q y).2 ⟨qZ,λz=>e (.inl z)⟩);refine r _ _ _ C d h1 ⟨s,B,E,λy a b=>?_,λy a b=>?_,λy a b=>?_⟩ m (λy o=>old y λe=>?_) (λy o=>⟨old y λe=>?_,λe=>?_⟩)<;>grind
def NT{w:Wt_}{K:aY}(e:∀v F d,oP d v F bo.empty->M0 w d->(∀x,F x->w.heap.size<=x)->K (dL v) d):Ca pQ 8 #[] w K:=by
 refine(J0 (L:=[CA w λ_=>False]) (K:=K) λv c l mb md=>uQ (C:=bo.empty.cal) oB.nil ⟨λd y=>?_⟩:Gs _ (Cw pQ 8 #[] K)).go w ⟨_,_,λ_=>False,⟨λ_=>aG,aS.refl _ _⟩,λ_ h=>h,dS,λb=>(or_iff_left id).symm⟩;obtain⟨g,h1,m,i⟩:=Ss.frz y;exact e v g d h1 m λy f=>(i y f).elim False.elim id
end Go.Proofs
set_option maxRecDepth 100000
set_option maxHeartbeats 1000000
namespace Go.Proofs
open Go Go.Vc
attribute [local congr] aZ
end Go.Proofs
