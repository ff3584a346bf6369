/- Part of a proof. -/
import Derived.Test.YtekbnpagidkbbaaGreatR18
set_option linter.all false
set_option maxRecDepth 100000
set_option maxHeartbeats 4000000
namespace Go.Proofs
open Go Go.Vc
attribute [local congr] bj
variable {w:Wt_}
abbrev zR:TypeId:=354
def yv(n:Nd):List Value:=[.int .i64 n.m,gI n.w,gI n.u]
def ND(n:Nd):Value:=.agg (yv n).toArray
def Iz:Nd:=⟨0,0,0⟩
def Wx{W:Wt_}{x:lG×Value}{K:Value->World->Prop}(h:∃a n c,x.2=.slice a n c)(e:∀b,hC b W.heap.size (qp x).toArray uN->M0 W b->K (bO W.heap.size 0) b):
  rx pQ (uK uN) W λv d=>yS pQ (rS uN v (.agg (qp x).toArray)) d λb=>K v b:=by
 apply vL 28 zSk YE (pz x) ak9 (EL x h);exact e _ (by simp[go_sem]) mG
def ac9{s:Vt_}{L:List (lG×Value)}(h:Rd w 29 s L.length (L.flatMap qp)){i:Nat}(hi:i<L.length):
  ∃p,(iX 410 s (gI (i:Int))).run pQ w=.ok p w/\(qE uN p).run pQ w=.ok (.agg (qp L[i]).toArray) w:=by
 obtain⟨b,a,e,c,d,f⟩:=h.item pz hi rfl;exact⟨.pointer (some ⟨b,a+i*29,none⟩),by rw[c];simp[go_sem,hi,bK,aa7],jh aSk YE (pz _) f⟩
def Zu{b:Nat}{T:TypeId}{x:lG×Value}(h:hC w b (qp x).toArray T):At w b 0 (uJ x.1.leg):=by
 have:=(At.all h).sub 0 26 (by rw[pz];omega);rw[dW,qp,aO (by rw[g9];omega),aC (by rw[g9];omega)]at this;exact this
def wl{α β:Type}{l:List α}{f:α->β}{i:Nat}(hi:i<l.length):(l.take (i+1)).map f=(l.take i).map f++[f l[i]]:=by
 rw[bR hi,aM];rfl
def CY(l:List Int)(x:Int):(l++[x]).sum=l.sum+x:=by simp
def Ef{l:List lG}(h:∀s∈l,s.ok=true):0<=(l.map lG.worst).sum/\(l.map lG.worst).sum<=l.length*12500000000000000:=by
 have:=sL (l:=l.map lG.worst) (B:=12500000000000000) λx b=>by
  obtain⟨s,a,rfl⟩:=aL.1 b;exact lG.worst_bd (h s a)
 rwa[ah]at this
def Y9{s:lG}(h:s.ok=true): -1100000000000000<=s.u/\s.u<=1100000000000000/\ -100000000000000<=s.leg.q*s.price/\s.leg.q*s.price<=100000000000000:=by
 obtain⟨h1,c,g,e,f,d⟩:=lG.okF h;have:=Eb (a:=s.leg.q) (b:=s.price) (A:=10000000) (B:=10000000) c qZ;unfold lG.u;omega
def Ql:∀{l:List lG},(∀s∈l,s.ok=true)-> -(l.length*1100000000000000:Int)<=(l.map lG.u).sum/\(l.map lG.u).sum<=l.length*1100000000000000
 | [],_=>by simp
 |s::l,h=>by
  have h1:=Y9 (h s aw);have b:=Ql (l:=l) λx a=>h x (ag _ a);rw[aI,bH,be];omega
def af1(n:Nd){W:Wt_}{p:Nat}{cs:Array Value}(h:hC W p cs zR)(e:cs.size=3):∃d,(iS zR (bO p 0) (ND n)).run pQ W=.ok () d/\hC d p (yv n).toArray zR/\aR (λb=>b=p) W d:=by
 obtain⟨a,b,c,rfl⟩:∃a b c,cs= #[a,b,c]:=by
  obtain⟨l⟩:=cs
  match l,e with
  | [a,b,c],_=>exact⟨a,b,c,rfl⟩
 refine⟨((W.setCell ⟨p,0,none⟩ (gI n.m)).setCell ⟨p,1,none⟩ (gI n.w)).setCell ⟨p,2,none⟩ (gI n.u),by simp[go_sem,h,ND,yv],by simp[go_sem,h,yv],?_⟩;exact(((aR.refl (λx=>x=p) W).sc).sc).sc
def Xd(n:Nd){W:Wt_}{p:Nat}(h:hC W p (yv n).toArray zR):(iL zR (bO p 0)).run pQ W=.ok (ND n) W:=by
 unfold yv at h;simp[go_sem,h,ND,yv]
def P6{K:aZ}{s:Vt_}{L:List (lG×Value)}(h:Rd w 29 s L.length (L.flatMap qp))(hn:L.length<=100000)
  (hL:∀x∈L,x.1.Fit/\x.1.ords.length<=1000000/\Rd w 5 x.2 x.1.ords.length (x.1.ords.flatMap dF))
  (hK:∀w',M0 w w' ->K (.tuple #[ND (pR (L.map (·.1))).1,gI (pR (L.map (·.1))).2]) w'):Ca pQ 301 #[s] w K:=by
 refine cN Tryz.func301 ?_;obtain⟨sa,sc,hs⟩:=h.isSl;have r:∀{W:Wt_},(builtin .len #[410] 3 #[false] #[s]).run pQ W=.ok (.value (gI (L.length:Int))) W:=λ{W}=>by rw[hs];simp[go_sem]
 obtain⟨p,hp0⟩:=di w.heap.size;have m1:M0 w (w.alloc (.cells (yv Iz).toArray zR)):=mG;have b1:hC (w.alloc (.cells (yv Iz).toArray zR)) p (yv Iz).toArray zR:=by rw[hp0];simp[go_sem]
 apply ao (bO p 0) (w.alloc (.cells (yv Iz).toArray zR)) (by rw[hp0];simp[go_sem,yv,Iz]);generalize w.alloc (.cells (yv Iz).toArray zR)=w1 at m1 b1|-;obtain⟨l,hl⟩:=di (L.map (·.1));rw[<-hl]at hK;have hll:l.length=L.length:=by grind
 have fin:∀(n:Nd) (e:Int) (W:Wt_),pR l=(n,e)->M0 w W->K (.tuple #[ND n,gI e]) W:=λn e W he m=>by
  have hk:=hK W m;rw[he]at hk;exact hk
 have bad:∀(e:Int) (W:Wt_) (cs:Array Value),pR l=(Iz,e)->M0 w W->hC W p cs zR->cs.size=3->
   ru pQ (iS zR (bO p 0) (ND Iz)) W λw8=>nV pQ (iL zR (bO p 0)) w8 λv9=>K (.tuple #[v9,gI e]) w8:=λe W cs he m d hc=>by
  obtain⟨W',X,b2,m2⟩:=af1 Iz d hc;refine iE X (cK (Xd Iz b2) (fin _ e W' he (m.on m2 λb d=>gr)))
 have N:∀W,(Instr.build zR #[]).run pQ W=.ok (ND Iz) W:=λW=>by simp[go_sem,ND,yv,Iz]
 apply uz r;by_cases h16:16<L.length
 ·have t:(16:Int)<(L.length:Int):=qZ;refine dY t ?_;apply bo (N _);exact bad 3 w1 _ (by unfold pR;rw[ae qZ];rfl) m1 b1 rfl
 have t:¬(16:Int)<(L.length:Int):=qZ;refine fF t ?_;apply uz r;have hpl:=aB b1
 refine d8 (λst W=>∃(i:Nat) (y sl:Vt_),i<=L.length/\st=(y,sl,gI i,())/\M0 w W/\hC W p (yv Iz).toArray zR/\LgS W sl ((l.take i).map (·.leg))/\(∀b,aF sl b->p<b)/\(l.take i).all lG.ok=true)
  (λst _=>match st.2.2.1 with| .int _ i=>L.length - i.toNat|_=>0) ⟨0,_,_,qZ,rfl,m1,b1,ic.nil _ _ _,λb d=>(by cases d),rfl⟩ ?_
 rintro⟨_,_,_,_⟩ W ⟨i,y,sl,hi,⟨⟩,q1,q2,q3,q4,q5⟩ KN hKN;refine lV ?_;intro _
 have c:pR l=if l.all lG.ok=false then(Iz,2)else if(jU (l.map (·.leg))).2≠0 then(Iz,(jU (l.map (·.leg))).2)else(⟨(jU (l.map (·.leg))).1,(l.map lG.worst).sum,max 0 (l.map lG.u).sum⟩,0):=by
  unfold pR;rw[aa qZ];rfl
 by_cases J:i<L.length
 ·have v:(i:Int)<(L.length:Int):=qZ;refine dY v ?_;obtain⟨p1,X,e2⟩:=ac9 (h.mod q1 d9) J;refine bo X (kY e2 ?_);obtain⟨x,F⟩:=di (L[i]);rw[<-F];obtain⟨x1,x2,x3⟩:=hL x (by grind);have O:l[i]'qZ=x.1:=by rw[F];simp[hl]
  obtain⟨xa,xc,P⟩:=x3.isSl;refine Wx ⟨_,_,_,P⟩ λw3 S m3=>?_;obtain⟨q,hq⟩:=di W.heap.size;rw[<-hq]at S|-;apply fH (qp x) 28 aSk YE (pz x) (At.all S);refine Vi ((x3.mod q1 d9).mod m3 d9) x2 x1 λg C=>?_;have U:=m3.trans C;have R:=C.hpk S id;refine dI ?_;rw[ay];have htk:l.take (i+1)=l.take i++[x.1]:=by rw[bR qZ,O]
  cases hok:x.1.ok with
  |false=>
   rw[ae (by simp)];apply bo (N _);refine bad 2 g _ ?_ (q1.trans U) (U.hpk q2 id) rfl;rw[c,ae];exact kz.2 ⟨x.1,by grind,by rw[hok];simp⟩
  |true=>
   rw[aa (by simp)];refine dI ?_;apply fH (uJ x.1.leg) 25 aLg nLg (g9 _) (Zu R);have o4:=q3.mod U d9;refine wj (x:=x.1.leg) (f:=uJ) ZN (dB eLg) g9 E7 rfl o4 (by grind) qZ λs' k o5 B n5=>?_;have hs4:=U.size;have hql:p<W.heap.size:=aB q2;apply ao (gI ((i+1:Nat):Int)) k (by simp[go_sem];rw[mR]);refine hKN _ _ ⟨i+1,_,s',qZ,rfl,(q1.trans U).on B λb d=>.inr (by grind),B.hpk (U.hpk q2 id) λd=>by grind,?_,λb d=>?_,?_⟩ (by grind)
   ·grind
   ·rcases n5 b d with h' |h'
    ·exact q4 b h'
    ·omega
   ·grind
 ·obtain rfl:i=L.length:=qZ;refine eU ?_;rw[aC qZ]at q3 q5;rw[q5,aa (by simp)]at c
  have hlg:∀y∈l.map (·.leg),y.spec.Fit/\ed y.q:=λy hy=>by
   obtain⟨H,Z,rfl⟩:=aL.1 hy;rw[hl]at Z;obtain⟨x,F,rfl⟩:=aL.1 Z;exact⟨(hL x F).1.1,(hL x F).1.2.1⟩
  have I:∀H∈l,H.ok=true:=λH h0=>bg.1 q5 H h0;refine Ml q3.rd (by grind) hlg λg C=>?_;obtain⟨M,hM⟩:=di (jU (l.map (·.leg)));rw[<-hM]at c|-;have R:=C.hpk q2 id;unfold yv Iz at R;refine dI ?_;refine dI ?_;refine dI ?_;refine S6 R ?_;have B:aR (λb=>b=p) g (g.setCell ⟨p,0,none⟩ (gI M.1)):=(aR.refl (λb=>b=p) g).sc;have G:hC (g.setCell ⟨p,0,none⟩ (gI M.1)) p #[.int .i64 M.1,gI 0,gI 0] zR:=by simp[go_sem,R]
  generalize g.setCell ⟨p,0,none⟩ (gI M.1)=k at B G|-;have M5:M0 w k:=(q1.trans C).on B λb d=>gr;by_cases D:M.2≠0
  ·refine dY D ?_;rw[ae D]at c;apply bo (N _);exact bad M.2 k _ c M5 G rfl
  ·have hM0:M.2=0:=by simpa using D
   refine fF hM0 ?_;rw[aa D]at c;apply uz r
   refine d8 (λst W=>∃i:Nat,i<=L.length/\st=(gI i,())/\M0 w W/\hC W p (yv ⟨M.1,((l.take i).map lG.worst).sum,((l.take i).map lG.u).sum⟩).toArray zR)
    (λst _=>match st.1 with| .int _ i=>L.length - i.toNat|_=>0) ⟨0,qZ,rfl,M5,G⟩ ?_
   rintro⟨_,_⟩ V ⟨i,hi,⟨⟩,r1,E⟩ KM hKM;refine lV ?_;intro _;by_cases J:i<L.length
   ·have v:(i:Int)<(L.length:Int):=qZ;refine dY v ?_;obtain⟨p1,X,e2⟩:=ac9 (h.mod r1 d9) J;refine bo X (kY e2 ?_);obtain⟨x,F⟩:=di (L[i]);rw[<-F];obtain⟨x1,x2,x3⟩:=hL x (by grind);have hil:i<l.length:=qZ;have O:l[i]'hil=x.1:=by rw[F];simp[hl]
    have z:x.1.ok=true:=I x.1 (by grind);obtain⟨xa,xc,P⟩:=x3.isSl;refine Wx ⟨_,_,_,P⟩ λw3 S m3=>?_;obtain⟨q,hq⟩:=di V.heap.size;rw[<-hq]at S|-;have hpq:p<q:=by rw[hq];exact aB E
    have md:M0 w3 w3.drew:=vz;have M3:=m3.trans md;have Q:=md.hpk S id;have r3:=M3.hpk E id;generalize w3.drew=w3d at md M3 Q r3|-;obtain⟨u,o⟩:∃a,a=((l.take i).map lG.worst).sum:=⟨_,rfl⟩
    obtain⟨j,A⟩:∃a,a=((l.take i).map lG.u).sum:=⟨_,rfl⟩
    rw[<-o,<-A]at r3;unfold yv at r3;have tkm:∀H∈l.take i,H.ok=true:=λH h0=>I H (bF h0);have hlen16:((l.take i).length:Int)<=16:=by grind
    have bw:=Ef tkm;have bu:=Ql tkm;rw[<-o]at bw;rw[<-A]at bu;have hxw:=lG.worst_bd z;have hxu:=Y9 z;refine sB ?_;have ld1:∀W,hC W p #[.int .i64 M.1,gI u,gI j] zR->(iL 2 (bO p 1)).run pQ W=.ok (gI u) W:=λW h=>by simp[go_sem,h]
    apply cK (ld1 _ r3);apply kA (qp x) 28 aSk YE (pz x) (At.all Q);refine NX ((x3.mod r1 d9).mod M3 d9) x1 z λg C=>?_;have r4:=C.hpk r3 id;have R:=C.hpk Q id;refine⟨ld1 _ r4,?_⟩;apply du (gI (u+x.1.worst)) (λW=>Ao ⟨qZ,qZ⟩);refine sB ?_;refine S6 r4 ?_;have B:aR (λb=>b=p) g (g.setCell ⟨p,1,none⟩ (gI (u+x.1.worst))):=(aR.refl (λb=>b=p) g).sc;have r5:hC (g.setCell ⟨p,1,none⟩ (gI (u+x.1.worst))) p #[.int .i64 M.1,gI (u+x.1.worst),gI j] zR:=by simp[go_sem,r4]
    have G:=B.hpk R qZ;generalize g.setCell ⟨p,1,none⟩ (gI (u+x.1.worst))=k at B r5 G|-;refine dN r5 ?_;refine dN r5 ?_;refine dI ?_;refine nS G Wo ?_;refine dI ?_;refine dI ?_;refine nS G Sm ?_;refine dI ?_;refine nS G KX ?_;apply ao (gI (x.1.leg.q*x.1.price)) k (by simp only[go_sem];simp;rw[mR]);apply ao (gI x.1.u) k (by unfold lG.u at hxu|-;exact FG ⟨qZ,qZ⟩);apply ao (gI (j+x.1.u)) k (Ao ⟨qZ,qZ⟩);refine dI ?_;refine S6 r5 ?_;have Y:aR (λb=>b=p) k (k.setCell ⟨p,2,none⟩ (gI (j+x.1.u))):=(aR.refl (λb=>b=p) k).sc;have T:hC (k.setCell ⟨p,2,none⟩ (gI (j+x.1.u))) p #[.int .i64 M.1,gI (u+x.1.worst),gI (j+x.1.u)] zR:=by simp[go_sem,r5]
    generalize k.setCell ⟨p,2,none⟩ (gI (j+x.1.u))=w6 at Y T|-;apply ao (gI ((i+1:Nat):Int)) w6 (by simp[go_sem];rw[mR]);refine hKM _ _ ⟨i+1,qZ,rfl,(((r1.trans M3).trans C).on B λb d=>gr).on Y λb d=>gr,?_⟩ (by grind);rw[wl hil,wl hil,CY,CY,O,<-o,<-A];exact T
   ·obtain rfl:i=L.length:=qZ;refine eU ?_;rw[aC qZ]at E;obtain⟨u,o⟩:∃a,a=(l.map lG.worst).sum:=⟨_,rfl⟩
    obtain⟨j,A⟩:∃a,a=(l.map lG.u).sum:=⟨_,rfl⟩
    rw[<-o,<-A]at E c;unfold yv at E;refine dN E ?_;refine dN E ?_;refine IF ?_;refine dI ?_;refine S6 E ?_;have Y:aR (λb=>b=p) V (V.setCell ⟨p,2,none⟩ (gI (max 0 j))):=(aR.refl (λb=>b=p) V).sc;have T:hC (V.setCell ⟨p,2,none⟩ (gI (max 0 j))) p (yv ⟨M.1,u,max 0 j⟩).toArray zR:=by simp[go_sem,E,yv]
    generalize V.setCell ⟨p,2,none⟩ (gI (max 0 j))=w6 at Y T|-;apply bo (Xd _ T);obtain⟨w7,e7,r7,m7⟩:=af1 ⟨M.1,u,max 0 j⟩ T rfl;refine iE e7 (cK (Xd _ r7) (fin _ 0 w7 c ?_));exact(r1.on Y λb d=>gr).on m7 λb d=>gr
def MR{K:aZ}{n:Nd}(h1:ed n.m)(m:ed n.w)(r:ed n.u)(o:ed n.total)
  (q:∀f,M0 w f->K (gI n.total) f):Ca pQ 258 #[ND n] w K:=by
 refine cN Tryz.func258 ?_;obtain⟨p,c⟩:=di w.heap.size;have h:M0 w (w.alloc (.cells (yv n).toArray zR)):=mG;have b:hC (w.alloc (.cells (yv n).toArray zR)) p (yv n).toArray zR:=by rw[c];simp[go_sem]
 apply ao (bO p 0) (w.alloc (.cells (yv n).toArray zR)) (by rw[c];rfl);generalize w.alloc (.cells (yv n).toArray zR)=a at h b|-;unfold yv at b;refine dI ?_;refine dN b ?_;refine dI ?_;refine dN b ?_;refine dI ?_;refine dN b ?_;refine nI [.int .i64 n.m,gI n.w,gI n.u] xQ (dB (sz:=1) (by_:=8) cV) rfl rfl (by intro v j;simp only[ax,fQ,mP]at j;rcases j with rfl|rfl|rfl<;>rfl) qZ ?_;have l:(([.int .i64 n.m,gI n.w,gI n.u]:LV_).flatMap (·.cells.toList)).toArray= #[.int .i64 n.m,gI n.w,gI n.u]:=rfl;rw[l];have e:M0 a (a.alloc (.cells #[.int .i64 n.m,gI n.w,gI n.u] 2)):=mG;have g:hC (a.alloc (.cells #[.int .i64 n.m,gI n.w,gI n.u] 2)) a.heap.size #[.int .i64 n.m,gI n.w,gI n.u] 2:=by simp[go_sem]
 generalize a.alloc (.cells #[.int .i64 n.m,gI n.w,gI n.u] 2)=k at e g|-
 have d:Rd k 1 (.slice (some ⟨a.heap.size,0,none⟩) 3 3) ([n.m,n.w,n.u]:List Int).length (([n.m,n.w,n.u]:List Int).flatMap t8):=by
  refine⟨rfl,.inr ⟨_,0,3,rfl,aD _,⟨_,_,_,g,?_,?_⟩⟩⟩
  ·simp[t8]
  ·simp[t8]
 refine Eh d (by simp) (λx i=>?_) ?_
 ·simp only[ax,fQ,mP]at i;rcases i with rfl|rfl|rfl
  ·exact h1
  ·exact m
  ·exact r
 ·have s:([n.m,n.w,n.u]:List Int).sum=n.total:=by unfold Nd.total;simp;omega
  have d:tC [n.m,n.w,n.u]=(n.total,0):=by unfold tC;rw[s,ae o]
  rw[d];refine dI ?_;refine dI ?_;refine lh ?_;exact q k (h.trans e)
section
variable{w:Wt_}{gv:Vt_}{α:Type}{xs:List α}{fv:α->Value}{asg:Value->World->(Value->World->Prop)->Prop}{Pv:α->Value->Nat->World->Prop}{body:Nat->Value->World->(World->Prop)->(Code->World->Prop)->Prop}{after:List Nat->Option Code->World->Prop}{X0:NP_}
def KE(ht:pE gv (xs.map λa=>[fv a]) w)(hasg:∀a∈xs,∀(W:Wt_) (K:Value->World->Prop),(∀O v,Pv a v W.heap.size O->M0 W O->K v O)->asg (fv a) W K)
  (hPv:∀a v q W k H,Pv a v q W->aR H W k->¬H q->Pv a v q k)
  (I:(Nat->Prop)->Nat->World->Prop)(Ex:Code->(Nat->Prop)->World->Prop)
  (D:∀X i W k H,I X i W->aR H W k->(∀b,X b->¬H b)->I X i k)
  (hsx:∀c X W k H,Ex c X W->aR H W k->(∀b,X b->¬H b)->Ex c X k)
  (R:∀b,X0 b->b<w.heap.size)(h0:I X0 0 w)
  (F:∀X i (hi:i<xs.length) W q v,I X i W->aR X0 w W->(∀b,X b->b<q/\(X0 b\/w.heap.size+1<b))->w.heap.size+1<q->q<=W.heap.size->Pv xs[i] v q W->(∃r,hp W (w.heap.size+1)=some (.loop r))->∀KN KJ,
   (∀y k,I y (i+1) k->aR (λb=>X b\/q<=b) W k->(∀b,y b->(X b\/W.heap.size<=b)/\b<k.heap.size)->KN k)->
   (∀c y k,Ex c y k->aR (λb=>X b\/q<=b) W k->(∀b,y b->(X b\/W.heap.size<=b)/\b<k.heap.size)->KJ c k)->body (w.heap.size+1) v W KN KJ)
  (hend:∀X W d,d=w.heap.size->I X xs.length W->aR X0 w W->hp W d=some (.deferred (some []))->(∀b,X b->b<W.heap.size/\(X0 b\/d+1<b))->after [d] none W)
  (Z:∀c X W d,d=w.heap.size->Ex c X W->aR X0 w W->hp W d=some (.deferred (some []))->(∀b,X b->b<W.heap.size/\(X0 b\/d+1<b))->after [d] (some c) W):
  FO pQ none gv w 1 (λl x W KN KJ=>asg (x.getD 0 undef) W λv O=>qt l O λw3=>body l v w3 KN KJ) after:=by
 obtain⟨⟨Ok,hit,hok⟩,-⟩:=ht;obtain⟨f,first,captured,rfl,hit0⟩:=hit.out;apply t0.2;show∀m:Loop,_;intro m s M hD hY;obtain⟨d,z⟩:=di w.heap.size;rw[<-z]at F;have V:(w.alloc (.deferred (some []))).heap.size=d+1:=by rw[cw,z]
 obtain⟨wr,G⟩:=di ((w.alloc (.deferred (some []))).alloc (.loop m));have U:wr.heap[d+1]? =some (.loop m):=by rw[G,er,ae V.symm]
 have hszr:wr.heap.size=d+2:=by rw[G,cw,V]
 have Y:hp wr d=some (.deferred (some [])):=by rw[G];simp[go_sem,z]
 have hmr:M0 w wr:=by rw[G];exact mG.alloc _
 have p:∀(W:Wt_) (o:Obj),aR (λb=>b=d+1) W (W.putObj (d+1) o):=λW o=>(aR.refl (λb=>b=d+1) W).putObj (b:=d+1) (.inl rfl) o;rw[V]at hY|-;rw[<-G];let J:(Nat->Prop)->Nat->World->Prop:=λQ i W=>∃X,I X i W/\aR X0 w W/\hp W d=some (.deferred (some []))/\(∀b,X b->b<W.heap.size/\(X0 b\/d+1<b)/\¬Q b)/\W.heap[d+1]? =some (.loop m)/\∀b,Q b->d+1<b/\b<W.heap.size;let Js:(Nat->Prop)->World->Prop:=λQ W=>∃c X r,Ex c X W/\aR X0 w W/\hp W d=some (.deferred (some []))/\(∀b,X b->b<W.heap.size/\(X0 b\/d+1<b)/\¬Q b)/\W.heap[d+1]? =some (.loop r)/\(∀b,Q b->d+1<b/\b<W.heap.size)/\r.state=.done/\r.pending=some c;refine hit0 _ J Js _ _ (hok _ hmr) ?_ ?_ ?_ ?_ ?_ ?_
 ·intro Q W1 j hQ;refine⟨X0,D _ _ _ _ _ h0 (hmr.trans j) d9,(hmr.trans j).to,j.hpk Y id,λb g=>?_,j.keep U id,λb g=>?_⟩
  ·have h1:=R b g;have L:=j.size;exact⟨qZ,.inl g,λhq=>by grind⟩
  ·have:=hQ b g;omega
 ·rintro Q Q' i W k ⟨X,h1,L,P,n,B,T⟩ j N;have hl:=aB B;refine⟨X,D _ _ _ _ _ h1 j λb g=>(n b g).2.2,L.on j λb g=>.inr (by grind),j.hpk P λg=>by grind,λb g=>?_,j.keep B λg=>by grind,λb g=>?_⟩
  ·have u:=n b g;refine⟨bI u.1 j.size,u.2.1,λhq=>?_⟩;rcases(N b hq).1 with h|h
   ·exact u.2.2 h
   ·have:=u.1;omega
  ·have u:=N b g;refine⟨?_,u.2⟩;rcases u.1 with h|h
   ·exact(T b h).1
   ·omega
 ·rintro Q Q' W k ⟨c,X,r,h1,L,P,n,B,T,h7⟩ j N;have hl:=aB B;refine⟨c,X,r,hsx _ _ _ _ _ h1 j λb g=>(n b g).2.2,L.on j λb g=>.inr (by grind),j.hpk P λg=>by grind,λb g=>?_,j.keep B λg=>by grind,λb g=>?_,h7⟩
  ·have u:=n b g;refine⟨bI u.1 j.size,u.2.1,λhq=>?_⟩;rcases(N b hq).1 with h|h
   ·exact u.2.2 h
   ·have:=u.1;omega
  ·have u:=N b g;refine⟨?_,u.2⟩;rcases u.1 with h|h
   ·exact(T b h).1
   ·omega
 ·rintro Q i x W C ⟨X,h1,L,P,n,B,T⟩ K' hT hF;apply kf.2;show Yl pQ (d+1) ⟨_⟩ W K';have e1:(#[]:Array Value).toList++x=x:=rfl;rw[e1]
  obtain⟨hi,rfl⟩:∃hi:i<xs.length,x=[fv xs[i]]:=by
   rw[cz]at C;cases hh:xs[i]? with
   |none=>rw[hh]at C;cases C
   |some o=>
    obtain⟨hj,he⟩:=aJ.1 hh;rw[hh]at C;exact⟨hj,by grind⟩
  apply hY _ W K' rfl ⟨m.state,m.pending,B⟩;obtain⟨q,hq0⟩:=di W.heap.size;refine hasg xs[i] (aq hi) W _ λO v v3 v4=>?_;rw[<-hq0]at v3;have r2:O.heap[d+1]? =some (.loop m):=v4.keep B id;apply rI r2 s;have m3:=p O (.loop {m with state:=.busy});have r3:(O.putObj (d+1) (.loop {m with state:=.busy})).heap[d+1]? =some (.loop {m with state:=.busy}):=by rw[dR,ae rfl,r2];rfl
  generalize O.putObj (d+1) (.loop {m with state:=.busy})=w3 at m3 r3|-;have hdl:d+1<q:=by grind
  have q3:=hPv _ _ _ _ _ _ v3 m3 qZ;have hw3:=m3.size;have hw4:=v4.size;have M3:aR (λb=>b=d+1) W w3:=(v4.to).trans m3;have hXq:∀b,X b->b<q/\(X0 b\/d+1<b):=λb g=>⟨by grind,(n b g).2.1⟩
  have t:∀b,X b->b≠d+1/\b≠d:=λb g=>by
   rcases(n b g).2.1 with h|h
   ·have:=R b h;omega
   ·omega
  have E:∀(k:Wt_) (y:NP_) (o:Obj),aR (λb=>X b\/q<=b) w3 k->(∀b,y b->(X b\/w3.heap.size<=b)/\b<k.heap.size)->
    aR X0 w (k.putObj (d+1) o)/\hp (k.putObj (d+1) o) d=some (.deferred (some []))/\(∀b,y b->b<(k.putObj (d+1) o).heap.size/\(X0 b\/d+1<b)/\¬Q b)/\(∀b,Q b->d+1<b/\b<(k.putObj (d+1) o).heap.size)/\
    (∀b,Q b->(k.putObj (d+1) o).heap[b]? =W.heap[b]?)/\W.heap.size<=(k.putObj (d+1) o).heap.size/\k.heap[d+1]? =some (.loop {m with state:=.busy}):=by
   intro k y o j A;have S:=p k o;have hsW:=j.size;have hsP:=S.size;refine⟨?_,S.hpk (j.hpk (m3.hpk (v4.hpk P id) qZ) λg=>g.elim (λg=>(t _ g).2 rfl) λg=>qZ) qZ,λb g=>?_,λb g=>?_,λb g=>?_,qZ,j.keep r3 λg=>g.elim (λg=>(t _ g).1 rfl) λg=>qZ⟩
   ·refine(((L.on M3 λb g=>gr).on j λb g=>?_)).on S λb g=>gr;rcases g with g|g
    ·rcases(n b g).2.1 with h|h
     ·exact .inl h
     ·exact gr
    ·exact gr
   ·have u:=A b g;refine⟨qZ,?_,λhq=>?_⟩
    ·rcases u.1 with h|h
     ·exact(n b h).2.1
     ·exact gr
    ·rcases u.1 with h|h
     ·exact(n b h).2.2 hq
     ·grind
   ·have:=T b g;omega
   ·have hb' :=T b g;rw[S.blk b qZ qZ,j.blk b qZ λC=>C.elim (λC=>(n b C).2.2 g) λC=>qZ,M3.blk b hb'.2 qZ]
  refine F X i hi w3 q v (D _ _ _ _ _ h1 M3 λb g=>(t b g).1) (L.on M3 λb g=>gr) hXq qZ qZ q3 ⟨_,r3⟩ _ _ ?_ ?_
  ·intro y k hI' j A;obtain⟨k1,k2,k3,k4,k5,k6,k7⟩:=E k y (.loop {{m with state:=.busy}with state:=.ready,pending:=none}) j A;refine⟨_,k7,hT _ ⟨y,?_,k1,k2,k3,?_,k4⟩ k6 k5⟩
   ·refine D _ _ _ _ _ hI' (p k _) λb g e=>?_;rcases(A b g).1 with h|h
    ·exact(t b h).1 e
    ·omega
   ·rw[dR,ae rfl,k7];simp[<-s,<-M]
  ·intro c y k hI' j A;obtain⟨k1,k2,k3,k4,k5,k6,k7⟩:=E k y (.loop {{m with state:=.busy}with state:=.done,pending:=some c}) j A;refine⟨_,k7,hF _ ⟨c,y,{m with state:=.done,pending:=some c},?_,k1,k2,k3,?_,k4,rfl,rfl⟩ k6 k5⟩
   ·refine hsx _ _ _ _ _ hI' (p k _) λb g e=>?_;rcases(A b g).1 with h|h
    ·exact(t b h).1 e
    ·omega
   ·rw[dR,ae rfl,k7];rfl
 ·rintro Q W ⟨X,h1,L,P,n,B,T⟩;refine⟨m,B,by rw[s];decide,?_⟩;rw[<-z];have j:=p W (.loop {m with state:=.exhausted});generalize W.putObj (d+1) (.loop {m with state:=.exhausted})=W8 at j|-;rw[M]
  have t:∀b,X b->b≠d+1:=λb g=>by
   rcases(n b g).2.1 with h|h
   ·have:=R b h;omega
   ·omega
  refine hend X _ d z ?_ (L.on j λb g=>gr) (j.hpk P qZ) λb g=>⟨bI (n b g).1 j.size,(n b g).2.1⟩
  have C:I X xs.length W:=by grind
  exact D _ _ _ _ _ C j λb g=>t b g
 ·rintro Q W ⟨c,X,r,h1,L,P,n,B,T,h7,h8⟩;refine⟨r,B,by rw[h7];decide,?_⟩;rw[<-z];have j:=p W (.loop {r with state:=.exhausted});generalize W.putObj (d+1) (.loop {r with state:=.exhausted})=W8 at j|-;rw[h8]
  have t:∀b,X b->b≠d+1:=λb g=>by
   rcases(n b g).2.1 with h|h
   ·have:=R b h;omega
   ·omega
  exact Z c X _ d z (hsx _ _ _ _ _ h1 j λb g=>t b g) (L.on j λb g=>gr) (j.hpk P qZ) λb g=>⟨bI (n b g).1 j.size,(n b g).2.1⟩
def Qm(D:pE gv (xs.map λa=>[fv a]) w)(s:∀a∈xs,∀(W:Wt_) (K:Value->World->Prop),(∀t v,Pv a v W.heap.size t->M0 W t->K v t)->asg (fv a) W K)
  (A:∀a v q W e H,Pv a v q W->aR H W e->¬H q->Pv a v q e)
  (I:(Nat->Prop)->Nat->World->Prop)(p:Code->(Nat->Prop)->World->Prop)
  (y:∀X i W e H,I X i W->aR H W e->(∀b,X b->¬H b)->I X i e)
  (z:∀c X W e H,p c X W->aR H W e->(∀b,X b->¬H b)->p c X e)
  (u:∀b,X0 b->b<w.heap.size)(E:I X0 0 w)
  (g:∀X i (hi:i<xs.length) W q v,I X i W->aR X0 w W->(∀b,X b->b<q/\(X0 b\/w.heap.size+1<b))->w.heap.size+1<q->q<=W.heap.size->Pv xs[i] v q W->(∃r,hp W (w.heap.size+1)=some (.loop r))->∀k n,
   (∀f e,I f (i+1) e->aR X W e->(∀b,f b->(X b\/W.heap.size<=b)/\b<e.heap.size)->k e)->
   (∀c f e,p c f e->aR X W e->(∀b,f b->(X b\/W.heap.size<=b)/\b<e.heap.size)->n c e)->body (w.heap.size+1) v W k n)
  (o:∀X W d,d=w.heap.size->I X xs.length W->aR X0 w W->hp W d=some (.deferred (some []))->(∀b,X b->b<W.heap.size/\(X0 b\/d+1<b))->after [d] none W)
  (j:∀c X W d,d=w.heap.size->p c X W->aR X0 w W->hp W d=some (.deferred (some []))->(∀b,X b->b<W.heap.size/\(X0 b\/d+1<b))->after [d] (some c) W):
  FO pQ none gv w 1 (λl x W k n=>asg (x.getD 0 undef) W λv t=>qt l t λB=>body l v B k n) after:=
 KE D s A I p y z u E (λX i hi W q v M N F J G L C k n k1 k2=>g X i hi W q v M N F J G L C k n (λf e x m h=>k1 f e x (m.mono λ_ _ h=>.inl h) h) λc f e x m h=>k2 c f e x (m.mono λ_ _ h=>.inl h) h) o j
def Lj{l0:Nat}(hl0:∃r,hp w l0=some (.loop r))(ht:pE gv (xs.map λa=>[fv a]) w)(hasg:∀a∈xs,∀(W:Wt_) (K:Value->World->Prop),(∀M v,Pv a v W.heap.size M->M0 W M->K v M)->asg (fv a) W K)
  (hPv:∀a v q W j H,Pv a v q W->aR H W j->¬H q->Pv a v q j)
  (I:(Nat->Prop)->Nat->World->Prop)(Ex:Code->(Nat->Prop)->World->Prop)
  (B:∀X i W j H,I X i W->aR H W j->(∀b,X b->¬H b)->I X i j)
  (hsx:∀c X W j H,Ex c X W->aR H W j->(∀b,X b->¬H b)->Ex c X j)
  (P:∀b,X0 b->b<w.heap.size)(h0:I X0 0 w)
  (D:∀X i (hi:i<xs.length) W q v,I X i W->aR X0 w W->(∀b,X b->b<q/\(X0 b\/w.heap.size<b))->w.heap.size<q->q<=W.heap.size->Pv xs[i] v q W->∀KN KJ,
   (∀y j,I y (i+1) j->aR X W j->(∀b,y b->(X b\/W.heap.size<=b)/\b<j.heap.size)->KN j)->
   (∀c y j,Ex c y j->aR X W j->(∀b,y b->(X b\/W.heap.size<=b)/\b<j.heap.size)->KJ c j)->body w.heap.size v W KN KJ)
  (S:∀X W,I X xs.length W->aR X0 w W->(∀b,X b->b<W.heap.size/\(X0 b\/w.heap.size<b))->after [] none W)
  (G:∀c X W,Ex c X W->aR X0 w W->(∀b,X b->b<W.heap.size/\(X0 b\/w.heap.size<b))->after [] (some c) W):
  FO pQ (some l0) gv w 1 (λl x W KN KJ=>asg (x.getD 0 undef) W λv M=>qt l M λw3=>body l v w3 KN KJ) after:=by
 obtain⟨⟨Ok,hit,hok⟩,-⟩:=ht;obtain⟨f,first,captured,rfl,hit0⟩:=hit.out;apply t0.2;obtain⟨r0,hr0⟩:=hl0;refine⟨r0,hr0,?_⟩;show∀k:Loop,_;intro k s F hD hY;obtain⟨d,O⟩:=di w.heap.size;rw[<-O]at D;obtain⟨wr,N⟩:=di (w.alloc (.loop k));have U:wr.heap[d]? =some (.loop k):=by rw[N,er,ae O]
 have hszr:wr.heap.size=d+1:=by rw[N,cw,<-O]
 have Z:M0 w wr:=by rw[N];exact(aR.refl _ w).alloc _
 have p:∀(W:Wt_) (o:Obj),aR (λb=>b=d) W (W.putObj d o):=λW o=>(aR.refl (λb=>b=d) W).putObj (b:=d) (.inl rfl) o;rw[<-O]at hY S G|-;rw[<-N];let J:(Nat->Prop)->Nat->World->Prop:=λQ i W=>∃X,I X i W/\aR X0 w W/\(∀b,X b->b<W.heap.size/\(X0 b\/d<b)/\¬Q b)/\W.heap[d]? =some (.loop k)/\∀b,Q b->d<b/\b<W.heap.size;let Js:(Nat->Prop)->World->Prop:=λQ W=>∃c X r,Ex c X W/\aR X0 w W/\(∀b,X b->b<W.heap.size/\(X0 b\/d<b)/\¬Q b)/\W.heap[d]? =some (.loop r)/\(∀b,Q b->d<b/\b<W.heap.size)/\r.state=.done/\r.pending=some c;refine hit0 _ J Js _ _ (hok _ Z) ?_ ?_ ?_ ?_ ?_ ?_
 ·intro Q W1 m hQ;refine⟨X0,B _ _ _ _ _ h0 (Z.trans m) d9,(Z.trans m).to,λb g=>?_,m.keep U id,λb g=>?_⟩
  ·have h1:=P b g;have E:=m.size;exact⟨qZ,.inl g,λhq=>by grind⟩
  ·have:=hQ b g;omega
 ·rintro Q Q' i W j ⟨X,h1,E,n,A,T⟩ m L;have hl:=aB A;refine⟨X,B _ _ _ _ _ h1 m λb g=>(n b g).2.2,E.on m λb g=>.inr (by grind),λb g=>?_,m.keep A λg=>by grind,λb g=>?_⟩
  ·have t:=n b g;refine⟨bI t.1 m.size,t.2.1,λhq=>?_⟩;rcases(L b hq).1 with h|h
   ·exact t.2.2 h
   ·have:=t.1;omega
  ·have t:=L b g;refine⟨?_,t.2⟩;rcases t.1 with h|h
   ·exact(T b h).1
   ·omega
 ·rintro Q Q' W j ⟨c,X,r,h1,E,n,A,T,h7⟩ m L;have hl:=aB A;refine⟨c,X,r,hsx _ _ _ _ _ h1 m λb g=>(n b g).2.2,E.on m λb g=>.inr (by grind),λb g=>?_,m.keep A λg=>by grind,λb g=>?_,h7⟩
  ·have t:=n b g;refine⟨bI t.1 m.size,t.2.1,λhq=>?_⟩;rcases(L b hq).1 with h|h
   ·exact t.2.2 h
   ·have:=t.1;omega
  ·have t:=L b g;refine⟨?_,t.2⟩;rcases t.1 with h|h
   ·exact(T b h).1
   ·omega
 ·rintro Q i x W R ⟨X,h1,E,n,A,T⟩ K' hT hF;apply kf.2;show Yl pQ (d) ⟨_⟩ W K';have e1:(#[]:Array Value).toList++x=x:=rfl;rw[e1]
  obtain⟨hi,rfl⟩:∃hi:i<xs.length,x=[fv xs[i]]:=by
   rw[cz]at R;cases hh:xs[i]? with
   |none=>rw[hh]at R;cases R
   |some o=>
    obtain⟨hj,he⟩:=aJ.1 hh;rw[hh]at R;exact⟨hj,by grind⟩
  apply hY _ W K' rfl ⟨k.state,k.pending,A⟩;obtain⟨q,hq0⟩:=di W.heap.size;refine hasg xs[i] (aq hi) W _ λM v v3 v4=>?_;rw[<-hq0]at v3;have r2:M.heap[d]? =some (.loop k):=v4.keep A id;apply rI r2 s;have m3:=p M (.loop {k with state:=.busy});have r3:(M.putObj (d) (.loop {k with state:=.busy})).heap[d]? =some (.loop {k with state:=.busy}):=by rw[dR,ae rfl,r2];rfl
  generalize M.putObj (d) (.loop {k with state:=.busy})=w3 at m3 r3|-;have hdl:d<q:=by grind
  have q3:=hPv _ _ _ _ _ _ v3 m3 qZ;have hw3:=m3.size;have hw4:=v4.size;have M3:aR (λb=>b=d) W w3:=(v4.to).trans m3;have hXq:∀b,X b->b<q/\(X0 b\/d<b):=λb g=>⟨by grind,(n b g).2.1⟩
  have u:∀b,X b->b≠d/\b≠d:=λb g=>by
   rcases(n b g).2.1 with h|h
   ·have:=P b h;omega
   ·omega
  have C:∀(j:Wt_) (y:NP_) (o:Obj),aR X w3 j->(∀b,y b->(X b\/w3.heap.size<=b)/\b<j.heap.size)->
    aR X0 w (j.putObj (d) o)/\(∀b,y b->b<(j.putObj (d) o).heap.size/\(X0 b\/d<b)/\¬Q b)/\(∀b,Q b->d<b/\b<(j.putObj (d) o).heap.size)/\
    (∀b,Q b->(j.putObj (d) o).heap[b]? =W.heap[b]?)/\W.heap.size<=(j.putObj (d) o).heap.size/\j.heap[d]? =some (.loop {k with state:=.busy}):=by
   intro j y o m z;have Y:=p j o;have hsW:=m.size;have hsP:=Y.size;refine⟨?_,λb g=>?_,λb g=>?_,λb g=>?_,qZ,m.keep r3 λg=>(u _ g).1 rfl⟩
   ·refine(((E.on M3 λb g=>gr).on m λb g=>?_)).on Y λb g=>gr;rcases(n b g).2.1 with h|h
    ·exact .inl h
    ·exact gr
   ·have t:=z b g;refine⟨qZ,?_,λhq=>?_⟩
    ·rcases t.1 with h|h
     ·exact(n b h).2.1
     ·exact gr
    ·rcases t.1 with h|h
     ·exact(n b h).2.2 hq
     ·grind
   ·have:=T b g;omega
   ·have hb' :=T b g;rw[Y.blk b qZ qZ,m.blk b qZ λR=>(n b R).2.2 g,M3.blk b hb'.2 qZ]
  refine D X i hi w3 q v (B _ _ _ _ _ h1 M3 λb g=>(u b g).1) (E.on M3 λb g=>gr) hXq qZ qZ q3 _ _ ?_ ?_
  ·intro y j V m z;obtain⟨k1,k3,k4,k5,k6,k7⟩:=C j y (.loop {{k with state:=.busy}with state:=.ready,pending:=none}) m z;refine⟨_,k7,hT _ ⟨y,?_,k1,k3,?_,k4⟩ k6 k5⟩
   ·refine B _ _ _ _ _ V (p j _) λb g e=>?_;rcases(z b g).1 with h|h
    ·exact(u b h).1 e
    ·omega
   ·rw[dR,ae rfl,k7];simp[<-s,<-F]
  ·intro c y j V m z;obtain⟨k1,k3,k4,k5,k6,k7⟩:=C j y (.loop {{k with state:=.busy}with state:=.done,pending:=some c}) m z;refine⟨_,k7,hF _ ⟨c,y,{k with state:=.done,pending:=some c},?_,k1,k3,?_,k4,rfl,rfl⟩ k6 k5⟩
   ·refine hsx _ _ _ _ _ V (p j _) λb g e=>?_;rcases(z b g).1 with h|h
    ·exact(u b h).1 e
    ·omega
   ·rw[dR,ae rfl,k7];rfl
 ·rintro Q W ⟨X,h1,E,n,A,T⟩;refine⟨k,A,by rw[s];decide,?_⟩;have m:=p W (.loop {k with state:=.exhausted});generalize W.putObj (d) (.loop {k with state:=.exhausted})=W8 at m|-;rw[F]
  have u:∀b,X b->b≠d:=λb g=>by
   rcases(n b g).2.1 with h|h
   ·have:=P b h;omega
   ·omega
  refine S X _ ?_ (E.on m λb g=>gr) λb g=>⟨bI (n b g).1 m.size,(n b g).2.1⟩
  have R:I X xs.length W:=by grind
  exact B _ _ _ _ _ R m λb g=>u b g
 ·rintro Q W ⟨c,X,r,h1,E,n,A,T,h7,h8⟩;refine⟨r,A,by rw[h7];decide,?_⟩;have m:=p W (.loop {r with state:=.exhausted});generalize W.putObj (d) (.loop {r with state:=.exhausted})=W8 at m|-;rw[h8]
  have u:∀b,X b->b≠d:=λb g=>by
   rcases(n b g).2.1 with h|h
   ·have:=P b h;omega
   ·omega
  exact G c X _ (hsx _ _ _ _ _ h1 m λb g=>u b g) (E.on m λb g=>gr) λb g=>⟨bI (n b g).1 m.size,(n b g).2.1⟩
end
end Go.Proofs
namespace Go.Proofs
open Go Go.Vc
attribute [local congr] bj
def xM:Tryz.prog.underlying 90=some (.map 45 121):=cV
def rj:Tryz.prog.underlying 91=some (.map 45 146):=cV
def T9:lT pQ 121=some (.pointer none):=cV
def Bi:lT pQ 146=some gm:=cV
section
variable{v c l mb md:Nat}{n:Int}
abbrev wC(W:Wt_)(v c l mb md:Nat)(n:Int):Prop:=hC W v #[fO c,eP l,.map (some mb),.map (some md),gQ n] A6
def ld0(W:Wt_)(h:wC W v c l mb md n):(iL 86 (bO v 0)).run pQ W=.ok (fO c) W:=by simp[go_sem,h,fO]
def ld1(W:Wt_)(h:wC W v c l mb md n):(iL 88 (bO v 1)).run pQ W=.ok (eP l) W:=by simp[go_sem,h,eP]
def ld2(W:Wt_)(h:wC W v c l mb md n):(iL 90 (bO v 2)).run pQ W=.ok (.map (some mb)) W:=by simp[go_sem,h]
def Xq(W:Wt_)(h:wC W v c l mb md n):(iL 91 (bO v 3)).run pQ W=.ok (.map (some md)) W:=by simp[go_sem,h]
def ld4(W:Wt_)(h:wC W v c l mb md n):(iL 37 (bO v 4)).run pQ W=.ok (gQ n) W:=by simp[go_sem,h]
def uY(i:Nat)(hi:i<5)(W:Wt_):(iF A6 (bO v 0) i).run pQ W=.ok (bO v i) W:=by
 rcases(show i=0\/i=1\/i=2\/i=3\/i=4 by omega)with rfl|rfl|rfl|rfl|rfl<;>simp[go_sem]
end
def Nx{w:Wt_}{K:aZ}{v c l mb md:Nat}{n:Int}(h:wC w v c l mb md n)(a:K (.bool true) w):Ca pQ 42 #[ec v] w K:=by
 unfold ec;refine cN Tryz.func42 ?_;refine lh ?_;simp only[bU];refine bo (uY 1 qZ _) (bo (ld1 _ h) ?_);apply ao (.bool true) w (by simp[go_sem,eP]);exact a
def cpy(S:bt)(C:List (Int×Nat))(D:List (Int×Value)):bt:=
 {S with bk:=λn=>if(lk C n).isSome then S.bk n else Bk.empty,bd:=λn=>if(lk D n).isSome then S.bd n else []}
def U2{w W:Wt_}{K:aZ}{S:bt}{c l mb md:Nat}{k Fl:NP_}{ac o al r:Nat}(m:M0 w W)(C:mC W c k S.cal)(z:iw W l Fl S.led)(A:eM eY fi W mb ([]:List (Int×Nat)))(B:eM eY yr W md ([]:List (Int×Value)))
  (bc:∀x,k x->ac<=x/\x<o)(g:∀x,Fl x->al<=x/\x<r)(I:w.heap.size<=ac/\w.heap.size<=al/\w.heap.size<=mb/\w.heap.size<=md)
  (d1:o<=al\/r<=ac)(d2:mb<ac\/o<=mb)(d3:md<ac\/o<=md)(N:mb<al\/r<=mb)(L:md<al\/r<=md)(J:mb≠md)
  (G:∀y s i,rF s y c l mb md [] [] i (cpy S [] [])->M0 w s->(∀p x,i p x->w.heap.size<=x)->K (ec y) s):
  rv pQ (Instr.box A6 (.agg #[fO c,eP l,.map (some mb),.map (some md),gQ S.next])) W K:=by
 obtain⟨v,D⟩:=di W.heap.size;have f:M0 W (W.alloc (.cells #[fO c,eP l,.map (some mb),.map (some md),gQ S.next] A6)):=mG;have u:wC (W.alloc (.cells #[fO c,eP l,.map (some mb),.map (some md),gQ S.next] A6)) v c l mb md S.next:=by show hp _ _=_;rw[D];simp[go_sem]
 apply ao (ec v) (W.alloc (.cells #[fO c,eP l,.map (some mb),.map (some md),gQ S.next] A6)) (by rw[D];rfl);generalize W.alloc (.cells #[fO c,eP l,.map (some mb),.map (some md),gQ S.next] A6)=H at f u|-;let j:Pt->Nat->Prop:=λp=>match p with| .v=>λx=>x=v| .cal=>k| .led=>Fl| .mb=>λx=>x=mb| .md=>λx=>x=md| .bk _=>λ_=>False| .bd _=>λ_=>False
 have t:∀x,k x->x<W.heap.size:=λx e=>C.lt e;have E:∀x,Fl x->x<W.heap.size:=λx e=>z.lt e;have M:=A.lt;have ld:=B.lt;refine G v H j {blk:=u,cal:=C.mod f d9,led:=z.mod f d9,mbk:=A.mod f id,mbd:=B.mod f id,bk:=λn b F=>(by cases F),nbk:=λn _=>⟨rfl,λ_ h=>h⟩,bd:=λn=>ic.nil _ _ _,fv:=λ_=>aG,fmb:=λ_=>aG,fmd:=λ_=>aG,fbd:=λn x=>⟨λh=>h.elim,λh=>(by cases h)⟩,dj:=?_} (m.trans f) ?_
 ·have key:∀p q x,j p x->j q x->(match p,q with| .v,.v=>True| .cal,.cal=>True| .led,.led=>True| .mb,.mb=>True| .md,.md=>True|_,_=>False):=by
   intro p q x hp d;cases p<;>cases q<;>first|trivial|exact hp.elim|exact d.elim|skip
   all_goals (simp only[j]at hp d)
   all_goals first
    |(have a:=bc x hp;have b:=g x d;omega)
    |(have a:=g x hp;have b:=bc x d;omega)
    |(have a:=bc x hp;have b:=t x hp;omega)
    |(have a:=g x hp;have b:=E x hp;omega)
    |(have a:=bc x d;have b:=t x d;omega)
    |(have a:=g x d;have b:=E x d;omega)
    |omega
  intro p q x hp d;have:=key p q x hp d;cases p<;>cases q<;>first|rfl|exact this.elim|exact hp.elim|exact d.elim
 ·intro p x e;cases p
  ·grind
  ·have:=bc x e;omega
  ·have:=g x e;omega
  ·grind
  ·grind
  ·exact e.elim
  ·exact e.elim
def Ug(S:bt):cpy S [] []={S with bk:=λ_=>Bk.empty,bd:=λ_=>[]}:=rfl
end Go.Proofs
namespace Go.Proofs
open Go Go.Vc
attribute [local congr] bj
def KW{c a b:LV_}{off:Nat}(h:off+a.length+b.length<=c.length):jp (jp c off a) (off+a.length) b=jp c off (a++b):=by
 unfold jp;have h1:(c.take off).length=off:=by grind
 have d:(c.take off++a).length=off+a.length:=by grind
 rw[List.take_left' d,nH,cn qZ,dL,cL,af];have e:off+a.length+(off+a.length+b.length - ((List.take off c).length+a.length))=off+(a++b).length:=by grind
 rw[e,ar (List.take off c) a b]
def vw:∀vs:List Value,(vs.flatMap λv=>v.cells.toList).length=(vs.map λv=>v.cells.size).sum
 | []=>rfl
 |v::vs=>by rw[bm,af,vw vs,aI,bH];simp
def xX{place:Nat->Option (Nat×Nat)}:∀(vs:LV_) (d:List Nat) (k off:Nat) (c:LV_),vs.map (λv=>v.cells.size)=d->(∀j (h:j<d.length),place (k+j)=some (off+(d.take j).sum,d[j]))->off+d.sum<=c.length->
  Instr.fill place c.toArray ((vs.zipIdx k).map λp=>(p.2,p.1))=some (jp c off (vs.flatMap λv=>v.cells.toList)).toArray
 | [],d,k,off,c,h1,_,m=>by
  show some c.toArray=_;unfold jp;simp
 |v::vs,d,k,off,c,h1,e,m=>by
  cases d with
  |nil=>simp at h1
  |cons s d=>
  rw[aI]at h1;injection h1 with n i;rw[bH]at m;have f:=e 0 (by simp);simp only[cU,List.sum_nil,cB,eW]at f;rw[nM,aI];rw[qi f n qZ];have o:v.cells.toList.length=s:=by rw[<-n];simp
  rw[xX vs d (k+1) (off+s) _ i (λj q=>?_) (by rw[sg qZ];omega)]
  ·have g:(vs.flatMap λv=>v.cells.toList).length=d.sum:=by rw[vw,i]
   have:=KW (c:=c) (off:=off) (a:=v.cells.toList) (b:=vs.flatMap λv=>v.cells.toList) qZ;rw[o]at this;rw[this,bm]
  ·have:=e (j+1) (by simp;omega);rw[show k+1+j=k+(j+1) by omega,this];simp only[ij,bH,iB];congr 2;omega
abbrev vg:TypeId:=42
def O0(r:Rp)(sT sG sA:Vt_):Value:=.agg #[.int .i64 r.err,gQ r.num,gI r.filled,gI r.left,sT,sG,sA]
def rpC(r:Rp)(sT sG sA:Vt_):List Value:=[.int .i64 r.err,gQ r.num,gI r.filled,gI r.left,sT,sG,sA]
abbrev Cu(n:Int):List Value:=[.int .u32 n]
def Xl:(∃a n c,gm=.slice a n c):=⟨none,0,0,rfl⟩
section
variable{w:Wt_}{K:aZ}{v c l mb md:Nat}{A:List (Int×Nat)}{D:List (Int×Value)}{fp:Pt->Nat->Prop}{S:bt}
def lkB(h:qs w v c l mb md A D fp S){n:Int}(d:(cj S.cal.l n).isSome=true):∃b,lk A n=some b/\gg w b (fp (.bk n)) (S.bk n):=by
 have:=h.dom n;rw[d]at this;cases a:lk A n with
 |none=>rw[a]at this;cases this
 |some b=>exact⟨b,rfl,h.bk n b a⟩
def WC(b:sy S)(n a:Int):(0<=(S.opn n a).1/\(S.opn n a).1<=250000000)/\0<=(S.opn n a).2/\(S.opn n a).2<=250000000:=by
 have h:(S.bk n).all.length<=200:=by
  unfold Bk.all;rw[af];have:=(b.side n true).1;have:=(b.side n false).1;omega
 have g:∀o∈(S.bk n).all,1<=o.left/\o.left<=1000000:=λo f=>by
  obtain⟨d,i⟩:=rA.1 f;exact Od.left_bd ((b.bkMay n d o i).1)
 have e:∀o∈S.bd n,1<=o.left/\o.left<=1000000:=λo f=>Od.left_bd (b.bdMay n o f);have j:=b.bdl n;have m:=sZ (a:=a) (buy:=true) g;have q:=sZ (a:=a) (buy:=false) g;have p:=sZ (a:=a) (buy:=true) e;have k:=sZ (a:=a) (buy:=false) e;unfold bt.opn uT;simp only;omega
def ZF(p:Po)(W:Wt_):(Instr.field 124 (nh p) 2).run pQ W=.ok (gI p.q) W:=by
 simp[Instr.field,go_sem,part,isAgg,asAgg,nh]
def Se:jf pQ 380=ze ⟨CR,⟨0,0,false,false⟩,0,0,0,false,0,0⟩:=cV
def Vj(g:Gt):Tryz.prog.built 380 [(0,.agg (dA g.k).toArray),(1,jX g.a),(2,gI g.q),(3,gI g.buys),(4,gI g.sells),(5,.bool g.buy),(6,gI g.price),(7,gI g.qty)]=some (ze g).toArray:=by
 have h1:∀a,Tryz.prog.built 380 a=Instr.fill (λi=>#[(0,27),(27,4),(31,1),(32,1),(33,1),(34,1),(35,1),(36,1)][i]?) (jf pQ 380).toArray a:=λa=>by kernel_rfl
 rw[h1]
 have:=xX (place:=λi=>#[(0,27),(27,4),(31,1),(32,1),(33,1),(34,1),(35,1),(36,1)][i]?) [.agg (dA g.k).toArray,jX g.a,gI g.q,gI g.buys,gI g.sells,.bool g.buy,gI g.price,gI g.qty] [27,4,1,1,1,1,1,1] 0 0 (jf pQ 380)
  (by show [(dA g.k).toArray.size,4,1,1,1,1,1,1]=_;rw[dv,bM]) (by
   intro j d
   match j,d with
   |0,_=>rfl
   |1,_=>rfl
   |2,_=>rfl
   |3,_=>rfl
   |4,_=>rfl
   |5,_=>rfl
   |6,_=>rfl
   |7,_=>rfl) (by rw[Se,xO];decide)
 apply this.trans
 have b:([.agg (dA g.k).toArray,jX g.a,gI g.q,gI g.buys,gI g.sells,.bool g.buy,gI g.price,gI g.qty]:LV_).flatMap (λv=>v.cells.toList)=ze g:=by
  simp[ze,jX,cY,Value.cells]
 rw[b,lF (by rw[Se,xO,xO])]
def oq(S:bt)(a:Int):(S.led.getV a)=(S.acc a,if S.led.getO a=none then 7 else 0):=by
 unfold bJ.getV bt.acc;cases S.led.getO a<;>simp
end
end Go.Proofs
namespace Go.Proofs
open Go Go.Vc
def Dk{C:oR}(h:C.Ok){k:Ct}(b:k∈C.l):cj C.l k.spec.num=some k:=by
 unfold cj;have:=h.srt;rw[dP];obtain⟨i,a,rfl⟩:=bQ b;refine⟨by simp,i,a,rfl,λj c=>?_⟩;have:=bP.1 this j i qZ a c;simp;omega
end Go.Proofs
namespace Go.Proofs
open Go Go.Vc
attribute [local congr] bj
def JI{α:Type}{P:Program}{t e:TypeId}{k by_:Nat}{w:Wt_}{K:aZ}{s xv:Vt_}{l:List α}{x:α}{f:α->List Value}(g:P.underlying t=some (.slice e))(m:wq P e k by_)(z:∀x,(f x).length=k)(j:(f x).all (·.oneCell')=true)
  (E:xv.cells.toList=f x)(hs:ic w e k s l.length (l.flatMap f))(u:(l.length+1)*by_<=140737488355328)(F:k<=1000)
  (y:∀a d,ic d e k a (l++[x]).length ((l++[x]).flatMap f)->aR (aF s) w d->(∀b,aF a b->aF s b\/w.heap.size<=b)->K a d):
  rx P (rg t 1 [(0,xv)]) w λv o=>rx P (fb #[t,t] t [s,v]) o K:=by
 have H:xv.cells.size=k:=by grind
 refine nI [xv] g m rfl rfl (by grind) qZ ?_;have q:(([xv]:LV_).flatMap (·.cells.toList)).toArray=(f x).toArray:=by simp[E]
 rw[q];have n:M0 w (w.alloc (.cells (f x).toArray e)):=mG
 have r:Rd (w.alloc (.cells (f x).toArray e)) k (.slice (some ⟨w.heap.size,0,none⟩) 1 1) 1 (f x):=
  ⟨by rw[z];omega,.inr ⟨_,0,1,rfl,aD _,At.all (bT (by rw[er,ae rfl]))⟩⟩
 refine kg g g m (hs.mod n d9) r j u λa d B C p=>?_;refine y a d ?_ ((n.to (G:=aF s)).trans C) λb i=>?_
 ·rw[cE,af];simpa using B
 ·rcases p b i with h|h
  ·exact .inl h
  ·rw[cw]at h;exact gr
def HC{α:Type}(T:TypeId)(fc:α->List Value)(a:α)(v:Vt_)(q:Nat)(W:Wt_):Prop:=v=.pointer (some ⟨q,0,none⟩)/\hC W q (fc a).toArray T
def Fv{α:Type}{T:TypeId}{fc:α->List Value}:∀(a:α) v q W b H,HC T fc a v q W->aR H W b->¬H q->HC T fc a v q b:=by
 rintro a v q W b H ⟨rfl,f⟩ d e;exact⟨rfl,d.hpk f e⟩
def Mg{xs:List Ct}:∀k∈xs,∀(W:Wt_) (K:Value->World->Prop),(∀a v,HC jW dA k v W.heap.size a->M0 W a->K v a)->
  rx pQ (uK jW) W λv d=>yS pQ (rS jW v (.agg (dA k).toArray)) d λa=>K v a:=λk _ W K e=>Qk λa b m=>e a _ ⟨rfl,b⟩ m
def Bz{α:Type}{T:TypeId}{fv:α->Value}{fc:α->List Value}{xs:List α}(j:oH T fv fc xs):∀a∈xs,∀(W:Wt_) (K:Value->World->Prop),(∀b v,HC T fc a v W.heap.size b->M0 W b->K v b)->
  rv pQ (iA T true (.tuple #[])) W λv d=>ru pQ (iS T v (fv a)) d λb=>K v b:=λa k W K f=>by
 obtain⟨d,b,g,h,e,i⟩:=j a k W;exact bo g (iE h (f b _ ⟨rfl,e⟩ i))
def Pp(p:Po)(W:Wt_):∃a d,(iA 124 true (.tuple #[])).run pQ W=.ok (bO W.heap.size 0) a/\(iS 124 (bO W.heap.size 0) (nh p)).run pQ a=.ok () d/\hC d W.heap.size (dy p).toArray 124/\M0 W d:=by
 obtain⟨a,b⟩:=di (W.alloc (.cells #[.int .u32 0,gU 0,gI 0,gI 0] 124));have f:M0 W a:=by rw[b];exact(aR.refl _ W).alloc _
 have e:hC a W.heap.size #[.int .u32 0,gU 0,gI 0,gI 0] 124:=by rw[b];simp[go_sem]
 refine⟨a,(((a.setCell ⟨W.heap.size,0,none⟩ (gU p.c)).setCell ⟨W.heap.size,1,none⟩ (gU p.a)).setCell ⟨W.heap.size,2,none⟩ (gI p.q)).setCell ⟨W.heap.size,3,none⟩ (gI p.b),by rw[b];simp[go_sem],by simp[go_sem,e,nh],by simp[go_sem,e,dy],?_⟩;exact f.on (((((aR.refl (λx=>x=W.heap.size) a).sc).sc).sc).sc) λx g=>gr
def Qp(p:Ac)(W:Wt_):∃a d,(iA 100 true (.tuple #[])).run pQ W=.ok (bO W.heap.size 0) a/\(iS 100 (bO W.heap.size 0) (jX p)).run pQ a=.ok () d/\hC d W.heap.size (cY p).toArray 100/\M0 W d:=by
 obtain⟨a,b⟩:=di (W.alloc (.cells #[.int .u32 0,gI 0,.bool false,.bool false] 100));have f:M0 W a:=by rw[b];exact(aR.refl _ W).alloc _
 have e:hC a W.heap.size #[.int .u32 0,gI 0,.bool false,.bool false] 100:=by rw[b];simp[go_sem]
 refine⟨a,(((a.setCell ⟨W.heap.size,0,none⟩ (gU p.num)).setCell ⟨W.heap.size,1,none⟩ (gI p.cash)).setCell ⟨W.heap.size,2,none⟩ (.bool p.kil)).setCell ⟨W.heap.size,3,none⟩ (.bool p.dfl),by rw[b];simp[go_sem],by simp[go_sem,e,jX],by simp[go_sem,e,cY],?_⟩;exact f.on (((((aR.refl (λx=>x=W.heap.size) a).sc).sc).sc).sc) λx g=>gr
def oH.ac{xs:List Ac}:oH 100 jX cY xs:=λa _ W=>Qp a W
def oH.po{xs:List Po}:oH 124 nh dy xs:=λa _ W=>Pp a W
def WH:Lg:=⟨uv,0⟩
def K1:jf pQ 412=uJ WH:=cV
def PP:jf pQ uN=qp (⟨WH,0,0,[]⟩,gm):=cV
def UT(s:Sp)(q:Int):Tryz.prog.built 412 [(0,.agg (eV s).toArray),(1,gI q)]=some (uJ ⟨s,q⟩).toArray:=by
 have h1:∀a,Tryz.prog.built 412 a=Instr.fill (λi=>#[(0,25),(25,1)][i]?) (jf pQ 412).toArray a:=λa=>by kernel_rfl
 rw[h1]
 have:=xX (place:=λi=>#[(0,25),(25,1)][i]?) [.agg (eV s).toArray,gI q] [25,1] 0 0 (jf pQ 412)
  (by show [(eV s).toArray.size,1]=_;rw[dv,br]) (by
   intro j d
   match j,d with
   |0,_=>rfl
   |1,_=>rfl) (by rw[K1,g9];decide)
 apply this.trans;have b:([.agg (eV s).toArray,gI q]:LV_).flatMap (λv=>v.cells.toList)=uJ ⟨s,q⟩:=by simp[uJ,Value.cells]
 rw[b,lF (by rw[K1,g9,g9])]
def Ur(g:Lg)(b p:Int):Tryz.prog.built uN [(0,.agg (uJ g).toArray),(1,gI b),(2,gI p)]=some (qp (⟨g,b,p,[]⟩,gm)).toArray:=by
 have h1:∀a,Tryz.prog.built uN a=Instr.fill (λi=>#[(0,26),(26,1),(27,1),(28,1)][i]?) (jf pQ uN).toArray a:=λa=>by kernel_rfl
 rw[h1]
 have:=xX (place:=λi=>#[(0,26),(26,1),(27,1),(28,1)][i]?) [.agg (uJ g).toArray,gI b,gI p] [26,1,1] 0 0 (jf pQ uN)
  (by show [(uJ g).toArray.size,1,1]=_;rw[dv,g9]) (by
   intro j f
   match j,f with
   |0,_=>rfl
   |1,_=>rfl
   |2,_=>rfl) (by rw[PP,pz];decide)
 apply this.trans;have d:([.agg (uJ g).toArray,gI b,gI p]:LV_).flatMap (λv=>v.cells.toList)=uJ g++[.int .i64 b,gI p]:=by simp[Value.cells]
 rw[d];unfold jp
 have e:(qp (⟨WH,0,0,[]⟩,gm)).drop (0+(uJ g++[Value.int .i64 b,Value.int .i64 p]).length)=[gm]:=by
  rw[af,g9];rfl
 rw[PP,e];simp[qp]
section
variable{w:Wt_}{K:aZ}{v c l mb md:Nat}{A:List (Int×Nat)}{D:List (Int×Value)}{fp:Pt->Nat->Prop}{S:bt}
def ul(S:bt)(a:Int)(i:Nat):List lG:=((S.cal.l.take i).filter λk=>decide (k.st≠3)).map (S.stake a)
def Ff{S:bt}{a:Int}{i:Nat}(hi:i<S.cal.l.length):ul S a (i+1)=ul S a i++(if S.cal.l[i].st=3 then []else [S.stake a S.cal.l[i]]):=by
 unfold ul;rw[bR hi,cy,aM];congr 1;by_cases h:S.cal.l[i].st=3
 ·grind
 ·grind
def Mm(b:S.Ok){a:Int}{k:Ct}(f:k∈S.cal.l):(S.stake a k).Fit/\(S.stake a k).ords.length<=250:=by
 have d:=b.led.led.position k.spec.num a;unfold MP MF at d;have e:=(b.cal.ok k f).1;refine⟨⟨e.1,⟨by show _<=(S.led.position _ _).q;omega,by show(S.led.position _ _).q<_;omega⟩,⟨by show _<=(S.led.position _ _).b;omega,by show(S.led.position _ _).b<_;omega⟩,e.2.2,λo g=>?_⟩,?_⟩
 ·rcases bf.1 g with h|h
  ·exact(b.ord.std _ o (de _ (aU.1 h).1)).fit
  ·exact(b.ord.std _ o (jB (aU.1 h).1)).fit
 ·show(List.filter _ _++List.filter _ _).length<=250;rw[af];have h1:=bh (lw a) (S.bk k.spec.num).all;have i:=bh (lw a) (S.bd k.spec.num);have m:=b.ord.bdl k.spec.num
  have j:(S.bk k.spec.num).all.length<=200:=by
   unfold Bk.all;rw[af];have:=(b.ord.side k.spec.num true).1;have:=(b.ord.side k.spec.num false).1;omega
  omega
end
end Go.Proofs
namespace Go.Proofs
open Go Go.Vc
attribute [local congr] bj
def O9:∀(l:List Lg) (rs:List Rt) (k:Int),0<=k->rs.length=9->(∀r∈rs,r.Bd k)->(∀x∈l,zj x=true)->(l.foldl mM rs).length=9/\∀r∈l.foldl mM rs,r.Bd (k+l.length)
 | [],rs,k,_,a,b,_=>⟨a,by simpa using b⟩
 |x::l,rs,k,g,a,b,d=>by
  rw[ff];have h1:(mM rs x).length=9:=by unfold mM;split;exact a;split;rw[bN];exact a;exact a
  obtain⟨f,j⟩:=O9 l (mM rs x) (k+1) qZ h1 (C6 g b (d x aw)) λy h=>d y (ag _ h);refine⟨f,λr i=>?_⟩;have:=j r i;rw[be];have e:k+1+(l.length:Int)=k+((l.length+1:Nat):Int):=qZ
  rwa[e]at this
def No(l:List Lg):0<=(jU l).1/\(jU l).1<=14400000000000000:=by
 unfold jU;split
 ·simp
 ·rename_i j
  split
  ·simp
  ·rename_i b
   split
   ·simp
   ·have a:∀x∈l,zj x=true:=λx m=>bg.1 (by simpa using b) x m
    obtain⟨h1,f⟩:=O9 l (List.replicate 9 Tz) 0 qZ (by simp) (λr d=>by
     rw[mB d];exact⟨by decide,by decide,by decide,by decide,by decide,by decide,by decide,by decide⟩) a
    have k:=H6 (l:=l.foldl mM (List.replicate 9 Tz)) λr d=>by
     obtain⟨n,q,h,o,i,p,g,e⟩:=f r d;have:(l.length:Int)<=16:=qZ;exact⟨n,qZ,h,qZ,i,qZ,g,e⟩
    rw[h1]at k;simp only;omega
def R9(l:List lG):(0<=(pR l).1.m/\(pR l).1.m<=14400000000000000)/\(0<=(pR l).1.w/\(pR l).1.w<=200000000000000000)/\0<=(pR l).1.u/\(pR l).1.u<=17600000000000000:=by
 unfold pR;split
 ·simp
 ·rename_i g
  split
  ·simp
  ·rename_i e
   have d:∀x∈l,x.ok=true:=λx f=>bg.1 (by simpa using e) x f;split
   ·simp
   ·have a:=No (l.map (·.leg));have b:=Ef d;have c:=Ql d;have:(l.length:Int)<=16:=qZ;simp only;omega
def K3(S:bt)(a:Int):(0<=(S.need a).1.m/\(S.need a).1.m<=14400000000000000)/\(0<=(S.need a).1.w/\(S.need a).1.w<=200000000000000000)/\0<=(S.need a).1.u/\(S.need a).1.u<=17600000000000000:=by
 unfold bt.need;split
 ·simp
 ·exact R9 _
def SZ(S:bt)(a:Int):0<=(S.need a).1.total/\(S.need a).1.total<=240000000000000000:=by
 have:=K3 S a;unfold Nd.total;omega
section
variable{w:Wt_}{K:aZ}{v c l mb md:Nat}{A:List (Int×Nat)}{D:List (Int×Value)}{fp:Pt->Nat->Prop}{S:bt}
end
abbrev Z5:TypeId:=148
def YI(t:Td):Value:=.agg (FJ t).toArray
def FF(t:Td):(FJ t).length=4:=rfl
end Go.Proofs
namespace Go.Proofs
open Go Go.Vc
attribute [local congr] bj
variable {W:Wt_}
abbrev tA:TypeId:=51
def fL(c:Cm):(ny c).length=35:=by simp[ny,br]
def Ep(c:Cm):(ny c).all (·.oneCell')=true:=by rw[ny,eB,eB,qw];rfl
def cm0(c:Cm):(ny c)[0]? =some (gB c.kind):=rfl
def ZQ(c:Cm):(ny c)[1]? =some (gU c.acct):=rfl
def cm2(c:Cm):(ny c)[2]? =some (gU c.ct):=rfl
def YK(c:Cm):(ny c)[3]? =some (gQ c.num):=rfl
def Z1(c:Cm):(ny c)[4]? =some (gI c.amt):=rfl
def Si(c:Cm)(i:Nat):(ny c)[30+i]? =([.bool c.on,.bool c.buy,gB c.ty,gI c.price,gI c.qty]:LV_)[i]? :=by
 rw[ny,bp (by show 5<=30+i;omega),bp (by rw[br];simp;omega),br];congr 1;simp;omega
def O6(c:Cm):(ny c)[30]? =some (.bool c.on):=Si c 0
def Tu(c:Cm):(ny c)[31]? =some (.bool c.buy):=Si c 1
def Vo(c:Cm):(ny c)[32]? =some (gB c.ty):=Si c 2
def UM(c:Cm):(ny c)[33]? =some (gI c.price):=Si c 3
def Uv(c:Cm):(ny c)[34]? =some (gI c.qty):=Si c 4
def LS:mh pQ tA=true:=cV
def H9:Tryz.prog.cellsOf tA=34+1:=cV
abbrev CN(W:Wt_)(p:Nat)(c:Cm):Prop:=hC W p (ny c).toArray tA
def zF(c:Cm):Value:=.agg (ny c).toArray
def ZT(c:Cm)(w:Wt_):∃a,(Instr.box tA (zF c)).run pQ w=.ok (bO w.heap.size 0) a/\CN a w.heap.size c/\M0 w a:=
 ⟨w.alloc (.cells (ny c).toArray tA),rfl,by show hp _ _=_;simp[go_sem],(aR.refl _ w).alloc _⟩
def Xc{p:Nat}{c:Cm}(h:CN W p c):(qE tA (bO p 0)).run pQ W=.ok (zF c) W:=jh LS H9 (fL c) (At.all h)
section
variable{W:Wt_}{p:Nat}{c:Cm}
def ag2(W:Wt_):(iF tA (bO p 0) 1).run pQ W=.ok (bO p 1) W:=by simp[go_sem]
def am2(W:Wt_):(iF tA (bO p 0) 3).run pQ W=.ok (bO p 3) W:=by simp[go_sem]
def ai6(h:CN W p c):(iL 45 (bO p 1)).run pQ W=.ok (gU c.acct) W:=by simp[go_sem,h,ZQ]
def aj6(h:CN W p c):(iL 37 (bO p 3)).run pQ W=.ok (gQ c.num) W:=by simp[go_sem,h,YK]
end
def Ft{mb:Nat}{A:List (Int×Nat)}(h:eM eY fi W mb A){n:Int}{b:Nat}(a:lk A n=some b):(jQ 90 (.map (some mb)) (gU n) false).run pQ W=.ok (fi b) W:=by
 have:=mY (ok:=false) (x:=n) xM lu T9 (.inr ⟨mb,rfl,h⟩:Af eY fi W (.map (some mb)) A);rw[a]at this;exact this
def Bc{md:Nat}{D:List (Int×Value)}(h:eM eY yr W md D)(n:Int):(jQ 91 (.map (some md)) (gU n) false).run pQ W=.ok (lx D n) W:=by
 have:=mY (ok:=false) (x:=n) rj lu Bi (.inr ⟨md,rfl,h⟩:Af eY yr W (.map (some md)) D);unfold lx;cases a:lk D n with
 |none=>rw[a]at this;exact this
 |some x=>rw[a]at this;exact this
def LL(W:Wt_):∃a,(iA 246 true (.tuple #[])).run pQ W=.ok (bO W.heap.size 0) a/\hC a W.heap.size (sw gm gm 0 0) 246/\M0 W a:=
 ⟨W.alloc (.cells (sw gm gm 0 0) 246),by simp[go_sem,sw,gm],by simp[go_sem],(aR.refl _ W).alloc _⟩
def L7{q:Nat}{a b:Vt_}{f l:Int}(sT sG:Vt_)(d e:Int)(h:hC W q (sw a b f l) 246)(k:∃a n c,sT=.slice a n c)(r:∃a n c,sG=.slice a n c):
  ∃g,(iS 246 (bO q 0) (.agg (sw sT sG d e))).run pQ W=.ok () g/\hC g q (sw sT sG d e) 246/\aR (λb=>b=q) W g:=by
 obtain⟨t,s,m,rfl⟩:=k;obtain⟨i,o,j,rfl⟩:=r;unfold sw at h;exact⟨(((W.setCell ⟨q,0,none⟩ (.slice t s m)).setCell ⟨q,1,none⟩ (.slice i o j)).setCell ⟨q,2,none⟩ (gI d)).setCell ⟨q,3,none⟩ (gI e),by simp[go_sem,h,sw],by simp[go_sem,h,sw],((((aR.refl (λx=>x=q) W).sc).sc).sc).sc⟩
section
variable{w:Wt_}{K:aZ}{v c l mb md:Nat}{A:List (Int×Nat)}{D:List (Int×Value)}{fp:Pt->Nat->Prop}{S:bt}
end
def N4{S:bt}(h:S.Ok){c:Cm}(g:c.Fit)(a:c.acct≠0)(h1:(S.order c).1=0)(d:(db (S.bk c.ct) (c.od S.next) c.ty).1=0):({S with bk:=eS S.bk c.ct (db (S.bk c.ct) (c.od S.next) c.ty).2.1,next:=S.next+1}:bt).Ok:=by
 obtain⟨hp,i,j⟩:=qC a h1;obtain⟨e,-⟩:=AR d;have b:=h.next
 have f:=ug h.ord (n:=c.ct) (o:=c.od S.next) (rests:=decide (c.ty=1\/c.ty=4)) (nx:=S.next+1) hp.alive (EP a qZ hp.price hp.qty) (BE g ⟨qZ,by unfold jZ at i;omega⟩)
  (by show S.next<_;omega) hp.stands (ud h.ord) qZ
 rw[e];exact⟨h.cal,h.led,f,⟨by grind,by grind⟩,h.fnd⟩
def qm{l:List Ct}{n:Int}(h:bG l n=0):(cj l n).isSome=true:=by
 obtain⟨k,a,-⟩:=oI h;rw[a];rfl
def OD{B:Bk}{o:Od}{k:Int}(e:∀d,(B d).length<=100):(db B o k).2.2.trades.length<=100:=by
 have a:∀L left,(eT o left L).2.2.1.length<=L.length:=by
  intro L;induction L with
  |nil=>intro left;simp[eT]
  |cons b r f=>
   intro left;unfold eT;split
   ·simp
   ·split
    ·grind
    ·split
     ·simp
     ·grind
 unfold db;split
 ·simp
 ·split
  ·simp
  ·split
   ·simp
   ·split
    ·simp
    ·split
     ·simp
     ·have h1:=a (B !o.buy) o.left;have g:=e !o.buy;unfold fC;simp only;split<;>(simp only;omega)
end Go.Proofs
namespace Go.Proofs
open Go Go.Vc
attribute [local congr] bj
variable {S:bt}
def Zc{o:Od}{w:Wt_}{K:aZ}(f:∀a b,b=w.heap.size->qT a (.slice (some ⟨b,0,none⟩) 1 1) [o]->M0 w a->K (.slice (some ⟨b,0,none⟩) 1 1) a):rx pQ (rg sC 1 [(0,kx o)]) w K:=by
 refine nI [kx o] ik (dB MY) rfl rfl (by intro v e;rw[cm.1 e];rfl) qZ ?_;have d:(([kx o]:LV_).flatMap (·.cells.toList)).toArray=(dF o).toArray:=rfl;rw[d];exact f _ _ rfl ⟨rfl,.inr ⟨_,1,[],rfl,aD _,by rw[er,ae rfl];simp,by simp,by simp⟩⟩ mG
def aa3{s s1:Vt_}{L:List Od}{o:Od}{w:Wt_}{K:aZ}(h:qT w s L)(h1:qT w s1 [o])(j:L.length<=100000)
  (g:∀a d,qT d a (L++[o])->aR (aF s) w d->(∀b,aF a b->aF s b\/w.heap.size<=b)->K a d):rx pQ (fb #[sC,sC] sC [s,s1]) w K:=by
 refine kg ik ik (dB MY) h h1.rd (by rw[MS mz]) (by grind) λa d e i f=>g a d ?_ i f;rw[<-cE]at e;show ic d jG 5 a (L++[o]).length _;rw[af];exact e
def Oe(h:S.Ok){c:Cm}(e:c.Fit)(a:c.acct≠0)(h1:(S.order c).1=0)(i:¬50<=(S.bd c.ct).length):({S with bd:=eS S.bd c.ct (S.bd c.ct++[c.od S.next]),next:=S.next+1}:bt).Ok:=by
 obtain⟨hp,f,g⟩:=qC a h1;have b:=h.next
 have d:=h.ord.addBd (n:=c.ct) (x:=c.od S.next) (nx:=S.next+1) hp.alive (EP a qZ hp.price hp.qty) (BE e ⟨qZ,by unfold jZ at f;omega⟩)
  (by show S.next<_;omega) hp.stands (ud h.ord) qZ qZ
 exact⟨h.cal,h.led,d,⟨by grind,by grind⟩,h.fnd⟩
def so{n:Int}:n∈S.nums↔(cj S.cal.l n).isSome=true:=by
 unfold bt.nums cj;rw[aL,List.find?_isSome];constructor
 ·grind
 ·grind
def Nh(h:sy S){a num n:Int}{o:Od}(u:n∈S.nums)(b:wN S.bk a num n=some (o,n)):S.find a num=some (o,n):=by
 have s:(S.find a num).isSome=true:=by
  unfold bt.find;rw[List.findSome?_isSome_iff];exact⟨n,u,by rw[b];rfl⟩
 obtain⟨⟨t,g⟩,k⟩:=fh.1 s;obtain⟨h1,y,r,d,p,q⟩:=qr k
 have e:∃j,(S.bk n).find num=some (o,j):=by
  unfold wN at b;cases i:(S.bk n).find num with
  |none=>rw[i]at b;cases b
  |some x=>
   rw[i]at b;simp only at b;split at b
   ·grind
   ·cases b
 obtain⟨j,e⟩:=e;have m:=BI e;have f:n=g:=h.apart n g o t (iz m.1) (iz p) (by rw[m.2,r]);subst f;rw[q]at e;simp only[gL,nr]at e;rw[k,e.1]
def EA{α:Type}{R:List α}{i:Nat}{p x:α}(h:R[i]? =some p)(b:x∈R):x=p\/x∈R.eraseIdx i:=by
 have:=(oe h).mem_iff (a:=x);rw[this]at b;exact ax.1 b
section
variable{w:Wt_}{K:aZ}{v c l mb md:Nat}{A:List (Int×Nat)}{D:List (Int×Value)}{fp:Pt->Nat->Prop}{S:bt}
def bkO(B:Option (Od×Bool)):Od:=match B with|none=>oQ|some (o,_)=>o
def bkE(B:Option (Od×Bool)):Int:=match B with|none=>7|some _=>0
def fiB(a n:Int)(B:Option (Od×Bool)):Option (Od×Int):=match B with|some (o,_)=>if o.acct=a then some (o,n)else none|none=>none
def OJ{w:Wt_}{K:aZ}{b:Nat}{F:NP_}{B:Bk}{n:Int}(h:gg w b F B)
  (d:∀a,M0 w a->K (.tuple #[kx (bkO (B.find n)),gI (bkE (B.find n))]) a):Ca pQ 268 #[fi b,gQ n] w K:=Nr h d
def Rj(x:Option (Od×Int)):Od:=match x with|some y=>y.1|none=>oQ
def QK(x:Option (Od×Int)):Int:=match x with|some y=>y.2|none=>0
end
end Go.Proofs
namespace Go.Proofs
open Go Go.Vc
attribute [local congr] bj
def K0{S:bt}(h:S.Ok){n:Int}(d:n∈S.nums):n≠0/\iU n:=by
 obtain⟨k,b,rfl⟩:=aL.1 d;obtain⟨c,a,-⟩:=h.cal.ok k b;constructor
 ·unfold Sp.may at a;simp only[ai,aS]at a;omega
 ·exact c.1.1
def R8{S:bt}(h:sy S){a num n:Int}{i:Nat}(o:n∈S.nums)(f:(S.bd n).findIdx? (wo a num)=some i):S.nums.findSome? (vr S.bd a num)=some (i,n):=by
 have l:(S.nums.findSome? (vr S.bd a num)).isSome=true:=by
  rw[List.findSome?_isSome_iff];exact⟨n,o,by unfold vr;rw[f];rfl⟩
 obtain⟨⟨r,p⟩,g⟩:=fh.1 l;obtain⟨m,q,b⟩:=List.exists_of_findSome?_eq_some g;unfold vr at b;cases c:(S.bd m).findIdx? (wo a num)with
 |none=>rw[c]at b;cases b
 |some j=>
  rw[c]at b;simp only[eQ,gL,nr]at b;obtain⟨rfl,rfl⟩:=b;obtain⟨h1,d,-⟩:=bz.1 f;obtain⟨k,e,-⟩:=bz.1 c;unfold wo at d e;simp only[ai,aS]at d e;have:=h.apart n m _ _ (jB (aq h1)) (jB (aq k)) (by rw[d.1,e.1]);subst this;rw[f]at c;cases c;exact g
def Ip{α:Type}(l:List α)(i:Nat):l.take i++l.drop (i+1)=l.eraseIdx i:=(List.eraseIdx_eq_take_drop_succ l i).symm
def Xe{w:Wt_}{p:Nat}{x:Cm}(h:CN w p x)(l:List Od):Ey w (.func (.func 214) #[] #[.pointer (some ⟨p,0,none⟩)]) (wo x.acct x.num) l:=by
 refine⟨_,_,rfl,λo j W g K i=>?_⟩;show Ca pQ _ [kx o,.pointer (some ⟨p,0,none⟩)].toArray W K;refine cN Tryz.func214 ?_;obtain⟨a,f,c,d⟩:=ux o W;apply bo f;have e:CN a p x:=d.hpk (g.hpk h id) id;refine ao (bO W.heap.size 0) a (by simp[go_sem]) (ao (gQ o.num) a (by simp[go_sem,c,dF]) ?_);refine bo (am2 _) (bo (aj6 e) ?_);apply ao (.bool (decide (o.num=x.num))) a (by simp[go_sem];rfl);have b:=i a d;unfold wo at b;by_cases h1:o.num=x.num
 ·rw[oB h1];refine ao (bO W.heap.size 1) a (by simp[go_sem]) (ao (gU o.acct) a (by simp[go_sem,c,dF]) ?_);refine bo (ag2 _) (bo (ai6 e) ?_);apply ao (.bool (decide (o.acct=x.acct))) a (by simp[go_sem];rfl);rw[aW h1,lj]at b;exact b
 ·rw[JP h1];rw[bD h1,fE]at b;exact b
end Go.Proofs
namespace Go.Proofs
open Go Go.Vc
attribute [local congr] bj
def QM{B:Bk}{o:Od}{r:Bool}(c:∀d,(B d).length<=100):(fC B o r).2.trades.length<=100:=by
 have a:∀(L:List Od) (left:Int),(eT o left L).2.2.1.length<=L.length:=by
  intro L;induction L with
  |nil=>intro left;simp[eT]
  |cons b r e=>
   intro left;unfold eT;split
   ·simp
   ·split
    ·grind
    ·split
     ·simp
     ·grind
 have h1:=a (B !o.buy) o.left;have f:=c !o.buy;unfold fC;simp only;split<;>(simp only;omega)
def HG{B:Bk}{n p l:Int}(a:∀d,(B d).length<=100):(cF B n p l).2.2.trades.length<=100:=by
 unfold cF;split
 ·simp
 ·split
  ·simp
  ·split
   ·simp
   ·refine QM λe=>?_
    rename_i d _ _ _
    by_cases h:e=d
    ·subst h;rw[Bk.set_self];unfold oX;exact ck (List.eraseP_sublist).length_le (a _)
    ·rw[Bk.set_ne _ _ h];exact a _
end Go.Proofs
