/- Part of a proof. -/
import Derived.Test.YtekbnpagidkbbaaGreatQ18
set_option linter.all false
set_option maxRecDepth 100000
set_option maxHeartbeats 1000000
namespace Go.Proofs
open Go Go.Vc
attribute [local congr] aZ
variable {w:Wt_}
abbrev yI:TypeId:=354
def xm(n:Nd):List Value:=[.int .i64 n.m,gI n.w,gI n.u]
def LX(n:Nd):Value:=.agg (xm n).toArray
def Hf:Nd:=⟨0,0,0⟩
def UT{W:Wt_}{x:kY×Value}{K:Value->World->Prop}(h:∃a n c,x.2=.slice a n c)(e:∀b,hC b W.heap.size (pK x).toArray t6->M0 W b->K (bO W.heap.size 0) b):
  rx pQ (tW t6) W λv d=>vD pQ (oT t6 v (.agg (pK x).toArray)) d λb=>K v b:=by
 apply uH 28 zSk Xb (oJ x) af3 (DA x h);exact e _ (by simp[go_sem]) kU
def Zm{s:Vt_}{L:List (kY×Value)}(h:Rd w 29 s L.length (L.flatMap pK)){i:Nat}(hi:i<L.length):
  ∃p,(iX 410 s (gI (i:Int))).run pQ w=.ok p w/\(qm t6 p).run pQ w=.ok (.agg (pK L[i]).toArray) w:=by
 obtain⟨b,a,e,c,d,f⟩:=h.item oJ hi rfl;exact⟨.pointer (some ⟨b,a+i*29,none⟩),by rw[c];simp[go_sem,hi,bD,YY],fK aSk Xb (oJ _) f⟩
def Yd{b:Nat}{T:TypeId}{x:kY×Value}(h:hC w b (pK x).toArray T):At w b 0 (tV x.1.leg):=by
 have:=(At.all h).sub 0 26 (by rw[oJ];omega);rw[eT,pK,aN (by rw[gM];omega),aC (by rw[gM];omega)]at this;exact this
def vd{α β:Type}{l:List α}{f:α->β}{i:Nat}(hi:i<l.length):(l.take (i+1)).map f=(l.take i).map f++[f l[i]]:=by
 rw[cq hi,aM];rfl
def BT(l:List Int)(x:Int):(l++[x]).sum=l.sum+x:=by simp
def Dc{l:List kY}(h:∀s∈l,s.ok=true):0<=(l.map kY.worst).sum/\(l.map kY.worst).sum<=l.length*12500000000000000:=by
 have:=rK (l:=l.map kY.worst) (B:=12500000000000000) λx b=>by
  obtain⟨s,a,rfl⟩:=aL.1 b;exact kY.worst_bd (h s a)
 rwa[ah]at this
def XQ{s:kY}(h:s.ok=true): -1100000000000000<=s.u/\s.u<=1100000000000000/\ -100000000000000<=s.leg.q*s.price/\s.leg.q*s.price<=100000000000000:=by
 obtain⟨h1,c,g,e,f,d⟩:=kY.okF h;have:=C8 (a:=s.leg.q) (b:=s.price) (A:=10000000) (B:=10000000) c qZ;unfold kY.u;omega
def OO:∀{l:List kY},(∀s∈l,s.ok=true)-> -(l.length*1100000000000000:Int)<=(l.map kY.u).sum/\(l.map kY.u).sum<=l.length*1100000000000000
 | [],_=>by simp
 |s::l,h=>by
  have h1:=XQ (h s ai);have b:=OO (l:=l) λx a=>h x (af _ a);rw[aD,bC,be];omega
def ZG(n:Nd){W:Wt_}{p:Nat}{cs:Array Value}(h:hC W p cs yI)(e:cs.size=3):∃d,(iS yI (bO p 0) (LX n)).run pQ W=.ok () d/\hC d p (xm n).toArray yI/\aS (λb=>b=p) W d:=by
 obtain⟨a,b,c,rfl⟩:∃a b c,cs= #[a,b,c]:=by
  obtain⟨l⟩:=cs
  match l,e with
  | [a,b,c],_=>exact⟨a,b,c,rfl⟩
 refine⟨((W.setCell ⟨p,0,none⟩ (gI n.m)).setCell ⟨p,1,none⟩ (gI n.w)).setCell ⟨p,2,none⟩ (gI n.u),by simp[go_sem,h,LX,xm],by simp[go_sem,h,xm],?_⟩;exact(((aS.refl (λx=>x=p) W).sc).sc).sc
def VA(n:Nd){W:Wt_}{p:Nat}(h:hC W p (xm n).toArray yI):(iL yI (bO p 0)).run pQ W=.ok (LX n) W:=by
 unfold xm at h;simp[go_sem,h,LX,xm]
def OA{K:aY}{s:Vt_}{L:List (kY×Value)}(h:Rd w 29 s L.length (L.flatMap pK))(hn:L.length<=100000)
  (hL:∀x∈L,x.1.Fit/\x.1.ords.length<=1000000/\Rd w 5 x.2 x.1.ords.length (x.1.ords.flatMap dx))
  (hK:∀w',M0 w w' ->K (.tuple #[LX (pg (L.map (·.1))).1,gI (pg (L.map (·.1))).2]) w'):Ca pQ 301 #[s] w K:=by
 refine cN Tryz.func301 ?_;obtain⟨sa,sc,hs⟩:=h.isSl;have r:∀{W:Wt_},(builtin .len #[410] 3 #[false] #[s]).run pQ W=.ok (.value (gI (L.length:Int))) W:=λ{W}=>by rw[hs];simp[go_sem]
 obtain⟨p,hp0⟩:=df w.heap.size;have m1:M0 w (w.alloc (.cells (xm Hf).toArray yI)):=kU;have b1:hC (w.alloc (.cells (xm Hf).toArray yI)) p (xm Hf).toArray yI:=by rw[hp0];simp[go_sem]
 apply ax (bO p 0) (w.alloc (.cells (xm Hf).toArray yI)) (by rw[hp0];simp[go_sem,xm,Hf]);generalize w.alloc (.cells (xm Hf).toArray yI)=w1 at m1 b1|-;obtain⟨l,hl⟩:=df (L.map (·.1));rw[<-hl]at hK;have hll:l.length=L.length:=by grind
 have fin:∀(n:Nd) (e:Int) (W:Wt_),pg l=(n,e)->M0 w W->K (.tuple #[LX n,gI e]) W:=λn e W he m=>by
  have hk:=hK W m;rw[he]at hk;exact hk
 have bad:∀(e:Int) (W:Wt_) (cs:Array Value),pg l=(Hf,e)->M0 w W->hC W p cs yI->cs.size=3->
   ru pQ (iS yI (bO p 0) (LX Hf)) W λw8=>l8 pQ (iL yI (bO p 0)) w8 λv9=>K (.tuple #[v9,gI e]) w8:=λe W cs he m d hc=>by
  obtain⟨W',X,b2,m2⟩:=ZG Hf d hc;refine gg X (cK (VA Hf b2) (fin _ e W' he (m.on m2 λb d=>fM)))
 have N:∀W,(Instr.build yI #[]).run pQ W=.ok (LX Hf) W:=λW=>by simp[go_sem,LX,xm,Hf]
 apply sr r;by_cases h16:16<L.length
 ·have t:(16:Int)<(L.length:Int):=qZ;refine dB t ?_;apply bh (N _);exact bad 3 w1 _ (by unfold pg;rw[ae qZ];rfl) m1 b1 rfl
 have t:¬(16:Int)<(L.length:Int):=qZ;refine ey t ?_;apply sr r;have hpl:=ay b1
 refine d8 (λst W=>∃(i:Nat) (y sl:Vt_),i<=L.length/\st=(y,sl,gI i,())/\M0 w W/\hC W p (xm Hf).toArray yI/\LgS W sl ((l.take i).map (·.leg))/\(∀b,aK sl b->p<b)/\(l.take i).all kY.ok=true)
  (λst _=>match st.2.2.1 with| .int _ i=>L.length - i.toNat|_=>0) ⟨0,_,_,qZ,rfl,m1,b1,gD.nil _ _ _,λb d=>(by cases d),rfl⟩ ?_
 rintro⟨_,_,_,_⟩ W ⟨i,y,sl,hi,⟨⟩,q1,q2,q3,q4,q5⟩ KN hKN;refine lE ?_;intro _
 have c:pg l=if l.all kY.ok=false then(Hf,2)else if(jB (l.map (·.leg))).2≠0 then(Hf,(jB (l.map (·.leg))).2)else(⟨(jB (l.map (·.leg))).1,(l.map kY.worst).sum,max 0 (l.map kY.u).sum⟩,0):=by
  unfold pg;rw[aa qZ];rfl
 by_cases J:i<L.length
 ·have v:(i:Int)<(L.length:Int):=qZ;refine dB v ?_;obtain⟨p1,X,e2⟩:=Zm (h.mod q1 dS) J;refine bh X (jP e2 ?_);obtain⟨x,F⟩:=df (L[i]);rw[<-F];obtain⟨x1,x2,x3⟩:=hL x (by grind);have O:l[i]'qZ=x.1:=by rw[F];simp[hl]
  obtain⟨xa,xc,P⟩:=x3.isSl;refine UT ⟨_,_,_,P⟩ λw3 S m3=>?_;obtain⟨q,hq⟩:=df W.heap.size;rw[<-hq]at S|-;apply fX (pK x) 28 aSk Xb (oJ x) (At.all S);refine Tx ((x3.mod q1 dS).mod m3 dS) x2 x1 λg C=>?_;have U:=m3.trans C;have R:=C.hpk S id;refine dq ?_;rw[aw];have htk:l.take (i+1)=l.take i++[x.1]:=by rw[cq qZ,O]
  cases hok:x.1.ok with
  |false=>
   rw[ae (by simp)];apply bh (N _);refine bad 2 g _ ?_ (q1.trans U) (U.hpk q2 id) rfl;rw[c,ae];exact jS.2 ⟨x.1,by grind,by rw[hok];simp⟩
  |true=>
   rw[aa (by simp)];refine dq ?_;apply fX (tV x.1.leg) 25 aLg nLg (gM _) (Yd R);have o4:=q3.mod U dS;refine uZ (x:=x.1.leg) (f:=tV) Yu (dp eLg) gM DV rfl o4 (by grind) qZ λs' k o5 B n5=>?_;have hs4:=U.size;have hql:p<W.heap.size:=ay q2;apply ax (gI ((i+1:Nat):Int)) k (by simp[go_sem];rw[lL]);refine hKN _ _ ⟨i+1,_,s',qZ,rfl,(q1.trans U).on B λb d=>.inr (by grind),B.hpk (U.hpk q2 id) λd=>by grind,?_,λb d=>?_,?_⟩ (by grind)
   ·grind
   ·rcases n5 b d with h' |h'
    ·exact q4 b h'
    ·omega
   ·grind
 ·obtain rfl:i=L.length:=qZ;refine eK ?_;rw[aC qZ]at q3 q5;rw[q5,aa (by simp)]at c
  have hlg:∀y∈l.map (·.leg),y.spec.Fit/\eP y.q:=λy hy=>by
   obtain⟨H,Z,rfl⟩:=aL.1 hy;rw[hl]at Z;obtain⟨x,F,rfl⟩:=aL.1 Z;exact⟨(hL x F).1.1,(hL x F).1.2.1⟩
  have I:∀H∈l,H.ok=true:=λH h0=>bf.1 q5 H h0;refine KF q3.rd (by grind) hlg λg C=>?_;obtain⟨M,hM⟩:=df (jB (l.map (·.leg)));rw[<-hM]at c|-;have R:=C.hpk q2 id;unfold xm Hf at R;refine dq ?_;refine dq ?_;refine dq ?_;refine MU R ?_;have B:aS (λb=>b=p) g (g.setCell ⟨p,0,none⟩ (gI M.1)):=(aS.refl (λb=>b=p) g).sc;have G:hC (g.setCell ⟨p,0,none⟩ (gI M.1)) p #[.int .i64 M.1,gI 0,gI 0] yI:=by simp[go_sem,R]
  generalize g.setCell ⟨p,0,none⟩ (gI M.1)=k at B G|-;have M5:M0 w k:=(q1.trans C).on B λb d=>fM;by_cases D:M.2≠0
  ·refine dB D ?_;rw[ae D]at c;apply bh (N _);exact bad M.2 k _ c M5 G rfl
  ·have hM0:M.2=0:=by simpa using D
   refine ey hM0 ?_;rw[aa D]at c;apply sr r
   refine d8 (λst W=>∃i:Nat,i<=L.length/\st=(gI i,())/\M0 w W/\hC W p (xm ⟨M.1,((l.take i).map kY.worst).sum,((l.take i).map kY.u).sum⟩).toArray yI)
    (λst _=>match st.1 with| .int _ i=>L.length - i.toNat|_=>0) ⟨0,qZ,rfl,M5,G⟩ ?_
   rintro⟨_,_⟩ V ⟨i,hi,⟨⟩,r1,E⟩ KM hKM;refine lE ?_;intro _;by_cases J:i<L.length
   ·have v:(i:Int)<(L.length:Int):=qZ;refine dB v ?_;obtain⟨p1,X,e2⟩:=Zm (h.mod r1 dS) J;refine bh X (jP e2 ?_);obtain⟨x,F⟩:=df (L[i]);rw[<-F];obtain⟨x1,x2,x3⟩:=hL x (by grind);have hil:i<l.length:=qZ;have O:l[i]'hil=x.1:=by rw[F];simp[hl]
    have z:x.1.ok=true:=I x.1 (by grind);obtain⟨xa,xc,P⟩:=x3.isSl;refine UT ⟨_,_,_,P⟩ λw3 S m3=>?_;obtain⟨q,hq⟩:=df V.heap.size;rw[<-hq]at S|-;have hpq:p<q:=by rw[hq];exact ay E
    have md:M0 w3 w3.drew:=sK;have M3:=m3.trans md;have Q:=md.hpk S id;have r3:=M3.hpk E id;generalize w3.drew=w3d at md M3 Q r3|-;obtain⟨u,o⟩:∃a,a=((l.take i).map kY.worst).sum:=⟨_,rfl⟩
    obtain⟨j,A⟩:∃a,a=((l.take i).map kY.u).sum:=⟨_,rfl⟩
    rw[<-o,<-A]at r3;unfold xm at r3;have tkm:∀H∈l.take i,H.ok=true:=λH h0=>I H (cE h0);have hlen16:((l.take i).length:Int)<=16:=by grind
    have bw:=Dc tkm;have bu:=OO tkm;rw[<-o]at bw;rw[<-A]at bu;have hxw:=kY.worst_bd z;have hxu:=XQ z;refine rD ?_;have ld1:∀W,hC W p #[.int .i64 M.1,gI u,gI j] yI->(iL 2 (bO p 1)).run pQ W=.ok (gI u) W:=λW h=>by simp[go_sem,h]
    apply cK (ld1 _ r3);apply kI (pK x) 28 aSk Xb (oJ x) (At.all Q);refine Mj ((x3.mod r1 dS).mod M3 dS) x1 z λg C=>?_;have r4:=C.hpk r3 id;have R:=C.hpk Q id;refine⟨ld1 _ r4,?_⟩;apply cT (gI (u+x.1.worst)) (λW=>za ⟨qZ,qZ⟩);refine rD ?_;refine MU r4 ?_;have B:aS (λb=>b=p) g (g.setCell ⟨p,1,none⟩ (gI (u+x.1.worst))):=(aS.refl (λb=>b=p) g).sc;have r5:hC (g.setCell ⟨p,1,none⟩ (gI (u+x.1.worst))) p #[.int .i64 M.1,gI (u+x.1.worst),gI j] yI:=by simp[go_sem,r4]
    have G:=B.hpk R qZ;generalize g.setCell ⟨p,1,none⟩ (gI (u+x.1.worst))=k at B r5 G|-;refine dE r5 ?_;refine dE r5 ?_;refine dq ?_;refine mK G UK ?_;refine dq ?_;refine dq ?_;refine mK G QI ?_;refine dq ?_;refine mK G Jy ?_;apply ax (gI (x.1.leg.q*x.1.price)) k (by simp only[go_sem];simp;rw[lL]);apply ax (gI x.1.u) k (by unfold kY.u at hxu|-;exact En ⟨qZ,qZ⟩);apply ax (gI (j+x.1.u)) k (za ⟨qZ,qZ⟩);refine dq ?_;refine MU r5 ?_;have Y:aS (λb=>b=p) k (k.setCell ⟨p,2,none⟩ (gI (j+x.1.u))):=(aS.refl (λb=>b=p) k).sc;have T:hC (k.setCell ⟨p,2,none⟩ (gI (j+x.1.u))) p #[.int .i64 M.1,gI (u+x.1.worst),gI (j+x.1.u)] yI:=by simp[go_sem,r5]
    generalize k.setCell ⟨p,2,none⟩ (gI (j+x.1.u))=w6 at Y T|-;apply ax (gI ((i+1:Nat):Int)) w6 (by simp[go_sem];rw[lL]);refine hKM _ _ ⟨i+1,qZ,rfl,(((r1.trans M3).trans C).on B λb d=>fM).on Y λb d=>fM,?_⟩ (by grind);rw[vd hil,vd hil,BT,BT,O,<-o,<-A];exact T
   ·obtain rfl:i=L.length:=qZ;refine eK ?_;rw[aC qZ]at E;obtain⟨u,o⟩:∃a,a=(l.map kY.worst).sum:=⟨_,rfl⟩
    obtain⟨j,A⟩:∃a,a=(l.map kY.u).sum:=⟨_,rfl⟩
    rw[<-o,<-A]at E c;unfold xm at E;refine dE E ?_;refine dE E ?_;refine Hn ?_;refine dq ?_;refine MU E ?_;have Y:aS (λb=>b=p) V (V.setCell ⟨p,2,none⟩ (gI (max 0 j))):=(aS.refl (λb=>b=p) V).sc;have T:hC (V.setCell ⟨p,2,none⟩ (gI (max 0 j))) p (xm ⟨M.1,u,max 0 j⟩).toArray yI:=by simp[go_sem,E,xm]
    generalize V.setCell ⟨p,2,none⟩ (gI (max 0 j))=w6 at Y T|-;apply bh (VA _ T);obtain⟨w7,e7,r7,m7⟩:=ZG ⟨M.1,u,max 0 j⟩ T rfl;refine gg e7 (cK (VA _ r7) (fin _ 0 w7 c ?_));exact(r1.on Y λb d=>fM).on m7 λb d=>fM
def Li{K:aY}{n:Nd}(h1:eP n.m)(m:eP n.w)(r:eP n.u)(o:eP n.total)
  (q:∀f,M0 w f->K (gI n.total) f):Ca pQ 258 #[LX n] w K:=by
 refine cN Tryz.func258 ?_;obtain⟨p,c⟩:=df w.heap.size;have h:M0 w (w.alloc (.cells (xm n).toArray yI)):=kU;have b:hC (w.alloc (.cells (xm n).toArray yI)) p (xm n).toArray yI:=by rw[c];simp[go_sem]
 apply ax (bO p 0) (w.alloc (.cells (xm n).toArray yI)) (by rw[c];rfl);generalize w.alloc (.cells (xm n).toArray yI)=a at h b|-;unfold xm at b;refine dq ?_;refine dE b ?_;refine dq ?_;refine dE b ?_;refine dq ?_;refine dE b ?_;refine nK [.int .i64 n.m,gI n.w,gI n.u] wE (dp (sz:=1) (by_:=8) cy) rfl rfl (by intro v j;simp only[ar,fH,ml]at j;rcases j with rfl|rfl|rfl<;>rfl) qZ ?_;have l:(([.int .i64 n.m,gI n.w,gI n.u]:LV_).flatMap (·.cells.toList)).toArray= #[.int .i64 n.m,gI n.w,gI n.u]:=rfl;rw[l];have e:M0 a (a.alloc (.cells #[.int .i64 n.m,gI n.w,gI n.u] 2)):=kU;have g:hC (a.alloc (.cells #[.int .i64 n.m,gI n.w,gI n.u] 2)) a.heap.size #[.int .i64 n.m,gI n.w,gI n.u] 2:=by simp[go_sem]
 generalize a.alloc (.cells #[.int .i64 n.m,gI n.w,gI n.u] 2)=k at e g|-
 have d:Rd k 1 (.slice (some ⟨a.heap.size,0,none⟩) 3 3) ([n.m,n.w,n.u]:List Int).length (([n.m,n.w,n.u]:List Int).flatMap sZ):=by
  refine⟨rfl,.inr ⟨_,0,3,rfl,az _,⟨_,_,_,g,?_,?_⟩⟩⟩
  ·simp[sZ]
  ·simp[sZ]
 refine De d (by simp) (λx i=>?_) ?_
 ·simp only[ar,fH,ml]at i;rcases i with rfl|rfl|rfl
  ·exact h1
  ·exact m
  ·exact r
 ·have s:([n.m,n.w,n.u]:List Int).sum=n.total:=by unfold Nd.total;simp;omega
  have d:sm [n.m,n.w,n.u]=(n.total,0):=by unfold sm;rw[s,ae o]
  rw[d];refine dq ?_;refine dq ?_;refine jZ ?_;exact q k (h.trans e)
section
variable{w:Wt_}{gv:Vt_}{α:Type}{xs:List α}{fv:α->Value}{asg:Value->World->(Value->World->Prop)->Prop}{Pv:α->Value->Nat->World->Prop}{body:Nat->Value->World->(World->Prop)->(Code->World->Prop)->Prop}{after:List Nat->Option Code->World->Prop}{X0:NP_}
def Jg(ht:oM gv (xs.map λa=>[fv a]) w)(hasg:∀a∈xs,∀(W:Wt_) (K:Value->World->Prop),(∀O v,Pv a v W.heap.size O->M0 W O->K v O)->asg (fv a) W K)
  (hPv:∀a v q W k H,Pv a v q W->aS H W k->¬H q->Pv a v q k)
  (I:(Nat->Prop)->Nat->World->Prop)(Ex:Code->(Nat->Prop)->World->Prop)
  (D:∀X i W k H,I X i W->aS H W k->(∀b,X b->¬H b)->I X i k)
  (hsx:∀c X W k H,Ex c X W->aS H W k->(∀b,X b->¬H b)->Ex c X k)
  (R:∀b,X0 b->b<w.heap.size)(h0:I X0 0 w)
  (F:∀X i (hi:i<xs.length) W q v,I X i W->aS X0 w W->(∀b,X b->b<q/\(X0 b\/w.heap.size+1<b))->w.heap.size+1<q->q<=W.heap.size->Pv xs[i] v q W->(∃r,hp W (w.heap.size+1)=some (.loop r))->∀KN KJ,
   (∀y k,I y (i+1) k->aS (λb=>X b\/q<=b) W k->(∀b,y b->(X b\/W.heap.size<=b)/\b<k.heap.size)->KN k)->
   (∀c y k,Ex c y k->aS (λb=>X b\/q<=b) W k->(∀b,y b->(X b\/W.heap.size<=b)/\b<k.heap.size)->KJ c k)->body (w.heap.size+1) v W KN KJ)
  (hend:∀X W d,d=w.heap.size->I X xs.length W->aS X0 w W->hp W d=some (.deferred (some []))->(∀b,X b->b<W.heap.size/\(X0 b\/d+1<b))->after [d] none W)
  (Z:∀c X W d,d=w.heap.size->Ex c X W->aS X0 w W->hp W d=some (.deferred (some []))->(∀b,X b->b<W.heap.size/\(X0 b\/d+1<b))->after [d] (some c) W):
  Et pQ none gv w 1 (λl x W KN KJ=>asg (x.getD 0 undef) W λv O=>pP l O λw3=>body l v w3 KN KJ) after:=by
 obtain⟨⟨Ok,hit,hok⟩,-⟩:=ht;obtain⟨f,first,captured,rfl,hit0⟩:=hit.out;apply sV.2;show∀m:Loop,_;intro m s M hD hY;obtain⟨d,z⟩:=df w.heap.size;rw[<-z]at F;have V:(w.alloc (.deferred (some []))).heap.size=d+1:=by rw[cm,z]
 obtain⟨wr,G⟩:=df ((w.alloc (.deferred (some []))).alloc (.loop m));have U:wr.heap[d+1]? =some (.loop m):=by rw[G,ec,ae V.symm]
 have hszr:wr.heap.size=d+2:=by rw[G,cm,V]
 have Y:hp wr d=some (.deferred (some [])):=by rw[G];simp[go_sem,z]
 have hmr:M0 w wr:=by rw[G];exact kU.alloc _
 have p:∀(W:Wt_) (o:Obj),aS (λb=>b=d+1) W (W.putObj (d+1) o):=λW o=>(aS.refl (λb=>b=d+1) W).putObj (b:=d+1) (.inl rfl) o;rw[V]at hY|-;rw[<-G];let J:(Nat->Prop)->Nat->World->Prop:=λQ i W=>∃X,I X i W/\aS X0 w W/\hp W d=some (.deferred (some []))/\(∀b,X b->b<W.heap.size/\(X0 b\/d+1<b)/\¬Q b)/\W.heap[d+1]? =some (.loop m)/\∀b,Q b->d+1<b/\b<W.heap.size;let Js:(Nat->Prop)->World->Prop:=λQ W=>∃c X r,Ex c X W/\aS X0 w W/\hp W d=some (.deferred (some []))/\(∀b,X b->b<W.heap.size/\(X0 b\/d+1<b)/\¬Q b)/\W.heap[d+1]? =some (.loop r)/\(∀b,Q b->d+1<b/\b<W.heap.size)/\r.state=.done/\r.pending=some c;refine hit0 _ J Js _ _ (hok _ hmr) ?_ ?_ ?_ ?_ ?_ ?_
 ·intro Q W1 j hQ;refine⟨X0,D _ _ _ _ _ h0 (hmr.trans j) dS,(hmr.trans j).to,j.hpk Y id,λb g=>?_,j.keep U id,λb g=>?_⟩
  ·have h1:=R b g;have L:=j.size;exact⟨qZ,.inl g,λhq=>by grind⟩
  ·have:=hQ b g;omega
 ·rintro Q Q' i W k ⟨X,h1,L,P,n,B,T⟩ j N;have hl:=ay B;refine⟨X,D _ _ _ _ _ h1 j λb g=>(n b g).2.2,L.on j λb g=>.inr (by grind),j.hpk P λg=>by grind,λb g=>?_,j.keep B λg=>by grind,λb g=>?_⟩
  ·have u:=n b g;refine⟨bJ u.1 j.size,u.2.1,λhq=>?_⟩;rcases(N b hq).1 with h|h
   ·exact u.2.2 h
   ·have:=u.1;omega
  ·have u:=N b g;refine⟨?_,u.2⟩;rcases u.1 with h|h
   ·exact(T b h).1
   ·omega
 ·rintro Q Q' W k ⟨c,X,r,h1,L,P,n,B,T,h7⟩ j N;have hl:=ay B;refine⟨c,X,r,hsx _ _ _ _ _ h1 j λb g=>(n b g).2.2,L.on j λb g=>.inr (by grind),j.hpk P λg=>by grind,λb g=>?_,j.keep B λg=>by grind,λb g=>?_,h7⟩
  ·have u:=n b g;refine⟨bJ u.1 j.size,u.2.1,λhq=>?_⟩;rcases(N b hq).1 with h|h
   ·exact u.2.2 h
   ·have:=u.1;omega
  ·have u:=N b g;refine⟨?_,u.2⟩;rcases u.1 with h|h
   ·exact(T b h).1
   ·omega
 ·rintro Q i x W C ⟨X,h1,L,P,n,B,T⟩ K' hT hF;apply kE.2;show Yl pQ (d+1) ⟨_⟩ W K';have e1:(#[]:Array Value).toList++x=x:=rfl;rw[e1]
  obtain⟨hi,rfl⟩:∃hi:i<xs.length,x=[fv xs[i]]:=by
   rw[cz]at C;cases hh:xs[i]? with
   |none=>rw[hh]at C;cases C
   |some o=>
    obtain⟨hj,he⟩:=aF.1 hh;rw[hh]at C;exact⟨hj,by grind⟩
  apply hY _ W K' rfl ⟨m.state,m.pending,B⟩;obtain⟨q,hq0⟩:=df W.heap.size;refine hasg xs[i] (av hi) W _ λO v v3 v4=>?_;rw[<-hq0]at v3;have r2:O.heap[d+1]? =some (.loop m):=v4.keep B id;apply qQ r2 s;have m3:=p O (.loop {m with state:=.busy});have r3:(O.putObj (d+1) (.loop {m with state:=.busy})).heap[d+1]? =some (.loop {m with state:=.busy}):=by rw[dM,ae rfl,r2];rfl
  generalize O.putObj (d+1) (.loop {m with state:=.busy})=w3 at m3 r3|-;have hdl:d+1<q:=by grind
  have q3:=hPv _ _ _ _ _ _ v3 m3 qZ;have hw3:=m3.size;have hw4:=v4.size;have M3:aS (λb=>b=d+1) W w3:=(v4.to).trans m3;have hXq:∀b,X b->b<q/\(X0 b\/d+1<b):=λb g=>⟨by grind,(n b g).2.1⟩
  have t:∀b,X b->b≠d+1/\b≠d:=λb g=>by
   rcases(n b g).2.1 with h|h
   ·have:=R b h;omega
   ·omega
  have E:∀(k:Wt_) (y:NP_) (o:Obj),aS (λb=>X b\/q<=b) w3 k->(∀b,y b->(X b\/w3.heap.size<=b)/\b<k.heap.size)->
    aS X0 w (k.putObj (d+1) o)/\hp (k.putObj (d+1) o) d=some (.deferred (some []))/\(∀b,y b->b<(k.putObj (d+1) o).heap.size/\(X0 b\/d+1<b)/\¬Q b)/\(∀b,Q b->d+1<b/\b<(k.putObj (d+1) o).heap.size)/\
    (∀b,Q b->(k.putObj (d+1) o).heap[b]? =W.heap[b]?)/\W.heap.size<=(k.putObj (d+1) o).heap.size/\k.heap[d+1]? =some (.loop {m with state:=.busy}):=by
   intro k y o j A;have S:=p k o;have hsW:=j.size;have hsP:=S.size;refine⟨?_,S.hpk (j.hpk (m3.hpk (v4.hpk P id) qZ) λg=>g.elim (λg=>(t _ g).2 rfl) λg=>qZ) qZ,λb g=>?_,λb g=>?_,λb g=>?_,qZ,j.keep r3 λg=>g.elim (λg=>(t _ g).1 rfl) λg=>qZ⟩
   ·refine(((L.on M3 λb g=>fM).on j λb g=>?_)).on S λb g=>fM;rcases g with g|g
    ·rcases(n b g).2.1 with h|h
     ·exact .inl h
     ·exact fM
    ·exact fM
   ·have u:=A b g;refine⟨qZ,?_,λhq=>?_⟩
    ·rcases u.1 with h|h
     ·exact(n b h).2.1
     ·exact fM
    ·rcases u.1 with h|h
     ·exact(n b h).2.2 hq
     ·grind
   ·have:=T b g;omega
   ·have hb' :=T b g;rw[S.blk b qZ qZ,j.blk b qZ λC=>C.elim (λC=>(n b C).2.2 g) λC=>qZ,M3.blk b hb'.2 qZ]
  refine F X i hi w3 q v (D _ _ _ _ _ h1 M3 λb g=>(t b g).1) (L.on M3 λb g=>fM) hXq qZ qZ q3 ⟨_,r3⟩ _ _ ?_ ?_
  ·intro y k hI' j A;obtain⟨k1,k2,k3,k4,k5,k6,k7⟩:=E k y (.loop {{m with state:=.busy}with state:=.ready,pending:=none}) j A;refine⟨_,k7,hT _ ⟨y,?_,k1,k2,k3,?_,k4⟩ k6 k5⟩
   ·refine D _ _ _ _ _ hI' (p k _) λb g e=>?_;rcases(A b g).1 with h|h
    ·exact(t b h).1 e
    ·omega
   ·rw[dM,ae rfl,k7];simp[<-s,<-M]
  ·intro c y k hI' j A;obtain⟨k1,k2,k3,k4,k5,k6,k7⟩:=E k y (.loop {{m with state:=.busy}with state:=.done,pending:=some c}) j A;refine⟨_,k7,hF _ ⟨c,y,{m with state:=.done,pending:=some c},?_,k1,k2,k3,?_,k4,rfl,rfl⟩ k6 k5⟩
   ·refine hsx _ _ _ _ _ hI' (p k _) λb g e=>?_;rcases(A b g).1 with h|h
    ·exact(t b h).1 e
    ·omega
   ·rw[dM,ae rfl,k7];rfl
 ·rintro Q W ⟨X,h1,L,P,n,B,T⟩;refine⟨m,B,by rw[s];decide,?_⟩;rw[<-z];have j:=p W (.loop {m with state:=.exhausted});generalize W.putObj (d+1) (.loop {m with state:=.exhausted})=W8 at j|-;rw[M]
  have t:∀b,X b->b≠d+1:=λb g=>by
   rcases(n b g).2.1 with h|h
   ·have:=R b h;omega
   ·omega
  refine hend X _ d z ?_ (L.on j λb g=>fM) (j.hpk P qZ) λb g=>⟨bJ (n b g).1 j.size,(n b g).2.1⟩
  have C:I X xs.length W:=by grind
  exact D _ _ _ _ _ C j λb g=>t b g
 ·rintro Q W ⟨c,X,r,h1,L,P,n,B,T,h7,h8⟩;refine⟨r,B,by rw[h7];decide,?_⟩;rw[<-z];have j:=p W (.loop {r with state:=.exhausted});generalize W.putObj (d+1) (.loop {r with state:=.exhausted})=W8 at j|-;rw[h8]
  have t:∀b,X b->b≠d+1:=λb g=>by
   rcases(n b g).2.1 with h|h
   ·have:=R b h;omega
   ·omega
  exact Z c X _ d z (hsx _ _ _ _ _ h1 j λb g=>t b g) (L.on j λb g=>fM) (j.hpk P qZ) λb g=>⟨bJ (n b g).1 j.size,(n b g).2.1⟩
def OP(D:oM gv (xs.map λa=>[fv a]) w)(s:∀a∈xs,∀(W:Wt_) (K:Value->World->Prop),(∀t v,Pv a v W.heap.size t->M0 W t->K v t)->asg (fv a) W K)
  (A:∀a v q W e H,Pv a v q W->aS H W e->¬H q->Pv a v q e)
  (I:(Nat->Prop)->Nat->World->Prop)(p:Code->(Nat->Prop)->World->Prop)
  (y:∀X i W e H,I X i W->aS H W e->(∀b,X b->¬H b)->I X i e)
  (z:∀c X W e H,p c X W->aS H W e->(∀b,X b->¬H b)->p c X e)
  (u:∀b,X0 b->b<w.heap.size)(E:I X0 0 w)
  (g:∀X i (hi:i<xs.length) W q v,I X i W->aS X0 w W->(∀b,X b->b<q/\(X0 b\/w.heap.size+1<b))->w.heap.size+1<q->q<=W.heap.size->Pv xs[i] v q W->(∃r,hp W (w.heap.size+1)=some (.loop r))->∀k n,
   (∀f e,I f (i+1) e->aS X W e->(∀b,f b->(X b\/W.heap.size<=b)/\b<e.heap.size)->k e)->
   (∀c f e,p c f e->aS X W e->(∀b,f b->(X b\/W.heap.size<=b)/\b<e.heap.size)->n c e)->body (w.heap.size+1) v W k n)
  (o:∀X W d,d=w.heap.size->I X xs.length W->aS X0 w W->hp W d=some (.deferred (some []))->(∀b,X b->b<W.heap.size/\(X0 b\/d+1<b))->after [d] none W)
  (j:∀c X W d,d=w.heap.size->p c X W->aS X0 w W->hp W d=some (.deferred (some []))->(∀b,X b->b<W.heap.size/\(X0 b\/d+1<b))->after [d] (some c) W):
  Et pQ none gv w 1 (λl x W k n=>asg (x.getD 0 undef) W λv t=>pP l t λB=>body l v B k n) after:=
 Jg D s A I p y z u E (λX i hi W q v M N F J G L C k n k1 k2=>g X i hi W q v M N F J G L C k n (λf e x m h=>k1 f e x (m.mono λ_ _ h=>.inl h) h) λc f e x m h=>k2 c f e x (m.mono λ_ _ h=>.inl h) h) o j
def JR{l0:Nat}(hl0:∃r,hp w l0=some (.loop r))(ht:oM gv (xs.map λa=>[fv a]) w)(hasg:∀a∈xs,∀(W:Wt_) (K:Value->World->Prop),(∀M v,Pv a v W.heap.size M->M0 W M->K v M)->asg (fv a) W K)
  (hPv:∀a v q W j H,Pv a v q W->aS H W j->¬H q->Pv a v q j)
  (I:(Nat->Prop)->Nat->World->Prop)(Ex:Code->(Nat->Prop)->World->Prop)
  (B:∀X i W j H,I X i W->aS H W j->(∀b,X b->¬H b)->I X i j)
  (hsx:∀c X W j H,Ex c X W->aS H W j->(∀b,X b->¬H b)->Ex c X j)
  (P:∀b,X0 b->b<w.heap.size)(h0:I X0 0 w)
  (D:∀X i (hi:i<xs.length) W q v,I X i W->aS X0 w W->(∀b,X b->b<q/\(X0 b\/w.heap.size<b))->w.heap.size<q->q<=W.heap.size->Pv xs[i] v q W->∀KN KJ,
   (∀y j,I y (i+1) j->aS X W j->(∀b,y b->(X b\/W.heap.size<=b)/\b<j.heap.size)->KN j)->
   (∀c y j,Ex c y j->aS X W j->(∀b,y b->(X b\/W.heap.size<=b)/\b<j.heap.size)->KJ c j)->body w.heap.size v W KN KJ)
  (S:∀X W,I X xs.length W->aS X0 w W->(∀b,X b->b<W.heap.size/\(X0 b\/w.heap.size<b))->after [] none W)
  (G:∀c X W,Ex c X W->aS X0 w W->(∀b,X b->b<W.heap.size/\(X0 b\/w.heap.size<b))->after [] (some c) W):
  Et pQ (some l0) gv w 1 (λl x W KN KJ=>asg (x.getD 0 undef) W λv M=>pP l M λw3=>body l v w3 KN KJ) after:=by
 obtain⟨⟨Ok,hit,hok⟩,-⟩:=ht;obtain⟨f,first,captured,rfl,hit0⟩:=hit.out;apply sV.2;obtain⟨r0,hr0⟩:=hl0;refine⟨r0,hr0,?_⟩;show∀k:Loop,_;intro k s F hD hY;obtain⟨d,O⟩:=df w.heap.size;rw[<-O]at D;obtain⟨wr,N⟩:=df (w.alloc (.loop k));have U:wr.heap[d]? =some (.loop k):=by rw[N,ec,ae O]
 have hszr:wr.heap.size=d+1:=by rw[N,cm,<-O]
 have Z:M0 w wr:=by rw[N];exact(aS.refl _ w).alloc _
 have p:∀(W:Wt_) (o:Obj),aS (λb=>b=d) W (W.putObj d o):=λW o=>(aS.refl (λb=>b=d) W).putObj (b:=d) (.inl rfl) o;rw[<-O]at hY S G|-;rw[<-N];let J:(Nat->Prop)->Nat->World->Prop:=λQ i W=>∃X,I X i W/\aS X0 w W/\(∀b,X b->b<W.heap.size/\(X0 b\/d<b)/\¬Q b)/\W.heap[d]? =some (.loop k)/\∀b,Q b->d<b/\b<W.heap.size;let Js:(Nat->Prop)->World->Prop:=λQ W=>∃c X r,Ex c X W/\aS X0 w W/\(∀b,X b->b<W.heap.size/\(X0 b\/d<b)/\¬Q b)/\W.heap[d]? =some (.loop r)/\(∀b,Q b->d<b/\b<W.heap.size)/\r.state=.done/\r.pending=some c;refine hit0 _ J Js _ _ (hok _ Z) ?_ ?_ ?_ ?_ ?_ ?_
 ·intro Q W1 m hQ;refine⟨X0,B _ _ _ _ _ h0 (Z.trans m) dS,(Z.trans m).to,λb g=>?_,m.keep U id,λb g=>?_⟩
  ·have h1:=P b g;have E:=m.size;exact⟨qZ,.inl g,λhq=>by grind⟩
  ·have:=hQ b g;omega
 ·rintro Q Q' i W j ⟨X,h1,E,n,A,T⟩ m L;have hl:=ay A;refine⟨X,B _ _ _ _ _ h1 m λb g=>(n b g).2.2,E.on m λb g=>.inr (by grind),λb g=>?_,m.keep A λg=>by grind,λb g=>?_⟩
  ·have t:=n b g;refine⟨bJ t.1 m.size,t.2.1,λhq=>?_⟩;rcases(L b hq).1 with h|h
   ·exact t.2.2 h
   ·have:=t.1;omega
  ·have t:=L b g;refine⟨?_,t.2⟩;rcases t.1 with h|h
   ·exact(T b h).1
   ·omega
 ·rintro Q Q' W j ⟨c,X,r,h1,E,n,A,T,h7⟩ m L;have hl:=ay A;refine⟨c,X,r,hsx _ _ _ _ _ h1 m λb g=>(n b g).2.2,E.on m λb g=>.inr (by grind),λb g=>?_,m.keep A λg=>by grind,λb g=>?_,h7⟩
  ·have t:=n b g;refine⟨bJ t.1 m.size,t.2.1,λhq=>?_⟩;rcases(L b hq).1 with h|h
   ·exact t.2.2 h
   ·have:=t.1;omega
  ·have t:=L b g;refine⟨?_,t.2⟩;rcases t.1 with h|h
   ·exact(T b h).1
   ·omega
 ·rintro Q i x W R ⟨X,h1,E,n,A,T⟩ K' hT hF;apply kE.2;show Yl pQ (d) ⟨_⟩ W K';have e1:(#[]:Array Value).toList++x=x:=rfl;rw[e1]
  obtain⟨hi,rfl⟩:∃hi:i<xs.length,x=[fv xs[i]]:=by
   rw[cz]at R;cases hh:xs[i]? with
   |none=>rw[hh]at R;cases R
   |some o=>
    obtain⟨hj,he⟩:=aF.1 hh;rw[hh]at R;exact⟨hj,by grind⟩
  apply hY _ W K' rfl ⟨k.state,k.pending,A⟩;obtain⟨q,hq0⟩:=df W.heap.size;refine hasg xs[i] (av hi) W _ λM v v3 v4=>?_;rw[<-hq0]at v3;have r2:M.heap[d]? =some (.loop k):=v4.keep A id;apply qQ r2 s;have m3:=p M (.loop {k with state:=.busy});have r3:(M.putObj (d) (.loop {k with state:=.busy})).heap[d]? =some (.loop {k with state:=.busy}):=by rw[dM,ae rfl,r2];rfl
  generalize M.putObj (d) (.loop {k with state:=.busy})=w3 at m3 r3|-;have hdl:d<q:=by grind
  have q3:=hPv _ _ _ _ _ _ v3 m3 qZ;have hw3:=m3.size;have hw4:=v4.size;have M3:aS (λb=>b=d) W w3:=(v4.to).trans m3;have hXq:∀b,X b->b<q/\(X0 b\/d<b):=λb g=>⟨by grind,(n b g).2.1⟩
  have u:∀b,X b->b≠d/\b≠d:=λb g=>by
   rcases(n b g).2.1 with h|h
   ·have:=P b h;omega
   ·omega
  have C:∀(j:Wt_) (y:NP_) (o:Obj),aS X w3 j->(∀b,y b->(X b\/w3.heap.size<=b)/\b<j.heap.size)->
    aS X0 w (j.putObj (d) o)/\(∀b,y b->b<(j.putObj (d) o).heap.size/\(X0 b\/d<b)/\¬Q b)/\(∀b,Q b->d<b/\b<(j.putObj (d) o).heap.size)/\
    (∀b,Q b->(j.putObj (d) o).heap[b]? =W.heap[b]?)/\W.heap.size<=(j.putObj (d) o).heap.size/\j.heap[d]? =some (.loop {k with state:=.busy}):=by
   intro j y o m z;have Y:=p j o;have hsW:=m.size;have hsP:=Y.size;refine⟨?_,λb g=>?_,λb g=>?_,λb g=>?_,qZ,m.keep r3 λg=>(u _ g).1 rfl⟩
   ·refine(((E.on M3 λb g=>fM).on m λb g=>?_)).on Y λb g=>fM;rcases(n b g).2.1 with h|h
    ·exact .inl h
    ·exact fM
   ·have t:=z b g;refine⟨qZ,?_,λhq=>?_⟩
    ·rcases t.1 with h|h
     ·exact(n b h).2.1
     ·exact fM
    ·rcases t.1 with h|h
     ·exact(n b h).2.2 hq
     ·grind
   ·have:=T b g;omega
   ·have hb' :=T b g;rw[Y.blk b qZ qZ,m.blk b qZ λR=>(n b R).2.2 g,M3.blk b hb'.2 qZ]
  refine D X i hi w3 q v (B _ _ _ _ _ h1 M3 λb g=>(u b g).1) (E.on M3 λb g=>fM) hXq qZ qZ q3 _ _ ?_ ?_
  ·intro y j V m z;obtain⟨k1,k3,k4,k5,k6,k7⟩:=C j y (.loop {{k with state:=.busy}with state:=.ready,pending:=none}) m z;refine⟨_,k7,hT _ ⟨y,?_,k1,k3,?_,k4⟩ k6 k5⟩
   ·refine B _ _ _ _ _ V (p j _) λb g e=>?_;rcases(z b g).1 with h|h
    ·exact(u b h).1 e
    ·omega
   ·rw[dM,ae rfl,k7];simp[<-s,<-F]
  ·intro c y j V m z;obtain⟨k1,k3,k4,k5,k6,k7⟩:=C j y (.loop {{k with state:=.busy}with state:=.done,pending:=some c}) m z;refine⟨_,k7,hF _ ⟨c,y,{k with state:=.done,pending:=some c},?_,k1,k3,?_,k4,rfl,rfl⟩ k6 k5⟩
   ·refine hsx _ _ _ _ _ V (p j _) λb g e=>?_;rcases(z b g).1 with h|h
    ·exact(u b h).1 e
    ·omega
   ·rw[dM,ae rfl,k7];rfl
 ·rintro Q W ⟨X,h1,E,n,A,T⟩;refine⟨k,A,by rw[s];decide,?_⟩;have m:=p W (.loop {k with state:=.exhausted});generalize W.putObj (d) (.loop {k with state:=.exhausted})=W8 at m|-;rw[F]
  have u:∀b,X b->b≠d:=λb g=>by
   rcases(n b g).2.1 with h|h
   ·have:=P b h;omega
   ·omega
  refine S X _ ?_ (E.on m λb g=>fM) λb g=>⟨bJ (n b g).1 m.size,(n b g).2.1⟩
  have R:I X xs.length W:=by grind
  exact B _ _ _ _ _ R m λb g=>u b g
 ·rintro Q W ⟨c,X,r,h1,E,n,A,T,h7,h8⟩;refine⟨r,A,by rw[h7];decide,?_⟩;have m:=p W (.loop {r with state:=.exhausted});generalize W.putObj (d) (.loop {r with state:=.exhausted})=W8 at m|-;rw[h8]
  have u:∀b,X b->b≠d:=λb g=>by
   rcases(n b g).2.1 with h|h
   ·have:=P b h;omega
   ·omega
  exact G c X _ (hsx _ _ _ _ _ h1 m λb g=>u b g) (E.on m λb g=>fM) λb g=>⟨bJ (n b g).1 m.size,(n b g).2.1⟩
end
end Go.Proofs
set_option maxRecDepth 100000
set_option maxHeartbeats 1000000
namespace Go.Proofs
open Go Go.Vc
attribute [local congr] aZ
def wA:Tryz.prog.underlying 90=some (.map 45 121):=cy
def qD:Tryz.prog.underlying 91=some (.map 45 146):=cy
def Sv:lw pQ 121=some (.pointer none):=cy
def Ag:lw pQ 146=some dQ:=cy
section
variable{v c l mb md:Nat}{n:Int}
abbrev vr(W:Wt_)(v c l mb md:Nat)(n:Int):Prop:=hC W v #[fF c,eu l,.map (some mb),.map (some md),gQ n] zS
def ld0(W:Wt_)(h:vr W v c l mb md n):(iL 86 (bO v 0)).run pQ W=.ok (fF c) W:=by simp[go_sem,h,fF]
def ld1(W:Wt_)(h:vr W v c l mb md n):(iL 88 (bO v 1)).run pQ W=.ok (eu l) W:=by simp[go_sem,h,eu]
def ZJ(W:Wt_)(h:vr W v c l mb md n):(iL 90 (bO v 2)).run pQ W=.ok (.map (some mb)) W:=by simp[go_sem,h]
def VN(W:Wt_)(h:vr W v c l mb md n):(iL 91 (bO v 3)).run pQ W=.ok (.map (some md)) W:=by simp[go_sem,h]
def ld4(W:Wt_)(h:vr W v c l mb md n):(iL 37 (bO v 4)).run pQ W=.ok (gQ n) W:=by simp[go_sem,h]
def uf(i:Nat)(hi:i<5)(W:Wt_):(iF zS (bO v 0) i).run pQ W=.ok (bO v i) W:=by
 rcases(show i=0\/i=1\/i=2\/i=3\/i=4 by omega)with rfl|rfl|rfl|rfl|rfl<;>simp[go_sem]
end
def CE{w:Wt_}{K:aY}{v c l mb md:Nat}{n:Int}(h:vr w v c l mb md n)(a:K (.bool true) w):Ca pQ 42 #[dL v] w K:=by
 unfold dL;refine cN Tryz.func42 ?_;refine jZ ?_;simp only[cj];refine bh (uf 1 qZ _) (bh (ld1 _ h) ?_);apply ax (.bool true) w (by simp[go_sem,eu]);exact a
def cpy(S:bo)(C:List (Int×Nat))(D:List (Int×Value)):bo:=
 {S with bk:=λn=>if(lk C n).isSome then S.bk n else Bk.empty,bd:=λn=>if(lk D n).isSome then S.bd n else []}
def Tl{w W:Wt_}{K:aY}{S:bo}{c l mb md:Nat}{k Fl:NP_}{ac o al r:Nat}(m:M0 w W)(C:lW W c k S.cal)(z:ig W l Fl S.led)(A:eF eQ fa W mb ([]:List (Int×Nat)))(B:eF eQ xk W md ([]:List (Int×Value)))
  (bc:∀x,k x->ac<=x/\x<o)(g:∀x,Fl x->al<=x/\x<r)(I:w.heap.size<=ac/\w.heap.size<=al/\w.heap.size<=mb/\w.heap.size<=md)
  (d1:o<=al\/r<=ac)(d2:mb<ac\/o<=mb)(d3:md<ac\/o<=md)(N:mb<al\/r<=mb)(L:md<al\/r<=md)(J:mb≠md)
  (G:∀y s i,qN s y c l mb md [] [] i (cpy S [] [])->M0 w s->(∀p x,i p x->w.heap.size<=x)->K (dL y) s):
  rv pQ (Instr.box zS (.agg #[fF c,eu l,.map (some mb),.map (some md),gQ S.next])) W K:=by
 obtain⟨v,D⟩:=df W.heap.size;have f:M0 W (W.alloc (.cells #[fF c,eu l,.map (some mb),.map (some md),gQ S.next] zS)):=kU;have u:vr (W.alloc (.cells #[fF c,eu l,.map (some mb),.map (some md),gQ S.next] zS)) v c l mb md S.next:=by show hp _ _=_;rw[D];simp[go_sem]
 apply ax (dL v) (W.alloc (.cells #[fF c,eu l,.map (some mb),.map (some md),gQ S.next] zS)) (by rw[D];rfl);generalize W.alloc (.cells #[fF c,eu l,.map (some mb),.map (some md),gQ S.next] zS)=H at f u|-;let j:Pt->Nat->Prop:=λp=>match p with| .v=>λx=>x=v| .cal=>k| .led=>Fl| .mb=>λx=>x=mb| .md=>λx=>x=md| .bk _=>λ_=>False| .bd _=>λ_=>False
 have t:∀x,k x->x<W.heap.size:=λx e=>C.lt e;have E:∀x,Fl x->x<W.heap.size:=λx e=>z.lt e;have M:=A.lt;have ld:=B.lt;refine G v H j {blk:=u,cal:=C.mod f dS,led:=z.mod f dS,mbk:=A.mod f id,mbd:=B.mod f id,bk:=λn b F=>(by cases F),nbk:=λn _=>⟨rfl,λ_ h=>h⟩,bd:=λn=>gD.nil _ _ _,fv:=λ_=>aG,fmb:=λ_=>aG,fmd:=λ_=>aG,fbd:=λn x=>⟨λh=>h.elim,λh=>(by cases h)⟩,dj:=?_} (m.trans f) ?_
 ·have key:∀p q x,j p x->j q x->(match p,q with| .v,.v=>True| .cal,.cal=>True| .led,.led=>True| .mb,.mb=>True| .md,.md=>True|_,_=>False):=by
   intro p q x hp d;cases p<;>cases q<;>first|trivial|exact hp.elim|exact d.elim|skip
   all_goals (simp only[j]at hp d)
   all_goals first
    |(have a:=bc x hp;have b:=g x d;omega)
    |(have a:=g x hp;have b:=bc x d;omega)
    |(have a:=bc x hp;have b:=t x hp;omega)
    |(have a:=g x hp;have b:=E x hp;omega)
    |(have a:=bc x d;have b:=t x d;omega)
    |(have a:=g x d;have b:=E x d;omega)
    |omega
  intro p q x hp d;have:=key p q x hp d;cases p<;>cases q<;>first|rfl|exact this.elim|exact hp.elim|exact d.elim
 ·intro p x e;cases p
  ·grind
  ·have:=bc x e;omega
  ·have:=g x e;omega
  ·grind
  ·grind
  ·exact e.elim
  ·exact e.elim
def SC(S:bo):cpy S [] []={S with bk:=λ_=>Bk.empty,bd:=λ_=>[]}:=rfl
end Go.Proofs
set_option maxRecDepth 100000
set_option maxHeartbeats 1000000
namespace Go.Proofs
open Go Go.Vc
attribute [local congr] aZ
def Jv{c a b:LV_}{off:Nat}(h:off+a.length+b.length<=c.length):iC (iC c off a) (off+a.length) b=iC c off (a++b):=by
 unfold iC;have h1:(c.take off).length=off:=by grind
 have d:(c.take off++a).length=off+a.length:=by grind
 rw[List.take_left' d,mQ,ck qZ,eX,cB,ag];have e:off+a.length+(off+a.length+b.length - ((List.take off c).length+a.length))=off+(a++b).length:=by grind
 rw[e,aH (List.take off c) a b]
def ut:∀vs:List Value,(vs.flatMap λv=>v.cells.toList).length=(vs.map λv=>v.cells.size).sum
 | []=>rfl
 |v::vs=>by rw[bR,ag,ut vs,aD,bC];simp
def wL{place:Nat->Option (Nat×Nat)}:∀(vs:LV_) (d:List Nat) (k off:Nat) (c:LV_),vs.map (λv=>v.cells.size)=d->(∀j (h:j<d.length),place (k+j)=some (off+(d.take j).sum,d[j]))->off+d.sum<=c.length->
  Instr.fill place c.toArray ((vs.zipIdx k).map λp=>(p.2,p.1))=some (iC c off (vs.flatMap λv=>v.cells.toList)).toArray
 | [],d,k,off,c,h1,_,m=>by
  show some c.toArray=_;unfold iC;simp
 |v::vs,d,k,off,c,h1,e,m=>by
  cases d with
  |nil=>simp at h1
  |cons s d=>
  rw[aD]at h1;injection h1 with n i;rw[bC]at m;have f:=e 0 (by simp);simp only[dR,List.sum_nil,cx,eO]at f;rw[ng,aD];rw[qS f n qZ];have o:v.cells.toList.length=s:=by rw[<-n];simp
  rw[wL vs d (k+1) (off+s) _ i (λj q=>?_) (by rw[rk qZ];omega)]
  ·have g:(vs.flatMap λv=>v.cells.toList).length=d.sum:=by rw[ut,i]
   have:=Jv (c:=c) (off:=off) (a:=v.cells.toList) (b:=vs.flatMap λv=>v.cells.toList) qZ;rw[o]at this;rw[this,bR]
  ·have:=e (j+1) (by simp;omega);rw[show k+1+j=k+(j+1) by omega,this];simp only[gV,bC,il];congr 2;omega
abbrev qL:TypeId:=42
def wT(r:Rp)(sT sG sA:Vt_):Value:=.agg #[.int .i64 r.err,gQ r.num,gI r.filled,gI r.left,sT,sG,sA]
def CL(r:Rp)(sT sG sA:Vt_):List Value:=[.int .i64 r.err,gQ r.num,gI r.filled,gI r.left,sT,sG,sA]
abbrev yO(n:Int):List Value:=[.int .u32 n]
structure RpQ(w:Wt_)(sT sG sA:Vt_)(r:Rp):Prop where
 tr:gD w 148 4 sT r.trades.length (r.trades.flatMap Di)
 go:gD w 37 1 sG r.gone.length (r.gone.flatMap ua)
 ac:gD w 45 1 sA r.accts.length (r.accts.flatMap yO)
 d1:∀x,aK sT x->¬aK sG x
 d2:∀x,aK sT x->¬aK sA x
 d3:∀x,aK sG x->¬aK sA x
def VU{W:Wt_}{p:Nat}{cs:Array Value}{r:Rp}{sT sG sA:Vt_}(h:hC W p cs qL)(i:cs.size=7)(hs:(∃a n c,sT=.slice a n c)/\(∃a n c,sG=.slice a n c)/\∃a n c,sA=.slice a n c):
  ∃f,(iS qL (bO p 0) (wT r sT sG sA)).run pQ W=.ok () f/\hp f p=some (.cells (CL r sT sG sA).toArray qL (0,0))/\aS (λb=>b=p) W f:=by
 have g:cs.toList.length=7:=by simpa using i
 have j:Tryz.prog.cellsOf qL=6+1:=cy
 have d:(CL r sT sG sA).all (·.oneCell')=true:=by
  obtain⟨⟨_,_,_,rfl⟩,⟨_,_,_,rfl⟩,⟨_,_,_,rfl⟩⟩:=hs;rfl
 have e:=sy (P:=pQ) (t:=qL) (b:=p) (off:=0) (cs:=CL r sT sG sA) j rfl h (by show 0+7<=cs.size;omega) d;refine⟨W.setRow p (iC cs.toList 0 (CL r sT sG sA)).toArray,?_,?_,(aS.refl (λb=>b=p) W).setRow (.inl rfl) _⟩
 ·have:(oT qL (bO p 0) (wT r sT sG sA)).run pQ W=_:=e;unfold oT at this;exact this
 ·rw[xM,ae rfl,h,lR (by rw[g];rfl)]
def SP{W:Wt_}{p:Nat}{r:Rp}{sT sG sA:Vt_}{T:TypeId}(h:hC W p (CL r sT sG sA).toArray T):(iL qL (bO p 0)).run pQ W=.ok (wT r sT sG sA) W:=
 fK (P:=pQ) (t:=qL) (n:=6) cy cy rfl (At.all h)
def UM(W:Wt_):∃a,(iA qL true (.tuple #[])).run pQ W=.ok (bO W.heap.size 0) a/\hC a W.heap.size (CL jw dQ dQ dQ).toArray qL/\M0 W a:=
 ⟨W.alloc (.cells (CL jw dQ dQ dQ).toArray qL),by simp[go_sem,CL,jw,dQ],by simp[go_sem],(aS.refl _ W).alloc _⟩
def rO:(∃a n c,dQ=.slice a n c):=⟨none,0,0,rfl⟩
def Cl{w:Wt_}{K:aY}{e:Int}(j:∀f,M0 w f->K (wT (iZ e) dQ dQ dQ) f):Ca pQ 41 #[.int .i64 e] w K:=by
 refine cN Tryz.func41 ?_;obtain⟨g,h,d,m⟩:=UM w;apply bh h;obtain⟨p,a⟩:=df w.heap.size;rw[<-a]at d|-;apply ax (wT (iZ e) dQ dQ dQ) g (by simp[go_sem,wT,iZ,jw,dQ]);obtain⟨n,o,k,i⟩:=VU (r:=iZ e) d rfl ⟨rO,rO,rO⟩;refine gg o (cK (SP k) ?_);exact j n (m.on i λb q=>fM)
section
variable{w:Wt_}{K:aY}{v c l mb md:Nat}{A:List (Int×Nat)}{D:List (Int×Value)}{fp:Pt->Nat->Prop}{S:bo}
def lkB(h:pO w v c l mb md A D fp S){n:Int}(d:(cg S.cal.l n).isSome=true):∃b,lk A n=some b/\fU w b (fp (.bk n)) (S.bk n):=by
 have:=h.dom n;rw[d]at this;cases a:lk A n with
 |none=>rw[a]at this;cases this
 |some b=>exact⟨b,rfl,h.bk n b a⟩
def U2(b:rC S)(n a:Int):(0<=(S.opn n a).1/\(S.opn n a).1<=250000000)/\0<=(S.opn n a).2/\(S.opn n a).2<=250000000:=by
 have h:(S.bk n).all.length<=200:=by
  unfold Bk.all;rw[ag];have:=(b.side n true).1;have:=(b.side n false).1;omega
 have g:∀o∈(S.bk n).all,1<=o.left/\o.left<=1000000:=λo f=>by
  obtain⟨d,i⟩:=qJ.1 f;exact Od.left_bd ((b.bkMay n d o i).1)
 have e:∀o∈S.bd n,1<=o.left/\o.left<=1000000:=λo f=>Od.left_bd (b.bdMay n o f);have j:=b.bdl n;have m:=rR (a:=a) (buy:=true) g;have q:=rR (a:=a) (buy:=false) g;have p:=rR (a:=a) (buy:=true) e;have k:=rR (a:=a) (buy:=false) e;unfold bo.opn uc;simp only;omega
def Ym(p:Po)(W:Wt_):(Instr.field 124 (ox p) 2).run pQ W=.ok (gI p.q) W:=by
 simp[Instr.field,go_sem,part,isAgg,asAgg,ox]
def QC:iQ pQ 380=x9 ⟨BN,⟨0,0,false,false⟩,0,0,0,false,0,0⟩:=cy
def Ty(g:Gt):Tryz.prog.built 380 [(0,.agg (dD g.k).toArray),(1,kx g.a),(2,gI g.q),(3,gI g.buys),(4,gI g.sells),(5,.bool g.buy),(6,gI g.price),(7,gI g.qty)]=some (x9 g).toArray:=by
 have h1:∀a,Tryz.prog.built 380 a=Instr.fill (λi=>#[(0,27),(27,4),(31,1),(32,1),(33,1),(34,1),(35,1),(36,1)][i]?) (iQ pQ 380).toArray a:=λa=>by kernel_rfl
 rw[h1]
 have:=wL (place:=λi=>#[(0,27),(27,4),(31,1),(32,1),(33,1),(34,1),(35,1),(36,1)][i]?) [.agg (dD g.k).toArray,kx g.a,gI g.q,gI g.buys,gI g.sells,.bool g.buy,gI g.price,gI g.qty] [27,4,1,1,1,1,1,1] 0 0 (iQ pQ 380)
  (by show [(dD g.k).toArray.size,4,1,1,1,1,1,1]=_;rw[cI,bV]) (by
   intro j d
   match j,d with
   |0,_=>rfl
   |1,_=>rfl
   |2,_=>rfl
   |3,_=>rfl
   |4,_=>rfl
   |5,_=>rfl
   |6,_=>rfl
   |7,_=>rfl) (by rw[QC,wB];decide)
 apply this.trans
 have b:([.agg (dD g.k).toArray,kx g.a,gI g.q,gI g.buys,gI g.sells,.bool g.buy,gI g.price,gI g.qty]:LV_).flatMap (λv=>v.cells.toList)=x9 g:=by
  simp[x9,kx,db,Value.cells]
 rw[b,lR (by rw[QC,wB,wB])]
def nC(S:bo)(a:Int):(S.led.getV a)=(S.acc a,if S.led.getO a=none then 7 else 0):=by
 unfold bE.getV bo.acc;cases S.led.getO a<;>simp
end
end Go.Proofs
namespace Go.Proofs
open Go Go.Vc
def Cf{C:oe}(h:C.Ok){k:Ct}(b:k∈C.l):cg C.l k.spec.num=some k:=by
 unfold cg;have:=h.srt;rw[dJ];obtain⟨i,a,rfl⟩:=bM b;refine⟨by simp,i,a,rfl,λj c=>?_⟩;have:=bL.1 this j i qZ a c;simp;omega
end Go.Proofs
set_option maxRecDepth 100000
set_option maxHeartbeats 1000000
namespace Go.Proofs
open Go Go.Vc
attribute [local congr] aZ
def Im{α:Type}{P:Program}{t e:TypeId}{k by_:Nat}{w:Wt_}{K:aY}{s xv:Vt_}{l:List α}{x:α}{f:α->List Value}(g:P.underlying t=some (.slice e))(m:vi P e k by_)(z:∀x,(f x).length=k)(j:(f x).all (·.oneCell')=true)
  (E:xv.cells.toList=f x)(hs:gD w e k s l.length (l.flatMap f))(u:(l.length+1)*by_<=140737488355328)(F:k<=1000)
  (y:∀a d,gD d e k a (l++[x]).length ((l++[x]).flatMap f)->aS (aK s) w d->(∀b,aK a b->aK s b\/w.heap.size<=b)->K a d):
  rx P (pN t 1 [(0,xv)]) w λv o=>rx P (eZ #[t,t] t [s,v]) o K:=by
 have H:xv.cells.size=k:=by grind
 refine nK [xv] g m rfl rfl (by grind) qZ ?_;have q:(([xv]:LV_).flatMap (·.cells.toList)).toArray=(f x).toArray:=by simp[E]
 rw[q];have n:M0 w (w.alloc (.cells (f x).toArray e)):=kU
 have r:Rd (w.alloc (.cells (f x).toArray e)) k (.slice (some ⟨w.heap.size,0,none⟩) 1 1) 1 (f x):=
  ⟨by rw[z];omega,.inr ⟨_,0,1,rfl,az _,At.all (bT (by rw[ec,ae rfl]))⟩⟩
 refine jJ g g m (hs.mod n dS) r j u λa d B C p=>?_;refine y a d ?_ ((n.to (G:=aK s)).trans C) λb i=>?_
 ·rw[cJ,ag];simpa using B
 ·rcases p b i with h|h
  ·exact .inl h
  ·rw[cm]at h;exact fM
def FW{α:Type}(T:TypeId)(fc:α->List Value)(a:α)(v:Vt_)(q:Nat)(W:Wt_):Prop:=v=.pointer (some ⟨q,0,none⟩)/\hC W q (fc a).toArray T
def Ec{α:Type}{T:TypeId}{fc:α->List Value}:∀(a:α) v q W b H,FW T fc a v q W->aS H W b->¬H q->FW T fc a v q b:=by
 rintro a v q W b H ⟨rfl,f⟩ d e;exact⟨rfl,d.hpk f e⟩
def KA{xs:List Ct}:∀k∈xs,∀(W:Wt_) (K:Value->World->Prop),(∀a v,FW kP dD k v W.heap.size a->M0 W a->K v a)->
  rx pQ (tW kP) W λv d=>vD pQ (oT kP v (.agg (dD k).toArray)) d λa=>K v a:=λk _ W K e=>ON λa b m=>e a _ ⟨rfl,b⟩ m
def AB{α:Type}{T:TypeId}{fv:α->Value}{fc:α->List Value}{xs:List α}(j:nQ T fv fc xs):∀a∈xs,∀(W:Wt_) (K:Value->World->Prop),(∀b v,FW T fc a v W.heap.size b->M0 W b->K v b)->
  rv pQ (iA T true (.tuple #[])) W λv d=>ru pQ (iS T v (fv a)) d λb=>K v b:=λa k W K f=>by
 obtain⟨d,b,g,h,e,i⟩:=j a k W;exact bh g (gg h (f b _ ⟨rfl,e⟩ i))
def Ua(p:Po)(W:Wt_):∃a d,(iA 124 true (.tuple #[])).run pQ W=.ok (bO W.heap.size 0) a/\(iS 124 (bO W.heap.size 0) (ox p)).run pQ a=.ok () d/\hC d W.heap.size (dy p).toArray 124/\M0 W d:=by
 obtain⟨a,b⟩:=df (W.alloc (.cells #[.int .u32 0,gU 0,gI 0,gI 0] 124));have f:M0 W a:=by rw[b];exact(aS.refl _ W).alloc _
 have e:hC a W.heap.size #[.int .u32 0,gU 0,gI 0,gI 0] 124:=by rw[b];simp[go_sem]
 refine⟨a,(((a.setCell ⟨W.heap.size,0,none⟩ (gU p.c)).setCell ⟨W.heap.size,1,none⟩ (gU p.a)).setCell ⟨W.heap.size,2,none⟩ (gI p.q)).setCell ⟨W.heap.size,3,none⟩ (gI p.b),by rw[b];simp[go_sem],by simp[go_sem,e,ox],by simp[go_sem,e,dy],?_⟩;exact f.on (((((aS.refl (λx=>x=W.heap.size) a).sc).sc).sc).sc) λx g=>fM
def Uq(p:Ac)(W:Wt_):∃a d,(iA 100 true (.tuple #[])).run pQ W=.ok (bO W.heap.size 0) a/\(iS 100 (bO W.heap.size 0) (kx p)).run pQ a=.ok () d/\hC d W.heap.size (db p).toArray 100/\M0 W d:=by
 obtain⟨a,b⟩:=df (W.alloc (.cells #[.int .u32 0,gI 0,.bool false,.bool false] 100));have f:M0 W a:=by rw[b];exact(aS.refl _ W).alloc _
 have e:hC a W.heap.size #[.int .u32 0,gI 0,.bool false,.bool false] 100:=by rw[b];simp[go_sem]
 refine⟨a,(((a.setCell ⟨W.heap.size,0,none⟩ (gU p.num)).setCell ⟨W.heap.size,1,none⟩ (gI p.cash)).setCell ⟨W.heap.size,2,none⟩ (.bool p.kil)).setCell ⟨W.heap.size,3,none⟩ (.bool p.dfl),by rw[b];simp[go_sem],by simp[go_sem,e,kx],by simp[go_sem,e,db],?_⟩;exact f.on (((((aS.refl (λx=>x=W.heap.size) a).sc).sc).sc).sc) λx g=>fM
def nQ.ac{xs:List Ac}:nQ 100 kx db xs:=λa _ W=>Uq a W
def nQ.po{xs:List Po}:nQ 124 ox dy xs:=λa _ W=>Ua a W
def Vb:Lg:=⟨BI,0⟩
def JC:iQ pQ 412=tV Vb:=cy
def Ob:iQ pQ t6=pK (⟨Vb,0,0,[]⟩,dQ):=cy
def Tf(s:Sp)(q:Int):Tryz.prog.built 412 [(0,.agg (fC s).toArray),(1,gI q)]=some (tV ⟨s,q⟩).toArray:=by
 have h1:∀a,Tryz.prog.built 412 a=Instr.fill (λi=>#[(0,25),(25,1)][i]?) (iQ pQ 412).toArray a:=λa=>by kernel_rfl
 rw[h1]
 have:=wL (place:=λi=>#[(0,25),(25,1)][i]?) [.agg (fC s).toArray,gI q] [25,1] 0 0 (iQ pQ 412)
  (by show [(fC s).toArray.size,1]=_;rw[cI,bG]) (by
   intro j d
   match j,d with
   |0,_=>rfl
   |1,_=>rfl) (by rw[JC,gM];decide)
 apply this.trans;have b:([.agg (fC s).toArray,gI q]:LV_).flatMap (λv=>v.cells.toList)=tV ⟨s,q⟩:=by simp[tV,Value.cells]
 rw[b,lR (by rw[JC,gM,gM])]
def SM(g:Lg)(b p:Int):Tryz.prog.built t6 [(0,.agg (tV g).toArray),(1,gI b),(2,gI p)]=some (pK (⟨g,b,p,[]⟩,dQ)).toArray:=by
 have h1:∀a,Tryz.prog.built t6 a=Instr.fill (λi=>#[(0,26),(26,1),(27,1),(28,1)][i]?) (iQ pQ t6).toArray a:=λa=>by kernel_rfl
 rw[h1]
 have:=wL (place:=λi=>#[(0,26),(26,1),(27,1),(28,1)][i]?) [.agg (tV g).toArray,gI b,gI p] [26,1,1] 0 0 (iQ pQ t6)
  (by show [(tV g).toArray.size,1,1]=_;rw[cI,gM]) (by
   intro j f
   match j,f with
   |0,_=>rfl
   |1,_=>rfl
   |2,_=>rfl) (by rw[Ob,oJ];decide)
 apply this.trans;have d:([.agg (tV g).toArray,gI b,gI p]:LV_).flatMap (λv=>v.cells.toList)=tV g++[.int .i64 b,gI p]:=by simp[Value.cells]
 rw[d];unfold iC
 have e:(pK (⟨Vb,0,0,[]⟩,dQ)).drop (0+(tV g++[Value.int .i64 b,Value.int .i64 p]).length)=[dQ]:=by
  rw[ag,gM];rfl
 rw[Ob,e];simp[pK]
section
variable{w:Wt_}{K:aY}{v c l mb md:Nat}{A:List (Int×Nat)}{D:List (Int×Value)}{fp:Pt->Nat->Prop}{S:bo}
def tz(S:bo)(a:Int)(i:Nat):List kY:=((S.cal.l.take i).filter λk=>decide (k.st≠3)).map (S.stake a)
def DZ{S:bo}{a:Int}{i:Nat}(hi:i<S.cal.l.length):tz S a (i+1)=tz S a i++(if S.cal.l[i].st=3 then []else [S.stake a S.cal.l[i]]):=by
 unfold tz;rw[cq hi,cw,aM];congr 1;by_cases h:S.cal.l[i].st=3
 ·grind
 ·grind
def KG(b:S.Ok){a:Int}{k:Ct}(f:k∈S.cal.l):(S.stake a k).Fit/\(S.stake a k).ords.length<=250:=by
 have d:=b.led.led.position k.spec.num a;unfold MP MF at d;have e:=(b.cal.ok k f).1;refine⟨⟨e.1,⟨by show _<=(S.led.position _ _).q;omega,by show(S.led.position _ _).q<_;omega⟩,⟨by show _<=(S.led.position _ _).b;omega,by show(S.led.position _ _).b<_;omega⟩,e.2.2,λo g=>?_⟩,?_⟩
 ·rcases bm.1 g with h|h
  ·exact(b.ord.std _ o (cY _ (aT.1 h).1)).fit
  ·exact(b.ord.std _ o (iW (aT.1 h).1)).fit
 ·show(List.filter _ _++List.filter _ _).length<=250;rw[ag];have h1:=bi (kO a) (S.bk k.spec.num).all;have i:=bi (kO a) (S.bd k.spec.num);have m:=b.ord.bdl k.spec.num
  have j:(S.bk k.spec.num).all.length<=200:=by
   unfold Bk.all;rw[ag];have:=(b.ord.side k.spec.num true).1;have:=(b.ord.side k.spec.num false).1;omega
  omega
end
end Go.Proofs
namespace Go.Vc
open Go Go.Proofs
section
variable{P:Program}{A A' C:As}{L M:List As}{k:Value->WP}{k0:WP}{w w' :Wt_}
def Gs.old{α:Type}{φ:(Value->WP)->WP}{val:α->Value}{p:α->Prop}{B:α->As}(c:∀w F,Ss w L->A.P w F->∀K:aY,(∀x w' d,p x->(B x).P w' d->aS F w w' ->(∀y,d y->F y\/w.heap.size<=y)->K (val x) w')->φ K w)
  (j:∀x,p x->Gs (B x::M) (k (val x)))(f:dV L (A::M)):Gs L (φ k):=⟨λw y=>by
 obtain⟨F,z⟩:=y;obtain⟨l,i,h1,g,h⟩:=Ss.cons.1 (⟨F,(f.out w F).1 z⟩:Ss w (A::M));refine c w l ⟨F,z⟩ h1 k λx w' d hp q m o=>(j x hp).go w' (Ss.cons.2 ⟨d,i,q,g.md m λb a c=>h b c a,λb a c=>?_⟩);rcases o b a with a|a
 ·exact h b a c
 ·have:=g.lt c;omega⟩
def Gs.nw{α:Type}{φ:(Value->WP)->WP}{val:α->Value}{p:α->Prop}{B:α->As}(f:∀w,Ss w L->∀K:aY,(∀x w' a,p x->(B x).P w' a->M0 w w' ->(∀y,a y->w.heap.size<=y)->K (val x) w')->φ K w)(c:∀x,p x->Gs (B x::L) (k (val x))):Gs L (φ k):=
 ⟨λw y=>f w y k λx w' a hp d m g=>(c x hp).go w' (y.new m d g)⟩
def As.mul(A B:As):As:=⟨λw F=>∃F1 F2,A.P w F1/\B.P w F2/\(∀b,F1 b->¬F2 b)/\∀b,F b↔F1 b\/F2 b,
 λ⟨F1,F2,h1,h2,_,h4⟩ hb=>((h4 _).1 hb).elim (A.lt h1) (B.lt h2),λ⟨F1,F2,h1,h2,h3,h4⟩ m hg=>⟨F1,F2,A.md h1 m λb hb=>hg b ((h4 b).2 (.inl hb)),B.md h2 m λb hb=>hg b ((h4 b).2 (.inr hb)),h3,h4⟩⟩
def Nx:dV (A.mul C::L) (A::C::L):=⟨λw F=>⟨λ⟨q,j,⟨F3,g,p,o,i,d⟩,l,h,f⟩=>⟨F3,λb=>g b\/j b,p,⟨g,j,o,l,λb a c=>h b ((d b).2 (.inr a)) c,λ_=>aG⟩,λb a c=>by
 rcases c with c|c
 ·exact i b a c
 ·exact h b ((d b).2 (.inl a)) c,λb=>by rw[f,d,or_assoc]⟩,
 λ⟨F3,F5,p,⟨g,j,o,l,h,f⟩,i,d⟩=>⟨λb=>F3 b\/g b,j,⟨F3,g,p,o,λb a c=>i b a ((f b).2 (.inl c)),λ_=>aG⟩,l,λb a c=>by
 rcases a with a|a
 ·exact i b a ((f b).2 (.inr c))
 ·exact h b a c,λb=>by rw[d,f,or_assoc]⟩⟩⟩
def Gs.fact{p:Prop}{φ:WP}(a:∀w F,A.P w F->p)(h:p->Gs (A::L) φ):Gs (A::L) φ:=⟨λw y=>by
 obtain⟨c,g,h1,d,f⟩:=Ss.cons.1 y;exact(h (a w c h1)).go w y⟩
def CA(w0:Wt_)(X:NP_):As:=⟨λw F=>(∀b,F b↔b<w0.heap.size/\¬X b)/\aS X w0 w,λh hb=>by have:=h.2.size;have:=(h.1 _).1 hb;omega,λh m hg=>⟨h.1,ci h.2.size m.size,m.out.trans h.2.out,m.os.trans h.2.os,λb hb hx=>(m.blk b (bJ hb h.2.size) (hg b ((h.1 b).2 ⟨hb,hx⟩))).trans (h.2.blk b hb hx)⟩⟩
def Gs.from{F:NP_}{φ:WP}(h:A.P w F)(g:Gs (A::CA w F::[]) φ):φ w:=
 g.go w (Ss.cons.2 ⟨F,_,h,⟨λb=>b<w.heap.size/\¬F b,λ_=>False,⟨λ_=>aG,aS.refl _ _⟩,λ_ h=>h,dS,λb=>⟨.inl,λh=>h.elim id False.elim⟩⟩,λb h1 a=>a.2 h1⟩)
def Ss.frz{F:NP_}(h:Ss w' (A::CA w F::L)):∃a,A.P w' a/\aS F w w' /\∀y,a y->F y\/w.heap.size<=y:=by
 obtain⟨l,p,h1,⟨F3,q,⟨o,f⟩,r,B,g⟩,d⟩:=Ss.cons.1 h;refine⟨l,h1,f,λy j=>aI λc=>?_⟩;have:F3 y:=(o y).2 ⟨aI λz=>c (.inr qZ),λi=>c (.inl i)⟩;exact d y j ((g y).2 (.inl this))
def Gs.j{S α:Type}{a:(S->WP)->WP}{b:S->WP}(st:α->S)(c:α->List As)(p:α->Prop)(f:∀J:S->WP,(∀x,p x->Gs (c x) (J (st x)))->Gs L (a J))(g:∀x,p x->Gs (c x) (b (st x))):Gs L (Jw a b):=⟨λw y=>
 cG.at (A:=λJ=>a J w) (B:=b) (λs w=>∃x,p x/\s=st x/\Ss w (c x)) ((f (λs w=>∃x,p x/\s=st x/\Ss w (c x)) λx d=>⟨λw z=>⟨x,d,rfl,z⟩⟩).go w y) λs w ⟨x,d,e,z⟩=>by rw[e];exact(g x d).go w z⟩
def Gs.j1{S:Type}{a:(S->WP)->WP}{b:S->WP}(st:S)(c:∀J:S->WP,Gs L (J st)->Gs L (a J))(f:Gs L (b st)):Gs L (Jw a b):=
 Gs.j (λ_:Unit=>st) (λ_=>L) (λ_=>True) (λJ d=>c J (d () trivial)) λ_ _=>f
def Gs.z(h:Gs L k0):Gs L (Zw k0):=⟨λw x _=>h.go w x⟩
def He{p:NP_}(h:∃n,p n):∃n,p n/\∀m,p m->n<=m:=by
 obtain⟨n,g⟩:=h;induction n using Nat.strongRecOn with
 |_ n c=>
  by_cases a:∃m,m<n/\p m
  ·obtain⟨m,h1,d⟩:=a;exact c m h1 d
  ·exact⟨n,g,λm h=>jg λf=>a ⟨m,f,h⟩⟩
def Gs.l{S α:Type}{body:S->(S->WP)->WP}{s:S}(st:α->S)(m:α->Nat)(d:α->List As)(p:α->Prop)(c:α)(e:s=st c)(r:p c)
  (h:∀x,p x->∀K:S->WP,(∀y,p y->m y<m x->Gs (d y) (K (st y)))->Gs (d x) (body (st x) K))(i:dV L (d c)):Gs L (Lw body s):=⟨λw z=>by
 classical
 let I:S->World->Nat->Prop:=λs w n=>∃x,p x/\s=st x/\m x=n/\Ss w (d x);let f:S->World->Nat:=λs w=>if h:∃n,I s w n then Classical.choose (He h)else 0
 refine X3 (λs w=>∃n,I s w n) f ⟨m c,c,r,e,rfl,z.out.elim λF y=>⟨F,(i.out w F).1 y⟩⟩ λs w o=>?_;obtain⟨x,G,e,H,E⟩:=(Classical.choose_spec (He o)).1;rw[e];refine(h x G (λj w' =>(∃n,I j w' n)/\f j w' <f (st x) w) λy q g=>⟨λw' l=>?_⟩).go w E;have a:∃n,I (st y) w' n:=⟨m y,y,q,rfl,rfl,l⟩
 have B:f (st x) w=m x:=by
  have:∃n,I (st x) w n:=e▸o;show(if h:∃n,I (st x) w n then Classical.choose (He h)else 0)=_;rw[pu this,H];congr 1;rw[e]
 refine⟨a,?_⟩;rw[B];show(if h:∃n,I (st y) w' n then Classical.choose (He h)else 0)<_;rw[pu a];exact fd ((Classical.choose_spec (He a)).2 _ ⟨y,q,rfl,rfl,l⟩) g⟩
def ow(s:Vt_)(T:TypeId)(sz n:Nat)(cs:LV_):As:=⟨λw F=>gD w T sz s n cs/\∀b,F b↔aK s b,λh hb=>h.1.lt ((h.2 _).1 hb),λh m hg=>⟨h.1.mod m λb hb=>hg b ((h.2 b).2 hb),h.2⟩⟩
def rd(s:Vt_)(sz n:Nat)(cs:LV_):As:=⟨λw F=>Rd w sz s n cs/\∀b,F b↔vw s b,λh hb=>h.1.lt ((h.2 _).1 hb),λh m hg=>⟨h.1.mod m λb hb=>hg b ((h.2 b).2 hb),h.2⟩⟩
def jF(h:dV L (A::M))(x:Ss w L):∃F,A.P w F:=by
 obtain⟨F,z⟩:=x;obtain⟨a,c,h1,-⟩:=(h.out w F).1 z;exact⟨a,h1⟩
section
variable{s x:Vt_}{e T t u ty e' :TypeId}{sz by_ n m:Nat}{cs news:LV_}
def V2(h:dV L (ow s T sz n cs::M)):∀w,Ss w L->gD w T sz s n cs:=λw x=>(jF h x).elim λ_ h=>h.1
def mO(h:dV L (ow s T sz n cs::M)):∀w,Ss w L->Rd w sz s n cs:=λw x=>(V2 h w x).rd
def Gs.nil{φ:WP}(T:TypeId)(sz:Nat)(h:Gs (ow (.slice none 0 0) T sz 0 []::L) φ):Gs L φ:=⟨λw y=>h.go w (y.new (aS.refl _ w) (F' :=λ_=>False) ⟨gD.nil w T sz,λb=>⟨False.elim,λh=>by cases h⟩⟩ λ_ h=>h.elim)⟩
def Gs.nilF{φ:WP}{α:Type}(T:TypeId)(sz:Nat)(f:α->List Value)(h:Gs (ow (.slice none ([]:List α).length 0) T sz ([]:List α).length (([]:List α).flatMap f)::L) φ):Gs L φ:=Gs.nil T sz h
def Gs.app(g:P.underlying t=some (.slice e))(E:P.underlying u=some (.slice e'))(r:gP P e sz by_=true)(G:∀w,Ss w L->Rd w sz x m news)(h1:news.all (·.oneCell')=true)(i:(n+m)*by_<=140737488355328)
  (j:∀a c,Gs (ow (.slice a (n+m) c) e sz (n+m) (cs++news)::M) (k (.slice a (n+m) c)))(f:dV L (ow s e sz n cs::M)):Gs L (Xw P (eZ #[t,u] ty [s,x]) k):=
 Gs.old (A:=ow s e sz n cs) (φ:=λk=>Xw P (eZ #[t,u] ty [s,x]) k) (val:=λy:Option Addr×Nat=>.slice y.1 (n+m) y.2) (p:=λ_=>True) (B:=λy=>ow (.slice y.1 (n+m) y.2) e sz (n+m) (cs++news))
  (λw F q d K l=>jJ g E (dp r) d.1 (G w q) h1 i λH w' o md nw=>by
   obtain⟨a,c,rfl,-⟩:=o.isSl;exact l (a,c) w' (aK _) trivial ⟨o,λ_=>aG⟩ (md.mono λb _ h=>(d.2 b).2 h) λy z=>(nw y z).imp (d.2 y).2 id) (λy _=>j y.1 y.2) f
def Gs.push{α:Type}{l:List α}{xv:Vt_}{x:α}{f:α->List Value}(j:P.underlying t=some (.slice e))(G:gP P e sz by_=true)(H:∀x,(f x).length=sz)(i:(f x).all (·.oneCell')=true)(J:xv.cells.toList=f x)(q:(l.length+1)*by_<=140737488355328)(E:sz<=1000)
  (r:∀a c,Gs (ow (.slice a (l++[x]).length c) e sz (l++[x]).length ((l++[x]).flatMap f)::M) (k (.slice a (l++[x]).length c)))(g:dV L (ow s e sz l.length (l.flatMap f)::M)):Gs L (Xw P (pN t 1 [(0,xv)]) λv=>Xw P (eZ #[t,t] t [s,v]) k):=
 Gs.old (A:=ow s e sz l.length (l.flatMap f)) (φ:=λk=>Xw P (pN t 1 [(0,xv)]) λv=>Xw P (eZ #[t,t] t [s,v]) k) (val:=λy:Option Addr×Nat=>.slice y.1 (l++[x]).length y.2) (p:=λ_=>True) (B:=λy=>ow (.slice y.1 (l++[x]).length y.2) e sz (l++[x]).length ((l++[x]).flatMap f))
  (λw F O d K z=>Im j (dp G) H i J d.1 q E λN w' o md nw=>by
   obtain⟨a,c,rfl,-⟩:=o.isSl;exact z (a,c) w' (aK _) trivial ⟨o,λ_=>aG⟩ (md.mono λb _ h=>(d.2 b).2 h) λy I=>(nw y I).imp (d.2 y).2 id) (λy _=>r y.1 y.2) g
end
section
variable{κ ν:Type} [DecidableEq κ]{enc:κ->Value}{ev:ν->Value}{t kt e:TypeId}{b:Nat}{D:List (κ×ν)}{x:κ}{v:ν}
def mp(enc:κ->Value)(ev:ν->Value)(b:Nat)(D:List (κ×ν)):As:=⟨λw F=>eF enc ev w b D/\∀x,F x↔x=b,λh hb=>by rw[(h.2 _).1 hb];exact h.1.lt,λh m hg=>⟨h.1.mod m (hg b ((h.2 b).2 rfl)),h.2⟩⟩
def Zs(h:dV L (mp enc ev b D::M)):∀w,Ss w L->yW enc ev w (.map (some b)) D:=λw x=>(jF h x).elim λ_ h=>.inr ⟨b,rfl,h.1⟩
def Gs.look(z:Vt_)(f:P.underlying t=some (.map kt e))(a:qK P kt enc)(g:lw P e=some z)(d:Gs L (k ((lk D x).elim z ev)))(c:dV L (mp enc ev b D::M)):Gs L (Xw P (ju t (.map (some b)) (enc x) false) k):=
 ⟨λw y=>wo z f a g (Zs c w y) (d.go w y)⟩
def Gs.mup(g:P.underlying t=some (.map kt e))(a:qK P kt enc)(i:Gs (mp enc ev b (put D x v)::M) k0)(c:dV L (mp enc ev b D::M)):Gs L (Yw P (qw t (.map (some b)) (enc x) (ev v)) k0):=⟨λw y=>by
 obtain⟨F,z⟩:=y;obtain⟨l,h,h1,f,d⟩:=Ss.cons.1 (⟨F,(c.out w F).1 z⟩:Ss w (mp enc ev b D::M));refine gL g a h1.1 λw' o m _=>i.go w' (Ss.cons.2 ⟨l,h,⟨o,h1.2⟩,f.md m λy j p=>d y ((h1.2 y).2 p) j,d⟩)⟩
end
section
variable{b n:Nat}{cs xs:LV_}{t T:TypeId}{x:Vt_}{parts:Array (Nat×Value)}{cells:Array Value}
def Gs.bvar{k:Value->WP}(o:mG P t=true)(l:P.cellsOf t=n+1)(c:xs.length=n+1)(a:(iQ P t).length=n+1)(h1:xs.all (·.oneCell')=true)(f:∀b,Gs (pt b xs t::L) (k (bO b 0))):
  Gs L (Xw P (tW t) λv=>Yw P (oT t v (.agg xs.toArray)) (k v)):=⟨λw y=>by
 refine nE o ⟨?_⟩;have d:hp (w.alloc (.cells (iQ P t).toArray t)) w.heap.size=some (.cells (iQ P t).toArray t (0,0)):=by rw[xh,ae rfl]
 obtain⟨w',g,j,h⟩:=Bn (P:=P) (t:=t) (i:=0) (cs' :=xs) c l (by rw[c,a];omega) h1 (lR (by rw[c,a])) d;refine gg g ((f _).go w' (y.new (F' :=λy=>y=w.heap.size) (((aS.refl (λ_=>False) w).alloc _).on h λb d=>.inr qZ) ⟨j,λ_=>aG⟩ λb d=>qZ))⟩
def ky(a:dV L (pt b cs T::M))(d:lI P t=true)(f:P.cellsOf t=n+1)(c:cs.length=n+1):∀w,Ss w L->(qm t (bO b 0)).run P w=.ok (.agg cs.toArray) w:=λw y=>
 fK d f c (At.all (tG a y))
def Gs.bB{k:Value->WP}(h:P.built t parts.toList=some cells)(a:Gs L (k (.agg cells))):Gs L (Xw P (Bs t parts) k):=⟨λw y=>lS h (a.go w y)⟩
def Gs.bBP{k:Value->WP}(h:P.built t parts.toList=some cells)(a:Gs L (k (.agg cells))):Gs L (PXw P (Bs t parts) k):=⟨λw y=>xN h (a.go w y)⟩
end
end
end Go.Vc
