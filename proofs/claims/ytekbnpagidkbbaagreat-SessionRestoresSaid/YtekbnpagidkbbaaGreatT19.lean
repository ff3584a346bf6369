/- Part of a proof. -/
import Derived.Test.YtekbnpagidkbbaaGreatT18
set_option linter.all false
set_option maxRecDepth 100000
set_option maxHeartbeats 4000000
namespace Go.Proofs
open Go Go.Vc
attribute [local congr] bj
variable {w:Wt_}
abbrev zH:TypeId:=354
def ye(n:Nd):List Value:=[.int .i64 n.m,gI n.w,gI n.u]
def NV(n:Nd):Value:=.agg (ye n).toArray
def IB:Nd:=⟨0,0,0⟩
def WR{W:Wt_}{x:kW×Value}{K:Value->World->Prop}(h:∃a n c,x.2=.slice a n c)(e:∀b,hC b W.heap.size (pH x).toArray ub->M0 W b->K (cU W.heap.size 0) b):
  rx pQ (vR ub) W λv d=>DD pQ (ur ub v (.agg (pH x).toArray)) d λb=>K v b:=by
 apply uV 28 zSk Zi (oN x) ap0 (EL x h);exact e _ (by simp[go_sem]) nl
def ag7{s:Vt_}{L:List (kW×Value)}(h:Rd w 29 s L.length (L.flatMap pH)){i:Nat}(hi:i<L.length):
  ∃p,(iX 410 s (gI (i:Int))).run pQ w=.ok p w/\(pp ub p).run pQ w=.ok (.agg (pH L[i]).toArray) w:=by
 obtain⟨b,a,e,c,d,f⟩:=h.item oN hi rfl;exact⟨.pointer (some ⟨b,a+i*29,none⟩),by rw[c];simp[go_sem,hi,bQ,ae0],ft aSk Zi (oN _) f⟩
def aa1{b:Nat}{T:TypeId}{x:kW×Value}(h:hC w b (pH x).toArray T):At w b 0 (t8 x.1.leg):=by
 have:=(At.all h).sub 0 26 (by rw[oN];omega);rw[dO,pH,aP (by rw[gL];omega),ay (by rw[gL];omega)]at this;exact this
def vB{α β:Type}{l:List α}{f:α->β}{i:Nat}(hi:i<l.length):(l.take (i+1)).map f=(l.take i).map f++[f l[i]]:=by
 rw[bV hi,aK];rfl
def CY(l:List Int)(x:Int):(l++[x]).sum=l.sum+x:=by simp
def Eg{l:List kW}(h:∀s∈l,s.ok=true):0<=(l.map kW.worst).sum/\(l.map kW.worst).sum<=l.length*12500000000000000:=by
 have:=rK (l:=l.map kW.worst) (B:=12500000000000000) λx b=>by
  obtain⟨s,a,rfl⟩:=aD.1 b;exact kW.worst_bd (h s a)
 rwa[af]at this
def ZS{s:kW}(h:s.ok=true): -1100000000000000<=s.u/\s.u<=1100000000000000/\ -100000000000000<=s.leg.q*s.price/\s.leg.q*s.price<=100000000000000:=by
 obtain⟨f,c,i,e,g,d⟩:=kW.okF h;have:=Eb (a:=s.leg.q) (b:=s.price) (A:=10000000) (B:=10000000) c qZ;unfold kW.u;omega
def Qu:∀{l:List kW},(∀s∈l,s.ok=true)-> -(l.length*1100000000000000:Int)<=(l.map kW.u).sum/\(l.map kW.u).sum<=l.length*1100000000000000
 | [],_=>by simp
 |s::l,h=>by
  have c:=ZS (h s ai);have b:=Qu (l:=l) λx a=>h x (ae _ a);rw[aH,bp,aR];omega
def ai5(n:Nd){W:Wt_}{p:Nat}{cs:Array Value}(h:hC W p cs zH)(e:cs.size=3):∃d,(iS zH (cU p 0) (NV n)).run pQ W=.ok () d/\hC d p (ye n).toArray zH/\bn (λb=>b=p) W d:=by
 obtain⟨a,b,c,rfl⟩:∃a b c,cs= #[a,b,c]:=by
  obtain⟨l⟩:=cs
  match l,e with
  | [a,b,c],_=>exact⟨a,b,c,rfl⟩
 refine⟨((W.setCell ⟨p,0,none⟩ (gI n.m)).setCell ⟨p,1,none⟩ (gI n.w)).setCell ⟨p,2,none⟩ (gI n.u),by simp[go_sem,h,NV,ye],by simp[go_sem,h,ye],?_⟩;exact(((bn.refl (λx=>x=p) W).sc).sc).sc
def XO(n:Nd){W:Wt_}{p:Nat}(h:hC W p (ye n).toArray zH):(iL zH (cU p 0)).run pQ W=.ok (NV n) W:=by
 unfold ye at h;simp[go_sem,h,NV,ye]
def Qg{K:be}{s:Vt_}{L:List (kW×Value)}(h:Rd w 29 s L.length (L.flatMap pH))(hn:L.length<=100000)
  (hL:∀x∈L,x.1.Fit/\x.1.ords.length<=1000000/\Rd w 5 x.2 x.1.ords.length (x.1.ords.flatMap dp))
  (hK:∀w',M0 w w' ->K (.tuple #[NV (oZ (L.map (·.1))).1,gI (oZ (L.map (·.1))).2]) w'):Ca pQ 301 #[s] w K:=by
 refine cN Tryz.func301 ?_;obtain⟨sa,sc,hs⟩:=h.isSl;have r:∀{W:Wt_},(builtin .len #[410] 3 #[false] #[s]).run pQ W=.ok (.value (gI (L.length:Int))) W:=λ{W}=>by rw[hs];simp[go_sem]
 obtain⟨p,hp0⟩:=dW w.heap.size;have m1:M0 w (w.alloc (.cells (ye IB).toArray zH)):=nl;have b1:hC (w.alloc (.cells (ye IB).toArray zH)) p (ye IB).toArray zH:=by rw[hp0];simp[go_sem]
 apply az (cU p 0) (w.alloc (.cells (ye IB).toArray zH)) (by rw[hp0];simp[go_sem,ye,IB]);generalize w.alloc (.cells (ye IB).toArray zH)=w1 at m1 b1|-;obtain⟨l,hl⟩:=dW (L.map (·.1));rw[<-hl]at hK;have hll:l.length=L.length:=by grind
 have fin:∀(n:Nd) (e:Int) (W:Wt_),oZ l=(n,e)->M0 w W->K (.tuple #[NV n,gI e]) W:=λn e W he m=>by
  have hk:=hK W m;rw[he]at hk;exact hk
 have bad:∀(e:Int) (W:Wt_) (cs:Array Value),oZ l=(IB,e)->M0 w W->hC W p cs zH->cs.size=3->
   ru pQ (iS zH (cU p 0) (NV IB)) W λw8=>rV pQ (iL zH (cU p 0)) w8 λv9=>K (.tuple #[v9,gI e]) w8:=λe W cs he m d hc=>by
  obtain⟨W',X,b2,m2⟩:=ai5 IB d hc;refine lO X (gC (XO IB b2) (fin _ e W' he (m.on m2 λb d=>gT)))
 have N:∀W,(Instr.build zH #[]).run pQ W=.ok (NV IB) W:=λW=>by simp[go_sem,NV,ye,IB]
 apply zw r;by_cases h16:16<L.length
 ·have t:(16:Int)<(L.length:Int):=qZ;refine ee t ?_;apply dy (N _);exact bad 3 w1 _ (by unfold oZ;rw[ab qZ];rfl) m1 b1 rfl
 have t:¬(16:Int)<(L.length:Int):=qZ;refine fH t ?_;apply zw r;have hpl:=aJ b1
 refine iz (λst W=>∃(i:Nat) (y sl:Vt_),i<=L.length/\st=(y,sl,gI i,())/\M0 w W/\hC W p (ye IB).toArray zH/\LgS W sl ((l.take i).map (·.leg))/\(∀b,aQ sl b->p<b)/\(l.take i).all kW.ok=true)
  (λst _=>match st.2.2.1 with| .int _ i=>L.length - i.toNat|_=>0) ⟨0,_,_,qZ,rfl,m1,b1,il.nil _ _ _,λb d=>(by cases d),rfl⟩ ?_
 rintro⟨_,_,_,_⟩ W ⟨i,y,sl,hi,⟨⟩,q1,q2,q3,q4,q5⟩ KN hKN;refine rT ?_;intro _
 have c:oZ l=if l.all kW.ok=false then(IB,2)else if(jC (l.map (·.leg))).2≠0 then(IB,(jC (l.map (·.leg))).2)else(⟨(jC (l.map (·.leg))).1,(l.map kW.worst).sum,max 0 (l.map kW.u).sum⟩,0):=by
  unfold oZ;rw[aa qZ];rfl
 by_cases J:i<L.length
 ·have v:(i:Int)<(L.length:Int):=qZ;refine ee v ?_;obtain⟨p1,X,e2⟩:=ag7 (h.mod q1 eI) J;refine dy X (kI e2 ?_);obtain⟨x,F⟩:=dW (L[i]);rw[<-F];obtain⟨x1,x2,x3⟩:=hL x (by grind);have O:l[i]'qZ=x.1:=by rw[F];simp[hl]
  obtain⟨xa,xc,P⟩:=x3.isSl;refine WR ⟨_,_,_,P⟩ λw3 S m3=>?_;obtain⟨q,hq⟩:=dW W.heap.size;rw[<-hq]at S|-;apply iu (pH x) 28 aSk Zi (oN x) (At.all S);refine VE ((x3.mod q1 eI).mod m3 eI) x2 x1 λg C=>?_;have U:=m3.trans C;have R:=C.hpk S id;refine dF ?_;rw[bG];have htk:l.take (i+1)=l.take i++[x.1]:=by rw[bV qZ,O]
  cases hok:x.1.ok with
  |false=>
   rw[ab (by simp)];apply dy (N _);refine bad 2 g _ ?_ (q1.trans U) (U.hpk q2 id) rfl;rw[c,ab];exact jO.2 ⟨x.1,by grind,by rw[hok];simp⟩
  |true=>
   rw[aa (by simp)];refine dF ?_;apply iu (t8 x.1.leg) 25 aLg nLg (gL _) (aa1 R);have o4:=q3.mod U eI;refine vz (x:=x.1.leg) (f:=t8) ab6 (dG eLg) gL E9 rfl o4 (by grind) qZ λs' k o5 B n5=>?_;have hs4:=U.size;have hql:p<W.heap.size:=aJ q2;apply az (gI ((i+1:Nat):Int)) k (by simp[go_sem];rw[mL]);refine hKN _ _ ⟨i+1,_,s',qZ,rfl,(q1.trans U).on B λb d=>.inr (by grind),B.hpk (U.hpk q2 id) λd=>by grind,?_,λb d=>?_,?_⟩ (by grind)
   ·grind
   ·rcases n5 b d with h' |h'
    ·exact q4 b h'
    ·omega
   ·grind
 ·obtain rfl:i=L.length:=qZ;refine fh ?_;rw[ay qZ]at q3 q5;rw[q5,aa (by simp)]at c
  have hlg:∀y∈l.map (·.leg),y.spec.Fit/\dM y.q:=λy hy=>by
   obtain⟨H,Z,rfl⟩:=aD.1 hy;rw[hl]at Z;obtain⟨x,F,rfl⟩:=aD.1 Z;exact⟨(hL x F).1.1,(hL x F).1.2.1⟩
  have I:∀H∈l,H.ok=true:=λH h0=>aW.1 q5 H h0;refine MH q3.rd (by grind) hlg λg C=>?_;obtain⟨M,hM⟩:=dW (jC (l.map (·.leg)));rw[<-hM]at c|-;have R:=C.hpk q2 id;unfold ye IB at R;refine dF ?_;refine dF ?_;refine dF ?_;refine Tr R ?_;have B:bn (λb=>b=p) g (g.setCell ⟨p,0,none⟩ (gI M.1)):=(bn.refl (λb=>b=p) g).sc;have G:hC (g.setCell ⟨p,0,none⟩ (gI M.1)) p #[.int .i64 M.1,gI 0,gI 0] zH:=by simp[go_sem,R]
  generalize g.setCell ⟨p,0,none⟩ (gI M.1)=k at B G|-;have M5:M0 w k:=(q1.trans C).on B λb d=>gT;by_cases D:M.2≠0
  ·refine ee D ?_;rw[ab D]at c;apply dy (N _);exact bad M.2 k _ c M5 G rfl
  ·have hM0:M.2=0:=by simpa using D
   refine fH hM0 ?_;rw[aa D]at c;apply zw r
   refine iz (λst W=>∃i:Nat,i<=L.length/\st=(gI i,())/\M0 w W/\hC W p (ye ⟨M.1,((l.take i).map kW.worst).sum,((l.take i).map kW.u).sum⟩).toArray zH)
    (λst _=>match st.1 with| .int _ i=>L.length - i.toNat|_=>0) ⟨0,qZ,rfl,M5,G⟩ ?_
   rintro⟨_,_⟩ V ⟨i,hi,⟨⟩,r1,E⟩ KM hKM;refine rT ?_;intro _;by_cases J:i<L.length
   ·have v:(i:Int)<(L.length:Int):=qZ;refine ee v ?_;obtain⟨p1,X,e2⟩:=ag7 (h.mod r1 eI) J;refine dy X (kI e2 ?_);obtain⟨x,F⟩:=dW (L[i]);rw[<-F];obtain⟨x1,x2,x3⟩:=hL x (by grind);have hil:i<l.length:=qZ;have O:l[i]'hil=x.1:=by rw[F];simp[hl]
    have z:x.1.ok=true:=I x.1 (by grind);obtain⟨xa,xc,P⟩:=x3.isSl;refine WR ⟨_,_,_,P⟩ λw3 S m3=>?_;obtain⟨q,hq⟩:=dW V.heap.size;rw[<-hq]at S|-;have hpq:p<q:=by rw[hq];exact aJ E
    have md:M0 w3 w3.drew:=wl;have M3:=m3.trans md;have Q:=md.hpk S id;have r3:=M3.hpk E id;generalize w3.drew=w3d at md M3 Q r3|-;obtain⟨u,o⟩:∃a,a=((l.take i).map kW.worst).sum:=⟨_,rfl⟩
    obtain⟨j,A⟩:∃a,a=((l.take i).map kW.u).sum:=⟨_,rfl⟩
    rw[<-o,<-A]at r3;unfold ye at r3;have tkm:∀H∈l.take i,H.ok=true:=λH h0=>I H (bm h0);have hlen16:((l.take i).length:Int)<=16:=by grind
    have bw:=Eg tkm;have bu:=Qu tkm;rw[<-o]at bw;rw[<-A]at bu;have hxw:=kW.worst_bd z;have hxu:=ZS z;refine vn ?_;have ld1:∀W,hC W p #[.int .i64 M.1,gI u,gI j] zH->(iL 2 (cU p 1)).run pQ W=.ok (gI u) W:=λW h=>by simp[go_sem,h]
    apply gC (ld1 _ r3);apply rj (pH x) 28 aSk Zi (oN x) (At.all Q);refine Oc ((x3.mod r1 eI).mod M3 eI) x1 z λg C=>?_;have r4:=C.hpk r3 id;have R:=C.hpk Q id;refine⟨ld1 _ r4,?_⟩;apply eQ (gI (u+x.1.worst)) (λW=>Aj ⟨qZ,qZ⟩);refine vn ?_;refine Tr r4 ?_;have B:bn (λb=>b=p) g (g.setCell ⟨p,1,none⟩ (gI (u+x.1.worst))):=(bn.refl (λb=>b=p) g).sc;have r5:hC (g.setCell ⟨p,1,none⟩ (gI (u+x.1.worst))) p #[.int .i64 M.1,gI (u+x.1.worst),gI j] zH:=by simp[go_sem,r4]
    have G:=B.hpk R qZ;generalize g.setCell ⟨p,1,none⟩ (gI (u+x.1.worst))=k at B r5 G|-;refine dD r5 ?_;refine dD r5 ?_;refine dF ?_;refine nm G WL ?_;refine dF ?_;refine dF ?_;refine nm G SL ?_;refine dF ?_;refine nm G K9 ?_;apply az (gI (x.1.leg.q*x.1.price)) k (by simp only[go_sem];simp;rw[mL]);apply az (gI x.1.u) k (by unfold kW.u at hxu|-;exact FH ⟨qZ,qZ⟩);apply az (gI (j+x.1.u)) k (Aj ⟨qZ,qZ⟩);refine dF ?_;refine Tr r5 ?_;have Y:bn (λb=>b=p) k (k.setCell ⟨p,2,none⟩ (gI (j+x.1.u))):=(bn.refl (λb=>b=p) k).sc;have T:hC (k.setCell ⟨p,2,none⟩ (gI (j+x.1.u))) p #[.int .i64 M.1,gI (u+x.1.worst),gI (j+x.1.u)] zH:=by simp[go_sem,r5]
    generalize k.setCell ⟨p,2,none⟩ (gI (j+x.1.u))=w6 at Y T|-;apply az (gI ((i+1:Nat):Int)) w6 (by simp[go_sem];rw[mL]);refine hKM _ _ ⟨i+1,qZ,rfl,(((r1.trans M3).trans C).on B λb d=>gT).on Y λb d=>gT,?_⟩ (by grind);rw[vB hil,vB hil,CY,CY,O,<-o,<-A];exact T
   ·obtain rfl:i=L.length:=qZ;refine fh ?_;rw[ay qZ]at E;obtain⟨u,o⟩:∃a,a=(l.map kW.worst).sum:=⟨_,rfl⟩
    obtain⟨j,A⟩:∃a,a=(l.map kW.u).sum:=⟨_,rfl⟩
    rw[<-o,<-A]at E c;unfold ye at E;refine dD E ?_;refine dD E ?_;refine II ?_;refine dF ?_;refine Tr E ?_;have Y:bn (λb=>b=p) V (V.setCell ⟨p,2,none⟩ (gI (max 0 j))):=(bn.refl (λb=>b=p) V).sc;have T:hC (V.setCell ⟨p,2,none⟩ (gI (max 0 j))) p (ye ⟨M.1,u,max 0 j⟩).toArray zH:=by simp[go_sem,E,ye]
    generalize V.setCell ⟨p,2,none⟩ (gI (max 0 j))=w6 at Y T|-;apply dy (XO _ T);obtain⟨w7,e7,r7,m7⟩:=ai5 ⟨M.1,u,max 0 j⟩ T rfl;refine lO e7 (gC (XO _ r7) (fin _ 0 w7 c ?_));exact(r1.on Y λb d=>gT).on m7 λb d=>gT
def Ns{K:be}{n:Nd}(q:dM n.m)(m:dM n.w)(s:dM n.u)(o:dM n.total)
  (r:∀f,M0 w f->K (gI n.total) f):Ca pQ 258 #[NV n] w K:=by
 refine cN Tryz.func258 ?_;obtain⟨p,c⟩:=dW w.heap.size;have h:M0 w (w.alloc (.cells (ye n).toArray zH)):=nl;have b:hC (w.alloc (.cells (ye n).toArray zH)) p (ye n).toArray zH:=by rw[c];simp[go_sem]
 apply az (cU p 0) (w.alloc (.cells (ye n).toArray zH)) (by rw[c];rfl);generalize w.alloc (.cells (ye n).toArray zH)=a at h b|-;unfold ye at b;refine dF ?_;refine dD b ?_;refine dF ?_;refine dD b ?_;refine dF ?_;refine dD b ?_;refine oE [.int .i64 n.m,gI n.w,gI n.u] xB (dG (sz:=1) (by_:=8) cH) rfl rfl (by intro v j;simp only[aq,fD,mz]at j;rcases j with rfl|rfl|rfl<;>rfl) qZ ?_;have l:(([.int .i64 n.m,gI n.w,gI n.u]:LV_).flatMap (·.cells.toList)).toArray= #[.int .i64 n.m,gI n.w,gI n.u]:=rfl;rw[l];have e:M0 a (a.alloc (.cells #[.int .i64 n.m,gI n.w,gI n.u] 2)):=nl;have g:hC (a.alloc (.cells #[.int .i64 n.m,gI n.w,gI n.u] 2)) a.heap.size #[.int .i64 n.m,gI n.w,gI n.u] 2:=by simp[go_sem]
 generalize a.alloc (.cells #[.int .i64 n.m,gI n.w,gI n.u] 2)=k at e g|-
 have d:Rd k 1 (.slice (some ⟨a.heap.size,0,none⟩) 3 3) ([n.m,n.w,n.u]:List Int).length (([n.m,n.w,n.u]:List Int).flatMap sj):=by
  refine⟨rfl,.inr ⟨_,0,3,rfl,aB _,⟨_,_,_,g,?_,?_⟩⟩⟩
  ·simp[sj]
  ·simp[sj]
 refine Ei d (by simp) (λx i=>?_) ?_
 ·simp only[aq,fD,mz]at i;rcases i with rfl|rfl|rfl
  ·exact q
  ·exact m
  ·exact s
 ·have t:([n.m,n.w,n.u]:List Int).sum=n.total:=by unfold Nd.total;simp;omega
  have d:sy [n.m,n.w,n.u]=(n.total,0):=by unfold sy;rw[t,ab o]
  rw[d];refine dF ?_;refine dF ?_;refine lV ?_;exact r k (h.trans e)
end Go.Proofs
namespace Go.Proofs
open Go Go.Vc
attribute [local congr] bj
def xw:Tryz.prog.underlying 90=some (.map 45 121):=cH
def qw:Tryz.prog.underlying 91=some (.map 45 146):=cH
def Uy:jS pQ 121=some (.pointer none):=cH
def Ba:jS pQ 146=some jq:=cH
section
variable{v c l mb md:Nat}{n:Int}
abbrev XB(W:Wt_)(v c l mb md:Nat)(n:Int):Prop:=hC W v #[gk c,eK l,.map (some mb),.map (some md),gQ n] TL
def ld1(W:Wt_)(h:XB W v c l mb md n):(iL 88 (cU v 1)).run pQ W=.ok (eK l) W:=by simp[go_sem,h,eK]
end
end Go.Proofs
namespace Go.Proofs
open Go Go.Vc
attribute [local congr] bj
def K8{c a b:LV_}{off:Nat}(h:off+a.length+b.length<=c.length):ji (ji c off a) (off+a.length) b=ji c off (a++b):=by
 unfold ji;have f:(c.take off).length=off:=by grind
 have d:(c.take off++a).length=off+a.length:=by grind
 rw[List.take_left' d,nf,cg qZ,cX,cw,ad];have e:off+a.length+(off+a.length+b.length - ((List.take off c).length+a.length))=off+(a++b).length:=by grind
 rw[e,ag (List.take off c) a b]
def uF:∀vs:List Value,(vs.flatMap λv=>v.cells.toList).length=(vs.map λv=>v.cells.size).sum
 | []=>rfl
 |v::vs=>by rw[aT,ad,uF vs,aH,bp];simp
def xK{place:Nat->Option (Nat×Nat)}:∀(vs:LV_) (d:List Nat) (k off:Nat) (c:LV_),vs.map (λv=>v.cells.size)=d->(∀j (h:j<d.length),place (k+j)=some (off+(d.take j).sum,d[j]))->off+d.sum<=c.length->
  Instr.fill place c.toArray ((vs.zipIdx k).map λp=>(p.2,p.1))=some (ji c off (vs.flatMap λv=>v.cells.toList)).toArray
 | [],d,k,off,c,e,_,n=>by
  show some c.toArray=_;unfold ji;simp
 |v::vs,d,k,off,c,e,f,n=>by
  cases d with
  |nil=>simp at e
  |cons s d=>
  rw[aH]at e;injection e with o m;rw[bp]at n;have g:=f 0 (by simp);simp only[bS,List.sum_nil,bM,eH]at g;rw[ng,aH];rw[pA g o qZ];have q:v.cells.toList.length=s:=by rw[<-o];simp
  rw[xK vs d (k+1) (off+s) _ m (λj r=>?_) (by rw[rk qZ];omega)]
  ·have i:(vs.flatMap λv=>v.cells.toList).length=d.sum:=by rw[uF,m]
   have:=K8 (c:=c) (off:=off) (a:=v.cells.toList) (b:=vs.flatMap λv=>v.cells.toList) qZ;rw[q]at this;rw[this,aT]
  ·have:=f (j+1) (by simp;omega);rw[show k+1+j=k+(j+1) by omega,this];simp only[gY,bp,io];congr 2;omega
abbrev xj:TypeId:=42
def Ka(r:Rp)(sT sG sA:Vt_):Value:=.agg #[.int .i64 r.err,gQ r.num,gI r.filled,gI r.left,sT,sG,sA]
def rpC(r:Rp)(sT sG sA:Vt_):List Value:=[.int .i64 r.err,gQ r.num,gI r.filled,gI r.left,sT,sG,sA]
abbrev Ic(n:Int):List Value:=[.int .u32 n]
def X2:(∃a n c,jq=.slice a n c):=⟨none,0,0,rfl⟩
section
variable{w:Wt_}{K:be}{v c l mb md:Nat}{A:List (Int×Nat)}{D:List (Int×Value)}{fp:Pt->Nat->Prop}{S:ba}
def Xa(b:rE S)(n a:Int):(0<=(S.opn n a).1/\(S.opn n a).1<=250000000)/\0<=(S.opn n a).2/\(S.opn n a).2<=250000000:=by
 have h:(S.bk n).all.length<=200:=by
  unfold Bk.all;rw[ad];have:=(b.side n true).1;have:=(b.side n false).1;omega
 have g:∀o∈(S.bk n).all,1<=o.left/\o.left<=1000000:=λo f=>by
  obtain⟨d,i⟩:=qF.1 f;exact Od.left_bd ((b.bkMay n d o i).1)
 have e:∀o∈S.bd n,1<=o.left/\o.left<=1000000:=λo f=>Od.left_bd (b.bdMay n o f);have j:=b.bdl n;have m:=rS (a:=a) (buy:=true) g;have q:=rS (a:=a) (buy:=false) g;have p:=rS (a:=a) (buy:=true) e;have k:=rS (a:=a) (buy:=false) e;unfold ba.opn uj;simp only;omega
def aa9(p:Po)(W:Wt_):(Instr.field 124 (mK p) 2).run pQ W=.ok (gI p.q) W:=by
 simp[Instr.field,go_sem,part,isAgg,asAgg,mK]
def SA:iK pQ 380=yT ⟨JT,⟨0,0,false,false⟩,0,0,0,false,0,0⟩:=cH
def VF(g:Gt):Tryz.prog.built 380 [(0,.agg (dh g.k).toArray),(1,jG g.a),(2,gI g.q),(3,gI g.buys),(4,gI g.sells),(5,.bool g.buy),(6,gI g.price),(7,gI g.qty)]=some (yT g).toArray:=by
 have e:∀a,Tryz.prog.built 380 a=Instr.fill (λi=>#[(0,27),(27,4),(31,1),(32,1),(33,1),(34,1),(35,1),(36,1)][i]?) (iK pQ 380).toArray a:=λa=>by kernel_rfl
 rw[e]
 have:=xK (place:=λi=>#[(0,27),(27,4),(31,1),(32,1),(33,1),(34,1),(35,1),(36,1)][i]?) [.agg (dh g.k).toArray,jG g.a,gI g.q,gI g.buys,gI g.sells,.bool g.buy,gI g.price,gI g.qty] [27,4,1,1,1,1,1,1] 0 0 (iK pQ 380)
  (by show [(dh g.k).toArray.size,4,1,1,1,1,1,1]=_;rw[dC,bC]) (by
   intro j d
   match j,d with
   |0,_=>rfl
   |1,_=>rfl
   |2,_=>rfl
   |3,_=>rfl
   |4,_=>rfl
   |5,_=>rfl
   |6,_=>rfl
   |7,_=>rfl) (by rw[SA,xz];decide)
 apply this.trans
 have b:([.agg (dh g.k).toArray,jG g.a,gI g.q,gI g.buys,gI g.sells,.bool g.buy,gI g.price,gI g.qty]:LV_).flatMap (λv=>v.cells.toList)=yT g:=by
  simp[yT,jG,dr,Value.cells]
 rw[b,kv (by rw[SA,xz,xz])]
def nE(S:ba)(a:Int):(S.led.getV a)=(S.acc a,if S.led.getO a=none then 7 else 0):=by
 unfold bq.getV ba.acc;cases S.led.getO a<;>simp
end
end Go.Proofs
namespace Go.Proofs
open Go Go.Vc
section
variable{P:Program}{L M:List As}{k:Value->WP}{s:Vt_}{t T:TypeId}{α:Type}{f:α->List Value}{vf:α->Value}{sz i n:Nat}{l:List α}
def Gs.it(z:P.underlying t=some (.slice T))(E:P.cellsOf T=sz+1)(u:∀x,(f x).length=sz+1)(h:∀x w b d,At w b d (f x)->(iL T (cU b d)).run P w=.ok (vf x) w)
  (B:∀w,Ss w L->Rd w (sz+1) s n (l.flatMap f))(m:n=l.length)(hi:i<l.length)(o:Gs L (k (vf l[i]))):Gs L (Vw P (iX t s (gI (i:Int))) λp=>Vw P (iL T p) k):=⟨λw y=>by
 obtain⟨b,d,q,g,j,r⟩:=(B w y).item u hi m;refine az (cU b (d+i*(sz+1))) w (by rw[g];subst m;simp[go_sem,hi,bQ,z,Go.Vc.kY E,Result.andThen]) (dy (h _ w _ _ r) (o.go w y))⟩
end
def OA(x:Od)(w:Wt_)(b off:Nat)(h:At w b off (dp x)):(iL kQ (cU b off)).run pQ w=.ok (mi x) w:=me h
def Nz(D:List (Int×Value))(n:Int):(lk D n).elim jq AP=ly D n:=by unfold ly;cases lk D n<;>rfl
def Nt:Tryz.prog.cellsOf kQ=4+1:=cH
section
variable{P:Program}{L M:List As}{k:Value->WP}{s:Vt_}{t:TypeId}{cs:LV_}{n sz:Nat}{e:TypeId}
def Gs.len(d:Tryz.prog.underlying t=some (.slice e))(g:∀w,Ss w L->Rd w sz s n cs)(b:Gs L (k (gI (n:Int)))):Gs L (Nw pQ (builtin .len #[t] 3 #[false] #[s]) k):=⟨λw y=>by
 obtain⟨a,c,rfl⟩:=(g w y).isSl;exact zw (by simp[go_sem,d]) (b.go w y)⟩
def Gs.lenW(d:Tryz.prog.underlying t=some (.slice e))(g:∀w,Ss w L->Rd w sz s n cs)(b:Gs L (k (gI (n:Int)))):Gs L (Ww pQ (Builtin.len_ #[t] 3 #[s]) k):=⟨λw y=>by
 obtain⟨a,c,rfl⟩:=(g w y).isSl;exact gC (by simp[go_sem,d]) (b.go w y)⟩
end
def Fh(l:List Ct)(n:Int)(h:(dw l n).2=0):∃k,bU l n=some k/\(dw l n).1=k:=by
 unfold dw at h|-;cases b:bU l n with
 |none=>rw[b]at h;simp at h
 |some k=>exact⟨k,rfl,rfl⟩
section
variable{L M:List As}{K:Value->WP}{v c l mb md:Nat}{A:List (Int×Nat)}{D:List (Int×Value)}{S:ba}{n a:Int}{C:oq}{X:bq}{bk:Int->Bk}{bd:Int->List Od}
def xp(d:nQ A D C.l bk)(g:(bU C.l n).isSome=true):∃b,lk A n=some b:=ek.1 (by rw[d.dom];exact g)
def ni(n:Int)(p:bL L (tq D bd::M):=by exact gy):∀w,Ss w L->Rd w 5 (ly D n) (bd n).length ((bd n).flatMap dp):=λw y=>(fg p y).elim λF q=>(q.q n trivial).rd
def IX{b:Nat}(g:lk A n=some b)(d:Gs L (K (.tuple #[.int .i64 (uj (bk n) a).1,gI (uj (bk n) a).2])))(p:bL L (qG A bk::M):=by exact gy):Gs L (Cw pQ 311 #[fe b,gU a] K):=
 Gs.rd1 (A:=qG A bk) (λw F _ q K h=>q.elim λj q=>N6 (q.q n b trivial g) h) d p
attribute [go_sem] mi dp jG dr mK dR aa9
def Q9{F:List As}(O:nQ A D S.cal.l S.bk)(j:rE S)(N:(bU S.cal.l n).isSome=true)
  (y:Gs F (K (.tuple #[.int .i64 (S.opn n a).1,gI (S.opn n a).2])))(p:bL F (vs v c l mb md A D S L):=by exact kz):Gs F (Cw pQ 270 #[eE v,gU n,gU a] K):=by
 refine Gs.pk ?_ p;replace y:=Gs.pk y p.symm;refine sN Tryz.func270 ?_;unfold eE;refine au ?_;obtain⟨b,w⟩:=xp O N;refine Gs.look (enc:=eS) (ev:=fe) (D:=A) (x:=n) (.pointer none) xw kL Uy ?_ gy;rw[w];refine IX w (au ?_);refine Gs.look (enc:=eS) (ev:=AP) (D:=D) (x:=n) jq qw kL Ba ?_ gy;rw[Nz];refine Gs.len gR (ni n) ?_;have r:∀o∈S.bd n,1<=o.left/\o.left<=1000000:=λo u=>Od.left_bd (j.bdMay n o u);have J:=j.bdl n;have Q:((S.bk n).all.length:Int)<=200:=by unfold Bk.all;rw[ad];have:=(j.side n true).1;have:=(j.side n false).1;omega
 have G:∀o∈(S.bk n).all,1<=o.left/\o.left<=1000000:=λo u=>by
  obtain⟨d,I⟩:=qF.1 u;exact Od.left_bd ((j.bkMay n d o I).1)
 have V:=rS (a:=a) (buy:=true) G;have U:=rS (a:=a) (buy:=false) G;unfold ba.opn at y;unfold uj at y|-;refine Gs.l (λi:Nat=>(gI (rU (S.bk n).all a true+rU ((S.bd n).take i) a true),gI (rU (S.bk n).all a false+rU ((S.bd n).take i) a false),gI i,())) ((S.bd n).length - ·) (λ_=>vs v c l mb md A D S L) (·<=(S.bd n).length) 0 (by simp[rU]) qZ ?_ .refl;intro i Y R E
 dsimp only
 refine Gs.z (au ?_);refine Gs.I (λh=>?_) λh=>?_
 ·have m:i<(S.bd n).length:=qZ;refine Gs.it gR Nt dH OA (ni n) rfl m (au ?_);intro q;refine au ?_;have B:=bV m;have z:=r _ (ar m);have x1:=rS (l:=(S.bd n).take i) (a:=a) (buy:=true) λo u=>r o (bm u);have W:=rS (l:=(S.bd n).take i) (a:=a) (buy:=false) λo u=>r o (bm u);have Z:(((S.bd n).take i).length:Int)<=50:=by rw[av];omega
  have g:=(E (i+1) qZ qZ).drop (A:=pt q (dp (S.bd n)[i]) kQ);rw[B,qe,qe]at g;generalize(S.bd n)[i]=o at z g|-;refine Gs.Ib (λH=>?_) λH=>au (Gs.Ib (λw=>?_) λw=>?_)
  all_goals
   refine au ?_;simp at H;simpa [*,pP]using g
 ·grind
def IM{d:List As}(j:1<=S.next/\S.next<=ll+1)(b:ll<S.next->Gs (vs v c l mb md A D S L) (K (.tuple #[.int .u64 0,gI 6])))
  (g:S.next<=ll->Gs (vs v c l mb md A D {S with next:=S.next+1} L) (K (.tuple #[.int .u64 S.next,gI 0])))(p:bL d (vs v c l mb md A D S L):=by exact kz):Gs d (Cw pQ 274 #[eE v] K):=by
 refine Gs.pk ?_ p;unfold ll at*;refine sN Tryz.func274 ?_;unfold eE;refine au ?_;refine Gs.I (λh=>b h) λh=>au ?_;exact g qZ
def HF{z:List As}{a n:Int}{buy:Bool}{price qty:Int}{x:Od}(N:nQ A D S.cal.l S.bk)(g:S.Ok)(m:dM price)(o:dM qty)(R:0<=x.left/\x.left<=1000000)
  (b:Gs z (K (gI (S.pass a n buy price qty x))))(p:bL z (vs v c l mb md A D S L):=by exact kz):Gs z (Cw pQ 216 #[eE v,gU a,gU n,.bool buy,gI price,gI qty,mi x] K):=by
 refine Gs.pk ?_ p;replace b:=Gs.pk b p.symm;unfold ba.pass at b;refine sN Tryz.func216 ?_;unfold eE;refine au ?_;intro p;refine au ?_;refine pK ?_;rw[nE];refine au ?_;intro q;refine au ?_;refine Gs.Ib (λh=>au ?_) λh=>au ?_
 ·have h:S.led.getO a=none:=by simpa using h
  rw[ab h]at b|-;exact b.fin
 have h:¬S.led.getO a=none:=by simpa using h
 rw[aa h]at b;refine wS (au ?_);refine Gs.bvar cH qp (bC _) cH (g9 _) λr=>au ?_;have d:=Fh S.cal.l n;generalize Q:dw S.cal.l n=G at b d|-;refine Gs.Ib (λw=>?_) λw=>?_
 ·rw[ab (by simpa using w)]at b;exact b.fin
 obtain⟨k,E,y⟩:=d (by simpa using w);rw[aa (by simpa using w)]at b;have u:=(g.cal.ok k (pI E)).1;rw[<-y]at u;refine Q9 N g.ord (by rw[E];rfl) ?_;have H:=Xa g.ord n a;generalize S.opn n a=O at H b|-;refine au ?_;refine Gs.j1 (gI (O.1 - if x.buy then x.left else 0),gI (O.2 - if x.buy then 0 else x.left),()) (λJ I=>au ?_) ?_
 ·refine Gs.Ib (λB=>au ?_) λB=>au ?_ <;>simpa [B]using I
 refine Gs.z (au ?_);have F:=eG (P:=pQ) (L:=pt r (dh G.1) lN::pt q (dr (S.acc a)) 100::pt p (dp x) kQ::vs v c l mb md A D S L) gy Dq qp (bC G.1);refine Gs.WX F (au ?_);refine rJ (au ?_);refine Gs.E F (au ?_);refine Gs.bBP (VF ⟨G.1,S.acc a,(S.led.position n a).q,O.1 - (if x.buy then x.left else 0),O.2 - (if x.buy then 0 else x.left),buy,price,qty⟩) ?_;have j:=g.led.led.position n a;unfold MP at j;refine Tc ⟨u,⟨by show _<=(S.led.position n a).q;omega,by show(S.led.position n a).q<_;omega⟩,?_,?_,m,o⟩ b.fin
 ·grind
 ·grind
end
end Go.Proofs
namespace Go.Proofs
open Go Go.Vc
def yr{C:oq}(h:C.Ok){k:Ct}(b:k∈C.l):bU C.l k.spec.num=some k:=by
 unfold bU;have:=h.srt;rw[dE];obtain⟨i,a,rfl⟩:=bI b;refine⟨by simp,i,a,rfl,λj c=>?_⟩;have:=bH.1 this j i qZ a c;simp;omega
end Go.Proofs
namespace Go.Proofs
open Go Go.Vc
attribute [local congr] bj
def ZM(p:Po)(W:Wt_):∃a d,(iA 124 true (.tuple #[])).run pQ W=.ok (cU W.heap.size 0) a/\(iS 124 (cU W.heap.size 0) (mK p)).run pQ a=.ok () d/\hC d W.heap.size (dR p).toArray 124/\M0 W d:=by
 obtain⟨a,b⟩:=dW (W.alloc (.cells #[.int .u32 0,gU 0,gI 0,gI 0] 124));have f:M0 W a:=by rw[b];exact(bn.refl _ W).alloc _
 have e:hC a W.heap.size #[.int .u32 0,gU 0,gI 0,gI 0] 124:=by rw[b];simp[go_sem]
 refine⟨a,(((a.setCell ⟨W.heap.size,0,none⟩ (gU p.c)).setCell ⟨W.heap.size,1,none⟩ (gU p.a)).setCell ⟨W.heap.size,2,none⟩ (gI p.q)).setCell ⟨W.heap.size,3,none⟩ (gI p.b),by rw[b];simp[go_sem],by simp[go_sem,e,mK],by simp[go_sem,e,dR],?_⟩;exact f.on (((((bn.refl (λx=>x=W.heap.size) a).sc).sc).sc).sc) λx g=>gT
def ab2(p:Ac)(W:Wt_):∃a d,(iA 100 true (.tuple #[])).run pQ W=.ok (cU W.heap.size 0) a/\(iS 100 (cU W.heap.size 0) (jG p)).run pQ a=.ok () d/\hC d W.heap.size (dr p).toArray 100/\M0 W d:=by
 obtain⟨a,b⟩:=dW (W.alloc (.cells #[.int .u32 0,gI 0,.bool false,.bool false] 100));have f:M0 W a:=by rw[b];exact(bn.refl _ W).alloc _
 have e:hC a W.heap.size #[.int .u32 0,gI 0,.bool false,.bool false] 100:=by rw[b];simp[go_sem]
 refine⟨a,(((a.setCell ⟨W.heap.size,0,none⟩ (gU p.num)).setCell ⟨W.heap.size,1,none⟩ (gI p.cash)).setCell ⟨W.heap.size,2,none⟩ (.bool p.kil)).setCell ⟨W.heap.size,3,none⟩ (.bool p.dfl),by rw[b];simp[go_sem],by simp[go_sem,e,jG],by simp[go_sem,e,dr],?_⟩;exact f.on (((((bn.refl (λx=>x=W.heap.size) a).sc).sc).sc).sc) λx g=>gT
def oC.ac{xs:List Ac}:oC 100 jG dr xs:=λa _ W=>ab2 a W
def oC.po{xs:List Po}:oC 124 mK dR xs:=λa _ W=>ZM a W
def Xg:Lg:=⟨Ay,0⟩
def Li:iK pQ 412=t8 Xg:=cH
def PY:iK pQ ub=pH (⟨Xg,0,0,[]⟩,jq):=cH
def Vg(s:Sp)(q:Int):Tryz.prog.built 412 [(0,.agg (fk s).toArray),(1,gI q)]=some (t8 ⟨s,q⟩).toArray:=by
 have e:∀a,Tryz.prog.built 412 a=Instr.fill (λi=>#[(0,25),(25,1)][i]?) (iK pQ 412).toArray a:=λa=>by kernel_rfl
 rw[e]
 have:=xK (place:=λi=>#[(0,25),(25,1)][i]?) [.agg (fk s).toArray,gI q] [25,1] 0 0 (iK pQ 412)
  (by show [(fk s).toArray.size,1]=_;rw[dC,bb]) (by
   intro j d
   match j,d with
   |0,_=>rfl
   |1,_=>rfl) (by rw[Li,gL];decide)
 apply this.trans;have b:([.agg (fk s).toArray,gI q]:LV_).flatMap (λv=>v.cells.toList)=t8 ⟨s,q⟩:=by simp[t8,Value.cells]
 rw[b,kv (by rw[Li,gL,gL])]
def UN(g:Lg)(b p:Int):Tryz.prog.built ub [(0,.agg (t8 g).toArray),(1,gI b),(2,gI p)]=some (pH (⟨g,b,p,[]⟩,jq)).toArray:=by
 have h:∀a,Tryz.prog.built ub a=Instr.fill (λi=>#[(0,26),(26,1),(27,1),(28,1)][i]?) (iK pQ ub).toArray a:=λa=>by kernel_rfl
 rw[h]
 have:=xK (place:=λi=>#[(0,26),(26,1),(27,1),(28,1)][i]?) [.agg (t8 g).toArray,gI b,gI p] [26,1,1] 0 0 (iK pQ ub)
  (by show [(t8 g).toArray.size,1,1]=_;rw[dC,gL]) (by
   intro j f
   match j,f with
   |0,_=>rfl
   |1,_=>rfl
   |2,_=>rfl) (by rw[PY,oN];decide)
 apply this.trans;have d:([.agg (t8 g).toArray,gI b,gI p]:LV_).flatMap (λv=>v.cells.toList)=t8 g++[.int .i64 b,gI p]:=by simp[Value.cells]
 rw[d];unfold ji
 have e:(pH (⟨Xg,0,0,[]⟩,jq)).drop (0+(t8 g++[Value.int .i64 b,Value.int .i64 p]).length)=[jq]:=by
  rw[ad,gL];rfl
 rw[PY,e];simp[pH]
section
variable{w:Wt_}{K:be}{v c l mb md:Nat}{A:List (Int×Nat)}{D:List (Int×Value)}{fp:Pt->Nat->Prop}{S:ba}
def tI(S:ba)(a:Int)(i:Nat):List kW:=((S.cal.l.take i).filter λk=>decide (k.st≠3)).map (S.stake a)
def Fe{S:ba}{a:Int}{i:Nat}(hi:i<S.cal.l.length):tI S a (i+1)=tI S a i++(if S.cal.l[i].st=3 then []else [S.stake a S.cal.l[i]]):=by
 unfold tI;rw[bV hi,cj,aK];congr 1;by_cases h:S.cal.l[i].st=3
 ·grind
 ·grind
def MI(b:S.Ok){a:Int}{k:Ct}(f:k∈S.cal.l):(S.stake a k).Fit/\(S.stake a k).ords.length<=250:=by
 have d:=b.led.led.position k.spec.num a;unfold MP MF at d;have e:=(b.cal.ok k f).1;refine⟨⟨e.1,⟨by show _<=(S.led.position _ _).q;omega,by show(S.led.position _ _).q<_;omega⟩,⟨by show _<=(S.led.position _ _).b;omega,by show(S.led.position _ _).b<_;omega⟩,e.2.2,λo g=>?_⟩,?_⟩
 ·rcases aN.1 g with h|h
  ·exact(b.ord.std _ o (cD _ (aM.1 h).1)).fit
  ·exact(b.ord.std _ o (iV (aM.1 h).1)).fit
 ·show(List.filter _ _++List.filter _ _).length<=250;rw[ad];have m:=aX (kP a) (S.bk k.spec.num).all;have i:=aX (kP a) (S.bd k.spec.num);have n:=b.ord.bdl k.spec.num
  have j:(S.bk k.spec.num).all.length<=200:=by
   unfold Bk.all;rw[ad];have:=(b.ord.side k.spec.num true).1;have:=(b.ord.side k.spec.num false).1;omega
  omega
end
end Go.Proofs
namespace Go.Proofs
open Go Go.Vc
attribute [local congr] bj
def Pi:∀(l:List Lg) (rs:List Rt) (k:Int),0<=k->rs.length=9->(∀r∈rs,r.Bd k)->(∀x∈l,yZ x=true)->(l.foldl mj rs).length=9/\∀r∈l.foldl mj rs,r.Bd (k+l.length)
 | [],rs,k,_,a,b,_=>⟨a,by simpa using b⟩
 |x::l,rs,k,g,a,b,d=>by
  rw[eN];have h:(mj rs x).length=9:=by unfold mj;split;exact a;split;rw[aZ];exact a;exact a
  obtain⟨f,m⟩:=Pi l (mj rs x) (k+1) qZ h (C4 g b (d x ai)) λy i=>d y (ae _ i);refine⟨f,λr j=>?_⟩;have:=m r j;rw[aR];have e:k+1+(l.length:Int)=k+((l.length+1:Nat):Int):=qZ
  rwa[e]at this
def NK(l:List Lg):0<=(jC l).1/\(jC l).1<=14400000000000000:=by
 unfold jC;split
 ·simp
 ·rename_i k
  split
  ·simp
  ·rename_i b
   split
   ·simp
   ·have a:∀x∈l,yZ x=true:=λx n=>aW.1 (by simpa using b) x n
    obtain⟨h,f⟩:=Pi l (List.replicate 9 TU) 0 qZ (by simp) (λr d=>by
     rw[lS d];exact⟨by decide,by decide,by decide,by decide,by decide,by decide,by decide,by decide⟩) a
    have m:=H8 (l:=l.foldl mj (List.replicate 9 TU)) λr d=>by
     obtain⟨o,s,i,p,j,q,g,e⟩:=f r d;have:(l.length:Int)<=16:=qZ;exact⟨o,qZ,i,qZ,j,qZ,g,e⟩
    rw[h]at m;simp only;omega
def Sw(l:List kW):(0<=(oZ l).1.m/\(oZ l).1.m<=14400000000000000)/\(0<=(oZ l).1.w/\(oZ l).1.w<=200000000000000000)/\0<=(oZ l).1.u/\(oZ l).1.u<=17600000000000000:=by
 unfold oZ;split
 ·simp
 ·rename_i g
  split
  ·simp
  ·rename_i e
   have d:∀x∈l,x.ok=true:=λx f=>aW.1 (by simpa using e) x f;split
   ·simp
   ·have a:=NK (l.map (·.leg));have b:=Eg d;have c:=Qu d;have:(l.length:Int)<=16:=qZ;simp only;omega
def Lj(S:ba)(a:Int):(0<=(S.need a).1.m/\(S.need a).1.m<=14400000000000000)/\(0<=(S.need a).1.w/\(S.need a).1.w<=200000000000000000)/\0<=(S.need a).1.u/\(S.need a).1.u<=17600000000000000:=by
 unfold ba.need;split
 ·simp
 ·exact Sw _
def Tl(S:ba)(a:Int):0<=(S.need a).1.total/\(S.need a).1.total<=240000000000000000:=by
 have:=Lj S a;unfold Nd.total;omega
section
variable{w:Wt_}{K:be}{v c l mb md:Nat}{A:List (Int×Nat)}{D:List (Int×Value)}{fp:Pt->Nat->Prop}{S:ba}
end
abbrev tTd:TypeId:=148
def Zm(t:Td):Value:=.agg (Gv t).toArray
def Ms(t:Td):(Gv t).length=4:=rfl
end Go.Proofs
namespace Go.Proofs
open Go Go.Vc
def Ws(Ls:List (kW×Value)):As:=⟨λw F=>(∀x∈Ls,sZ w x.2 x.1.ords)/\∀b,F b↔∃x∈Ls,aQ x.2 b,λh hb=>by
  obtain⟨x,hx,hb⟩:=(h.2 _).1 hb;exact(h.1 x hx).lt hb,λh m hg=>⟨λx hx=>(h.1 x hx).mod m λb hb=>hg b ((h.2 b).2 ⟨x,hx,hb⟩),h.2⟩⟩
section
variable{L L0 M:List As}{φ:WP}{Ls:List (kW×Value)}{x:kW×Value}{k:Value->WP}{P:Program}
def Um(h:Gs (Ws []::L) φ):Gs L φ:=⟨λw y=>h.go w (y.new (bn.refl _ w) (F' :=λ_=>False) ⟨by simp,by simp⟩ λ_ h=>h.elim)⟩
def Ug(h:Gs (Ws (Ls++[x])::M) φ)(p:bL L (lX x.2 x.1.ords::Ws Ls::M):=by exact kz):Gs L φ:=⟨λw ⟨F,y⟩=>by
 obtain⟨i,s,⟨t,f⟩,⟨F3,j,⟨q,g⟩,m,o,C⟩,u,B⟩:=(p.out w F).1 y;refine h.go w (Ss.cons.2 ⟨λb=>i b\/F3 b,j,⟨λz e=>?_,λb=>?_⟩,m,λb d r=>?_⟩)
 ·rcases aN.1 e with e|e
  ·exact q z e
  ·grind
 ·show i b\/F3 b↔_;rw[f,g];simp only[aN,bX];constructor
  ·rintro(h|⟨z,e,h⟩)
   ·grind
   ·grind
  ·rintro⟨z,e|rfl,d⟩
   ·grind
   ·exact .inl d
 ·rcases d with d|d
  ·grind
  ·exact o b d r⟩
def TK{t:kW}{s:Vt_}{os:List Od}(b:t.ords=os)(h:Gs (Ws (Ls++[(t,s)])::M) φ)(p:bL L (lX s os::Ws Ls::M):=by exact kz):Gs L φ:=by subst b;exact Ug (x:=(t,s)) h p
def Gs.jv{S:Type}{a:(S->WP)->WP}{b:S->WP}(st:Nat->S)(cs:LV_)(T:TypeId)(d:∀J:S->WP,(∀r,Gs (pt r cs T::L) (J (st r)))->Gs L (a J))(f:∀r,Gs (pt r cs T::L) (b (st r))):Gs L (Jw a b):=
 Gs.j st (λr=>pt r cs T::L) (λ_=>True) (λJ e=>d J λr=>e r trivial) λr _=>f r
end
abbrev poX(p:Po):List Value:=[.int .u32 p.c,gU p.a,gI p.q,gI p.b]
abbrev ak7(T:TypeId):Value->(Value->WP)->WP:=λx k=>Xw pQ (vR T) λv=>Yw pQ (ur T v x) (k v)
abbrev ap2(T:TypeId):Value->(Value->WP)->WP:=λx k=>Vw pQ (iA T true (.tuple #[])) λv=>Uw pQ (iS T v x) (k v)
def Ec(xs:List Ct):Asg lN (λk=>.agg (dh k).toArray) dh xs (ak7 lN):=λk e W K b=>Wp λd h m=>b d h m
def IJ{α:Type}{T:TypeId}{fv:α->Value}{fc:α->List Value}{xs:List α}(b:oC T fv fc xs):Asg T fv fc xs (ap2 T):=λa d W K f=>by
 obtain⟨m,i,h,g,e,j⟩:=b a d W;exact dy h (lO g (f i e j))
def ah3{L M:List As}{b:Nat}{k:Ct}{T:TypeId}(p:bL L (pt b (dh k) T::M)):∀w,Ss w L->(pp 48 (cU b 0)).run pQ w=.ok (.agg (fk k.spec).toArray) w:=λw y=>by
 have d:At w b 0 (fk k.spec):=by
  have:=(At.all (nW p y)).sub 0 25 (by rw[bC];omega);rw[dO,dh,aP (by rw[bb];omega),ay (by rw[bb];omega)]at this;exact this
 exact ft yf ud (bb _) d
def ah2(s:kW)(x y:Vt_)(l:List Od):(pH (s,x)).set 28 y=pH ({s with ords:=l},y):=by
 unfold pH;rw[cm _ _ (by rw[gL];omega),gL];rfl
attribute [go_sem] XM WQ Ga Wv GM ye
section
variable{L L0 M:List As}{K:Value->WP}{v c l mb md:Nat}{A:List (Int×Nat)}{D:List (Int×Value)}{S:ba}{n a:Int}
def sK{k:Int}(b:Gs L (K (.bool true)))(p:bL L (O9 v c l mb md k::M):=by exact gy):Gs L (Cw pQ 42 #[eE v] K):=by
 refine Gs.pk ?_ p;replace b:=Gs.pk b p.symm;refine sN Tryz.func42 ?_;unfold eE;refine au ?_;exact b
def KC{o:Od}{e:Lg}{d j:Int}{l:List Od}{x:Option Addr}{y q b r:Nat}{k0 k1:WP}(hl:l.length<=250)
  (t:kP a o=false->Gs (pt q (dp o) kQ::pt b (pH (⟨e,d,j,l⟩,.slice x l.length y)) ub::lX (.slice x l.length y) l::pt r [.int .u32 a] 45::M) k0)
  (z:kP a o=true->∀i g,Gs (pt q (dp o) kQ::pt b (pH (⟨e,d,j,l++[o]⟩,.slice i (l++[o]).length g)) ub::lX (.slice i (l++[o]).length g) (l++[o])::pt r [.int .u32 a] 45::M) k1)
  (p:bL L (pt q (dp o) kQ::pt b (pH (⟨e,d,j,l⟩,.slice x l.length y)) ub::lX (.slice x l.length y) l::pt r [.int .u32 a] 45::M):=by exact kz):
  Gs L (Iw (.bool (o.acct==a)) (Vw pQ (iF ub (cU b 0) 3) λE=>Vw pQ (iL tZ E) λs=>Vw pQ (iL kQ (cU q 0)) λB=>Xw pQ (qL tZ 1 [(0,B)]) λC=>Xw pQ (ff #[tZ,tZ] tZ [s,C]) λu=>
    Vw pQ (iF ub (cU b 0) 3) λm=>Uw pQ (iS tZ m u) k1) k0):=by
 refine Gs.pk ?_ p;refine Gs.Ib (λh=>au ?_) λh=>?_
 ·refine Gs.push (x:=o) (f:=dp) (l:=l) gR Ny dH (lR o) rfl qZ qZ (λi g=>?_) gy;refine au ?_;refine Gs.st gy (λw h=>by simp[go_sem,h,GM]) (ah2 ⟨e,d,j,l⟩ _ _ (l++[o])) ?_;exact(z (by simpa [kP]using h) i g).fin
 ·exact(t (by simpa [kP]using h)).fin
def QW{s:Vt_}{Ls:List (kW×Value)}(i:Ls.length<=100000)(d:∀x∈Ls,x.1.Fit/\x.1.ords.length<=1000000)(f:Gs L (K (.tuple #[NV (oZ (Ls.map (·.1))).1,gI (oZ (Ls.map (·.1))).2])))
  (p:bL L (ow s ub 29 Ls.length (Ls.flatMap pH)::Ws Ls::M):=by exact kz):Gs L (Cw pQ 301 #[s] K):=⟨λw ⟨F,z⟩=>by
 obtain⟨q,j,g,⟨F3,o,h,-⟩,-⟩:=(p.out w F).1 z;exact Qg g.1.rd i (λx b=>⟨(d x b).1,(d x b).2,(h.1 x b).rd⟩) λe m=>f.go e ((⟨F,z⟩:Ss w L).md0 m)⟩
def Sg{a:Int}(hv:nQ A D S.cal.l S.bk)(s:S.Ok)(Y:Gs L0 (K (.tuple #[NV (S.need a).1,gI (S.need a).2])))(p:bL L0 (vs v c l mb md A D S L):=by exact kz):Gs L0 (Cw pQ 257 #[eE v,gU a] K):=by
 refine Gs.pk ?_ p;replace Y:=Gs.pk Y p.symm;refine sN Tryz.func257 ?_;unfold eE;refine au ?_;intro p0;refine au ?_;intro p1;refine au ?_;intro p2;refine au ?_;refine sK (au ?_);refine Gs.j1 (gI (if S.led.getO a=none then 7 else 0),()) (λJ G=>au ?_) ?_
 ·refine Gs.An ?_ (au ?_)
  ·refine pK ?_;rw[nE];refine au ?_;intro r;refine au ?_;exact G.fin
  ·intro r;refine au ?_;refine pK ?_;rw[nE];refine au ?_;exact G.fin
 refine Gs.z ?_;refine Gs.j1 (.bool (decide (S.led.getO a=none\/a=0)),()) (λJ G=>au ?_) ?_
 ·refine Gs.Ib (λhg=>?_) λhg=>au ?_
  ·grind
  ·have hg:¬S.led.getO a=none:=by simpa using hg
   simpa [hg,show(a==0)=decide (a=0)from rfl]using G
 refine Gs.z (Gs.I (λu=>au ?_) λu=>au ?_)
 ·have e:S.need a=(IB,7):=by unfold ba.need;rw[ab u];rfl
  rw[e]at Y;exact Y.fin
 have N:S.need a=oZ (S.stakes a):=by unfold ba.need;rw[aa u]
 intro p;refine au ?_;refine Gs.nil ub 29 (Um (uW λgv=>?_));refine Gg.rf (λ_ _ _ _=>rfl) (Ec _) (I:=λi (b:Option Addr×Nat×List (kW×Value)) M=>pt p [.slice b.1 b.2.2.length b.2.1] 410::ow (.slice b.1 b.2.2.length b.2.1) ub 29 b.2.2.length (b.2.2.flatMap pH)::Ws b.2.2::pt p1 [.int .u32 a] 45::pt p0 [.pointer (some ⟨v,0,none⟩)] 24::vs v c l mb md A D S M) (E:=λ(_:Unit) M=>M) (λ_ _ _=>rfl) (λ_ _=>rfl) (λi b=>b.2.2.map (·.1)=tI S a i) (λ_ _=>False) (none,0,[]) rfl ?_ ?_ (λ_ _ _ h=>h.elim) (by simp only[List.length_nil,bo,bS,ey,aC,jq,lX];(repeat first|(with_reducible exact bL.refl)|((apply kp);(·repeat first|(with_reducible exact cF)|(with_reducible apply cS)))))
 ·rintro i hi ⟨sa,sc,Ls⟩ C l1 r1 q M kn kj R -
  dsimp only at C|-
  have m:=Fe (S:=S) (a:=a) hi
  have hLs:Ls.length<=16:=by
   have h:=dP List.length C;have h1:=aX (λk=>decide (k.st≠3)) (S.cal.l.take i);have h2:=s.cal.len;unfold tI at h;rw[af,af]at h;rw[av]at h1;omega
  have V:S.cal.l[i]∈S.cal.l:=ar hi;generalize S.cal.l[i]=k at m V|-;refine au ?_;refine Gs.Ib (λh=>?_) λh=>au ?_
  ·rw[ab (by simpa using h),aC]at m;exact(R (sa,sc,Ls) _ (by rw[m];exact C)).fin
  have h3:¬k.st=3:=by simpa using h
  rw[aa h3]at m;refine Gs.jv (λr=>(.pointer (some ⟨r,0,none⟩),())) (poX (S.led.position k.spec.num a)) 124 (λJ G=>au ?_) λr=>?_
  ·refine Gs.An ?_ (au ?_)
   ·refine rJ (au ?_);intro r;refine au ?_;exact(G r).fin
   ·intro r;refine au ?_;refine rJ (au ?_);exact(G r).fin
  dsimp only
  refine Gs.z ?_;refine au ?_;refine Gs.X (λw y=>ah3 (k:=k) (b:=q) (T:=lN) gy w y) ?_;refine au ?_;refine Gs.bB (Vg _ _) (au ?_);refine Gs.bB (UN _ _ _) ?_;refine Gs.bvar zSk Zi (oN _) cH (EL _ X2) λq2=>au ?_;obtain⟨b,W⟩:=xp hv (n:=k.spec.num) (by rw[yr s.cal V];rfl);refine Gs.look (enc:=eS) (ev:=fe) (D:=A) (x:=k.spec.num) (.pointer none) xw kL Uy ?_ gy;rw[W];refine Gs.nil kQ 5 (Mf (n:=k.spec.num) W λgv2=>?_);have F:(S.bk k.spec.num).all.length<=200:=by unfold Bk.all;rw[ad];have:=(s.ord.side k.spec.num true).1;have:=(s.ord.side k.spec.num false).1;omega
  generalize hAl:(S.bk k.spec.num).all=t at F|-;refine Gg.rn (λ_ _ _ _=>rfl) (IJ oC.od) (I:=λj (b:Option Addr×Nat) M=>pt q2 (pH (⟨⟨k.spec,(S.led.position k.spec.num a).q⟩,(S.led.position k.spec.num a).b,k.price,(t.take j).filter (kP a)⟩,.slice b.1 ((t.take j).filter (kP a)).length b.2)) ub::lX (.slice b.1 ((t.take j).filter (kP a)).length b.2) ((t.take j).filter (kP a))::pt p1 [.int .u32 a] 45::M) (E:=λ(_:Unit) M=>M) (λ_ _ _=>rfl) (λ_ _=>rfl) (λ_ _=>True) (λ_ _=>False) (none,0) trivial ?_ ?_ (λ_ _ h=>h.elim) (by simp only[List.length_nil,bo,bS,ey,aC,jq,lX];(repeat first|(with_reducible exact bL.refl)|((apply kp);(·repeat first|(with_reducible exact cF)|(with_reducible apply cS)))))
  ·rintro j hj ⟨x,y⟩ - l2 q3 M2 kn2 kj2 g -;have B:=bV hj
   dsimp only at g|-
   rw[B,cj]at g;generalize t[j]=o at g|-;have O:((t.take j).filter (kP a)).length<=250:=bK (aX _ _) (by rw[av];omega);refine au ?_;refine KC O (λh=>?_) λh Z X=>?_
   ·rw[aU (by simp[h]),ey,aC]at g;exact(g (x,y) trivial).fin
   ·rw[bF h,ey]at g;exact(g (Z,X) trivial).fin
  rintro⟨x,y⟩ -;rw[aL];refine Gs.ak (au ?_);refine Gs.look (enc:=eS) (ev:=AP) (D:=D) (x:=k.spec.num) jq qw kL Ba ?_ gy;rw[Nz];refine Gs.len gR (ni k.spec.num) ?_;have hBdl:=s.ord.bdl k.spec.num;have hF:(t.filter (kP a)).length<=200:=bK (aX _ _) F;refine Gs.l (λb:Nat×Option Addr×Nat=>(gI b.1,())) (λb=>(S.bd k.spec.num).length - b.1) (λb=>pt q2 (pH (⟨⟨k.spec,(S.led.position k.spec.num a).q⟩,(S.led.position k.spec.num a).b,k.price,t.filter (kP a)++((S.bd k.spec.num).take b.1).filter (kP a)⟩,.slice b.2.1 (t.filter (kP a)++((S.bd k.spec.num).take b.1).filter (kP a)).length b.2.2)) ub::lX (.slice b.2.1 (t.filter (kP a)++((S.bd k.spec.num).take b.1).filter (kP a)).length b.2.2) (t.filter (kP a)++((S.bd k.spec.num).take b.1).filter (kP a))::pt p1 [.int .u32 a] 45::pt q (dh k) lN::pt p [.slice sa Ls.length sc] 410::ow (.slice sa Ls.length sc) ub 29 Ls.length (Ls.flatMap pH)::Ws Ls::pt p0 [.pointer (some ⟨v,0,none⟩)] 24::vs v c l mb md A D S (pJ l1 r1::pt r (poX (S.led.position k.spec.num a)) 124::M)) (λb=>b.1<=(S.bd k.spec.num).length) (0,x,y) rfl (by simp) ?_ (by simp only[List.length_nil,bo,bS,ey,aC,jq,lX];(repeat first|(with_reducible exact bL.refl)|((apply kp);(·repeat first|(with_reducible exact cF)|(with_reducible apply cS)))));rintro⟨j,x,y⟩ hj KN H
  dsimp only at hj H|-
  refine Gs.z (au ?_);refine Gs.I (λh=>?_) λh=>?_
  ·have U:j<(S.bd k.spec.num).length:=qZ;have B:=bV U;refine Gs.it gR Nt dH OA (ni k.spec.num) rfl U (au ?_);intro q5;generalize(S.bd k.spec.num)[j]=o at B|-;refine au ?_
   have O:(t.filter (kP a)++((S.bd k.spec.num).take j).filter (kP a)).length<=250:=by
    rw[ad];have:=aX (kP a) ((S.bd k.spec.num).take j);rw[av]at this;omega
   refine KC O (λh=>?_) λh Z X=>?_
   ·refine au ?_;have:=H (j+1,x,y) (by dsimp only;omega) (by dsimp only;omega)
    dsimp only at this
    rw[B,cj,<-ag]at this;rw[aU (by simp[h]),ey,aC]at this;exact this.fin
   ·refine au ?_;have:=H (j+1,Z,X) (by dsimp only;omega) (by dsimp only;omega)
    dsimp only at this
    rw[B,cj,<-ag]at this;rw[bF h,ey]at this;exact this.fin
  ·obtain rfl:j=(S.bd k.spec.num).length:=qZ;rw[aL];refine au ?_;refine Gs.X (λw z=>eG gy aSk Zi (oN _) w z) ?_;refine Gs.push (l:=Ls) (x:=(S.stake a k,.slice x (t.filter (kP a)++(S.bd k.spec.num).filter (kP a)).length y)) (f:=pH) ae0 eSk oN (EL _ ⟨_,_,_,rfl⟩) rfl qZ qZ (λZ X=>?_) gy;refine au ?_;have Q:(S.stake a k).ords=t.filter (kP a)++(S.bd k.spec.num).filter (kP a):=by rw[<-hAl];rfl
   refine TK Q (Ls:=Ls) ?_;have:=R (Z,X,Ls++[(S.stake a k,.slice x (t.filter (kP a)++(S.bd k.spec.num).filter (kP a)).length y)]) (dh k) (by rw[m,aK,C];rfl);exact this.fin
 ·rintro⟨sa,sc,Ls⟩ d C
  dsimp only at C|-
  have e:tI S a S.cal.l.length=S.stakes a:=by unfold tI ba.stakes;rw[aL]
  rw[e]at C;refine Gs.ak (au ?_)
  have hLl:Ls.length<=16:=by
   have:=dP List.length C;rw[af]at this;rw[this];unfold ba.stakes;rw[af];exact bK (aX _ _) s.cal.len
  refine QW (Ls:=Ls) qZ (λx hx=>?_) ?_
  ·have hm:x.1∈S.stakes a:=by rw[<-C];exact aV hx
   unfold ba.stakes at hm;obtain⟨k,hk,he⟩:=aD.1 hm;have:=MI s (a:=a) (aM.1 hk).1;rw[he]at this;exact⟨this.1,qZ⟩
  rw[C,<-N];refine au ?_;refine Gs.tw ?_;refine au ?_;exact Y.fin
end
end Go.Proofs
namespace Go.Proofs
open Go Go.Vc
attribute [local congr] bj
variable {W:Wt_}
abbrev rF:TypeId:=51
def dV(c:Cm):(jI c).length=35:=by simp[jI,bb]
def tj(c:Cm):(jI c).all (·.oneCell')=true:=by rw[jI,ez,ez,oI];rfl
def cm0(c:Cm):(jI c)[0]? =some (gB c.kind):=rfl
def Zn(c:Cm):(jI c)[1]? =some (gU c.acct):=rfl
def Zu(c:Cm):(jI c)[2]? =some (gU c.ct):=rfl
def Wz(c:Cm):(jI c)[3]? =some (gQ c.num):=rfl
def Zp(c:Cm):(jI c)[4]? =some (gI c.amt):=rfl
def SH(c:Cm)(i:Nat):(jI c)[30+i]? =([.bool c.on,.bool c.buy,gB c.ty,gI c.price,gI c.qty]:LV_)[i]? :=by
 rw[jI,bf (by show 5<=30+i;omega),bf (by rw[bb];simp;omega),bb];congr 1;simp;omega
def IL(c:Cm):(jI c)[30]? =some (.bool c.on):=SH c 0
def MS(c:Cm):(jI c)[31]? =some (.bool c.buy):=SH c 1
def Sj(c:Cm):(jI c)[32]? =some (gB c.ty):=SH c 2
def N4(c:Cm):(jI c)[33]? =some (gI c.price):=SH c 3
def Q1(c:Cm):(jI c)[34]? =some (gI c.qty):=SH c 4
def FN:lI pQ rF=true:=cH
def Am:Tryz.prog.cellsOf rF=34+1:=cH
abbrev CK(W:Wt_)(p:Nat)(c:Cm):Prop:=hC W p (jI c).toArray rF
def Aa(c:Cm):Value:=.agg (jI c).toArray
def ac2(c:Cm)(w:Wt_):∃a,(Instr.box rF (Aa c)).run pQ w=.ok (cU w.heap.size 0) a/\CK a w.heap.size c/\M0 w a:=
 ⟨w.alloc (.cells (jI c).toArray rF),rfl,by show hp _ _=_;simp[go_sem],(bn.refl _ w).alloc _⟩
def XN{p:Nat}{c:Cm}(h:CK W p c):(pp rF (cU p 0)).run pQ W=.ok (Aa c) W:=ft FN Am (dV c) (At.all h)
section
variable{W:Wt_}{p:Nat}{c:Cm}
def aj4(W:Wt_):(iF rF (cU p 0) 1).run pQ W=.ok (cU p 1) W:=by simp[go_sem]
def aq4(W:Wt_):(iF rF (cU p 0) 3).run pQ W=.ok (cU p 3) W:=by simp[go_sem]
def am3(h:CK W p c):(iL 45 (cU p 1)).run pQ W=.ok (gU c.acct) W:=by simp[go_sem,h,Zn]
def an4(h:CK W p c):(iL 37 (cU p 3)).run pQ W=.ok (gQ c.num) W:=by simp[go_sem,h,Wz]
end
def YT{mb:Nat}{A:List (Int×Nat)}(h:fI eS fe W mb A){n:Int}{b:Nat}(a:lk A n=some b):(jF 90 (.map (some mb)) (gU n) false).run pQ W=.ok (fe b) W:=by
 have:=mI (ok:=false) (x:=n) xw kL Uy (.inr ⟨mb,rfl,h⟩:Ad eS fe W (.map (some mb)) A);rw[a]at this;exact this
def Xx{md:Nat}{D:List (Int×Value)}(h:fI eS AP W md D)(n:Int):(jF 91 (.map (some md)) (gU n) false).run pQ W=.ok (ly D n) W:=by
 have:=mI (ok:=false) (x:=n) qw kL Ba (.inr ⟨md,rfl,h⟩:Ad eS AP W (.map (some md)) D);unfold ly;cases a:lk D n with
 |none=>rw[a]at this;exact this
 |some x=>rw[a]at this;exact this
section
variable{w:Wt_}{K:be}{v c l mb md:Nat}{A:List (Int×Nat)}{D:List (Int×Value)}{fp:Pt->Nat->Prop}{S:ba}
end
def Ol{S:ba}(h:S.Ok){c:Cm}(i:c.Fit)(a:c.acct≠0)(f:(S.order c).1=0)(d:(cE (S.bk c.ct) (c.od S.next) c.ty).1=0):({S with bk:=eR S.bk c.ct (cE (S.bk c.ct) (c.od S.next) c.ty).2.1,next:=S.next+1}:ba).Ok:=by
 obtain⟨hp,j,k⟩:=pX a f;obtain⟨e,-⟩:=AL d;have b:=h.next
 have g:=tD h.ord (n:=c.ct) (o:=c.od S.next) (rests:=decide (c.ty=1\/c.ty=4)) (nx:=S.next+1) hp.alive (EO a qZ hp.price hp.qty) (Bz i ⟨qZ,by unfold ll at j;omega⟩)
  (by show S.next<_;omega) hp.stands (tz h.ord) qZ
 rw[e];exact⟨h.cal,h.led,g,⟨by grind,by grind⟩,h.fnd⟩
def pD{l:List Ct}{n:Int}(h:bt l n=0):(bU l n).isSome=true:=by
 obtain⟨k,a,-⟩:=pl h;rw[a];rfl
def OQ{B:Bk}{o:Od}{k:Int}(e:∀d,(B d).length<=100):(cE B o k).2.2.trades.length<=100:=by
 have a:∀L left,(eu o left L).2.2.1.length<=L.length:=by
  intro L;induction L with
  |nil=>intro left;simp[eu]
  |cons b r f=>
   intro left;unfold eu;split
   ·simp
   ·split
    ·grind
    ·split
     ·simp
     ·grind
 unfold cE;split
 ·simp
 ·split
  ·simp
  ·split
   ·simp
   ·split
    ·simp
    ·split
     ·simp
     ·have h:=a (B !o.buy) o.left;have g:=e !o.buy;unfold eP;simp only;split<;>(simp only;omega)
end Go.Proofs
namespace Go.Proofs
open Go Go.Vc
attribute [go_sem] Zn Zu Wz Zp IL MS Sj N4 Q1
section
variable{L L0 M:List As}{K:Value->WP}{v c l mb md:Nat}{A:List (Int×Nat)}{D:List (Int×Value)}{S:ba}{n a:Int}
def Nu{n:Nd}(g:dM n.m)(e:dM n.w)(h:dM n.u)(f:dM n.total)(b:Gs L (K (gI n.total))):Gs L (Cw pQ 258 #[NV n] K):=⟨λw y=>Ns g e h f λd m=>b.go d (y.md0 m)⟩
def za(i:nQ A D S.cal.l S.bk)(d:S.Ok)(b:Gs L0 (K (gI (S.bears a))))(p:bL L0 (vs v c l mb md A D S L):=by exact kz):Gs L0 (Cw pQ 200 #[eE v,gU a] K):=by
 refine Gs.pk ?_ p;replace b:=Gs.pk b p.symm;refine sN Tryz.func200 ?_;unfold eE;refine Sg i d ?_;have f:=Lj S a;have g:=Tl S a;unfold ba.bears at b;generalize S.need a=N at f g b|-;refine au ?_;intro q;refine au ?_;refine Gs.Ib (λe=>?_) λe=>?_
 ·rw[ab (by simpa using e)]at b;exact b.fin
 rw[aa (by simpa using e)]at b;refine au ?_;refine pK ?_;rw[nE];refine au ?_;intro r;refine au ?_;refine Nu ⟨qZ,qZ⟩ ⟨qZ,qZ⟩ ⟨qZ,qZ⟩ ⟨qZ,qZ⟩ ?_;refine au ?_;refine Gs.I (λh=>?_) λh=>?_
 ·rw[ab h]at b;exact b.fin
 ·rw[aa h]at b;exact b.fin
def DT{x:Cm}(i:nQ A D S.cal.l S.bk)(d:S.Ok)(g:x.Fit)(b:Gs (vs v c l mb md A D (S.order x).2.2 L) (K (.tuple #[mi (S.order x).2.1,gI (S.order x).1])))(p:bL L0 (vs v c l mb md A D S L):=by exact kz):Gs L0 (Cw pQ 219 #[eE v,Aa x] K):=by
 refine Gs.pk ?_ p;unfold ba.order at b;refine sN Tryz.func219 ?_;unfold eE;obtain⟨m,s,u,t,o,r,k,f,j⟩:=g;refine au ?_;intro p;refine au ?_;intro q;refine au ?_;refine HF i d f j (x:=ou) ⟨by show(0:Int)<=0;omega,by show(0:Int)<=1000000;omega⟩ ?_;generalize S.pass x.acct x.ct x.buy x.price x.qty ou=E at b|-;refine au ?_;refine Gs.Ib (λe=>?_) λe=>?_
 ·rw[ab (by simpa using e)]at b;refine au ?_;exact b.fin
 rw[aa (by simpa using e)]at b;refine IM d.next (λh=>?_) λh=>?_
 ·rw[ab h]at b;refine au ?_;exact b.fin
 ·rw[aa qZ]at b;refine au ?_;exact b.fin
end
end Go.Proofs
namespace Go.Proofs
open Go Go.Vc
abbrev Ey(s:Vt_)(l:List Td):As:=ow s tTd 4 l.length (l.flatMap Gv)
abbrev tX(s:Vt_)(l:List Int):As:=ow s 37 1 l.length (l.flatMap oy)
abbrev CM(s:Vt_)(l:List Int):As:=ow s 45 1 l.length (l.flatMap Ic)
abbrev eM(x:Option Addr×Nat)(n:Nat):Value:=.slice x.1 n x.2
section
variable{L L0 M:List As}{φ:WP}{K:Value->WP}{v c l mb md b:Nat}{A:List (Int×Nat)}{D:List (Int×Value)}{S:ba}{n a:Int}{bk:Int->Bk}{bd:Int->List Od}{B:Bk}{s:Vt_}{os:List Od}
def qH(j:lk A n=some b)(C:Gs (Cp b (bk n)::Yb (·≠n) A bk::M) φ)(p:bL L (qG A bk::M):=by exact kz):Gs L φ:=⟨λw ⟨F,z⟩=>by
 obtain⟨G,o,⟨f,q⟩,y,r,-⟩:=(p.out w F).1 z;have i:∀{m x},(lk A m).isSome=true->f m x->G x:=λh d=>(q.f _).2 ⟨_,trivial,h,d⟩
 exact C.go w (Ss.cons.2 ⟨f n,λx=>(∃m,m≠n/\(lk A m).isSome=true/\f m x)\/o x,q.q n b trivial j,⟨_,o,⟨f,λm b u e=>q.q m b trivial e,λm k x _ _=>q.dj m k x trivial trivial,λ_=>aI⟩,y,λx ⟨m,_,t,d⟩=>r x (i t d),λ_=>aI⟩,λx d g=>by
  rcases g with⟨m,u,t,E⟩|g
  ·exact u (q.dj m n x trivial trivial E d)
  ·exact r x (i (by rw[j];rfl) d) g⟩)⟩
def tC(u:lk A n=some b)(E:Gs (qG A (eR bk n B)::M) φ)(p:bL L (Cp b B::Yb (·≠n) A bk::M):=by exact kz):Gs L φ:=⟨λw ⟨F,z⟩=>by
 obtain⟨i,O,H,⟨y,F3,⟨r,q⟩,J,G,I⟩,N,P⟩:=(p.out w F).1 z;have no:∀{m x},m≠n->(lk A m).isSome=true->r m x->¬i x:=λd j f o=>N _ o ((I _).2 (.inl ((q.f _).2 ⟨_,d,j,f⟩)));refine E.go w (Ss.cons.2 ⟨λx=>i x\/y x,F3,⟨λm x=>if m=n then i x else(lk A m).isSome=true/\r m x,λm t _ e=>?_,λm k x _ _=>?_,λx=>?_⟩,J,λx f o=>?_⟩)
 ·by_cases d:m=n
  ·subst d;rw[u]at e;cases e;simp only[cQ,de];exact H
  ·rw[eT _ _ _ d];simpa [d,e]using q.q m t d e
 ·by_cases d:m=n<;>by_cases g:k=n<;>simp only[d,g,de,dB]
  ·simp
  ·grind
  ·grind
  ·exact λh C=>q.dj m k x d g h.2 C.2
 ·rw[q.f];constructor
  ·rintro(h|⟨m,d,j,f⟩)
   ·grind
   ·grind
  ·rintro⟨m,-,j,f⟩;by_cases d:m=n
   ·grind
   ·grind
 ·rcases f with f|f
  ·grind
  ·exact G x f o⟩
def vg(j:Gs (lX (ly D n) (bd n)::T0 (·≠n) D bd::M) φ)(p:bL L (tq D bd::M):=by exact kz):Gs L φ:=⟨λw ⟨F,z⟩=>by
 obtain⟨r,f,q,h,g,-⟩:=(p.out w F).1 z;have i:∀{m x},aQ (ly D m) x->r x:=λd=>(q.f _).2 ⟨_,trivial,d⟩
 exact j.go w (Ss.cons.2 ⟨aQ (ly D n),λx=>(∃m,m≠n/\aQ (ly D m) x)\/f x,⟨q.q n trivial,λ_=>aI⟩,⟨_,f,⟨λm _=>q.q m trivial,λm k x _ _=>q.dj m k x trivial trivial,λ_=>aI⟩,h,λx ⟨m,_,d⟩=>g x (i d),λ_=>aI⟩,λx d e=>by
  rcases e with⟨m,t,o⟩|e
  ·exact t (q.dj m n x trivial trivial o d)
  ·exact g x (i d) e⟩)⟩
def yO(o:Gs (tq (put D n s) (eR bd n os)::M) φ)(p:bL L (lX s os::T0 (·≠n) D bd::M):=by exact kz):Gs L φ:=⟨λw ⟨F,z⟩=>by
 obtain⟨y,G,⟨t,i⟩,⟨j,F3,q,C,r,u⟩,E,H⟩:=(p.out w F).1 z;have no:∀{m x},m≠n->aQ (ly D m) x->¬aQ s x:=λd e g=>E _ ((i _).2 g) ((u _).2 (.inl ((q.f _).2 ⟨_,d,e⟩)));refine o.go w (Ss.cons.2 ⟨λx=>y x\/j x,F3,⟨λm _=>?_,λm k x _ _=>?_,λx=>?_⟩,C,λx e g=>?_⟩)
 ·rw[sq];by_cases d:m=n
  ·subst d;simpa [cQ]using t
  ·rw[eT _ _ _ d,aa d];exact q.q m d
 ·rw[sq,sq];by_cases d:m=n<;>by_cases f:k=n<;>simp only[d,f,de,dB]
  ·simp
  ·grind
  ·grind
  ·exact q.dj m k x d f
 ·rw[q.f,i];constructor
  ·rintro(h|⟨m,d,e⟩)
   ·exact⟨n,trivial,by rw[sq,ab rfl];exact h⟩
   ·exact⟨m,trivial,by rw[sq,aa d];exact e⟩
  ·rintro⟨m,-,e⟩;rw[sq]at e;by_cases d:m=n
   ·grind
   ·grind
 ·rcases e with e|e
  ·grind
  ·exact r x e g⟩
def nQ.put{C:List Ct}(h:nQ A D C bk)(f:(bU C n).isSome=true):nQ A (put D n s) C bk:=⟨h.dom,λm d=>by
 rw[lL]at d;by_cases e:n=m
 ·rw[<-e];exact f
 ·rw[aa e]at d;exact h.dod m d,h.nbk⟩
def nQ.upb{C:List Ct}(h:nQ A D C bk)(f:lk A n=some b):nQ A D C (eR bk n B):=⟨h.dom,h.dod,λm d=>by
 by_cases e:m=n
 ·grind
 ·rw[eT _ _ _ e];exact h.nbk m d⟩
def tJ{o:Od}{k:Int}(e:o.Fit)(t:0<=k/\k<256)(h:∀x y,Gs (Cp b (cE B o k).2.1::Ey (eM x (cE B o k).2.2.trades.length) (cE B o k).2.2.trades::tX (eM y (cE B o k).2.2.gone.length) (cE B o k).2.2.gone::M)
   (K (.tuple #[.agg (uX (eM x (cE B o k).2.2.trades.length) (eM y (cE B o k).2.2.gone.length) (cE B o k).2.2.filled (cE B o k).2.2.left),gI (cE B o k).1])))(p:bL L (Cp b B::M):=by exact gy):
  Gs L (Cw pQ 155 #[fe b,mi o,gB k] K):=by
 generalize m:cE B o k=X at h
 exact Gs.old (A:=Cp b B) (val:=λx:(Option Addr×Nat)×Option Addr×Nat=>.tuple #[.agg (uX (eM x.1 X.2.2.trades.length) (eM x.2 X.2.2.gone.length) X.2.2.filled X.2.2.left),gI X.1]) (p:=λ_=>True) (B:=λx=>(Cp b X.2.1).mul ((Ey (eM x.1 X.2.2.trades.length) X.2.2.trades).mul (tX (eM x.2 X.2.2.gone.length) X.2.2.gone))) (λw F _ q K h=>Oi q e t λf sT H j g o C i nn=>by
  rw[m]at g o|-;obtain⟨E,r,rfl,-⟩:=o.tr.isSl;obtain⟨z,u,rfl,-⟩:=o.go.isSl;exact h ((E,r),z,u) j (λy=>f y\/aQ _ y\/aQ _ y) trivial ⟨f,_,g,⟨aQ _,aQ _,⟨o.tr,λ_=>aI⟩,⟨o.go,λ_=>aI⟩,o.dj,λ_=>aI⟩,λy d G=>(nn y G).2 d,λ_=>aI⟩ C λy d=>d.elim (i y) λh=>.inr (nn y h).1) (λx _=>((h x.1 x.2).pk (bL.cons My)).pk My) p
end
end Go.Proofs
