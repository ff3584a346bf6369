/- Part of a proof. -/
import Derived.Test.YtekbnpagidkbbaaGreatT25
set_option linter.all false
set_option maxRecDepth 100000
set_option maxHeartbeats 4000000
namespace Go.Proofs
open Go Go.Vc
def i6C(n:Int):List Value:=[.int .i64 n]
def al5(x:Int)(w:Wt_)(b off:Nat)(h:At w b off (i6C x)):(iL 2 (cU b off)).run pQ w=.ok (gI x) w:=by
 obtain⟨C,e,d,hC,c⟩:=h.get;have a:=c 0 (gI x) rfl;simp only[bM]at a;simp[go_sem,cO hC,a]
def QH(k:Ct):(dh k)[25]? =some (gB k.st)/\(dh k)[26]? =some (gI k.price):=by
 constructor<;>simp[dh,bb,List.getElem?_append]
section
variable{L L0 M M2:List As}{B:As}{K:Value->WP}{s t fv:Vt_}{l b g:List UInt8}{n:Nat}{o:Bool}{f:FuncId}{args:Array Value}
def YH{x:Ac}(h:gM x.num/\dM x.cash)(hl:l.length<=900000000)(d:∀a,Gs (ju a (l++I5 x)::M) (K a))(p:bL L (ju s l::M):=by repeat first|(with_reducible exact cF)|(with_reducible apply cS)):Gs L (Cw pQ 97 #[s,jG x] K):=by
 refine Gs.pk ?_ p;refine sN Tryz.func97 ?_;obtain⟨⟨e,k⟩,c⟩:=h;have i:=gV x.num qZ;have j:=nS c;unfold jG;refine au ?_;intro q;refine au ?_;refine jh ⟨e,qZ⟩ λs=>?_;refine au ?_;refine rH c λs=>?_;refine au ?_;refine Cu λs=>?_;refine au ?_;refine Cu λs=>?_;have:=d s;unfold I5 at this;simp only[<-ag]at this;exact this.fin
def Y9{x:Po}(j:(gM x.c/\gM x.a)/\dM x.q/\dM x.b)(hl:l.length<=900000000)(e:∀c,Gs (ju c (l++Jn x)::M) (K c))(p:bL L (ju s l::M):=by repeat first|(with_reducible exact cF)|(with_reducible apply cS)):Gs L (Cw pQ 103 #[s,mK x] K):=by
 refine Gs.pk ?_ p;refine sN Tryz.func103 ?_;obtain⟨⟨⟨h,u⟩,i,v⟩,d,a⟩:=j;have m:=gV x.c qZ;have r:=gV x.a qZ;have w:=nS d;have k:=nS a;unfold mK;refine au ?_;intro q;refine au ?_;refine jh ⟨h,qZ⟩ λs=>?_;refine au ?_;refine jh ⟨i,qZ⟩ λs=>?_;refine au ?_;refine rH d λs=>?_;refine au ?_;refine rH a λs=>?_;have:=e s;unfold Jn at this;simp only[<-ag]at this;exact this.fin
def YY{x:Int×Od}(k:gM x.1/\x.2.Fit)(hl:l.length<=900000000)(e:∀a,Gs (ju a (l++FO x)::M) (K a))(p:bL L (ju s l::M):=by repeat first|(with_reducible exact cF)|(with_reducible apply cS)):Gs L (Cw pQ 105 #[s,yY x] K):=by
 refine Gs.pk ?_ p;refine sN Tryz.func105 ?_;obtain⟨⟨h,m⟩,⟨j,u⟩,⟨i,y⟩,c,d⟩:=k;have z:=gV x.1 qZ;have A:=gV x.2.num qZ;have v:=gV x.2.acct qZ;have w:=nS c;have r:=nS d;unfold yY mH dp;refine au ?_;intro q;refine au ?_;refine jh ⟨h,qZ⟩ λs=>?_;refine au ?_;refine jh ⟨j,qZ⟩ λs=>?_;refine au ?_;refine jh ⟨i,qZ⟩ λs=>?_;refine au ?_;refine Cu λs=>?_;refine au ?_;refine rH c λs=>?_;refine au ?_;refine rH d λs=>?_;have:=e s;unfold FO at this;simp only[<-ag]at this;exact this.fin
attribute [local go_sem] PD QH
def ag8{x:Sp}{q:Nat}{T:TypeId}(p:bL L (pt q (fk x) T::M)):∀w,Ss w L->(pp 46 (cU q 6)).run pQ w=.ok (.agg (vl x.shifts).toArray) w:=λw y=>ft Xv XV (mX _) (by
 have:=(At.all (nW p y)).sub 6 16 (by rw[bb];omega);rw[rZ]at this;simpa using this)
def X8{x:Sp}(D:x.Fit)(hl:l.length<=900000000)(e:∀H,Gs (ju H (l++Qh x)::M) (K H))(p:bL L (ju s l::M):=by repeat first|(with_reducible exact cF)|(with_reducible apply cS)):Gs L (Cw pQ 101 #[s,.agg (fk x).toArray] K):=by
 refine Gs.pk ?_ p;refine sN Tryz.func101 ?_;refine Gs.bx (cs:=fk x) (λw=>rfl) ?_;intro q;refine Gs.X (eG (cs:=fk x) cF yf ud (bb _)) ?_;refine Gs.ro (φ:=λk=>Cw pQ _ _ k) (val:=λ_:Unit=>.bool x.may) (p:=λ_=>True) (λw y K h=>pY D λN m=>h () N trivial m) λ_ _=>?_;refine au ?_;unfold Qh at e;refine Gs.Ib (λA=>?_) λA=>?_
 ·rw[aa (by simpa using A),aC]at e;exact(e s).fin
 rw[ab (by simpa using A)]at e;obtain⟨J,E,G⟩:=GF D (by simpa using A);obtain⟨R,W,f3,f4,f5,f6,I,f8,Z,O⟩:=D;have hr:0<=x.route/\x.route<256:=W;have z:0<=x.num/\x.num<4294967296:=R;refine au ?_;refine Gs.lit ((t9 x).map λn=>gI n) Rz ao5 rfl rfl (by intro v Y;obtain⟨n,-,rfl⟩:=aD.1 Y;rfl) (by decide) (cs:=(t9 x).flatMap i6C) rfl rfl λc=>?_;refine au ?_;refine Gs.l (λy:Value×Nat=>(y.1,gI y.2,())) (6 - ·.2) (λy=>ju y.1 (l++((t9 x).take y.2).flatMap dL)::ow (.slice (some ⟨c,0,none⟩) 6 6) 2 1 6 ((t9 x).flatMap i6C)::pt q (fk x) 48::M) (λy=>y.2<=6) (s,0) rfl (aw _) ?_ (by rw[bS,bo,aC];exact(by repeat first|(with_reducible exact bL.refl)|((apply kp);(·repeat first|(with_reducible exact cF)|(with_reducible apply cS)))));rintro⟨s,i⟩ u P d
 dsimp only at u d|-
 have r:=rq (m:=10) (g:=dL) (L:=(t9 x).take i) λn z=>gV n (by have:=J n (bm z);omega);rw[av]at r;have X:(t9 x).length=6:=rfl;refine Gs.z (au ?_);refine Gs.I (λh=>?_) λh=>?_
 ·have a:i<(t9 x).length:=qZ;refine Gs.it Rz RT (λ_=>rfl) al5 (mZ (T:=2) (sz:=1) (n:=6) (by repeat first|(with_reducible exact cF)|(with_reducible apply cS))) rfl a ?_;have S:=J _ (ar a);refine au ?_;refine jh ⟨S.1,qZ⟩ λC=>?_;refine au ?_;have:=d (C,i+1) a (by dsimp only;omega);rw[bV a,bD,aT,bo,aC,<-ag]at this;exact this
 obtain rfl:i=6:=qZ;clear d;refine au ?_;refine Gs.X (ag8 (by repeat first|(with_reducible exact cF)|(with_reducible apply cS))) ?_;rw[ay (by rw[X];exact aB 6)]at r|-;generalize j:l++(t9 x).flatMap dL=F;have V:F.length<=900000060:=by rw[<-j,ad];omega
 have Q:x.shifts.toList.length=16:=by simp
 refine Gs.fin (M:=ju s F::pt q (fk x) 48::M) ?_;refine Gs.l (λy:Value×Nat=>(y.1,gI y.2,())) (16 - ·.2) (λy=>ju y.1 (F++(x.shifts.toList.take y.2).flatMap oR)::pt q (fk x) 48::M) (λy=>y.2<=16) (s,0) rfl (aw _) ?_ (by rw[bS,bo,aC];exact .refl);clear h r u;rintro⟨s,i⟩ u P d
 dsimp only at u d|-
 have r:=rq (m:=10) (g:=oR) (L:=x.shifts.toList.take i) λn z=>nS (I n (bm z));rw[av]at r;refine Gs.z (au ?_);refine Gs.I (λh=>?_) λh=>?_
 ·have a:i<x.shifts.toList.length:=qZ;refine Gs.V (λw _=>pS uSh Vp TD RT qZ (Ar _ i qZ)) ?_;rw[eW x.shifts.toList i a];refine rH (I _ (ar a)) λC=>?_;refine au ?_;have:=d (C,i+1) (by dsimp only;omega) (by dsimp only;omega);rw[bV a,bD,aT,bo,aC,<-ag]at this;exact this
 obtain rfl:i=16:=qZ;clear d;have U:0<=x.last/\x.last<4294967296:=Z;have c1:=gV x.credit qZ;have c2:=gV x.last qZ;refine au ?_;refine jh ⟨E.1,qZ⟩ λs=>?_;refine au ?_;refine jh ⟨U.1,qZ⟩ λs=>?_;refine au ?_;refine jh ⟨G.1,qZ⟩ λs=>?_;have:=e s;rw[ay qZ,<-j];simp only[t9,aT,bo,aC,ag]at this|-;exact this.fin
def Xm{x:Ct}(i:x.Fit)(hl:l.length<=900000000)(e:∀d,Gs (ju d (l++JX x)::M) (K d))(p:bL L (ju s l::M):=by repeat first|(with_reducible exact cF)|(with_reducible apply cS)):Gs L (Cw pQ 100 #[s,.agg (dh x).toArray] K):=by
 refine Gs.pk ?_ p;refine sN Tryz.func100 ?_;obtain⟨a,⟨h,m⟩,c⟩:=i;have j:=S9 a;have k:=gV x.st qZ;refine Gs.bx (cs:=dh x) (λw=>rfl) ?_;intro q;refine au ?_;refine Gs.WX (v:=.agg (fk x.spec).toArray) (λw y=>ft yf ud (bb _) (Er (At.all (nW (b:=q) (cs:=dh x) cF y)))) ?_;refine au ?_;refine X8 a hl λs=>?_;refine au ?_;refine jh ⟨h,qZ⟩ λs=>?_;refine au ?_;refine rH c λs=>?_;have:=e s;unfold JX at this;simp only[<-ag]at this;exact this.fin
end
end Go.Proofs
namespace Go.Proofs
open Go Go.Vc
def X4:(iK pQ lN).length=27:=cH
attribute [local go_sem] PD QH
section
variable{L L0 M:List As}{K:Value->WP}{v c l mb md mn:Nat}{A:List (Int×Nat)}{D:List (Int×Value)}{S:ba}{U:List Int}{x:Int×Od}{N:List (Int×Int)}{n:Int}{lots:Bool}
def DH(a:bt S.cal.l n=0)(b:Gs L (K (.tuple #[.agg (dh (dw S.cal.l n).1).toArray,.bool true])))(p:bL L (vs v c l mb md A D S M):=by repeat first|(with_reducible exact bL.refl)|((apply kp);(·repeat first|(with_reducible exact cF)|(with_reducible apply cS)))):Gs L (Cw pQ 53 #[eE v,gU n] K):=by
 have b:=Gs.pk b p.symm;refine Gs.pk ?_ p;refine sN Tryz.func53 ?_;unfold eE;refine Gs.bA cH λz=>?_;refine au ?_;refine wS ?_;refine au ?_;refine Gs.bvar cH qp (bC _) cH (g9 _) λr=>?_
 obtain⟨k,e,d⟩:∃k,dw S.cal.l n=(k,0)/\k.st≠3:=by
  unfold bt at a;unfold dw;cases f:bU S.cal.l n with
  |none=>rw[f]at a;cases a
  |some k=>
   rw[f]at a;refine⟨k,rfl,λh=>?_⟩;simp[h]at a
 rw[e]at b|-
 dsimp only at b|-
 refine au ?_;refine Gs.WX (eG (cs:=dh k) (by repeat first|(with_reducible exact cF)|(with_reducible apply cS)) Dq qp (bC _)) ?_;refine au ?_;refine Gs.stY (cs' :=dh k) (n:=26) (by repeat first|(with_reducible exact cF)|(with_reducible apply cS)) (bC _) qp (by rw[bC,X4];decide) (g9 _) (kv (by rw[bC,X4])) ?_;refine au ?_;refine Gs.WX (eG (cs:=dh k) (by repeat first|(with_reducible exact cF)|(with_reducible apply cS)) Dq qp (bC _)) ?_;rw[show(k.st != 3)=true by simpa using d];exact b.fin
def Ci(i:S.stnd lots U x=true)(F:∀m,m ∉ U->lk N m=none)(V:gM x.1/\x.2.Fit)(j:(dw S.cal.l x.1).1.spec.Fit)(z:Gs (vs v c l mb md A D S (mp qa vr mn (put N x.2.num 1)::M)) (K (.bool true)))(p:bL L (vs v c l mb md A D S (mp qa vr mn N::M)):=by repeat first|(with_reducible exact bL.refl)|((apply kp);(·repeat first|(with_reducible exact cF)|(with_reducible apply cS)))):
  Gs L (Cw pQ 154 #[eE v,yY x,.bool lots,.map (some mn)] K):=by
 unfold ba.stnd at i;simp only[ah,ax]at i;obtain⟨H,o,O,C,B,W,I⟩:=i;refine Gs.pk ?_ p;refine sN Tryz.func154 ?_;unfold yY mH dp;refine au ?_;intro q;refine au ?_;intro T;refine au ?_;refine DH H ?_;unfold eE;generalize(dw S.cal.l x.1).1=k at C B j|-;refine au ?_;refine Gs.bvar cH qp (bC _) cH (g9 _) λr=>?_
 obtain⟨a,P,d1,d2⟩:∃a,S.led.getV x.2.acct=(a,0)/\a.dfl=false/\a.kil=false:=by
  rw[Yq]at o;simp only[ah,ax,Bool.not_eq_true']at o;exact⟨_,Prod.ext rfl o.1,o.2.1,o.2.2⟩
 refine Gs.j (λq:Nat=>(Value.pointer (some ⟨q,0,none⟩),gI 0,())) (λQ=>pt Q (dr a) 100::pt r (dh k) 120::pt T (dp x.2) 130::vs v c l mb md A D S (mp qa vr mn N::M)) (λ_=>True) (λJ g=>?_) ?_
 ·have g:=λq=>g q trivial;have get:∀{L:List As} {K:Value->WP} {M},Gs L (K (.tuple #[jG a,gI 0]))->bL L (jV l S.led::M)->Gs L (Cw pQ 56 #[eK l,gU x.2.acct] K):=λh p=>pK (by rw[P];exact h) p;unfold dr dp at g;refine au ?_;refine Gs.An ?_ ?_
  ·refine get ?_ (by repeat first|(with_reducible exact cF)|(with_reducible apply cS));unfold jG;refine au ?_;intro u;refine au ?_;exact(g u).fin
  ·refine au ?_;intro u;refine au ?_;refine get ?_ (by repeat first|(with_reducible exact cF)|(with_reducible apply cS));unfold jG;refine au ?_;exact(g u).fin
 ·intro u _;unfold dr dp;refine Gs.z ?_;have s:x.2.num ∉ U:=by simpa using I
  have d:∀{f e v} {L:List As} {K:Value->WP},(∀w (K:be),(∀t,M0 w t->K v t)->Ca pQ f e w K)->Gs L (K v)->Gs L (Cw pQ f e K):=λR z=>⟨λw y=>R w _ λt m=>z.go t (y.md0 m)⟩
  rw[d1,d2];refine Gs.j1 (.bool false,()) (λJ g=>?_) ?_
  ·refine au ?_;refine d (λw K h=>vh h) ?_;rw[O];refine au ?_;refine Gs.WX (v:=.agg (fk k.spec).toArray) (λw y=>ft yf ud (bb _) (Er (At.all (nW (b:=r) (cs:=dh k) (by repeat first|(with_reducible exact cF)|(with_reducible apply cS)) y)))) ?_;refine au ?_;refine d (λw K h=>pC j h) ?_;rw[C];refine au ?_;have look:∀{L:List As} {K:Value->WP} {G},Gs L (K (gI 0))->bL L (mp qa vr mn N::G)->Gs L (VI pQ (jF 243 (.map (some mn)) (gQ x.2.num) false) K):=λh p=>Gs.lookD (enc:=qa) (ev:=vr) (D:=N) (x:=x.2.num) (gI 0) Di CO cH (by rw[F _ s];exact h) p;refine Gs.Ib (λE=>?_) λE=>?_
   ·rw[E]at B;refine au ?_;refine Gs.WX (v:=.agg (fk k.spec).toArray) (λw y=>ft yf ud (bb _) (Er (At.all (nW (b:=r) (cs:=dh k) (by repeat first|(with_reducible exact cF)|(with_reducible apply cS)) y)))) ?_;refine au ?_;refine d (λw K h=>HY j h) ?_;rw[show k.spec.isQty x.2.left=true by simpa using B];refine au ?_;refine Gs.I0 qZ ?_;refine au ?_;refine look ?_ (by repeat first|(with_reducible exact cF)|(with_reducible apply cS));refine au ?_;exact g
   ·refine au ?_;refine Gs.I0 qZ ?_;refine au ?_;refine look ?_ (by repeat first|(with_reducible exact cF)|(with_reducible apply cS));refine au ?_;exact g
  refine Gs.z (au ?_);refine Gs.look (enc:=qa) (ev:=vr) (D:=N) (x:=x.2.num) (gI 0) Di CO cH ?_ (by repeat first|(with_reducible exact cF)|(with_reducible apply cS));rw[F _ s];refine au ?_;refine Gs.mup (enc:=qa) (ev:=vr) (x:=x.2.num) (v:=1) Di CO ?_ (by repeat first|(with_reducible exact cF)|(with_reducible apply cS));exact z.fin
end
end Go.Proofs
namespace Go.Proofs
open Go Go.Vc
section
variable{L L0 M:List As}{K:Value->WP}{v c l mb md mn:Nat}{A:List (Int×Nat)}{D:List (Int×Value)}{S:ba}{U:List Int}{x:Int×Od}{N:List (Int×Int)}{n:Int}{lots:Bool}
def Qx{s:zi}{e1 e2 e3 e4 e5:Option Addr×Nat}{U1:List Int}{T1 T2:ba}(hf:s.Fit)(hlo:s.ords.length<=100000/\s.bids.length<=100000)(hsf:∀n,bt S.cal.l n=0->(dw S.cal.l n).1.spec.Fit)(hv:nQ A D S.cal.l S.bk)
  (hfo:oJ s.ords [] S=some (U1,T1))(hfb:qR s.bids none 0 U1 T1=some T2)
  (hk:∀D',nQ A D' T2.cal.l T2.bk->Gs (vs v c l mb md A D' T2 (yg (sT s e1 e2 e3 e4 e5) s::M)) (K (.bool true)))(p:bL L (vs v c l mb md A D S (yg (sT s e1 e2 e3 e4 e5) s::M)):=by repeat first|(with_reducible exact bL.refl)|((apply kp);(·repeat first|(with_reducible exact cF)|(with_reducible apply cS)))):
  Gs L (Cw pQ 54 #[eE v,RJ s.day s.next s.fund (sT s e1 e2 e3 e4 e5)] K):=by
 have rdO:∀{L:List As} {M},bL L (yg (sT s e1 e2 e3 e4 e5) s::M)->∀w,Ss w L->Rd w 6 (.slice e4.1 s.ords.length e4.2) s.ords.length (s.ords.flatMap mH):=λp w y=>(fg p y).elim λF h=>(h.1 6 (by decide) (by decide)).rd;have Z:∀{L:List As} {M},bL L (yg (sT s e1 e2 e3 e4 e5) s::M)->∀w,Ss w L->Rd w 6 (.slice e5.1 s.bids.length e5.2) s.bids.length (s.bids.flatMap mH):=λp w y=>(fg p y).elim λF h=>(h.1 7 (by decide) (by decide)).rd
 have bix:∀{L:List As} {K:Value->WP} {M} {u:Int} (j:Nat) (Y:j<s.bids.length),u=j->Gs L (K (gU s.bids[j].1))->bL L (yg (sT s e1 e2 e3 e4 e5) s::M)->Gs L (Pw pQ (iX 56 (.slice e5.1 s.bids.length e5.2) (gI u)) λp=>Pw pQ (iF 132 p 0) λp=>Ww pQ (iL 45 p) K):=λj Y e h p=>by
  subst e
  exact⟨λw y=>by
   obtain⟨b,off,e1,hA⟩:=af9 (Z p w y) Y;exact gP (λW=>e1 W _) (eQ (cU b off) (λW=>by simp[go_sem]) (gC (Z9 hA) (h.go w y)))⟩
 refine Gs.pk ?_ p;refine sN Tryz.func54 ?_;unfold RJ Zy;simp only[sS];refine au ?_;intro q;refine Gs.mkM (enc:=qa) (ev:=vr) λmn=>?_;refine au ?_;refine Gs.fin (M:=mp qa vr mn []::vs v c l mb md A D S (pt q [.int .u32 s.day,gQ s.next,gI s.fund,.slice e1.1 s.accts.length e1.2,.slice e2.1 s.cts.length e2.2,.slice e3.1 s.poss.length e3.2,.slice e4.1 s.ords.length e4.2,.slice e5.1 s.bids.length e5.2] 58::yg (sT s e1 e2 e3 e4 e5) s::M)) ?_;refine Gs.l (λx:Nat×List Int×List (Int×Int)×ba=>(Value.bool false,Value.int .i64 x.1,())) (s.ords.length - ·.1) (λx=>mp qa vr mn x.2.2.1::vs v c l mb md A D x.2.2.2 (pt q [.int .u32 s.day,gQ s.next,gI s.fund,.slice e1.1 s.accts.length e1.2,.slice e2.1 s.cts.length e2.2,.slice e3.1 s.poss.length e3.2,.slice e4.1 s.ords.length e4.2,.slice e5.1 s.bids.length e5.2] 58::yg (sT s e1 e2 e3 e4 e5) s::M)) (λx=>x.1<=s.ords.length/\(∀m,m ∉ x.2.1->lk x.2.2.1 m=none)/\(x.2.2.2.cal=S.cal/\nQ A D S.cal.l x.2.2.2.bk)/\oJ (s.ords.drop x.1) x.2.1 x.2.2.2=some (U1,T1)) (0,[],[],S) rfl ⟨aw _,λ_ _=>rfl,⟨rfl,hv⟩,hfo⟩ ?_ .refl;rintro⟨i,U,N,T⟩ ⟨h1,O,⟨H,P⟩,a⟩ K1 E
 dsimp only at h1 O H P a E|-
 refine Gs.z (au ?_);refine Gs.I (λhi=>?_) λhi=>?_
 ·have d:i<s.ords.length:=qZ;rw[bN d,JB]at a;have Q:=hf.ords _ (ar d);refine Gs.it (f:=mH) (vf:=yY) zV Yc (λ_=>rfl) (λ_ _ _ _ h=>JU h) (rdO (by repeat first|(with_reducible exact cF)|(with_reducible apply cS))) rfl d ?_;generalize s.ords[i]=x at a Q|-;split at a
  ·cases a
  rename_i G
  split at a
  ·cases a
  rename_i hb
  have G:T.stnd true U x=true:=by simpa using G
  have I:bt S.cal.l x.1=0:=by
   unfold ba.stnd at G;simp only[ah,ax]at G;rw[<-H];exact G.1
  unfold yY mH dp;refine au ?_;intro r;refine au ?_;refine Ci (x:=x) G O Q (by rw[H];exact hsf _ I) ?_;refine au ?_;obtain⟨b,C⟩:=xp P (pD I);obtain⟨X,hX⟩:=dW (cE (T.bk x.1) x.2 4);rw[<-hX]at hb a;have hb0:X.1=0:=Decidable.byContradiction λh=>hb (.inl h);have hbg:X.2.2.gone=[]:=Decidable.byContradiction λh=>hb (.inr h);refine Gs.j (λy:Nat×(Option Addr×Nat)×Option Addr×Nat=>(Value.pointer (some ⟨y.1,0,none⟩),Value.int .i64 X.1,())) (λy=>pt y.1 (plX (eM y.2.1 X.2.2.trades.length) (eM y.2.2 X.2.2.gone.length) X.2.2.filled X.2.2.left) 246::tX (eM y.2.2 X.2.2.gone.length) X.2.2.gone::mp qa vr mn (put N x.2.num 1)::vs v c l mb md A D {T with bk:=eR T.bk x.1 X.2.1} (pt q [.int .u32 s.day,gQ s.next,gI s.fund,.slice e1.1 s.accts.length e1.2,.slice e2.1 s.cts.length e2.2,.slice e3.1 s.poss.length e3.2,.slice e4.1 s.ords.length e4.2,.slice e5.1 s.bids.length e5.2] 58::yg (sT s e1 e2 e3 e4 e5) s::M)) (λ_=>True) (λJ B=>?_) λy _=>?_
  ·have B:=λy t g=>B (y,t,g) trivial;unfold eE;refine au ?_;refine Gs.WX (Vn C) ?_;refine au ?_;refine Gs.An ?_ (au ?_)
   ·refine qH C ?_;refine tJ (o:=x.2) (k:=4) Q.2 (by decide) (λt g=>?_);rw[<-hX];refine tC C ?_;refine au ?_;intro y;refine au ?_;exact(B y t g).fin
   ·intro y;refine au ?_;refine Gs.E (Vn C) ?_;refine au ?_;refine qH C ?_;refine tJ (o:=x.2) (k:=4) Q.2 (by decide) (λt g=>?_);rw[<-hX];refine tC C ?_;refine au ?_;exact(B y t g).fin
  obtain⟨y,t,g⟩:=y
  dsimp only
  rw[hb0,hbg];refine Gs.z ?_;refine Gs.j1 (.bool false,()) (λJ B=>?_) ?_
  ·refine au ?_;exact B
  refine Gs.z (au ?_);refine(E (i+1,x.2.num::U,put N x.2.num 1,{T with bk:=eR T.bk x.1 X.2.1}) ⟨d,λm R=>?_,⟨H,P.upb C⟩,a⟩ (by dsimp only;omega)).fin
  dsimp only at R|-
  rw[lL,aa λe=>R (by rw[e];exact ai)];exact O m λh=>R (ae _ h)
 obtain rfl:i=s.ords.length:=qZ;rw[eg]at a;cases a;clear E;refine au ?_;refine Gs.l (λx:Nat×Int×List Int×List (Int×Int)×List (Int×Value)×ba=>(Value.bool false,Value.int .u64 x.2.1,Value.int .i64 x.1,())) (s.bids.length - ·.1) (λx=>mp qa vr mn x.2.2.2.1::vs v c l mb md A x.2.2.2.2.1 x.2.2.2.2.2 (pt q [.int .u32 s.day,gQ s.next,gI s.fund,.slice e1.1 s.accts.length e1.2,.slice e2.1 s.cts.length e2.2,.slice e3.1 s.poss.length e3.2,.slice e4.1 s.ords.length e4.2,.slice e5.1 s.bids.length e5.2] 58::yg (sT s e1 e2 e3 e4 e5) s::M)) (λx=>x.1<=s.bids.length/\(∀m,m ∉ x.2.2.1->lk x.2.2.2.1 m=none)/\(x.2.2.2.2.2.cal=S.cal/\nQ A x.2.2.2.2.1 S.cal.l x.2.2.2.2.2.bk)/\qR (s.bids.drop x.1) (Ak s.bids x.1) x.2.1 x.2.2.1 x.2.2.2.2.2=some T2) (0,0,U1,N,D,T1) rfl ⟨aw _,O,⟨H,P⟩,hfb⟩ ?_ .refl;clear h1 O H P hi hfb;rintro⟨i,n,U,N,D,T⟩ ⟨h1,O,⟨H,P⟩,a⟩ K1 E
 dsimp only at h1 O H P a E|-
 refine Gs.z (au ?_);refine Gs.I (λhi=>?_) λhi=>?_
 ·have d:i<s.bids.length:=qZ;rw[bN d,JI]at a;have Q:=hf.bids _ (ar d);have hpc:=DV d;refine Gs.it (f:=mH) (vf:=yY) zV Yc (λ_=>rfl) (λ_ _ _ _ h=>JU h) (Z (by repeat first|(with_reducible exact cF)|(with_reducible apply cS))) rfl d ?_;generalize s.bids[i]=x at a Q hpc|-;split at a
  ·cases a
  rename_i G
  have G:T.stnd false U x=true:=by simpa using G
  have I:bt S.cal.l x.1=0:=by
   unfold ba.stnd at G;simp only[ah,ax]at G;rw[<-H];exact G.1
  obtain⟨la,V⟩:=dW (if Ak s.bids i≠none/\Ak s.bids i≠some x.1 then 0 else n:Int);rw[<-V]at a;split at a
  ·cases a
  rename_i hn
  split at a
  ·cases a
  rename_i h50
  unfold yY mH dp;refine au ?_;intro r;refine au ?_;refine Gs.j1 (gQ la,()) (λJ B=>?_) ?_
  ·refine Gs.j1 (.bool (decide (Ak s.bids i≠none/\Ak s.bids i≠some x.1)),()) (λJ B=>?_) ?_
   ·refine au ?_;refine Gs.I (λh0=>?_) λh0=>?_
    ·refine au ?_;have Y:i - 1<s.bids.length:=qZ
     have hpj:Ak s.bids i=some s.bids[i - 1].1:=by
      have:=DV Y
      rwa[Nat.sub_add_cancel qZ]at this
     refine bix (i - 1) Y qZ ?_ (by repeat first|(with_reducible exact cF)|(with_reducible apply cS));refine au ?_
     rw[show decide (Ak s.bids i≠none/\Ak s.bids i≠some x.1)=(x.1 != s.bids[i - 1].1) by
      rw[hpj];by_cases e:x.1=s.bids[i - 1].1
      ·simp[e]
      ·have:=jW e;simp[e,this]]at B
     exact B
    ·obtain rfl:i=0:=qZ;rw[show decide (Ak s.bids 0≠none/\Ak s.bids 0≠some x.1)=false from aG λh=>h.1 rfl]at B;exact B
   refine Gs.z ?_;refine Gs.I (λh=>?_) λh=>?_
   ·rw[V,ab h]at B;exact B
   ·rw[V,aa h]at B;exact B
  refine Gs.z ?_;unfold eE;refine Gs.j (λ_:Unit=>(Value.bool false,())) (λ_=>pt r [.int .u32 x.1,gQ x.2.num,gU x.2.acct,.bool x.2.buy,gI x.2.price,gI x.2.left] 132::mp qa vr mn (put N x.2.num 1)::vs v c l mb md A D T (pt q [.int .u32 s.day,gQ s.next,gI s.fund,.slice e1.1 s.accts.length e1.2,.slice e2.1 s.cts.length e2.2,.slice e3.1 s.poss.length e3.2,.slice e4.1 s.ords.length e4.2,.slice e5.1 s.bids.length e5.2] 58::yg (sT s e1 e2 e3 e4 e5) s::M)) (λ_=>True) (λJ B=>?_) λ_ _=>?_
  ·have B:=B () trivial;refine au ?_;refine Ci (x:=x) G O Q (by rw[H];exact hsf _ I) ?_;refine au ?_;refine Gs.I0 qZ ?_;refine au ?_;refine Gs.WX CI ?_;refine Gs.lenW gR (ni x.1) (au ?_);rw[aG (by omega:¬(50:Int)<=(T.bd x.1).length)];exact B.fin
  refine Gs.z (au ?_);refine Gs.WX CI ?_;refine au ?_;refine Gs.lit1 gR Ny (cs:=dp x.2) rfl rfl qZ λb=>?_;refine Gs.E CI ?_;refine au ?_;refine vg (n:=x.1) ?_;refine Gs.snd (l:=T.bd x.1) (x:=x.2) (f:=dp) gR Ny (lR x.2) qZ (λy z=>?_);refine au ?_;refine Gs.mup (enc:=eS) (ev:=AP) (x:=x.1) (v:=.slice y (T.bd x.1++[x.2]).length z) qw kL ?_ (by repeat first|(with_reducible exact cF)|(with_reducible apply cS));refine yO (n:=x.1) ?_;refine au ?_;refine(E (i+1,x.2.num,x.2.num::U,put N x.2.num 1,put D x.1 (.slice y (T.bd x.1++[x.2]).length z),{T with bd:=eR T.bd x.1 (T.bd x.1++[x.2])}) ⟨d,λm R=>?_,⟨H,P.put (pD I)⟩,by dsimp only;rw[hpc];exact a⟩ (by dsimp only;omega)).fin
  dsimp only at R|-
  rw[lL,aa λe=>R (by rw[e];exact ai)];exact O m λh=>R (ae _ h)
 ·obtain rfl:i=s.bids.length:=qZ;rw[eg]at a;cases a;exact(hk D (by rw[H];exact P)).fin
end
end Go.Proofs
namespace Go.Proofs
open Go Go.Vc
def Gsm(tS tE:TypeId)(t i:Vt_)(k:Value->WP):WP:=Vw pQ (iX tS t i) λv=>Vw pQ (iL tE v) λv=>Vw pQ (iA tE true (.tuple #[])) λb=>Uw pQ (iS tE b v) (Vw pQ (iL tE b) λv=>k v)
def ae7(x:Ac)(w:Wt_)(b off:Nat)(h:At w b off (dr x)):(iL 100 (cU b off)).run pQ w=.ok (jG x) w:=ft (P:=pQ) (t:=100) cH (show Tryz.prog.cellsOf 100=3+1 by kernel_rfl) rfl h
def ZV(x:Po)(w:Wt_)(b off:Nat)(h:At w b off (dR x)):(iL 124 (cU b off)).run pQ w=.ok (mK x) w:=ft (P:=pQ) (t:=124) cH (show Tryz.prog.cellsOf 124=3+1 by kernel_rfl) rfl h
def aa2(x:Int×Od)(w:Wt_)(b off:Nat)(h:At w b off (mH x)):(iL 132 (cU b off)).run pQ w=.ok (yY x) w:=ft (P:=pQ) (t:=132) cH (show Tryz.prog.cellsOf 132=5+1 by kernel_rfl) rfl h
section
variable{L L0 M M2:List As}{B:As}{K:Value->WP}{s t fv:Vt_}{l b g:List UInt8}{n:Nat}{o:Bool}{f:FuncId}{args:Array Value}
def XU{A:List Ac}(u:∀{w F},B.P w F->Rd w 4 t A.length (A.flatMap dr))(m:A.length<=4000)(e:∀x∈A,gM x.num/\dM x.cash)(a:∀d,Gs (ju d (l++vy I5 A)::B::M) (K d))(p:bL L (ju s l::B::M):=by repeat first|(with_reducible exact bL.refl)|((apply kp);(·repeat first|(with_reducible exact cF)|(with_reducible apply cS))))(c:l.length<=100000000:=by(try simp only[ad]);omega):
  Gs L (Cw pQ 96 #[s,t,.func (.func 97) #[] #[]] K):=by
 refine sN Tryz.func96 ?_;refine BJ (tE:=100) (G:=Gsm 53 100 t) cH u m (λx h=>I7 (e x h)) c (λi j L k r h=>?_) (λx q s l K c a=>Gs.fw (YH (e x q) c a)) a p;refine Gs.it cH (show Tryz.prog.cellsOf 100=3+1 by kernel_rfl) (λ_=>rfl) ae7 r rfl j ?_;unfold jG at h|-;refine au ?_;intro b;refine au ?_;exact h.drop
def YM{A:List Po}(u:∀{w F},B.P w F->Rd w 4 t A.length (A.flatMap dR))(m:A.length<=4000)(e:∀x∈A,(gM x.c/\gM x.a)/\dM x.q/\dM x.b)(a:∀d,Gs (ju d (l++vy Jn A)::B::M) (K d))(p:bL L (ju s l::B::M):=by repeat first|(with_reducible exact bL.refl)|((apply kp);(·repeat first|(with_reducible exact cF)|(with_reducible apply cS))))(c:l.length<=100000000:=by(try simp only[ad]);omega):
  Gs L (Cw pQ 102 #[s,t,.func (.func 103) #[] #[]] K):=by
 refine sN Tryz.func102 ?_;refine BJ (tE:=124) (G:=Gsm 55 124 t) cH u m (λx h=>I2 (e x h)) c (λi j L k r h=>?_) (λx q s l K c a=>Gs.fw (Y9 (e x q) c a)) a p;refine Gs.it cH (show Tryz.prog.cellsOf 124=3+1 by kernel_rfl) (λ_=>rfl) ZV r rfl j ?_;unfold mK at h|-;refine au ?_;intro b;refine au ?_;exact h.drop
def QQ{A:List (Int×Od)}(u:∀{w F},B.P w F->Rd w 6 t A.length (A.flatMap mH))(m:A.length<=4000)(e:∀x∈A,gM x.1/\x.2.Fit)(a:∀d,Gs (ju d (l++vy FO A)::B::M) (K d))(p:bL L (ju s l::B::M):=by repeat first|(with_reducible exact bL.refl)|((apply kp);(·repeat first|(with_reducible exact cF)|(with_reducible apply cS))))(c:l.length<=100000000:=by(try simp only[ad]);omega):
  Gs L (Cw pQ 104 #[s,t,.func (.func 105) #[] #[]] K):=by
 refine sN Tryz.func104 ?_;refine BJ (tE:=132) (G:=Gsm 56 132 t) cH u m (λx h=>Em (e x h)) c (λi j L k r h=>?_) (λx q s l K c a=>Gs.fw (YY (e x q) c a)) a p;refine Gs.it cH (show Tryz.prog.cellsOf 132=5+1 by kernel_rfl) (λ_=>rfl) aa2 r rfl j ?_;unfold yY mH dp at h|-;refine au ?_;intro b;refine au ?_;exact h.drop
def Gbg(tS tE:TypeId)(t i:Vt_)(k:Value->WP):WP:=Vw pQ (iX tS t i) λv=>Xw pQ (pp tE v) λv=>Xw pQ (vR tE) λb=>Yw pQ (ur tE b v) (Xw pQ (pp tE b) λv=>k v)
def Gs.ix{α:Type}{f:α->List Value}{sz i n:Nat}{A:List α}{T t:TypeId}{s:Vt_}(C:Tryz.prog.underlying t=some (.slice T))(D:Tryz.prog.cellsOf T=sz+1)(p:∀x,(f x).length=sz+1)(q:∀w,Ss w L->Rd w (sz+1) s n (A.flatMap f))(h:n=A.length)(hi:i<A.length)
  (u:∀b a,(∀w,Ss w L->At w b a (f A[i]))->Gs L (K (cU b a))):Gs L (Vw pQ (iX t s (gI (i:Int))) K):=⟨λw y=>by
 obtain⟨b,a,v,d,m,F⟩:=(q w y).item p hi h;refine az (cU b (a+i*(sz+1))) w (by rw[d];subst h;simp[go_sem,hi,bQ,C,Go.Vc.kY D,Result.andThen]) ((u _ _ λr z=>?_).go w y);obtain⟨E,j,k,c,-,e⟩:=(q r z).item p hi h;rw[d]at c;cases c;exact e⟩
def Yi{A:List Ct}(C:∀{w F},B.P w F->Rd w 27 t A.length (A.flatMap dh))(u:A.length<=4000)(j:∀x∈A,x.Fit)(c:∀e,Gs (ju e (l++vy JX A)::B::M) (K e))(p:bL L (ju s l::B::M):=by repeat first|(with_reducible exact bL.refl)|((apply kp);(·repeat first|(with_reducible exact cF)|(with_reducible apply cS))))(d:l.length<=100000000:=by(try simp only[ad]);omega):
  Gs L (Cw pQ 99 #[s,t,.func (.func 100) #[] #[]] K):=by
 refine sN Tryz.func99 ?_;refine BJ (tE:=120) (xv:=λx=>.agg (dh x).toArray) (G:=Gbg 54 120 t) cH C u (λx h=>Kc (j x h)) d (λi r L k z h=>?_) (λx v s l K d c=>Gs.fw (Xm (j x v) d c)) c p;refine Gs.ix cH qp bC z rfl r λb m a=>?_;refine Gs.X (λw y=>ft Dq qp (bC _) (a w y)) ?_;refine Gs.bvar XL qp (bC _) cH (g9 _) λq=>?_;refine Gs.X (eG (cs:=dh A[i]) cF Dq qp (bC _)) ?_;exact h.drop
def Rm{x:zi}{ss:Nat->Value}(O:x.Fit)(hl:x.accts.length<=3200/\x.cts.length<=3200/\x.poss.length<=3200/\x.ords.length<=3200/\x.bids.length<=3200)(H:∀s,Gs (ju s (lH x)::yg ss x::M) (K s))(p:bL L (yg ss x::M):=by repeat first|(with_reducible exact cF)|(with_reducible apply cS)):Gs L (Cw pQ 39 #[RJ x.day x.next x.fund ss] K):=by
 refine Gs.pk ?_ p;refine Gs.fact (p:=∀i,3<=i->i<=7->∃a n c,ss i=.slice a n c) (λw F h i I G=>(h.1 i I G).isSl.imp λa ⟨c,e,_⟩=>⟨_,c,e⟩) λd=>?_;obtain⟨N,hC,R,J,hB⟩:=hl;obtain⟨⟨d1,d2⟩,⟨S,P⟩,k,A,E,C,D,Q⟩:=O;have l1:=gV x.day qZ;have l2:=gV x.next qZ;have l3:=nS k;have l4:=ti (g:=I5) (λy j=>I7 (A y j)) N;have W:=ti (g:=JX) (λy j=>Kc (E y j)) hC;have l6:=ti (g:=Jn) (λy j=>I2 (C y j)) R;have l7:=ti (g:=FO) (λy j=>Em (D y j)) J;have v:=d 3 (by decide) (by decide);have z:=d 4 (by decide) (by decide);have m:=d 5 (by decide) (by decide);have u:=d 6 (by decide) (by decide);have r:=d 7 (by decide) (by decide);obtain⟨Z,V,c3,v⟩:=v;obtain⟨a4,X,c4,z⟩:=z;obtain⟨a5,T,c5,m⟩:=m;obtain⟨a6,n6,c6,u⟩:=u;obtain⟨U,n7,Y,r⟩:=r;refine sN Tryz.func39 ?_;unfold RJ Zy;rw[v,z,m,u,r];refine au ?_;intro q;refine au ?_;refine Gs.nil 5 1 ?_;refine jh (l:=[]) ⟨d1,qZ⟩ (p:=cF) (hl:=by decide) λs=>?_;rw[cX];refine au ?_;refine jh ⟨S,P⟩ λs=>?_;refine au ?_;refine rH k λs=>?_;refine au ?_;refine XU (B:=yg ss x) (λh=>by have:=(h.1 3 (by decide) (by decide)).rd;rw[v]at this;exact this) qZ A λs=>?_;refine au ?_;refine Yi (B:=yg ss x) (λh=>by have:=(h.1 4 (by decide) (by decide)).rd;rw[z]at this;exact this) qZ E λs=>?_;refine au ?_;refine YM (B:=yg ss x) (λh=>by have:=(h.1 5 (by decide) (by decide)).rd;rw[m]at this;exact this) qZ C λs=>?_;refine au ?_;refine QQ (B:=yg ss x) (λh=>by have:=(h.1 6 (by decide) (by decide)).rd;rw[u]at this;exact this) qZ D λs=>?_;refine au ?_;refine QQ (B:=yg ss x) (λh=>by have:=(h.1 7 (by decide) (by decide)).rd;rw[r]at this;exact this) qZ Q λs=>?_;have:=H s;unfold lH at this;simp only[ag]at this|-;exact this.fin
end
end Go.Proofs
namespace Go.Proofs
open Go Go.Vc
attribute [local go_sem] PD QH
section
variable{L L0 M:List As}{B:As}{K:Value->WP}{s:Vt_}{day:Int}{l:List Ct}
def IK(X:l.length<=16)(j:vI 0 l=true)(G:∀k∈l,k.Fit)(O:gM day)(z:∀{L:List As} {M},bL L (B::M)->∀w,Ss w L->Rd w 27 s l.length (l.flatMap dh))(t:∀c,Gs (lT c ⟨day,l⟩::B::M) (K (.tuple #[gk c,gI 0])))(p:bL L (B::M):=by repeat first|(with_reducible exact cF)|(with_reducible apply cS)):
  Gs L (Cw pQ 49 #[.int .u32 day,s] K):=by
 refine Gs.pk ?_ p;refine sN Tryz.func49 ?_;refine Gs.len pG (z cF) ?_;refine au ?_;refine Gs.I0 qZ ?_;refine Gs.len pG (z cF) ?_;refine Gs.l (λx:Nat×Int=>(Value.pointer none,Value.int .i64 0,Value.int .u32 x.2,Value.int .i64 x.1,())) (l.length - ·.1) (λ_=>B::M) (λx=>x.1<=l.length/\vI x.2 (l.drop x.1)=true) (0,0) rfl ⟨aw _,j⟩ ?_ .refl;rintro⟨i,n⟩ ⟨V,d⟩ K1 r
 dsimp only at V d r|-
 refine Gs.z (au ?_);refine Gs.I (λhi=>?_) λhi=>?_
 ·have a:i<l.length:=qZ;rw[bN a,IN]at d;simp only[ah,ax]at d;refine Gs.ix cH qp bC (z cF) rfl a λb Z g=>?_;refine Gs.X (λw y=>ft Dq qp (bC _) (g w y)) ?_;refine Gs.bvar XL qp (bC _) cH (g9 _) λq=>?_;have o:=(G _ (ar a)).1;clear g;generalize l[i]=k at d o|-;obtain⟨a1,N,D,u,W⟩:=d;refine Gs.j1 (.bool false,()) (λJ hJ=>?_) ?_
  ·refine au ?_;refine Gs.I0 qZ ?_;refine au ?_;refine Gs.I0 qZ ?_;refine au ?_;refine Gs.I0 qZ ?_;refine au ?_;refine Gs.X (v:=.agg (fk k.spec).toArray) (λw y=>ft yf ud (bb _) (Er (At.all (nW (b:=q) (cs:=dh k) (by repeat first|(with_reducible exact cF)|(with_reducible apply cS)) y)))) ?_;refine au ?_;refine⟨λw y=>pC o λQ m=>Gs.go ?_ Q (y.md0 m)⟩;rw[u];refine au ?_;exact hJ
  refine Gs.z (au ?_);exact(r (i+1,k.spec.num) ⟨a,W⟩ (by dsimp only;omega)).fin
 obtain⟨Y,U⟩:=rA j;refine⟨λw y=>vU (l:=l) (z cF w y) qZ λH S C R T=>Gs.go ?_ S (y.new (B:=ow H lN 27 l.length (l.flatMap dh)) R (F' :=aQ H) ⟨C,λ_=>aI⟩ T)⟩;refine Gs.isSl (λta tc e=>?_) cF;subst e;refine au ?_;intro q;refine Gs.pk ?_ My.symm;refine Gs.turn (A' :=lT q ⟨day,l⟩) (λw F h=>?_) (t q);obtain⟨F1,F2,⟨b4,I⟩,⟨C,E⟩,dj,P⟩:=h;refine⟨⟨_,b4,C,λb=>?_,λhc=>dj q ((I q).2 rfl) ((E q).2 hc)⟩,by show l.length<=16;omega,O,λk t=>?_,U⟩
 ·rw[P,I,E]
 ·obtain⟨a1,N,D,u⟩:=Y k t;have:=u;unfold Sp.isPrice at this;exact⟨G k t,(ah _ _▸this).1,u,N,D⟩
end
def WH(x:Ac)(w:Wt_)(b off:Nat)(h:At w b off (dr x)):(iL 100 (cU b off)).run pQ w=.ok (jG x) w:=
 ft (P:=pQ) (t:=100) cH (n:=3) cH rfl h
section
variable{L L0 M:List As}{B:As}{K:Value->WP}{s:Vt_}{f:Int}{A:List Ac}
def Nk(hl:A.length<=64)(t:aY f 0 MF=true)(e:PA A)(hs:f+(A.map (·.cash)).sum<=MF)(r:∀{L:List As} {M},bL L (B::M)->∀w,Ss w L->Rd w 4 s A.length (A.flatMap dr))(m:Gs (B::M) (K (.bool true)))(p:bL L (B::M):=by repeat first|(with_reducible exact cF)|(with_reducible apply cS)):
  Gs L (Cw pQ 149 #[.int .i64 f,s] K):=by
 refine Gs.pk ?_ p;refine sN Tryz.func149 ?_;have b:∀{L:List As} {K:Value->WP} {n:Int},aY n 0 MF=true->Gs L (K (.bool true))->Gs L (Cw pQ 197 #[.int .i64 n,gI 0,gI 1000000000000000] K):=λh m=>⟨λw y=>pO (lo:=0) (hi:=MF) (by rw[h];exact m.go w y)⟩
 have j:=fE.1 t;simp only[MF]at j hs;refine Gs.j1 (.bool false,()) (λJ o=>?_) ?_
 ·refine Gs.len (by exact MM) (r cF) ?_;refine au ?_;refine Gs.I0 qZ ?_;refine b t ?_;refine au ?_;exact o
 refine Gs.z (au ?_);refine Gs.len (by exact MM) (r cF) ?_;refine Gs.l (λx:Nat×Int=>(Value.int .i64 (f+((A.take x.1).map (·.cash)).sum),Value.bool false,Value.int .u32 x.2,Value.int .i64 x.1,())) (A.length - ·.1) (λ_=>B::M) (λx=>x.1<=A.length/\∀h:x.1<A.length,x.2<A[x.1].num) (0,0) (by simp) ⟨aw _,λh=>(e.num _ (ar h)).1⟩ ?_ .refl;rintro⟨i,n⟩ ⟨D,k⟩ H g
 dsimp only at D k g|-
 refine Gs.z (au ?_);refine Gs.I (λz=>?_) λz=>?_
 ·have c:i<A.length:=qZ;refine Gs.it (f:=dr) (vf:=jG) MM cH (λ_=>rfl) WH (r cF) rfl c ?_;unfold jG;refine au ?_;intro q;refine au ?_;have k:=k c;obtain⟨G,u⟩:=e.num _ (ar c);refine Gs.j1 (.bool false,()) (λJ o=>?_) ?_
  ·refine au ?_;refine Gs.I0 qZ ?_;refine au ?_;refine b u ?_;refine au ?_;exact o
  have C:PA (A.take i):=⟨e.srt.sublist (List.take_sublist _ _),λa E=>e.num a (bm E)⟩
  have d:=C.sum (by rw[av];omega);have F:=fE.1 u;simp only[MF]at F;have:=g (i+1,A[i].num) ⟨c,λh=>wY e.srt h (by rw[sm c];exact er _ (List.mem_singleton_self _))⟩ (by dsimp only;omega)
  dsimp only at this
  rw[MZ c,<-pP]at this;generalize((A.take i).map (·.cash)).sum=T at d this|-;refine Gs.z (au ?_);exact this.fin
 ·obtain rfl:i=A.length:=qZ;rw[aL];refine Gs.V (v:=.bool true) (λw _=>by simp[go_sem];omega) ?_;exact m
end
end Go.Proofs
namespace Go.Proofs
open Go Go.Vc
def Wq(x:Po)(w:Wt_)(b off:Nat)(h:At w b off (dR x)):(iL 124 (cU b off)).run pQ w=.ok (mK x) w:=
 ft (P:=pQ) (t:=124) cH (n:=3) cH rfl h
def ae1(a:Ac):jG a=.agg #[.int .u32 a.num,gI a.cash,.bool a.kil,.bool a.dfl]:=rfl
def am9(p:Po):mK p=.agg #[.int .u32 p.c,gU p.a,gI p.q,gI p.b]:=rfl
abbrev TZ(l m1 m2:Nat):As:=pt l [.map (some m1),.map (some m2)] 176
section
variable{L L0 M:List As}{B1 B2:As}{K:Value->WP}{s t:Vt_}{f:Int}{A:List Ac}{P:List Po}{l m1 m2:Nat}{LA:List (Int×Ac)}{LB:List ((Int×Int)×Po)}{n hi:Int}{φ:WP}
def QB(a:∀l m1 m2,Gs (TZ l m1 m2::mp eS jG m1 [(0,jX 0)]::mp gr mK m2 []::L) (K (eK l))):Gs L (Cw pQ 34 #[] K):=by
 refine sN Tryz.func34 ?_;refine Gs.mkM (enc:=eS) (ev:=jG) λm1=>?_;refine au ?_;refine Gs.mup (enc:=eS) (ev:=jG) (D:=[]) (x:=0) (v:=jX 0) oQ kL ?_ (by repeat first|(with_reducible exact cF)|(with_reducible apply cS));rw[show put ([]:List (Int×Ac)) 0 (jX 0)=[(0,jX 0)]from rfl];refine Gs.mkM (enc:=gr) (ev:=mK) λm2=>?_;refine au ?_;intro l;exact(a l m1 m2).fin
def Y2(ok:(bq.mk f A P).Ok)(c:LA=z5 f A)(a:LB=Kd P)(m:Gs (jV l ⟨f,A,P⟩::M) φ)(p:bL L (TZ l m1 m2::mp eS jG m1 LA::mp gr mK m2 LB::M):=by repeat first|(with_reducible exact bL.refl)|((apply kp);(·repeat first|(with_reducible exact cF)|(with_reducible apply cS)))):Gs L φ:=by
 subst c a;refine Gs.pk ⟨λw y=>?_⟩ p;obtain⟨F,x,B,c,⟨u,z,a,⟨F3,q,d,o,d3,g⟩,d2,h⟩,d1,v⟩:=y;have i:=(c.2 l).2 rfl;have k:=(a.2 m1).2 rfl;have r:=(d.2 m2).2 rfl;refine m.go w (Ss.cons.2 ⟨λb=>b=l\/b=m1\/b=m2,q,⟨⟨m1,m2,_,_,c.1,a.1,d.1,.refl _,.refl _,λ_=>aI,λe=>d1 l i ((h l).2 (.inl ((a.2 l).2 e))),λe=>d1 l i ((h l).2 (.inr ((g l).2 (.inl ((d.2 l).2 e))))),λe=>d2 m1 k ((g m1).2 (.inl ((d.2 m1).2 e)))⟩,ok⟩,o,?_⟩);rintro b (rfl|rfl|rfl) j
 ·exact d1 _ i ((h _).2 (.inr ((g _).2 (.inr j))))
 ·exact d2 _ k ((g _).2 (.inr j))
 ·exact d3 _ r j
def DC(c:dM n)(h:aY n (-hi) hi=true)(b:0<=hi/\hi<9223372036854775808)(a:Gs L (K (.bool true))):Gs L (Cw pQ 150 #[.int .i64 n,gI hi] K):=⟨λw y=>ib c b (by rw[h];exact a.go w y)⟩
def RZ(h:Es f A P)(hl:P.length<=1024)(uA:∀a∈A,gM a.num/\dM a.cash)(X:∀p∈P,(gM p.c/\gM p.a)/\dM p.q/\dM p.b)
  (O:∀{L:List As} {M},bL L (B1::M)->∀w,Ss w L->Rd w 4 s A.length (A.flatMap dr))(Y:∀{L:List As} {M},bL L (B1::M)->∀w,Ss w L->Rd w 4 t P.length (P.flatMap dR))
  (hk:∀l,Gs (jV l ⟨f,A,P⟩::B1::M) (K (.tuple #[eK l,gI 0])))(p:bL L (B1::M):=by repeat first|(with_reducible exact cF)|(with_reducible apply cS)):Gs L (Cw pQ 50 #[.int .i64 f,s,t] K):=by
 have ok:(bq.mk f A P).Ok:=h.ok (λa ha=>(uA a ha).1) λp hp=>(X p hp).1.1;have S:=h.len;refine Gs.pk ?_ p;refine sN Tryz.func50 ?_;refine Nk S h.fund h.pa h.tot O ?_ (by repeat first|(with_reducible exact cF)|(with_reducible apply cS));refine au ?_;refine QB λl m1 m2=>?_;unfold eK;refine au ?_;refine Gs.mup (enc:=eS) (ev:=jG) (x:=0) (v:=jX f) oQ kL ?_ (by repeat first|(with_reducible exact cF)|(with_reducible apply cS));rw[show put [((0:Int),jX 0)] 0 (jX f)=z5 f (A.take 0)from rfl];refine au ?_;refine Gs.len (by exact MM) (O (by repeat first|(with_reducible exact cF)|(with_reducible apply cS))) ?_;refine Gs.l (λx:Nat=>(gI x,())) (A.length - ·) (λx=>TZ l m1 m2::mp eS jG m1 (z5 f (A.take x))::mp gr mK m2 []::B1::M) (λx=>x<=A.length) 0 rfl (aw _) ?_ (by repeat first|(with_reducible exact bL.refl)|((apply kp);(·repeat first|(with_reducible exact cF)|(with_reducible apply cS))));rintro i U K1 e
 dsimp only at U e|-
 refine Gs.z (au ?_);refine Gs.I (λhi=>?_) λhi=>?_
 ·have d:i<A.length:=qZ;refine Gs.it (f:=dr) (vf:=jG) MM cH (λ_=>rfl) WH (O (by repeat first|(with_reducible exact cF)|(with_reducible apply cS))) rfl d ?_;rw[ae1];refine au ?_;intro q;refine au ?_;refine Gs.mup (enc:=eS) (ev:=jG) (x:=A[i].num) (v:=A[i]) oQ kL ?_ (by repeat first|(with_reducible exact cF)|(with_reducible apply cS));rw[O2 h.pa d];refine au ?_;exact(e (i+1) d qZ).fin
 obtain rfl:i=A.length:=qZ;clear e;rw[aL];refine au ?_;intro nk;refine au ?_;refine Gs.len Su (Y (by repeat first|(with_reducible exact cF)|(with_reducible apply cS))) ?_;refine Gs.l (λx:Nat×(Int×Int)×(Int×Int)×(Value×Value)=>(x.2.2.2.1,x.2.2.2.2,gI x.2.2.1.1,gI x.2.2.1.2,gI x.1,())) (P.length - ·.1) (λx=>pt nk [.int .u32 x.2.1.1,gU x.2.1.2] 235::TZ l m1 m2::mp eS jG m1 (z5 f A)::mp gr mK m2 (Kd (P.take x.1))::B1::M) (λx=>x.1<=P.length/\xx (P.take x.1) x.2.1.1 x.2.1.2 x.2.2.1.1 x.2.2.1.2) (0,(0,0),(0,0),_,_) rfl ⟨aw _,xx.nil⟩ ?_ (by show bL _ (_::_::_::mp gr mK m2 []::B1::M);exact(by repeat first|(with_reducible exact bL.refl)|((apply kp);(·repeat first|(with_reducible exact cF)|(with_reducible apply cS)))));rintro⟨i,⟨E,V⟩,⟨q,b⟩,x1,Z⟩ ⟨U,c⟩ K1 e
 dsimp only at U c e|-
 refine Gs.z (au ?_);refine Gs.I (λhi=>?_) λhi=>?_
 ·have d:i<P.length:=qZ;have u:P[i]∈P:=ar d;have g:=h.good _ u;have G:=X _ u
  have B:vD (E,V) P[i].key=true:=by
   cases j:vD (E,V) P[i].key with
   |true=>rfl
   |false=>exact absurd ⟨h.srt,h.good⟩ (c.bad_key d ⟨G.1.1.1,G.1.2.1⟩ j)
  have F:P[i].c≠E->q=0/\b=0:=λj=>by
   have:=mt (c.bad_sum d j) λW=>W ⟨h.srt,h.zero⟩;omega
  have H:=Uq (λp hp=>h.good p (bm hp)) (P:=P.take i) (A:=A) (by rw[av];omega) E;rw[<-c.q,<-c.b]at H;have m:=Nv d c B;have k:=c.step B F;rw[<-sm d]at k;have T:(lk (z5 f A) P[i].a).isSome=true:=(NZ g.a).2 g.there;have e:=λy z=>e (i+1,(P[i].c,P[i].a),(q+P[i].q,b+P[i].b),y,z) ⟨d,k⟩ (by dsimp only;omega)
  dsimp only at e
  refine Gs.it (f:=dR) (vf:=mK) Su cH (λ_=>rfl) Wq (Y (by repeat first|(with_reducible exact cF)|(with_reducible apply cS))) rfl d ?_;generalize Kd (P.take (i+1))=LB' at m e;generalize Kd (P.take i)=LB at m|-;have B:=mY.1 B;have D:=g.some;unfold Po.isZ at D;obtain⟨g1,g2,-,-,R,I⟩:=g;clear k u;generalize P[i]=z at*;simp only[Po.key]at B m;have q5:=fE.1 R;have q6:=fE.1 I;simp only[MP,MF]at q5 q6 R I;rw[am9];refine au ?_;intro np;refine au ?_;intro nq;refine au ?_;refine Gs.j1 (Z,x1,()) (λJ o=>?_) ?_
  ·refine au ?_;refine Gs.Ib (λj=>?_) λj=>?_
   ·obtain⟨rfl,rfl⟩:=F (by simpa using j);refine Gs.j1 (.bool false,()) (λJ2 N=>?_) ?_
    ·refine au ?_;exact N
    refine Gs.z (Gs.If ?_);exact o
   ·exact o
  obtain⟨xa,Q⟩:=ek.1 T
  have C:∀{L M:List As},bL L (mp eS jG m1 (z5 f A)::M)->∀w,Ss w L->(jF 173 (.map (some m1)) (gU z.a) true).run pQ w=.ok (.tuple #[jG xa,.bool true]) w:=λp w y=>by
   have:=yG (P:=pQ) (enc:=eS) (ev:=jG) (x:=z.a) oQ kL YV (SG p w y);rw[Q]at this;exact this
  simp only[ae1]at C;refine Gs.z (au ?_);refine Gs.WX (C (by repeat first|(with_reducible exact cF)|(with_reducible apply cS))) ?_;refine au ?_;intro r;refine Gs.E (C (by repeat first|(with_reducible exact cF)|(with_reducible apply cS))) ?_;refine au ?_;refine Gs.j1 (.bool false,()) (λJ o=>?_) ?_
  ·refine au ?_;refine Gs.I0 qZ ?_;refine au ?_;refine Gs.Ib (λj=>?_) λj=>o;have j:z.c=E:=by simpa using j
   refine au ?_;rw[aG (by omega:¬z.a<=V)];exact o
  refine Gs.z (Gs.If ?_);refine Gs.j1 (.bool false,()) (λJ o=>?_) ?_
  ·refine au ?_;refine Gs.Ib (λj=>absurd (by simpa using j) g1) λ_=>?_;refine au ?_;refine Gs.Ib (λj=>absurd (by simpa using j) g2) λ_=>?_;refine au ?_;refine Gs.Ib (λj=>?_) λj=>o;refine au ?_;rw[show(z.b==0)=false by simp at D j|-;exact D j];exact o
  refine Gs.z (Gs.If ?_);refine Gs.j1 (.bool false,()) (λJ o=>?_) ?_
  ·refine au ?_;refine DC G.2.1 R qZ ?_;refine au ?_;refine DC G.2.2 I qZ ?_;refine au ?_;exact o
  refine Gs.z (Gs.If ?_);refine au ?_;refine Gs.mup (enc:=gr) (ev:=mK) (x:=(z.c,z.a)) (v:=z) AR Pg ?_ (by repeat first|(with_reducible exact cF)|(with_reducible apply cS));rw[m];refine au ?_;exact(e _ _).fin
 ·obtain rfl:i=P.length:=qZ;rw[aL]at c|-
  obtain⟨rfl,rfl⟩:q=0/\b=0:=by
   have:=mt c.bad_end λW=>W h.zero;omega
  refine Gs.j1 (.bool false,()) (λJ o=>?_) ?_
  ·refine au ?_;exact o
  refine Gs.z (Gs.If ?_);refine Y2 ok rfl rfl ?_;exact(hk l).fin
end
end Go.Proofs
namespace Go.Proofs
open Go Go.Vc
def MT(gv:Vt_)(l:Nat)(X:bq):As:=⟨λw F=>∃b F1,gv=.func (.func 158) #[] #[.pointer (some ⟨b,0,none⟩)]/\hp w b=some (.cells #[eK l] 88 (0,0))/\iw w l F1 X/\∀y,F y↔y=b\/F1 y,
 λ⟨b,F1,_,h2,h3,h4⟩ hb=>((h4 _).1 hb).elim (λe=>e▸aJ h2) h3.lt,
 λ⟨b,F1,h1,h2,h3,h4⟩ m hg=>⟨b,F1,h1,m.keep h2 (hg b ((h4 b).2 (.inl rfl))),h3.mod m λy hy=>hg y ((h4 y).2 (.inr hy)),h4⟩⟩
abbrev Zk(sb:Nat)(S:ba)(x3 x4 x5 x6 x7:Option Addr×Nat)(n4 n5 n6 n7:Nat):As:=pt sb [.int .u32 S.cal.day,gQ S.next,gI S.led.fund,.slice x3.1 S.led.all.length x3.2,.slice x4.1 n4 x4.2,.slice x5.1 n5 x5.2,.slice x6.1 n6 x6.2,.slice x7.1 n7 x7.2] 58
abbrev Zx(y:Option Addr×Nat)(P:List Po):As:=ow (.slice y.1 P.length y.2) 124 4 P.length (P.flatMap dR)
abbrev QU(y:Option Addr×Nat)(P:List (Int×Od)):As:=ow (.slice y.1 P.length y.2) 132 6 P.length (P.flatMap mH)
abbrev ctL(y:Option Addr×Nat)(P:List Ct):As:=ow (.slice y.1 P.length y.2) lN 27 P.length (P.flatMap dh)
def al1(a:Ac):dr a=[.int .u32 a.num,gI a.cash,.bool a.kil,.bool a.dfl]:=rfl
def an5(p:Po):dR p=[.int .u32 p.c,gU p.a,gI p.q,gI p.b]:=rfl
def ad2:fj pQ 124 4 24=true:=cH
def ag6:fj pQ 132 6 40=true:=cH
section
variable{L L0 M:List As}{K:Value->WP}{φ:WP}{gv:Vt_}{v c l mb md:Nat}{A:List (Int×Nat)}{D:List (Int×Value)}{S:ba}{X:bq}{C:oq}
def VV(a:Gs L (K (gU C.day)))(p:bL L (lT c C::M):=by repeat first|(with_reducible exact cF)|(with_reducible apply cS)):Gs L (Cw pQ 57 #[gk c] K):=⟨λw y=>(fg p y).elim λF q=>VB q (a.go w y)⟩
def TB(d:∀gv,Gs (MT gv l X::M) (K gv))(p:bL L (jV l X::M):=by repeat first|(with_reducible exact cF)|(with_reducible apply cS)):Gs L (Cw pQ 59 #[eK l] K):=by
 refine Gs.pk ?_ p;unfold eK;refine sN Tryz.func59 ?_;refine au ?_;intro b;refine au ?_;refine Gs.pk ?_ My.symm;exact Gs.turn (A' :=MT _ l X) (λw F ⟨h,g,a,e,i,f⟩=>⟨b,g,rfl,a.1,e,λy=>by rw[f,a.2]⟩) (d _)
def IY(hl:X.all.length<=64)(B:∀a k,Gs (ow (.slice a X.all.length k) 100 4 X.all.length (X.all.flatMap dr)::jV l X::M) (K (.slice a X.all.length k)))(p:bL L (MT gv l X::M):=by repeat first|(with_reducible exact cF)|(with_reducible apply cS)):Gs L (Cw pQ 58 #[gv] K):=by
 refine Gs.pk ?_ p;refine sN Tryz.func58 ?_;refine sN Tryz.func157 ?_;refine au ?_;intro q;refine Gs.nilF 100 4 dr ?_;refine⟨λw y=>Gg.go (gv:=gv) (xs:=X.all.map λa=>[jG a]) ?_ w y ?_⟩
 ·refine Gg.rf (L:=MT gv l X::M) (λ_ _ _ _=>rfl) (IJ oC.ac) (I:=λi (b:Option Addr×Nat) g=>ow (.slice b.1 (X.all.take i).length b.2) 100 4 (X.all.take i).length ((X.all.take i).flatMap dr)::pt q [.slice b.1 (X.all.take i).length b.2] 53::g) (E:=λ(_:Unit) g=>g) (λ_ _ _=>rfl) (λ_ _=>rfl) (λ_ _=>True) (λ_ _=>False) (none,0) trivial ?_ ?_ (λ_ _ _ (h:False)=>h.elim) (by simp only[bS,List.length_nil];exact(by repeat first|(with_reducible exact bL.refl)|((apply kp);(·repeat first|(with_reducible exact cF)|(with_reducible apply cS)))))
  ·rintro i O ⟨x,y⟩ - l1 Q V g R U e -;have j:=bV O;have o:(X.all.take i).length<=64:=by rw[av];omega
   dsimp only at e|-
   rw[j]at e;generalize X.all[i]=a at e|-;generalize X.all.take i=I at o e|-;rw[al1];refine au ?_;refine Gs.push (x:=a) (f:=dr) (l:=I) MM an8 (λ_=>rfl) rfl rfl qZ qZ (λH z=>?_) (by repeat first|(with_reducible exact cF)|(with_reducible apply cS));refine au ?_;exact(e (H,z) _ trivial).fin
  ·rintro⟨x,y⟩ d -
   dsimp only
   rw[aL];refine Gs.ak (au ?_);refine Gs.tw ?_;refine Gs.fin (M:=MT gv l X::ow (.slice x X.all.length y) 100 4 X.all.length (X.all.flatMap dr)::M) ?_;refine⟨λw ⟨F,t,u,⟨b,G,Y,r,n,s⟩,J,P,Z⟩=>?_⟩;have:=(Ss.cons (A:=jV l X)).2 ⟨G,u,n,J,λy N=>P y ((s y).2 (.inr N))⟩;exact(Gs.pk (B x y) .swap).go w this
 ·obtain⟨F,b,t,rfl,r,n,s⟩:=fg (A:=MT gv l X) (M:=ow (.slice none ([]:List Ac).length 0) 100 4 ([]:List Ac).length (([]:List Ac).flatMap dr)::pt q [.slice none 0 0] 53::M) (by repeat first|(with_reducible exact cF)|(with_reducible apply cS)) y;exact⟨⟨_,JE (zX (l:=l) (b:=b) (T:=88)),λW m=>⟨m.keep r id,t,n.mod m eI⟩⟩,_,_,rfl⟩
def Cq(m:S.Ok)(hk:∀a b c d e,Gs (yg (sT S.state a b c d e) S.state::L) (K (RJ S.state.day S.state.next S.state.fund (sT S.state a b c d e))))(p:bL L (nB v S::M):=by repeat first|(with_reducible exact cF)|(with_reducible apply cS)):Gs L (Cw pQ 17 #[eE v] K):=by
 have hk:=λa b c d e=>Gs.pk (hk a b c d e) (bL.cons p.symm);have hal:=m.led.led.len;have G:S.led.held.length<4294967295:=by have:=sL m.cal m.led;omega
 have hcl:=m.cal.len;refine Gs.pk ?_ p;refine wN λc l mb md A D hv=>?_;refine sN Tryz.func17 ?_;unfold eE;refine au ?_;intro n0;refine au ?_;intro p2;refine au ?_;refine sK ?_;refine au ?_;refine pK ?_;rw[show S.led.getV 0=(⟨0,S.led.fund,false,false⟩,0)from rfl];unfold jG;refine au ?_;intro ra;refine au ?_;refine Gs.j (λy:Nat×Option Addr×Nat=>(.pointer (some ⟨y.1,0,none⟩),())) (λy=>Zk y.1 S y.2 (none,0) (none,0) (none,0) (none,0) 0 0 0 0::ow (.slice y.2.1 S.led.all.length y.2.2) 100 4 S.led.all.length (S.led.all.flatMap dr)::ctL (none,0) []::Zx (none,0) []::QU (none,0) []::QU (none,0) []::pt n0 [.pointer (some ⟨v,0,none⟩)] 24::pt p2 [.int .u32 0,gQ 0,gI 0,.slice none 0 0,.slice none 0 0,.slice none 0 0,.slice none 0 0,.slice none 0 0] 58::vs v c l mb md A D S M) (λ_=>True) (λJ hJ=>?_) λy _=>?_
 ·refine au ?_
  repeat' (first|(refine Gs.An ?_ ?_ <;>refine au ?_)|(refine VV ?_;refine au ?_)|(refine TB (λgv=>?_);refine au ?_)|(refine IY hal (λa k=>?_);refine au ?_)|(intro U;refine au ?_)|exact Gs.nilF lN 27 dh (Gs.nilF 124 4 dR (Gs.nilF 132 6 mH (Gs.nilF 132 6 mH (hJ (U,a,k) trivial).fin))))
 obtain⟨U,u⟩:=y
 dsimp only
 refine Gs.z (au ?_);refine uW λgv=>?_
 refine Gg.rf (L:=ow (.slice u.1 S.led.all.length u.2) 100 4 S.led.all.length (S.led.all.flatMap dr)::pt p2 [.int .u32 0,gQ 0,gI 0,.slice none 0 0,.slice none 0 0,.slice none 0 0,.slice none 0 0,.slice none 0 0] 58::M) (λ_ _ _ _=>rfl) (Ec _)
  (I:=λi (b:(Option Addr×Nat)×(Option Addr×Nat)×(Option Addr×Nat)×(Option Addr×Nat)) Y=>Zk U S u b.1 b.2.1 b.2.2.1 b.2.2.2 (S.cal.l.take i).length (CR S i).length (Co S i).length (BL S i).length::ctL b.1 (S.cal.l.take i)::Zx b.2.1 (CR S i)::QU b.2.2.1 (Co S i)::QU b.2.2.2 (BL S i)::pt n0 [.pointer (some ⟨v,0,none⟩)] 24::vs v c l mb md A D S Y)
  (E:=λ(_:Unit) Y=>Y) (λ_ _ _=>rfl) (λ_ _=>rfl) (λ_ _=>True) (λ_ _=>False) ((none,0),(none,0),(none,0),(none,0)) trivial ?_ ?_ (λ_ _ _ (h:False)=>h.elim) (by show bL _ (Zk U S u (none,0) (none,0) (none,0) (none,0) 0 0 0 0::ctL (none,0) []::Zx (none,0) []::QU (none,0) []::QU (none,0) []::_);exact(by repeat first|(with_reducible exact bL.refl)|((apply kp);(·repeat first|(with_reducible exact cF)|(with_reducible apply cS)))))
 ·rintro i hi ⟨y4,W,R,B⟩ - l1 r1 q Y kn kj r -;have hct:=bV hi;have P:=ao7 (S:=S) hi;have hkm:S.cal.l[i]∈S.cal.l:=ar hi;have hl1:=Qp m.led.led i;have hl2:=Ii m.ord i;have hl3:=Hj m.ord i;have e1:CR S (i+1)=CR S i++S.led.holders S.cal.l[i].spec.num:=by unfold CR;rw[P,bD];simp
  have e2:Co S (i+1)=Co S i++(S.bk S.cal.l[i].spec.num).all.map λo=>(S.cal.l[i].spec.num,o):=by unfold Co;rw[P,bD];simp
  have e3:BL S (i+1)=BL S i++(S.bd S.cal.l[i].spec.num).map λo=>(S.cal.l[i].spec.num,o):=by unfold BL;rw[P,bD];simp
  have h0:(S.cal.l.take i).length<=16:=by rw[av];omega
  dsimp only at r|-
  rw[hct,e1,e2,e3]at r;obtain⟨b,hb⟩:=xp hv (n:=S.cal.l[i].spec.num) (by rw[yr m.cal hkm];rfl);generalize S.cal.l[i]=k at r hb|-;generalize CR S i=Q at r hl1|-;generalize Co S i=T at r hl2|-;generalize BL S i=V at r hl3|-;generalize S.cal.l.take i=C0 at r h0|-;refine au ?_;intro pn;refine au ?_;refine Gs.X (eG (cs:=dh k) (by repeat first|(with_reducible exact cF)|(with_reducible apply cS)) Dq qp (bC _)) ?_;refine Gs.push (l:=C0) (x:=k) (f:=dh) pG (show fj pQ lN 27 208=true by kernel_rfl) bC (g9 k) rfl qZ qZ (λa4 k4=>?_) (by repeat first|(with_reducible exact cF)|(with_reducible apply cS));refine au ?_;have hH:=qh m.led.led k.spec.num;refine AT G λgv2=>?_;generalize S.led.holders k.spec.num=H at hH r|-;refine Gg.rn (λ_ _ _ _=>rfl) (IJ oC.po) (I:=λj (b:Option Addr×Nat) t=>Zk U S u (a4,k4) b R B (C0++[k]).length (Q++H.take j).length T.length V.length::Zx b (Q++H.take j)::t) (E:=λ(_:Unit) t=>t) (λ_ _ _=>rfl) (λ_ _=>rfl) (λ_ _=>True) (λ_ _=>False) W trivial ?_ ?_ (λ_ _ (h:False)=>h.elim) (by simp only[bS,aC];exact(by repeat first|(with_reducible exact bL.refl)|((apply kp);(·repeat first|(with_reducible exact cF)|(with_reducible apply cS)))))
  ·rintro j Z ⟨x,y⟩ - l2 q3 M2 kn2 kj2 g -;have w:=bV Z;have h2:(Q++H.take j).length<=1100:=by rw[ad,av];omega
   rw[w,<-ag]at g;generalize H[j]=o at g|-;generalize Q++H.take j=I at h2 g|-;rw[an5]at g|-;refine au ?_;refine Gs.push (l:=I) (x:=o) (f:=dR) Su ad2 (λ_=>rfl) rfl rfl qZ qZ (λz1 z2=>?_) (by repeat first|(with_reducible exact cF)|(with_reducible apply cS));refine au ?_;exact(g (z1,z2) trivial).fin
  rintro z -;rw[aL];refine Gs.ak (au ?_);refine Gs.WX (Vn hb) ?_;refine au ?_;refine Mf (n:=k.spec.num) hb λgv2=>?_;have hAll:(S.bk k.spec.num).all.length<=200:=by unfold Bk.all;rw[ad];have:=(m.ord.side k.spec.num true).1;have:=(m.ord.side k.spec.num false).1;omega
  generalize(S.bk k.spec.num).all=N at hAll r|-;refine Gg.rn (λ_ _ _ _=>rfl) (IJ oC.od) (I:=λj (b:Option Addr×Nat) t=>Zk U S u (a4,k4) z b B (C0++[k]).length (Q++H).length (T++(N.take j).map λo=>(k.spec.num,o)).length V.length::QU b (T++(N.take j).map λo=>(k.spec.num,o))::pt pn [.int .u32 k.spec.num] 45::t) (E:=λ(_:Unit) t=>t) (λ_ _ _=>rfl) (λ_ _=>rfl) (λ_ _=>True) (λ_ _=>False) R trivial ?_ ?_ (λ_ _ (h:False)=>h.elim) (by simp only[bS,ed,aC];exact(by repeat first|(with_reducible exact bL.refl)|((apply kp);(·repeat first|(with_reducible exact cF)|(with_reducible apply cS)))))
  ·rintro j Z ⟨x,y⟩ - l2 q3 M2 kn2 kj2 g -;have w:=bV Z;have h2:(T++(N.take j).map λo=>(k.spec.num,o)).length<=3500:=by rw[ad,af,av];omega
   rw[w,aK,aH,ed,<-ag]at g;generalize N[j]=o at g|-;generalize T++(N.take j).map (λo=>(k.spec.num,o))=I at h2 g|-;unfold dp at g|-;refine au ?_;refine Gs.push (l:=I) (x:=(k.spec.num,o)) (f:=mH) zV ag6 (λ_=>rfl) rfl rfl qZ qZ (λz1 z2=>?_) (by repeat first|(with_reducible exact cF)|(with_reducible apply cS));refine au ?_;exact(g (z1,z2) trivial).fin
  rintro O -;rw[aL];refine Gs.ak (au ?_);refine Gs.WX CI ?_;refine Gs.lenW gR (ni k.spec.num) ?_;have hBdl:=m.ord.bdl k.spec.num;refine Gs.l (λb:Nat×Option Addr×Nat=>(gI b.1,())) (λb=>(S.bd k.spec.num).length - b.1) (λb=>Zk U S u (a4,k4) z O b.2 (C0++[k]).length (Q++H).length (T++N.map λo=>(k.spec.num,o)).length (V++((S.bd k.spec.num).take b.1).map λo=>(k.spec.num,o)).length::QU b.2 (V++((S.bd k.spec.num).take b.1).map λo=>(k.spec.num,o))::ctL (a4,k4) (C0++[k])::Zx z (Q++H)::QU O (T++N.map λo=>(k.spec.num,o))::pt pn [.int .u32 k.spec.num] 45::pt n0 [.pointer (some ⟨v,0,none⟩)] 24::vs v c l mb md A D S (pt q (dh k) lN::pJ l1 r1::Y)) (λb=>b.1<=(S.bd k.spec.num).length) (0,B) rfl (aw _) ?_ (by simp only[bS,ed,aC];exact(by repeat first|(with_reducible exact bL.refl)|((apply kp);(·repeat first|(with_reducible exact cF)|(with_reducible apply cS)))));rintro⟨j,x,y⟩ Z KN s
  dsimp only at Z s|-
  refine Gs.z (au ?_);refine Gs.I (λh=>?_) λh=>?_
  ·have F:j<(S.bd k.spec.num).length:=qZ;have w:=bV F;have h2:(V++((S.bd k.spec.num).take j).map λo=>(k.spec.num,o)).length<=900:=by rw[ad,af,av];omega
   have s:=λy=>s (j+1,y) F (by dsimp only;omega)
   dsimp only at s
   rw[w,aK,aH,ed,<-ag]at s;refine Gs.it gR Nt dH OA (ni k.spec.num) rfl F (au ?_);intro q5;generalize(S.bd k.spec.num)[j]=o at s|-;generalize V++((S.bd k.spec.num).take j).map (λo=>(k.spec.num,o))=I at h2 s|-;unfold mi dp;refine au ?_;refine Gs.push (l:=I) (x:=(k.spec.num,o)) (f:=mH) zV ag6 (λ_=>rfl) rfl rfl qZ qZ (λz1 z2=>?_) (by repeat first|(with_reducible exact cF)|(with_reducible apply cS));refine au ?_;exact(s (z1,z2)).fin
  ·obtain rfl:j=(S.bd k.spec.num).length:=qZ;rw[aL];exact(r ((a4,k4),z,O,(x,y)) _ trivial).fin
 ·rintro⟨y4,W,R,B⟩ d -;have e0:S.cal.l.length=S.nums.length:=by unfold ba.nums;rw[af]
  have e1:CR S S.cal.l.length=S.state.poss:=by unfold CR;rw[e0,aL];rfl
  have e2:Co S S.cal.l.length=S.state.ords:=by unfold Co;rw[e0,aL];rfl
  have e3:BL S S.cal.l.length=S.state.bids:=by unfold BL;rw[e0,aL];rfl
  dsimp only
  rw[e1,e2,e3,aL];refine Gs.ak (au ?_);refine Gs.tw ?_;refine au ?_;refine Gs.fin (M:=ow (.slice u.1 S.led.all.length u.2) 100 4 S.led.all.length (S.led.all.flatMap dr)::ctL y4 S.cal.l::Zx W S.state.poss::QU R S.state.ords::QU B S.state.bids::vs v c l mb md A D S M) ?_;refine Gs.st5 (x:=S.state) ?_ .refl;refine Gs.pk (M:=vs v c l mb md A D S (yg (sS (.slice u.1 S.led.all.length u.2) (.slice y4.1 S.cal.l.length y4.2) (.slice W.1 S.state.poss.length W.2) (.slice R.1 S.state.ords.length R.2) (.slice B.1 S.state.bids.length B.2)) S.state::M)) ?_ (by repeat first|(with_reducible exact bL.refl)|((apply kp);(·repeat first|(with_reducible exact cF)|(with_reducible apply cS))));refine pM (C:=S.cal) hv ?_;exact Gs.pk (hk u y4 W R B) .swap
end
end Go.Proofs
