/- Part of a proof. -/
import Derived.Test.YtekbnpagidkbbaaGreatQ22
set_option linter.all false
set_option maxRecDepth 100000
set_option maxHeartbeats 1000000
namespace Go.Proofs
open Go Go.Vc
def oB.cal{A:List (Int×Nat)}{D:List (Int×Value)}{C C' :List Ct}{bk:Int->Bk}(h:oB A D C bk)(d:∀n,(cg C' n).isSome=(cg C n).isSome):oB A D C' bk:=⟨λn=>by rw[d];exact h.dom n,λn e=>by rw[d];exact h.dod n e,h.nbk⟩
section
variable{L L0 M:List As}{φ:WP}{K:Value->WP}{k0:WP}{v c l mb md b mw:Nat}{A:List (Int×Nat)}{D:List (Int×Value)}{S:bo}{n a:Int}{X:bE}{won:Int->Int}{bd:Int->List Od}
def Gs.mdel{P:Program}{κ ν:Type} [DecidableEq κ]{enc:κ->Value}{ev:ν->Value}{t u f e G:TypeId}{E:List (κ×ν)}{x:κ}{k:Value->WP}(q:P.underlying t=some (.map f e))(d:qK P f enc)(s:Gs (mp enc ev b (ze E x)::M) (k (.tuple #[])))(p:dV L (mp enc ev b E::M)):Gs L (Xw P (sQ #[t,u] G [.map (some b),enc x]) k):=⟨λw ⟨F,z⟩=>by
 obtain⟨C,r,h1,j,g⟩:=Ss.cons.1 (⟨F,(p.out w F).1 z⟩:Ss w (mp enc ev b E::M));refine Cp q d (.inr ⟨b,rfl,h1.1⟩) λi o m _=>s.go i (Ss.cons.2 ⟨C,r,⟨?_,h1.2⟩,j.md m λy B H=>?_,g⟩)
 ·rcases o with⟨h,-⟩|⟨I,h,o⟩
  ·cases h
  ·cases h;exact o
 ·cases H;exact g b ((h1.2 b).2 rfl) B⟩
def FH(d:(D.map (·.1)).Nodup)(m:Int):kQ (ze D n) m=if m=n then dQ else kQ D m:=by
 unfold kQ;rw[NM d];by_cases h:m=n
 ·rw[ae h,ae h.symm];rfl
 ·rw[aa h,aa λe=>h e.symm]
def TY(f:(D.map (·.1)).Nodup)(j:Gs (tU (ze D n) (eL bd n [])::M) φ)(p:dV L (tU D bd::M):=by repeat first|(with_reducible exact dV.refl)|((apply nL);(·repeat first|(with_reducible exact eg)|(with_reducible apply ee)))):Gs L φ:=⟨λw ⟨F,z⟩=>by
 obtain⟨s,i,q,g,o,-⟩:=(p.out w F).1 z
 have e:∀{m x},aK (kQ (ze D n) m) x->m≠n/\aK (kQ D m) x:=λ{m x} h=>by
  rw[FH f]at h;by_cases d:m=n
  ·rw[ae d]at h;cases h
  ·rw[aa d]at h;exact⟨d,h⟩
 refine j.go w (Ss.cons.2 ⟨λx=>∃m,True/\aK (kQ (ze D n) m) x,i,⟨λm _=>?_,λm k x _ _ a b=>q.dj m k x trivial trivial (e a).2 (e b).2,λ_=>aG⟩,g,λx ⟨m,_,r⟩=>o x ((q.f x).2 ⟨m,trivial,(e r).2⟩)⟩);rw[FH f];by_cases d:m=n
 ·rw[ae d,d,cO];exact gD.nil _ _ _
 ·rw[aa d,eJ _ _ _ d];exact q.q m trivial⟩
def oB.del{C:List Ct}{bk:Int->Bk}(h:oB A D C bk)(e:(D.map (·.1)).Nodup):oB A (ze D n) C bk:=⟨h.dom,λm d=>h.dod m (by
 rw[NM e]at d;split at d
 ·cases d
 ·exact d),h.nbk⟩
def mdN(h:(D.map (·.1)).Nodup->Gs L φ)(p:dV L (Nq md D::M):=by repeat first|(with_reducible exact eg)|(with_reducible apply ee)):Gs L φ:=Gs.mpN h p
def B5{s t u:Vt_}{os:List Od}{I:List Int}{q j:Nat}{m B i y:Int}{g:Option Addr×Nat}(d:j<os.length)(T:I.length<=300000)(Q:∀w,Ss w L->Rd w 5 s os.length (os.flatMap dx))
  (h:∀z,Gs (pt q (BF m B i y t (ej z (I++[os[j].num]).length) u) qL::sB (ej z (I++[os[j].num]).length) (I++[os[j].num])::M) k0)(p:dV L (pt q (BF m B i y t (ej g I.length) u) qL::sB (ej g I.length) I::M):=by repeat first|(with_reducible exact dV.refl)|((apply nL);(·repeat first|(with_reducible exact eg)|(with_reducible apply ee)))):
  Gs L (Vw pQ (iX rE s (gI (j:Int))) λJ=>Vw pQ (iL ji J) λO=>Vw pQ (iA ji true (.tuple #[])) λk=>Uw pQ (iS ji k O) <| Vw pQ (iF qL (bO q 0) 5) λP=>Vw pQ (iL 39 P) λE=>
   Vw pQ (iF ji k 0) λC=>Vw pQ (iL 37 C) λN=>Xw pQ (pN 39 1 [(0,N)]) λR=>Xw pQ (eZ #[39,39] 39 [E,R]) λF=>Vw pQ (iF qL (bO q 0) 5) λe=>Uw pQ (iS 39 e F) k0):=by
 refine Gs.it gX OB dP Qv Q rfl d ?_;refine Gs.pk ?_ p;generalize os[j]=o at h|-;refine au ?_;intro r;refine au ?_;refine Gs.push (x:=o.num) (f:=ua) (l:=I) wS Ms (λ_=>rfl) rfl rfl qZ qZ (λH G=>?_) (by repeat first|(with_reducible exact eg)|(with_reducible apply ee));refine au ?_;exact(h (H,G)).fin
set_option maxHeartbeats 4000000 in
def HD(hv:oB A D S.cal.l S.bk)(p:S.Ok)(hK:QE v c l mb md A (S.expire n) L K)(pk:dV L0 (vs v c l mb md A D S L):=by repeat first|(with_reducible exact dV.refl)|((apply nL);(·repeat first|(with_reducible exact eg)|(with_reducible apply ee)))):Gs L0 (Cw pQ 138 #[dL v,gU n] K):=by
 refine Gs.pk ?_ pk;refine sN Tryz.func138 ?_;unfold dL;obtain⟨C,hC⟩:=df (fq S.cal n);obtain⟨G,hG⟩:=df (dI S.cal.l n);obtain⟨U,hM⟩:∃m,m=S.led.mark G.1.spec.num G.1.price true:=⟨_,rfl⟩
 obtain⟨P,hP⟩:=df (({S with cal:=C.2,led:=U.2.2}:bo).pay (ii jq U.2.1))
 have d:S.expire n=if C.1≠0 then(C.1,jw,{S with cal:=C.2})else if U.1≠0 then(U.1,jw,{S with cal:=C.2,led:=U.2.2})else if P.1≠0 then P else
   (0,{P.2.1 with gone:=(P.2.1.gone++(iK (P.2.2.bk n) 0).2.map (·.num))++(P.2.2.bd n).map (·.num)},{P.2.2 with bk:=eL P.2.2.bk n (iK (P.2.2.bk n) 0).1,bd:=eL P.2.2.bd n []}):=by rw[hP,hM,hG,hC];rfl
 obtain⟨hvl,Z⟩:=xF p.led.led G.1.spec.num G.1.price true;rw[<-hM]at hvl Z;have hwb:=yd (V:=1100000000000000) qZ U.2.1 (won:=jq) (B:=0) (λn=>by show(-0:Int)<=0/\(0:Int)<=0;omega) λx hx=>(Z x hx).1;have W:∀m,eP (ii jq U.2.1 m):=λm=>by have:=hwb m;constructor<;>omega
 have hlh:S.led.held.length<4294967295:=by have:=sw p.cal p.led;omega
 have H:C.2.Ok:=by rw[hC];exact Eb p.cal n
 have J:∀m,(cg C.2.l m).isSome=(cg S.cal.l m).isSome:=λm=>by rw[hC];exact BR n m
 have R:=hv.cal J
 have i:C.1=0->(cg S.cal.l n).isSome=true:=λh=>by
  have hdue:qq S.cal n=0:=by
   apply aI;intro hc;rw[hC]at h;unfold fq at h;rw[ae hc]at h;exact hc h
  obtain⟨k0,hk0,-⟩:=nR (AK hdue);rw[hk0];rfl
 refine au ?_;intro q;refine au ?_;refine zm ?_;rw[<-hG];refine au ?_;refine Gs.bvar cy tM (bV _) cy (lV _) λr=>?_;refine au ?_;refine IW ?_;rw[<-hC];obtain⟨e,C⟩:=C
 dsimp only at d hP H J R i|-
 refine au ?_;refine Gs.Ib (λE=>?_) λE=>?_
 ·rw[ae (by simpa using E)]at d;refine au ?_;exact hK.fail d (D:=D) R
 rw[aa (by simpa using E)]at d;have i:=i (by simpa using E);refine Gs.mkW (λmw=>?_);refine Gs.X (λw z=>ky (cs:=dD G.1) (by repeat first|(with_reducible exact eg)|(with_reducible apply ee)) Hk tM (bV _) w z) ?_;refine ES (S:={S with cal:=C}) (B:=0) (won:=jq) hlh (λn=>by show(-0:Int)<=0/\(0:Int)<=0;omega) qZ ?_;rw[<-hM];obtain⟨e,V,Y⟩:=U
 dsimp only at d hP hvl Z hwb W|-
 refine au ?_;refine Gs.Ib (λE=>?_) λE=>?_
 ·rw[ae (by simpa using E)]at d;refine au ?_;exact hK.fail d (D:=D) R
 rw[aa (by simpa using E)]at d;refine Kb (S:={S with cal:=C,led:=Y}) R H (λn=>p.ord.bdl n) W (λg u D' w1 w2 w3 w4 w5=>?_);have hTb:=TP ({S with cal:=C,led:=Y}:bo) (ii jq V) n;have hbl:=p.ord.bdl n;rw[<-hP]at w1 w2 w3 w4 w5 hTb|-;obtain⟨e,r,T⟩:=P;obtain⟨r1,r2,r3,r4,r5,o,t⟩:=r
 dsimp only at w1 w2 w3 w4 w5 d hTb|-
 subst w5;refine au ?_;refine Gs.Ib (λE=>?_) λE=>?_
 ·rw[ae (by simpa using E)]at d;rw[d]at hK;refine au ?_;refine Gs.tdn ?_;have:=hK (none,0) g u D' (by dsimp only;rw[w2];exact w1) ⟨aJ _,by dsimp only;omega,by dsimp only;omega⟩
  dsimp only[List.length_nil]at this
  exact this.fin
 rw[aa (by simpa using E)]at d;obtain⟨b,hb⟩:=AP w1 (by rw[J];exact i);refine au ?_;refine Gs.look (enc:=eQ) (ev:=fa) (D:=A) (x:=n) (.pointer none) wA kM Sv ?_ (by repeat first|(with_reducible exact eg)|(with_reducible apply ee));rw[hb];refine tq hb ?_;refine Gs.fact (λw F q=>(fU.all q).1) λhal=>?_;have hml:=FG (a:=0) hal;refine Kw (a:=0) (λy1 y2=>?_);refine vz hb ?_;generalize(iK (T.bk n) 0).2=O at d hml|-;generalize(iK (T.bk n) 0).1=B' at d|-;refine au ?_;refine Gs.fin (M:=pt q (BF r1 r2 r3 r4 (.slice none 0 0) (ej g o.length) (ej u t.length)) qL::sB (ej g o.length) o::lX (.slice y1 O.length y2) O::vs v c l mb md A D' {T with bk:=eL T.bk n B' } (yT (ej u t.length) t::L)) ?_;refine Gs.l (λy:Nat×(Option Addr×Nat)=>(gI y.1,())) (λy=>O.length - y.1) (λy=>pt q (BF r1 r2 r3 r4 (.slice none 0 0) (ej y.2 (o++(O.take y.1).map (·.num)).length) (ej u t.length)) qL::sB (ej y.2 (o++(O.take y.1).map (·.num)).length) (o++(O.take y.1).map (·.num))::lX (.slice y1 O.length y2) O::vs v c l mb md A D' {T with bk:=eL T.bk n B' } (yT (ej u t.length) t::L)) (λy=>y.1<=O.length) (0,g) rfl (aJ _) ?_ ?_
 rotate_left
 ·show dV _ (pt q (BF r1 r2 r3 r4 (.slice none 0 0) (ej g (o++[]).length) (ej u t.length)) qL::sB (ej g (o++[]).length) (o++[])::_);rw[bg];exact .refl
 rintro⟨j,x⟩ hj KN s
 dsimp only at hj s|-
 refine Gs.z ?_;refine au ?_;refine Gs.I (λh=>?_) λh=>?_
 ·have N:j<O.length:=qZ;have f:=λz=>s (j+1,z) (by dsimp only;omega) (by dsimp only;omega)
  dsimp only at f
  rw[cq N,aM,<-aH,aD,fw]at f;have k:(o++(O.take j).map (·.num)).length<=300000:=by rw[ag,ah,aB];omega
  generalize o++(O.take j).map (·.num)=I at k f|-;refine B5 (os:=O) (I:=I) (g:=x) N k (λw y=>mO (by repeat first|(with_reducible exact eg)|(with_reducible apply ee)) w y) (λz=>?_);refine au ?_;exact(f z).fin
 obtain rfl:j=O.length:=qZ;rw[aV];have k:(o++O.map (·.num)).length<=299000:=by rw[ag,ah];omega
 generalize o++O.map (·.num)=Q at k d|-;clear s;refine au ?_;refine Gs.look (enc:=eQ) (ev:=xk) (D:=D') (x:=n) dQ qD kM Ag ?_ (by repeat first|(with_reducible exact eg)|(with_reducible apply ee));rw[Lo];refine Gs.len gX (pD n) ?_;refine Gs.l (λy:Nat×(Option Addr×Nat)=>(gI y.1,())) (λy=>(T.bd n).length - y.1) (λy=>pt q (BF r1 r2 r3 r4 (.slice none 0 0) (ej y.2 (Q++((T.bd n).take y.1).map (·.num)).length) (ej u t.length)) qL::sB (ej y.2 (Q++((T.bd n).take y.1).map (·.num)).length) (Q++((T.bd n).take y.1).map (·.num))::lX (.slice y1 O.length y2) O::vs v c l mb md A D' {T with bk:=eL T.bk n B' } (yT (ej u t.length) t::L)) (λy=>y.1<=(T.bd n).length) (0,x) rfl (aJ _) ?_ ?_
 rotate_left
 ·show dV _ (pt q (BF r1 r2 r3 r4 (.slice none 0 0) (ej x (Q++[]).length) (ej u t.length)) qL::sB (ej x (Q++[]).length) (Q++[])::lX (.slice y1 O.length y2) O::vs v c l mb md A D' {T with bk:=eL T.bk n B' } (yT (ej u t.length) t::L));rw[bg];exact(by repeat first|(with_reducible exact dV.refl)|((apply nL);(·repeat first|(with_reducible exact eg)|(with_reducible apply ee))))
 rintro⟨j,x⟩ hj KN s
 dsimp only at hj s|-
 refine Gs.z ?_;refine au ?_;refine Gs.I (λh=>?_) λh=>?_
 ·have N:j<(T.bd n).length:=qZ;have f:=λz=>s (j+1,z) (by dsimp only;omega) (by dsimp only;omega)
  dsimp only at f
  rw[cq N,aM,<-aH,aD,fw]at f;have k:(Q++((T.bd n).take j).map (·.num)).length<=300000:=by rw[ag,ah,aB];omega
  generalize Q++((T.bd n).take j).map (·.num)=I at k f|-;refine B5 (os:=T.bd n) (I:=I) (g:=x) N k (pD n) (λz=>?_);refine au ?_;exact(f z).fin
 obtain rfl:j=(T.bd n).length:=qZ;rw[aV];rw[d]at hK;have hIl:(Q++(T.bd n).map (·.num)).length<=300000:=by rw[ag,ah];omega
 generalize Q++(T.bd n).map (·.num)=I at hIl hK|-;refine mdN (λhN=>?_);refine au ?_;refine Gs.mdel (enc:=eQ) (ev:=xk) (x:=n) qD kM ?_ (by repeat first|(with_reducible exact eg)|(with_reducible apply ee));refine TY (n:=n) hN ?_;refine au ?_;refine Gs.tdn ?_;have:=hK (none,0) x u (ze D' n) ?_ ⟨aJ _,by dsimp only;omega,by dsimp only;omega⟩
 ·dsimp only[List.length_nil]at this
  exact this.fin
 ·dsimp only
  rw[w2];exact(w1.upb hb).del hN
end
end Go.Proofs
namespace Go.Proofs
open Go Go.Vc
attribute [local congr] aZ
section
variable{W:Wt_}{q:Nat}{r:Rp}{sT:Vt_}
end
def NH:∀{l:List Int},(∀x∈l,0<=x)->0<=l.sum/\∀x∈l,x<=l.sum
 | [],_=>⟨by simp,by simp⟩
 |a::l,h=>by
  have h1:=h a (ai ..);have⟨h2,h3⟩:=NH (l:=l) λx b=>h x (af _ b);rw[bC];refine⟨qZ,λx b=>?_⟩;rcases ar.1 b with rfl|b
  ·omega
  ·have:=h3 x b;omega
def Ht(q:Int)(l:List Hd):(jR q l).1.length<=64/\∀h∈(jR q l).1,(0<=h.q/\h.q<=10000000)/\∃d∈l,d.acct=h.acct:=by
 unfold jR;split
 ·simp
 ·split
  ·simp
  ·split
   ·simp
   ·split
    ·simp
    ·rename_i h1 k y p
     have e:=AS (t:=we q) (l:=l.map λd=>nY q d.q) (by simpa using p)
     have o:aW q (-10000000) 10000000=true:=by
      cases m:aW q (-10000000) 10000000 with
      |true=>rfl
      |false=>exact absurd (.inr (.inl m)) k
     have n:=eU.1 o;have g:we q<=10000000:=by unfold we;omega
     have f:=NH e.2.2.1;refine⟨?_,λh i=>?_⟩
     ·unfold sq;rw[ah];exact ci (bi _ _) (by grind)
     ·unfold sq at i;obtain⟨x,u,rfl⟩:=aL.1 i;have a:=(aT.1 u).1;have b:=List.of_mem_zip a;have j:=e.2.2.1 _ b.2;have s:=f.2 _ b.2;rw[e.2.1]at s;exact⟨⟨j,by grind⟩,x.1,b.1,rfl⟩
section
variable{w:Wt_}{K:aY}{v c l mb md:Nat}{A:List (Int×Nat)}{D:List (Int×Value)}{fp:Pt->Nat->Prop}{S:bo}
end
end Go.Proofs
set_option maxRecDepth 100000
namespace Go.Proofs
open Go Go.Vc
abbrev Wz(s:Vt_)(l:List Hd):As:=ow s 394 2 l.length (l.flatMap AU)
def nHd:Tryz.prog.cellsOf 394=1+1:=cy
def Yn(x:Hd)(w:Wt_)(b off:Nat)(h:At w b off (AU x)):(iL 394 (bO b off)).run pQ w=.ok (.agg (AU x).toArray) w:=by
 obtain⟨C,e,i,hC,g⟩:=h.get;have f:=g 0 (gU x.acct) rfl;have d:=g 1 (gI x.q) rfl;simp only[cx]at f d;simp[go_sem,bT hC,f,d,AU]
abbrev qn(f l:Int)(tr:List Td):Rp:=⟨0,0,f,l,tr,[],[]⟩
abbrev Mw(p:Nat)(t:Option Addr×Nat)(f l:Int)(tr:List Td)(L:List As):List As:=pt p (BF 0 0 f l (ej t tr.length) (.slice none 0 0) (.slice none 0 0)) qL::Ak (ej t tr.length) tr::L
def tC(a:Int)(l:List Po):List Hd:=(l.filter λp=>decide (p.a≠a)).map λp=>⟨p.a,p.q⟩
def Gz(n a:Int)(long:Bool)(price:Int)(h:Hd)(l:List Hd)(f lf:Int)(tr:List Td)(S:bo):mV n a long price (h::l) (qn f lf tr) S=if(lO S.led n a h.acct long price h.q).1≠0 then((lO S.led n a h.acct long price h.q).1,qn f lf tr,{S with led:=(lO S.led n a h.acct long price h.q).2})else
 mV n a long price l (qn f (lf+h.q) (tr++[⟨price,h.q,0,h.acct⟩])) {S with led:=(lO S.led n a h.acct long price h.q).2}:=rfl
structure aa4 where
 i:Nat
 t:Option Addr×Nat
 lf:Int
 tr:List Td
 X:bE
section
variable{L L0 M:List As}{φ:WP}{K:Value->WP}{k0:WP}{v c l mb md b mw:Nat}{A:List (Int×Nat)}{D:List (Int×Value)}{S:bo}{n a:Int}{X:bE}{bd:Int->List Od}
def LH{s:Vt_}{hs:List Hd}{q:Int}(j:hs.length<=100000)(i:∀d∈hs,d.Fit)(g:eP q)(f:∀y,Gs (Wz (ej y (jR q hs).1.length) (jR q hs).1::L) (K (.tuple #[ej y (jR q hs).1.length,gI (jR q hs).2])))(p:dV L (Wz s hs::M):=by repeat first|(with_reducible exact eg)|(with_reducible apply ee)):
  Gs L (Cw pQ 278 #[.int .i64 q,s] K):=
 Gs.nw (φ:=λk=>Cw pQ _ _ k) (val:=λy:Option Addr×Nat=>.tuple #[ej y (jR q hs).1.length,gI (jR q hs).2]) (p:=λ_=>True) (B:=λy=>Wz (ej y (jR q hs).1.length) (jR q hs).1) (λw y K h=>K8 (mO p w y) j i g λr e o m nn=>by
  obtain⟨x,y,rfl,-⟩:=o.isSl;exact h (x,y) e (aK _) trivial ⟨o,λ_=>aG⟩ m nn) (λy _=>f y)
set_option maxHeartbeats 4000000 in
def Oi{k:Ct}{J:Int}{long:Bool}{p pk pa:Nat}{t:Option Addr×Nat}{f lf:Int}{tr:List Td}{x1:Vt_}{x2:Value×Unit}(U:S.led.held.length<4294967295)(hn:kV k.spec.num)(hq64:eP J)(hb:(0<=lf/\lf<=1000000000000)/\tr.length<=10000)
  (C:∀t' e F T X,(if(jR J (tC a (S.led.holders k.spec.num))).2≠0 then((jR J (tC a (S.led.holders k.spec.num))).2,qn f lf tr,S)else mV k.spec.num a long k.price (jR J (tC a (S.led.holders k.spec.num))).1 (qn f lf tr) S)=(e,qn f F T,{S with led:=X})->
   (0<=F/\F<=lf+640000000)->T.length<=tr.length+64->Gs (Mw p t' f F T (vs v c l mb md A D {S with led:=X} L)) (K (gI e)))
  (pk_:dV L0 (Mw p t f lf tr (pt pk (dD k) kP::pt pa [.int .u32 a] 45::vs v c l mb md A D S L)):=by repeat first|(with_reducible exact dV.refl)|((apply nL);(·repeat first|(with_reducible exact eg)|(with_reducible apply ee)))):
  Gs L0 (Ke (dL v) (gU k.spec.num) (bO pa 0) K (bO pk 0) (.bool long) (bO p 0) (gI 0,x1,x2) (gI J,())):=by
 refine Gs.pk ?_ pk_
 skip;unfold dL
 refine FV (X:=S.led) (λG=>?_);have V:∀p∈S.led.holders k.spec.num,p∈S.led.held:=λp hp=>(aT.1 hp).1;have hHl:=qj G k.spec.num;obtain⟨u,q⟩:=Ht J (tC a (S.led.holders k.spec.num));have W:∀l:List Po,(tC a l).length<=l.length:=λl=>by unfold tC;rw[ah];exact bi _ _
 have Q:∀x∈tC a (S.led.holders k.spec.num),x.Fit:=λx hx=>by
  obtain⟨po,hpo,rfl⟩:=aL.1 hx;obtain⟨g1,g2,g3,g4,g5,g6,g7,ac,hac,hae⟩:=G.pos po (V po (aT.1 hpo).1);have:=G.acc ac hac;have hMP:MP=10000000:=rfl;exact⟨⟨by show 0<=po.a;omega,by show po.a<_;omega⟩,⟨by show _<=po.q;omega,by show po.q<_;omega⟩⟩
 refine Gs.z ?_;refine au ?_;intro ph;refine au ?_;refine Gs.nilF 394 2 AU (Hy U λgv=>?_);generalize S.led.holders k.spec.num=H at C V hHl u q Q|-;refine Gg.rf (L:=Mw p t f lf tr (pt pk (dD k) kP::vs v c l mb md A D S L)) (λ_ _ _ _=>rfl) (Rq nQ.po) (I:=λi (b:Option Addr×Nat) M=>pt ph [ej b (tC a (H.take i)).length] 392::Wz (ej b (tC a (H.take i)).length) (tC a (H.take i))::pt pa [.int .u32 a] 45::M) (E:=λ(_:Unit) M=>M) (λ_ _ _=>rfl) (λ_ _=>rfl) (λi b=>True) (λ_ _=>False) (none,0) trivial ?_ ?_ (λ_ _ _ (h:False)=>h.elim) ?_
 ·rintro i hi x - l1 r1 q1 M kn kj g -;have m:=W (H.take i);rw[aB]at m
  have hs:tC a (H.take (i+1))=tC a (H.take i)++if H[i].a=a then []else [⟨H[i].a,H[i].q⟩]:=by
   unfold tC;rw[cq hi,cw,aM];by_cases h:H[i].a=a<;>simp[h]
  rw[hs]at g;generalize H[i]=po at g|-;generalize tC a (H.take i)=I at m g|-;unfold dy;refine au ?_;refine Gs.Ib (λh=>?_) λh=>?_
  ·rw[aa (by simpa using h)]at g;refine au ?_;refine Gs.push (x:=(⟨po.a,po.q⟩:Hd)) (f:=AU) (l:=I) SI eHd (λ_=>rfl) rfl rfl qZ qZ (λz1 z2=>?_) (by repeat first|(with_reducible exact eg)|(with_reducible apply ee));refine au ?_;exact(g (z1,z2) _ trivial).fin
  ·rw[ae (by simpa using h),bg]at g;exact(g x _ trivial).fin
 ·rintro x0 d -;rw[aV];have m:=W H;generalize tC a H=O at m C u q Q|-
  skip
  refine Gs.ak (au ?_);refine LH (hs:=O) qZ Q hq64 (λy=>?_);generalize jR J O=X at u q C|-;obtain⟨P,e⟩:=X
  dsimp only at u q C|-
  refine au ?_;refine Gs.Ib (λR=>?_) λR=>?_
  ·rw[ae (by simpa using R)]at C;refine Gs.tw ?_;exact(C t e lf tr S.led rfl qZ qZ).fin
  rw[aa (by simpa using R)]at C;refine au ?_;refine Gs.fin (M:=Wz (ej y P.length) P::pt pk (dD k) kP::pt pa [.int .u32 a] 45::Ns d::Mw p t f lf tr (vs v c l mb md A D S L)) ?_
  refine Gs.l (λx:aa4=>(gI 0,gI x.i,())) (λx=>P.length - x.i) (λx=>Wz (ej y P.length) P::pt pk (dD k) kP::pt pa [.int .u32 a] 45::Ns d::Mw p x.t f x.lf x.tr (vs v c l mb md A D {S with led:=x.X} L))
   (λx=>x.i<=P.length/\mV k.spec.num a long k.price P (qn f lf tr) S=mV k.spec.num a long k.price (P.drop x.i) (qn f x.lf x.tr) {S with led:=x.X}/\(0<=x.lf/\x.lf<=lf+10000000*x.i)/\x.tr.length<=tr.length+x.i) ⟨0,t,lf,tr,S.led⟩ rfl ⟨aJ _,rfl,by dsimp only;omega,by dsimp only;omega⟩ ?_ .refl
  rintro⟨j,t,N,r,X⟩ ⟨h1,o,h3,h4⟩ KN Z
  skip
  dsimp only at h1 o h3 h4 Z|-
  refine Gs.z (au ?_);refine Gs.I (λh=>?_) λh=>?_
  ·have s:j<P.length:=qZ;have hhb:=(q _ (av s)).1;rw[<-ce s]at o;refine Gs.it (f:=AU) SI nHd (λ_=>rfl) Yn (λw y=>mO (by repeat first|(with_reducible exact eg)|(with_reducible apply ee)) w y) rfl s ?_;generalize P[j]=B at hhb o|-;rw[Gz]at o;unfold AU;refine au ?_;intro r1;refine au ?_;refine Gs.X (λw z=>ky (by repeat first|(with_reducible exact eg)|(with_reducible apply ee)) Hk tM (bV _) w z) ?_;refine au ?_;refine EW (S:={S with led:=X}) hn ?_
   dsimp only at o|-
   generalize lO X k.spec.num a B.acct long k.price B.q=Y at o|-;obtain⟨e,Y⟩:=Y
   dsimp only at o|-
   refine au ?_;refine Gs.Ib (λR=>?_) λR=>?_
   ·rw[ae (by simpa using R)]at o;refine Gs.tw ?_;exact(C t e N r Y o qZ qZ).fin
   rw[aa (by simpa using R)]at o;refine au ?_;refine Gs.lit1 FK Ye (cs:=Di ⟨k.price,B.q,0,B.acct⟩) rfl rfl qZ λb=>?_;refine au ?_;refine Gs.snd (l:=r) (x:=(⟨k.price,B.q,0,B.acct⟩:Td)) (f:=Di) FK Ye rfl qZ (λz1 z2=>?_);refine au ?_;exact(Z ⟨j+1,(z1,z2),N+B.q,r++[⟨k.price,B.q,0,B.acct⟩],Y⟩ ⟨s,o,by dsimp only;omega,by dsimp only;rw[ag];simp only[be,List.length_nil];omega⟩ (by dsimp only;omega)).fin
  ·obtain rfl:j=P.length:=qZ;rw[ck (az _)]at o;refine Gs.tw ?_;exact(C t 0 N r X o qZ qZ).fin
 ·simp only[Wz,dR,tC,eG,fw,List.length_nil,ff];exact(by repeat first|(with_reducible exact dV.refl)|((apply nL);(·repeat first|(with_reducible exact eg)|(with_reducible apply ee))))
end
end Go.Proofs
set_option maxRecDepth 100000
set_option maxHeartbeats 1000000
namespace Go.Proofs
open Go Go.Vc
attribute [local congr] aZ
def Wu{w:Wt_}{p:Nat}{f:Fl}(h:hC w p (Ky f).toArray 390)(l:List Od):Dm w (.func (.func 277) #[] #[.pointer (some ⟨p,0,none⟩)]) (λo=>decide (o.num=f.num)) l:=by
 refine⟨_,_,rfl,λo k W g K j=>?_⟩;refine cN Tryz.func277 ?_;obtain⟨a,e,i,b⟩:=tK o W;apply bh e;have d:=b.hpk (g.hpk h id) id;unfold Ky at d;refine ax (bO W.heap.size 0) a (by simp[go_sem]) (ax (gQ o.num) a (by simp[go_sem,i,dx]) ?_);refine ax (bO p 0) a (by simp[go_sem]) (ax (gQ f.num) a (by simp[go_sem,d]) ?_);apply ax (.bool (decide (o.num=f.num))) a (by simp[go_sem];rfl);exact j a b
def Df{l:List Od}{num qty:Int}{o:Od}(b:o∈l)(g:o.num≠num):o∈kz l num qty:=by
 unfold kz;cases k:l.findIdx? λo=>decide (o.num=num)with
 |none=>exact b
 |some i=>
  obtain⟨d,a,-⟩:=bp.1 k;rw[aX]at a;obtain⟨j,m,rfl⟩:=bM b;have f:j≠i:=λe=>g (by subst e;exact a);simp only;split
  ·rcases Do (aq d) b with h|h
   ·grind
   ·exact h
  ·refine List.mem_iff_getElem.2 ⟨j,by grind,?_⟩;rw[List.getElem_set_ne (λe=>f e.symm)]
def QN(sells:Bool)(qty:Int)(l:List Od):(iJ sells qty l).2.1.length<=50:=by
 have key:∀l q p,(lP q l p).1.length<=l.length:=by
  intro l;induction l with
  |nil=>intro q p;simp[lP]
  |cons o l a=>
   intro q p;unfold lP;split
   ·simp
   ·grind
 unfold iJ;split
 ·simp
 ·split
  ·simp
  ·rename_i h1 b
   have e:=key (Srt.stable (nX (oO sells)) l) qty 0;have d:=(Srt.stable_perm (nX (oO sells)) l).length_eq;simp only;omega
section
variable{w:Wt_}{K:aY}{v c l mb md:Nat}{A:List (Int×Nat)}{D:List (Int×Value)}{fp:Pt->Nat->Prop}{S:bo}
def Fa(k:Ct)(a:Int)(long:Bool)(price left:Int)(Fs:List Fl)(r:Rp)(S:bo):Int×Rp×bo:=
 let f:=nr k.spec.num a long price Fs left r S
 if f.1≠0 then(f.1,f.2.2.1,f.2.2.2)
 else if f.2.1=0 then(0,f.2.2.1,f.2.2.2)
 else
  let p:=jR (if long then f.2.1 else -f.2.1) (((f.2.2.2.led.holders k.spec.num).filter λp=>decide (p.a≠a)).map λp=>⟨p.a,p.q⟩)
  if p.2≠0 then(p.2,f.2.2.1,f.2.2.2)else mV k.spec.num a long k.price p.1 f.2.2.1 f.2.2.2
def Th(S:bo)(k:Ct)(a q:Int)(r:Rp):S.sell k a q r=if(iJ (decide (0<q)) (max q (-q)) ((S.bd k.spec.num).filter λo=>o.buy==decide (0<q))).2.2≠0 then((iJ (decide (0<q)) (max q (-q)) ((S.bd k.spec.num).filter λo=>o.buy==decide (0<q))).2.2,r,S)else
  Fa k a (decide (0<q)) (iJ (decide (0<q)) (max q (-q)) ((S.bd k.spec.num).filter λo=>o.buy==decide (0<q))).1 (max q (-q)) (iJ (decide (0<q)) (max q (-q)) ((S.bd k.spec.num).filter λo=>o.buy==decide (0<q))).2.1 r S:=rfl
end
end Go.Proofs
set_option maxRecDepth 100000
namespace Go.Proofs
open Go Go.Vc
abbrev ZN(s:Vt_)(l:List Fl):As:=ow s 390 3 l.length (l.flatMap Ky)
def nFl:Tryz.prog.cellsOf 390=2+1:=cy
def XW(x:Fl)(w:Wt_)(b off:Nat)(h:At w b off (Ky x)):(iL 390 (bO b off)).run pQ w=.ok (.agg (Ky x).toArray) w:=by
 obtain⟨C,e,j,hC,d⟩:=h.get;have i:=d 0 (gQ x.num) rfl;have g:=d 1 (gU x.acct) rfl;have f:=d 2 (gI x.qty) rfl;simp only[cx]at i g f;simp[go_sem,bT hC,i,g,f,Ky]
def FM(n a:Int)(long:Bool)(price:Int)(x:Fl)(l:List Fl)(left f lf:Int)(tr:List Td)(S:bo):nr n a long price (x::l) left (qn f lf tr) S=if(lO S.led n a x.acct long price x.qty).1≠0 then((lO S.led n a x.acct long price x.qty).1,left,qn f lf tr,{S with led:=(lO S.led n a x.acct long price x.qty).2})else
 nr n a long price l (left - x.qty) (qn (f+x.qty) lf (tr++[⟨price,x.qty,x.num,x.acct⟩])) {S with led:=(lO S.led n a x.acct long price x.qty).2,bd:=eL S.bd n (kz (S.bd n) x.num x.qty)}:=rfl
structure ae2 where
 i:Nat
 t:Option Addr×Nat
 D:List (Int×Value)
 left:Int
 f:Int
 tr:List Td
 S:bo
attribute [go_sem] Ky
section
variable{L L0 M:List As}{φ:WP}{K:Value->WP}{k0:WP}{v c l mb md b mw:Nat}{A:List (Int×Nat)}{D:List (Int×Value)}{S:bo}{n a:Int}{X:bE}{bd:Int->List Od}{s:Vt_}{os:List Od}
def Gs.itW{i:Nat}{x:Int}(hi:i<os.length)(B:Gs (lX s (os.set i {os[i]with left:=x})::M) k0)(p:dV L (lX s os::M):=by repeat first|(with_reducible exact eg)|(with_reducible apply ee)):
  Gs L (Pw pQ (iX rE s (gI (i:Int))) λp=>Pw pQ (iF ji p 4) λq=>Uw pQ (iS 2 q (gI x)) k0):=⟨λw ⟨F,z⟩=>by
 obtain⟨E,u,⟨h1,d⟩,t,j⟩:=Ss.cons.1 (⟨F,(p.out w F).1 z⟩:Ss w (lX s os::M));obtain⟨r,k,H,e,h,g,G,f,o,m⟩:=qp.setLeft h1 hi x;refine cT (bO r (i*5)) (λW=>by rw[e];simp[go_sem,hi,bD,gX]) ?_;refine cT (bO r (i*5+4)) (λ_=>by simp[go_sem,bD]) ?_;refine gg f (B.go H (Ss.cons.2 ⟨E,u,⟨o,d⟩,t.md m λy C I=>j y ((d y).2 I) C,j⟩))⟩
def Gs.itLV{k:Value->WP}{i n:Nat}(t:∀w,Ss w L->Rd w 5 s n (os.flatMap dx))(h:n=os.length)(hi:i<os.length)(m:Gs L (k (gI os[i].left))):Gs L (Vw pQ (iX rE s (gI (i:Int))) λp=>Vw pQ (iF ji p 4) λq=>Vw pQ (iL 2 q) k):=⟨λw y=>by
 obtain⟨b,e,o,f,g,r⟩:=(t w y).item dP hi h;obtain⟨C,x,u,hC,j⟩:=r.get;have d:=j 4 _ rfl;rw[eD]at d;refine ax (bO b (e+i*5)) w (by rw[f];subst h;simp[go_sem,hi,bD,gX]) ?_;refine ax (bO b (e+i*5+4)) w (by simp[go_sem,bD]) (ax (gI os[i].left) w (by simp[go_sem,hC,d]) (m.go w y))⟩
def RO(u:Gs (tU D (eL bd n os)::M) φ)(p:dV L (lX (kQ D n) os::RY (·≠n) D bd::M):=by repeat first|(with_reducible exact dV.refl)|((apply nL);(·repeat first|(with_reducible exact eg)|(with_reducible apply ee)))):Gs L φ:=⟨λw ⟨F,z⟩=>by
 obtain⟨B,E,⟨h1,r⟩,⟨t,F3,q,C,y,j⟩,o,G⟩:=(p.out w F).1 z;have no:∀{m x},m≠n->aK (kQ D m) x->¬aK (kQ D n) x:=λd e g=>o _ ((r _).2 g) ((j _).2 (.inl ((q.f _).2 ⟨_,d,e⟩)));refine u.go w (Ss.cons.2 ⟨λx=>B x\/t x,F3,⟨λm _=>?_,λm k x _ _=>?_,λx=>?_⟩,C,λx e g=>?_⟩)
 ·by_cases d:m=n
  ·subst d;simpa [cO]using h1
  ·rw[eJ _ _ _ d];exact q.q m d
 ·by_cases d:m=n<;>by_cases f:k=n
  ·simp[d,f]
  ·subst d;exact λh i=>(no f i h).elim
  ·subst f;exact λh i=>(no d h i).elim
  ·exact q.dj m k x d f
 ·rw[q.f,r];constructor
  ·rintro(h|⟨m,d,e⟩)
   ·exact⟨n,trivial,h⟩
   ·exact⟨m,trivial,e⟩
  ·rintro⟨m,-,e⟩;by_cases d:m=n
   ·subst d;exact .inl e
   ·exact .inr ⟨m,d,e⟩
 ·rcases e with e|e
  ·exact o x e ((j x).2 (.inr g))
  ·exact y x e g⟩
def Yv{l:List Od}{x:Od}{m:Int}(e:(l.map (·.num)).Nodup)(k:x∈l)(j:x.num=m):∃i,∃h:i<l.length,l.findIdx? (λo=>decide (o.num=m))=some i/\l[i]=x:=by
 cases d:l.findIdx? (λo=>decide (o.num=m))with
 |none=>
  rw[dC]at d;have:=d x k;rw[fj]at this;exact absurd j this
 |some i=>
  obtain⟨f,g,-⟩:=bp.1 d;rw[aX]at g;refine⟨i,f,rfl,?_⟩;have h1:=kq e (av f);have p:=kq e k;rw[g,<-j,p]at h1;exact(cS h1).symm
set_option maxHeartbeats 4000000 in
def N6{k:Ct}{d price:Int}{long:Bool}{p pk pa:Nat}{t:Option Addr×Nat}{f lf:Int}{tr:List Td}{sf:Vt_}{r:List Fl}(hv:oB A D S.cal.l S.bk)(hok:S.Ok)(hal:bt S.cal.l k.spec.num=0)(hn:kV k.spec.num)
  (hl0:0<=d/\d<=10000000)(hFl:r.length<=50)(hFn:(r.map (·.num)).Nodup)(hFb:∀f∈r,1<=f.qty/\∃b∈S.bd k.spec.num,b.num=f.num/\f.qty<=b.left)
  (hb:((0<=lf/\lf<=100000000000)/\0<=f/\f<=100000000000)/\tr.length<=5000)
  (hK:∀t' D' e f' G Q T,Fa k a long price d r (qn f lf tr) S=(e,qn f' G Q,T)->oB A D' T.cal.l T.bk->((0<=G/\G<=lf+640000000)/\0<=f' /\f' <=f+50000000)/\Q.length<=tr.length+114->Gs (Mw p t' f' G Q (vs v c l mb md A D' T L)) (K (gI e)))
  (pk_:dV L0 (ZN sf r::Mw p t f lf tr (pt pk (dD k) kP::pt pa [.int .u32 a] 45::vs v c l mb md A D S L)):=by repeat first|(with_reducible exact dV.refl)|((apply nL);(·repeat first|(with_reducible exact eg)|(with_reducible apply ee)))):
  Gs L0 (Lw (RA (gI (r.length:Int)) sf (bO pk 0) (bO pa 0) (dL v) (.bool long) (gI price) K (bO p 0) (gU k.spec.num)) (gI 0,gI d,gI 0,())):=by
 refine Gs.pk ?_ pk_
 refine Gs.l (λx:ae2=>(gI 0,gI x.left,gI x.i,())) (λx=>r.length - x.i) (λx=>ZN sf r::Mw p x.t x.f lf x.tr (pt pk (dD k) kP::pt pa [.int .u32 a] 45::vs v c l mb md A x.D x.S L))
  (λx=>x.i<=r.length/\nr k.spec.num a long price (r.drop x.i) x.left (qn x.f lf x.tr) x.S=nr k.spec.num a long price r d (qn f lf tr) S/\oB A x.D S.cal.l x.S.bk/\x.S.Ok/\x.S.cal=S.cal/\(∀f∈r.drop x.i,∃b∈x.S.bd k.spec.num,b.num=f.num/\f.qty<=b.left)/\(d - 1000000*x.i<=x.left/\x.left<=d)/\(0<=x.f/\x.f<=f+1000000*x.i)/\x.tr.length<=tr.length+x.i)
  ⟨0,t,D,d,f,tr,S⟩ rfl ⟨aJ _,rfl,hv,hok,rfl,λf hf=>(hFb f hf).2,by dsimp only;omega,by dsimp only;omega,by dsimp only;omega⟩ ?_ .refl
 rintro⟨j,t,D,left,f1,q,m⟩ ⟨h1,C,h3,R,h5,h6,h7,h8,h9⟩ KN hKN
 skip;unfold dL
 dsimp only at h1 C h3 R h5 h6 h7 h8 h9 hKN|-
 have hal1:bt m.cal.l k.spec.num=0:=by rw[h5];exact hal
 refine Gs.z (au ?_);refine Gs.I (λh=>?_) λh=>?_
 ·have U:j<r.length:=qZ;have hdrop:=(ce U).symm;have hfb:=(hFb _ (av U)).1;have V:=hFn.sublist ((List.drop_sublist j r).map (·.num));rw[hdrop]at C h6 V;obtain⟨u,hb0,O,hb0q⟩:=h6 _ ai;refine Gs.it (f:=Ky) ZL nFl (λ_=>rfl) XW (λw y=>mO (by repeat first|(with_reducible exact eg)|(with_reducible apply ee)) w y) rfl U ?_;generalize r[j]=x at hfb C h6 V O hb0q|-;rw[aD,bY]at V;have hb0l:=ir (R.ord.bdMay _ u hb0);rw[FM]at C;refine au ?_;intro r1;refine au ?_;refine Gs.X (λw z=>ky (by repeat first|(with_reducible exact eg)|(with_reducible apply ee)) Hk tM (bV _) w z) ?_;refine au ?_;refine EW (S:=m) hn ?_;have E:({m with led:=(lO m.led k.spec.num a x.acct long price x.qty).2}:bo).Ok:=DM R hal1;generalize lO m.led k.spec.num a x.acct long price x.qty=Y at C E|-;obtain⟨e,Y⟩:=Y
  dsimp only at C E|-
  refine au ?_;refine Gs.Ib (λhe=>?_) λhe=>?_
  ·rw[ae (by simpa using he)]at C;refine(hK t D e f1 lf q {m with led:=Y} ?_ (by rw[h5];exact h3) ⟨⟨qZ,qZ,qZ⟩,qZ⟩).fin;unfold Fa;rw[<-C]
   dsimp only
   rw[ae (by simpa using he)]
  rw[aa (by simpa using he)]at C;refine au ?_;refine Gs.lit1 FK Ye (cs:=Di ⟨price,x.qty,x.num,x.acct⟩) rfl rfl qZ λb=>?_;refine au ?_;refine Gs.snd (l:=q) (x:=(⟨price,x.qty,x.num,x.acct⟩:Td)) (f:=Di) FK Ye rfl qZ (λz1 z2=>?_);refine au ?_;refine Gs.look (enc:=eQ) (ev:=xk) (D:=D) (x:=k.spec.num) dQ qD kM Ag ?_ (by repeat first|(with_reducible exact eg)|(with_reducible apply ee));rw[Lo];obtain⟨i,W,hix,hib⟩:=Yv (R.ord.bdNd k.spec.num) hb0 O;have hbl:=R.ord.bdl k.spec.num;refine GT (os:=m.bd k.spec.num) (f:=λo=>decide (o.num=x.num)) (pD k.spec.num) (λw y=>Wu (tG (by repeat first|(with_reducible exact eg)|(with_reducible apply ee)) y) _) qZ ?_;rw[show qI (m.bd k.spec.num) (λo=>decide (o.num=x.num))=(i:Int) by unfold qI;rw[hix]]
  have F:kz (m.bd k.spec.num) x.num x.qty=if u.left - x.qty=0 then(m.bd k.spec.num).eraseIdx i else(m.bd k.spec.num).set i {u with left:=u.left - x.qty}:=by
   unfold kz;rw[hix]
   dsimp only
   rw[show(m.bd k.spec.num).getD i nZ=u by rw[<-hib];simp[W]]
  have hqb:∀o∈m.bd k.spec.num,o.num=x.num->x.qty<=o.left:=λo ho he=>by
   have h1:=kq (R.ord.bdNd k.spec.num) ho;have C:=kq (R.ord.bdNd k.spec.num) hb0;rw[he,<-O,C]at h1;rw[<-cS h1];exact hb0q
  have Z:=bo.Ok.setBd E (Aj (l:=m.bd k.spec.num) (λo ho=>R.ord.bdMay _ o ho) hfb hqb).1
  have I:∀g∈r.drop (j+1),∃b∈eL m.bd k.spec.num (kz (m.bd k.spec.num) x.num x.qty) k.spec.num,b.num=g.num/\g.qty<=b.left:=λg hg=>by
   obtain⟨b,hb1,hb2,hb3⟩:=h6 g (af _ hg);refine⟨b,?_,hb2,hb3⟩;rw[cO];refine Df hb1 λe=>V.1 (by rw[<-e,hb2];exact aR hg)
  have N:=λD' hv' =>hKN ⟨j+1,(z1,z2),D',left - x.qty,f1+x.qty,q++[⟨price,x.qty,x.num,x.acct⟩],{m with led:=Y,bd:=eL m.bd k.spec.num (kz (m.bd k.spec.num) x.num x.qty)}⟩
   ⟨U,C,hv',Z,h5,I,by dsimp only;omega,by dsimp only;omega,by dsimp only;rw[ag];simp only[be,List.length_nil];omega⟩ (by dsimp only;omega)
  have hsm:=pI hal1;rw[h5]at hsm
  dsimp only at N
  generalize kz (m.bd k.spec.num) x.num x.qty=B at F N;generalize q++[(⟨price,x.qty,x.num,x.acct⟩:Td)]=tr2 at N|-;clear I Z hKN E C hqb
  dsimp only
  refine au ?_;refine Gs.WX KO ?_;refine wI (n:=k.spec.num) ?_;refine Gs.itL (os:=m.bd k.spec.num) (λw y=>mO (by repeat first|(with_reducible exact eg)|(with_reducible apply ee)) w y) rfl W ?_;rw[hib];refine au ?_;refine Gs.itW (os:=m.bd k.spec.num) W ?_;rw[hib];have H:i<((m.bd k.spec.num).set i {u with left:=u.left - x.qty}).length:=by rw[bK];exact W
  have hi2:((m.bd k.spec.num).set i {u with left:=u.left - x.qty})[i]={u with left:=u.left - x.qty}:=by simp
  have hl2:((m.bd k.spec.num).set i {u with left:=u.left - x.qty}).length<=50:=by rw[bK];exact hbl
  have he2:((m.bd k.spec.num).set i {u with left:=u.left - x.qty}).eraseIdx i=(m.bd k.spec.num).eraseIdx i:=List.eraseIdx_set_eq;generalize(m.bd k.spec.num).set i {u with left:=u.left - x.qty}=B2 at F H hi2 hl2 he2|-;refine au ?_;refine Gs.look (enc:=eQ) (ev:=xk) (D:=D) (x:=k.spec.num) dQ qD kM Ag ?_ (by repeat first|(with_reducible exact eg)|(with_reducible apply ee));rw[Lo];refine Gs.itLV (os:=B2) (λw y=>mO (by repeat first|(with_reducible exact eg)|(with_reducible apply ee)) w y) rfl H ?_;rw[hi2]
  dsimp only
  refine au ?_;refine Gs.Ib (λhz=>?_) λhz=>?_
  ·rw[ae (by simpa using hz)]at F;refine au ?_;refine Gs.WX KO ?_;refine au ?_;rw[show(i:Int)+1=((i+1:Nat):Int) by omega];refine BW (os:=B2) (mU i) H qZ (λs' =>?_);rw[GY,he2,<-F];refine au ?_;refine Gs.mup (enc:=eQ) (ev:=xk) (x:=k.spec.num) (v:=s') qD kM ?_ (by repeat first|(with_reducible exact eg)|(with_reducible apply ee));refine A6 (n:=k.spec.num) ?_;refine au ?_;exact(N _ (h3.put (s:=s') hsm)).fin
  ·rw[aa (by simpa using hz)]at F;rw[<-F];refine RO (n:=k.spec.num) ?_;refine au ?_;exact(N D h3).fin
 ·obtain rfl:j=r.length:=qZ;rw[ck (az _)]at C
  have P:Fa k a long price d r (qn f lf tr) S=if left=0 then(0,qn f1 lf q,m)else
    if(jR (if long then left else -left) (tC a (m.led.holders k.spec.num))).2≠0 then((jR (if long then left else -left) (tC a (m.led.holders k.spec.num))).2,qn f1 lf q,m)else mV k.spec.num a long k.price (jR (if long then left else -left) (tC a (m.led.holders k.spec.num))).1 (qn f1 lf q) m:=by
   unfold Fa;rw[<-C];rfl
  refine au ?_;refine Gs.Ib (λh=>?_) λh=>?_
  ·rw[ae (by simpa using h)]at P;exact(hK t D 0 f1 lf q m P (by rw[h5];exact h3) ⟨⟨qZ,qZ,qZ⟩,qZ⟩).fin
  rw[aa (by simpa using h)]at P;refine Gs.j1 (gI (if long then left else -left),()) (λJ hJ=>?_) ?_
  ·cases long
   all_goals
    refine au ?_;exact hJ
  have hheld:m.led.held.length<4294967295:=by have:=sw R.cal R.led;omega
  refine Oi (t:=t) (f:=f1) (lf:=lf) (tr:=q) (S:=m) hheld hn (by constructor<;>split<;>omega) ⟨qZ,qZ⟩ (λt' e G Q X he w1 w2=>?_);rw[he]at P;exact(hK t' D e f1 G Q _ P (by rw[h5];exact h3) ⟨⟨qZ,qZ,qZ⟩,qZ⟩).fin
end
end Go.Proofs
set_option maxRecDepth 100000
set_option maxHeartbeats 1000000
namespace Go.Proofs
open Go Go.Vc
attribute [local congr] aZ
def E7{L:bE}(h:L.Ok)(c a:Int): -10000000<=(L.position c a).q/\(L.position c a).q<=10000000:=by
 unfold bE.position;cases d:L.pos? (c,a)with
 |none=>exact⟨by grind,by grind⟩
 |some p=>
  have b:=dz d;have:=h.pos p b;have e:MP=10000000:=rfl;exact⟨by grind,by grind⟩
section
variable{w:Wt_}{K:aY}{v c l mb md:Nat}{A:List (Int×Nat)}{D:List (Int×Value)}{fp:Pt->Nat->Prop}{S:bo}
end
end Go.Proofs
set_option maxRecDepth 100000
set_option maxHeartbeats 1000000
namespace Go.Proofs
open Go Go.Vc
structure LqI where
 t:Option Addr×Nat
 D:List (Int×Value)
 e:Int
 f:Int
 lf:Int
 tr:List Td
 S:bo
def HT(a:Int)(k:Ct)(l:List Ct)(r:Rp)(S:bo):pf a (k::l) r S=if(S.led.position k.spec.num a).q=0 then pf a l r S else if(S.sell k a (S.led.position k.spec.num a).q r).1≠0 then S.sell k a (S.led.position k.spec.num a).q r else pf a l (S.sell k a (S.led.position k.spec.num a).q r).2.1 (S.sell k a (S.led.position k.spec.num a).q r).2.2:=rfl
section
variable{L L0 M:List As}{φ:WP}{K:Value->WP}{k0:WP}{v c l mb md b mw:Nat}{A:List (Int×Nat)}{D:List (Int×Value)}{S:bo}{n a:Int}{X:bE}{bd:Int->List Od}{s:Vt_}{os:List Od}
def MJ{sells:Bool}{qty:Int}(i:os.length<=1000000)(g:∀o∈os,o.Fit)(f:eP qty)(e:∀y,Gs (ZN (ej y (iJ sells qty os).2.1.length) (iJ sells qty os).2.1::L) (K (.tuple #[.int .i64 (iJ sells qty os).1,ej y (iJ sells qty os).2.1.length,gI (iJ sells qty os).2.2])))(p:dV L (lX s os::M):=by repeat first|(with_reducible exact eg)|(with_reducible apply ee)):
  Gs L (Cw pQ 275 #[.bool sells,gI qty,s] K):=
 Gs.nw (φ:=λk=>Cw pQ _ _ k) (val:=λy:Option Addr×Nat=>.tuple #[.int .i64 (iJ sells qty os).1,ej y (iJ sells qty os).2.1.length,gI (iJ sells qty os).2.2]) (p:=λ_=>True) (B:=λy=>ZN (ej y (iJ sells qty os).2.1.length) (iJ sells qty os).2.1) (λw y K h=>Qj (mO p w y) i g f λj d o m nn=>by
  obtain⟨x,y,rfl,-⟩:=o.isSl;exact h (x,y) d (aK _) trivial ⟨o,λ_=>aG⟩ m nn) (λy _=>e y)
set_option maxHeartbeats 4000000 in
def Pi{k:Ct}{q:Int}{p:Nat}{t:Option Addr×Nat}{f lf:Int}{tr:List Td}(hv:oB A D S.cal.l S.bk)(w:S.Ok)(U:bt S.cal.l k.spec.num=0)(hq: -10000000<=q/\q<=10000000)
  (J:((0<=lf/\lf<=100000000000)/\0<=f/\f<=100000000000)/\tr.length<=5000)
  (hK:∀Y W e F u z T,S.sell k a q (qn f lf tr)=(e,qn F u z,T)->oB A W T.cal.l T.bk->((0<=u/\u<=lf+640000000)/\0<=F/\F<=f+50000000)/\z.length<=tr.length+114->Gs (Mw p Y F u z (vs v c l mb md A W T L)) (K (gI e)))
  (pk_:dV L0 (Mw p t f lf tr (vs v c l mb md A D S L)):=by repeat first|(with_reducible exact dV.refl)|((apply nL);(·repeat first|(with_reducible exact eg)|(with_reducible apply ee)))):Gs L0 (Cw pQ 223 #[dL v,.agg (dD k).toArray,gU a,gI q,.pointer (some ⟨p,0,none⟩)] K):=by
 refine Gs.pk ?_ pk_;refine sN Tryz.func223 ?_;unfold dL;have hbl:=w.ord.bdl k.spec.num;have hn:kV k.spec.num:=mE w.cal U;have Q:0<=max q (-q)/\max q (-q)<=10000000:=qZ;have d:=Th S k a q (qn f lf tr);refine au ?_;intro pk;refine au ?_;intro pa;refine au ?_;generalize decide (0<q)=i at d|-;generalize max q (-q)=qty at Q d|-;refine Gs.look (enc:=eQ) (ev:=xk) (D:=D) (x:=k.spec.num) dQ qD kM Ag ?_ (by repeat first|(with_reducible exact eg)|(with_reducible apply ee));rw[Lo];refine Gs.len gX (pD k.spec.num) ?_;refine Gs.nil ji 5 ?_;obtain⟨g,G⟩:=df (λl=>l.filter λo=>o.buy==i:List Od->List Od);have O:g []=[]:=by rw[G];rfl
 have P:∀l,(g l).length<=l.length:=λl=>by rw[G];exact bi _ _
 refine Gs.l (λx:Nat×Option Addr×Nat=>(ej x.2 (g ((S.bd k.spec.num).take x.1)).length,gI x.1,())) (λx=>(S.bd k.spec.num).length - x.1) (λx=>lX (ej x.2 (g ((S.bd k.spec.num).take x.1)).length) (g ((S.bd k.spec.num).take x.1))::pt pa [.int .u32 a] 45::pt pk (dD k) kP::Mw p t f lf tr (vs v c l mb md A D S L)) (λx=>x.1<=(S.bd k.spec.num).length) (0,none,0) (by rw[dR,O];rfl) (aJ _) ?_ (by rw[dR,O];exact .refl);rintro⟨j,x⟩ hj KN N
 dsimp only at hj N|-
 refine Gs.z (au ?_);refine Gs.I (λh=>?_) λh=>?_
 ·have H:j<(S.bd k.spec.num).length:=qZ
  have Z:g ((S.bd k.spec.num).take (j+1))=g ((S.bd k.spec.num).take j)++if(S.bd k.spec.num)[j].buy==i then [(S.bd k.spec.num)[j]]else []:=by
   rw[cq H,G]
   dsimp only
   rw[cw,List.filter_cons,eG]
  have m:=λy=>N (j+1,y) (by dsimp only;omega) (by dsimp only;omega);have r:=P ((S.bd k.spec.num).take j);rw[aB]at r
  dsimp only at m
  rw[Z]at m;refine Gs.it gX OB dP Qv (pD k.spec.num) rfl H ?_;generalize(S.bd k.spec.num)[j]=o at m|-;generalize g ((S.bd k.spec.num).take j)=I at r m|-;refine au ?_;intro r1;refine au ?_;refine Gs.Ib (λJ=>?_) λJ=>?_
  ·rw[ae J]at m;refine au ?_;refine Gs.push (x:=o) (f:=dx) (l:=I) gX Ln dP (lQ o) rfl qZ qZ (λz1 z2=>?_) (by repeat first|(with_reducible exact eg)|(with_reducible apply ee));refine au ?_;exact(m (z1,z2)).fin
  ·rw[aa (by rw[J];decide),bg]at m;refine au ?_;exact(m x).fin
 obtain rfl:j=(S.bd k.spec.num).length:=qZ;rw[aV];have B:∀o∈g (S.bd k.spec.num),o∈S.bd k.spec.num:=λo E=>by rw[G]at E;exact(aT.1 E).1
 have R:((g (S.bd k.spec.num)).map (·.num)).Nodup:=(w.ord.bdNd k.spec.num).sublist (by rw[G];exact ew.map _);have r:=P (S.bd k.spec.num);rw[show((S.bd k.spec.num).filter λo=>o.buy==i)=g (S.bd k.spec.num) by rw[G]]at d;generalize g (S.bd k.spec.num)=I at B R r d|-;refine au ?_;refine MJ (os:=I) qZ (λo E=>(w.ord.std _ o (iW (B o E))).fit) (by constructor<;>omega) (λy=>?_);obtain⟨V,f2,-⟩:=A9 (sells:=i) (qty:=qty) (l:=I) (λo E=>w.ord.bdMay _ o (B o E)) qZ;have C:=QN i qty I;generalize iJ i qty I=X at d V f2 C|-;obtain⟨pr,Fs,e⟩:=X
 dsimp only at d V f2 C|-
 refine au ?_;refine Gs.Ib (λhe=>?_) λhe=>?_
 ·rw[ae (by simpa using he)]at d;exact(hK t D e f lf tr S d hv ⟨⟨qZ,qZ,qZ⟩,qZ⟩).fin
 rw[aa (by simpa using he)]at d;refine au ?_;refine N6 (S:=S) (t:=t) (f:=f) (lf:=lf) (tr:=tr) hv w U hn Q C (f2 R) (λx hx=>⟨(V x hx).1,?_⟩) J (λY W e' F u z T h1 h2 h3=>?_)
 ·obtain⟨b,hb1,hb2,-,hb3⟩:=(V x hx).2;exact⟨b,B b hb1,hb2,hb3⟩
 ·rw[h1]at d;exact(hK Y W e' F u z T d h2 h3).fin
set_option maxHeartbeats 4000000 in
def BG{ac:Ac}(hv:oB A D S.cal.l S.bk)(J:S.Ok)(C:QE v c l mb md A (S.liquidate ac) L K)(pk:dV L0 (vs v c l mb md A D S L):=by repeat first|(with_reducible exact dV.refl)|((apply nL);(·repeat first|(with_reducible exact eg)|(with_reducible apply ee)))):Gs L0 (Cw pQ 146 #[dL v,kx ac] K):=by
 refine Gs.pk ?_ pk;refine sN Tryz.func146 ?_;unfold dL;have g:S.liquidate ac=if ac.dfl=false then(162,jw,S)else pf ac.num S.cal.l jw S:=rfl
 refine au ?_;intro p0;refine au ?_;intro p2;refine au ?_;intro U;refine au ?_;intro V;refine au ?_;refine Gs.Ib (λh=>?_) λh=>?_
 ·rw[ae (by simpa using h)]at g;refine au ?_;exact C.fail g (D:=D) hv
 rw[aa (by simpa using h)]at g;refine au ?_;refine Gs.tdn (zp (λgv=>?_));have hcl:=J.cal.len
 refine Gg.rf (L:=L) (λ_ _ _ _=>rfl) (Ko _) (I:=λi (b:LqI) M=>Um V 0::pt p2 (Xq ac) 100::Xu p0 v::Mw U b.t b.f b.lf b.tr (vs v c l mb md A b.D b.S M)) (E:=λ(b:LqI) M=>Um V b.e::Mw U b.t b.f b.lf b.tr (vs v c l mb md A b.D b.S M)) (λ_ _ _=>rfl) (λ_ _=>rfl)
  (λi b=>pf ac.num (S.cal.l.drop i) (qn b.f b.lf b.tr) b.S=S.liquidate ac/\oB A b.D S.cal.l b.S.bk/\b.S.Ok/\b.S.cal=S.cal/\((0<=b.lf/\b.lf<=640000000*i)/\0<=b.f/\b.f<=50000000*i)/\b.tr.length<=114*i) (λcd b=>cd=.ret/\S.liquidate ac=(b.e,qn b.f b.lf b.tr,b.S)/\oB A b.D S.cal.l b.S.bk/\b.S.cal=S.cal/\b.tr.length<=10000) ⟨(none,0),D,0,0,0,[],S⟩ ⟨g.symm,hv,J,rfl,by dsimp only;omega,aJ _⟩ ?_ ?_ ?_ ?_
 ·rintro i hi ⟨t,B,Z,f,lf,tr,x⟩ ⟨h1,o,u,j,P,Y⟩ l1 r1 q1 M kn kj p H
  dsimp only at h1 o u j P Y p H|-
  rw[<-ce hi,HT]at h1;generalize S.cal.l[i]=k at h1|-;refine au ?_;refine rJ ?_;have y:=E7 u.led.led k.spec.num ac.num;have m:=λh:(x.led.position k.spec.num ac.num).q≠0=>CZ u h;generalize x.led.position k.spec.num ac.num=Q at h1 y m|-;refine au ?_;refine Gs.Ib (λO=>?_) λO=>?_
  ·rw[aa (by simpa using O)]at h1;have m:=m (by simpa using O);refine au ?_;refine Gs.X (λw z=>ky (by repeat first|(with_reducible exact eg)|(with_reducible apply ee)) Hk tM (bV _) w z) ?_;refine au ?_;refine Pi (S:=x) (t:=t) (f:=f) (lf:=lf) (tr:=tr) (by rw[j];exact o) u m y ⟨⟨qZ,qZ,qZ⟩,qZ⟩ (λt' D' e f' F N T k1 k2 k3=>?_);obtain⟨W,G,-⟩:=J9 u (a:=ac.num) (q:=Q.q) (r:=qn f lf tr) m;rw[k1]at h1 W G
   dsimp only at h1 W G
   rw[G,j]at k2;refine au ?_;refine Gs.Ib (λR=>?_) λR=>?_
   ·rw[ae (by simpa using R)]at h1;refine au ?_;exact(H .ret ⟨t',D',e,f',F,N,T⟩ _ ⟨rfl,h1.symm,k2,G.trans j,by dsimp only;omega⟩).fin
   ·rw[aa (by simpa using R)]at h1;obtain rfl:e=0:=by simpa using R
    exact(p ⟨t',D',0,f',F,N,T⟩ _ ⟨h1,k2,W,G.trans j,by dsimp only;push_cast;omega,by dsimp only;omega⟩).fin
  ·rw[ae (by simpa using O)]at h1;exact(p ⟨t,B,Z,f,lf,tr,x⟩ _ ⟨h1,o,u,j,by dsimp only;push_cast;omega,by dsimp only;omega⟩).fin
 ·rintro⟨t,B,Z,f,lf,tr,x⟩ d ⟨h1,o,u,j,P,Y⟩
  dsimp only at h1 o j Y|-
  rw[gi]at h1;rw[<-h1]at C;refine Gs.ak (au ?_);refine Gs.tw ?_;refine au ?_;refine Gs.idn (Gs.uin ?_);have:=C t (none,0) (none,0) B (by dsimp only[pf];rw[j];exact o) ⟨by dsimp only[pf];omega,aJ _,aJ _⟩
  dsimp only[pf,List.length_nil]at this
  exact this.fin
 ·rintro cd ⟨t,B,Z,f,lf,tr,x⟩ d ⟨rfl,h1,o,j,P⟩
  dsimp only at h1 o j P|-
  rw[h1]at C;refine Gs.akr ?_;refine Gs.tw ?_;refine au ?_;refine Gs.idn (Gs.uin ?_);have:=C t (none,0) (none,0) B (by dsimp only;rw[j];exact o) ⟨by dsimp only;omega,aJ _,aJ _⟩
  dsimp only[List.length_nil]at this
  exact this.fin
 ·show dV _ (Um V 0::pt p2 (Xq ac) 100::Xu p0 v::pt U Nl qL::Ak (ej (none,0) 0) []::vs v c l mb md A D S L);exact(by repeat first|(with_reducible exact dV.refl)|((apply nL);(·repeat first|(with_reducible exact eg)|(with_reducible apply ee))))
end
end Go.Proofs
