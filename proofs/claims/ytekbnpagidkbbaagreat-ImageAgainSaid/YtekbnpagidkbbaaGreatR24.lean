/- Part of a proof. -/
import Derived.Test.YtekbnpagidkbbaaGreatR21
import Derived.Test.YtekbnpagidkbbaaGreatR23
set_option linter.all false
set_option maxRecDepth 100000
set_option maxHeartbeats 4000000
namespace Go.Proofs
open Go Go.Vc
abbrev V0(p:Nat)(e:Int):As:=pt p [.int .i64 e] 29
abbrev YQ(p v:Nat):As:=pt p [.pointer (some ⟨v,0,none⟩)] 24
section
variable{L L0 M:List As}{φ:WP}{K:Value->WP}{k0:WP}{v c l mb md b mw:Nat}{A:List (Int×Nat)}{D:List (Int×Value)}{S:bt}{n a:Int}{X:bJ}{won:Int->Int}
def Gs.mkW(d:∀mw,Gs (uG mw jN::L) (K (.map (some mw)))):Gs L (Vw pQ (Instr.makeMap 309 none) K):=⟨λw y=>by
 refine bo (A2 _) ((d _).go _ (y.new ((aR.refl _ w).alloc _) (F' :=λx=>x=w.heap.size) ⟨⟨[],eM.new w,λ_=>rfl⟩,λ_=>aG⟩ λx e=>qZ))⟩
def Hs{s:Vt_}{l:List Int}(f:l.length<=100000)(d:Gs L (K (.bool (l.contains a))))(p:eG L (Ab s l::M):=by exact fR):Gs L (Cw pQ 208 #[s,gU a] K):=⟨λw y=>E6 (nG p w y) f λe m=>d.go e (y.md0 m)⟩
def JV(accts:List Int)(a:Ac)(l:List Ac)(e:Int)(L:bJ):qK accts (a::l) e L=if a.dfl=true/\(L.ofA a.num).isEmpty=true/\accts.contains a.num=false then qK accts l (L.set {a with dfl:=false}).1 (L.set {a with dfl:=false}).2 else qK accts l e L:=by rw[qK]
def Kk(k:Ct)(l:List Ct)(L:bJ)(won:Int->Int)(h:¬k.st=3):jK (k::l) L won=if(L.mark k.spec.num k.price false).1≠0 then((L.mark k.spec.num k.price false).1,(L.mark k.spec.num k.price false).2.2,iy won (L.mark k.spec.num k.price false).2.1)else jK l (L.mark k.spec.num k.price false).2.2 (iy won (L.mark k.spec.num k.price false).2.1):=by rw[jK,aa h]
def IQ(hv:pI A D S.cal.l S.bk)(W:S.Ok)(hK:Sg v c l mb md A S.settle L K)(pk:eG L0 (vs v c l mb md A D S L):=by exact iP):Gs L0 (Cw pQ 137 #[ec v] K):=by
 refine Gs.pk ?_ pk;refine sN Tryz.func137 ?_;unfold ec;obtain⟨C,hC⟩:=di (fa S.cal);obtain⟨N,hM⟩:∃m,m=jK C.2.l S.led jN:=⟨_,rfl⟩
 obtain⟨P,hP⟩:=di (({S with cal:=C.2,led:=N.2.1}:bt).pay N.2.2)
 have f:S.settle=if C.1≠0 then(C.1,kI,{S with cal:=C.2})else if N.1≠0 then(N.1,kI,{S with cal:=C.2,led:=N.2.1})else
   if P.1≠0 then P else((qK P.2.1.accts P.2.2.led.all 0 P.2.2.led).1,P.2.1,{P.2.2 with led:=(qK P.2.1.accts P.2.2.led.all 0 P.2.2.led).2}):=by rw[hP,hM,hC];rfl
 have o:=W.day;have B:=xx W;have hCl:=JS S.cal;have G:=hv;rw[<-hCl]at G;refine au ?_;intro p0;refine au ?_;intro q;refine au ?_;intro p4;refine au ?_;refine S3 ?_;rw[<-hC]at o B hCl G|-;rw[<-hM]at B;obtain⟨e,C⟩:=C
 dsimp only at f hM hP o B hCl G|-
 refine au ?_;refine Gs.Ib (λt=>?_) λt=>?_
 ·rw[ae (by simpa using t)]at f;refine au ?_;exact hK.fail f (D:=D) G
 rw[aa (by simpa using t)]at f;obtain rfl:e=0:=by simpa using t
 refine Gs.mkW (λmw=>?_);refine au ?_;intro p8;refine au ?_;refine AC (C:=C) (λgv=>?_);have hcl:C.l.length<=16:=o.cal.len;refine Gg.rf (L:=L) (λ_ _ _ _=>rfl) (L1 _) (I:=λi (b:bJ×(Int->Int)) M=>V0 p4 0::pt q OS vg::pt p8 [.map (some mw)] 309::YQ p0 v::uG mw b.2::vs v c l mb md A D {S with cal:=C,led:=b.1} M) (E:=λ(_:Unit) M=>V0 p4 N.1::pt q OS vg::vs v c l mb md A D {S with cal:=C,led:=N.2.1} M) (λ_ _ _=>rfl) (λ_ _=>rfl) (λi b=>jK (C.l.drop i) b.1 b.2=N/\I3 C b.1/\WR (1100000000000000*64*i) b.2) (λcd _=>cd=.ret/\N.1≠0) (S.led,jN) ⟨hM.symm,o.led,λn=>by show _<=(0:Int)/\(0:Int)<=_;omega⟩ ?_ ?_ ?_ iP
 ·rintro i hi ⟨X,won⟩ ⟨h1,F,U⟩ l1 r1 q1 M kn kj p hkj
  dsimp only at h1 F U p|-
  rw[<-ci hi]at h1;generalize C.l[i]=k at h1|-;refine au ?_;refine Gs.Ib (λhs=>?_) λhs=>?_
  ·have O:¬k.st=3:=by simpa using hs
   rw[Kk k _ _ _ O]at h1;have Q:=Ng (L:=X) (won:=won) k;rw[aa O]at Q
   have H:I3 C (X.mark k.spec.num k.price false).2.2:=by
    have:=(ve o.cal [k] X won F).1;rw[Q]at this;exact this
   obtain⟨hvl,hvb⟩:=yM F.led k.spec.num k.price false;refine au ?_;refine Gs.X (λw z=>iH fR CP sI (bM _) w z) ?_;refine au ?_;refine Gz (S:={S with cal:=C,led:=X}) (by have:=tJ o.cal F;show X.held.length<_;omega) U qZ ?_
   have hwb:WR (1100000000000000*64*((i+1:Nat):Int)) (iy won (X.mark k.spec.num k.price false).2.1):=λn=>by
    have:=zh (V:=1100000000000000) qZ _ U (λx hx=>(hvb x hx).1) n
    push_cast
    omega
   generalize X.mark k.spec.num k.price false=Y at h1 H hwb|-;obtain⟨e,V,Y⟩:=Y
   dsimp only at h1 H hwb|-
   refine au ?_;refine Gs.Ib (λt=>?_) λt=>?_
   ·rw[ae (by simpa using t)]at h1;subst h1;refine au ?_;exact(hkj .ret () _ ⟨rfl,by simpa using t⟩).fin
   ·obtain rfl:e=0:=by simpa using t
    rw[aa (by simp)]at h1;exact(p (Y,iy won V) _ ⟨h1,H,hwb⟩).fin
  ·have O:k.st=3:=by simpa using hs
   rw[jK,ae O]at h1;exact(p (X,won) _ ⟨h1,F,λn=>by have:=U n;push_cast;omega⟩).fin
 ·rintro⟨X,won⟩ d ⟨h1,F,U⟩
  dsimp only at h1 F U|-
  rw[eE]at h1;subst h1;have hw64:∀n,ed (won n):=λn=>by have:=U n;constructor<;>omega
  rw[aa (by simp[jK])]at f
  dsimp only[jK]at f hP B
  refine Gs.ak (au ?_);refine LM (S:={S with cal:=C,led:=X}) G o.cal (λn=>W.ord.bdl n) hw64 (λg u D' w1 w2 w3 w4 w5=>?_);have s:=λh=>(I5 B.led B.ord (won:=won) h).1;rw[<-hP]at w1 w2 w3 w4 w5 s|-;obtain⟨e,r,T⟩:=P;obtain⟨r1,r2,r3,r4,r5,R,y⟩:=r
  dsimp only at w1 w2 w3 w4 w5 s f|-
  subst w5;refine au ?_;refine Gs.Ib (λt=>?_) λt=>?_
  ·rw[ae (by simpa using t)]at f;rw[f]at hK;refine au ?_;refine Gs.tw ?_;refine au ?_;refine Gs.tdn ?_;have:=hK (none,0) g u D' (by dsimp only;rw[w2];exact w1) ⟨aH _,by dsimp only;omega,by dsimp only;omega⟩
   dsimp only[List.length_nil]at this
   exact this.fin
  obtain rfl:e=0:=by simpa using t
  rw[aa (by simp)]at f;have s:=s rfl;have Z:T.led.held.length<4294967295:=by have:=tJ (by rw[s.cal];exact o.cal) s.led;omega
  refine au ?_;refine zv (λgv2=>?_);refine Gg.rf (L:=tL (ez g R.length) R::OY d::uG mw won::pt p8 [.map (some mw)] 309::L) (λ_ _ _ _=>rfl) (S8 oH.ac) (I:=λi (b:Int×bJ) M=>V0 p4 b.1::pt q (CK r1 r2 r3 r4 (.slice none 0 0) (ez g R.length) (ez u y.length)) vg::YQ p0 v::Ab (ez u y.length) y::vs v c l mb md A D' {T with led:=b.2} M) (E:=λ(_:Unit) M=>M) (λ_ _ _=>rfl) (λ_ _=>rfl) (λi b=>qK y (T.led.all.drop i) b.1 b.2=qK y T.led.all 0 T.led/\b.2.held=T.led.held) (λ_ _=>False) (0,T.led) ⟨rfl,rfl⟩ ?_ ?_ (λ_ _ _ (h:False)=>h.elim) ?_
  ·rintro i hi ⟨e,X⟩ ⟨h1,F⟩ l1 r1' q1 M kn kj p -
   dsimp only at h1 F p|-
   rw[<-ci hi]at h1;have hal:=s.led.led.acc _ (aq hi);generalize T.led.all[i]=a at h1 hal|-;rw[JV]at h1;unfold cY;refine au ?_;intro pb;refine au ?_;refine TA (X:=X) (by rw[F];exact Z) (λgv3=>?_);refine Gg.r0 (L:=M) (λ_ _ _ _=>rfl) (I:=λi (h:Bool) M=>pt pb [.bool h] 4::pt q1 [.int .u32 a.num,gI a.cash,.bool a.kil,.bool a.dfl] 100::V0 p4 e::pt q (CK r1 r2 r3 r4 (.slice none 0 0) (ez g R.length) (ez u y.length)) vg::YQ p0 v::Ab (ez u y.length) y::vs v c l mb md A D' {T with led:=X} M) (λ_ _ _=>rfl) (λi h=>h=decide (0<i)) false rfl ?_ ?_ iP
   ·rintro j hj h - l2 M2 kn2 kj2 hkn2;refine au ?_;exact(hkn2 true (aW (lZ j)).symm).fin
   ·rintro h rfl;rw[show(decide (0<(X.ofA a.num).length))= !(X.ofA a.num).isEmpty by cases X.ofA a.num<;>rfl];refine Gs.ak ?_;refine Gs.j1 (.bool (decide (a.dfl=true/\(X.ofA a.num).isEmpty=true/\y.contains a.num=false)),()) (λJ hJ=>?_) ?_
    ·refine au ?_;refine Gs.Ib (λhd=>?_) λhd=>?_
     ·refine au ?_;refine Gs.Ib (λhh=>?_) λhh=>?_
      ·refine au ?_;refine Hs (l:=y) qZ ?_;refine au ?_;simpa [hd,hh]using hJ
      ·simpa [hd,hh]using hJ
     ·simpa [hd]using hJ
    refine Gs.z (Gs.I (λhc=>?_) λhc=>?_)
    ·rw[ae hc]at h1;refine au ?_;refine EF (a:={a with dfl:=false}) ⟨by show 0<=a.num;omega,hal.2.1⟩ ?_;have hs:(X.set {a with dfl:=false}).2.held=T.led.held:=by rw[pf];exact F
     generalize X.set {a with dfl:=false}=Y at h1 hs|-;refine au ?_;exact(p (Y.1,Y.2) _ ⟨h1,hs⟩).fin
    ·rw[aa hc]at h1;exact(p (e,X) _ ⟨h1,F⟩).fin
  ·rintro⟨e,X⟩ d2 ⟨h1,F⟩
   dsimp only at h1|-
   rw[eE]at h1;rw[<-h1]at f
   dsimp only[qK]at f
   rw[f]at hK;refine Gs.ak (au ?_);refine Gs.twc ?_;refine Gs.tw ?_;refine au ?_;refine Gs.tdn ?_;have:=hK (none,0) g u D' (by dsimp only;rw[w2];exact w1) ⟨aH _,by dsimp only;omega,by dsimp only;omega⟩
   dsimp only[List.length_nil]at this
   exact this.fin
  ·show eG _ (V0 p4 0::pt q (CK r1 r2 r3 r4 (.slice none 0 0) (ez g R.length) (ez u y.length)) vg::YQ p0 v::Ab (ez u y.length) y::vs v c l mb md A D' T (tL (ez g R.length) R::OY d::uG mw won::pt p8 [.map (some mw)] 309::L));exact iP
 ·rintro cd _ d ⟨rfl,t⟩;rw[ae t]at f;refine Gs.akr ?_;refine Gs.tw ?_;refine au ?_;exact hK.fail f (D:=D) G
end
end Go.Proofs
namespace Go.Proofs
open Go Go.Vc
def pI.cal{A:List (Int×Nat)}{D:List (Int×Value)}{C C' :List Ct}{bk:Int->Bk}(h:pI A D C bk)(d:∀n,(cj C' n).isSome=(cj C n).isSome):pI A D C' bk:=⟨λn=>by rw[d];exact h.dom n,λn e=>by rw[d];exact h.dod n e,h.nbk⟩
section
variable{L L0 M:List As}{φ:WP}{K:Value->WP}{k0:WP}{v c l mb md b mw:Nat}{A:List (Int×Nat)}{D:List (Int×Value)}{S:bt}{n a:Int}{X:bJ}{won:Int->Int}{bd:Int->List Od}
def Gs.mdel{P:Program}{κ ν:Type} [DecidableEq κ]{enc:κ->Value}{ev:ν->Value}{t u f e G:TypeId}{E:List (κ×ν)}{x:κ}{k:Value->WP}(q:P.underlying t=some (.map f e))(d:rB P f enc)(s:Gs (mp enc ev b (Ar E x)::M) (k (.tuple #[])))(p:eG L (mp enc ev b E::M)):Gs L (Xw P (tU #[t,u] G [.map (some b),enc x]) k):=⟨λw ⟨F,z⟩=>by
 obtain⟨C,r,h1,j,g⟩:=Ss.cons.1 (⟨F,(p.out w F).1 z⟩:Ss w (mp enc ev b E::M));refine Dt q d (.inr ⟨b,rfl,h1.1⟩) λi o m _=>s.go i (Ss.cons.2 ⟨C,r,⟨?_,h1.2⟩,j.md m λy B H=>?_,g⟩)
 ·rcases o with⟨h,-⟩|⟨I,h,o⟩
  ·cases h
  ·cases h;exact o
 ·cases H;exact g b ((h1.2 b).2 rfl) B⟩
def Hr(d:(D.map (·.1)).Nodup)(m:Int):lx (Ar D n) m=if m=n then gm else lx D m:=by
 unfold lx;rw[Pl d];by_cases h:m=n
 ·grind
 ·grind
def VJ(f:(D.map (·.1)).Nodup)(j:Gs (uI (Ar D n) (eS bd n [])::M) φ)(p:eG L (uI D bd::M):=by exact iP):Gs L φ:=⟨λw ⟨F,z⟩=>by
 obtain⟨s,i,q,g,o,-⟩:=(p.out w F).1 z
 have e:∀{m x},aF (lx (Ar D n) m) x->m≠n/\aF (lx D m) x:=λ{m x} h=>by
  rw[Hr f]at h;by_cases d:m=n
  ·rw[ae d]at h;cases h
  ·grind
 refine j.go w (Ss.cons.2 ⟨λx=>∃m,True/\aF (lx (Ar D n) m) x,i,⟨λm _=>?_,λm k x _ _ a b=>q.dj m k x trivial trivial (e a).2 (e b).2,λ_=>aG⟩,g,λx ⟨m,_,r⟩=>o x ((q.f x).2 ⟨m,trivial,(e r).2⟩)⟩);rw[Hr f];by_cases d:m=n
 ·rw[ae d,d,cQ];exact ic.nil _ _ _
 ·rw[aa d,eR _ _ _ d];exact q.q m trivial⟩
def pI.del{C:List Ct}{bk:Int->Bk}(h:pI A D C bk)(e:(D.map (·.1)).Nodup):pI A (Ar D n) C bk:=⟨h.dom,λm d=>h.dod m (by
 rw[Pl e]at d;split at d
 ·cases d
 ·exact d),h.nbk⟩
def mdN(h:(D.map (·.1)).Nodup->Gs L φ)(p:eG L (OW md D::M):=by exact fR):Gs L φ:=Gs.mpN h p
def C9{s t u:Vt_}{os:List Od}{I:List Int}{q j:Nat}{m B i y:Int}{g:Option Addr×Nat}(d:j<os.length)(T:I.length<=300000)(Q:∀w,Ss w L->Rd w 5 s os.length (os.flatMap dF))
  (h:∀z,Gs (pt q (CK m B i y t (ez z (I++[os[j].num]).length) u) vg::tL (ez z (I++[os[j].num]).length) (I++[os[j].num])::M) k0)(p:eG L (pt q (CK m B i y t (ez g I.length) u) vg::tL (ez g I.length) I::M):=by exact iP):
  Gs L (Vw pQ (iX sC s (gI (j:Int))) λJ=>Vw pQ (iL jG J) λO=>Vw pQ (iA jG true (.tuple #[])) λk=>Uw pQ (iS jG k O) <| Vw pQ (iF vg (bO q 0) 5) λP=>Vw pQ (iL 39 P) λE=>
   Vw pQ (iF jG k 0) λC=>Vw pQ (iL 37 C) λN=>Xw pQ (rg 39 1 [(0,N)]) λR=>Xw pQ (fb #[39,39] 39 [E,R]) λF=>Vw pQ (iF vg (bO q 0) 5) λe=>Uw pQ (iS 39 e F) k0):=by
 refine Gs.it ik P7 dV R3 Q rfl d ?_;refine Gs.pk ?_ p;generalize os[j]=o at h|-;refine au ?_;intro r;refine au ?_;refine Gs.push (x:=o.num) (f:=vZ) (l:=I) yf Oa (λ_=>rfl) rfl rfl qZ qZ (λH G=>?_) fR;refine au ?_;exact(h (H,G)).fin
def IV(hv:pI A D S.cal.l S.bk)(p:S.Ok)(hK:Sg v c l mb md A (S.expire n) L K)(pk:eG L0 (vs v c l mb md A D S L):=by exact iP):Gs L0 (Cw pQ 138 #[ec v,gU n] K):=by
 refine Gs.pk ?_ pk;refine sN Tryz.func138 ?_;unfold ec;obtain⟨C,hC⟩:=di (fG S.cal n);obtain⟨G,hG⟩:=di (dO S.cal.l n);obtain⟨U,hM⟩:∃m,m=S.led.mark G.1.spec.num G.1.price true:=⟨_,rfl⟩
 obtain⟨P,hP⟩:=di (({S with cal:=C.2,led:=U.2.2}:bt).pay (iy jN U.2.1))
 have d:S.expire n=if C.1≠0 then(C.1,kI,{S with cal:=C.2})else if U.1≠0 then(U.1,kI,{S with cal:=C.2,led:=U.2.2})else if P.1≠0 then P else
   (0,{P.2.1 with gone:=(P.2.1.gone++(jk (P.2.2.bk n) 0).2.map (·.num))++(P.2.2.bd n).map (·.num)},{P.2.2 with bk:=eS P.2.2.bk n (jk (P.2.2.bk n) 0).1,bd:=eS P.2.2.bd n []}):=by rw[hP,hM,hG,hC];rfl
 obtain⟨hvl,Z⟩:=yM p.led.led G.1.spec.num G.1.price true;rw[<-hM]at hvl Z;have hwb:=zh (V:=1100000000000000) qZ U.2.1 (won:=jN) (B:=0) (λn=>by show(-0:Int)<=0/\(0:Int)<=0;omega) λx hx=>(Z x hx).1;have W:∀m,ed (iy jN U.2.1 m):=λm=>by have:=hwb m;constructor<;>omega
 have hlh:S.led.held.length<4294967295:=by have:=tJ p.cal p.led;omega
 have H:C.2.Ok:=by rw[hC];exact Fu p.cal n
 have J:∀m,(cj C.2.l m).isSome=(cj S.cal.l m).isSome:=λm=>by rw[hC];exact CV n m
 have R:=hv.cal J
 have i:C.1=0->(cj S.cal.l n).isSome=true:=λh=>by
  have hdue:qU S.cal n=0:=by
   apply aQ;intro hc;rw[hC]at h;unfold fG at h;rw[ae hc]at h;exact hc h
  obtain⟨k0,hk0,-⟩:=oI (BK hdue);rw[hk0];rfl
 refine au ?_;intro q;refine au ?_;refine Az ?_;rw[<-hG];refine au ?_;refine Gs.bvar cV sI (bM _) cV (kH _) λr=>?_;refine au ?_;refine Kl ?_;rw[<-hC];obtain⟨e,C⟩:=C
 dsimp only at d hP H J R i|-
 refine au ?_;refine Gs.Ib (λE=>?_) λE=>?_
 ·rw[ae (by simpa using E)]at d;refine au ?_;exact hK.fail d (D:=D) R
 rw[aa (by simpa using E)]at d;have i:=i (by simpa using E);refine Gs.mkW (λmw=>?_);refine Gs.X (λw z=>iH (cs:=dA G.1) fR CP sI (bM _) w z) ?_;refine Gz (S:={S with cal:=C}) (B:=0) (won:=jN) hlh (λn=>by show(-0:Int)<=0/\(0:Int)<=0;omega) qZ ?_;rw[<-hM];obtain⟨e,V,Y⟩:=U
 dsimp only at d hP hvl Z hwb W|-
 refine au ?_;refine Gs.Ib (λE=>?_) λE=>?_
 ·rw[ae (by simpa using E)]at d;refine au ?_;exact hK.fail d (D:=D) R
 rw[aa (by simpa using E)]at d;refine LM (S:={S with cal:=C,led:=Y}) R H (λn=>p.ord.bdl n) W (λg u D' w1 w2 w3 w4 w5=>?_);have hTb:=VA ({S with cal:=C,led:=Y}:bt) (iy jN V) n;have hbl:=p.ord.bdl n;rw[<-hP]at w1 w2 w3 w4 w5 hTb|-;obtain⟨e,r,T⟩:=P;obtain⟨r1,r2,r3,r4,r5,o,t⟩:=r
 dsimp only at w1 w2 w3 w4 w5 d hTb|-
 subst w5;refine au ?_;refine Gs.Ib (λE=>?_) λE=>?_
 ·rw[ae (by simpa using E)]at d;rw[d]at hK;refine au ?_;refine Gs.tdn ?_;have:=hK (none,0) g u D' (by dsimp only;rw[w2];exact w1) ⟨aH _,by dsimp only;omega,by dsimp only;omega⟩
  dsimp only[List.length_nil]at this
  exact this.fin
 rw[aa (by simpa using E)]at d;obtain⟨b,hb⟩:=BQ w1 (by rw[J];exact i);refine au ?_;refine Gs.look (enc:=eY) (ev:=fi) (D:=A) (x:=n) (.pointer none) xM lu T9 ?_ fR;rw[hb];refine ui hb ?_;refine Gs.fact (λw F q=>(gg.all q).1) λhal=>?_;have hml:=Hq (a:=0) hal;refine Ma (a:=0) (λy1 y2=>?_);refine wH hb ?_;generalize(jk (T.bk n) 0).2=O at d hml|-;generalize(jk (T.bk n) 0).1=B' at d|-;refine au ?_;refine Gs.fin (M:=pt q (CK r1 r2 r3 r4 (.slice none 0 0) (ez g o.length) (ez u t.length)) vg::tL (ez g o.length) o::mE (.slice y1 O.length y2) O::vs v c l mb md A D' {T with bk:=eS T.bk n B' } (Ab (ez u t.length) t::L)) ?_;refine Gs.l (λy:Nat×(Option Addr×Nat)=>(gI y.1,())) (λy=>O.length - y.1) (λy=>pt q (CK r1 r2 r3 r4 (.slice none 0 0) (ez y.2 (o++(O.take y.1).map (·.num)).length) (ez u t.length)) vg::tL (ez y.2 (o++(O.take y.1).map (·.num)).length) (o++(O.take y.1).map (·.num))::mE (.slice y1 O.length y2) O::vs v c l mb md A D' {T with bk:=eS T.bk n B' } (Ab (ez u t.length) t::L)) (λy=>y.1<=O.length) (0,g) rfl (aH _) ?_ ?_
 rotate_left
 ·show eG _ (pt q (CK r1 r2 r3 r4 (.slice none 0 0) (ez g (o++[]).length) (ez u t.length)) vg::tL (ez g (o++[]).length) (o++[])::_);rw[aN];exact .refl
 rintro⟨j,x⟩ hj KN s
 dsimp only at hj s|-
 refine Gs.z ?_;refine au ?_;refine Gs.I (λh=>?_) λh=>?_
 ·have N:j<O.length:=qZ;have f:=λz=>s (j+1,z) (by dsimp only;omega) (by dsimp only;omega)
  dsimp only at f
  rw[bR N,aM,<-ar,aI,gf]at f;have k:(o++(O.take j).map (·.num)).length<=300000:=by rw[af,ah,az];omega
  generalize o++(O.take j).map (·.num)=I at k f|-;refine C9 (os:=O) (I:=I) (g:=x) N k (λw y=>nG fR w y) (λz=>?_);refine au ?_;exact(f z).fin
 obtain rfl:j=O.length:=qZ;rw[aK];have k:(o++O.map (·.num)).length<=299000:=by rw[af,ah];omega
 generalize o++O.map (·.num)=Q at k d|-;clear s;refine au ?_;refine Gs.look (enc:=eY) (ev:=yr) (D:=D') (x:=n) gm rj lu Bi ?_ fR;rw[MZ];refine Gs.len ik (qg n) ?_;refine Gs.l (λy:Nat×(Option Addr×Nat)=>(gI y.1,())) (λy=>(T.bd n).length - y.1) (λy=>pt q (CK r1 r2 r3 r4 (.slice none 0 0) (ez y.2 (Q++((T.bd n).take y.1).map (·.num)).length) (ez u t.length)) vg::tL (ez y.2 (Q++((T.bd n).take y.1).map (·.num)).length) (Q++((T.bd n).take y.1).map (·.num))::mE (.slice y1 O.length y2) O::vs v c l mb md A D' {T with bk:=eS T.bk n B' } (Ab (ez u t.length) t::L)) (λy=>y.1<=(T.bd n).length) (0,x) rfl (aH _) ?_ ?_
 rotate_left
 ·show eG _ (pt q (CK r1 r2 r3 r4 (.slice none 0 0) (ez x (Q++[]).length) (ez u t.length)) vg::tL (ez x (Q++[]).length) (Q++[])::mE (.slice y1 O.length y2) O::vs v c l mb md A D' {T with bk:=eS T.bk n B' } (Ab (ez u t.length) t::L));rw[aN];exact iP
 rintro⟨j,x⟩ hj KN s
 dsimp only at hj s|-
 refine Gs.z ?_;refine au ?_;refine Gs.I (λh=>?_) λh=>?_
 ·have N:j<(T.bd n).length:=qZ;have f:=λz=>s (j+1,z) (by dsimp only;omega) (by dsimp only;omega)
  dsimp only at f
  rw[bR N,aM,<-ar,aI,gf]at f;have k:(Q++((T.bd n).take j).map (·.num)).length<=300000:=by rw[af,ah,az];omega
  generalize Q++((T.bd n).take j).map (·.num)=I at k f|-;refine C9 (os:=T.bd n) (I:=I) (g:=x) N k (qg n) (λz=>?_);refine au ?_;exact(f z).fin
 obtain rfl:j=(T.bd n).length:=qZ;rw[aK];rw[d]at hK;have hIl:(Q++(T.bd n).map (·.num)).length<=300000:=by rw[af,ah];omega
 generalize Q++(T.bd n).map (·.num)=I at hIl hK|-;refine mdN (λhN=>?_);refine au ?_;refine Gs.mdel (enc:=eY) (ev:=yr) (x:=n) rj lu ?_ fR;refine VJ (n:=n) hN ?_;refine au ?_;refine Gs.tdn ?_;have:=hK (none,0) x u (Ar D' n) ?_ ⟨aH _,by dsimp only;omega,by dsimp only;omega⟩
 ·dsimp only[List.length_nil]at this
  exact this.fin
 ·dsimp only
  rw[w2];exact(w1.upb hb).del hN
end
end Go.Proofs
namespace Go.Proofs
open Go Go.Vc
abbrev Yd(s:Vt_)(l:List Hd):As:=ow s 394 2 l.length (l.flatMap BV)
def nHd:Tryz.prog.cellsOf 394=1+1:=cV
def ZG(x:Hd)(w:Wt_)(b off:Nat)(h:At w b off (BV x)):(iL 394 (bO b off)).run pQ w=.ok (.agg (BV x).toArray) w:=by
 obtain⟨C,e,i,hC,g⟩:=h.get;have f:=g 0 (gU x.acct) rfl;have d:=g 1 (gI x.q) rfl;simp only[cB]at f d;simp[go_sem,bT hC,f,d,BV]
abbrev qS(f l:Int)(tr:List Td):Rp:=⟨0,0,f,l,tr,[],[]⟩
abbrev Of(p:Nat)(t:Option Addr×Nat)(f l:Int)(tr:List Td)(L:List As):List As:=pt p (CK 0 0 f l (ez t tr.length) (.slice none 0 0) (.slice none 0 0)) vg::Bm (ez t tr.length) tr::L
def uo(a:Int)(l:List Po):List Hd:=(l.filter λp=>decide (p.a≠a)).map λp=>⟨p.a,p.q⟩
def HY(n a:Int)(long:Bool)(price:Int)(h:Hd)(l:List Hd)(f lf:Int)(tr:List Td)(S:bt):nL n a long price (h::l) (qS f lf tr) S=if(mq S.led n a h.acct long price h.q).1≠0 then((mq S.led n a h.acct long price h.q).1,qS f lf tr,{S with led:=(mq S.led n a h.acct long price h.q).2})else
 nL n a long price l (qS f (lf+h.q) (tr++[⟨price,h.q,0,h.acct⟩])) {S with led:=(mq S.led n a h.acct long price h.q).2}:=rfl
structure ag6 where
 i:Nat
 t:Option Addr×Nat
 lf:Int
 tr:List Td
 X:bJ
section
variable{L L0 M:List As}{φ:WP}{K:Value->WP}{k0:WP}{v c l mb md b mw:Nat}{A:List (Int×Nat)}{D:List (Int×Value)}{S:bt}{n a:Int}{X:bJ}{bd:Int->List Od}
def Nm{s:Vt_}{hs:List Hd}{q:Int}(j:hs.length<=100000)(i:∀d∈hs,d.Fit)(g:ed q)(f:∀y,Gs (Yd (ez y (ky q hs).1.length) (ky q hs).1::L) (K (.tuple #[ez y (ky q hs).1.length,gI (ky q hs).2])))(p:eG L (Yd s hs::M):=by exact fR):
  Gs L (Cw pQ 278 #[.int .i64 q,s] K):=
 Gs.nw (φ:=λk=>Cw pQ _ _ k) (val:=λy:Option Addr×Nat=>.tuple #[ez y (ky q hs).1.length,gI (ky q hs).2]) (p:=λ_=>True) (B:=λy=>Yd (ez y (ky q hs).1.length) (ky q hs).1) (λw y K h=>MI (nG p w y) j i g λr e o m nn=>by
  obtain⟨x,y,rfl,-⟩:=o.isSl;exact h (x,y) e (aF _) trivial ⟨o,λ_=>aG⟩ m nn) (λy _=>f y)
def PV{k:Ct}{J:Int}{long:Bool}{p pk pa:Nat}{t:Option Addr×Nat}{f lf:Int}{tr:List Td}{x1:Vt_}{x2:Value×Unit}(U:S.led.held.length<4294967295)(hn:iU k.spec.num)(hq64:ed J)(hb:(0<=lf/\lf<=1000000000000)/\tr.length<=10000)
  (C:∀t' e F T X,(if(ky J (uo a (S.led.holders k.spec.num))).2≠0 then((ky J (uo a (S.led.holders k.spec.num))).2,qS f lf tr,S)else nL k.spec.num a long k.price (ky J (uo a (S.led.holders k.spec.num))).1 (qS f lf tr) S)=(e,qS f F T,{S with led:=X})->
   (0<=F/\F<=lf+640000000)->T.length<=tr.length+64->Gs (Of p t' f F T (vs v c l mb md A D {S with led:=X} L)) (K (gI e)))
  (pk_:eG L0 (Of p t f lf tr (pt pk (dA k) jW::pt pa [.int .u32 a] 45::vs v c l mb md A D S L)):=by exact iP):
  Gs L0 (LQ (ec v) (gU k.spec.num) (bO pa 0) K (bO pk 0) (.bool long) (bO p 0) (gI 0,x1,x2) (gI J,())):=by
 refine Gs.pk ?_ pk_
 skip;unfold ec
 refine HB (X:=S.led) (λG=>?_);have V:∀p∈S.led.holders k.spec.num,p∈S.led.held:=λp hp=>(aU.1 hp).1;have hHl:=qP G k.spec.num;obtain⟨u,q⟩:=IK J (uo a (S.led.holders k.spec.num));have W:∀l:List Po,(uo a l).length<=l.length:=λl=>by unfold uo;rw[ah];exact bh _ _
 have Q:∀x∈uo a (S.led.holders k.spec.num),x.Fit:=λx hx=>by
  obtain⟨po,hpo,rfl⟩:=aL.1 hx;obtain⟨g1,g2,g3,g4,g5,g6,g7,ac,hac,hae⟩:=G.pos po (V po (aU.1 hpo).1);have:=G.acc ac hac;have hMP:MP=10000000:=rfl;exact⟨⟨by show 0<=po.a;omega,by show po.a<_;omega⟩,⟨by show _<=po.q;omega,by show po.q<_;omega⟩⟩
 refine Gs.z ?_;refine au ?_;intro ph;refine au ?_;refine Gs.nilF 394 2 BV (IP U λgv=>?_);generalize S.led.holders k.spec.num=H at C V hHl u q Q|-;refine Gg.rf (L:=Of p t f lf tr (pt pk (dA k) jW::vs v c l mb md A D S L)) (λ_ _ _ _=>rfl) (S8 oH.po) (I:=λi (b:Option Addr×Nat) M=>pt ph [ez b (uo a (H.take i)).length] 392::Yd (ez b (uo a (H.take i)).length) (uo a (H.take i))::pt pa [.int .u32 a] 45::M) (E:=λ(_:Unit) M=>M) (λ_ _ _=>rfl) (λ_ _=>rfl) (λi b=>True) (λ_ _=>False) (none,0) trivial ?_ ?_ (λ_ _ _ (h:False)=>h.elim) ?_
 ·rintro i hi x - l1 r1 q1 M kn kj o -;have g:=W (H.take i);rw[az]at g
  have hs:uo a (H.take (i+1))=uo a (H.take i)++if H[i].a=a then []else [⟨H[i].a,H[i].q⟩]:=by
   unfold uo;rw[bR hi,cy,aM];by_cases h:H[i].a=a<;>simp[h]
  rw[hs]at o;generalize H[i]=po at o|-;generalize uo a (H.take i)=I at g o|-;unfold dy;refine au ?_;refine Gs.Ib (λh=>?_) λh=>?_
  ·rw[aa (by simpa using h)]at o;refine au ?_;refine Gs.push (x:=(⟨po.a,po.q⟩:Hd)) (f:=BV) (l:=I) Um eHd (λ_=>rfl) rfl rfl qZ qZ (λz1 z2=>?_) fR;refine au ?_;exact(o (z1,z2) _ trivial).fin
  ·grind
 ·rintro x0 d -;rw[aK];have g:=W H;generalize uo a H=O at g C u q Q|-
  skip
  refine Gs.ak (au ?_);refine Nm (hs:=O) qZ Q hq64 (λy=>?_);generalize ky J O=X at u q C|-;obtain⟨P,e⟩:=X
  dsimp only at u q C|-
  refine au ?_;refine Gs.Ib (λR=>?_) λR=>?_
  ·rw[ae (by simpa using R)]at C;refine Gs.tw ?_;exact(C t e lf tr S.led rfl qZ qZ).fin
  rw[aa (by simpa using R)]at C;refine au ?_;refine Gs.fin (M:=Yd (ez y P.length) P::pt pk (dA k) jW::pt pa [.int .u32 a] 45::OY d::Of p t f lf tr (vs v c l mb md A D S L)) ?_
  refine Gs.l (λx:ag6=>(gI 0,gI x.i,())) (λx=>P.length - x.i) (λx=>Yd (ez y P.length) P::pt pk (dA k) jW::pt pa [.int .u32 a] 45::OY d::Of p x.t f x.lf x.tr (vs v c l mb md A D {S with led:=x.X} L))
   (λx=>x.i<=P.length/\nL k.spec.num a long k.price P (qS f lf tr) S=nL k.spec.num a long k.price (P.drop x.i) (qS f x.lf x.tr) {S with led:=x.X}/\(0<=x.lf/\x.lf<=lf+10000000*x.i)/\x.tr.length<=tr.length+x.i) ⟨0,t,lf,tr,S.led⟩ rfl ⟨aH _,rfl,by dsimp only;omega,by dsimp only;omega⟩ ?_ .refl
  rintro⟨j,t,N,r,X⟩ ⟨h1,m,h3,h4⟩ KN Z
  skip
  dsimp only at h1 m h3 h4 Z|-
  refine Gs.z (au ?_);refine Gs.I (λh=>?_) λh=>?_
  ·have s:j<P.length:=qZ;have hhb:=(q _ (aq s)).1;rw[<-ci s]at m;refine Gs.it (f:=BV) Um nHd (λ_=>rfl) ZG (λw y=>nG fR w y) rfl s ?_;generalize P[j]=B at hhb m|-;rw[HY]at m;unfold BV;refine au ?_;intro r1;refine au ?_;refine Gs.X (λw z=>iH fR CP sI (bM _) w z) ?_;refine au ?_;refine GE (S:={S with led:=X}) hn ?_
   dsimp only at m|-
   generalize mq X k.spec.num a B.acct long k.price B.q=Y at m|-;obtain⟨e,Y⟩:=Y
   dsimp only at m|-
   refine au ?_;refine Gs.Ib (λR=>?_) λR=>?_
   ·rw[ae (by simpa using R)]at m;refine Gs.tw ?_;exact(C t e N r Y m qZ qZ).fin
   rw[aa (by simpa using R)]at m;refine au ?_;refine Gs.lit1 Hu Zv (cs:=FJ ⟨k.price,B.q,0,B.acct⟩) rfl rfl qZ λb=>?_;refine au ?_;refine Gs.snd (l:=r) (x:=(⟨k.price,B.q,0,B.acct⟩:Td)) (f:=FJ) Hu Zv rfl qZ (λz1 z2=>?_);refine au ?_;exact(Z ⟨j+1,(z1,z2),N+B.q,r++[⟨k.price,B.q,0,B.acct⟩],Y⟩ ⟨s,m,by dsimp only;omega,by dsimp only;rw[af];simp only[be,List.length_nil];omega⟩ (by dsimp only;omega)).fin
  ·obtain rfl:j=P.length:=qZ;rw[cn (aD _)]at m;refine Gs.tw ?_;exact(C t 0 N r X m qZ qZ).fin
 ·simp only[Yd,cU,uo,eN,gf,List.length_nil,cC];exact iP
end
end Go.Proofs
namespace Go.Proofs
open Go Go.Vc
abbrev flA(s:Vt_)(l:List Fl):As:=ow s 390 3 l.length (l.flatMap Me)
def nFl:Tryz.prog.cellsOf 390=2+1:=cV
def Zf(x:Fl)(w:Wt_)(b off:Nat)(h:At w b off (Me x)):(iL 390 (bO b off)).run pQ w=.ok (.agg (Me x).toArray) w:=by
 obtain⟨C,e,j,hC,d⟩:=h.get;have i:=d 0 (gQ x.num) rfl;have g:=d 1 (gU x.acct) rfl;have f:=d 2 (gI x.qty) rfl;simp only[cB]at i g f;simp[go_sem,bT hC,i,g,f,Me]
def Hv(n a:Int)(long:Bool)(price:Int)(x:Fl)(l:List Fl)(left f lf:Int)(tr:List Td)(S:bt):nR n a long price (x::l) left (qS f lf tr) S=if(mq S.led n a x.acct long price x.qty).1≠0 then((mq S.led n a x.acct long price x.qty).1,left,qS f lf tr,{S with led:=(mq S.led n a x.acct long price x.qty).2})else
 nR n a long price l (left - x.qty) (qS (f+x.qty) lf (tr++[⟨price,x.qty,x.num,x.acct⟩])) {S with led:=(mq S.led n a x.acct long price x.qty).2,bd:=eS S.bd n (kT (S.bd n) x.num x.qty)}:=rfl
structure ak0 where
 i:Nat
 t:Option Addr×Nat
 D:List (Int×Value)
 left:Int
 f:Int
 tr:List Td
 S:bt
attribute [go_sem] Me
section
variable{L L0 M:List As}{φ:WP}{K:Value->WP}{k0:WP}{v c l mb md b mw:Nat}{A:List (Int×Nat)}{D:List (Int×Value)}{S:bt}{n a:Int}{X:bJ}{bd:Int->List Od}{s:Vt_}{os:List Od}
def Gs.itW{i:Nat}{x:Int}(hi:i<os.length)(B:Gs (mE s (os.set i {os[i]with left:=x})::M) k0)(p:eG L (mE s os::M):=by exact fR):
  Gs L (Pw pQ (iX sC s (gI (i:Int))) λp=>Pw pQ (iF jG p 4) λq=>Uw pQ (iS 2 q (gI x)) k0):=⟨λw ⟨F,z⟩=>by
 obtain⟨E,u,⟨h1,d⟩,t,j⟩:=Ss.cons.1 (⟨F,(p.out w F).1 z⟩:Ss w (mE s os::M));obtain⟨r,k,H,e,h,g,G,f,o,m⟩:=qT.setLeft h1 hi x;refine du (bO r (i*5)) (λW=>by rw[e];simp[go_sem,hi,bK,ik]) ?_;refine du (bO r (i*5+4)) (λ_=>by simp[go_sem,bK]) ?_;refine iE f (B.go H (Ss.cons.2 ⟨E,u,⟨o,d⟩,t.md m λy C I=>j y ((d y).2 I) C,j⟩))⟩
def Gs.itLV{k:Value->WP}{i n:Nat}(t:∀w,Ss w L->Rd w 5 s n (os.flatMap dF))(h:n=os.length)(hi:i<os.length)(m:Gs L (k (gI os[i].left))):Gs L (Vw pQ (iX sC s (gI (i:Int))) λp=>Vw pQ (iF jG p 4) λq=>Vw pQ (iL 2 q) k):=⟨λw y=>by
 obtain⟨b,e,o,f,g,r⟩:=(t w y).item dV hi h;obtain⟨C,x,u,hC,j⟩:=r.get;have d:=j 4 _ rfl;rw[ey]at d;refine ao (bO b (e+i*5)) w (by rw[f];subst h;simp[go_sem,hi,bK,ik]) ?_;refine ao (bO b (e+i*5+4)) w (by simp[go_sem,bK]) (ao (gI os[i].left) w (by simp[go_sem,hC,d]) (m.go w y))⟩
def Tt(o:Gs (uI D (eS bd n os)::M) φ)(p:eG L (mE (lx D n) os::TE (·≠n) D bd::M):=by exact iP):Gs L φ:=⟨λw ⟨F,z⟩=>by
 obtain⟨u,C,⟨h1,i⟩,⟨j,F3,q,y,r,t⟩,B,E⟩:=(p.out w F).1 z;have no:∀{m x},m≠n->aF (lx D m) x->¬aF (lx D n) x:=λd e g=>B _ ((i _).2 g) ((t _).2 (.inl ((q.f _).2 ⟨_,d,e⟩)));refine o.go w (Ss.cons.2 ⟨λx=>u x\/j x,F3,⟨λm _=>?_,λm k x _ _=>?_,λx=>?_⟩,y,λx e g=>?_⟩)
 ·by_cases d:m=n
  ·subst d;simpa [cQ]using h1
  ·rw[eR _ _ _ d];exact q.q m d
 ·by_cases d:m=n<;>by_cases f:k=n
  ·simp[d,f]
  ·grind
  ·grind
  ·exact q.dj m k x d f
 ·rw[q.f,i];constructor
  ·rintro(h|⟨m,d,e⟩)
   ·grind
   ·grind
  ·rintro⟨m,-,e⟩;by_cases d:m=n
   ·subst d;exact .inl e
   ·grind
 ·rcases e with e|e
  ·grind
  ·exact r x e g⟩
def ZO{l:List Od}{x:Od}{m:Int}(e:(l.map (·.num)).Nodup)(k:x∈l)(j:x.num=m):∃i,∃h:i<l.length,l.findIdx? (λo=>decide (o.num=m))=some i/\l[i]=x:=by
 cases d:l.findIdx? (λo=>decide (o.num=m))with
 |none=>
  rw[dH]at d;have:=d x k;rw[fy]at this;exact absurd j this
 |some i=>
  obtain⟨f,g,-⟩:=bz.1 d;rw[aS]at g;refine⟨i,f,rfl,?_⟩;have h1:=kO e (aq f);have p:=kO e k;rw[g,<-j,p]at h1;exact(cZ h1).symm
def PK{k:Ct}{d price:Int}{long:Bool}{p pk pa:Nat}{t:Option Addr×Nat}{f lf:Int}{tr:List Td}{sf:Vt_}{r:List Fl}(hv:pI A D S.cal.l S.bk)(hok:S.Ok)(hal:bG S.cal.l k.spec.num=0)(hn:iU k.spec.num)
  (hl0:0<=d/\d<=10000000)(hFl:r.length<=50)(hFn:(r.map (·.num)).Nodup)(hFb:∀f∈r,1<=f.qty/\∃b∈S.bd k.spec.num,b.num=f.num/\f.qty<=b.left)
  (hb:((0<=lf/\lf<=100000000000)/\0<=f/\f<=100000000000)/\tr.length<=5000)
  (hK:∀t' D' e f' G Q T,GT k a long price d r (qS f lf tr) S=(e,qS f' G Q,T)->pI A D' T.cal.l T.bk->((0<=G/\G<=lf+640000000)/\0<=f' /\f' <=f+50000000)/\Q.length<=tr.length+114->Gs (Of p t' f' G Q (vs v c l mb md A D' T L)) (K (gI e)))
  (pk_:eG L0 (flA sf r::Of p t f lf tr (pt pk (dA k) jW::pt pa [.int .u32 a] 45::vs v c l mb md A D S L)):=by exact iP):
  Gs L0 (Lw (Te (gI (r.length:Int)) sf (bO pk 0) (bO pa 0) (ec v) (.bool long) (gI price) K (bO p 0) (gU k.spec.num)) (gI 0,gI d,gI 0,())):=by
 refine Gs.pk ?_ pk_
 refine Gs.l (λx:ak0=>(gI 0,gI x.left,gI x.i,())) (λx=>r.length - x.i) (λx=>flA sf r::Of p x.t x.f lf x.tr (pt pk (dA k) jW::pt pa [.int .u32 a] 45::vs v c l mb md A x.D x.S L))
  (λx=>x.i<=r.length/\nR k.spec.num a long price (r.drop x.i) x.left (qS x.f lf x.tr) x.S=nR k.spec.num a long price r d (qS f lf tr) S/\pI A x.D S.cal.l x.S.bk/\x.S.Ok/\x.S.cal=S.cal/\(∀f∈r.drop x.i,∃b∈x.S.bd k.spec.num,b.num=f.num/\f.qty<=b.left)/\(d - 1000000*x.i<=x.left/\x.left<=d)/\(0<=x.f/\x.f<=f+1000000*x.i)/\x.tr.length<=tr.length+x.i)
  ⟨0,t,D,d,f,tr,S⟩ rfl ⟨aH _,rfl,hv,hok,rfl,λf hf=>(hFb f hf).2,by dsimp only;omega,by dsimp only;omega,by dsimp only;omega⟩ ?_ .refl
 rintro⟨j,t,D,left,f1,q,m⟩ ⟨h1,C,h3,R,h5,h6,h7,h8,h9⟩ KN hKN
 skip;unfold ec
 dsimp only at h1 C h3 R h5 h6 h7 h8 h9 hKN|-
 have hal1:bG m.cal.l k.spec.num=0:=by rw[h5];exact hal
 refine Gs.z (au ?_);refine Gs.I (λh=>?_) λh=>?_
 ·have U:j<r.length:=qZ;have hdrop:=(ci U).symm;have hfb:=(hFb _ (aq U)).1;have V:=hFn.sublist ((List.drop_sublist j r).map (·.num));rw[hdrop]at C h6 V;obtain⟨u,hb0,O,hb0q⟩:=h6 _ aw;refine Gs.it (f:=Me) af7 nFl (λ_=>rfl) Zf (λw y=>nG fR w y) rfl U ?_;generalize r[j]=x at hfb C h6 V O hb0q|-;rw[aI,ce]at V;have hb0l:=jD (R.ord.bdMay _ u hb0);rw[Hv]at C;refine au ?_;intro r1;refine au ?_;refine Gs.X (λw z=>iH fR CP sI (bM _) w z) ?_;refine au ?_;refine GE (S:=m) hn ?_;have E:({m with led:=(mq m.led k.spec.num a x.acct long price x.qty).2}:bt).Ok:=EW R hal1;generalize mq m.led k.spec.num a x.acct long price x.qty=Y at C E|-;obtain⟨e,Y⟩:=Y
  dsimp only at C E|-
  refine au ?_;refine Gs.Ib (λhe=>?_) λhe=>?_
  ·rw[ae (by simpa using he)]at C;refine(hK t D e f1 lf q {m with led:=Y} ?_ (by rw[h5];exact h3) ⟨⟨qZ,qZ,qZ⟩,qZ⟩).fin;unfold GT;rw[<-C]
   dsimp only
   rw[ae (by simpa using he)]
  rw[aa (by simpa using he)]at C;refine au ?_;refine Gs.lit1 Hu Zv (cs:=FJ ⟨price,x.qty,x.num,x.acct⟩) rfl rfl qZ λb=>?_;refine au ?_;refine Gs.snd (l:=q) (x:=(⟨price,x.qty,x.num,x.acct⟩:Td)) (f:=FJ) Hu Zv rfl qZ (λz1 z2=>?_);refine au ?_;refine Gs.look (enc:=eY) (ev:=yr) (D:=D) (x:=k.spec.num) gm rj lu Bi ?_ fR;rw[MZ];obtain⟨i,W,hix,hib⟩:=ZO (R.ord.bdNd k.spec.num) hb0 O;have hbl:=R.ord.bdl k.spec.num;refine Il (os:=m.bd k.spec.num) (f:=λo=>decide (o.num=x.num)) (qg k.spec.num) (λw y=>XZ (td fR y) _) qZ ?_;rw[show rz (m.bd k.spec.num) (λo=>decide (o.num=x.num))=(i:Int) by unfold rz;rw[hix]]
  have F:kT (m.bd k.spec.num) x.num x.qty=if u.left - x.qty=0 then(m.bd k.spec.num).eraseIdx i else(m.bd k.spec.num).set i {u with left:=u.left - x.qty}:=by
   unfold kT;rw[hix]
   dsimp only
   rw[show(m.bd k.spec.num).getD i oQ=u by rw[<-hib];simp[W]]
  have hqb:∀o∈m.bd k.spec.num,o.num=x.num->x.qty<=o.left:=λo ho he=>by
   have h1:=kO (R.ord.bdNd k.spec.num) ho;have C:=kO (R.ord.bdNd k.spec.num) hb0;rw[he,<-O,C]at h1;rw[<-cZ h1];exact hb0q
  have Z:=bt.Ok.setBd E (Bl (l:=m.bd k.spec.num) (λo ho=>R.ord.bdMay _ o ho) hfb hqb).1
  have I:∀g∈r.drop (j+1),∃b∈eS m.bd k.spec.num (kT (m.bd k.spec.num) x.num x.qty) k.spec.num,b.num=g.num/\g.qty<=b.left:=λg hg=>by
   obtain⟨b,hb1,hb2,hb3⟩:=h6 g (ag _ hg);refine⟨b,?_,hb2,hb3⟩;rw[cQ];refine Ei hb1 λe=>V.1 (by rw[<-e,hb2];exact aX hg)
  have N:=λD' hv' =>hKN ⟨j+1,(z1,z2),D',left - x.qty,f1+x.qty,q++[⟨price,x.qty,x.num,x.acct⟩],{m with led:=Y,bd:=eS m.bd k.spec.num (kT (m.bd k.spec.num) x.num x.qty)}⟩
   ⟨U,C,hv',Z,h5,I,by dsimp only;omega,by dsimp only;omega,by dsimp only;rw[af];simp only[be,List.length_nil];omega⟩ (by dsimp only;omega)
  have hsm:=qm hal1;rw[h5]at hsm
  dsimp only at N
  generalize kT (m.bd k.spec.num) x.num x.qty=B at F N;generalize q++[(⟨price,x.qty,x.num,x.acct⟩:Td)]=tr2 at N|-;clear I Z hKN E C hqb
  dsimp only
  refine au ?_;refine Gs.WX Mr ?_;refine xU (n:=k.spec.num) ?_;refine Gs.itL (os:=m.bd k.spec.num) (λw y=>nG fR w y) rfl W ?_;rw[hib];refine au ?_;refine Gs.itW (os:=m.bd k.spec.num) W ?_;rw[hib];have H:i<((m.bd k.spec.num).set i {u with left:=u.left - x.qty}).length:=by rw[bN];exact W
  have hi2:((m.bd k.spec.num).set i {u with left:=u.left - x.qty})[i]={u with left:=u.left - x.qty}:=by simp
  have hl2:((m.bd k.spec.num).set i {u with left:=u.left - x.qty}).length<=50:=by rw[bN];exact hbl
  have he2:((m.bd k.spec.num).set i {u with left:=u.left - x.qty}).eraseIdx i=(m.bd k.spec.num).eraseIdx i:=List.eraseIdx_set_eq;generalize(m.bd k.spec.num).set i {u with left:=u.left - x.qty}=B2 at F H hi2 hl2 he2|-;refine au ?_;refine Gs.look (enc:=eY) (ev:=yr) (D:=D) (x:=k.spec.num) gm rj lu Bi ?_ fR;rw[MZ];refine Gs.itLV (os:=B2) (λw y=>nG fR w y) rfl H ?_;rw[hi2]
  dsimp only
  refine au ?_;refine Gs.Ib (λhz=>?_) λhz=>?_
  ·rw[ae (by simpa using hz)]at F;refine au ?_;refine Gs.WX Mr ?_;refine au ?_;rw[show(i:Int)+1=((i+1:Nat):Int) by omega];refine C1 (os:=B2) (nK i) H qZ (λs' =>?_);rw[Ip,he2,<-F];refine au ?_;refine Gs.mup (enc:=eY) (ev:=yr) (x:=k.spec.num) (v:=s') rj lu ?_ fR;refine B8 (n:=k.spec.num) ?_;refine au ?_;exact(N _ (h3.put (s:=s') hsm)).fin
  ·rw[aa (by simpa using hz)]at F;rw[<-F];refine Tt (n:=k.spec.num) ?_;refine au ?_;exact(N D h3).fin
 ·obtain rfl:j=r.length:=qZ;rw[cn (aD _)]at C
  have P:GT k a long price d r (qS f lf tr) S=if left=0 then(0,qS f1 lf q,m)else
    if(ky (if long then left else -left) (uo a (m.led.holders k.spec.num))).2≠0 then((ky (if long then left else -left) (uo a (m.led.holders k.spec.num))).2,qS f1 lf q,m)else nL k.spec.num a long k.price (ky (if long then left else -left) (uo a (m.led.holders k.spec.num))).1 (qS f1 lf q) m:=by
   unfold GT;rw[<-C];rfl
  refine au ?_;refine Gs.Ib (λh=>?_) λh=>?_
  ·rw[ae (by simpa using h)]at P;exact(hK t D 0 f1 lf q m P (by rw[h5];exact h3) ⟨⟨qZ,qZ,qZ⟩,qZ⟩).fin
  rw[aa (by simpa using h)]at P;refine Gs.j1 (gI (if long then left else -left),()) (λJ hJ=>?_) ?_
  ·cases long
   all_goals
    refine au ?_;exact hJ
  have hheld:m.led.held.length<4294967295:=by have:=tJ R.cal R.led;omega
  refine PV (t:=t) (f:=f1) (lf:=lf) (tr:=q) (S:=m) hheld hn (by constructor<;>split<;>omega) ⟨qZ,qZ⟩ (λt' e G Q X he w1 w2=>?_);rw[he]at P;exact(hK t' D e f1 G Q _ P (by rw[h5];exact h3) ⟨⟨qZ,qZ,qZ⟩,qZ⟩).fin
end
end Go.Proofs
namespace Go.Proofs
open Go Go.Vc
structure LqI where
 t:Option Addr×Nat
 D:List (Int×Value)
 e:Int
 f:Int
 lf:Int
 tr:List Td
 S:bt
def Jc(a:Int)(k:Ct)(l:List Ct)(r:Rp)(S:bt):pP a (k::l) r S=if(S.led.position k.spec.num a).q=0 then pP a l r S else if(S.sell k a (S.led.position k.spec.num a).q r).1≠0 then S.sell k a (S.led.position k.spec.num a).q r else pP a l (S.sell k a (S.led.position k.spec.num a).q r).2.1 (S.sell k a (S.led.position k.spec.num a).q r).2.2:=rfl
section
variable{L L0 M:List As}{φ:WP}{K:Value->WP}{k0:WP}{v c l mb md b mw:Nat}{A:List (Int×Nat)}{D:List (Int×Value)}{S:bt}{n a:Int}{X:bJ}{bd:Int->List Od}{s:Vt_}{os:List Od}
def Ov{sells:Bool}{qty:Int}(i:os.length<=1000000)(g:∀o∈os,o.Fit)(f:ed qty)(e:∀y,Gs (flA (ez y (jj sells qty os).2.1.length) (jj sells qty os).2.1::L) (K (.tuple #[.int .i64 (jj sells qty os).1,ez y (jj sells qty os).2.1.length,gI (jj sells qty os).2.2])))(p:eG L (mE s os::M):=by exact fR):
  Gs L (Cw pQ 275 #[.bool sells,gI qty,s] K):=
 Gs.nw (φ:=λk=>Cw pQ _ _ k) (val:=λy:Option Addr×Nat=>.tuple #[.int .i64 (jj sells qty os).1,ez y (jj sells qty os).2.1.length,gI (jj sells qty os).2.2]) (p:=λ_=>True) (B:=λy=>flA (ez y (jj sells qty os).2.1.length) (jj sells qty os).2.1) (λw y K h=>RQ (nG p w y) i g f λj d o m nn=>by
  obtain⟨x,y,rfl,-⟩:=o.isSl;exact h (x,y) d (aF _) trivial ⟨o,λ_=>aG⟩ m nn) (λy _=>e y)
def QQ{k:Ct}{q:Int}{p:Nat}{t:Option Addr×Nat}{f lf:Int}{tr:List Td}(hv:pI A D S.cal.l S.bk)(w:S.Ok)(U:bG S.cal.l k.spec.num=0)(hq: -10000000<=q/\q<=10000000)
  (J:((0<=lf/\lf<=100000000000)/\0<=f/\f<=100000000000)/\tr.length<=5000)
  (hK:∀W V e F u z T,S.sell k a q (qS f lf tr)=(e,qS F u z,T)->pI A V T.cal.l T.bk->((0<=u/\u<=lf+640000000)/\0<=F/\F<=f+50000000)/\z.length<=tr.length+114->Gs (Of p W F u z (vs v c l mb md A V T L)) (K (gI e)))
  (Z:eG L0 (Of p t f lf tr (vs v c l mb md A D S L)):=by exact iP):Gs L0 (Cw pQ 223 #[ec v,.agg (dA k).toArray,gU a,gI q,.pointer (some ⟨p,0,none⟩)] K):=by
 refine Gs.pk ?_ Z;refine sN Tryz.func223 ?_;unfold ec;have hbl:=w.ord.bdl k.spec.num;have hn:iU k.spec.num:=ng w.cal U;have Q:0<=max q (-q)/\max q (-q)<=10000000:=qZ;have d:=UU S k a q (qS f lf tr);refine au ?_;intro pk;refine au ?_;intro pa;refine au ?_;generalize decide (0<q)=i at d|-;generalize max q (-q)=qty at Q d|-;refine Gs.look (enc:=eY) (ev:=yr) (D:=D) (x:=k.spec.num) gm rj lu Bi ?_ fR;rw[MZ];refine Gs.len ik (qg k.spec.num) ?_;refine Gs.nil jG 5 ?_;obtain⟨g,G⟩:=di (λl=>l.filter λo=>o.buy==i:List Od->List Od);have O:g []=[]:=by rw[G];rfl
 have P:∀l,(g l).length<=l.length:=λl=>by rw[G];exact bh _ _
 refine Gs.l (λx:Nat×Option Addr×Nat=>(ez x.2 (g ((S.bd k.spec.num).take x.1)).length,gI x.1,())) (λx=>(S.bd k.spec.num).length - x.1) (λx=>mE (ez x.2 (g ((S.bd k.spec.num).take x.1)).length) (g ((S.bd k.spec.num).take x.1))::pt pa [.int .u32 a] 45::pt pk (dA k) jW::Of p t f lf tr (vs v c l mb md A D S L)) (λx=>x.1<=(S.bd k.spec.num).length) (0,none,0) (by rw[cU,O];rfl) (aH _) ?_ (by rw[cU,O];exact .refl);rintro⟨j,x⟩ hj KN N
 dsimp only at hj N|-
 refine Gs.z (au ?_);refine Gs.I (λh=>?_) λh=>?_
 ·have H:j<(S.bd k.spec.num).length:=qZ
  have Y:g ((S.bd k.spec.num).take (j+1))=g ((S.bd k.spec.num).take j)++if(S.bd k.spec.num)[j].buy==i then [(S.bd k.spec.num)[j]]else []:=by
   rw[bR H,G]
   dsimp only
   rw[cy,List.filter_cons,eN]
  have m:=λy=>N (j+1,y) (by dsimp only;omega) (by dsimp only;omega);have r:=P ((S.bd k.spec.num).take j);rw[az]at r
  dsimp only at m
  rw[Y]at m;refine Gs.it ik P7 dV R3 (qg k.spec.num) rfl H ?_;generalize(S.bd k.spec.num)[j]=o at m|-;generalize g ((S.bd k.spec.num).take j)=I at r m|-;refine au ?_;intro r1;refine au ?_;refine Gs.Ib (λJ=>?_) λJ=>?_
  ·rw[ae J]at m;refine au ?_;refine Gs.push (x:=o) (f:=dF) (l:=I) ik MY dV (mz o) rfl qZ qZ (λz1 z2=>?_) fR;refine au ?_;exact(m (z1,z2)).fin
  ·rw[aa (by rw[J];decide),aN]at m;refine au ?_;exact(m x).fin
 obtain rfl:j=(S.bd k.spec.num).length:=qZ;rw[aK];have B:∀o∈g (S.bd k.spec.num),o∈S.bd k.spec.num:=λo E=>by rw[G]at E;exact(aU.1 E).1
 have R:((g (S.bd k.spec.num)).map (·.num)).Nodup:=(w.ord.bdNd k.spec.num).sublist (by rw[G];exact eI.map _);have r:=P (S.bd k.spec.num);rw[show((S.bd k.spec.num).filter λo=>o.buy==i)=g (S.bd k.spec.num) by rw[G]]at d;generalize g (S.bd k.spec.num)=I at B R r d|-;refine au ?_;refine Ov (os:=I) qZ (λo E=>(w.ord.std _ o (jB (B o E))).fit) (by constructor<;>omega) (λy=>?_);obtain⟨f1,f2,-⟩:=Cc (sells:=i) (qty:=qty) (l:=I) (λo E=>w.ord.bdMay _ o (B o E)) qZ;have C:=Su i qty I;generalize jj i qty I=X at d f1 f2 C|-;obtain⟨pr,Fs,e⟩:=X
 dsimp only at d f1 f2 C|-
 refine au ?_;refine Gs.Ib (λhe=>?_) λhe=>?_
 ·rw[ae (by simpa using he)]at d;exact(hK t D e f lf tr S d hv ⟨⟨qZ,qZ,qZ⟩,qZ⟩).fin
 rw[aa (by simpa using he)]at d;refine au ?_;refine PK (S:=S) (t:=t) (f:=f) (lf:=lf) (tr:=tr) hv w U hn Q C (f2 R) (λx hx=>⟨(f1 x hx).1,?_⟩) J (λW V e' F u z T h1 h2 h3=>?_)
 ·grind
 ·rw[h1]at d;exact(hK W V e' F u z T d h2 h3).fin
def CL{ac:Ac}(hv:pI A D S.cal.l S.bk)(J:S.Ok)(C:Sg v c l mb md A (S.liquidate ac) L K)(pk:eG L0 (vs v c l mb md A D S L):=by exact iP):Gs L0 (Cw pQ 146 #[ec v,jX ac] K):=by
 refine Gs.pk ?_ pk;refine sN Tryz.func146 ?_;unfold ec;have g:S.liquidate ac=if ac.dfl=false then(162,kI,S)else pP ac.num S.cal.l kI S:=rfl
 refine au ?_;intro p0;refine au ?_;intro p2;refine au ?_;intro U;refine au ?_;intro V;refine au ?_;refine Gs.Ib (λh=>?_) λh=>?_
 ·rw[ae (by simpa using h)]at g;refine au ?_;exact C.fail g (D:=D) hv
 rw[aa (by simpa using h)]at g;refine au ?_;refine Gs.tdn (AC (λgv=>?_));have hcl:=J.cal.len
 refine Gg.rf (L:=L) (λ_ _ _ _=>rfl) (L1 _) (I:=λi (b:LqI) M=>V0 V 0::pt p2 (YO ac) 100::YQ p0 v::Of U b.t b.f b.lf b.tr (vs v c l mb md A b.D b.S M)) (E:=λ(b:LqI) M=>V0 V b.e::Of U b.t b.f b.lf b.tr (vs v c l mb md A b.D b.S M)) (λ_ _ _=>rfl) (λ_ _=>rfl)
  (λi b=>pP ac.num (S.cal.l.drop i) (qS b.f b.lf b.tr) b.S=S.liquidate ac/\pI A b.D S.cal.l b.S.bk/\b.S.Ok/\b.S.cal=S.cal/\((0<=b.lf/\b.lf<=640000000*i)/\0<=b.f/\b.f<=50000000*i)/\b.tr.length<=114*i) (λcd b=>cd=.ret/\S.liquidate ac=(b.e,qS b.f b.lf b.tr,b.S)/\pI A b.D S.cal.l b.S.bk/\b.S.cal=S.cal/\b.tr.length<=10000) ⟨(none,0),D,0,0,0,[],S⟩ ⟨g.symm,hv,J,rfl,by dsimp only;omega,aH _⟩ ?_ ?_ ?_ ?_
 ·rintro i hi ⟨t,B,Z,f,lf,tr,x⟩ ⟨h1,o,u,j,P,Y⟩ l1 r1 q1 M kn kj p H
  dsimp only at h1 o u j P Y p H|-
  rw[<-ci hi,Jc]at h1;generalize S.cal.l[i]=k at h1|-;refine au ?_;refine sK ?_;have y:=GR u.led.led k.spec.num ac.num;have m:=λh:(x.led.position k.spec.num ac.num).q≠0=>D3 u h;generalize x.led.position k.spec.num ac.num=Q at h1 y m|-;refine au ?_;refine Gs.Ib (λO=>?_) λO=>?_
  ·rw[aa (by simpa using O)]at h1;have m:=m (by simpa using O);refine au ?_;refine Gs.X (λw z=>iH fR CP sI (bM _) w z) ?_;refine au ?_;refine QQ (S:=x) (t:=t) (f:=f) (lf:=lf) (tr:=tr) (by rw[j];exact o) u m y ⟨⟨qZ,qZ,qZ⟩,qZ⟩ (λt' D' e f' F N T k1 k2 k3=>?_);obtain⟨W,G,-⟩:=LJ u (a:=ac.num) (q:=Q.q) (r:=qS f lf tr) m;rw[k1]at h1 W G
   dsimp only at h1 W G
   rw[G,j]at k2;refine au ?_;refine Gs.Ib (λR=>?_) λR=>?_
   ·rw[ae (by simpa using R)]at h1;refine au ?_;exact(H .ret ⟨t',D',e,f',F,N,T⟩ _ ⟨rfl,h1.symm,k2,G.trans j,by dsimp only;omega⟩).fin
   ·rw[aa (by simpa using R)]at h1;obtain rfl:e=0:=by simpa using R
    exact(p ⟨t',D',0,f',F,N,T⟩ _ ⟨h1,k2,W,G.trans j,by dsimp only;push_cast;omega,by dsimp only;omega⟩).fin
  ·rw[ae (by simpa using O)]at h1;exact(p ⟨t,B,Z,f,lf,tr,x⟩ _ ⟨h1,o,u,j,by dsimp only;push_cast;omega,by dsimp only;omega⟩).fin
 ·rintro⟨t,B,Z,f,lf,tr,x⟩ d ⟨h1,o,u,j,P,Y⟩
  dsimp only at h1 o j Y|-
  rw[eE]at h1;rw[<-h1]at C;refine Gs.ak (au ?_);refine Gs.tw ?_;refine au ?_;refine Gs.idn (Gs.uin ?_);have:=C t (none,0) (none,0) B (by dsimp only[pP];rw[j];exact o) ⟨by dsimp only[pP];omega,aH _,aH _⟩
  dsimp only[pP,List.length_nil]at this
  exact this.fin
 ·rintro cd ⟨t,B,Z,f,lf,tr,x⟩ d ⟨rfl,h1,o,j,P⟩
  dsimp only at h1 o j P|-
  rw[h1]at C;refine Gs.akr ?_;refine Gs.tw ?_;refine au ?_;refine Gs.idn (Gs.uin ?_);have:=C t (none,0) (none,0) B (by dsimp only;rw[j];exact o) ⟨by dsimp only;omega,aH _,aH _⟩
  dsimp only[List.length_nil]at this
  exact this.fin
 ·show eG _ (V0 V 0::pt p2 (YO ac) 100::YQ p0 v::pt U OS vg::Bm (ez (none,0) 0) []::vs v c l mb md A D S L);exact iP
end
end Go.Proofs
namespace Go.Proofs
open Go Go.Vc
attribute [go_sem] cm0 cm2
section
variable{L L0 M:List As}{φ:WP}{K:Value->WP}{k0:WP}{v c l mb md b mw:Nat}{A:List (Int×Nat)}{D:List (Int×Value)}{S:bt}{n a:Int}{X:bJ}{bk:Int->Bk}{bd:Int->List Od}{s:Vt_}{os:List Od}{C:oR}{B:Bk}
def Qj{s:Sp}(e:s.Fit)(i:Gs (oz c (fM C s).2::M) (K (gI (fM C s).1)))(p:eG L (oz c C::M):=by exact fR):Gs L (Cw pQ 134 #[fO c,.agg (eV s).toArray] K):=
 Gs.old (A:=oz c C) (val:=λ_:Unit=>_) (p:=λ_=>True) (B:=λ_=>oz c (fM C s).2) (λw F _ q K h=>Q4 q e λf g j k d=>h () g f trivial j k d) (λ_ _=>i) p
def PY(d:∀b,Gs (Cy b Bk.empty::L) (K (fi b))):Gs L (Cw pQ 52 #[] K):=
 Gs.nw (φ:=λk=>Cw pQ _ _ k) (val:=fi) (p:=λ_=>True) (B:=λb=>Cy b Bk.empty) (λw y K h=>Ha λb F e q m nn=>h b e F trivial q m nn) (λb _=>d b)
def L2(P:lk A n=none)(E:Gs (sH (put A n b) (eS bk n B)::M) φ)(p:eG L (Cy b B::sH A bk::M):=by exact iP):Gs L φ:=⟨λw ⟨F,z⟩=>by
 obtain⟨i,N,h1,⟨u,F3,⟨r,q⟩,I,G,H⟩,J,O⟩:=(p.out w F).1 z;have no:∀{m x},(lk A m).isSome=true->r m x->¬i x:=λj d o=>J _ o ((H _).2 (.inl ((q.f _).2 ⟨_,trivial,j,d⟩)));have e:∀m,lk (put A n b) m=if n=m then some b else lk A m:=λm=>lm ..
 refine E.go w (Ss.cons.2 ⟨λx=>i x\/u x,F3,⟨λm x=>if m=n then i x else(lk A m).isSome=true/\r m x,λm t _ h=>?_,λm k x _ _=>?_,λx=>?_⟩,I,λx d o=>?_⟩)
 ·rw[e]at h;by_cases f:m=n
  ·subst f;rw[ae rfl]at h;cases h;simp only[cQ,df];exact h1
  ·rw[aa λe=>f e.symm]at h;rw[eR _ _ _ f];simpa [f,h]using q.q m t trivial h
 ·by_cases f:m=n<;>by_cases g:k=n<;>simp only[f,g,df,dg]
  ·simp
  ·grind
  ·grind
  ·exact λh y=>q.dj m k x trivial trivial h.2 y.2
 ·rw[q.f];constructor
  ·rintro(h|⟨m,-,j,d⟩)
   ·grind
   ·grind
  ·rintro⟨m,-,j,d⟩;by_cases f:m=n
   ·grind
   ·grind
 ·rcases d with d|d
  ·grind
  ·exact G x d o⟩
def Gs.bA{P:Program}{t:TypeId}{k:Value->WP}(e:nj P t=true)(d:∀b,Gs (pt b (jf P t) t::L) (k (bO b 0))):Gs L (Xw P (uK t) k):=⟨λw y=>by
 refine rC e ((d _).go _ (y.new ((aR.refl _ w).alloc _) (F' :=λx=>x=w.heap.size) ⟨?_,λ_=>aG⟩ λx f=>qZ));rw[vJ,ae rfl]⟩
def ak1(v c l mb md:Nat)(x:Int×Rp×bt)(L:List As)(K:Value->WP):Prop:=∀A,Sg v c l mb md A x L K
def pI.list{C C' :List Ct}(h:pI A D C bk)(i:cj C n=none)(hC:∀m,(cj C' m).isSome=(decide (n=m)||(cj C m).isSome)):pI (Go.Vc.put A n b) D C' (eS bk n Bk.empty)/\lk A n=none:=by
 have g:lk A n=none:=by
  have:=h.dom n;rw[i]at this;cases f:lk A n with
  |none=>rfl
  |some x=>rw[f]at this;cases this
 refine⟨⟨λm=>?_,λm d=>?_,λm d=>?_⟩,g⟩
 ·rw[lm,hC];by_cases e:n=m
  ·rw[ae e];simp[e]
  ·rw[aa e,h.dom m];simp[e]
 ·rw[hC,h.dod m d,Bool.or_true]
 ·rw[lm]at d;by_cases e:n=m
  ·grind
  ·rw[aa e]at d;rw[eR _ _ _ λh=>e h.symm];exact h.nbk m d
def Mj{x:Cm}(k:pI A D S.cal.l S.bk)(i:S.Ok)(hx:x.Fit)(hK:ak1 v c l mb md (S.done x) L K)(pk:eG L0 (vs v c l mb md A D S L):=by exact iP):Gs L0 (Cw pQ 48 #[ec v,zF x] K):=by
 refine Gs.pk ?_ pk;refine sN Tryz.func48 ?_;unfold ec;have hxf:=hx;obtain⟨f1,f2,f3,f4,f5,f6,f7,f8,f9⟩:=hxf;have d:=hK A;refine au ?_;intro p;refine au ?_;intro q;refine au ?_;refine Gs.Ib (λh=>?_) λh=>?_
 ·have F:S.done x=((S.led.deposit x.acct x.amt).1,kI,{S with led:=(S.led.deposit x.acct x.amt).2}):=by unfold bt.done;rw[ae (by simpa using h)]
  refine au ?_;refine JU f2 ?_;refine au ?_;exact d.fail F (D:=D) k
 have Q:¬x.kind=1:=by simpa using h
 refine au ?_;refine Gs.Ib (λh=>?_) λh=>?_
 ·have F:S.done x=((if(S.led.withdraw x.acct x.amt).1≠0 then(S.led.withdraw x.acct x.amt).1 else if(({S with led:=(S.led.withdraw x.acct x.amt).2}:bt).acc x.acct).dfl=true then 120 else({S with led:=(S.led.withdraw x.acct x.amt).2}:bt).bears x.acct),kI,{S with led:=(S.led.withdraw x.acct x.amt).2}):=by unfold bt.done;rw[aa Q,ae (by simpa using h)]
  refine au ?_;refine Gs.WX (λw z=>iH fR LS H9 (fL x) w z) ?_;refine Fq k i hx ?_;refine au ?_;exact d.fail F (D:=D) k
 have W:¬x.kind=2:=by simpa using h
 refine au ?_;refine Gs.Ib (λh=>?_) λh=>?_
 ·have F:S.done x=((fM S.cal x.spec).1,kI,if(fM S.cal x.spec).1=0 then{S with cal:=(fM S.cal x.spec).2,bk:=eS S.bk x.spec.num Bk.empty}else{S with cal:=(fM S.cal x.spec).2}):=by unfold bt.done;rw[aa Q,aa W,ae (by simpa using h)]
  have R:=λh=>MH (C:=S.cal) (s:=x.spec) h;have V:=λh=>NY (C:=S.cal) (s:=x.spec) h;obtain⟨Y,hY⟩:=di (fM S.cal x.spec);rw[<-hY]at F R V;obtain⟨e,C⟩:=Y
  dsimp only at F R V
  refine Gs.j (λ_:List (Int×Nat)=>(gI e,())) (λA' =>pt q OS vg::vs v c l mb md A' D (S.done x).2.2 L) (λA' =>pI A' D (S.done x).2.2.cal.l (S.done x).2.2.bk) (λJ H=>?_) λA' Z=>?_
  ·refine au ?_;refine Gs.WX (λw z=>jh zi we (br _) (Rx (td fR z))) ?_;refine Qj f6 ?_;rw[<-hY];rw[F]at H
   dsimp only at H|-
   refine au ?_;refine Gs.Ib (λN=>?_) λN=>?_
   ·obtain rfl:e=0:=by simpa using N
    rw[ae rfl]at H;obtain⟨l1,l2⟩:=R rfl;refine au ?_;refine PY (λnb=>?_);refine au ?_;obtain⟨h1,h2⟩:=k.list (C' :=C.l) (b:=nb) l1 (λm=>by rw[l2];by_cases e:x.spec.num=m<;>simp[e]);refine Gs.mup (enc:=eY) (ev:=fi) (x:=x.spec.num) (v:=nb) xM lu ?_ fR;refine L2 (n:=x.spec.num) h2 ?_;exact(H _ h1).fin
   ·have N:¬e=0:=by simpa using N
    rw[aa N]at H;exact(H A (by dsimp only;rw[V N];exact k)).fin
  refine Gs.z ?_;rw[F]at Z|-
  dsimp only at Z|-
  refine au ?_;exact(hK A').fail (D:=D) F Z
 have n3:¬x.kind=3:=by simpa using h
 refine au ?_;refine Gs.Ib (λh=>?_) λh=>?_
 ·have F:S.done x=((jS S.cal x.ct x.on).1,kI,{S with cal:=(jS S.cal x.ct x.on).2}):=by unfold bt.done;rw[aa Q,aa W,aa n3,ae (by simpa using h)]
  refine au ?_;refine QL ?_;refine au ?_;exact d.fail F (D:=D) (k.cal λm=>RV ..)
 have n4:¬x.kind=4:=by simpa using h
 refine au ?_;refine Gs.Ib (λh=>?_) λh=>?_
 ·have F:S.done x=((fS S.cal x.ct x.price).1,kI,{S with cal:=(fS S.cal x.ct x.price).2}):=by unfold bt.done;rw[aa Q,aa W,aa n3,aa n4,ae (by simpa using h)]
  refine au ?_;refine G0 ?_;refine au ?_;exact d.fail F (D:=D) (k.cal λm=>He ..)
 have O:¬x.kind=11:=by simpa using h
 refine au ?_;refine Gs.Ib (λh=>?_) λh=>?_
 ·have F:S.done x=S.settle:=by unfold bt.done;rw[aa Q,aa W,aa n3,aa n4,aa O,ae (by simpa using h)]
  rw[F]at d;refine IQ k i (λt g u o j E=>?_);generalize S.settle=Y at d j E|-;refine au ?_;exact(d t g u o j E).fin
 have U:¬x.kind=12:=by simpa using h
 refine au ?_;refine Gs.Ib (λh=>?_) λh=>?_
 ·have F:S.done x=S.expire x.ct:=by unfold bt.done;rw[aa Q,aa W,aa n3,aa n4,aa O,aa U,ae (by simpa using h)]
  rw[F]at d;refine au ?_;refine IV k i (λt g u o j E=>?_);generalize S.expire x.ct=Y at d j E|-;refine au ?_;exact(d t g u o j E).fin
 have n14:¬x.kind=14:=by simpa using h
 have f:S.done x=if x.acct=0 then(2,kI,S)else if x.kind=6 then S.cancel x else if x.kind=7 then S.replace x else if S.led.getO x.acct=none then(7,kI,S)else if x.kind=5 then S.place x else if x.kind=9 then S.bid x else
   if x.kind=8 then(if x.ct≠0/\(dO S.cal.l x.ct).2≠0 then((dO S.cal.l x.ct).2,kI,S)else(0,{kI with gone:=(S.clear x.acct x.ct).1},(S.clear x.acct x.ct).2))else
   if x.kind=10 then(((if x.on then(S.clear x.acct 0).2 else S).led.set {S.acc x.acct with kil:=x.on}).1,(if x.on then{kI with gone:=(S.clear x.acct 0).1}else kI),{(if x.on then(S.clear x.acct 0).2 else S)with led:=((if x.on then(S.clear x.acct 0).2 else S).led.set {S.acc x.acct with kil:=x.on}).2})else
   if x.kind=13 then S.liquidate (S.acc x.acct)else(0,kI,S):=by unfold bt.done;rw[aa Q,aa W,aa n3,aa n4,aa O,aa U,aa n14]
 clear Q W n3 n4 O U n14;refine au ?_;refine Gs.Ib (λh=>?_) λh=>?_
 ·rw[ae (by simpa using h)]at f;refine au ?_;exact d.fail f (D:=D) k
 have ha:x.acct≠0:=by simpa using h
 rw[aa ha]at f;refine au ?_;refine Gs.Ib (λh=>?_) λh=>?_
 ·rw[ae (by simpa using h)]at f;rw[f]at d;refine Gs.X (λw z=>iH fR LS H9 (fL x) w z) ?_;refine JN k i hx (λt g u o j E=>?_);generalize S.cancel x=Y at d j E|-;refine au ?_;exact(d t g u o j E).fin
 rw[aa (by simpa using h)]at f;refine au ?_;refine Gs.Ib (λh=>?_) λh=>?_
 ·rw[ae (by simpa using h)]at f;rw[f]at d;refine Gs.X (λw z=>iH fR LS H9 (fL x) w z) ?_;refine GI k i hx ha (λt g u o j E=>?_);generalize S.replace x=Y at d j E|-;refine au ?_;exact(d t g u o j E).fin
 rw[aa (by simpa using h)]at f;refine Gs.j (λr:Nat=>(.pointer (some ⟨r,0,none⟩),gI (if S.led.getO x.acct=none then 7 else 0),())) (λr=>pt r (YO (S.acc x.acct)) 100::pt q OS vg::pt p (ny x) tA::vs v c l mb md A D S L) (λ_=>True) (λJ H=>?_) λr _=>?_
 ·refine au ?_;refine Gs.An ?_ (au ?_)
  ·refine sj ?_;rw[oq S];refine au ?_;intro r;refine au ?_;exact(H r trivial).fin
  ·intro r;refine au ?_;refine sj ?_;rw[oq S];refine au ?_;exact(H r trivial).fin
 dsimp only
 refine Gs.z (au ?_);refine Gs.Ib (λh=>?_) λh=>?_
 ·have h:S.led.getO x.acct=none:=by simpa using h
  rw[ae h]at f|-;refine au ?_;exact d.fail f (D:=D) k
 have hg:¬S.led.getO x.acct=none:=by simpa using h
 rw[aa hg]at f|-;refine Gs.j (λ_:(Option Addr×Nat)×List (Int×Value)=>(gI 0,())) (λz=>pt q (CK 0 0 0 0 (.slice none 0 0) (ez z.1 (S.done x).2.1.gone.length) (.slice none 0 0)) vg::tL (ez z.1 (S.done x).2.1.gone.length) (S.done x).2.1.gone::vs v c l mb md A z.2 (S.done x).2.2 L) (λz=>S.done x=(0,{kI with gone:=(S.done x).2.1.gone},(S.done x).2.2)/\pI A z.2 (S.done x).2.2.cal.l (S.done x).2.2.bk/\(S.done x).2.1.gone.length<=1000000) (λJ H=>?_) λz hz=>?_
 ·refine au ?_;refine Gs.Ib (λh=>?_) λh=>?_
  ·rw[ae (by simpa using h)]at f;rw[f]at d;refine Gs.X (λw z=>iH fR LS H9 (fL x) w z) ?_;refine NE k i hx ha (λt g u o j E=>?_);generalize S.place x=Y at d j E|-;refine au ?_;exact(d t g u o j E).fin
  rw[aa (by simpa using h)]at f;refine au ?_;refine Gs.Ib (λh=>?_) λh=>?_
  ·rw[ae (by simpa using h)]at f;rw[f]at d;refine Gs.X (λw z=>iH fR LS H9 (fL x) w z) ?_;refine S7 k i hx ha (λt g u o j E=>?_);generalize S.bid x=Y at d j E|-;refine au ?_;exact(d t g u o j E).fin
  rw[aa (by simpa using h)]at f;refine au ?_;refine Gs.Ib (λh=>?_) λh=>?_
  ·rw[ae (by simpa using h)]at f;refine Gs.j (λ_:Unit=>(gI 0,())) (λ_=>pt q OS vg::pt p (ny x) tA::vs v c l mb md A D S L) (λ_=>¬(x.ct≠0/\(dO S.cal.l x.ct).2≠0)) (λJ2 I=>?_) λ_ hm=>?_
   ·refine au ?_;refine Gs.Ib (λhc=>?_) λhc=>?_
    ·refine Gs.j1 (gI (dO S.cal.l x.ct).2,()) (λJ3 hJ3=>?_) ?_
     ·refine au ?_;refine Gs.An ?_ ?_
      ·refine Az ?_;refine au ?_;refine Gs.bvar cV sI (bM _) cV (kH _) λr=>?_;exact hJ3.fin
      ·refine Gs.bA cV (λb=>?_);refine au ?_;refine Az ?_;refine au ?_;refine Gs.stY (cs' :=dA (dO S.cal.l x.ct).1) fR (bM _) sI (by rw[bM];exact Nat.le_of_ble_eq_true cV) (kH _) (lF (by rw[bM];kernel_rfl)) ?_;exact hJ3.fin
     refine Gs.z (au ?_);refine Gs.Ib (λN=>?_) λN=>?_
     ·rw[ae ⟨by simpa using hc,by simpa using N⟩]at f;refine au ?_;exact d.fail f (D:=D) k
     ·exact(I () λh=>h.2 (by simpa using N)).fin
    ·exact(I () λh=>h.1 (by simpa using hc)).fin
   rw[aa hm]at f;refine Gs.z (au ?_);refine zm k i.cal (λn=>i.ord.bdl n) (λy o j w2=>?_);have P:=su S x.acct x.ct;rw[f]at H
   dsimp only at H
   have w3:(S.clear x.acct x.ct).1.length<=1000000:=qZ;generalize S.clear x.acct x.ct=Y at H j w3 P|-;refine au ?_;exact(H (y,o) ⟨rfl,by rw[P];exact j,w3⟩).fin
  rw[aa (by simpa using h)]at f;refine au ?_;refine Gs.Ib (λh=>?_) λh=>?_
  ·rw[ae (by simpa using h)]at f;refine au ?_;obtain⟨G,hG⟩:=di (if x.on then(S.clear x.acct 0).1 else []);obtain⟨T,hT⟩:=di (if x.on then(S.clear x.acct 0).2 else S);have P:=su S x.acct 0;have hgo:(if x.on then{kI with gone:=(S.clear x.acct 0).1}else kI)={kI with gone:=G}:=by rw[hG];split<;>rfl
   rw[hgo,<-hT]at f;refine Gs.j (λ_:(Option Addr×Nat)×List (Int×Value)=>()) (λz=>pt r (YO {S.acc x.acct with kil:=x.on}) 100::pt q (CK 0 0 0 0 (.slice none 0 0) (ez z.1 G.length) (.slice none 0 0)) vg::tL (ez z.1 G.length) G::vs v c l mb md A z.2 T L) (λz=>pI A z.2 T.cal.l T.bk/\G.length<=1000000) (λJ2 I=>?_) λz hz=>?_
   ·refine au ?_;refine Gs.Ib (λho=>?_) λho=>?_
    ·rw[ae ho]at hG hT;refine au ?_;refine zm k i.cal (λn=>i.ord.bdl n) (λy o j w2=>?_);rw[<-P,<-hT]at j;rw[<-hG]at w2|-;rw[<-hT];refine au ?_;exact(I (y,o) ⟨j,qZ⟩).fin
    ·rw[aa (by rw[ho];decide)]at hG hT;subst hG hT;refine Gs.idn ?_;have:=I ((none,0),D) ⟨k,aH _⟩
     dsimp only[List.length_nil]at this
     exact this.fin
   obtain⟨y,o⟩:=z;obtain⟨hz,hGl⟩:=hz
   dsimp only at hz|-
   refine Gs.z ?_;refine HB (X:=T.led) (λhTk=>?_);refine au ?_;refine EF (a:={S.acc x.acct with kil:=x.on}) (Mf i.led.led x.acct) ?_;rw[f]at d;generalize T.led.set {S.acc x.acct with kil:=x.on}=Y at d|-;refine au ?_;refine Gs.tdn (Gs.uin ?_);have:=d (none,0) y (none,0) o hz ⟨aH _,hGl,aH _⟩
   dsimp only[kI,List.length_nil]at this
   exact this.fin
  rw[aa (by simpa using h)]at f;refine au ?_;refine Gs.Ib (λh=>?_) λh=>?_
  ·rw[ae (by simpa using h)]at f;rw[f]at d;refine au ?_;refine CL (ac:=S.acc x.acct) k i (λt g u o j E=>?_);generalize S.liquidate (S.acc x.acct)=Y at d j E|-;refine au ?_;exact(d t g u o j E).fin
  rw[aa (by simpa using h)]at f;rw[f]at H;refine Gs.idn ?_;have:=H ((none,0),D) ⟨rfl,k,aH _⟩
  dsimp only[kI,List.length_nil]at this
  exact this.fin
 obtain⟨y,o⟩:=z;obtain⟨h1,h2,h3⟩:=hz
 dsimp only at h1 h2 h3|-
 rw[h1]at d;generalize(S.done x).2.1.gone=G at d h3|-;generalize(S.done x).2.2=T at d h2|-;refine Gs.z (au ?_);refine Gs.tdn (Gs.uin ?_);have:=d (none,0) y (none,0) o h2 ⟨aH _,h3,aH _⟩
 dsimp only[kI,List.length_nil]at this
 exact this.fin
end
end Go.Proofs
