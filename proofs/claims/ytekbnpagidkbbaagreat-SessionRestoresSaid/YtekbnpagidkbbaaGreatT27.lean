/- Part of a proof. -/
import Derived.Sort.AssemblyPlain
import Derived.Sort.LotD5
import Derived.Sort.Walk13a
import Derived.Test.YtekbnpagidkbbaaGreatT26
set_option linter.all false
set_option maxRecDepth 100000
set_option maxHeartbeats 4000000
namespace Go.Proofs
open Go Go.Vc
attribute [local go_sem] gk eK
section
variable{L L0 M:List As}{K:Value->WP}{s t:Vt_}{la lb:List (Int×Od)}{x:zi}{S:ba}{e1 e2 e3 e4 e5:Option Addr×Nat}
def L8(d:∀w,Ss w L->Rd w 6 s la.length (la.flatMap mH))(f:∀w,Ss w L->Rd w 6 t lb.length (lb.flatMap mH))(e:la=lb)(hl:lb.length<=100000)(g:Gs L (K (.bool true))):Gs L (Cw pQ 55 #[s,t] K):=by
 subst e;refine sN Tryz.func55 ?_;refine Gs.len zV d ?_;refine Gs.len zV f ?_;refine au ?_;refine Gs.len zV d ?_;refine Gs.l (λx:Nat=>(.bool false,gI x,())) (la.length - ·) (λ_=>L) (λx=>x<=la.length) 0 rfl (aw _) ?_ .refl;rintro i j o c
 dsimp only at j c|-
 refine Gs.z (au ?_);refine Gs.I (λm=>?_) λm=>?_
 ·have a:i<la.length:=qZ
  have it:∀{s:Vt_} {K:Value->WP},(∀w,Ss w L->Rd w 6 s la.length (la.flatMap mH))->Gs L (K (yY la[i]))->Gs L (Pw pQ (iX 56 s (gI (i:Int))) λp=>Ww pQ (iL 132 p) K):=λn h=>⟨λw y=>by
   obtain⟨b,l,e1,k⟩:=af9 (n w y) a;exact gP (λW=>e1 W _) (gC (JU k) (h.go w y))⟩
  refine Gs.D ?_;refine it d ?_;refine it f ?_;unfold yY mH dp;refine au ?_;exact c (i+1) a qZ
 ·refine au ?_;exact g
def YX(n:Int):eR (λ_:Int=>Bk.empty) n Bk.empty=λ_=>Bk.empty:=by
 funext m;unfold eR;split<;>rfl
def DK(u:x.Fit)(hl:x.accts.length<=100000/\x.cts.length<=100000/\x.poss.length<=1024/\x.ords.length<=100000/\x.bids.length<=100000)(X:zn x=some S)(o:∀v',Gs (nB v' S::L) (K (.tuple #[eE v',gI 0])))(p:bL L (yg (sT x e1 e2 e3 e4 e5) x::M):=by repeat first|(with_reducible exact cF)|(with_reducible apply cS)):Gs L (Cw pQ 16 #[RJ x.day x.next x.fund (sT x e1 e2 e3 e4 e5)] K):=by
 have o:=λv' =>Gs.pk (o v') (bL.cons p.symm);obtain⟨P,g,hso,hsb⟩:=EZ X;have hok:=(He u X).1;have ok0:=Mx P u;have hnx:=P.next;simp only[ll]at hnx;obtain⟨-,O⟩:=rA P.cts
 have m:∀{S:zi} {Q:Nat->Value} (i:Nat) (h1:3<=i) (h2:i<=7) {L:List As} {M},bL L (yg Q S::M)->∀w,Ss w L->Rd w (stK i) (Q i) (LN S.accts S.cts S.poss S.ords S.bids i) (LC S.accts S.cts S.poss S.ords S.bids i):=by
  intro S Q i h1 h2 L M p w y;exact(fg p y).elim λF h=>(h.1 i h1 h2).rd
 unfold zp at g;cases hO:oJ x.ords [] (tM x)with
 |none=>rw[hO]at g;cases g
 |some z=>
 rw[hO]at g;obtain⟨U1,T1⟩:=z;have g:qR x.bids none 0 U1 T1=some S:=g;refine Gs.pk ?_ p;refine sN Tryz.func16 ?_;unfold RJ Zy;simp only[sS];refine au ?_;intro sb;refine au ?_;refine IK (B:=yg (sT x e1 e2 e3 e4 e5) x) P.len P.cts u.cts u.day (m 4 (by decide) (by decide)) (λc=>?_) (by repeat first|(with_reducible exact cF)|(with_reducible apply cS));refine au ?_;refine RZ (B1:=yg (sT x e1 e2 e3 e4 e5) x) P.led hl.2.2.1 u.accts u.poss (m 3 (by decide) (by decide)) (m 5 (by decide) (by decide)) (λl=>?_) (by repeat first|(with_reducible exact cF)|(with_reducible apply cS));refine au ?_;refine Gs.j1 (.bool false,()) (λJ hJ=>?_) ?_
 ·refine au ?_;refine Gs.I0 qZ ?_;refine au ?_;rw[aG (by omega:¬4611686018427387905<x.next)];exact hJ
 refine Gs.z (Gs.If ?_);refine Gs.mkB (λmb=>?_);refine Gs.mkD (λmd=>?_);refine au ?_;intro v;refine au ?_;intro pb;refine au ?_;refine RR (bk:=λ_=>Bk.empty) ?_;refine uW (C:=⟨x.day,x.cts⟩) (λgv=>?_);refine Gg.rf (L:=lT c ⟨x.day,x.cts⟩::jV l ⟨x.fund,x.accts,x.poss⟩::Lm md []::pt sb [.int .u32 x.day,gQ x.next,gI x.fund,.slice e1.1 x.accts.length e1.2,.slice e2.1 x.cts.length e2.2,.slice e3.1 x.poss.length e3.2,.slice e4.1 x.ords.length e4.2,.slice e5.1 x.bids.length e5.2] 58::yg (sT x e1 e2 e3 e4 e5) x::M) (λ_ _ _ _=>rfl) (Ec _) (I:=λi (a:List (Int×Nat)) Y=>pt pb [.pointer (some ⟨v,0,none⟩)] 24::TO v c l mb md x.next::Ld mb a::qG a (λ_=>Bk.empty)::Y) (E:=λ(_:Unit) Y=>Y) (λ_ _ _=>rfl) (λ_ _=>rfl) (λi a=>∀n,(lk a n).isSome=true↔∃k∈x.cts.take i,k.spec.num=n) (λ_ _=>False) [] (λn=>by simp[lk]) ?_ ?_ (λ_ _ _ (h:False)=>h.elim) (by repeat first|(with_reducible exact bL.refl)|((apply kp);(·repeat first|(with_reducible exact cF)|(with_reducible apply cS))))
 ·rintro i hi a R l1 r1 q Y kn kj T -
  dsimp only at R T|-
  have G:lk a x.cts[i].spec.num=none:=by
   cases hl:lk a x.cts[i].spec.num with
   |none=>rfl
   |some b=>
    obtain⟨k,o,hn⟩:=(R _).1 (by rw[hl];rfl);have h1:k.spec.num<x.cts[i].spec.num:=wY O hi o;omega
  have U:∀b n,(lk (put a x.cts[i].spec.num b) n).isSome=true↔∃k∈x.cts.take (i+1),k.spec.num=n:=λb n=>by
   rw[lL,bV hi];by_cases e:x.cts[i].spec.num=n
   ·exact⟨λ_=>⟨_,er _ (List.mem_singleton_self _),e⟩,λ_=>by rw[ab e];rfl⟩
   ·rw[aa e,R];exact⟨λ⟨k,o,h⟩=>⟨k,cD _ o,h⟩,λ⟨k,o,h⟩=>⟨k,(aN.1 o).resolve_right λZ=>e (by rw[<-bX.1 Z];exact h),h⟩⟩
  generalize x.cts[i]=k at G U|-;refine au ?_;refine GE (λb=>?_);refine au ?_;refine Gs.mup (enc:=eS) (ev:=fe) (D:=a) (x:=k.spec.num) (v:=b) xw kL ?_ (by repeat first|(with_reducible exact cF)|(with_reducible apply cS));refine Fx (A:=a) (n:=k.spec.num) G ?_;rw[YX];exact(T (put a k.spec.num b) _ (U b)).fin
 rintro a d R;rw[aL]at R
 have hv:nQ a [] (tM x).cal.l (tM x).bk:=⟨λn=>by
  rw[bT,R n,<-sV (S:=tM x)];unfold ba.nums;rw[aD];exact aI,λn h=>(by cases h),λ_ _=>rfl⟩
 refine PM ?_;refine Gs.fin (M:=TO v c l mb md x.next::lT c ⟨x.day,x.cts⟩::jV l ⟨x.fund,x.accts,x.poss⟩::Ld mb a::Lm md []::qG a (λ_=>Bk.empty)::tq [] (λ_=>[])::yg (sT x e1 e2 e3 e4 e5) x::HA d::pt pb [.pointer (some ⟨v,0,none⟩)] 24::pt sb [.int .u32 x.day,gQ x.next,gI x.fund,.slice e1.1 x.accts.length e1.2,.slice e2.1 x.cts.length e2.2,.slice e3.1 x.poss.length e3.2,.slice e4.1 x.ords.length e4.2,.slice e5.1 x.bids.length e5.2] 58::M) ?_;show Gs (vs v c l mb md a [] (tM x) _) _;refine Gs.ak (au ?_);refine Gs.l (λj:Nat=>(.pointer none,gI 0,gI j,())) (x.poss.length - ·) (λ_=>vs v c l mb md a [] (tM x) _) (λj=>j<=x.poss.length) 0 rfl (aw _) ?_ .refl;rintro j hj K1 H
 dsimp only at hj H|-
 refine Gs.z (au ?_);refine Gs.I (λh=>?_) λh=>?_
 ·have N:j<x.poss.length:=qZ;have V:bt (tM x).cal.l x.poss[j].c=0:=P.poss _ (ar N);refine Gs.it (f:=dR) (vf:=mK) Su cH (λ_=>rfl) Wq (m (S:=x) (Q:=sT x e1 e2 e3 e4 e5) 5 (by decide) (by decide) (by repeat first|(with_reducible exact cF)|(with_reducible apply cS))) rfl N ?_;generalize x.poss[j]=z at V|-;unfold mK;refine au ?_;intro r;refine au ?_;refine DH (S:=tM x) (n:=z.c) V ?_;refine au ?_;refine Gs.bvar XL qp (bC _) X4 (g9 _) λr2=>?_;refine au ?_;exact(H (j+1) N qZ).fin
 ·clear H;refine au ?_;refine Qx (s:=x) (S:=tM x) u ⟨qZ,qZ⟩ (λn hn=>?_) hv hO g (λD' hv' =>?_)
  ·unfold bt at hn;unfold dw;cases Z:bU (tM x).cal.l n with
   |none=>rw[Z]at hn;cases hn
   |some k=>exact(u.cts k (pI Z)).1
  refine au ?_;refine pM (C:=S.cal) hv' ?_;refine Cq hok (λa3 a4 a5 a6 a7=>?_);unfold RJ Zy;simp only[sS];refine au ?_;intro tb;refine au ?_;have W:=λ{L M}=>m (S:=S.state) (Q:=sT S.state a3 a4 a5 a6 a7) (L:=L) (M:=M);have IG:=λ{L M}=>m (S:=x) (Q:=sT x e1 e2 e3 e4 e5) (L:=L) (M:=M);refine Gs.j1 (.bool false,()) (λJ hJ=>?_) ?_
  ·refine au ?_;refine L8 (la:=S.state.ords) (lb:=x.ords) (W 6 (by decide) (by decide) (by repeat first|(with_reducible exact cF)|(with_reducible apply cS))) (IG 6 (by decide) (by decide) (by repeat first|(with_reducible exact cF)|(with_reducible apply cS))) hso qZ ?_;refine au ?_;refine L8 (la:=S.state.bids) (lb:=x.bids) (W 7 (by decide) (by decide) (by repeat first|(with_reducible exact cF)|(with_reducible apply cS))) (IG 7 (by decide) (by decide) (by repeat first|(with_reducible exact cF)|(with_reducible apply cS))) hsb qZ ?_;refine au ?_;exact hJ
  refine Gs.z (Gs.If ?_);refine au ?_;refine Gs.tw ?_;exact(o v).fin
end
section
variable{L M:List As}{K:Value->WP}{s:Vt_}{x:zi}{S:ba}
def Pr(g:x.Fit)(hl:x.accts.length<=64/\x.cts.length<=16/\x.poss.length<=1024/\x.ords.length<=3200/\x.bids.length<=800)(C:∀k∈x.cts,k.spec.may=true)(j:zn x=some S)(i:(lH x).length<=1000000000)
  (n:∀a b c d e,Gs (yg (sT x a b c d e) x::ow s 5 1 (lH x).length (bv (lH x))::M) (K (.tuple #[RJ x.day x.next x.fund (sT x a b c d e),gI 0])))(p:bL L (ow s 5 1 (lH x).length (bv (lH x))::M):=by repeat first|(with_reducible exact bL.refl)|((apply kp);(·repeat first|(with_reducible exact cF)|(with_reducible apply cS)))):Gs L (Cw pQ 40 #[s] K):=by
 have e:lH x=dL x.day++(dL x.next++(oR x.fund++(vy I5 x.accts++(vy JX x.cts++(vy Jn x.poss++(vy FO x.ords++(vy FO x.bids++[]))))))):=by unfold lH;rw[aC]
 generalize lH x=l at i n p e;obtain⟨D,E,A,B,z⟩:=hl;refine Gs.pk ?_ p;refine sN Tryz.func40 ?_;refine au ?_;intro q;refine au ?_;refine Vq i (λr=>?_) (by repeat first|(with_reducible exact bL.refl)|((apply kp);(·repeat first|(with_reducible exact cF)|(with_reducible apply cS))));unfold fJ;refine au ?_;intro c;refine au ?_;intro b;refine Gs.rvr ?_;refine Gs.rdt e ?_ (by repeat first|(with_reducible exact bL.refl)|((apply kp);(·repeat first|(with_reducible exact cF)|(with_reducible apply cS))));refine au ?_;refine vj g.day ?_;refine au ?_;refine Mp g.next ?_;refine au ?_;refine tf g.fund ?_;refine au ?_;refine JZ (most:=64) rfl D (by decide) (λy f t K L h=>Gs.fw (Vj (g.accts y f) h)) (λo k3=>?_) (by repeat first|(with_reducible exact bL.refl)|((apply kp);(·repeat first|(with_reducible exact cF)|(with_reducible apply cS))));refine au ?_;refine Kg (most:=16) rfl E (by decide) (λy f t K L h=>Gs.fw (UU (g.cts y f) (C y f) h)) (λv k4=>?_) (by repeat first|(with_reducible exact bL.refl)|((apply kp);(·repeat first|(with_reducible exact cF)|(with_reducible apply cS))));refine au ?_;refine Jp (most:=1024) rfl A (by decide) (λy f t K L h=>Gs.fw (U6 (g.poss y f) h)) (λu k5=>?_) (by repeat first|(with_reducible exact bL.refl)|((apply kp);(·repeat first|(with_reducible exact cF)|(with_reducible apply cS))));refine au ?_;refine Cr (most:=3200) rfl B (by decide) (λy f t K L h=>Gs.fw (LZ (g.ords y f) h)) (λw k6=>?_) (by repeat first|(with_reducible exact bL.refl)|((apply kp);(·repeat first|(with_reducible exact cF)|(with_reducible apply cS))));refine au ?_;refine Cr (most:=800) rfl z (by decide) (λy f t K L h=>Gs.fw (LZ (g.bids y f) h)) (λm k7=>?_) (by repeat first|(with_reducible exact bL.refl)|((apply kp);(·repeat first|(with_reducible exact cF)|(with_reducible apply cS))));refine au ?_;refine uL ?_;refine au ?_;refine Gs.st5 (x:=x) ?_ (by repeat first|(with_reducible exact bL.refl)|((apply kp);(·repeat first|(with_reducible exact cF)|(with_reducible apply cS))));refine DK (e1:=(o,k3)) (e2:=(v,k4)) (e3:=(u,k5)) (e4:=(w,k6)) (e5:=(m,k7)) g ⟨qZ,qZ,qZ,qZ,qZ⟩ j (λF=>?_) (by repeat first|(with_reducible exact cF)|(with_reducible apply cS));refine au ?_;refine Gs.rdo ?_ (by repeat first|(with_reducible exact bL.refl)|((apply kp);(·repeat first|(with_reducible exact cF)|(with_reducible apply cS))));exact(n (o,k3) (v,k4) (u,k5) (w,k6) (m,k7)).fin
end
end Go.Proofs
namespace Go.Proofs
open Go Go.Vc
attribute [local congr] bj
end Go.Proofs
namespace Go.Proofs
open Go Go.Vc
attribute [local congr] bj
section
attribute [local irreducible] cL iB lG uh Jj
end
section
variable{w:Wt_}{K:be}{v:Vt_}{l:List UInt8}
end
end Go.Proofs
namespace Go.Proofs
open Go Go.Vc
def Nq{s:zi}(h:yd s):∀k∈s.cts,k.spec.may=true:=λk b=>by
 obtain⟨c,d,e,a⟩:=(rA h.cts).1 k b;unfold Sp.isPrice at a;exact(ah _ _▸a).1
def Oj{s:zi}{S:ba}(h:zn s=some S):s.accts.length<=64/\s.cts.length<=16/\∀k∈s.cts,k.spec.may=true:=by
 obtain⟨a,-,-,-⟩:=EZ h;exact⟨a.led.len,a.len,Nq a⟩
end Go.Proofs
namespace Go.Proofs
open Go Go.Vc
def wV{S:ba}(h:S.Ok):S.state.accts.length<=3200/\S.state.cts.length<=3200/\S.state.poss.length<=3200/\S.state.ords.length<=3200/\S.state.bids.length<=3200:=by
 obtain⟨⟨b,c,e⟩,a,d⟩:=C1 h;exact⟨qZ,qZ,qZ,qZ,qZ⟩
def A7{s:zi}(b:s.Fit)(hl:s.accts.length<=3200/\s.cts.length<=3200/\s.poss.length<=3200/\s.ords.length<=3200/\s.bids.length<=3200):(lH s).length<=100000000:=by
 obtain⟨f,hC,c,e,d⟩:=hl;have k:=gV s.day (by have:=b.day.2;omega);have j:=gV s.next (by have:=b.next.2;omega);have n:=nS b.fund;have p:=ti (g:=I5) (λx a=>I7 (b.accts x a)) f;have m:=ti (g:=JX) (λx a=>Kc (b.cts x a)) hC;have h:=ti (g:=Jn) (λx a=>I2 (b.poss x a)) c;have i:=ti (g:=FO) (λx a=>Em (b.ords x a)) e;have o:=ti (g:=FO) (λx a=>Em (b.bids x a)) d;unfold lH;simp only[ad];omega
section
variable{L L0 M:List As}{K:Value->WP}{v:Nat}{S:ba}{ss:Nat->Value}{s:Vt_}{l:List UInt8}
def UP(a:S.Ok)(b:∀s,Gs (ju s (lH S.state)::L) (K s))(p:bL L (yg ss S.state::M):=by repeat first|(with_reducible exact cF)|(with_reducible apply cS)):Gs L (Cw pQ 39 #[RJ S.state.day S.state.next S.state.fund ss] K):=
 Rm (qP a) (wV a) (λs=>Gs.pk (b s) (bL.cons p.symm)) p
def LJ(f:S.Ok)(i:∀s,Gs (ju s (lH S.state)::nB v S::L) (K (.tuple #[s,gI 0])))(p:bL L0 (nB v S::L):=by repeat first|(with_reducible exact cF)|(with_reducible apply cS)):Gs L0 (Cw pQ 11 #[eE v] K):=by
 refine Gs.pk ?_ p;refine wN λc l mb md A D g=>?_;refine sN Tryz.func11 ?_;refine HK g f (λm n r k j o q h=>?_);refine Gs.fin (M:=vs v c l mb md A D S L) ?_;refine pM (C:=S.cal) g ?_;refine Gs.V (v:=.bool false) (λw _=>by simp[go_sem,eE]) (Gs.If ?_);refine Cq f λa b c d e=>?_;refine UP f λs=>?_;exact(i s).fin
def Uc(f:S.Ok)(n:ut S)(h:∀x,Gs (nB x S::L) (K (.tuple #[eE x,gI 0])))(p:bL L (ju s (lH S.state)::M):=by repeat first|(with_reducible exact cF)|(with_reducible apply cS)):Gs L (Cw pQ 12 #[s] K):=by
 obtain⟨⟨k,r,o⟩,i,m⟩:=C1 f;have g:=JD f n;have h:=λx=>Gs.pk (h x) (bL.cons p.symm);refine Gs.pk ?_ p;refine sN Tryz.func12 ?_;refine Pr (qP f) ⟨k,qZ,o,i,m⟩ (Oj g).2.2 g (bK (A7 (qP f) (wV f)) (by decide)) (λa b c d e=>?_) (by repeat first|(with_reducible exact bL.refl)|((apply kp);(·repeat first|(with_reducible exact cF)|(with_reducible apply cS))));unfold RJ Zy;simp only[sS];refine au ?_;intro q;refine au ?_;refine DK (x:=S.state) (e1:=a) (e2:=b) (e3:=c) (e4:=d) (e5:=e) (qP f) ⟨qZ,qZ,qZ,qZ,qZ⟩ g (λj=>?_) (by repeat first|(with_reducible exact bL.refl)|((apply kp);(·repeat first|(with_reducible exact cF)|(with_reducible apply cS))));refine au ?_;exact(h j).fin
def Gs.str(a:Gs L (K (.string (qy l))))(p:bL L (ju s l::M):=by repeat first|(with_reducible exact cF)|(with_reducible apply cS)):Gs L (Xw pQ (sn 28 9 s) K):=
 ⟨λw y=>(fg p y).elim λF o=>QE vE cH cH o.1.rd (a.go w y)⟩
end
end Go.Proofs
namespace Go.Proofs
open Go Go.Vc
section
variable{L L0 M M2:List As}{B:As}{K:Value->WP}{s t val:Vt_}{l b g:List UInt8}{n m most r:Nat}{x:Int}{o:Bool}{f:FuncId}{args:Array Value}{y:Rs}
def rr{l:Nat}{r r' :Loop}{w:Wt_}(y:Ss w (pJ l r::M)):w.heap[l]? =some (.loop r)/\Ss (w.putObj l (.loop r')) (pJ l r' ::M):=
 ⟨(Ss.cons.1 y).elim λF h=>h.elim λ_ h=>h.1.1,y.upd λF h=>⟨F,⟨by rw[Dz,ab rfl,h.1];rfl,h.2⟩,(bn.refl F w).putObj (.inl ((h.2 _).2 rfl)) _,λ_ h=>.inl h⟩⟩
def Gs.gw{l:Nat}{r:Loop}{k:WP}(a:r.state=.ready)(h:Gs (pJ l {r with state:=.busy}::M) k)(p:bL L (pJ l r::M):=by repeat first|(with_reducible exact cF)|(with_reducible apply cS)):Gs L (Gw l k):=Gs.pk ⟨λw y=>pu (rr (r' :=r) y).1 a (h.go _ (rr y).2)⟩ p
def Xh(d:Nat)(after:List Nat->Option Code->WP):WP:=λW=>∃r,sM W (d+1) r/\r.state≠ .busy/\after [d] r.pending (W.putObj (d+1) (.loop {r with state:=.exhausted}))
def Gs.xh{d:Nat}{r:Loop}{a:List Nat->Option Code->WP}(c:r.state=.ready)(hp:r.pending=none)(h:Gs M (a [d] none))(p:bL L (pJ (d+1) r::M):=by repeat first|(with_reducible exact cF)|(with_reducible apply cS)):Gs L (Xh d a):=Gs.pk ⟨λw y=>⟨r,(rr (r' :=r) y).1,by rw[c];decide,by
 rw[hp];exact h.go _ (rr y).2.tail⟩⟩ p
def Gs.rfI{gv:Vt_}{A cs:Array Value}{k:Nat}{c:Nat->List Value->WP->(Code->WP)->WP}{a:List Nat->Option Code->WP}(E:gv=.func (.func f) A cs)
  (h:∀d r,r.state=.ready->r.pending=none->(∀{L M:List As} {x:LV_} {K:Value->WP},x.length=k->(∀j C,(∀{L M},Gs (pJ (d+1) r::M) (K (.bool true))->bL L (pJ (d+1) {r with state:=.busy}::M)->Gs L j)->Gs (pJ (d+1) r::M) (c (d+1) x j C))->bL L (pJ (d+1) r::M)->Gs L (Fw pQ (.func (.yield (d+1)) #[] #[]) x K))->
   Gs (pJ (d+1) r::HA d::L) (Cw pQ f ⟨A.toList++(.func (.yield (d+1)) #[] #[]::cs.toList)⟩ λ_=>Xh d a)):Gs L (Rw pQ none gv k c a):=⟨λw y=>rG.2 (by
 subst E;show∀F:Loop,_;intro r v hp G u;have e:(w.alloc (.deferred (some []))).heap.size=w.heap.size+1:=ci ..;rw[e]at u|-;refine(h w.heap.size r v hp (λ{L M x K} D i p=>Gs.pk ⟨λW z=>jf.2 ?_⟩ p)).go _ ?_
 ·show Yl pQ (w.heap.size+1) ⟨_⟩ W K;refine u _ W K D ⟨r.state,r.pending,(rr (r' :=r) z).1⟩ ((i _ _ λ{L M} g p=>Gs.pk ⟨λH q=>⟨_,(rr (r' :=r) q).1,?_⟩⟩ p).go W z);have:=g.go _ (rr (r' :=r) q).2;cases r;cases v;cases hp;exact this
 ·refine(y.new (B:=HA w.heap.size) (F' :=λb=>b=w.heap.size) ((bn.refl _ w).alloc _) ⟨by simp[go_sem],λ_=>aI⟩ λb i=>qZ).new (F' :=λb=>b=w.heap.size+1) ((bn.refl _ _).alloc _) ⟨by simp[go_sem],λ_=>aI⟩ λb i=>by rw[e];omega)⟩
def LW(c:By B s l)(a:Gs L (K (.bool (decide (y.e≠0)))))(p:bL L (rL r s l y::M):=by repeat first|(with_reducible exact cF)|(with_reducible apply cS))(q:bL M (B::M2):=by repeat first|(with_reducible exact cF)|(with_reducible apply cS)):Gs L (Cw pQ 168 #[fJ r] K):=⟨λw z=>EW (Lh c q (Ij p z)) (a.go w z)⟩
def YJ(d:By B s l)(c:Gs L (K (CH l y.at_)))(p:bL L (rL r s l y::M):=by repeat first|(with_reducible exact cF)|(with_reducible apply cS))(q:bL M (B::M2):=by repeat first|(with_reducible exact cF)|(with_reducible apply cS)):Gs L (Cw pQ 169 #[fJ r] K):=⟨λw z=>QX (Lh d q (Ij p z)) λa m=>c.go a (z.md0 m)⟩
def Gs.rdO{φ:WP}(h:y.at_<=l.length->Gs (pt r [s,gI y.at_,gI y.e] 260::M) φ):Gs (rL r s l y::M) φ:=Gs.fact (λw F h=>h.1.2) λa=>Gs.turn (A' :=pt r [s,gI y.at_,gI y.e] 260) (λw F h=>⟨h.1.1,h.2⟩) (h a)
def Gs.rdC{φ:WP}(hl:y.at_<=l.length)(h:Gs (rL r s l y::M) φ):Gs (pt r [s,gI y.at_,gI y.e] 260::M) φ:=Gs.turn (A' :=rL r s l y) (λw F h=>⟨⟨h.1,hl⟩,h.2⟩) h
def Gs.part{lo hi:Nat}{n:Nat}{k:Value->WP}(i:∀w,Ss w L->Rd w 1 s n (bv l))(h:lo<=hi/\hi<=n)(q:∀v,(∀w,Ss w L->Rd w 1 v (hi - lo) (bv ((l.drop lo).take (hi - lo))))->Gs L (k v)):Gs L (Pw pQ (Instr.sliceAt 28 s (some (gI (lo:Int))) (some (gI (hi:Int))) none) k):=⟨λw y=>by
 obtain⟨p,a,z,-⟩:=(i w y).part (P:=pQ) (lo:=lo) (hi:=hi) vE u8C h.1 h.2 .i64 .i64;refine gP a ((q p λj u=>?_).go w y);obtain⟨A,c,d,-⟩:=(i j u).part (P:=pQ) (lo:=lo) (hi:=hi) vE u8C h.1 h.2 .i64 .i64;have e:=(a w).symm.trans (c w);cases e;simpa [L5,U5]using d⟩
def NP(c:By B s l)(h:y.e≠0)(a:Gs L (K (.slice none 0 0)))(p:bL L (rL r s l y::M):=by repeat first|(with_reducible exact cF)|(with_reducible apply cS))(q:bL M (B::M2):=by repeat first|(with_reducible exact cF)|(with_reducible apply cS)):Gs L (Cw pQ 66 #[fJ r,gI x] K):=by
 refine sN Tryz.func66 ?_;refine LW c ?_ p q;exact Gs.I1 h a
def yV{a c:List UInt8}(j:By B s l)(u:l=a++(fT b++c))(I:x=most)(P:b.length<=most)(hl:most<9223372036854775808)(C:∀v,Gs (ju v b::rL r s l ⟨(a++fT b).length,0⟩::M) (K v))(p:bL L (rL r s l ⟨a.length,0⟩::M):=by repeat first|(with_reducible exact cF)|(with_reducible apply cS))(q:bL M (B::M2):=by repeat first|(with_reducible exact cF)|(with_reducible apply cS)):
  Gs L (Cw pQ 66 #[fJ r,gI x] K):=by
 subst I;have z:l.length=a.length+((eF b.length).length+(b.length+c.length)):=by rw[u];simp[fT]
 have H:=j.len
 have N:CH l a.length=.tuple #[.int .u64 b.length,gI (a.length+(eF b.length).length:Nat),gI 0]:=by
  unfold CH;rw[u,ck,fT,ag,wy _ qZ]
 have i:∀{A} w,Ss w (A::M)->Rd w 1 s l.length (bv l):=λw y=>(fg (cS q) y).elim λF h=>(j.of h).1;refine Gs.pk ?_ p;refine Gs.isRd i λsa sc e=>?_;refine sN Tryz.func66 ?_;refine LW j ?_ cF q;refine Gs.I0 (by simp) ?_;refine YJ j ?_ cF q;rw[N];subst e;unfold fJ;refine Gs.rdO λ_=>?_
 dsimp only
 refine au ?_;refine Gs.j1 (gI 0,()) (λJ G=>?_) ?_
 ·refine au ?_;refine Gs.I0 qZ ?_;refine au ?_;refine Gs.I0 qZ ?_;exact G
 refine Gs.z (au ?_);refine Gs.part (lo:=a.length+(eF b.length).length) (hi:=a.length+(eF b.length).length+b.length) i qZ (λv k=>?_);rw[fb]at k
 have D:(l.drop (a.length+(eF b.length).length)).take b.length=b:=by
  rw[u,<-cw,ck,fT,ag,ck,df]
 rw[D]at k;refine Gs.lit (sz:=1) [] vE O5 rfl rfl (λv h=>by cases h) (by decide) rfl rfl λd=>?_;refine au ?_;refine Gs.app (by_:=1) vE vE O5 (λw y=>k w y.tail) (yI _) qZ (λO E=>?_) cF;have:=C (.slice O b.length E);rw[show(a++fT b).length=a.length+(eF b.length).length+b.length by simp[fT,fd]]at this;rw[cI];refine Gs.pk ?_ .swap;exact Gs.rdC (y:=⟨a.length+(eF b.length).length+b.length,0⟩) (by dsimp only;omega) (Gs.pk this .swap)
def Cs(v:b.length<=1000000000)(k:By B t b)(i:∀e,Gs (ju e (l++fT b)::M) (K e))(p:bL L (ju s l::M):=by repeat first|(with_reducible exact cF)|(with_reducible apply cS))(q:bL M (B::M2):=by repeat first|(with_reducible exact cF)|(with_reducible apply cS))(u:l.length<=900000000:=by(try simp only[ad]);omega):Gs L (Cw pQ 73 #[s,t] K):=by
 have j:=fi (n:=b.length) qZ;have d:∀{A} w,Ss w (A::M)->Rd w 1 t b.length (bv b):=λw y=>(fg (cS q) y).elim λF h=>(k.of h).1;refine Gs.pk ?_ p;refine sN Tryz.func73 ?_;refine Gs.len vE d ?_;refine au ?_;refine rI (n:=b.length) qZ λs1=>?_;refine Gs.app (by_:=1) vE vE O5 d (yI _) (by simp only[ad];omega) (λa c=>?_) cF;have:=i (.slice a ((l++eF b.length).length+b.length) c);unfold fT ju at this;rw[<-ag, @ad _ (l++eF b.length),sX (l++eF b.length)]at this;exact this
end
end Go.Proofs
namespace Go.Proofs
open Go Go.Vc
variable {l:List UInt8}{k:Nat}{s:Rs}
def A8{b:List UInt8}{most:Nat}(h:b.length<=most)(d:most<18446744073709551616):BM (λl=>wq l most) b (fT b):=λL a r c=>by
 have:=Na (s:=⟨a.length,0⟩) (l:=L) (a:=a) (r:=r) (most:=most) (by rw[c];simp[fT]) rfl rfl h d;simpa [fT]using this
def oo(l:List UInt8)(s:Rs):Tn×Rs:=
 (⟨(ew l 63 s).1,(ew l 18446744073709551615 (ew l 63 s).2).1,(wq l 65536 (ew l 18446744073709551615 (ew l 63 s).2).2).1⟩,(wq l 65536 (ew l 18446744073709551615 (ew l 63 s).2).2).2)
def wu:Nat->List Tn->Prop
 |_,[]=>True
 |k,o::r=>k<=o.c/\o.c<64/\o.q≠0/\wu (o.c+1) r
def qf{m:Nat}(h:s.e≠0):ew l m s=(0,s):=by unfold ew;rw[ab h]
def we{m:Nat}(h:s.e≠0):wq l m s=([],s):=by unfold wq;rw[ab h]
def Og(h:s.e≠0):oo l s=(⟨0,0,[]⟩,s):=by unfold oo;simp only[qf h,we h]
def G0{a r:List UInt8}{o:Tn}{R:List Tn}(hl:l=a++(fl o++r))(i:o.c<18446744073709551616)(m:o.q<18446744073709551616)(n:o.b.length<=3000):
  (o.c<64/\oo l ⟨a.length,0⟩=(o,⟨(a++fl o).length,0⟩))\/((ew l 63 ⟨a.length,0⟩).2.e≠0/\¬wu k (o::R)):=by
 have c:l=a++(eF o.c++(eF o.q++fT o.b++r)):=by rw[hl];simp[fl]
 by_cases h:o.c<=63
 ·have d:=jR (most:=63) h i l a _ c;have f:=jR (most:=18446744073709551615) qZ m l (a++eF o.c) (fT o.b++r) (by rw[c];simp);have g:=A8 (most:=65536) (b:=o.b) qZ (by decide) l (a++eF o.c++eF o.q) r (by rw[c];simp);refine .inl ⟨qZ,?_⟩;simp only at d f g;unfold oo;simp only[d,f,g];simp[fl]
 ·refine .inr ⟨?_,λj=>h (by have:=j.2.1;omega)⟩
  have d:(ew l 63 ⟨a.length,0⟩).2.e=5:=by
   unfold ew;rw[aa (by simp)];have e:l.drop a.length=eF o.c++(eF o.q++fT o.b++r):=by rw[c,ck]
   simp only;rw[e,wy _ i];simp only;rw[ab qZ]
  rw[d];decide
def Ui{y:Rs}(h:(ew l 63 y).2.e≠0):(oo l y).2.e≠0:=by
 unfold oo;simp only[qf h,we h];exact h
def xH(k:Nat)(t:Tn×Rs):Rs:=if t.1.c<k\/t.1.q=0 then vT 5 t.2 else t.2
def Do{t:Tn×Rs}(h:t.2.e≠0):(xH k t).e≠0:=by
 unfold xH;split
 ·unfold vT;rw[ab h];exact h
 ·exact h
def Pq{n:Nat}{o:Tn}{R:List Tn}(h:o.c<64):(xH k (o,⟨n,0⟩)=⟨n,0⟩/\k<=o.c/\(wu k (o::R)↔wu (o.c+1) R))\/((xH k (o,⟨n,0⟩)).e≠0/\¬wu k (o::R)):=by
 unfold xH;by_cases b:o.c<k\/o.q=0
 ·refine .inr ⟨by rw[ab b];simp[vT],λa=>?_⟩;obtain⟨g,e,d,f⟩:=a;rcases b with c|c
  ·omega
  ·exact d c
 ·refine .inl ⟨aa b,qZ,λa=>a.2.2.2,λa=>⟨qZ,h,qZ,a⟩⟩
def z6(z:Tn×Value):Int×(Int×Value):=((z.1.c:Int),((z.1.q:Int),z.2))
structure RI(l pre:List UInt8)(rows:List Tn)(i:Nat)(y:Rs)(k:Nat)(D:List (Int×(Int×Value)))(Z:List (Tn×Value)):Prop where
 le:i<=rows.length
 len:Z.length=i
 kl:k<=64
 good:y.e=0->y.at_=(pre++(rows.take i).flatMap fl).length/\Z.map (·.1)=rows.take i/\D=Z.map z6/\(wu 0 rows↔wu k (rows.drop i))/\∀z∈Z,z.1.c<k
 bad:y.e≠0->¬wu 0 rows
def RI.zero{a:List UInt8}{rows:List Tn}:RI l a rows 0 ⟨a.length,0⟩ 0 [] []:=⟨aw _,rfl,aw _,λ_=>⟨by simp,by simp,rfl,aI,by simp⟩,λh=>absurd rfl h⟩
def JJ(o:Tn):Prop:=o.c<18446744073709551616/\o.q<18446744073709551616/\o.b.length<=3000
def RI.step{b tail:List UInt8}{rows:List Tn}{i:Nat}{y:Rs}{D:List (Int×(Int×Value))}{Z:List (Tn×Value)}{v:Vt_}(h:RI l b rows i y k D Z)(hl:l=b++(rows.flatMap fl++tail))(B:∀o∈rows,JJ o)(hi:i<rows.length):
  RI l b rows (i+1) (xH k (oo l y)) ((oo l y).1.c+1) (Go.Vc.put D ((oo l y).1.c:Int) (((oo l y).1.q:Int),v)) (Z++[((oo l y).1,v)]):=by
 have r:(oo l y).1.c<=63:=oP;have a:(Z++[((oo l y).1,v)]).length=i+1:=by rw[ad,h.len];rfl
 by_cases d:y.e=0
 ·obtain⟨t,x,G,j,u⟩:=h.good d;obtain⟨at_,e⟩:=y
  dsimp only at d t
  subst d;subst t;have q:rows.drop i=rows[i]::rows.drop (i+1):=bN hi
  have m:l=(b++(rows.take i).flatMap fl)++(fl rows[i]++((rows.drop (i+1)).flatMap fl++tail)):=by
   have:=ce i rows;rw[q]at this;rw[hl]
   conv=>lhs;rw[<-this,bD,aT]
   simp
  obtain⟨A,C,E⟩:=B _ (ar hi);rw[q]at j;rcases G0 (k:=k) (R:=rows.drop (i+1)) m A C E with⟨s,g⟩|⟨g,f⟩
  ·rw[g]at a|-;rcases Pq (k:=k) (n:=((b++(rows.take i).flatMap fl)++fl rows[i]).length) (R:=rows.drop (i+1)) s with⟨f,w,F⟩|⟨f,w⟩
   ·rw[f];refine⟨hi,a,s,λ_=>⟨?_,?_,?_,j.trans F,λz c=>?_⟩,λh=>absurd rfl h⟩
    ·rw[bV hi,bD,<-ag];simp
    ·rw[bV hi,aK,x];rfl
    ·rw[G,xy,aK]
     ·rfl
     ·intro p hp;obtain⟨z,c,rfl⟩:=aD.1 hp;have:=u z c;show((z.1.c:Nat):Int)≠((rows[i].c:Nat):Int);omega
    ·rcases aN.1 c with c|c
     ·have:=u z c;dsimp only;omega
     ·rw[bX.1 c];exact dv _
   ·exact⟨hi,a,by dsimp only;omega,λh=>absurd h f,λ_ h=>w (j.1 h)⟩
  ·exact⟨hi,a,qZ,λh=>absurd h (Do (Ui g)),λ_ h=>f (j.1 h)⟩
 ·have g:=Og (l:=l) d;exact⟨hi,a,qZ,λh=>absurd h (Do (by rw[g];exact d)),λ_=>h.bad d⟩
end Go.Proofs
namespace Go.Proofs
open Go Go.Vc
def DQ:Tryz.prog.underlying 158=some (.map 37 156):=cH
def ai3:fj pQ 37 1 8=true:=cH
def wK(p:Int×Value):Value:=.agg #[.int .u64 p.1,p.2]
abbrev CQ:TypeId:=160
abbrev mpt(m:Nat):Value:=cU m 0
abbrev Pa(mm:Nat)(D:List (Int×(Int×Value))):As:=mp qa wK mm D
def z7(Z:List (Tn×Value)):As:=⟨λw F=>(∀z∈Z,il w 5 1 z.2 z.1.b.length (bv z.1.b))/\∀b,F b↔∃z∈Z,aQ z.2 b,λh hb=>by
  obtain⟨z,hz,hb⟩:=(h.2 _).1 hb;exact(h.1 z hz).lt hb,λh m hg=>⟨λz hz=>(h.1 z hz).mod m λb hb=>hg b ((h.2 b).2 ⟨z,hz,hb⟩),h.2⟩⟩
section
variable{L L0 M M2:List As}{B:As}{K:Value->WP}{φ:WP}{v m mm r:Nat}{S:ba}{s:Vt_}{l a c:List UInt8}{y:Rs}{o:Tn}{Z:List (Tn×Value)}{D:List (Int×(Int×Value))}
def Vv(h:Gs (z7 []::L) φ):Gs L φ:=⟨λw y=>h.go w (y.new (bn.refl _ w) (F' :=λ_=>False) ⟨by simp,by simp⟩ λ_ h=>h.elim)⟩
def UE{t:Vt_}(h:Gs (z7 (Z++[(o,t)])::L) φ)(p:bL L0 (ju t o.b::z7 Z::L):=by repeat first|(with_reducible exact bL.refl)|((apply kp);(·repeat first|(with_reducible exact cF)|(with_reducible apply cS)))):Gs L0 φ:=Gs.pk ⟨λw y=>by
 obtain⟨f,A,e,⟨F3,n,g,q,u,x⟩,j⟩:=Ss.cons.1 y;refine h.go w (Ss.cons.2 ⟨λb=>f b\/F3 b,n,⟨λz d=>?_,λb=>?_⟩,q,λb k i=>k.elim (λh=>j b h ((x b).2 (.inr i))) λh=>u b h i⟩)
 ·rcases aN.1 d with d|d
  ·exact g.1 z d
  ·rw[bX.1 d];exact e.1
 ·show f b\/F3 b↔_;rw[e.2,g.2];simp[or_comm]⟩ p
def Zg{z:Value->Value->Value->WP}(j:By B s l)(h:y.e≠0\/y=⟨a.length,0⟩/\l=a++(fl o++c)/\JJ o)(e:∀t,Gs (ju t (oo l y).1.b::rL r s l (oo l y).2::M) (z (gQ ((oo l y).1.c:Nat)) (gQ ((oo l y).1.q:Nat)) t))(p:bL L (rL r s l y::M):=by repeat first|(with_reducible exact cF)|(with_reducible apply cS))(q:bL M (B::M2):=by repeat first|(with_reducible exact cF)|(with_reducible apply cS)):
  Gs L (Cw pQ 67 #[fJ r,gQ 63] λH=>Cw pQ 68 #[fJ r] λI=>Cw pQ 66 #[fJ r,gI 65536] λu=>z H I u):=by
 refine jK (most:=63) j rfl (by decide) ?_ p q;refine xO j ?_ cF q;unfold oo at e
 have f:(ew l 18446744073709551615 (ew l 63 y).2).2.e≠0->Gs (rL r s l (cL l Kr (cL l 63 y).2).2::M) (Cw pQ 66 #[fJ r,gI 65536] λu=>z (gQ (cL l 63 y).1) (gQ (cL l Kr (cL l 63 y).2).1) u):=λd=>by
  rw[we d]at e;refine NP j d ?_ cF q;refine Gs.nil 5 1 ?_;exact e (.slice none 0 0)
 rcases h with d|⟨rfl,i,C,E,J⟩
 ·exact f (by rw[qf d,qf d];exact d)
 ·rcases G0 (k:=0) (R:=[]) i C E J with⟨w,G⟩|⟨w,G⟩
  ·have A:=jR (n:=o.c) (most:=63) qZ C l a (eF o.q++fT o.b++c) (by rw[i];simp[fl]);have x:=jR (n:=o.q) (most:=18446744073709551615) qZ E l (a++eF o.c) (fT o.b++c) (by rw[i];simp[fl]);have g:l=a++eF o.c++eF o.q++(fT o.b++c):=by rw[i];simp[fl]
   have F:=A8 (b:=o.b) (most:=65536) qZ (by decide) l (a++eF o.c++eF o.q) c g;simp only at A x F;simp only[A,x,F]at e;unfold cL Kr;simp only[A,x];exact yV (most:=65536) j g rfl qZ (by decide) e cF q
  ·exact f (by rw[qf w];exact w)
end
end Go.Proofs
namespace Go.Proofs
open Go Go.Vc
section
variable{L L0 M M2:List As}{B:As}{K:Value->WP}{S:ba}{s:Vt_}{l tail:List UInt8}{rows:List Tn}
def K5(b:∀v m a,Gs (pt m [eE v,.map (some a)] CQ::nB v ba.empty::Pa a []::L) (K (mpt m))):Gs L (Cw pQ 27 #[] K):=by
 refine sN Tryz.func27 ?_;refine RD λv=>?_;refine Gs.mkM (enc:=qa) (ev:=wK) λa=>?_;unfold eE;refine au ?_;intro m;refine au ?_;have:=b v m a;unfold eE at this;exact this.fin
def I3(U:S.Ok)(hx:ut S)(hl:l=fT (lH S.state)++eF rows.length++(rows.flatMap fl++tail))(hn:rows.length<=20)(Q:l.length<=1000000000)(X:∀o∈rows,JJ o)
  (hg:wu 0 rows->tail=[]->∀v m q Z,Z.map (·.1)=rows->Gs (pt m [eE v,.map (some q)] CQ::nB v S::Pa q (Z.map z6)::z7 Z::ju s l::M) (K (.tuple #[mpt m,gI 0])))
  (hb:¬(wu 0 rows/\tail=[])->Gs (ju s l::M) (K (.tuple #[.pointer none,gI 5])))(p:bL L (ju s l::M):=by repeat first|(with_reducible exact cF)|(with_reducible apply cS)):Gs L (Cw pQ 25 #[s] K):=by
 have E:By (ju s l) s l:=By.own Q;refine Gs.pk ?_ p;refine sN Tryz.func25 ?_;refine EG E λr=>?_;refine K5 λv0 m q=>?_;refine Gs.len vE (mZ (s:=s) (by repeat first|(with_reducible exact cF)|(with_reducible apply cS))) ?_;have e0:(⟨0,0⟩:Rs)=⟨([]:List UInt8).length,0⟩:=rfl;rw[e0];refine yV (a:=[]) (b:=lH S.state) (c:=eF rows.length++(rows.flatMap fl++tail)) (most:=l.length) E (by rw[hl];simp) rfl (by rw[hl];simp[fT];omega) qZ λt=>?_;refine Uc U hx λv=>?_;refine au ?_;refine jK (most:=64) E rfl (by decide) ?_;have e1:=jR (n:=rows.length) (most:=64) qZ qZ l (fT (lH S.state)) (rows.flatMap fl++tail) (by rw[hl];simp);simp only at e1;unfold cL;simp only[cX,e1];generalize Y:fT (lH S.state)++eF rows.length=f at hl|-;refine Gs.fin (M:=rL r s l ⟨f.length,0⟩::Pa q []::pt m [eE v0,.map (some q)] CQ::nB v S::ju s l::M) ?_;refine Vv ?_;refine Gs.l (λx:Nat×Rs×Nat×List (Int×(Int×Value))×List (Tn×Value)=>(Value.int .u64 x.2.2.1,Value.int .u64 x.1,())) (rows.length - ·.1) (λx=>rL r s l x.2.1::Pa q x.2.2.2.1::z7 x.2.2.2.2::pt m [eE v0,.map (some q)] CQ::nB v S::ju s l::M) (λx=>RI l f rows x.1 x.2.1 x.2.2.1 x.2.2.2.1 x.2.2.2.2) (0,⟨f.length,0⟩,0,[],[]) rfl RI.zero ?_ (by dsimp only;exact(by repeat first|(with_reducible exact bL.refl)|((apply kp);(·repeat first|(with_reducible exact cF)|(with_reducible apply cS)))));rintro⟨i,y,k,D,Z⟩ C K1 O
 dsimp only at C O|-
 refine Gs.z (au ?_);refine Gs.I (λhi=>?_) λhi=>?_
 ·have A:i<rows.length:=qZ
  have P:y.e≠0\/y=⟨(f++(rows.take i).flatMap fl).length,0⟩/\l=(f++(rows.take i).flatMap fl)++(fl rows[i]++((rows.drop (i+1)).flatMap fl++tail))/\JJ rows[i]:=by
   by_cases g:y.e=0
   ·obtain⟨F,-⟩:=C.good g;refine .inr ⟨?_,hl.trans ?_,X _ (ar A)⟩
    ·cases y
     dsimp only at g F
     rw[g,F]
    ·have:=ce i rows;rw[bN A]at this
     conv=>lhs;rw[<-this,bD,aT]
     simp
   ·exact .inl g
  have I:=λv=>C.step (v:=v) hl X A;have G:(oo l y).1.c<=63:=oP;refine Zg E P λt=>?_;generalize oo l y=R at I G|-;refine Gs.isSl (λN H e=>?_) cF;subst e;refine au ?_;intro b;refine au ?_;refine Gs.j (λ_:Unit=>()) (λ_=>pt b [.int .u64 R.1.q,.slice N R.1.b.length H] 156::ju (.slice N R.1.b.length H) R.1.b::rL r s l (xH k R)::Pa q D::z7 Z::pt m [eE v0,.map (some q)] CQ::nB v S::ju s l::M) (λ_=>True) (λJ d=>?_) λ_ _=>?_
  ·have d:=d () trivial;unfold xH at d;refine Gs.j1 (.bool (decide (R.1.c<k\/R.1.q=0)),()) (λJ d=>?_) ?_
   ·refine au ?_;refine Gs.I (λh=>?_) λh=>?_
    ·rw[aA (.inl h)]at d;exact d
    ·refine au ?_;have e:decide (R.1.c<k\/R.1.q=0)=((R.1.q:Int)==0):=by rw[bT,beq_iff_eq,ax];omega
     rw[e]at d;exact d
   refine Gs.z ?_;refine Gs.I (λh=>?_) λh=>?_
   ·rw[ab h]at d;refine G8 E ?_;exact d.fin
   ·rw[aa h]at d;exact d
  refine Gs.z (au ?_);refine Gs.mup (enc:=qa) (ev:=wK) (x:=(R.1.c:Int)) (v:=((R.1.q:Int),.slice N R.1.b.length H)) DQ CO ?_ (by repeat first|(with_reducible exact cF)|(with_reducible apply cS));refine UE ?_;refine au ?_;exact(O (i+1,xH k R,R.1.c+1,Go.Vc.put D (R.1.c:Int) ((R.1.q:Int),.slice N R.1.b.length H),Z++[(R.1,.slice N R.1.b.length H)]) (I _) (by dsimp only;omega)).fin
 have T:i=rows.length:=by have:=C.le;omega
 subst T;have z:l.length=(f++rows.flatMap fl).length+tail.length:=by rw[hl];simp[fd]
 have j:kO l y=0↔wu 0 rows/\tail=[]:=by
  unfold kO;by_cases g:y.e=0
  ·obtain⟨F,-,-,W,-⟩:=C.good g;rw[aL]at F;rw[eg]at W;have ok:wu 0 rows:=W.2 trivial;cases tail with
   |nil=>
    rw[aa (by rw[F,z];simp)];exact⟨λ_=>⟨ok,rfl⟩,λ_=>g⟩
   |cons a t=>
    rw[ab ⟨g,by rw[F,z];simp⟩];simp
  ·rw[aa λh=>g h.1];exact⟨λh=>absurd h g,λh=>absurd h.1 (C.bad g)⟩
 by_cases u:kO l y=0
 ·obtain⟨h1,h2⟩:=j.1 u;refine Gs.j1 (.bool false,()) (λJ d=>?_) ?_
  ·refine wB E ?_;rw[u];refine au ?_;exact d
  unfold eE;refine Gs.z (au ?_)
  have g:y.e=0:=by
   unfold kO at u;split at u
   ·cases u
   ·exact u
  obtain⟨-,V,g3,-⟩:=C.good g;rw[aL]at V;have:=hg h1 h2 v m q Z V;rw[<-g3]at this;unfold eE at this;exact this.fin
 ·refine Gs.j1 (.bool true,()) (λJ d=>?_) ?_
  ·refine wB E ?_;refine Gs.V (v:=.bool true) (λw _=>by simp[go_sem,u]) (Gs.It d)
  refine Gs.z (au ?_);exact(hb λh=>u (j.2 h)).fin
end
end Go.Proofs
namespace Go.Proofs
open Go Go.Vc Go.Sort
def ua(s:Vt_)(d:Array Int):As:=ow s 37 1 d.toList.length (d.toList.flatMap oy)
def qY:Tryz.prog.underlying 39=some (.slice 37):=cH
def mh(d:Array Int)(i j:Nat):(swp d i j).size=d.size:=by simp[swp]
section
variable{L M:List As}{K:Value->WP}{k0:WP}{s:Vt_}{d:Array Int}{x y:Int}{a b c n:Nat}
def nL(e:Gs L (K (.bool (ltInt x y)))):Gs L (Cw pQ 343 #[.int .u64 x,gQ y] K):=by
 refine sN Tryz.func343 ?_;refine sN Tryz.func372 ?_;refine Gs.V (v:=.bool false) (λw _=>by simp[go_sem]) ?_;refine au ?_;exact e
def Gs.ir(i:Nat){v:Int}(f:Gs L (K (gQ d[i]!)))(p:bL L (ua s d::M):=by repeat first|(with_reducible exact cF)|(with_reducible apply cS))(e:v=i/\i<d.size:=by omega):Gs L (Pw pQ (iX 39 s (gI v)) λp=>Ww pQ (iL 37 p) K):=by
 obtain⟨rfl,e⟩:=e;refine Gs.itP qY Kx (λ_=>rfl) Bj (mZ p) rfl e ?_;rw[eW d i e]at f;exact f
def Gs.is(i:Nat){v:Int}(u:Gs (ua s (d.setIfInBounds i x)::M) k0)(p:bL L (ua s d::M):=by repeat first|(with_reducible exact cF)|(with_reducible apply cS))(f:v=i/\i<d.size:=by omega):Gs L (Pw pQ (iX 39 s (gI v)) λp=>Uw pQ (iS 37 p (gQ x)) k0):=⟨λw ⟨F,z⟩=>by
 obtain⟨rfl,f⟩:=f;obtain⟨m,r,⟨A,h⟩,q,o⟩:=Ss.cons.1 (⟨F,(p.out w F).1 z⟩:Ss w (ua s d::M));obtain⟨b,j,rest,rfl,k,g,B⟩:=A.pos (eD (aw i) f);have e:∀l:List Int,l.flatMap oy=l.map λx=>gQ x:=λl=>(List.map_eq_flatMap ..).symm;rw[e]at g;have t:(d.toList.map (λx:Int=>Value.int .u64 x)++rest)[i]? =some (gQ d[i]):=by rw[bP (by simpa using f)];simp[f]
 refine eQ (cU b i) (λW=>by simp[go_sem,f,bQ,qY]) (nz (w.setCell ⟨b,i,none⟩ (gQ x)) (by simp[go_sem,cO g,t]) (u.go _ (Ss.cons.2 ⟨m,r,⟨⟨by simp[e],.inr ⟨b,j,rest,by simp,by simpa using k,?_,by simpa using B⟩⟩,h⟩,q.md ((bn.refl m w).setCell (.inl ((h b).2 rfl)) _ _) λb g k=>o b k g,o⟩)));rw[jp,ab rfl,g,iN,dI,dQ _ _ (by simpa using f),Array.toList_setIfInBounds,e,fU]⟩
def Gs.sx(i j:Nat){v u:Int}(f:Gs (ua s (swp d i j)::M) k0)(p:bL L (ua s d::M):=by repeat first|(with_reducible exact cF)|(with_reducible apply cS))(e:(v=i/\i<d.size)/\u=j/\j<d.size:=by omega):
  Gs L (Pw pQ (iX 39 s (gI v)) λp=>Uw pQ (iS 37 p (gQ d[j]!)) (Pw pQ (iX 39 s (gI u)) λp=>Uw pQ (iS 37 p (gQ d[i]!)) k0)):=
 Gs.is i (Gs.is j f .refl (by rw[Array.size_setIfInBounds];exact e.2)) p e.1
def Gs.sw(i j:Nat){v u:Int}(f:Gs (ua s (swp d i j)::M) k0)(p:bL L (ua s d::M):=by repeat first|(with_reducible exact cF)|(with_reducible apply cS))(e:(v=i/\i<d.size)/\u=j/\j<d.size:=by omega):
  Gs L (Pw pQ (iX 39 s (gI u)) λp=>Ww pQ (iL 37 p) λx=>Pw pQ (iX 39 s (gI v)) λp=>Ww pQ (iL 37 p) λy=>
   Pw pQ (iX 39 s (gI v)) λp=>Uw pQ (iS 37 p x) (Pw pQ (iX 39 s (gI u)) λp=>Uw pQ (iS 37 p y) k0)):=
 Gs.ir j (Gs.ir i (Gs.sx i j f p e) p e.1) p e.2
def Vr(v:Gs (ua s (insertionSort ltInt d a b)::M) (K (.tuple #[])))(p:bL L (ua s d::M):=by repeat first|(with_reducible exact cF)|(with_reducible apply cS))(h:a<=b/\b<=d.size/\d.size<=49:=by omega):Gs L (Cw pQ 337 #[s,gI a,gI b] K):=by
 refine Gs.pk ?_ p;refine sN Tryz.func337 ?_;refine au ?_;refine Gs.l (λx:Nat×Array Int=>(gI x.1,())) (b - ·.1) (λx=>ua s x.2::M) (λx=>a<x.1/\x.2.size=d.size/\insOuter ltInt a b x.1 x.2=insertionSort ltInt d a b) (a+1,d) rfl ⟨dv a,rfl,rfl⟩ ?_ .refl;rintro⟨i,e⟩ ⟨w,u,g⟩ C t
 dsimp only at w u g|-
 rw[insOuter]at g;refine Gs.z (au ?_);refine Gs.I (λA=>?_) λA=>?_
 ·rw[ab qZ]at g;refine Gs.l (λx:Nat×Array Int=>(gI x.1,())) (·.1) (λx=>ua s x.2::M) (λx=>x.1<=i/\x.2.size=d.size/\insInner ltInt a x.1 x.2=insInner ltInt a i e) (i,e) rfl ⟨aB i,u,rfl⟩ ?_ .refl;rintro⟨j,f⟩ ⟨z,q,m⟩ B r
  dsimp only at z q m|-
  refine Gs.z ?_;refine Gs.j1 (.bool (decide (a<j)&& ltInt f[j]! f[j - 1]!),()) (λJ o=>?_) ?_
  ·refine au ?_;refine Gs.I (λl=>?_) λl=>?_
   ·rw[aA qZ,cK]at o;refine Gs.ir j ?_;refine au ?_;refine Gs.ir (j - 1) ?_;exact nL o
   ·rw[aG qZ,bh]at o;exact o
  refine Gs.z ?_;refine Gs.Ib (λl=>?_) λl=>?_
  ·obtain⟨j,rfl⟩:∃k,j=k+1:=⟨j - 1,by simp at l;omega⟩
   rw[insInner,ab (by simpa using l)]at m;refine au ?_;refine Gs.sw (j+1) j ?_;refine au ?_;exact(r (j,swp f (j+1) j) ⟨by dsimp only;omega,by rw[mh];exact q,m⟩ (dv j)).fin
  ·refine au ?_
   have:insInner ltInt a j f=f:=by
    cases j with
    |zero=>rfl
    |succ j=>rw[insInner,aa (by simpa using l)]
   rw[this]at m;exact(t (i+1,f) ⟨by dsimp only;omega,q,by dsimp only;rw[m];exact g⟩ (by dsimp only;omega)).fin
 ·rw[aa qZ]at g;rw[g];exact v
def S3{hi f r:Nat}{d:Array Int}(h:¬hi<=2*r+1):∃c,(if decide (2*r+1+1<hi)&& ltInt d[f+(2*r+1)]! d[f+(2*r+1)+1]! then 2*r+2 else 2*r+1)=c/\r<c/\c<hi/\
  siftDown ltInt hi f r d=if ltInt d[f+r]! d[f+c]! then siftDown ltInt hi f c (swp d (f+r) (f+c))else d:=by
 refine⟨_,rfl,?_⟩;rw[siftDown,dif_neg h];by_cases e:(decide (2*r+1+1<hi)&& ltInt d[f+(2*r+1)]! d[f+(2*r+1)+1]!)=true
 ·rw[ab e,ab e];have:2*r+2<hi:=by simp at e;omega
  refine⟨qZ,this,?_⟩;rw[kU this];cases ltInt d[f+r]! d[f+(2*r+2)]! <;>rfl
 ·rw[aa e,aa e];refine⟨qZ,qZ,?_⟩;cases ltInt d[f+r]! d[f+(2*r+1)]! <;>rfl
def MB{lo hi f:Nat}(m:Gs (ua s (siftDown ltInt hi f lo d)::M) (K (.tuple #[])))(p:bL L (ua s d::M):=by repeat first|(with_reducible exact cF)|(with_reducible apply cS))(h:f+hi<=d.size/\d.size<=49/\lo<=49:=by omega):Gs L (Cw pQ 369 #[s,gI lo,gI hi,gI f] K):=by
 refine Gs.pk ?_ p;refine sN Tryz.func369 ?_;refine Gs.l (λx:Nat×Array Int=>(gI x.1,())) (hi - ·.1) (λx=>ua s x.2::M) (λx=>x.1<=49/\x.2.size=d.size/\siftDown ltInt hi f x.1 x.2=siftDown ltInt hi f lo d) (lo,d) rfl ⟨h.2.2,rfl,rfl⟩ ?_ .refl;rintro⟨r,e⟩ ⟨o,l,j⟩ v k
 dsimp only at o l j|-
 refine Gs.z (au ?_);refine Gs.I (λq=>?_) λq=>?_
 ·rw[siftDown,kU qZ]at j;rw[j];exact m
 obtain⟨c,u,w,z,t⟩:=S3 (hi:=hi) (f:=f) (r:=r) (d:=e) qZ;rw[t]at j;refine Gs.j1 (gI c,()) (λJ g=>?_) ?_
 ·refine Gs.j1 (.bool (decide (2*r+1+1<hi)&& ltInt e[f+(2*r+1)]! e[f+(2*r+1)+1]!),()) (λJ g=>?_) ?_
  ·refine au ?_;refine Gs.I (λi=>?_) λi=>?_
   ·rw[aA qZ,cK]at g;refine au ?_;refine Gs.ir (f+(2*r+1)) ?_;refine au ?_;refine Gs.ir (f+(2*r+1)+1) ?_;exact nL g
   ·rw[aG qZ,bh]at g;exact g
  refine Gs.z ?_;subst u;refine Gs.Ib (λi=>?_) λi=>?_
  ·rw[ab i]at g;refine au ?_;exact g
  ·rw[aa (by rw[i];decide)]at g;exact g
 refine Gs.z (au ?_);refine Gs.ir (f+r) ?_;refine au ?_;refine Gs.ir (f+c) ?_;refine nL ?_;refine au ?_;refine Gs.Ib (λi=>?_) λi=>?_
 ·rw[aa (by simpa using i)]at j;rw[j];exact m
 ·rw[ab (by simpa using i)]at j;refine au ?_;refine Gs.ir (f+c) ?_;refine au ?_;refine Gs.ir (f+r) ?_;refine Gs.sx (f+r) (f+c) ?_;exact(k (c,swp e (f+r) (f+c)) ⟨by dsimp only;omega,by rw[mh];exact l,j⟩ (by dsimp only;omega)).fin
end
end Go.Proofs
namespace Go.Proofs
open Go Go.Vc
open Go.Sort (swp ltInt Hint heapSort heapBuild heapPop siftDown reverseRange reverseLoop order2 median choosePivot partialInsertionSort partialIns scanSorted breakPatterns breakStep xorNext bitsLen)
def DR(hi f:Nat):∀(r:Nat) (d:Array Int),(siftDown ltInt hi f r d).size=d.size:=λr=>by
 induction h:hi - r using Nat.strongRecOn generalizing r with
 |_ n g=>
  intro d;by_cases e:hi<=2*r+1
  ·rw[siftDown,kU e]
  ·obtain⟨c,-,k,j,i⟩:=S3 (hi:=hi) (f:=f) (d:=d) e;rw[i];split
   ·rw[g (hi - c) qZ c rfl,mh]
   ·rfl
section
variable{L M:List As}{K:Value->WP}{k0:WP}{s:Vt_}{d:Array Int}{x y:Int}{a b c n q sw:Nat}
def Ua(o:Gs (ua s (heapSort ltInt d a b)::M) (K (.tuple #[])))(p:bL L (ua s d::M):=by repeat first|(with_reducible exact cF)|(with_reducible apply cS))(h:a<b/\b<=d.size/\d.size<=49:=by omega):Gs L (Cw pQ 338 #[s,gI a,gI b] K):=by
 refine Gs.pk ?_ p;refine sN Tryz.func338 ?_;have u:(b:Int) - a=((b - a:Nat):Int):=qZ;have t:((b - a:Nat):Int) - 1=((b - a - 1:Nat):Int):=qZ;refine Gs.V (v:=gI ((b - a:Nat):Int)) (λw _=>by simp[go_sem];rw[u,ie qZ qZ]) ?_;refine Gs.V (v:=gI ((b - a - 1:Nat):Int)) (λw _=>by simp[go_sem];rw[t,ie qZ qZ]) ?_;refine Gs.V (v:=gI (((b - a - 1) / 2:Nat):Int)) (λw _=>by simp[go_sem];rw[ie qZ qZ]) ?_;refine Gs.l (λx:Nat×Array Int=>(gI ((x.1:Int) - 1),())) (·.1) (λx=>ua s x.2::M) (λx=>x.1<=b - a/\x.2.size=d.size/\heapPop ltInt a (b - a) (heapBuild ltInt (b - a) a x.1 x.2)=heapSort ltInt d a b) ((b - a - 1) / 2+1,d) (by simp) ⟨by dsimp only;omega,rfl,rfl⟩ ?_ .refl;rintro⟨k,e⟩ ⟨l,i,f⟩ r g
 dsimp only at l i f|-
 refine Gs.z (au ?_);refine Gs.I (λm=>?_) λm=>?_
 ·obtain⟨k,rfl⟩:∃j,k=j+1:=⟨k - 1,qZ⟩
  rw[show((k+1:Nat):Int) - 1=k by omega];refine MB ?_;refine au ?_;exact(g (k,_) ⟨by dsimp only;omega,by rw[DR];exact i,f⟩ (dv k)).fin
 ·obtain rfl:k=0:=qZ;refine Gs.V (v:=gI ((b - a:Nat) - 1:Int)) (λw _=>by simp[go_sem];rw[ie qZ qZ]) ?_;refine Gs.l (λx:Nat×Array Int=>(gI ((x.1:Int) - 1),())) (·.1) (λx=>ua s x.2::M) (λx=>x.1<=b - a/\x.2.size=d.size/\heapPop ltInt a x.1 x.2=heapSort ltInt d a b) (b - a,e) rfl ⟨aB _,i,f⟩ ?_ .refl;clear l i f m g;rintro⟨k,e⟩ ⟨l,i,f⟩ r g
  dsimp only at l i f|-
  refine Gs.z (au ?_);refine Gs.I (λm=>?_) λm=>?_
  ·obtain⟨k,rfl⟩:∃j,k=j+1:=⟨k - 1,qZ⟩
   rw[show((k+1:Nat):Int) - 1=k by omega];refine au ?_;refine Gs.sw a (a+k) ?_;have:=mh e a (a+k);refine MB (lo:=0) ?_;refine au ?_;exact(g (k,_) ⟨by dsimp only;omega,by rw[DR,mh];exact i,f⟩ (dv k)).fin
  ·obtain rfl:k=0:=qZ;rw[show heapPop ltInt a 0 e=e from rfl]at f;rw[f];exact o
def Y1(l:Gs (ua s (reverseRange d a b)::M) (K (.tuple #[])))(p:bL L (ua s d::M):=by repeat first|(with_reducible exact cF)|(with_reducible apply cS))(h:a<b/\b<=d.size/\d.size<=49:=by omega):Gs L (Cw pQ 341 #[s,gI a,gI b] K):=by
 refine Gs.pk ?_ p;refine sN Tryz.func341 ?_;refine Gs.V (v:=gI ((b - 1:Nat):Int)) (λw _=>by simp[go_sem];rw[show(b:Int) - 1=((b - 1:Nat):Int) by omega,ie qZ qZ]) ?_;refine Gs.l (λx:Nat×Nat×Array Int=>(gI x.1,gI x.2.1,())) (λx=>x.2.1 - x.1) (λx=>ua s x.2.2::M) (λx=>x.2.1<b/\x.2.2.size=d.size/\reverseLoop x.1 x.2.1 x.2.2=reverseRange d a b) (a,b - 1,d) rfl ⟨by dsimp only;omega,rfl,rfl⟩ ?_ .refl;rintro⟨i,j,e⟩ ⟨m,k,f⟩ r g
 dsimp only at m k f|-
 rw[reverseLoop]at f;refine Gs.z (au ?_);refine Gs.I (λo=>?_) λo=>?_
 ·rw[ab qZ]at f;refine au ?_;refine Gs.sw i j ?_;refine au ?_;have:=g (i+1,j - 1,swp e i j) ⟨by dsimp only;omega,by rw[mh];exact k,f⟩ (by dsimp only;omega)
  dsimp only at this
  rw[show((j - 1:Nat):Int)=j - 1 by omega]at this;exact this.fin
 ·rw[aa qZ]at f;rw[f];exact l
def WY(d:Array Int)(a b sw:Nat):((order2 ltInt d a b sw).1=a\/(order2 ltInt d a b sw).1=b)/\((order2 ltInt d a b sw).2.1=a\/(order2 ltInt d a b sw).2.1=b)/\(order2 ltInt d a b sw).2.2<=sw+1:=by
 unfold order2;split<;>simp
def Je(e:Gs (pt q [.int .i64 ((order2 ltInt d a b sw).2.2:Nat)] 3::ua s d::M) (K (.tuple #[.int .i64 ((order2 ltInt d a b sw).1:Nat),gI ((order2 ltInt d a b sw).2.1:Nat)])))(p:bL L (pt q [.int .i64 (sw:Nat)] 3::ua s d::M):=by repeat first|(with_reducible exact bL.refl)|((apply kp);(·repeat first|(with_reducible exact cF)|(with_reducible apply cS))))(h:a<d.size/\b<d.size/\d.size<=49/\sw<=100:=by omega):
  Gs L (Cw pQ 383 #[s,gI a,gI b,.pointer (some ⟨q,0,none⟩)] K):=by
 refine Gs.pk ?_ p;refine sN Tryz.func383 ?_;unfold order2 at e;refine au ?_;refine Gs.ir b ?_;refine Gs.ir a ?_;refine nL ?_;refine Gs.Ib (λf=>?_) λf=>?_
 ·rw[ab f]at e;refine au ?_;exact e
 ·rw[aa (by rw[f];decide)]at e;exact e
def YL(e:Gs (pt q [.int .i64 ((median ltInt d a b c sw).2:Nat)] 3::ua s d::M) (K (gI ((median ltInt d a b c sw).1:Nat))))(p:bL L (pt q [.int .i64 (sw:Nat)] 3::ua s d::M):=by repeat first|(with_reducible exact bL.refl)|((apply kp);(·repeat first|(with_reducible exact cF)|(with_reducible apply cS))))(h:(a<d.size/\b<d.size/\c<d.size)/\d.size<=49/\sw<=50:=by omega):
  Gs L (Cw pQ 371 #[s,gI a,gI b,gI c,.pointer (some ⟨q,0,none⟩)] K):=by
 refine Gs.pk ?_ p;refine sN Tryz.func371 ?_;unfold median at e;have g:=WY d a b sw;refine Je ?_;generalize order2 ltInt d a b sw=f at e g|-;refine au ?_;have i:=WY d f.2.1 c f.2.2;refine Je ?_
 dsimp only at e
 generalize order2 ltInt d f.2.1 c f.2.2=j at e i|-;refine au ?_;refine Je ?_;refine au ?_;exact e
def zW(h:Hint):Int:=match h with
 | .unknown=>0
 | .increasing=>1
 | .decreasing=>2
def XQ(e:Gs (ua s d::M) (K (.tuple #[.int .i64 ((choosePivot ltInt d a b).1:Nat),gI (zW (choosePivot ltInt d a b).2)])))(p:bL L (ua s d::M):=by repeat first|(with_reducible exact cF)|(with_reducible apply cS))(h:12<b - a/\b<=d.size/\d.size<=49:=by omega):Gs L (Cw pQ 340 #[s,gI a,gI b] K):=by
 refine Gs.pk ?_ p;refine sN Tryz.func340 ?_;unfold choosePivot at e;simp only[ab (show b - a≥8 by omega),aa (show¬b - a≥50 by omega)]at e;have g:(b:Int) - a=((b - a:Nat):Int):=qZ;refine Gs.V (v:=gI ((b - a:Nat):Int)) (λw _=>by simp[go_sem];rw[g,ie qZ qZ]) ?_;refine au ?_;intro q;simp only[mq]at e;have i:=fW (b - a) 4;refine au ?_;refine Gs.jon ?_;refine au ?_;refine Gs.I1 qZ ?_;refine Gs.jon ?_;refine au ?_;refine Gs.I0 qZ ?_;refine Gs.z ?_;refine YL (a:=a+(b - a) / 4) (b:=a+(b - a) / 4*2) (c:=a+(b - a) / 4*3) (sw:=0) (p:=.refl) ?_;refine Gs.z ?_;generalize median ltInt d (a+(b - a) / 4) (a+(b - a) / 4*2) (a+(b - a) / 4*3) 0=r at e|-;refine au ?_;refine Gs.Ib (λf=>?_) λf=>?_
 ·rw[ab (by simpa using f)]at e;exact e.fin
 rw[aa (by simpa using f)]at e;refine au ?_;refine Gs.Ib (λf=>?_) λf=>?_
 ·rw[ab (by simp at f;omega)]at e;exact e.fin
 ·rw[aa (by simp at f;omega)]at e;exact e.fin
def X5(h:b - a<50):partialInsertionSort ltInt d a b=(d,decide (scanSorted ltInt d b (a+1)=b)):=by
 unfold partialInsertionSort;rw[partialIns];by_cases e:scanSorted ltInt d b (a+1)=b
 ·simp[e]
 ·simp[e,h]
def Xi(f:Gs (ua s d::M) (K (.bool (decide (scanSorted ltInt d b (a+1)=b)))))(p:bL L (ua s d::M):=by repeat first|(with_reducible exact cF)|(with_reducible apply cS))(h:a<b/\b<=d.size/\d.size<=49:=by omega):Gs L (Cw pQ 342 #[s,gI a,gI b] K):=by
 refine Gs.pk ?_ p;refine sN Tryz.func342 ?_;refine au ?_;refine Gs.l (λ_:Unit=>(.bool false,gI ((a:Int)+1),gI 0,())) (λ_=>0) (λ_=>ua s d::M) (λ_=>True) () rfl trivial ?_ .refl;rintro - - m -;refine Gs.z (au ?_);refine Gs.jon ?_;refine Gs.l (λi:Nat=>(gI i,())) (λi=>b - i) (λ_=>ua s d::M) (λi=>a<i/\scanSorted ltInt d b i=scanSorted ltInt d b (a+1)) (a+1) rfl ⟨dv a,rfl⟩ ?_ .refl;rintro i ⟨o,j⟩ r g
 dsimp only at g|-
 rw[scanSorted]at j;refine Gs.z ?_;refine Gs.j1 (.bool (decide (i<b)&& !ltInt d[i]! d[i - 1]!),()) (λJ k=>?_) ?_
 ·refine au ?_;refine Gs.I (λe=>?_) λe=>?_
  ·rw[aA qZ,cK]at k;refine Gs.ir i ?_;refine au ?_;refine Gs.ir (i - 1) ?_;refine nL ?_;refine au ?_;exact k
  ·rw[aG qZ,bh]at k;exact k
 refine Gs.z ?_;refine Gs.Ib (λe=>?_) λe=>?_
 ·rw[ab e]at j;have:i<b:=by simp at e;omega
  refine au ?_;exact g (i+1) ⟨qZ,j⟩ (by simp at e;omega)
 ·rw[aa (by rw[e];decide)]at j;rw[<-j]at f;refine au ?_;refine Gs.Ib (λl=>?_) λl=>?_
  ·rw[aA (by simp at l;omega)]at f;exact f
  ·rw[aG (by simp at l;omega)]at f;refine au ?_;refine Gs.I1 qZ ?_;exact f
end
end Go.Proofs
namespace Go.Proofs
open Go Go.Vc
open Go.Sort (swp ltInt scanUp scanDown partLoop partEqLoop partition partitionEqual partLoop_guard partEqLoop_guard breakPatterns breakStep xorNext xorNextN xorNext_toNat xorNextN_lt bitsLen)
def upS(p:Int->Bool)(d:Array Int)(j i:Nat):i<=scanUp p d j i/\scanUp p d j i<=max i (j+1):=by
 induction h:j+1 - i using Nat.strongRecOn generalizing i with
 |_ n f=>
  rw[scanUp];split
  ·rename_i e
   have:=f (j+1 - (i+1)) (by simp at e;omega) (i+1) rfl;simp at e;omega
  ·omega
def dnS(p:Int->Bool)(d:Array Int)(i:Nat):∀j,scanDown p d i j<=j/\(i<=j+1->i<=scanDown p d i j+1)
 |0=>⟨aB 0,λh=>h⟩
 |j+1=>by
  rw[scanDown];split
  ·rename_i e
   have:=dnS p d i j;simp at e;exact⟨qZ,λ_=>this.2 e.1⟩
  ·exact⟨aB _,λh=>h⟩
section
variable{L M:List As}{K:Value->WP}{k0:WP}{s:Vt_}{d:Array Int}{x y:Int}{a b c n q sw:Nat}
def UC(t:Gs (ua s (partition ltInt d a b c).2.2::M) (K (.tuple #[.int .i64 ((partition ltInt d a b c).1:Nat),.bool (partition ltInt d a b c).2.1])))(p:bL L (ua s d::M):=by repeat first|(with_reducible exact cF)|(with_reducible apply cS))(h:(a<=c/\c<b)/\b<=d.size/\d.size<=49:=by omega):Gs L (Cw pQ 345 #[s,gI a,gI b,gI c] K):=by
 refine Gs.pk ?_ p;refine sN Tryz.func345 ?_;unfold partition at t;refine au ?_;refine Gs.sw a c ?_;have T:=mh d a c;generalize swp d a c=e at t T|-;refine au ?_;rw[show(b:Int) - 1=((b - 1:Nat):Int) by omega]
 dsimp only at t
 have F:=upS (λx=>ltInt x e[a]!) e (b - 1) (a+1);generalize w:scanUp (λx=>ltInt x e[a]!) e (b - 1) (a+1)=U at t F;refine Gs.l (λi:Nat=>(gI i,())) (λi=>b - i) (λ_=>ua s e::M) (λi=>a<i/\scanUp (λx=>ltInt x e[a]!) e (b - 1) i=U) (a+1) rfl ⟨dv a,w⟩ ?_ .refl;clear w;rintro i ⟨E,o⟩ I l
 dsimp only at l|-
 rw[scanUp]at o;refine Gs.z ?_;refine Gs.j1 (.bool (decide (i<=b - 1)&& ltInt e[i]! e[a]!),()) (λJ m=>?_) ?_
 ·refine au ?_;refine Gs.I (λg=>?_) λg=>?_
  ·rw[aA qZ,cK]at m;refine Gs.ir i ?_;refine Gs.ir a ?_;exact nL m
  ·rw[aG qZ,bh]at m;exact m
 refine Gs.z ?_;refine Gs.Ib (λg=>?_) λg=>?_
 ·rw[ab g]at o;have:i<=b - 1:=by simp at g;omega
  refine au ?_;exact l (i+1) ⟨qZ,o⟩ qZ
 rw[aa (by rw[g];decide)]at o;subst o;clear g l;have A:=dnS (λx=> !ltInt x e[a]!) e i (b - 1);generalize w:scanDown (λx=> !ltInt x e[a]!) e i (b - 1)=D at t A;refine Gs.l (λj:Nat=>(gI j,())) (λj=>j) (λ_=>ua s e::M) (λj=>j<b/\scanDown (λx=> !ltInt x e[a]!) e i j=D) (b - 1) rfl ⟨qZ,w⟩ ?_ .refl;clear w;rintro j ⟨B,o⟩ I l
 dsimp only at l|-
 refine Gs.z ?_;refine Gs.j1 (.bool (decide (i<=j)&& !ltInt e[j]! e[a]!),()) (λJ m=>?_) ?_
 ·refine au ?_;refine Gs.I (λg=>?_) λg=>?_
  ·rw[aA qZ,cK]at m;refine Gs.ir j ?_;refine Gs.ir a ?_;refine nL ?_;refine au ?_;exact m
  ·rw[aG qZ,bh]at m;exact m
 refine Gs.z ?_;refine Gs.Ib (λg=>?_) λg=>?_
 ·obtain⟨k,rfl⟩:∃k,j=k+1:=⟨j - 1,by simp at g;omega⟩
  rw[scanDown,ab g]at o;refine au ?_;exact l k ⟨qZ,o⟩ (dv k)
 have H:j=D:=by
  rw[<-o];cases j with
  |zero=>rfl
  |succ k=>rw[scanDown,aa (by rw[g];decide)]
 subst H;clear g l o;refine au ?_;refine Gs.I (λg=>?_) λg=>?_
 ·rw[ab qZ]at t;refine au ?_;refine Gs.sw j a ?_;exact t
 rw[aa qZ]at t;refine au ?_;refine Gs.sw i j ?_;obtain⟨k,rfl⟩:∃k,j=k+1:=⟨j - 1,qZ⟩
 have G:=mh e i (k+1);rw[gm]at t;generalize swp e i (k+1)=N at t G|-;generalize P:partLoop ltInt a (i+1) k N=R at t;refine au ?_;refine Gs.l (λx:Nat×Nat×Array Int=>(gI x.1,gI x.2.1,())) (λx=>x.2.1+1 - x.1) (λx=>ua s x.2.2::M) (λx=>a<x.1/\(x.2.1<b/\x.1<=x.2.1+2)/\x.2.2.size=d.size/\partLoop ltInt a x.1 x.2.1 x.2.2=R) (i+1,k,N) rfl ⟨by dsimp only;omega,by dsimp only;omega,by dsimp only;omega,P⟩ ?_ .refl;clear P F A E B g;rintro⟨i,j,f⟩ ⟨E,⟨B,S⟩,O,o⟩ I l
 dsimp only at E B o S O l|-
 rw[partLoop]at o;refine Gs.z ?_;have F:=upS (λx=>ltInt x f[a]!) f j i;generalize w:scanUp (λx=>ltInt x f[a]!) f j i=U at o F;refine Gs.l (λi:Nat=>(gI i,())) (λi=>b - i) (λ_=>ua s f::M) (λi=>a<i/\scanUp (λx=>ltInt x f[a]!) f j i=U) i rfl ⟨E,w⟩ ?_ .refl;clear w;rintro u ⟨V,z⟩ Q r
 dsimp only at r|-
 rw[scanUp]at z;refine Gs.z ?_;refine Gs.j1 (.bool (decide (u<=j)&& ltInt f[u]! f[a]!),()) (λJ m=>?_) ?_
 ·refine au ?_;refine Gs.I (λg=>?_) λg=>?_
  ·rw[aA qZ,cK]at m;refine Gs.ir u ?_;refine Gs.ir a ?_;exact nL m
  ·rw[aG qZ,bh]at m;exact m
 refine Gs.z ?_;refine Gs.Ib (λg=>?_) λg=>?_
 ·rw[ab g]at z;have:u<=j:=by simp at g;omega
  refine au ?_;exact r (u+1) ⟨qZ,z⟩ qZ
 rw[aa (by rw[g];decide)]at z;subst z;clear g r;have A:=dnS (λx=> !ltInt x f[a]!) f u j;generalize w:scanDown (λx=> !ltInt x f[a]!) f u j=D at o A;refine Gs.l (λj:Nat=>(gI j,())) (λj=>j) (λ_=>ua s f::M) (λj=>j<b/\scanDown (λx=> !ltInt x f[a]!) f u j=D) j rfl ⟨B,w⟩ ?_ .refl;clear w;rintro v ⟨W,C⟩ Q r
 dsimp only at r|-
 refine Gs.z ?_;refine Gs.j1 (.bool (decide (u<=v)&& !ltInt f[v]! f[a]!),()) (λJ m=>?_) ?_
 ·refine au ?_;refine Gs.I (λg=>?_) λg=>?_
  ·rw[aA qZ,cK]at m;refine Gs.ir v ?_;refine Gs.ir a ?_;refine nL ?_;refine au ?_;exact m
  ·rw[aG qZ,bh]at m;exact m
 refine Gs.z ?_;refine Gs.Ib (λg=>?_) λg=>?_
 ·obtain⟨k,rfl⟩:∃k,v=k+1:=⟨v - 1,by simp at g;omega⟩
  rw[scanDown,ab g]at C;refine au ?_;exact r k ⟨qZ,C⟩ (dv k)
 have H:v=D:=by
  rw[<-C];cases v with
  |zero=>rfl
  |succ k=>rw[scanDown,aa (by rw[g];decide)]
 subst H;clear g r C;refine au ?_;refine Gs.I (λg=>?_) λg=>?_
 ·rw[ab qZ]at o;subst o;refine au ?_;refine Gs.sw v a ?_;exact t
 rw[aa qZ,kU qZ]at o;refine au ?_;refine Gs.sw u v ?_;refine au ?_;have:=l (u+1,v - 1,swp f u v) ⟨by dsimp only;omega,by dsimp only;omega,by rw[mh];exact O,o⟩ (by dsimp only;omega)
 dsimp only at this
 rw[show((v - 1:Nat):Int)=v - 1 by omega]at this;exact this
def Vf(A:Gs (ua s (partitionEqual ltInt d a b c).2::M) (K (gI ((partitionEqual ltInt d a b c).1:Nat))))(p:bL L (ua s d::M):=by repeat first|(with_reducible exact cF)|(with_reducible apply cS))(h:(a<=c/\c<b)/\b<=d.size/\d.size<=49:=by omega):Gs L (Cw pQ 344 #[s,gI a,gI b,gI c] K):=by
 refine Gs.pk ?_ p;refine sN Tryz.func344 ?_;unfold partitionEqual at A;refine au ?_;refine Gs.sw a c ?_;have N:=mh d a c;generalize swp d a c=e at A N|-;generalize F:partEqLoop ltInt a (a+1) (b - 1) e=R at A;refine au ?_;rw[show(b:Int) - 1=((b - 1:Nat):Int) by omega];refine Gs.l (λx:Nat×Nat×Array Int=>(gI x.1,gI x.2.1,())) (λx=>x.2.1+1 - x.1) (λx=>ua s x.2.2::M) (λx=>a<x.1/\(x.2.1<b/\x.1<=x.2.1+2)/\x.2.2.size=d.size/\partEqLoop ltInt a x.1 x.2.1 x.2.2=R) (a+1,b - 1,e) rfl ⟨by dsimp only;omega,by dsimp only;omega,by dsimp only;omega,F⟩ ?_ .refl;clear F;rintro⟨i,j,f⟩ ⟨C,⟨B,I⟩,E,o⟩ Q w
 dsimp only at C B o I E w|-
 rw[partEqLoop]at o;refine Gs.z ?_;have O:=upS (λx=> !ltInt f[a]! x) f j i;generalize r:scanUp (λx=> !ltInt f[a]! x) f j i=U at o O;refine Gs.l (λi:Nat=>(gI i,())) (λi=>b - i) (λ_=>ua s f::M) (λi=>a<i/\scanUp (λx=> !ltInt f[a]! x) f j i=U) i rfl ⟨C,r⟩ ?_ .refl;clear r;rintro u ⟨S,t⟩ H l
 dsimp only at l|-
 rw[scanUp]at t;refine Gs.z ?_;refine Gs.j1 (.bool (decide (u<=j)&& !ltInt f[a]! f[u]!),()) (λJ m=>?_) ?_
 ·refine au ?_;refine Gs.I (λg=>?_) λg=>?_
  ·rw[aA qZ,cK]at m;refine Gs.ir a ?_;refine Gs.ir u ?_;refine nL ?_;refine au ?_;exact m
  ·rw[aG qZ,bh]at m;exact m
 refine Gs.z ?_;refine Gs.Ib (λg=>?_) λg=>?_
 ·rw[ab g]at t;have:u<=j:=by simp at g;omega
  refine au ?_;exact l (u+1) ⟨qZ,t⟩ qZ
 rw[aa (by rw[g];decide)]at t;subst t;clear g l;have G:=dnS (λx=>ltInt f[a]! x) f u j;generalize r:scanDown (λx=>ltInt f[a]! x) f u j=D at o G;refine Gs.l (λj:Nat=>(gI j,())) (λj=>j) (λ_=>ua s f::M) (λj=>j<b/\scanDown (λx=>ltInt f[a]! x) f u j=D) j rfl ⟨B,r⟩ ?_ .refl;clear r;rintro v ⟨T,z⟩ H l
 dsimp only at l|-
 refine Gs.z ?_;refine Gs.j1 (.bool (decide (u<=v)&& ltInt f[a]! f[v]!),()) (λJ m=>?_) ?_
 ·refine au ?_;refine Gs.I (λg=>?_) λg=>?_
  ·rw[aA qZ,cK]at m;refine Gs.ir a ?_;refine Gs.ir v ?_;exact nL m
  ·rw[aG qZ,bh]at m;exact m
 refine Gs.z ?_;refine Gs.Ib (λg=>?_) λg=>?_
 ·obtain⟨k,rfl⟩:∃k,v=k+1:=⟨v - 1,by simp at g;omega⟩
  rw[scanDown,ab g]at z;refine au ?_;exact l k ⟨qZ,z⟩ (dv k)
 have P:v=D:=by
  rw[<-z];cases v with
  |zero=>rfl
  |succ k=>rw[scanDown,aa (by rw[g];decide)]
 subst P;clear g l z;refine au ?_;refine Gs.I (λg=>?_) λg=>?_
 ·rw[ab qZ]at o;subst o;exact A
 rw[aa qZ,kU qZ]at o;refine au ?_;refine Gs.sw u v ?_;refine au ?_;have:=w (u+1,v - 1,swp f u v) ⟨by dsimp only;omega,by dsimp only;omega,by rw[mh];exact E,o⟩ (by dsimp only;omega)
 dsimp only at this
 rw[show((v - 1:Nat):Int)=v - 1 by omega]at this;exact this
end
end Go.Proofs
