/- Part of a proof. -/
import Derived.Test.YtekbnpagidkbbaaGreatR24
set_option linter.all false
set_option maxRecDepth 100000
set_option maxHeartbeats 4000000
namespace Go.Proofs
open Go Go.Vc
attribute [local go_sem] fO eP
abbrev Y3(v c l mb md:Nat)(n:Int):As:=pt v [.pointer (some ⟨c,0,none⟩),.pointer (some ⟨l,0,none⟩),.map (some mb),.map (some md),gQ n] A6
section
variable{L L0 M:List As}{φ:WP}{K:Value->WP}{k0:WP}{v c l mb md b mw:Nat}{A:List (Int×Nat)}{D:List (Int×Value)}{S:bt}{n a:Int}{X:bJ}{bk:Int->Bk}{bd:Int->List Od}{s:Vt_}{os:List Od}{C:oR}{B:Bk}
def Ri(d:∀c',Gs (oz c' C::L) (K (fO c')))(p:eG L (oz c C::M):=by exact fR):Gs L (Cw pQ 91 #[fO c] K):=
 Gs.nw (φ:=λk=>Cw pQ _ _ k) (val:=fO) (p:=λ_=>True) (B:=λc' =>oz c' C) (λw y K h=>(iK p y).elim λF q=>RB q λc' e f g m nn=>h c' f e trivial g m nn) (λb _=>d b)
def QD(e:∀d,Gs (mN d X::L) (K (eP d)))(p:eG L (mN l X::M):=by exact fR):Gs L (Cw pQ 92 #[eP l] K):=
 Gs.nw (φ:=λk=>Cw pQ _ _ k) (val:=eP) (p:=λ_=>True) (B:=λd=>mN d X) (λw y K h=>(iK p y).elim λF q=>TK q λg d f i m nn=>h d g f trivial i m nn) (λb _=>e b)
def Nb(f:lk A n=some b)(g:∀d,Gs (Cy d (bk n)::L) (K (fi d)))(p:eG L (sH A bk::M):=by exact fR):Gs L (Cw pQ 93 #[fi b] K):=
 Gs.nw (φ:=λk=>Cw pQ _ _ k) (val:=fi) (p:=λ_=>True) (B:=λd=>Cy d (bk n)) (λw y K h=>(iK p y).elim λF ⟨o,q⟩=>D5 (q.q n b trivial f) λd i e j m nn=>h d e i trivial j m nn) (λb _=>g b)
def P9(g:∀w,Ss w L->Rd w 5 s os.length (os.flatMap dF))(i:os.length<=1000000)(e:∀d,Gs (mE d os::L) (K d)):Gs L (Cw pQ 94 #[s] K):=
 Gs.nw (φ:=λk=>Cw pQ _ _ k) (val:=id) (p:=λ_=>True) (B:=λd=>mE d os) (λw y K h=>t6 (g w y) i λd f o m nn=>h d f (aF d) trivial ⟨o,λ_=>aG⟩ m nn) (λd _=>e d)
def On(d:∀c,Gs (oz c ⟨0,[]⟩::L) (K (fO c))):Gs L (Cw pQ 33 #[] K):=
 Gs.nw (φ:=λk=>Cw pQ _ _ k) (val:=fO) (p:=λ_=>True) (B:=λc=>oz c ⟨0,[]⟩) (λw y K h=>NQ λc F e q m nn=>h c e F trivial q m nn) (λb _=>d b)
def Nu(d:∀l,Gs (mN l bJ.empty::L) (K (eP l))):Gs L (Cw pQ 34 #[] K):=
 Gs.nw (φ:=λk=>Cw pQ _ _ k) (val:=eP) (p:=λ_=>True) (B:=λl=>mN l bJ.empty) (λw y K h=>IW λe l F q m nn=>h l e F trivial q m nn) (λb _=>d b)
def Gs.mkM{P:Program}{κ ν:Type} [DecidableEq κ]{enc:κ->Value}{ev:ν->Value}{t:TypeId}{k:Value->WP}(d:∀m,Gs (mp enc ev m ([]:List (κ×ν))::L) (k (.map (some m)))):Gs L (Vw P (Instr.makeMap t none) k):=⟨λw y=>by
 refine bo (A2 _) ((d _).go _ (y.new ((aR.refl _ w).alloc _) (F' :=λx=>x=w.heap.size) ⟨eM.new w,λ_=>aG⟩ λx e=>qZ))⟩
def Gs.mkB(d:∀m,Gs (OU m []::L) (K (.map (some m)))):Gs L (Vw pQ (Instr.makeMap 90 none) K):=Gs.mkM d
def Gs.mkD(d:∀m,Gs (OW m []::L) (K (.map (some m)))):Gs L (Vw pQ (Instr.makeMap 91 none) K):=Gs.mkM d
def Wm(h:Gs (sH [] bk::L) φ):Gs L φ:=⟨λw y=>h.go w (y.new (aR.refl _ w) (F' :=λ_=>False) ⟨λ_ _=>False,⟨λn b _ e=>(by cases e),λn m x _ _ h=>h.elim,λx=>⟨False.elim,λ⟨n,_,h,_⟩=>(by cases h)⟩⟩⟩ λ_ h=>h.elim)⟩
def VQ(h:Gs (uI [] (λ_=>[])::L) φ):Gs L φ:=⟨λw y=>h.go w (y.new (aR.refl _ w) (F' :=λ_=>False) ⟨λn _=>ic.nil _ _ _,λn m x _ _ h=>(by cases h),λx=>⟨False.elim,λ⟨n,_,h⟩=>(by cases h)⟩⟩ λ_ h=>h.elim)⟩
def U1(d:∀v c l mb md,Gs (vs v c l mb md [] [] bt.empty L) (K (ec v))):Gs L (Cw pQ 8 #[] K):=by
 refine sN Tryz.func8 ?_;refine On (λc=>?_);refine Nu (λl=>?_);refine Gs.mkB (λmb=>?_);refine Gs.mkD (λmd=>?_);refine au ?_;intro v;refine Wm (bk:=λ_=>Bk.empty) (VQ ?_);have h:Gs (Y3 v c l mb md 1::oz c ⟨0,[]⟩::mN l bJ.empty::OU mb []::OW md []::sH [] (λ_=>Bk.empty)::uI [] (λ_=>[])::L) (K (ec v)):=d v c l mb md;exact h.fin
def pI.nil:pI [] [] bt.empty.cal.l bt.empty.bk:=⟨λ_=>rfl,λ_ h=>(by cases h),λ_ _=>rfl⟩
structure al8 where
 v:Nat
 c:Nat
 l:Nat
 mb:Nat
 md:Nat
structure aj4 where
 R:List (Int×Nat)
 p:Option (Int×Nat)
 A:List (Int×Nat)
structure ai1 where
 R:List (Int×Value)
 p:Option (Int×Value)
 D:List (Int×Value)
def Zp{α:Type}{R:List (Int×α)}{i:Nat}{p:Int×α}(h:(R.map (·.1)).Nodup)(hi:R[i]? =some p):((R.eraseIdx i).map (·.1)).Nodup/\∀q∈R.eraseIdx i,q.1≠p.1:=by
 obtain⟨g,rfl⟩:=aJ.1 hi;have f:=h;rw[<-cJ i R,<-ci g,aM,aI,dD,ce]at f;obtain⟨h1,⟨k,m⟩,j⟩:=f;refine⟨h.sublist ((fg _ _).map _),λq d e=>?_⟩;rw[List.eraseIdx_eq_take_drop_succ,bf]at d;rcases d with d|d
 ·exact j q.1 (aX d) _ aw e
 ·grind
def Xa(S:bt)(A:List (Int×Nat)):Int->Bk:=λn=>if(lk A n).isSome then S.bk n else Bk.empty
def YH(S:bt)(D:List (Int×Value)):Int->List Od:=λn=>if(lk D n).isSome then S.bd n else []
def T7(S:bt)(A:List (Int×Nat))(n:Int)(b:Nat):eS (Xa S A) n (S.bk n)=Xa S (put A n b):=by
 funext m;unfold Xa;rw[lm];by_cases h:m=n
 ·subst h;rw[cQ,ae rfl];rfl
 ·rw[eR _ _ _ h,aa (c:=n=m) λe=>h e.symm]
def VI(S:bt)(D:List (Int×Value))(n:Int)(s:Vt_):eS (YH S D) n (S.bd n)=YH S (put D n s):=by
 funext m;unfold YH;rw[lm];by_cases h:m=n
 ·subst h;rw[cQ,ae rfl];rfl
 ·rw[eR _ _ _ h,aa (c:=n=m) λe=>h e.symm]
structure WE{α:Type}(A A' R:List (Int×α)):Prop where
 r:∀q∈R,q∈A
 nd:(R.map (·.1)).Nodup
 no:∀q∈R,lk A' q.1=none
 sub:∀n,(lk A' n).isSome=true->(lk A n).isSome=true
 all:∀q∈A,q∈R\/(lk A' q.1).isSome=true
def WE.step{α:Type}{A g R:List (Int×α)}{i:Nat}{p:Int×α}{x:α}(h:WE A g R)(hi:R[i]? =some p)(k:lk A p.1=some p.2):WE A (put g p.1 x) (R.eraseIdx i):=by
 obtain⟨r,m⟩:=Zp h.nd hi;have j:∀q∈R.eraseIdx i,q∈R:=λq d=>(fg _ _).mem d;refine⟨λq d=>h.r q (j q d),r,λq d=>?_,λn f=>?_,λq d=>?_⟩
 ·rw[lm,aa λe=>m q d e.symm];exact h.no q (j q d)
 ·rw[lm]at f;by_cases e:p.1=n
  ·rw[<-e,k];rfl
  ·rw[aa e]at f;exact h.sub n f
 ·rw[lm];by_cases e:p.1=q.1
  ·grind
  ·rw[aa e];exact(h.all q d).imp (λo=>(CE hi o).resolve_left λh=>e (h▸rfl)) id
def WE.fin{α:Type}{A e:List (Int×α)}(h:WE A e [])(n:Int):(lk e n).isSome=(lk A n).isSome:=by
 cases h1:(lk e n).isSome with
 |true=>rw[h.sub n h1]
 |false=>
  cases f:lk A n with
  |none=>rfl
  |some x=>
   rcases h.all _ (yK f)with d|d
   ·cases d
   ·rw[h1]at d;cases d
def HH(E:pI A D S.cal.l S.bk)(N:S.Ok)(W:∀t o r e d g q,pI g q S.cal.l S.bk->Gs (vs t o r e d g q S (vs v c l mb md A D S L)) (K (ec t)))(pk:eG L0 (vs v c l mb md A D S L):=by exact iP):Gs L0 (Cw pQ 38 #[ec v] K):=by
 refine Gs.pk ?_ pk;refine sN Tryz.func38 ?_;unfold ec;refine yW ?_;refine au ?_;refine Gs.j (λy:al8=>(.pointer (some ⟨y.v,0,none⟩),())) (λy=>Y3 y.v y.c y.l y.mb y.md S.next::oz y.c S.cal::mN y.l S.led::OU y.mb []::OW y.md []::vs v c l mb md A D S L) (λ_=>True) (λJ Z=>?_) λy _=>?_
 ·refine au ?_
  repeat' (first|(intro t;exact(Z ⟨t,_,_,_,_⟩ trivial).fin)|(refine Gs.An ?_ ?_ <;>refine au ?_)|(refine Ri (λo=>?_);refine au ?_)|(refine QD (λr=>?_);refine au ?_)|((with_reducible refine Gs.mkB (λe=>?_));refine au ?_)|((with_reducible refine Gs.mkD (λd=>?_));refine au ?_))
 show Gs (OX y.v y.c y.l y.mb y.md S.next::_) _;obtain⟨t,o,r,e,d⟩:=y
 dsimp only
 refine Gs.z (au ?_);refine Kr (λO=>?_);refine Gs.mpN (enc:=eY) (ev:=fi) (D:=A) (λU=>?_) fR;refine Gs.mpN (enc:=eY) (ev:=yr) (D:=D) (λT=>?_) fR;refine Gs.rng xM (λit=>?_) fR;refine Wm (bk:=Xa S []) ?_;refine Gs.l (λ_:aj4=>()) (·.R.length) (λx=>OR eY fi mb A it x.R x.p::OX t o r e d S.next::oz o S.cal::mN r S.led::OU e x.A::OW d []::sH x.A (Xa S x.A)::OX v c l mb md S.next::oz c S.cal::mN l S.led::OW md D::sH A S.bk::uI D S.bd::L) (λx=>WE A x.A x.R) ⟨A,none,[]⟩ rfl ⟨λ_ h=>h,U,λ_ _=>rfl,λ_ h=>(by cases h),λ_ h=>.inl h⟩ ?_ iP;rintro⟨R,Y,g⟩ j V f
 dsimp only at j f|-
 refine Gs.z ?_;refine Gs.nxt (λF=>?_) (λi p u=>?_) fR
 ·subst F;have k:=j.fin
  have I:Xa S g=S.bk:=by
   funext n;unfold Xa;rw[k];by_cases h:(lk A n).isSome=true
   ·rw[ae h]
   ·rw[aa h,E.nbk n (by simpa using h)]
  rw[I];clear f j;refine au ?_;refine Gs.rng rj (λQ=>?_) fR;refine VQ ?_;refine Gs.l (λ_:ai1=>()) (·.R.length) (λx=>OR eY yr md D Q x.R x.p::OX t o r e d S.next::oz o S.cal::mN r S.led::OU e g::OW d x.D::sH g S.bk::uI x.D (YH S x.D)::OX v c l mb md S.next::oz c S.cal::mN l S.led::OU mb A::sH A S.bk::uI D S.bd::L) (λx=>WE D x.D x.R) ⟨D,none,[]⟩ rfl ⟨λ_ h=>h,T,λ_ _=>rfl,λ_ h=>(by cases h),λ_ h=>.inl h⟩ ?_ ?_
  rotate_left
  ·show eG _ (OR eY yr md D Q D none::OX t o r e d S.next::oz o S.cal::mN r S.led::OU e g::OW d []::sH g S.bk::uI [] (λ_=>[])::OX v c l mb md S.next::oz c S.cal::mN l S.led::OU mb A::sH A S.bk::uI D S.bd::L);exact iP
  rintro⟨R,Y,q⟩ j V f
  dsimp only at j f|-
  refine Gs.z ?_;refine Gs.nxt (λF=>?_) (λi p u=>?_) fR
  ·subst F
   have P:YH S q=S.bd:=by
    funext n;unfold YH;rw[j.fin];by_cases h:(lk D n).isSome=true
    ·rw[ae h]
    ·rw[aa h,O n (by simpa using h)]
   rw[P];refine au ?_;exact(W t o r e d g q ⟨λn=>by rw[k];exact E.dom n,λn h=>E.dod n (j.sub n h),λn h=>E.nbk n (by have:=k n;rw[h]at this;simpa using this.symm)⟩).fin
  ·obtain⟨n,s⟩:=p;have m:lk D n=some s:=tS T (j.r _ (dc u));have H:lx D n=s:=by unfold lx;rw[m];rfl
   refine au ?_;refine Gs.ent ?_ fR;refine au ?_;refine P9 (os:=S.bd n) (s:=s) (H▸qg n) (by have:=N.ord.bdl n;omega) (λw=>?_);refine au ?_;refine Gs.mup (enc:=eY) (ev:=yr) (D:=q) (x:=n) (v:=w) rj lu ?_ fR;refine xU (D:=q) (n:=n) ?_;refine B8 (D:=q) (n:=n) (s:=w) (os:=S.bd n) ?_;rw[VI S q n w];have G:=j.step (x:=w) u m;exact(f ⟨R.eraseIdx i,some (n,s),put q n w⟩ G (by have:=(aJ.1 u).1;show(R.eraseIdx i).length<_;rw[iZ this];omega)).fin
 ·obtain⟨n,b⟩:=p;have m:lk A n=some b:=tS U (j.r _ (dc u));refine au ?_;refine Gs.ent ?_ fR;refine au ?_;refine Nb (n:=n) m (λz=>?_);refine au ?_;refine Gs.mup (enc:=eY) (ev:=fi) (D:=g) (x:=n) (v:=z) xM lu ?_ fR;refine L2 (A:=g) (n:=n) (j.no _ (dc u)) ?_;rw[T7 S g n z];have G:=j.step (x:=z) u m;exact(f ⟨R.eraseIdx i,some (n,b),put g n z⟩ G (by have:=(aJ.1 u).1;show(R.eraseIdx i).length<_;rw[iZ this];omega)).fin
end
end Go.Proofs
namespace Go.Proofs
open Go Go.Vc
section
variable{L L0 M:List As}{φ:WP}{K:Value->WP}{k0:WP}{v c l mb md b:Nat}{A:List (Int×Nat)}{D:List (Int×Value)}{S:bt}{n a:Int}{x:Cm}
def TP(f:x.Fit)(d:Gs L (K (.bool x.may))):Gs L (Cw pQ 47 #[zF x] K):=⟨λw y=>UG f λe m=>d.go e (y.md0 m)⟩
def C4{e:Int}(d:Gs L (K (O0 (zJ e) (.slice none 0 0) (.slice none 0 0) (.slice none 0 0)))):Gs L (Cw pQ 41 #[.int .i64 e] K):=by
 refine sN Tryz.func41 ?_;refine au ?_;intro p;refine au ?_;exact d.fin
def Oz(j:S.Ok)(H:x.Fit)(o:∀t g u,RpB (S.apply x).1->Gs (uM v (S.apply x).2::Bm (ez t (S.apply x).1.trades.length) (S.apply x).1.trades::tL (ez g (S.apply x).1.gone.length) (S.apply x).1.gone::Ab (ez u (S.apply x).1.accts.length) (S.apply x).1.accts::L) (K (O0 (S.apply x).1 (ez t (S.apply x).1.trades.length) (ez g (S.apply x).1.gone.length) (ez u (S.apply x).1.accts.length)))):
  Gs (uM v S::L) (Cw pQ 15 #[ec v,zF x] K):=by
 refine GM λc l mb md A D I=>?_
 have G:∀{e:Int} {M},S.apply x=(zJ e,S)->Sb M (vs v c l mb md A D S L)->Gs M (K (O0 (zJ e) (.slice none 0 0) (.slice none 0 0) (.slice none 0 0))):=λ{e M} h p=>by
  refine Gs.fin (M:=vs v c l mb md A D S L) ?_ p;refine vV (C:=S.cal) I ?_;refine Gs.tdn (Gs.idn (Gs.uin ?_));have:=o (none,0) (none,0) (none,0);rw[h]at this;have:=this ⟨aH _,aH _,aH _⟩
  dsimp only[zJ,kI,List.length_nil]at this
  exact this.fin
 refine sN Tryz.func15 ?_;unfold ec;refine au ?_;intro p;refine au ?_;intro q;refine au ?_;refine yW ?_;refine au ?_;refine Gs.X (λw z=>iH fR LS H9 (fL x) w z) ?_;refine TP H ?_;refine au ?_;refine Gs.Ib (λi=>?_) λi=>?_
 ·have h:S.apply x=(zJ 160,S):=by unfold bt.apply;rw[ae (by simpa using i)]
  refine C4 ?_;refine au ?_;exact G h sbZ
 have i:x.may=true:=by simpa using i
 have d:S.apply x=if(S.done x).1≠0 then(zJ (S.done x).1,S)else((S.done x).2.1,(S.done x).2.2):=by unfold bt.apply;rw[aa (by rw[i];decide)]
 refine HH I j (λR J P y s W X m=>?_);refine Gs.X (λw z=>iH (b:=p) (cs:=ny x) fR LS H9 (fL x) w z) ?_;refine Mj m j H (λO t g u N f k=>?_);generalize S.done x=Y at d f k|-;obtain⟨e,r,T⟩:=Y;obtain⟨U,Z,Q,V,F,B,E⟩:=r
 dsimp only at d f|-
 unfold ec;refine au ?_;intro r;refine au ?_;refine Gs.Ib (λh=>?_) λh=>?_
 ·rw[ae (by simpa using h)]at d;refine C4 ?_;refine au ?_;exact G d sbZ
 rw[aa (by simpa using h)]at d;rw[d]at o;refine au ?_;refine Gs.fin (M:=vo v J P y s O N T.cal T.led T.bk T.bd T.next (Bm (ez t F.length) F::tL (ez g B.length) B::Ab (ez u E.length) E::L)) ?_;refine vV f ?_;exact o t g u k
end
end Go.Proofs
namespace Go.Proofs
open Go Go.Vc
section
variable{P:Program}{L M:List As}{k:Value->WP}{s:Vt_}{t T:TypeId}{α:Type}{f:α->List Value}{vf:α->Value}{sz i n:Nat}{l:List α}
def Gs.itP(v:P.underlying t=some (.slice T))(A:P.cellsOf T=sz+1)(q:∀x,(f x).length=sz+1)(d:∀x w b a,At w b a (f x)->(iL T (bO b a)).run P w=.ok (vf x) w)
  (z:∀w,Ss w L->Rd w (sz+1) s n (l.flatMap f))(h:n=l.length)(hi:i<l.length)(j:Gs L (k (vf l[i]))):Gs L (Pw P (iX t s (gI (i:Int))) λp=>Ww P (iL T p) k):=⟨λw y=>by
 obtain⟨b,a,m,c,e,o⟩:=(z w y).item q hi h;refine du (bO b (a+i*(sz+1))) (λW=>by rw[c];subst h;simp[go_sem,hi,bK,v,Go.Vc.lI A,Result.andThen]) (cK (d _ w _ _ o) (j.go w y))⟩
end
def ai8(x:Td)(w:Wt_):(io .neq Z5 false (YI x) (YI x)).run pQ w=.ok (.bool false) w:=by simp[go_sem,YI,FJ]
def af6:Tryz.prog.cellsOf 37=0+1:=cV
def aa8:Tryz.prog.cellsOf 45=0+1:=cV
def VW(x:Int)(w:Wt_)(b off:Nat)(h:At w b off (vZ x)):(iL 37 (bO b off)).run pQ w=.ok (gQ x) w:=by
 obtain⟨C,e,d,hC,c⟩:=h.get;have a:=c 0 (gQ x) rfl;simp only[cB]at a;simp[go_sem,bT hC,a]
def VV(x:Int)(w:Wt_)(b off:Nat)(h:At w b off (Cu x)):(iL 45 (bO b off)).run pQ w=.ok (gU x) w:=by
 obtain⟨C,e,d,hC,c⟩:=h.get;have a:=c 0 (gU x) rfl;simp only[cB]at a;simp[go_sem,bT hC,a]
section
variable{L L0 M:List As}{K:Value->WP}{r:Rp}{t g u t' g' u' :Option Addr×Nat}
def OK(o:RpB r)(c:Gs L0 (K (.bool true)))(pk:eG L0 (Bm (ez t r.trades.length) r.trades::tL (ez g r.gone.length) r.gone::Ab (ez u r.accts.length) r.accts::Bm (ez t' r.trades.length) r.trades::tL (ez g' r.gone.length) r.gone::Ab (ez u' r.accts.length) r.accts::L):=by exact iP):
  Gs L0 (Cw pQ 18 #[O0 r (ez t r.trades.length) (ez g r.gone.length) (ez u r.accts.length),O0 r (ez t' r.trades.length) (ez g' r.gone.length) (ez u' r.accts.length)] K):=by
 refine Gs.pk ?_ pk;replace c:=Gs.pk c pk.symm;obtain⟨m,B,z⟩:=o;obtain⟨e,n,f,l,T,G,U⟩:=r
 dsimp only at m B z c|-
 refine sN Tryz.func18 ?_;refine au ?_;intro p;refine au ?_;intro q;refine au ?_;refine Gs.j1 (.bool false,()) (λJ A=>?_) ?_
 ·refine au ?_;exact A
 refine Gs.z (au ?_);refine Gs.l (λi:Nat=>(.bool false,gI i,())) (T.length - ·) (λ_=>pt q (CK e n f l (ez t' T.length) (ez g' G.length) (ez u' U.length)) vg::pt p (CK e n f l (ez t T.length) (ez g G.length) (ez u U.length)) vg::Bm (ez t T.length) T::tL (ez g G.length) G::Ab (ez u U.length) U::Bm (ez t' T.length) T::tL (ez g' G.length) G::Ab (ez u' U.length) U::L) (·<=T.length) 0 rfl (aH _) ?_ .refl;intro i j d b
 dsimp only
 refine Gs.z (au ?_);refine Gs.I (λh=>?_) λh=>?_
 ·have a:i<T.length:=qZ;refine au ?_;refine Gs.itP (f:=FJ) Hu nTd FF Sv (λw y=>nG (s:=ez t T.length) fR w y) rfl a ?_;refine au ?_;refine Gs.itP (f:=FJ) Hu nTd FF Sv (λw y=>nG (s:=ez t' T.length) fR w y) rfl a ?_;generalize T[i]=x;refine Gs.Pu (v:=.bool false) (λw=>ai8 x w) ?_;refine au ?_;exact b (i+1) a qZ
 obtain rfl:i=T.length:=qZ;clear b;refine Gs.l (λi:Nat=>(.bool false,gI i,())) (G.length - ·) (λ_=>pt q (CK e n f l (ez t' T.length) (ez g' G.length) (ez u' U.length)) vg::pt p (CK e n f l (ez t T.length) (ez g G.length) (ez u U.length)) vg::Bm (ez t T.length) T::tL (ez g G.length) G::Ab (ez u U.length) U::Bm (ez t' T.length) T::tL (ez g' G.length) G::Ab (ez u' U.length) U::L) (·<=G.length) 0 rfl (aH _) ?_ .refl;intro i j d b
 dsimp only
 refine Gs.z (au ?_);refine Gs.I (λh=>?_) λh=>?_
 ·have a:i<G.length:=qZ;refine au ?_;refine Gs.itP (f:=vZ) yf af6 (λ_=>rfl) VW (λw y=>nG (s:=ez g G.length) fR w y) rfl a ?_;refine au ?_;refine Gs.itP (f:=vZ) yf af6 (λ_=>rfl) VW (λw y=>nG (s:=ez g' G.length) fR w y) rfl a ?_;refine au ?_;exact b (i+1) a qZ
 obtain rfl:i=G.length:=qZ;clear b;refine Gs.l (λi:Nat=>(.bool false,gI i,())) (U.length - ·) (λ_=>pt q (CK e n f l (ez t' T.length) (ez g' G.length) (ez u' U.length)) vg::pt p (CK e n f l (ez t T.length) (ez g G.length) (ez u U.length)) vg::Bm (ez t T.length) T::tL (ez g G.length) G::Ab (ez u U.length) U::Bm (ez t' T.length) T::tL (ez g' G.length) G::Ab (ez u' U.length) U::L) (·<=U.length) 0 rfl (aH _) ?_ .refl;intro i j d b
 dsimp only
 refine Gs.z (au ?_);refine Gs.I (λh=>?_) λh=>?_
 ·have a:i<U.length:=qZ;refine au ?_;refine Gs.itP (f:=Cu) JG aa8 (λ_=>rfl) VV (λw y=>nG (s:=ez u U.length) fR w y) rfl a ?_;refine au ?_;refine Gs.itP (f:=Cu) JG aa8 (λ_=>rfl) VV (λw y=>nG (s:=ez u' U.length) fR w y) rfl a ?_;refine au ?_;exact b (i+1) a qZ
 exact c.fin
end
end Go.Proofs
namespace Go.Proofs
open Go Go.Vc
variable {B:Bk}{buy rests:Bool}{a:Int}{A:List Ac}{U:List Int}{P:List Po}{o:Od}{S T:bt}{s:uR}
structure nu(S S' :bt):Prop where
 cal:∀n k',cj S'.cal.l n=some k' ->∃k,cj S.cal.l n=some k/\k'.spec=k.spec
 bk:∀n d,(S'.bk n d).Sublist (S.bk n d)
 bd:∀n,((S'.bd n).map Od.key).Sublist ((S.bd n).map Od.key)
def nu.refl(S:bt):nu S S:=⟨λn k h=>⟨k,h,rfl⟩,λ_ _=>cM _,λ_=>cM _⟩
def nu.trans{U:bt}(h:nu S T)(a:nu T U):nu S U:=
 ⟨λn k b=>by
  obtain⟨k1,e,f⟩:=a.cal n k b;obtain⟨k2,c,g⟩:=h.cal n k1 e;exact⟨k2,c,f.trans g⟩,λn d=>(a.bk n d).trans (h.bk n d),λn=>(a.bd n).trans (h.bd n)⟩
def nu.led(h:nu S T)(L:bJ):nu S {T with led:=L}:=⟨h.cal,h.bk,h.bd⟩
def nu.bk1(h:nu S T)(n:Int)(B:Bk)(b:∀d,(B d).Sublist (T.bk n d)):nu S {T with bk:=eS T.bk n B}:=
 h.trans ⟨λn k h=>⟨k,h,rfl⟩,λm d=>by
  show(eS T.bk n B m d).Sublist _;by_cases a:m=n
  ·subst a;rw[cQ];exact b d
  ·rw[eR _ _ _ a];exact cM _,λ_=>cM _⟩
def nu.bd1(h:nu S T)(n:Int)(B:List Od)(b:(B.map Od.key).Sublist ((T.bd n).map Od.key)):nu S {T with bd:=eS T.bd n B}:=
 h.trans ⟨λn k h=>⟨k,h,rfl⟩,λ_ _=>cM _,λm=>by
  show((eS T.bd n B m).map Od.key).Sublist _;by_cases a:m=n
  ·subst a;rw[cQ];exact b
  ·rw[eR _ _ _ a];exact cM _⟩
def nu.cal1(h:nu S T){C:oR}(hC:∀n a,cj C.l n=some a->∃k,cj T.cal.l n=some k/\a.spec=k.spec):nu S {T with cal:=C}:=
 h.trans ⟨hC,λ_ _=>cM _,λ_=>cM _⟩
def nu.set1(h:nu S T)(n:Int){f:Ct->Ct}(b:∀k,(f k).spec=k.spec)(d:Int):nu S {T with cal:=⟨d,iu T.cal.l n f⟩}:=by
 refine h.cal1 λm e a=>?_;replace a:cj (iu T.cal.l n f) m=some e:=a;rw[qq (λk _=>by rw[b])]at a;cases c:cj T.cal.l m with
 |none=>rw[c]at a;cases a
 |some k=>
  rw[c]at a;refine⟨k,rfl,?_⟩;have a:(if k.spec.num=n then f k else k)=e:=cZ a;rw[<-a];split
  ·exact b k
  ·rfl
def AT(l:List Od)(n:Int):(oX l n).Sublist l:=List.eraseP_sublist
def zA(B:Bk)(n:Int)(d:Bool):((fq B n).2.1 d).Sublist (B d):=by
 unfold fq;split
 ·grind
 ·rename_i o e _
  show(Bk.set _ _ _ d).Sublist _;by_cases h:d=e
  ·subst h;rw[Bk.set_self];exact AT _ _
  ·rw[Bk.set_ne _ _ h];exact cM _
def yG(a:Int):∀(l:List Od) (B:Bk) (d:Bool),(uF a B l d).Sublist (B d)
 | [],B,d=>cM _
 |o::l,B,d=>by
  show(uF a (if lW a o then(fq B o.num).2.1 else B) l d).Sublist _;refine(yG a l _ d).trans ?_;split
  ·exact zA B o.num d
  ·grind
def Uh(a:Int)(x:List Int×bt)(n:Int):nu x.2 (uL a x n).2:=by
 have h1:=(nu.refl x.2).bk1 n (jk (x.2.bk n) a).1 λd=>yG a _ _ d;exact h1.bd1 n ((x.2.bd n).filter λo=> !lw a o) (eI.map _)
def Gv(a:Int):∀(b:List Int) (x:List Int×bt),nu x.2 (b.foldl (uL a) x).2
 | [],x=>nu.refl _
 |n::b,x=>(Uh a x n).trans (Gv a b (uL a x n))
def zp(S:bt)(a k:Int):nu S (S.clear a k).2:=Gv a _ ([],S)
def xZ:∀(l:List Sd) (r:Rp) (S:bt),nu S (nJ l r S).2.2
 | [],r,S=>nu.refl S
 |s::l,r,S=>by
  have h1:=zp S s.acct 0;cases a:s.dfl<;>simp only[nJ,a,df,dg,bi]
  ·split
   ·exact(nu.refl S).led _
   ·exact((nu.refl S).led _).trans (xZ l _ _)
  ·split
   ·exact h1.led _
   ·exact(h1.led _).trans (xZ l _ _)
def AL(S:bt)(won:Int->Int):nu S (S.pay won).2.2:=by
 unfold bt.pay;simp only;split
 ·exact nu.refl S
 ·split
  ·exact xZ _ _ _
  ·exact(xZ _ _ _).led _
def Ke(S:bt):nu S S.settle.2.2:=by
 have a:nu S {S with cal:=(fa S.cal).2}:=(nu.refl S).cal1 λn b h=>⟨b,by rw[<-JS S.cal];exact h,rfl⟩
 unfold bt.settle;simp only;split
 ·exact a
 ·split
  ·exact a.led _
  ·split
   ·exact(a.led _).trans (AL _ _)
   ·exact((a.led _).trans (AL _ _)).led _
def IJ(S:bt)(n:Int):nu S (S.expire n).2.2:=by
 have a:nu S {S with cal:=(fG S.cal n).2}:=by
  unfold fG;split
  ·exact nu.refl S
  ·exact(nu.refl S).set1 n (f:=λk=>{k with st:=3}) (λ_=>rfl) _
 unfold bt.expire;simp only;split
 ·exact a
 ·split
  ·exact a.led _
  ·split
   ·exact(a.led _).trans (AL _ _)
   ·exact(((a.led _).trans (AL _ _)).bk1 n _ λd=>yG 0 _ _ d).bd1 n [] (List.nil_sublist _)
def Pk(S:bt)(n:Int)(on:Bool):nu S {S with cal:=(jS S.cal n on).2}:=by
 unfold jS;split
 ·exact nu.refl S
 ·exact(nu.refl S).set1 n (f:=λk=>{k with st:=if on then 2 else 1}) (λ_=>rfl) _
def Gl(S:bt)(n p:Int):nu S {S with cal:=(fS S.cal n p).2}:=by
 unfold fS;split
 ·exact nu.refl S
 ·split
  ·exact nu.refl S
  ·split
   ·exact nu.refl S
   ·exact(nu.refl S).set1 n (f:=λk=>{k with price:=p}) (λ_=>rfl) _
def JH(S:bt)(c:Cm):nu S (S.cancel c).2.2:=by
 unfold bt.cancel;split
 ·exact(nu.refl S).bk1 _ _ λd=>zA _ _ d
 ·split
  ·exact(nu.refl S).bd1 _ _ ((fg _ _).map _)
  ·exact nu.refl S
def Hy(l:List Od)(num qty:Int):((kT l num qty).map Od.key).Sublist (l.map Od.key):=by
 unfold kT;split
 ·grind
 ·rename_i i b
  obtain⟨a,-⟩:=bz.1 b;simp only;split
  ·grind
  ·rw[gF]
   have:Od.key {l.getD i oQ with left:=(l.getD i oQ).left - qty}=(l.map Od.key)[i]'(by simpa using a):=by
    rw[cG];simp[a,Od.key]
   rw[this,gD];exact cM _
def BL{n a:Int}{long:Bool}{price:Int}:∀(l:List Fl) (left:Int) (r:Rp) (S:bt),nu S (nR n a long price l left r S).2.2.2
 | [],left,r,S=>nu.refl S
 |f::l,left,r,S=>by
  unfold nR;simp only;split
  ·exact(nu.refl S).led _
  ·refine nu.trans ?_ (BL l _ _ _);exact((nu.refl S).led (mq S.led n a f.acct long price f.qty).2).bd1 n _ (Hy (S.bd n) f.num f.qty)
def BZ{n a:Int}{long:Bool}{price:Int}:∀(l:List Hd) (r:Rp) (S:bt),nu S (nL n a long price l r S).2.2
 | [],r,S=>nu.refl S
 |x::l,r,S=>by
  unfold nL;simp only;split
  ·exact(nu.refl S).led _
  ·exact((nu.refl S).led _).trans (BZ l _ _)
def Iu(S:bt)(k:Ct)(a q:Int)(r:Rp):nu S (S.sell k a q r).2.2:=by
 unfold bt.sell
 dsimp only
 generalize jj _ _ _=X;by_cases c:X.2.2≠0
 ·rw[ae c];exact nu.refl S
 rw[aa c];have h:=BL (n:=k.spec.num) (a:=a) (long:=decide (0<q)) (price:=X.1) X.2.1 (max q (-q)) r S;generalize nR k.spec.num a _ _ _ _ r S=Y at h|-;by_cases h1:Y.1≠0
 ·rw[ae h1];exact h
 rw[aa h1];by_cases b:Y.2.1=0
 ·rw[ae b];exact h
 rw[aa b];generalize ky _ _=Z;by_cases d:Z.2≠0
 ·rw[ae d];exact h
 rw[aa d];exact h.trans (BZ _ _ _)
def yH(a:Int):∀(l:List Ct) (r:Rp) (S:bt),nu S (pP a l r S).2.2
 | [],r,S=>nu.refl S
 |k::l,r,S=>by
  unfold pP;simp only;split
  ·exact yH a l r S
  ·split
   ·exact Iu S _ _ _ _
   ·exact(Iu S _ _ _ _).trans (yH a l _ _)
def Ue(S:bt)(a:Ac):nu S (S.liquidate a).2.2:=by
 unfold bt.liquidate;split
 ·exact nu.refl S
 ·exact yH _ _ _ _
def xm(buy:Bool)(l:List Od):Prop:=l.Pairwise λa b=>iG buy b.price a.price=false
structure ZM(B:Bk):Prop where
 srt:∀d,xm d (B d)
 unc:∀b∈B true,∀s∈B false,b.price<s.price
structure wh(S:bt):Prop where
 bks:∀n,ZM (S.bk n)
 spc:∀n k,cj S.cal.l n=some k->(∀o∈S.ords n,k.spec.isPrice o.price=true)/\∀d,∀o∈S.bk n d,k.spec.isQty o.left=true
 bdn:∀n,(S.bd n).Pairwise λa b=>a.num<b.num
def In{l c:List Od}(h:(c.map Od.key).Sublist (l.map Od.key))(hs:xm buy l):xm buy c:=by
 have h1:(l.map Od.key).Pairwise λa b=>iG buy b.2.2.2 a.2.2.2=false:=eL.2 hs;exact eL.1 (h1.sublist h)
def wh.sub{S' :bt}(h:wh S)(hs:nu S S'):wh S' :=by
 refine⟨λn=>⟨λd=>(h.bks n).srt d |>.sublist (hs.bk n d),λb l s c=>(h.bks n).unc b ((hs.bk n _).mem l) s ((hs.bk n _).mem c)⟩,λn r m=>?_,λn=>?_⟩
 ·obtain⟨k,h1,j⟩:=hs.cal n r m;obtain⟨i,p⟩:=h.spc n k h1;rw[j];refine⟨λo g=>?_,λd o g=>p d o ((hs.bk n d).mem g)⟩;rcases kv g with⟨d,e⟩|e
  ·exact i o (iz ((hs.bk n d).mem e))
  ·obtain⟨u,t,q⟩:=aL.1 ((hs.bd n).mem (aX e));rw[<-rJ q];exact i u (jB t)
 ·have h1:((S.bd n).map Od.key).Pairwise λa b=>a.1<b.1:=eL.2 (h.bdn n);exact(eL (f:=Od.key) (R:=λa b=>a.1<b.1)).1 (h1.sublist (hs.bd n))
def Kz:wh bt.empty:=⟨λn=>⟨λd=>List.Pairwise.nil,λb c=>(by cases c)⟩,λn k a=>(by cases a),λn=>List.Pairwise.nil⟩
def Rf{l:List Od}(h:xm buy l):xm buy (tB buy l o):=by
 unfold tB Fy;cases n:l.findIdx? λx=>iG buy o.price x.price with
 |none=>
  rw[dH]at n;simp only[Option.getD_none,aK,eE];refine dt.2 ⟨h,List.pairwise_singleton ..,λa d b c=>?_⟩;rw[cm.1 c];simpa using n a d
 |some i=>
  obtain⟨m,hp,p⟩:=bz.1 n;simp only[dC];have g:=h;unfold xm at g;rw[<-cJ i l,dt]at g;obtain⟨h1,f,r⟩:=g
  have e:∀a∈l.take i,iG buy o.price a.price=false:=λa d=>by
   obtain⟨j,s,rfl⟩:=bQ d;rw[az]at s;rw[List.getElem_take];simpa using p j qZ
  have k:∀b∈l.drop i,iG buy b.price o.price=false:=λb c=>by
   have q:iG buy b.price l[i].price=false:=by
    rw[cD m]at c f;rcases ax.1 c with rfl|c
    ·unfold iG;cases buy<;>simp
    ·exact(bY.1 f).1 b c
   unfold iG at q hp|-;cases buy<;>simp at* <;>omega
  refine dt.2 ⟨h1,bY.2 ⟨k,f⟩,λa d b c=>?_⟩;rcases ax.1 c with rfl|c
  ·exact e a d
  ·exact r a d b c
def yw{o:Od}:∀{L:List Od} {left:Int},0<(eT o left L).1->(eT o left L).2.1=[]\/∃b r,(eT o left L).2.1=b::r/\gz o b.price=false
 | [],left,h=>.inl rfl
 |b::r,left,h=>by
  unfold eT at h|-;by_cases h1:left<=0\/gz o b.price=false
  ·rw[ae h1]at h|-;rcases h1 with h1|h1
   ·simp only at h;omega
   ·grind
  rw[aa h1]at h|-;by_cases a:b.acct=o.acct
  ·rw[ae a]at h|-;exact yw (left:=left) h
  rw[aa a]at h|-;by_cases c:left<b.left
  ·grind
  ·rw[aa c]at h|-;exact yw (left:=left - b.left) h
def NG{L:List Od}(hs:xm (!o.buy) L)(h:L=[]\/∃b r,L=b::r/\gz o b.price=false):∀x∈L,gz o x.price=false:=by
 intro x c;rcases h with rfl|⟨b,r,rfl,a⟩
 ·cases c
 ·rcases ax.1 c with rfl|c
  ·exact a
  ·have:=(bY.1 hs).1 x c;unfold iG at this;unfold gz at a|-;cases h:o.buy<;>rw[h]at this a<;>simp at this a|- <;>omega
def Pj(v:Cl B)(t:o.may=true)(hs:ZM B):ZM (fC B o rests).1:=by
 have m:=yg (rests:=rests) v t;have k:=In m.opp.sub (hs.srt _)
 have c:0<(fC B o rests).2.left->∀x∈(fC B o rests).1 (!o.buy),gz o x.price=false:=by
  intro p;refine NG k ?_;unfold fC at p|-;simp only at p|-;by_cases h1:rests=true/\0<(eT o o.left (B !o.buy)).1
  ·rw[ae h1];show Bk.set _ _ _ _=[]\/∃b r,Bk.set _ _ _ _=b::r/\_;rw[Bk.set_other,Bk.set_self];exact yw h1.2
  ·grind
 have j:xm o.buy ((fC B o rests).1 o.buy):=by
  rcases m.own with h1|⟨-,h1,-⟩
  ·rw[h1];exact hs.srt _
  ·rw[h1];exact Rf (hs.srt _)
 refine⟨λd=>?_,λb i s e=>?_⟩
 ·by_cases q:d=o.buy
  ·subst q;exact j
  ·obtain rfl:d= !o.buy:=by cases d<;>cases h:o.buy<;>simp_all
   exact k
 ·have old:∀x∈(fC B o rests).1 (!o.buy),∃y∈B (!o.buy),y.price=x.price:=λx u=>by
   obtain⟨y,h1,g⟩:=m.opp.mem u;exact⟨y,h1,rJ g⟩
  cases a:o.buy with
  |true=>
   rw[a]at old c;obtain⟨y,h1,g⟩:=old s e;rcases m.own with f|⟨f,l,-⟩
   ·rw[a]at f;rw[f]at i;rw[<-g];exact hs.unc b i y h1
   ·rw[a]at l;rw[l]at i;rcases ax.1 ((oC _ _ _).mem_iff.1 i)with rfl|n
    ·have:=c f s e;unfold gz at this;rw[a]at this;simpa using this
    ·rw[<-g];exact hs.unc b n y h1
  |false=>
   rw[a]at old c;obtain⟨y,h1,g⟩:=old b i;rcases m.own with f|⟨f,l,-⟩
   ·rw[a]at f;rw[f]at e;rw[<-g];exact hs.unc y h1 s e
   ·rw[a]at l;rw[l]at e;rcases ax.1 ((oC _ _ _).mem_iff.1 e)with rfl|n
    ·have:=c f b i;unfold gz at this;rw[a]at this;simpa using this
    ·rw[<-g];exact hs.unc y h1 s n
def AQ{s:Sp}{q:Int}:s.isQty q=true↔s.may=true/\(1<=q/\q<=1000000)/\s.lot∣q:=by
 unfold Sp.isQty;rw[ai,ai,fe,aS,Int.dvd_iff_tmod_eq_zero]
def zq{s:Sp}{o:Od}:∀{L:List Od} {left:Int},0<=left->left<=1000000->s.lot∣left->(∀b∈L,s.isQty b.left=true)->s.lot∣(eT o left L).1/\∀b∈(eT o left L).2.1,s.isQty b.left=true
 | [],left,_,_,h1,_=>⟨h1,λb c=>(by cases c)⟩
 |b::r,left,k,e,h1,f=>by
  unfold eT;have c:=f b aw;have d:=λx a=>f x (ag _ a);obtain⟨j,m,g⟩:=AQ.1 c;by_cases l:left<=0\/gz o b.price=false
  ·grind
  rw[aa l];by_cases h:b.acct=o.acct
  ·rw[ae h];exact zq (left:=left) k e h1 d
  rw[aa h];by_cases i:left<b.left
  ·rw[ae i];refine⟨Int.dvd_zero _,λx a=>?_⟩;rcases ax.1 a with rfl|a
   ·exact AQ.2 ⟨j,⟨by grind,by grind⟩,Int.dvd_sub g h1⟩
   ·exact d x a
  ·rw[aa i];exact zq (left:=left - b.left) qZ qZ (Int.dvd_sub h1 g) d
def Mt{s:Sp}(n:Cl B)(l:o.may=true)(g:s.isQty o.left=true)(b:∀d,∀x∈B d,s.isQty x.left=true):∀d,∀x∈(fC B o rests).1 d,s.isQty x.left=true:=by
 have c:=yg (rests:=rests) n l;obtain⟨i,r,k⟩:=AQ.1 g;obtain⟨m,f⟩:=zq (s:=s) (o:=o) (L:=B !o.buy) (left:=o.left) qZ qZ k (b _);intro d x a;by_cases e:d=o.buy
 ·subst e;rcases c.own with h1|⟨p,h1,-⟩
  ·grind
  ·rw[h1]at a;rcases ax.1 ((oC _ _ _).mem_iff.1 a)with rfl|j
   ·have q:=c.fill;refine AQ.2 ⟨i,⟨by grind,by grind⟩,?_⟩;show s.lot∣(fC B o rests).2.left;unfold fC;simp only;split
    ·exact m
    ·exact Int.dvd_zero _
   ·exact b _ x j
 ·obtain rfl:d= !o.buy:=by cases d<;>cases h:o.buy<;>simp_all
  apply f;unfold fC at a;simp only at a;split at a
  ·replace a:x∈Bk.set _ _ _ (!o.buy):=a
   rwa[Bk.set_other,Bk.set_self]at a
  ·replace a:x∈Bk.set _ _ _ (!o.buy):=a
   rwa[Bk.set_self]at a
def N9{g:Gt}(h:g.check=0):g.k.spec.isQty g.qty=true:=by
 unfold Gt.check at h
 repeat (split at h;·cases h)
 all_goals simp_all
def D0{n:Int}{price qty:Int}{w:Od}(b:a≠0)(h:S.pass a n buy price qty w=0):∃k,cj S.cal.l n=some k/\k.spec.isPrice price=true/\k.spec.isQty qty=true:=by
 obtain⟨k,h1,-,c,-⟩:=(yo b h).opn;refine⟨k,h1,c,?_⟩;unfold bt.pass at h;split at h
 ·cases h
 split at h
 ·grind
 have:=N9 h;unfold dO at this;rw[h1]at this;exact this
def wh.bk1(h:wh S){n:Int}{k:Ct}(i:cj S.cal.l n=some k){B:Bk}{L:bJ}{nx:Int}(h1:ZM B)(g:∀d,∀o∈B d,k.spec.isPrice o.price=true/\k.spec.isQty o.left=true):wh {S with bk:=eS S.bk n B,led:=L,next:=nx}:=by
 refine⟨λm=>?_,λm f e=>?_,h.bdn⟩
 ·show ZM (eS S.bk n B m);by_cases c:m=n
  ·subst c;rw[cQ];exact h1
  ·rw[eR _ _ _ c];exact h.bks m
 ·by_cases c:m=n
  ·subst c;have:f=k:=cZ (e.symm.trans i);subst this;refine⟨λo b=>?_,λd o b=>?_⟩
   ·rcases kv b with⟨d,a⟩|a
    ·replace a:o∈eS S.bk m B m d:=a;rw[cQ]at a;exact(g d o a).1
    ·exact(h.spc m f i).1 o (jB a)
   ·replace b:o∈eS S.bk m B m d:=b;rw[cQ]at b;exact(g d o b).2
  ·have:=h.spc m f e;refine⟨λo b=>?_,λd o b=>?_⟩
   ·rcases kv b with⟨d,a⟩|a
    ·replace a:o∈eS S.bk n B m d:=a;rw[eR _ _ _ c]at a;exact this.1 o (iz a)
    ·exact this.1 o (jB a)
   ·replace b:o∈eS S.bk n B m d:=b;rw[eR _ _ _ c]at b;exact this.2 d o b
def HU{s:Sp}(e:Cl B)(c:o.may=true)(hp:s.isPrice o.price=true)(j:s.isQty o.left=true)(b:∀d,∀x∈B d,s.isPrice x.price=true/\s.isQty x.left=true):
  ∀d,∀x∈(fC B o rests).1 d,s.isPrice x.price=true/\s.isQty x.left=true:=by
 have f:=yg (rests:=rests) e c;intro d x a;refine⟨?_,Mt e c j (λd x a=>(b d x a).2) d x a⟩;by_cases g:d=o.buy
 ·subst g;rcases f.own with h1|⟨l,h1,-⟩
  ·grind
  ·rw[h1]at a;rcases ax.1 ((oC _ _ _).mem_iff.1 a)with rfl|k
   ·exact hp
   ·exact(b _ x k).1
 ·obtain rfl:d= !o.buy:=by cases d<;>cases h:o.buy<;>simp_all
  obtain⟨y,h1,i⟩:=f.opp.mem a;rw[<-rJ i];exact(b _ y h1).1
def Ia(h:wh S)(n:Int)(o:Od)(p:Pm):wh (S.traded n o p).2.2:=by
 rw[BY];exact h.sub ((nu.refl S).led _)
def wh.book(h:wh S){n:Int}{k:Ct}(a:cj S.cal.l n=some k):∀d,∀o∈S.bk n d,k.spec.isPrice o.price=true/\k.spec.isQty o.left=true:=
 λd o b=>⟨(h.spc n k a).1 o (iz b),(h.spc n k a).2 d o b⟩
def TB(h:S.Ok)(f:wh S){c:Cm}(l:c.acct≠0)(b:(S.place c).1=0):wh (S.place c).2.2:=by
 unfold bt.place at b|-;simp only at b|-;by_cases h1:(S.order c).1≠0
 ·grind
 rw[aa h1]at b|-;have a:(S.order c).1=0:=by simpa using h1
 obtain⟨hp,o,n⟩:=qC l a
 have d:S.pass c.acct c.ct c.buy c.price c.qty oQ=0:=by
  unfold bt.order at a;simp only at a;apply aQ;intro m;rw[ae m]at a;exact m a
 obtain⟨k,i,k1,k2⟩:=D0 l d;rw[n]at b|-;simp only at b|-;by_cases g:(db (S.bk c.ct) (c.od S.next) c.ty).1≠0
 ·grind
 rw[aa g]at b|-;obtain⟨e,j,-⟩:=AR (by simpa using g:(db (S.bk c.ct) (c.od S.next) c.ty).1=0);rw[e];exact Ia (f.bk1 i (Pj (h.ord.bkMay _) j (f.bks _)) (HU (h.ord.bkMay _) j k1 k2 (f.book i))) _ _ _
def ac2(h:S.Ok)(g:wh S){c:Cm}(q:c.acct≠0)(j:(S.bid c).1=0):wh (S.bid c).2.2:=by
 unfold bt.bid at j|-;simp only at j|-;by_cases h1:(S.order c).1≠0
 ·grind
 rw[aa h1]at j|-;have p:(S.order c).1=0:=by simpa using h1
 obtain⟨hp,v,f⟩:=qC q p;obtain⟨k,t,-,k1,-⟩:=hp.opn;rw[f]at j|-;simp only at j|-;by_cases r:50<=(S.bd c.ct).length
 ·grind
 rw[aa r]
 have back:∀m,∀o∈eS S.bd c.ct (S.bd c.ct++[c.od S.next]) m,o∈S.bd m\/(o=c.od S.next/\m=c.ct):=λm o f=>by
  by_cases i:m=c.ct
  ·subst i;rw[cQ]at f;exact(bf.1 f).imp id λh=>⟨cm.1 h,rfl⟩
  ·rw[eR _ _ _ i]at f;exact .inl f
 refine⟨g.bks,λm l e=>⟨λo f=>?_,(g.spc m l e).2⟩,λm=>?_⟩
 ·rcases kv f with⟨d,n⟩|n
  ·exact(g.spc m l e).1 o (iz n)
  ·rcases back m o n with u|⟨rfl,rfl⟩
   ·exact(g.spc m l e).1 o (jB u)
   ·have:l=k:=cZ (e.symm.trans t);rw[this];exact k1
 ·show(eS S.bd c.ct (S.bd c.ct++[c.od S.next]) m).Pairwise _;by_cases i:m=c.ct
  ·subst i;rw[cQ];refine dt.2 ⟨g.bdn _,List.pairwise_singleton ..,λa q b s=>?_⟩;rw[cm.1 s];exact(h.ord.std _ a (jB q)).num
  ·rw[eR _ _ _ i];exact g.bdn m
def Nf(h:S.Ok)(r:wh S){c:Cm}(R:c.acct≠0)(g:(S.replace c).1=0):wh (S.replace c).2.2:=by
 unfold bt.replace at g|-;cases E:S.find c.acct c.num with
 |none=>rw[E]at g;cases g
 |some x=>
  obtain⟨o,n⟩:=x;obtain⟨h1,T,X,d,V,N⟩:=qr E;rw[E]at g;simp only at g|-;by_cases I:S.pass c.acct n o.buy c.price c.qty o≠0
  ·grind
  rw[aa I]at g|-;obtain⟨k,C,k1,k2⟩:=D0 R (by simpa using I:S.pass c.acct n o.buy c.price c.qty o=0);by_cases A:(cF (S.bk n) c.num c.price c.qty).1≠0
  ·grind
  rw[aa A]at g|-;refine Ia ?_ _ _ _;have q:=r.book C;unfold cF at A|-;rw[N]at A|-;simp only at A|-;by_cases G:({o with price:=c.price,left:=c.qty}:Od).may=false
  ·grind
  rw[aa G];have u:({o with price:=c.price,left:=c.qty}:Od).may=true:=by simpa using G
  by_cases H:c.price=o.price/\c.qty<=o.left
  ·rw[ae H];simp only
   have m:((rh (S.bk n d) c.num c.qty).2.map Od.key=(S.bk n d).map Od.key)/\∀y∈(rh (S.bk n d) c.num c.qty).2,y∈S.bk n d\/y.left=c.qty:=by
    unfold rh;cases P:(S.bk n d).findIdx? λx=>decide (x.num=c.num)with
    |none=>exact⟨rfl,λy j=>.inl j⟩
    |some i=>
     obtain⟨w,-⟩:=bz.1 P;simp only;rw[av w];simp only;split
     ·grind
     ·refine⟨?_,λy j=>(eD j).imp id λh=>by rw[h]⟩;rw[gF];have:Od.key {(S.bk n d)[i]with left:=c.qty}=((S.bk n d).map Od.key)[i]'(by simpa using w):=by rw[cG];rfl
      rw[this,gD]
   have v:∀e,((S.bk n).set d (rh (S.bk n d) c.num c.qty).2 e).map Od.key=(S.bk n e).map Od.key:=λe=>by
    by_cases g:e=d
    ·subst g;rw[Bk.set_self];exact m.1
    ·rw[Bk.set_ne _ _ g]
   have l:∀e,∀y∈(S.bk n).set d (rh (S.bk n d) c.num c.qty).2 e,∃z∈S.bk n e,z.price=y.price:=λe y j=>by
    have t:=aX (f:=Od.key) j;rw[v e]at t;obtain⟨z,Q,D⟩:=aL.1 t;exact⟨z,Q,rJ D⟩
   refine r.bk1 C ⟨λe=>In (by grind) ((r.bks n).srt e),λb B s F=>?_⟩ λe y j=>?_
   ·obtain⟨L,K,O⟩:=l _ b B;obtain⟨J,s1,M⟩:=l _ s F;rw[<-O,<-M];exact(r.bks n).unc L K J s1
   ·obtain⟨z,W,U⟩:=l e y j;refine⟨by grind,?_⟩;by_cases g:e=d
    ·subst g;rw[Bk.set_self]at j;rcases m.2 y j with t|t
     ·exact(q e y t).2
     ·rw[t];exact k2
    ·rw[Bk.set_ne _ _ g]at j;exact(q e y j).2
  ·rw[aa H];simp only
   have a:∀e,((S.bk n).set d (oX (S.bk n d) c.num) e).Sublist (S.bk n e):=λe=>by
    by_cases g:e=d
    ·subst g;rw[Bk.set_self];exact AT _ _
    ·rw[Bk.set_ne _ _ g];exact cM _
   have p:Cl ((S.bk n).set d (oX (S.bk n d) c.num)):=λe y j=>h.ord.bkMay n e y ((a e).mem j);refine r.bk1 C (Pj p u ⟨λe=>((r.bks n).srt e).sublist (a e),λb B s F=>(r.bks n).unc b ((a _).mem B) s ((a _).mem F)⟩) (HU p u k1 k2 λe y j=>q e y ((a e).mem j))
def YA(h:S.Ok)(g:wh S){s:Sp}(j:(fM S.cal s).1=0):wh {S with cal:=(fM S.cal s).2,bk:=eS S.bk s.num Bk.empty}:=by
 unfold fM at j|-;by_cases h1:s.may=false
 ·grind
 rw[aa h1]at j|-;by_cases l:(cj S.cal.l s.num).isSome=true
 ·grind
 rw[aa l]at j|-;by_cases y:s.last<S.cal.day
 ·grind
 rw[aa y]at j|-;by_cases x:16<=S.cal.l.length
 ·grind
 rw[aa x]
 have q:cj S.cal.l s.num=none:=by
  cases g:cj S.cal.l s.num with
  |none=>rfl
  |some k=>rw[g]at l;exact absurd rfl l
 have a:∀m d,(eS S.bk s.num Bk.empty m d).Sublist (S.bk m d):=λm d=>by
  by_cases u:m=s.num
  ·subst u;rw[cQ];exact List.nil_sublist _
  ·rw[eR _ _ _ u];exact cM _
 refine⟨λn=>⟨λd=>((g.bks n).srt d).sublist (a n d),λb w v z=>(g.bks n).unc b ((a n _).mem w) v ((a n _).mem z)⟩,λn r i=>?_,g.bdn⟩;replace i:cj (S.cal.l.take (iR S.cal.l s.num)++mK s::S.cal.l.drop (iR S.cal.l s.num)) n=some r:=i;rw[wK (k:=mK s) q]at i;by_cases t:(mK s).spec.num=n
 ·have c:S.ords n=[]:=h.ord.out n (by rw[<-t];unfold bG;show(match cj S.cal.l s.num with|none=>(7:Int)|some k=>if k.st=3 then 50 else 0)≠0;rw[q];decide);refine⟨λo f=>?_,λd o f=>?_⟩
  ·rcases kv f with⟨d,e⟩|e
   ·have:o∈S.ords n:=iz ((a n d).mem e);rw[c]at this;cases this
   ·have:o∈S.ords n:=jB e;rw[c]at this;cases this
  ·have:o∈S.ords n:=iz ((a n d).mem f);rw[c]at this;cases this
 ·rw[aa t]at i;have e:=g.spc n r i;refine⟨λo f=>?_,λd o f=>e.2 d o ((a n d).mem f)⟩;rcases kv f with⟨d,p⟩|p
  ·exact e.1 o (iz ((a n d).mem p))
  ·exact e.1 o (jB p)
def XF(h:S.Ok)(b:wh S){c:Cm}(a:(S.done c).1=0):wh (S.done c).2.2:=by
 have e:=nu.refl S;unfold bt.done at a|-;by_cases k1:c.kind=1
 ·rw[ae k1];exact b.sub (e.led _)
 rw[aa k1]at a|-;by_cases k2:c.kind=2
 ·rw[ae k2];exact b.sub (e.led _)
 rw[aa k2]at a|-;by_cases k3:c.kind=3
 ·rw[ae k3]at a|-;simp only at a|-;rw[ae a];exact YA h b a
 rw[aa k3]at a|-;by_cases k4:c.kind=4
 ·rw[ae k4];exact b.sub (Pk S _ _)
 rw[aa k4]at a|-;by_cases k11:c.kind=11
 ·rw[ae k11];exact b.sub (Gl S _ _)
 rw[aa k11]at a|-;by_cases k12:c.kind=12
 ·rw[ae k12];exact b.sub (Ke S)
 rw[aa k12]at a|-;by_cases k14:c.kind=14
 ·rw[ae k14];exact b.sub (IJ S _)
 rw[aa k14]at a|-;by_cases d:c.acct=0
 ·grind
 rw[aa d]at a|-;by_cases k6:c.kind=6
 ·rw[ae k6];exact b.sub (JH S c)
 rw[aa k6]at a|-;by_cases k7:c.kind=7
 ·rw[ae k7]at a|-;exact Nf h b d a
 rw[aa k7]at a|-;by_cases f:S.led.getO c.acct=none
 ·grind
 rw[aa f]at a|-;by_cases k5:c.kind=5
 ·rw[ae k5]at a|-;exact TB h b d a
 rw[aa k5]at a|-;by_cases k9:c.kind=9
 ·rw[ae k9]at a|-;exact ac2 h b d a
 rw[aa k9]at a|-;by_cases k8:c.kind=8
 ·rw[ae k8]at a|-;split
  ·exact b
  ·exact b.sub (zp S _ _)
 rw[aa k8]at a|-;by_cases k10:c.kind=10
 ·rw[ae k10];simp only;split
  ·exact b.sub ((zp S _ _).led _)
  ·exact b.sub (e.led _)
 rw[aa k10]at a|-;by_cases k13:c.kind=13
 ·rw[ae k13];exact b.sub (Ue S _)
 rw[aa k13];exact b
def Kt(h:S.Ok)(a:wh S)(c:Cm):wh (S.apply c).2:=by
 unfold bt.apply;split
 ·exact a
 ·simp only;split
  ·exact a
  ·rename_i h1
   exact XF h a (by simpa using h1)
def nz(l:List Po)(c:Int):Int:=((l.filter λp=>decide (p.c=c)).map (·.q)).sum
def nD(l:List Po)(c:Int):Int:=((l.filter λp=>decide (p.c=c)).map (·.b)).sum
def xW(l a:List Po)(c:Int):nz (l++a) c=nz l c+nz a c:=by simp[nz]
def xT(l a:List Po)(c:Int):nD (l++a) c=nD l c+nD a c:=by simp[nD]
def BG(p:Po)(c:Int):nz [p] c=if p.c=c then p.q else 0:=by
 unfold nz;by_cases h:p.c=c
 ·rw[ae h,bL (by simpa using h)];simp
 ·rw[aa h,aV (by simpa using h)];simp
def Cj(p:Po)(c:Int):nD [p] c=if p.c=c then p.b else 0:=by
 unfold nD;by_cases h:p.c=c
 ·rw[ae h,bL (by simpa using h)];simp
 ·rw[aa h,aV (by simpa using h)];simp
def QJ{l:List Po}{c:Int}(h:∀p∈l,p.c≠c):nz l c=0/\nD l c=0:=by
 have:l.filter (λp=>decide (p.c=c))=[]:=gl.2 λp hp=>by simpa using h p hp
 simp[nz,nD,this]
structure Cb(A:List Ac)(p:Po):Prop where
 c:p.c≠0
 a:p.a≠0
 there:∃x∈A,x.num=p.a
 some:p.isZ=false
 q:aY p.q (-MP) MP=true
 b:aY p.b (-MF) MF=true
structure PA(A:List Ac):Prop where
 srt:mL A
 num:∀a∈A,0<a.num/\aY a.cash 0 MF=true
structure wB(f:Int)(A:List Ac)(P:List Po):Prop where
 len:A.length<=64
 fund:aY f 0 MF=true
 pa:PA A
 tot:f+(A.map (·.cash)).sum<=MF
 srt:kP P
 good:∀p∈P,Cb A p
 zero:∀c,nz P c=0/\nD P c=0
def fX{n lo hi:Int}:aY n lo hi=true↔lo<=n/\n<=hi:=by simp[aY]
def wB.ok{f:Int}(h:wB f A P)(e:∀a∈A,0<=a.num/\a.num<4294967296)(d:∀p∈P,0<=p.c/\p.c<4294967296):(bJ.mk f A P).Ok where
 fund:=fX.1 h.fund
 sa:=h.pa.srt
 sp:=h.srt
 len:=h.len
 acc:=λa b=>⟨(h.pa.num a b).1,(e a b).2,fX.1 (h.pa.num a b).2⟩
 pos:=λp hp=>by
  have g:=h.good p hp;have u:=d p hp;have h1:=fX.1 g.q;have c:=fX.1 g.b;exact⟨by have:=g.c;have:=u.1;omega,u.2,g.some,h1.1,h1.2,c.1,c.2,g.there⟩
def AB{α:Type}{R:α->α->Prop}{l:List α}(h:l.Pairwise R){i:Nat}(hi:i<l.length){b:α}(c:b∈l.take i):R b l[i]:=by
 obtain⟨j,a,rfl⟩:=bQ c;rw[az]at a;rw[List.getElem_take];exact bP.1 h _ _ _ _ qZ
structure Ad(pre:List Ac)(last:Int):Prop where
 pa:PA pre
 top:∀a∈pre,a.num<=last
 hit:(pre=[]/\last=0)\/∃a∈pre,a.num=last
def Ad.nil:Ad [] 0:=⟨⟨List.Pairwise.nil,by simp⟩,by simp,.inl ⟨rfl,rfl⟩⟩
def Ad.pos{b:List Ac}{last:Int}(h:Ad b last):0<=last:=by
 rcases h.hit with⟨-,rfl⟩|⟨a,c,rfl⟩
 ·exact eu _
 ·have:=(h.pa.num a c).1;omega
def Ad.step{c:List Ac}{last:Int}(h:Ad c last){a:Ac}(h1:last<a.num)(e:aY a.cash 0 MF=true):Ad (c++[a]) a.num:=by
 have f:=h.pos;refine⟨⟨dt.2 ⟨h.pa.srt,List.pairwise_singleton ..,λx b y d=>?_⟩,λx b=>?_⟩,λx b=>?_,.inr ⟨a,by simp,rfl⟩⟩
 ·rw[cm]at d;subst d;have:=h.top x b;omega
 ·rcases bf.1 b with b|b
  ·exact h.pa.num x b
  ·rw[cm]at b;subst b;exact⟨qZ,e⟩
 ·rcases bf.1 b with b|b
  ·have:=h.top x b;omega
  ·rw[cm]at b;subst b;omega
def Ad.bad{i:Nat}(hi:i<A.length){last:Int}(h:Ad (A.take i) last)(b:A[i].num<=last\/aY A[i].cash 0 MF=false):¬PA A:=by
 intro hp;have c:=hp.num A[i] (aq hi);rcases b with b|b
 ·rcases h.hit with⟨-,rfl⟩|⟨a,d,rfl⟩
  ·omega
  ·have:a.num<A[i].num:=AB hp.srt hi d;omega
 ·rw[c.2]at b;cases b
structure um(pre:List Po)(lc la q b:Int):Prop where
 srt:kP pre
 top:∀p∈pre,vN (lc,la) p.key=false
 hit:(pre=[]/\lc=0/\la=0)\/∃p∈pre,p.key=(lc,la)
 q:q=nz pre lc
 b:b=nD pre lc
 oth:∀c,c≠lc->nz pre c=0/\nD pre c=0
def um.nil:um [] 0 0 0 0:=⟨List.Pairwise.nil,by simp,.inl ⟨rfl,rfl,rfl⟩,rfl,rfl,λ_ _=>⟨rfl,rfl⟩⟩
def yx{x y z:Int×Int}(h:vN y x=false)(a:vN y z=true):vN x z=true:=by
 rcases AA y x with h1|h1|h1
 ·rw[h1]at h;cases h
 ·rw[<-h1];exact a
 ·exact yJ h1 a
def um.step{a:List Po}{f l q b:Int}(h:um a f l q b){p:Po}(h1:vN (f,l) p.key=true)(i:p.c≠f->q=0/\b=0):um (a++[p]) p.c p.a (q+p.q) (b+p.b):=by
 have n:f<=p.c:=by rw[ox]at h1;simp only[Po.key]at h1;omega
 have j:nz a p.c=q/\nD a p.c=b:=by
  by_cases e:p.c=f
  ·rw[e];exact⟨h.q.symm,h.b.symm⟩
  ·obtain⟨rfl,rfl⟩:=i e;exact h.oth _ e
 refine⟨dt.2 ⟨h.srt,List.pairwise_singleton ..,λx d y k=>?_⟩,λx d=>?_,.inr ⟨p,by simp,rfl⟩,?_,?_,λc g=>?_⟩
 ·rw[cm]at k;subst k;exact yx (h.top x d) h1
 ·rcases bf.1 d with d|d
  ·exact yy (yx (h.top x d) h1)
  ·rw[cm]at d;subst d;exact EJ
 ·rw[xW,BG,ae rfl,j.1]
 ·rw[xT,Cj,ae rfl,j.2]
 ·rw[xW,xT,BG,Cj,aa (lR g),aa (lR g)];by_cases e:c=f
  ·obtain⟨rfl,rfl⟩:=i (λm=>g (e.trans m.symm));rw[e,<-h.q,<-h.b];exact⟨rfl,rfl⟩
  ·have:=h.oth c e;rw[this.1,this.2];exact⟨rfl,rfl⟩
def um.done{b:Int}(h:um P a b 0 0)(c:Int):nz P c=0/\nD P c=0:=by
 by_cases e:c=a
 ·rw[e];exact⟨h.q.symm,h.b.symm⟩
 ·exact h.oth c e
def um.bad_end{d q b:Int}(h:um P a d q b)(f:q≠0\/b≠0):¬∀c,nz P c=0/\nD P c=0:=by
 intro e;have:=e a;rw[<-h.q,<-h.b]at this;omega
def um.bad_sum{P:List Po}{i:Nat}(hi:i<P.length){f s q b:Int}(h:um (P.take i) f s q b)(v:P[i].c≠f)(d:q≠0\/b≠0):¬(kP P/\∀c,nz P c=0/\nD P c=0):=by
 rintro⟨l,r⟩;rcases h.hit with⟨e,-,-⟩|⟨x,t,o⟩
 ·have h1:=h.q;have k:=h.b;rw[e]at h1 k;rcases d with d|d
  ·exact d h1
  ·exact d k
 ·have a:vN x.key P[i].key=true:=AB l hi t;rw[o,ox]at a;simp only[Po.key]at a
  have n:∀p∈P.drop i,p.c≠f:=by
   intro p hp;obtain⟨j,u,rfl⟩:=bQ hp;rw[List.getElem_drop];rw[bC]at u;by_cases g:j=0
   ·subst g;exact v
   ·have:=bP.1 l i (i+j) hi qZ qZ;rw[ox]at this;simp only[Po.key]at this;omega
  have m:=QJ n;have:=r f;rw[<-cJ i P,xW,xT,m.1,m.2,<-h.q,<-h.b]at this;omega
def um.bad_key{A:List Ac}{P:List Po}{i:Nat}(hi:i<P.length){d e q b:Int}(h:um (P.take i) d e q b)(m:0<=P[i].c/\0<=P[i].a)(c:vN (d,e) P[i].key=false):¬(kP P/\∀p∈P,Cb A p):=by
 rintro⟨k,j⟩;have g:=j P[i] (aq hi);rcases h.hit with⟨-,rfl,rfl⟩|⟨x,l,f⟩
 ·rw[eJ,Ne,ox]at c;simp only[Po.key]at c;have:=g.c;omega
 ·have a:vN x.key P[i].key=true:=AB k hi l;rw[f,c]at a;cases a
def E0{l:List Int}{B:Int}(h:∀x∈l,-B<=x/\x<=B): -(B*l.length)<=l.sum/\l.sum<=B*l.length:=by
 induction l with
 |nil=>simp
 |cons x l a=>
  have h1:=h x aw;have c:=a λy b=>h y (ag _ b)
  have e:B*((x::l).length:Int)=B*l.length+B:=by
   simp only[be,jM,Int.natCast_one,Int.mul_add,Int.mul_one]
  rw[e];simp only[bH];omega
def TZ(f:∀p∈P,Cb A p)(g:P.length<=1024)(c:Int):(-10240000000<=nz P c/\nz P c<=10240000000)/\(-1024000000000000000<=nD P c/\nD P c<=1024000000000000000):=by
 have a:∀p∈P.filter (λp=>decide (p.c=c)),Cb A p:=λp hp=>f p (aU.1 hp).1;have b:=bh (λp:Po=>decide (p.c=c)) P;unfold nz nD;generalize P.filter (λp=>decide (p.c=c))=L at a b
 have h1:=E0 (l:=L.map (·.q)) (B:=10000000) λx d=>by
  obtain⟨p,hp,rfl⟩:=aL.1 d;have:=fX.1 (a p hp).q;simpa [MP]using this
 have e:=E0 (l:=L.map (·.b)) (B:=1000000000000000) λx d=>by
  obtain⟨p,hp,rfl⟩:=aL.1 d;have:=fX.1 (a p hp).b;simpa [MF]using this
 rw[ah]at h1 e;omega
def tP:Int->List Ct->Bool
 |_,[]=>true
 |n,k::l=>decide (n<k.spec.num)&& (decide (1<=k.st)&& (decide (k.st<=3)&& (k.spec.isPrice k.price&& tP k.spec.num l)))
def sr:∀{l:List Ct} {n:Int},tP n l=true->(∀k∈l,n<k.spec.num/\1<=k.st/\k.st<=3/\k.spec.isPrice k.price=true)/\nQ l
 | [],n,_=>⟨λk d=>(by cases d),List.Pairwise.nil⟩
 |k::l,n,h=>by
  unfold tP at h;simp only[ai,aS]at h;obtain⟨h1,c,i,e,g⟩:=h;obtain⟨b,f⟩:=sr g;refine⟨λx a=>?_,bY.2 ⟨λx a=>(b x a).1,f⟩⟩;rcases ax.1 a with rfl|a
  ·exact⟨h1,c,i,e⟩
  ·have:=b x a;exact⟨qZ,this.2⟩
def Ik:∀{l:List Ct} {n:Int},(∀k∈l,n<k.spec.num/\1<=k.st/\k.st<=3/\k.spec.isPrice k.price=true)->nQ l->tP n l=true
 | [],n,_,_=>rfl
 |k::l,n,h,f=>by
  obtain⟨h1,d,g,e⟩:=h k aw;obtain⟨a,b⟩:=bY.1 f;unfold tP;rw[aW h1,aW d,aW g,e,Ik (λx c=>⟨a x c,(h x (ag _ c)).2⟩) b];rfl
def bJ.stB(L:bJ)(a:Int):Bool:=match L.getO a with|some x=> !x.dfl&& !x.kil|none=>false
def bt.stnd(S:bt)(lots:Bool)(U:List Int)(x:Int×Od):Bool:=
 decide (bG S.cal.l x.1=0)&& (S.led.stB x.2.acct&& (x.2.may&& ((dO S.cal.l x.1).1.spec.isPrice x.2.price&& ((!lots||(dO S.cal.l x.1).1.spec.isQty x.2.left)&& (decide (x.2.num<S.next)&& !U.contains x.2.num)))))
def nY:List (Int×Od)->List Int->bt->Option (List Int×bt)
 | [],U,S=>some (U,S)
 |x::l,U,S=>
  if S.stnd true U x=false then none
  else if(db (S.bk x.1) x.2 4).1≠0\/(db (S.bk x.1) x.2 4).2.2.gone≠ []then none
  else nY l (x.2.num::U) {S with bk:=eS S.bk x.1 (db (S.bk x.1) x.2 4).2.1}
def oV:List (Int×Od)->Option Int->Int->List Int->bt->Option bt
 | [],pc,n,U,S=>some S
 |x::l,pc,n,U,S=>
  if S.stnd false U x=false then none
  else if x.2.num<=(if pc≠none/\pc≠some x.1 then 0 else n)then none
  else if 50<=(S.bd x.1).length then none
  else oV l (some x.1) x.2.num (x.2.num::U) {S with bd:=eS S.bd x.1 (S.bd x.1++[x.2])}
def tK(s:uR):bt:=⟨⟨s.day,s.cts⟩,⟨s.fund,s.accts,s.poss⟩,λ_=>Bk.empty,λ_=>[],s.next⟩
structure wu(s:uR):Prop where
 len:s.cts.length<=16
 cts:tP 0 s.cts=true
 led:wB s.fund s.accts s.poss
 next:1<=s.next/\s.next<=jZ+1
 poss:∀p∈s.poss,bG s.cts p.c=0
def zD(s:uR):Option bt:=(nY s.ords [] (tK s)).bind λx=>oV s.bids none 0 x.1 x.2
open Classical in
noncomputable def tn (s:uR):Option bt:=
 if wu s then(zD s).bind λS=>if S.state.ords=s.ords/\S.state.bids=s.bids then some S else none else none
structure uR.Fit(s:uR):Prop where
 day:iU s.day
 next:Np s.next
 fund:ed s.fund
 accts:∀a∈s.accts,iU a.num/\ed a.cash
 cts:∀k∈s.cts,k.Fit
 poss:∀p∈s.poss,(iU p.c/\iU p.a)/\ed p.q/\ed p.b
 ords:∀x∈s.ords,iU x.1/\x.2.Fit
 bids:∀x∈s.bids,iU x.1/\x.2.Fit
def RW(h:wu s)(c:s.Fit):(tK s).cal.Ok:=by
 obtain⟨h1,d⟩:=sr h.cts;refine⟨h.len,c.day,λk b=>?_,d⟩;obtain⟨g,e,f,a⟩:=h1 k b;refine⟨c.cts k b,?_,a,e,f⟩;unfold Sp.isPrice at a;exact(ai _ _▸a).1
def H3(P:List Po)(c:Int):iJ (zgq c) P=nz P c/\iJ (Jz c) P=nD P c:=by
 induction P with
 |nil=>exact⟨rfl,rfl⟩
 |cons p P a=>
  have b:nz (p::P) c=nz [p] c+nz P c:=by rw[<-xW];rfl
  have d:nD (p::P) c=nD [p] c+nD P c:=by rw[<-xT];rfl
  rw[b,d,BG,Cj,<-a.1,<-a.2];constructor<;>simp only[iJ,zgq,Jz,aI,bH]
def VH(h:wu s)(e:s.Fit):(tK s).Ok:=by
 refine⟨RW h e,⟨h.led.ok (λa f=>(e.accts a f).1) (λp hp=>(e.poss p hp).1.1),h.poss,λc=>?_⟩,⟨λn _=>rfl,λn d=>⟨by show(0:Nat)<=100;omega,λo b=>(by cases b)⟩,λn o b=>(by cases b),λn=>ju,λn m o g b=>(by cases b),λn=>(by show(0:Nat)<=50;omega)⟩,h.next,h.led.tot⟩;show iJ (zgq c) s.poss=0/\iJ (Jz c) s.poss=0;have:=H3 s.poss c;rw[this.1,this.2];exact h.led.zero c
structure Vx(S:bt)(U:List Int)(x:Int×Od):Prop where
 alive:bG S.cal.l x.1=0
 may:x.2.may=true
 acc:S.led.Stands x.2.acct
 num:x.2.num<S.next
 new:x.2.num ∉ U
def EO{lots:Bool}{x:Int×Od}(h:S.stnd lots U x=true):Vx S U x:=by
 unfold bt.stnd at h;simp only[ai,aS]at h;obtain⟨h1,b,c,i,j,e,g⟩:=h;refine⟨h1,c,?_,e,by simpa using g⟩
 have f:x.2.acct≠0:=by
  unfold Od.may at c;simp only[ai,aS]at c;exact c.1.1.2
 unfold bJ.stB at b;unfold bJ.getO at b;rw[aa f]at b;unfold bJ.Stands;cases d:S.led.find x.2.acct with
 |none=>rw[d]at b;cases b
 |some a=>
  rw[d]at b;simp only[ai,Bool.not_eq_true']at b;exact⟨a,rfl,b.2,b.1⟩
structure sJ(S0 S:bt)(U:List Int):Prop where
 ok:S.Ok
 cal:S.cal=S0.cal
 led:S.led=S0.led
 next:S.next=S0.next
 nums:∀n,∀o∈S.ords n,o.num∈U
def sJ.fresh{b:bt}(h:sJ b S U){x:Int×Od}(c:Vx S U x):∀m,∀y∈S.ords m,y.num≠x.2.num:=λm y a e=>c.new (e▸h.nums m y a)
def sJ.order{f:bt}(h:sJ f S U){x:Int×Od}(a:Vx S U x)(m:x.2.Fit)(s:(db (S.bk x.1) x.2 4).1=0):
  sJ f {S with bk:=eS S.bk x.1 (db (S.bk x.1) x.2 4).2.1} (x.2.num::U):=by
 obtain⟨e,q,-⟩:=AR s;rw[e];have l:=ug h.ok.ord (n:=x.1) (o:=x.2) (rests:=decide ((4:Int)=1\/(4:Int)=4)) (nx:=S.next) a.alive a.may m a.num a.acc (h.fresh a) (eu _);have i:=yg (B:=S.bk x.1) (o:=x.2) (rests:=decide ((4:Int)=1\/(4:Int)=4)) (h.ok.ord.bkMay x.1) q;refine⟨⟨h.ok.cal,h.ok.led,l,h.ok.next,h.ok.fnd⟩,h.cal,h.led,h.next,λn o p=>?_⟩;rcases kv p with⟨d,h1⟩|h1
 ·replace h1:o∈eS S.bk x.1 (fC (S.bk x.1) x.2 (decide ((4:Int)=1\/(4:Int)=4))).1 n d:=h1;by_cases g:n=x.1
  ·subst g;rw[cQ]at h1;by_cases j:d=x.2.buy
   ·subst j;rcases i.own with b|⟨-,b,-⟩
    ·rw[b]at h1;exact ag _ (h.nums _ o (iz h1))
    ·rw[b]at h1;rcases ax.1 ((oC _ _ _).mem_iff.1 h1)with rfl|c
     ·exact aw
     ·exact ag _ (h.nums _ o (iz c))
   ·obtain rfl:d= !x.2.buy:=by cases d<;>cases t:x.2.buy<;>simp_all
    obtain⟨r,c,k⟩:=i.opp.mem h1;rw[<-pp k];exact ag _ (h.nums _ r (iz c))
  ·rw[eR _ _ _ g]at h1;exact ag _ (h.nums n o (iz h1))
 ·exact ag _ (h.nums n o (jB h1))
def sJ.bid{c:bt}(h:sJ c S U){x:Int×Od}(a:Vx S U x)(g:x.2.Fit)(i:(S.bd x.1).length<50):
  sJ c {S with bd:=eS S.bd x.1 (S.bd x.1++[x.2])} (x.2.num::U):=by
 have j:=h.ok.ord.addBd (n:=x.1) (x:=x.2) (nx:=S.next) a.alive a.may g a.num a.acc (h.fresh a) i (eu _);refine⟨⟨h.ok.cal,h.ok.led,j,h.ok.next,h.ok.fnd⟩,h.cal,h.led,h.next,λn o f=>?_⟩;rcases kv f with⟨d,h1⟩|h1
 ·exact ag _ (h.nums n o (iz h1))
 ·replace h1:o∈eS S.bd x.1 (S.bd x.1++[x.2]) n:=h1;by_cases e:n=x.1
  ·subst e;rw[cQ]at h1;rcases bf.1 h1 with b|b
   ·exact ag _ (h.nums _ o (jB b))
   ·rw[cm.1 b];exact aw
  ·rw[eR _ _ _ e]at h1;exact ag _ (h.nums n o (jB h1))
def sJ.zero(h:wu s)(a:s.Fit):sJ (tK s) (tK s) []:=⟨VH h a,rfl,rfl,rfl,λn o b=>(by cases b)⟩
def UI(h:tn s=some S):wu s/\zD s=some S/\S.state.ords=s.ords/\S.state.bids=s.bids:=by
 unfold tn at h;by_cases a:wu s
 ·rw[ae a]at h;cases d:zD s with
  |none=>rw[d]at h;cases h
  |some c=>
   rw[d]at h;simp only[Option.bind_some]at h;by_cases b:c.state.ords=s.ords/\c.state.bids=s.bids
   ·rw[ae b]at h;cases h;exact⟨a,rfl,b⟩
   ·rw[aa b]at h;cases h
 ·rw[aa a]at h;cases h
def Y2:uR:=⟨0,1,0,[],[],[],[],[]⟩
end Go.Proofs
