/- Part of a proof. -/
import Derived.Test.YtekbnpagidkbbaaGreatQ20
set_option linter.all false
set_option maxRecDepth 100000
set_option maxHeartbeats 1000000
namespace Go.Proofs
open Go Go.Vc
attribute [go_sem] Yy Xt YG YH Nz NN WB PJ Pj
section
variable{L L0 M:List As}{K:Value->WP}{v c l mb md:Nat}{A:List (Int×Nat)}{D:List (Int×Value)}{S:bo}{n a:Int}
def Lk{n:Nd}(h1:eP n.m)(e:eP n.w)(g:eP n.u)(f:eP n.total)(b:Gs L (K (gI n.total))):Gs L (Cw pQ 258 #[LX n] K):=⟨λw y=>Li h1 e g f λd m=>b.go d (y.md0 m)⟩
def yh(i:oB A D S.cal.l S.bk)(d:S.Ok)(b:Gs L0 (K (gI (S.bears a))))(p:dV L0 (vs v c l mb md A D S L):=by repeat first|(with_reducible exact dV.refl)|((apply nL);(·repeat first|(with_reducible exact eg)|(with_reducible apply ee)))):Gs L0 (Cw pQ 200 #[dL v,gU a] K):=by
 refine Gs.pk ?_ p;replace b:=Gs.pk b p.symm;refine sN Tryz.func200 ?_;unfold dL;refine Ql i d ?_;have f:=JD S a;have g:=Rj S a;unfold bo.bears at b;generalize S.need a=N at f g b|-;refine au ?_;intro q;refine au ?_;refine Gs.Ib (λe=>?_) λe=>?_
 ·rw[ae (by simpa using e)]at b;exact b.fin
 rw[aa (by simpa using e)]at b;refine au ?_;refine rq ?_;rw[nC];refine au ?_;intro r;refine au ?_;refine Lk ⟨qZ,qZ⟩ ⟨qZ,qZ⟩ ⟨qZ,qZ⟩ ⟨qZ,qZ⟩ ?_;refine au ?_;refine Gs.I (λh=>?_) λh=>?_
 ·rw[ae h]at b;exact b.fin
 ·rw[aa h]at b;exact b.fin
def CO{x:Cm}(i:oB A D S.cal.l S.bk)(d:S.Ok)(g:x.Fit)(b:Gs (vs v c l mb md A D (S.order x).2.2 L) (K (.tuple #[jQ (S.order x).2.1,gI (S.order x).1])))(p:dV L0 (vs v c l mb md A D S L):=by repeat first|(with_reducible exact dV.refl)|((apply nL);(·repeat first|(with_reducible exact eg)|(with_reducible apply ee)))):Gs L0 (Cw pQ 219 #[dL v,vg x] K):=by
 refine Gs.pk ?_ p;unfold bo.order at b;refine sN Tryz.func219 ?_;unfold dL;obtain⟨m,s,u,t,o,r,k,f,j⟩:=g;refine au ?_;intro p;refine au ?_;intro q;refine au ?_;refine FX i d f j (x:=nZ) ⟨by show(0:Int)<=0;omega,by show(0:Int)<=1000000;omega⟩ ?_;generalize S.pass x.acct x.ct x.buy x.price x.qty nZ=E at b|-;refine au ?_;refine Gs.Ib (λe=>?_) λe=>?_
 ·rw[ae (by simpa using e)]at b;refine au ?_;exact b.fin
 rw[aa (by simpa using e)]at b;refine Hp d.next (λh=>?_) λh=>?_
 ·rw[ae h]at b;refine au ?_;exact b.fin
 ·rw[aa qZ]at b;refine au ?_;exact b.fin
end
end Go.Proofs
set_option maxRecDepth 100000
namespace Go.Proofs
open Go Go.Vc
abbrev Ak(s:Vt_)(l:List Td):As:=ow s YL 4 l.length (l.flatMap Di)
abbrev sB(s:Vt_)(l:List Int):As:=ow s 37 1 l.length (l.flatMap ua)
abbrev yT(s:Vt_)(l:List Int):As:=ow s 45 1 l.length (l.flatMap yO)
abbrev ej(x:Option Addr×Nat)(n:Nat):Value:=.slice x.1 n x.2
section
variable{L L0 M:List As}{φ:WP}{K:Value->WP}{v c l mb md b:Nat}{A:List (Int×Nat)}{D:List (Int×Value)}{S:bo}{n a:Int}{bk:Int->Bk}{bd:Int->List Od}{B:Bk}{s:Vt_}{os:List Od}
def tq(j:lk A n=some b)(C:Gs (Bq b (bk n)::VP (·≠n) A bk::M) φ)(p:dV L (rG A bk::M):=by repeat first|(with_reducible exact dV.refl)|((apply nL);(·repeat first|(with_reducible exact eg)|(with_reducible apply ee)))):Gs L φ:=⟨λw ⟨F,z⟩=>by
 obtain⟨G,o,⟨f,q⟩,y,r,-⟩:=(p.out w F).1 z;have i:∀{m x},(lk A m).isSome=true->f m x->G x:=λh d=>(q.f _).2 ⟨_,trivial,h,d⟩
 exact C.go w (Ss.cons.2 ⟨f n,λx=>(∃m,m≠n/\(lk A m).isSome=true/\f m x)\/o x,q.q n b trivial j,⟨_,o,⟨f,λm b u e=>q.q m b trivial e,λm k x _ _=>q.dj m k x trivial trivial,λ_=>aG⟩,y,λx ⟨m,_,t,d⟩=>r x (i t d),λ_=>aG⟩,λx d g=>by
  rcases g with⟨m,u,t,E⟩|g
  ·exact u (q.dj m n x trivial trivial E d)
  ·exact r x (i (by rw[j];rfl) d) g⟩)⟩
def vz(u:lk A n=some b)(H:Gs (rG A (eL bk n B)::M) φ)(p:dV L (Bq b B::VP (·≠n) A bk::M):=by repeat first|(with_reducible exact dV.refl)|((apply nL);(·repeat first|(with_reducible exact eg)|(with_reducible apply ee)))):Gs L φ:=⟨λw ⟨F,z⟩=>by
 obtain⟨r,N,h1,⟨G,F3,⟨t,q⟩,J,I,y⟩,C,O⟩:=(p.out w F).1 z;have no:∀{m x},m≠n->(lk A m).isSome=true->t m x->¬r x:=λd i f o=>C _ o ((y _).2 (.inl ((q.f _).2 ⟨_,d,i,f⟩)));refine H.go w (Ss.cons.2 ⟨λx=>r x\/G x,F3,⟨λm x=>if m=n then r x else(lk A m).isSome=true/\t m x,λm E _ e=>?_,λm k x _ _=>?_,λx=>?_⟩,J,λx f o=>?_⟩)
 ·by_cases d:m=n
  ·subst d;rw[u]at e;cases e;simp only[cO,cZ];exact h1
  ·rw[eJ _ _ _ d];simpa [d,e]using q.q m E d e
 ·by_cases d:m=n<;>by_cases g:k=n<;>simp only[d,g,cZ,da]
  ·simp
  ·exact λh j=>(no g j.1 j.2 h).elim
  ·exact λh j=>(no d h.1 h.2 j).elim
  ·exact λh j=>q.dj m k x d g h.2 j.2
 ·rw[q.f];constructor
  ·rintro(h|⟨m,d,i,f⟩)
   ·exact⟨n,trivial,by rw[u];rfl,by simpa using h⟩
   ·exact⟨m,trivial,i,by simpa [d]using⟨i,f⟩⟩
  ·rintro⟨m,-,i,f⟩;by_cases d:m=n
   ·exact .inl (by simpa [d]using f)
   ·exact .inr ⟨m,d,i,by simpa [d,i]using f⟩
 ·rcases f with f|f
  ·exact C x f ((y x).2 (.inr o))
  ·exact I x f o⟩
def wI(j:Gs (lX (kQ D n) (bd n)::RY (·≠n) D bd::M) φ)(p:dV L (tU D bd::M):=by repeat first|(with_reducible exact dV.refl)|((apply nL);(·repeat first|(with_reducible exact eg)|(with_reducible apply ee)))):Gs L φ:=⟨λw ⟨F,z⟩=>by
 obtain⟨r,f,q,h,g,-⟩:=(p.out w F).1 z;have i:∀{m x},aK (kQ D m) x->r x:=λd=>(q.f _).2 ⟨_,trivial,d⟩
 exact j.go w (Ss.cons.2 ⟨aK (kQ D n),λx=>(∃m,m≠n/\aK (kQ D m) x)\/f x,⟨q.q n trivial,λ_=>aG⟩,⟨_,f,⟨λm _=>q.q m trivial,λm k x _ _=>q.dj m k x trivial trivial,λ_=>aG⟩,h,λx ⟨m,_,d⟩=>g x (i d),λ_=>aG⟩,λx d e=>by
  rcases e with⟨m,t,o⟩|e
  ·exact t (q.dj m n x trivial trivial o d)
  ·exact g x (i d) e⟩)⟩
def A6(u:Gs (tU (put D n s) (eL bd n os)::M) φ)(p:dV L (lX s os::RY (·≠n) D bd::M):=by repeat first|(with_reducible exact dV.refl)|((apply nL);(·repeat first|(with_reducible exact eg)|(with_reducible apply ee)))):Gs L φ:=⟨λw ⟨F,z⟩=>by
 obtain⟨C,G,⟨h1,r⟩,⟨t,F3,q,E,y,j⟩,o,H⟩:=(p.out w F).1 z;have no:∀{m x},m≠n->aK (kQ D m) x->¬aK s x:=λd e g=>o _ ((r _).2 g) ((j _).2 (.inl ((q.f _).2 ⟨_,d,e⟩)));refine u.go w (Ss.cons.2 ⟨λx=>C x\/t x,F3,⟨λm _=>?_,λm k x _ _=>?_,λx=>?_⟩,E,λx e g=>?_⟩)
 ·rw[qa];by_cases d:m=n
  ·subst d;simpa [cO]using h1
  ·rw[eJ _ _ _ d,aa d];exact q.q m d
 ·rw[qa,qa];by_cases d:m=n<;>by_cases f:k=n<;>simp only[d,f,cZ,da]
  ·simp
  ·exact λh i=>(no f i h).elim
  ·exact λh i=>(no d h i).elim
  ·exact q.dj m k x d f
 ·rw[q.f,r];constructor
  ·rintro(h|⟨m,d,e⟩)
   ·exact⟨n,trivial,by rw[qa,ae rfl];exact h⟩
   ·exact⟨m,trivial,by rw[qa,aa d];exact e⟩
  ·rintro⟨m,-,e⟩;rw[qa]at e;by_cases d:m=n
   ·rw[ae d]at e;exact .inl e
   ·rw[aa d]at e;exact .inr ⟨m,d,e⟩
 ·rcases e with e|e
  ·exact o x e ((j x).2 (.inr g))
  ·exact y x e g⟩
def oB.put{C:List Ct}(h:oB A D C bk)(f:(cg C n).isSome=true):oB A (put D n s) C bk:=⟨h.dom,λm d=>by
 rw[kJ]at d;by_cases e:n=m
 ·rw[<-e];exact f
 ·rw[aa e]at d;exact h.dod m d,h.nbk⟩
def oB.upb{C:List Ct}(h:oB A D C bk)(f:lk A n=some b):oB A D C (eL bk n B):=⟨h.dom,h.dod,λm d=>by
 by_cases e:m=n
 ·subst e;rw[f]at d;cases d
 ·rw[eJ _ _ _ e];exact h.nbk m d⟩
def AZ{o:Od}{k:Int}(e:o.Fit)(t:0<=k/\k<256)(h:∀x y,Gs (Bq b (cV B o k).2.1::Ak (ej x (cV B o k).2.2.trades.length) (cV B o k).2.2.trades::sB (ej y (cV B o k).2.2.gone.length) (cV B o k).2.2.gone::M)
   (K (.tuple #[.agg (rB (ej x (cV B o k).2.2.trades.length) (ej y (cV B o k).2.2.gone.length) (cV B o k).2.2.filled (cV B o k).2.2.left),gI (cV B o k).1])))(p:dV L (Bq b B::M):=by repeat first|(with_reducible exact eg)|(with_reducible apply ee)):
  Gs L (Cw pQ 155 #[fa b,jQ o,gB k] K):=by
 generalize m:cV B o k=X at h
 exact Gs.old (A:=Bq b B) (val:=λx:(Option Addr×Nat)×Option Addr×Nat=>.tuple #[.agg (rB (ej x.1 X.2.2.trades.length) (ej x.2 X.2.2.gone.length) X.2.2.filled X.2.2.left),gI X.1]) (p:=λ_=>True) (B:=λx=>(Bq b X.2.1).mul ((Ak (ej x.1 X.2.2.trades.length) X.2.2.trades).mul (sB (ej x.2 X.2.2.gone.length) X.2.2.gone))) (λw F _ q K h=>x7 q e t λf H I j g o C i nn=>by
  rw[m]at g o|-;obtain⟨E,r,rfl,-⟩:=o.tr.isSl;obtain⟨z,u,rfl,-⟩:=o.go.isSl;exact h ((E,r),z,u) j (λy=>f y\/aK _ y\/aK _ y) trivial ⟨f,_,g,⟨aK _,aK _,⟨o.tr,λ_=>aG⟩,⟨o.go,λ_=>aG⟩,o.dj,λ_=>aG⟩,λy d G=>(nn y G).2 d,λ_=>aG⟩ C λy d=>d.elim (i y) λh=>.inr (nn y h).1) (λx _=>((h x.1 x.2).pk (dV.cons Nx)).pk Nx) p
end
end Go.Proofs
set_option maxRecDepth 100000
set_option maxHeartbeats 1000000
namespace Go.Proofs
open Go Go.Vc
def nTd:Tryz.prog.cellsOf YL=3+1:=cy
def QO(x:Td)(w:Wt_)(b off:Nat)(h:At w b off (Di x)):(iL YL (bO b off)).run pQ w=.ok (Xi x) w:=by
 obtain⟨C,e,k,hC,d⟩:=h.get;have i:=d 0 (gI x.price) rfl;have g:=d 1 (gI x.qty) rfl;have f:=d 2 (gQ x.num) rfl;have j:=d 3 (gU x.acct) rfl;simp only[cx]at i g f j;simp[go_sem,bT hC,i,g,f,j,Xi,Di]
attribute [go_sem] Xi Di CL wT rB
abbrev BF(e n f l:Int)(t g u:Vt_):List Value:=[.int .i64 e,gQ n,gI f,gI l,t,g,u]
abbrev Nl:List Value:=BF 0 0 0 0 (.slice none 0 0) (.slice none 0 0) (.slice none 0 0)
abbrev plX(t g:Vt_)(f l:Int):List Value:=[t,g,gI f,gI l]
abbrev XR(o:Od):List Value:=[.int .u64 o.num,gU o.acct,.bool o.buy,gI o.price,gI o.left]
section
variable{L L0 M:List As}{φ:WP}{K:Value->WP}{v c l mb md b:Nat}{A:List (Int×Nat)}{D:List (Int×Value)}{S:bo}{n a:Int}{bk:Int->Bk}{bd:Int->List Od}{B:Bk}{s:Vt_}{os:List Od}
def Gs.tdn(h:Gs (Ak (ej (none,0) 0) []::L) φ):Gs L φ:=Gs.nil YL 4 h
def Gs.idn(h:Gs (sB (ej (none,0) 0) []::L) φ):Gs L φ:=Gs.nil 37 1 h
def Gs.uin(h:Gs (yT (ej (none,0) 0) []::L) φ):Gs L φ:=Gs.nil 45 1 h
structure Z5(r:Rp):Prop where
 t:r.trades.length<=1000000
 g:r.gone.length<=1000000
 a:r.accts.length<=1000000
def xP{o:Od}:∀(L:List Od) (left:Int),(eN o left L).2.2.2.1.length<=L.length
 | [],_=>az _
 |b::r,left=>by
  unfold eN;split
  ·exact aJ _
  ·split
   ·exact Nat.succ_le_succ (xP r left)
   ·split
    ·exact aJ _
    ·exact Nat.le_succ_of_le (xP r _)
def Dd{B:Bk}{o:Od}{r:Bool}(e:∀d,(B d).length<=100):(eW B o r).2.gone.length<=100:=by
 have h1:=xP (o:=o) (B !o.buy) o.left;have f:=e !o.buy;unfold eW;simp only;split<;>(simp only;omega)
def QE(v c l mb md:Nat)(A:List (Int×Nat))(x:Int×Rp×bo)(L:List As)(K:Value->WP):Prop:=
 ∀t g u D',oB A D' x.2.2.cal.l x.2.2.bk->Z5 x.2.1->Gs (vs v c l mb md A D' x.2.2 (Ak (ej t x.2.1.trades.length) x.2.1.trades::sB (ej g x.2.1.gone.length) x.2.1.gone::yT (ej u x.2.1.accts.length) x.2.1.accts::L)) (K (.tuple #[wT x.2.1 (ej t x.2.1.trades.length) (ej g x.2.1.gone.length) (ej u x.2.1.accts.length),gI x.1]))
def QE.fail{x:Int×Rp×bo}{e:Int}{T:bo}(h:QE v c l mb md A x L K)(f:x=(e,jw,T))(d:oB A D T.cal.l T.bk)(p:Sb L0 (vs v c l mb md A D T L):=by repeat first|(with_reducible exact Sb.refl)|((apply Sb.pick);(·repeat first|(with_reducible exact eg)|(with_reducible apply ee)))|(with_reducible apply Sb.drop)):Gs L0 (K (.tuple #[wT jw (.slice none 0 0) (.slice none 0 0) (.slice none 0 0),gI e])):=by
 subst f;refine Gs.fin ?_ p;refine Gs.tdn (Gs.idn (Gs.uin ?_));have:=h (none,0) (none,0) (none,0) D d ⟨aJ _,aJ _,aJ _⟩
 dsimp only[jw,List.length_nil]at this
 exact this.fin
def ET{o:Od}{t:Td}{l:List Td}{X:bE}:oG n o (t::l) X=if(X.trade n (if o.buy then o.acct else t.acct) (if o.buy then t.acct else o.acct) t.price t.qty).1≠0 then X.trade n (if o.buy then o.acct else t.acct) (if o.buy then t.acct else o.acct) t.price t.qty else oG n o l (X.trade n (if o.buy then o.acct else t.acct) (if o.buy then t.acct else o.acct) t.price t.qty).2:=rfl
def AV{o:Od}{p:Pm}{t g:Option Addr×Nat}(C:oB A D S.cal.l S.bk)(r:S.Ok)(u:bt S.cal.l n=0)(E:p.trades.length<=1000)(N:p.gone.length<=1000)(z:QE v c l mb md A (S.traded n o p) L K)
  (pk:dV L0 (Ak (ej t p.trades.length) p.trades::sB (ej g p.gone.length) p.gone::vs v c l mb md A D S L):=by repeat first|(with_reducible exact dV.refl)|((apply nL);(·repeat first|(with_reducible exact eg)|(with_reducible apply ee)))):
  Gs L0 (Cw pQ 218 #[dL v,gU n,jQ o,.agg (rB (ej t p.trades.length) (ej g p.gone.length) p.filled p.left)] K):=by
 refine Gs.pk ?_ pk;refine sN Tryz.func218 ?_;unfold dL rB;have q:kV n:=mE r.cal u;refine au ?_;intro F;refine au ?_;intro G;refine au ?_;intro O;refine au ?_;refine Gs.l (λx:Nat×Value×bE=>(x.2.1,gI x.1,())) (λx=>p.trades.length - x.1) (λx=>pt O Nl qL::pt G (plX (ej t p.trades.length) (ej g p.gone.length) p.filled p.left) 246::pt F (XR o) ji::Ak (ej t p.trades.length) p.trades::sB (ej g p.gone.length) p.gone::vs v c l mb md A D {S with led:=x.2.2} L) (λx=>x.1<=p.trades.length/\oG n o p.trades S.led=oG n o (p.trades.drop x.1) x.2.2) (0,gI 0,S.led) rfl ⟨aJ _,rfl⟩ ?_ (by simp only[List.length_nil,ff,dR,eG,bg,dQ,lX];(repeat first|(with_reducible exact dV.refl)|((apply nL);(·repeat first|(with_reducible exact eg)|(with_reducible apply ee)))));rintro⟨i,y,X⟩ ⟨I,d⟩ P k
 dsimp only at I d k|-
 refine Gs.z (au ?_);refine Gs.I (λh=>?_) λh=>?_
 ·have j:i<p.trades.length:=qZ;refine Gs.it FK nTd Em QO (λw y=>mO (by repeat first|(with_reducible exact eg)|(with_reducible apply ee)) w y) rfl j (au ?_);intro Q;have f:p.trades.drop i=p.trades[i]::p.trades.drop (i+1):=(ce j).symm;rw[f]at d;generalize p.trades[i]=x at d|-;refine au ?_;refine Gs.j1 (gU (if o.buy then o.acct else x.acct),gU (if o.buy then x.acct else o.acct),()) (λJ H=>au ?_) ?_
  ·refine Gs.Ib (λh=>?_) λh=>?_ <;>simpa [show o.buy=_ from by simpa using h]using H
  dsimp only
  refine Gs.z (au ?_);refine GZ q (au ?_);rw[ET]at d;generalize X.trade n (if o.buy then o.acct else x.acct) (if o.buy then x.acct else o.acct) x.price x.qty=Y at d|-;refine Gs.Ib (λh=>?_) λh=>?_
  ·rw[ae (by simpa using h)]at d
   have e:S.traded n o p=(Y.1,jw,{S with led:=Y.2}):=by
    unfold bo.traded;simp only;rw[d,ae (by simpa using h)]
   refine au ?_;exact z.fail (D:=D) e C
  ·rw[aa (by simpa using h)]at d;refine au ?_;exact(k (i+1,_,Y.2) ⟨qZ,d⟩ (by dsimp only;omega)).fin
 ·obtain rfl:i=p.trades.length:=qZ;rw[ck (az _)]at d;have d:oG n o p.trades S.led=(0,X):=d
  have e:S.traded n o p=(({S with led:=X}:bo).bears o.acct,⟨0,o.num,p.filled,p.left,p.trades,p.gone,[]⟩,{S with led:=X}):=by
   unfold bo.traded;simp only;rw[d,aa (by simp)]
  have m:({S with led:=X}:bo).Ok:=by
   have:=xO r q u o p;rw[e]at this;exact this
  refine au ?_;refine yh (S:={S with led:=X}) C m ?_;refine au ?_;rw[e]at z;refine Gs.uin ?_;have:=z t g (none,0) D C ⟨by dsimp only;omega,by dsimp only;omega,aJ _⟩
  dsimp only[List.length_nil]at this
  exact this.fin
end
end Go.Proofs
set_option maxRecDepth 100000
set_option maxHeartbeats 1000000
namespace Go.Proofs
open Go Go.Vc
def A3(S:bo)(x:Cm):(S.order x).2.2.cal=S.cal/\(S.order x).2.2.bk=S.bk:=by
 unfold bo.order
 dsimp only
 split
 ·exact⟨rfl,rfl⟩
 ·split<;>exact⟨rfl,rfl⟩
def IL{B:Bk}{o:Od}{k:Int}(e:∀d,(B d).length<=100):(cV B o k).2.2.gone.length<=100:=by
 unfold cV
 repeat' split
 all_goals first|exact aJ _|exact Dd e
section
variable{L L0 M:List As}{φ:WP}{K:Value->WP}{v c l mb md b:Nat}{A:List (Int×Nat)}{D:List (Int×Value)}{S:bo}{n a:Int}{bk:Int->Bk}{bd:Int->List Od}{B:Bk}{s:Vt_}{os:List Od}
def Xn(d:lk A n=some b)(p:dV L (No mb A::M):=by repeat first|(with_reducible exact eg)|(with_reducible apply ee)):∀w,Ss w L->(ju 90 (.map (some mb)) (gU n) false).run pQ w=.ok (fa b) w:=λw z=>(jF p z).elim λF q=>Ea q.1 d
def LY{x:Cm}(O:oB A D S.cal.l S.bk)(i:S.Ok)(H:x.Fit)(V:x.acct≠0)(F:QE v c l mb md A (S.place x) L K)(pk:dV L0 (vs v c l mb md A D S L):=by repeat first|(with_reducible exact dV.refl)|((apply nL);(·repeat first|(with_reducible exact eg)|(with_reducible apply ee)))):Gs L0 (Cw pQ 141 #[dL v,vg x] K):=by
 refine Gs.pk ?_ pk;refine sN Tryz.func141 ?_;unfold dL;refine au ?_;intro p;refine au ?_;intro q;refine au ?_;refine Gs.X (λw z=>ky (by repeat first|(with_reducible exact eg)|(with_reducible apply ee)) Qs MG (fW x) w z) ?_;refine CO O i H ?_;have U:=A3 S x
 have e:S.place x=if(S.order x).1≠0 then((S.order x).1,jw,(S.order x).2.2)else
   (if(cV ((S.order x).2.2.bk x.ct) (S.order x).2.1 x.ty).1≠0 then((cV ((S.order x).2.2.bk x.ct) (S.order x).2.1 x.ty).1,jw,{(S.order x).2.2 with bk:=eL (S.order x).2.2.bk x.ct (cV ((S.order x).2.2.bk x.ct) (S.order x).2.1 x.ty).2.1})
    else({(S.order x).2.2 with bk:=eL (S.order x).2.2.bk x.ct (cV ((S.order x).2.2.bk x.ct) (S.order x).2.1 x.ty).2.1}:bo).traded x.ct (S.order x).2.1 (cV ((S.order x).2.2.bk x.ct) (S.order x).2.1 x.ty).2.2):=rfl
 by_cases N:(S.order x).1≠0
 ·rw[ae N]at e;refine au ?_;intro r;refine au ?_;refine Gs.Ib (λ_=>?_) λh=>absurd N (by simpa using h);refine au ?_;exact F.fail e (D:=D) (by rw[U.1,U.2];exact O)
 rw[aa N]at e;obtain⟨j,R,G⟩:=pV V (Decidable.not_not.1 N);rw[G]at e|-
 dsimp only at e|-
 have m:(x.od S.next).Fit:=AF H ⟨by have:=i.next;omega,by unfold jH at R;omega⟩;have P:(cV (S.bk x.ct) (x.od S.next) x.ty).2.2.gone.length<=100:=IL λd=>(i.ord.side _ d).1;have C:(cV (S.bk x.ct) (x.od S.next) x.ty).2.2.trades.length<=100:=MR λd=>(i.ord.side _ d).1;obtain⟨b,k⟩:=AP O (pI j.alive);have f:=Mp i H V (Decidable.not_not.1 N);generalize x.od S.next=o at m C P e f|-;refine au ?_;intro r;refine au ?_;obtain⟨X,Q⟩:=df (cV (S.bk x.ct) o x.ty);rw[<-Q]at C P e f
 refine Gs.j (λy:Nat×(Option Addr×Nat)×Option Addr×Nat=>(.pointer (some ⟨y.1,0,none⟩),gI X.1,())) (λy=>pt y.1 (plX (ej y.2.1 X.2.2.trades.length) (ej y.2.2 X.2.2.gone.length) X.2.2.filled X.2.2.left) 246::Ak (ej y.2.1 X.2.2.trades.length) X.2.2.trades::sB (ej y.2.2 X.2.2.gone.length) X.2.2.gone::
   pt r (XR o) ji::pt q Nl qL::pt p (jO x) lZ::vs v c l mb md A D {S with next:=S.next+1,bk:=eL S.bk x.ct X.2.1} L) (λ_=>True) (λJ T=>?_) λy _=>?_
 ·refine au ?_;refine Gs.WX (Xn k) ?_;refine au ?_;refine Gs.An ?_ (au ?_)
  ·refine tq k ?_;refine AZ m H.2.2.2.2.2.2.1 (λt g=>?_);rw[<-Q];refine vz k ?_;refine au ?_;intro y;refine au ?_;exact(T (y,t,g) trivial).fin
  ·intro y;refine au ?_;refine Gs.E (Xn k) ?_;refine au ?_;refine tq k ?_;refine AZ m H.2.2.2.2.2.2.1 (λt g=>?_);rw[<-Q];refine vz k ?_;refine au ?_;exact(T (y,t,g) trivial).fin
 obtain⟨y,t,g⟩:=y
 dsimp only
 refine Gs.z (au ?_);refine Gs.Ib (λh=>?_) λh=>?_
 ·rw[ae (by simpa using h)]at e;refine au ?_;exact F.fail e (D:=D) (O.upb k)
 ·rw[aa (by simpa using h)]at e;rw[e]at F;refine au ?_;refine AV (S:={S with next:=S.next+1,bk:=eL S.bk x.ct X.2.1}) (t:=t) (g:=g) (p:=X.2.2) (O.upb k) (f (by simpa using h)) j.alive qZ qZ (λt g u W E I=>?_);generalize bo.traded _ x.ct o X.2.2=Y at F E I|-;refine au ?_;exact(F t g u W E I).fin
end
end Go.Proofs
set_option maxRecDepth 100000
set_option maxHeartbeats 1000000
namespace Go.Proofs
open Go Go.Vc
attribute [local congr] aZ
variable {S:bo}
def XT{o:Od}{w:Wt_}{K:aY}(f:∀a b,b=w.heap.size->qp a (.slice (some ⟨b,0,none⟩) 1 1) [o]->M0 w a->K (.slice (some ⟨b,0,none⟩) 1 1) a):rx pQ (pN rE 1 [(0,jQ o)]) w K:=by
 refine nK [jQ o] gX (dp Ln) rfl rfl (by intro v e;rw[bN.1 e];rfl) qZ ?_;have d:(([jQ o]:LV_).flatMap (·.cells.toList)).toArray=(dx o).toArray:=rfl;rw[d];exact f _ _ rfl ⟨rfl,.inr ⟨_,1,[],rfl,az _,by rw[ec,ae rfl];simp,by simp,by simp⟩⟩ kU
def YS{s s1:Vt_}{L:List Od}{o:Od}{w:Wt_}{K:aY}(h:qp w s L)(h1:qp w s1 [o])(j:L.length<=100000)
  (g:∀a d,qp d a (L++[o])->aS (aK s) w d->(∀b,aK a b->aK s b\/w.heap.size<=b)->K a d):rx pQ (eZ #[rE,rE] rE [s,s1]) w K:=by
 refine jJ gX gX (dp Ln) h h1.rd (by rw[Lj lQ]) (by grind) λa d e i f=>g a d ?_ i f;rw[<-cJ]at e;show gD d ji 5 a (L++[o]).length _;rw[ag];exact e
def Mv(h:S.Ok){c:Cm}(e:c.Fit)(a:c.acct≠0)(h1:(S.order c).1=0)(i:¬50<=(S.bd c.ct).length):({S with bd:=eL S.bd c.ct (S.bd c.ct++[c.od S.next]),next:=S.next+1}:bo).Ok:=by
 obtain⟨hp,f,g⟩:=pV a h1;have b:=h.next
 have d:=h.ord.addBd (n:=c.ct) (x:=c.od S.next) (nx:=S.next+1) hp.alive (DE a qZ hp.price hp.qty) (AF e ⟨qZ,by unfold jH at f;omega⟩)
  (by show S.next<_;omega) hp.stands (tf h.ord) qZ qZ
 exact⟨h.cal,h.led,d,⟨by grind,by grind⟩,h.fnd⟩
def ry{n:Int}:n∈S.nums↔(cg S.cal.l n).isSome=true:=by
 unfold bo.nums cg;rw[aL,List.find?_isSome];constructor
 ·grind
 ·grind
def Ly(h:rC S){a num n:Int}{o:Od}(u:n∈S.nums)(b:vF S.bk a num n=some (o,n)):S.find a num=some (o,n):=by
 have s:(S.find a num).isSome=true:=by
  unfold bo.find;rw[List.findSome?_isSome_iff];exact⟨n,u,by rw[b];rfl⟩
 obtain⟨⟨t,g⟩,k⟩:=eY.1 s;obtain⟨h1,y,r,d,p,q⟩:=pM k
 have e:∃j,(S.bk n).find num=some (o,j):=by
  unfold vF at b;cases i:(S.bk n).find num with
  |none=>rw[i]at b;cases b
  |some x=>
   rw[i]at b;simp only at b;split at b
   ·grind
   ·cases b
 obtain⟨j,e⟩:=e;have m:=AJ e;have f:n=g:=h.apart n g o t (ik m.1) (ik p) (by rw[m.2,r]);subst f;rw[q]at e;simp only[gE,mI]at e;rw[k,e.1]
def Do{α:Type}{R:List α}{i:Nat}{p x:α}(h:R[i]? =some p)(b:x∈R):x=p\/x∈R.eraseIdx i:=by
 have:=(ny h).mem_iff (a:=x);rw[this]at b;exact ar.1 b
section
variable{w:Wt_}{K:aY}{v c l mb md:Nat}{A:List (Int×Nat)}{D:List (Int×Value)}{fp:Pt->Nat->Prop}{S:bo}
def bkO(B:Option (Od×Bool)):Od:=match B with|none=>nZ|some (o,_)=>o
def ZU(B:Option (Od×Bool)):Int:=match B with|none=>7|some _=>0
def ZV(a n:Int)(B:Option (Od×Bool)):Option (Od×Int):=match B with|some (o,_)=>if o.acct=a then some (o,n)else none|none=>none
def MY{w:Wt_}{K:aY}{b:Nat}{F:NP_}{B:Bk}{n:Int}(h:fU w b F B)
  (d:∀a,M0 w a->K (.tuple #[jQ (bkO (B.find n)),gI (ZU (B.find n))]) a):Ca pQ 268 #[fa b,gQ n] w K:=LK h d
def PR(x:Option (Od×Int)):Od:=match x with|some y=>y.1|none=>nZ
def Pa(x:Option (Od×Int)):Int:=match x with|some y=>y.2|none=>0
end
end Go.Proofs
set_option maxRecDepth 100000
set_option maxHeartbeats 1000000
namespace Go.Proofs
open Go Go.Vc
section
variable{L L0 M:List As}{φ:WP}{K:Value->WP}{v c l mb md b:Nat}{A:List (Int×Nat)}{D:List (Int×Value)}{S:bo}{n a:Int}{bk:Int->Bk}{bd:Int->List Od}{B:Bk}{s:Vt_}{os:List Od}
section
variable{P:Program}{k:Value->WP}{xv s1:Vt_}{cs:LV_}{e t:TypeId}{sz by_:Nat}
def Gs.lit1(m:P.underlying t=some (.slice e))(g:gP P e sz by_=true)(f:xv.cells.toList=cs)(d:xv.cells.size=sz)(p:sz<=1000)(i:∀b,Gs (ow (.slice (some ⟨b,0,none⟩) 1 1) e sz 1 cs::L) (k (.slice (some ⟨b,0,none⟩) 1 1))):Gs L (Xw P (pN t 1 [(0,xv)]) k):=⟨λw y=>by
 refine nK [xv] m (dp g) rfl rfl (by intro v j;rw[bN.1 j];exact d) qZ ?_;have h:(([xv]:LV_).flatMap (·.cells.toList)).toArray=cs.toArray:=by simp[<-f]
 rw[h];refine(i _).go _ (y.new ((aS.refl _ w).alloc _) (F' :=aK (.slice (some ⟨w.heap.size,0,none⟩) 1 1)) ⟨⟨by rw[<-f];simp[d],.inr ⟨_,1,[],rfl,az _,by rw[ec,ae rfl];simp,by simp,by simp⟩⟩,λ_=>aG⟩ λb o=>?_);have:w.heap.size=b:=by simpa [aK,QM]using o
 omega⟩
def Gs.snd{α:Type}{l:List α}{x:α}{f:α->List Value}(g:P.underlying t=some (.slice e))(h:gP P e sz by_=true)(d:(f x).all (·.oneCell')=true)(j:(l.length+1)*by_<=140737488355328)
  (i:∀a c,Gs (ow (.slice a (l++[x]).length c) e sz (l++[x]).length ((l++[x]).flatMap f)::M) (k (.slice a (l++[x]).length c)))(p:dV L (ow s e sz l.length (l.flatMap f)::ow s1 e sz 1 (f x)::M):=by repeat first|(with_reducible exact dV.refl)|((apply nL);(·repeat first|(with_reducible exact eg)|(with_reducible apply ee)))):Gs L (Xw P (eZ #[t,t] t [s,s1]) k):=by
 refine Gs.pk (Gs.app g g h (λw y=>mO (M:=ow s e sz l.length (l.flatMap f)::M) .swap w y) d j (λa c=>?_) .refl) p;have:=i a c;rw[ag,cJ]at this;exact(by simpa using this:Gs (ow _ _ _ _ _::M) _).fin
end
def KO(p:dV L (Nq md D::M):=by repeat first|(with_reducible exact eg)|(with_reducible apply ee)):∀w,Ss w L->(ju 91 (.map (some md)) (gU n) false).run pQ w=.ok (kQ D n) w:=λw z=>(jF p z).elim λF q=>zZ q.1 n
def Ro{x:Cm}(C:oB A D S.cal.l S.bk)(j:S.Ok)(G:x.Fit)(H:x.acct≠0)(E:QE v c l mb md A (S.bid x) L K)(pk:dV L0 (vs v c l mb md A D S L):=by repeat first|(with_reducible exact dV.refl)|((apply nL);(·repeat first|(with_reducible exact eg)|(with_reducible apply ee)))):Gs L0 (Cw pQ 142 #[dL v,vg x] K):=by
 refine Gs.pk ?_ pk;refine sN Tryz.func142 ?_;unfold dL;refine au ?_;intro p;refine au ?_;intro q;refine au ?_;refine Gs.X (λw z=>ky (by repeat first|(with_reducible exact eg)|(with_reducible apply ee)) Qs MG (fW x) w z) ?_;refine CO C j G ?_;have F:=A3 S x
 have d:S.bid x=if(S.order x).1≠0 then((S.order x).1,jw,(S.order x).2.2)else if 50<=((S.order x).2.2.bd x.ct).length then(9,jw,(S.order x).2.2)
   else(({(S.order x).2.2 with bd:=eL (S.order x).2.2.bd x.ct ((S.order x).2.2.bd x.ct++[(S.order x).2.1])}:bo).bears x.acct,⟨0,(S.order x).2.1.num,0,(S.order x).2.1.left,[],[],[]⟩,{(S.order x).2.2 with bd:=eL (S.order x).2.2.bd x.ct ((S.order x).2.2.bd x.ct++[(S.order x).2.1])}):=rfl
 by_cases u:(S.order x).1≠0
 ·rw[ae u]at d;refine au ?_;intro r;refine au ?_;refine Gs.Ib (λ_=>?_) λh=>absurd u (by simpa using h);refine au ?_;exact E.fail d (D:=D) (by rw[F.1,F.2];exact C)
 rw[aa u]at d;obtain⟨g,J,m⟩:=pV H (Decidable.not_not.1 u);rw[m]at d|-
 dsimp only at d|-
 have I:=j.ord.bdl x.ct;have i:=Mv j G H (Decidable.not_not.1 u);generalize x.od S.next=o at d i|-;refine au ?_;intro r;refine au ?_;refine Gs.WX KO ?_;refine Gs.lenW gX (pD x.ct) (au ?_);refine Gs.I (λh=>?_) λh=>?_
 ·rw[ae qZ]at d;refine au ?_;exact E.fail d (D:=D) C
 rw[aa qZ]at d;rw[d]at E;refine au ?_;refine Gs.WX KO ?_;refine au ?_;refine Gs.lit1 gX Ln (cs:=dx o) rfl rfl qZ λb=>?_;refine au ?_;refine Gs.E KO ?_;refine au ?_;refine wI (n:=x.ct) ?_
 dsimp only
 refine Gs.snd (l:=S.bd x.ct) (x:=o) (f:=dx) gX Ln (lQ o) qZ (λy z=>?_)
 ·refine au ?_;refine Gs.mup (enc:=eQ) (ev:=xk) (x:=x.ct) (v:=.slice y (S.bd x.ct++[o]).length z) qD kM ?_ (by repeat first|(with_reducible exact eg)|(with_reducible apply ee));refine A6 (n:=x.ct) ?_;refine au ?_;refine yh (S:={S with bd:=eL S.bd x.ct (S.bd x.ct++[o]),next:=S.next+1}) (C.put (pI g.alive)) (i qZ) ?_;refine au ?_;refine Gs.tdn (Gs.idn (Gs.uin ?_));have:=E (none,0) (none,0) (none,0) _ (C.put (s:=.slice y (S.bd x.ct++[o]).length z) (pI g.alive)) ⟨aJ _,aJ _,aJ _⟩
  dsimp only[List.length_nil]at this
  exact this.fin
end
end Go.Proofs
namespace Go.Vc
open Go Go.Proofs
section
variable{P:Program}{κ ν:Type} [DecidableEq κ]{enc:κ->Value}{ev:ν->Value}{t kt e:TypeId}{b it:Nat}{D R:List (κ×ν)}{L M:List As}{k:Value->WP}{φ:WP}{c:Option (κ×ν)}{p:κ×ν}
def Nk(enc:κ->Value)(ev:ν->Value)(b:Nat)(D:List (κ×ν))(it:Nat)(R:List (κ×ν))(c:Option (κ×ν)):As:=
 ⟨λw F=>eF enc ev w b D/\kR enc ev w it b R/\(∀p,c=some p->xE enc ev w it b p)/\∀x,F x↔x=b\/x=it,
 λh hb=>((h.2.2.2 _).1 hb).elim (λe=>e▸h.1.lt) λe=>e▸h.2.1.lt.2,
 λh m hg=>⟨h.1.mod m (hg _ ((h.2.2.2 _).2 (.inl rfl))),h.2.1.mod m (hg _ ((h.2.2.2 _).2 (.inl rfl))) (hg _ ((h.2.2.2 _).2 (.inr rfl))),λp hp=>(h.2.2.1 p hp).mod m (hg _ ((h.2.2.2 _).2 (.inl rfl))) (hg _ ((h.2.2.2 _).2 (.inr rfl))),h.2.2.2⟩⟩
def Gs.rng(g:P.underlying t=some (.map kt e))(l:∀it,Gs (Nk enc ev b D it D none::M) (k (bO it 0)))(q:dV L (mp enc ev b D::M)):Gs L (Xw P (Ao t (.map (some b))) k):=⟨λw ⟨F,z⟩=>by
 obtain⟨s,j,h1,a,n,r⟩:=(q.out w F).1 z;refine sD g h1.1 λf i m=>(l _).go f (Ss.cons.2 ⟨λx=>x=b\/x=w.heap.size,j,⟨h1.1.mod m id,i,λ_ h=>(by cases h),λ_=>aG⟩,a.md m dS,λx o d=>?_⟩);rcases o with rfl|rfl
 ·exact n _ ((h1.2 _).2 rfl) d
 ·have:=a.lt d;omega⟩
def Gs.mpo(h:Gs (mp enc ev b D::M) φ)(q:dV L (Nk enc ev b D it R c::M)):Gs L φ:=⟨λw ⟨F,z⟩=>by
 obtain⟨j,a,h1,d,f,l⟩:=(q.out w F).1 z;exact h.go w (Ss.cons.2 ⟨λx=>x=b,a,⟨h1.1,λ_=>aG⟩,d,λx i g=>f x ((h1.2.2.2 x).2 (.inl i)) g⟩)⟩
def Gs.nxt(v:R=[]->Gs (mp enc ev b D::M) (k (.tuple #[.bool false])))(h1:∀i p,R[i]? =some p->Gs (Nk enc ev b D it (R.eraseIdx i) (some p)::M) (k (.tuple #[.bool true,enc p.1,ev p.2])))(q:dV L (Nk enc ev b D it R c::M)):
  Gs L (Xw P (C7 (bO it 0) false t) k):=⟨λw ⟨F,z⟩=>by
 obtain⟨K,n,⟨o,r,I,h⟩,l,j,H⟩:=(q.out w F).1 z
 have g:b≠it:=λe=>by
  obtain⟨es,O,G,s,C,-⟩:=r;rw[e,C]at s;cases s
 refine uS r (λA f m J=>?_) λi p B f E u m N=>?_
 ·exact(v A).go f (Ss.cons.2 ⟨λx=>x=b,n,⟨o.mod m id,λ_=>aG⟩,l.md m dS,λx a d=>j x ((h x).2 (.inl a)) d⟩)
 ·exact(h1 i p B).go f (Ss.cons.2 ⟨λx=>x=b\/x=it,n,⟨o.mod m g,E,λq y=>by cases y;exact u,λ_=>aG⟩,l.md m λx a d=>j x ((h x).2 (.inr d)) a,λx a d=>j x ((h x).2 a) d⟩)⟩
def Gs.ent(a:Gs L (k (.tuple #[enc p.1,ev p.2])))(q:dV L (Nk enc ev b D it R (some p)::M)):Gs L (Xw P (Ap (bO it 0)) k):=⟨λw y=>(jF q y).elim λF h=>si (h.2.2.1 p rfl) (a.go w y)⟩
def Gs.mpN(h:(D.map (·.1)).Nodup->Gs L φ)(q:dV L (mp enc ev b D::M)):Gs L φ:=⟨λw y=>(jF q y).elim λF a=>(h a.1.1).go w y⟩
def Bv{α:Type}{R:List α}{i:Nat}{p x:α}(h:R[i]? =some p)(a:x∈R):x=p\/x∈R.eraseIdx i:=by
 obtain⟨d,rfl⟩:=aF.1 h;have e:R=R.take i++R[i]::R.drop (i+1):=by rw[ce,cH]
 rw[e,bm,ar]at a;rw[List.eraseIdx_eq_take_drop_succ,bm];exact a.elim (λh=>.inr (.inl h)) λh=>h.imp id .inr
def Gs.fm{S:Type}{st:S}{body:S->(S->WP)->WP}(q:κ×ν->Prop)(I:As->List As)(m:(D.map (·.1)).Nodup)
  (h:∀R c,(∀p∈R,p∈D)->(∀p∈D,p∈R\/q p)->∀K:S->WP,(∀i p,R[i]? =some p->q p->Gs (I (Nk enc ev b D it (R.eraseIdx i) (some p))) (K st))->Gs (I (Nk enc ev b D it R c)) (body st K))(l:dV L (I (Nk enc ev b D it D none))):Gs L (Lw body st):=
 Gs.l (λ_:List (κ×ν)×Option (κ×ν)=>st) (·.1.length) (λx=>I (Nk enc ev b D it x.1 x.2)) (λx=>(∀p∈x.1,p∈D)/\∀p∈D,p∈x.1\/q p) (D,none) rfl ⟨λ_ h=>h,λ_ h=>.inl h⟩ (λx d K j=>h x.1 x.2 d.1 d.2 K λi p g hp=>j (x.1.eraseIdx i,some p) ⟨λy f=>d.1 y ((eB _ _).mem f),λy f=>by
  rcases d.2 y f with a|a
  ·rcases Bv g a with rfl|a
   ·exact .inr hp
   ·exact .inl a
  ·exact .inr a⟩ (by
  have:=(aF.1 g).1;show(x.1.eraseIdx i).length<x.1.length;rw[iG this];omega)) l
end
end Go.Vc
set_option maxRecDepth 100000
set_option maxHeartbeats 1000000
namespace Go.Proofs
open Go Go.Vc
attribute [local congr] aZ
def JB{S:bo}(h:S.Ok){n:Int}(d:n∈S.nums):n≠0/\kV n:=by
 obtain⟨k,b,rfl⟩:=aL.1 d;obtain⟨c,a,-⟩:=h.cal.ok k b;constructor
 ·unfold Sp.may at a;simp only[ao,aX]at a;omega
 ·exact c.1.1
def Qy{S:bo}(h:rC S){a num n:Int}{i:Nat}(o:n∈S.nums)(f:(S.bd n).findIdx? (vh a num)=some i):S.nums.findSome? (uq S.bd a num)=some (i,n):=by
 have l:(S.nums.findSome? (uq S.bd a num)).isSome=true:=by
  rw[List.findSome?_isSome_iff];exact⟨n,o,by unfold uq;rw[f];rfl⟩
 obtain⟨⟨r,p⟩,g⟩:=eY.1 l;obtain⟨m,q,b⟩:=List.exists_of_findSome?_eq_some g;unfold uq at b;cases c:(S.bd m).findIdx? (vh a num)with
 |none=>rw[c]at b;cases b
 |some j=>
  rw[c]at b;simp only[eI,gE,mI]at b;obtain⟨rfl,rfl⟩:=b;obtain⟨h1,d,-⟩:=bp.1 f;obtain⟨k,e,-⟩:=bp.1 c;unfold vh at d e;simp only[ao,aX]at d e;have:=h.apart n m _ _ (iW (av h1)) (iW (av k)) (by rw[d.1,e.1]);subst this;rw[f]at c;cases c;exact g
def GY{α:Type}(l:List α)(i:Nat):l.take i++l.drop (i+1)=l.eraseIdx i:=(List.eraseIdx_eq_take_drop_succ l i).symm
def VB{w:Wt_}{p:Nat}{x:Cm}(h:dX w p x)(l:List Od):Dm w (.func (.func 214) #[] #[.pointer (some ⟨p,0,none⟩)]) (vh x.acct x.num) l:=by
 refine⟨_,_,rfl,λo j W g K i=>?_⟩;show Ca pQ _ [jQ o,.pointer (some ⟨p,0,none⟩)].toArray W K;refine cN Tryz.func214 ?_;obtain⟨a,f,c,d⟩:=tK o W;apply bh f;have e:dX a p x:=d.hpk (g.hpk h id) id;refine ax (bO W.heap.size 0) a (by simp[go_sem]) (ax (gQ o.num) a (by simp[go_sem,c,dx]) ?_);refine bh (Nj _) (bh (PU e) ?_);apply ax (.bool (decide (o.num=x.num))) a (by simp[go_sem];rfl);have b:=i a d;unfold vh at b;by_cases h1:o.num=x.num
 ·rw[mP h1];refine ax (bO W.heap.size 1) a (by simp[go_sem]) (ax (gU o.acct) a (by simp[go_sem,c,dx]) ?_);refine bh (vl _) (bh (FD e) ?_);apply ax (.bool (decide (o.acct=x.acct))) a (by simp[go_sem];rfl);rw[aQ h1,kH]at b;exact b
 ·rw[Hm h1];rw[br h1,fl]at b;exact b
end Go.Proofs
set_option maxRecDepth 100000
set_option maxHeartbeats 1000000
namespace Go.Proofs
open Go Go.Vc
attribute [local congr] aZ
def Pc{B:Bk}{o:Od}{r:Bool}(c:∀d,(B d).length<=100):(eW B o r).2.trades.length<=100:=by
 have a:∀(L:List Od) (left:Int),(eN o left L).2.2.1.length<=L.length:=by
  intro L;induction L with
  |nil=>intro left;simp[eN]
  |cons b r e=>
   intro left;unfold eN;split
   ·simp
   ·split
    ·grind
    ·split
     ·simp
     ·grind
 have h1:=a (B !o.buy) o.left;have f:=c !o.buy;unfold eW;simp only;split<;>(simp only;omega)
def FZ{B:Bk}{n p l:Int}(a:∀d,(B d).length<=100):(cC B n p l).2.2.trades.length<=100:=by
 unfold cC;split
 ·simp
 ·split
  ·simp
  ·split
   ·simp
   ·refine Pc λe=>?_
    rename_i d _ _ _
    by_cases h:e=d
    ·subst h;rw[Bk.set_self];unfold ot;exact ci (List.eraseP_sublist).length_le (a _)
    ·rw[Bk.set_ne _ _ h];exact a _
end Go.Proofs
set_option maxRecDepth 100000
set_option maxHeartbeats 1000000
namespace Go.Proofs
open Go Go.Vc
section
variable{L L0 M:List As}{φ:WP}{K:Value->WP}{v c l mb md b:Nat}{A:List (Int×Nat)}{D:List (Int×Value)}{S:bo}{n a:Int}{bk:Int->Bk}{bd:Int->List Od}{B:Bk}{s:Vt_}{os:List Od}
def MI{m:Int}(e:lk A n=some b)(d:Gs L (K (.tuple #[jQ (bkO ((bk n).find m)),gI (ZU ((bk n).find m))])))(p:dV L (rG A bk::M):=by repeat first|(with_reducible exact eg)|(with_reducible apply ee)):Gs L (Cw pQ 268 #[fa b,gQ m] K):=
 Gs.rd1 (A:=rG A bk) (λw F _ q K h=>q.elim λf q=>MY (q.q n b trivial e) h) d p
def Fy{a num:Int}(E:oB A D S.cal.l S.bk)(x:rC S)(g:Gs L0 (K (.tuple #[jQ (PR (S.find a num)),gU (Pa (S.find a num))])))(pk:dV L0 (vs v c l mb md A D S L):=by repeat first|(with_reducible exact dV.refl)|((apply nL);(·repeat first|(with_reducible exact eg)|(with_reducible apply ee)))):Gs L0 (Cw pQ 211 #[dL v,gU a,gQ num] K):=by
 refine Gs.pk ?_ pk;replace g:=Gs.pk g pk.symm;refine sN Tryz.func211 ?_;unfold dL;refine au ?_;intro q;refine au ?_;refine Gs.mpN (enc:=eQ) (ev:=fa) (D:=A) (λz=>?_) (by repeat first|(with_reducible exact eg)|(with_reducible apply ee));refine Gs.rng wA (λit=>?_) (by repeat first|(with_reducible exact eg)|(with_reducible apply ee));refine Gs.fm (λp=>vF S.bk a num p.1=none) (λX=>X::pt q (XR ⟨0,0,false,0,0⟩) ji::Nr v c l mb md S.next::nJ c S.cal::mi l S.led::Nq md D::rG A S.bk::tU D S.bd::L) z ?_ (by repeat first|(with_reducible exact dV.refl)|((apply nL);(·repeat first|(with_reducible exact eg)|(with_reducible apply ee))));intro R c P H Q j;refine Gs.z ?_;refine Gs.nxt (λF=>?_) (λi p C=>?_) (by repeat first|(with_reducible exact eg)|(with_reducible apply ee))
 ·subst F
  have e:S.find a num=none:=by
   unfold bo.find;rw[List.findSome?_eq_none_iff];intro n O;have:=E.dom n;rw[ry.1 O]at this;obtain⟨b,G⟩:=eY.1 this;exact(H _ (xD G)).elim (λh=>by cases h) id
  rw[e]at g;refine au ?_;exact g.fin
 have k:lk A p.1=some p.2:=sL z (P p (cX C));have m:p.1∈S.nums:=ry.2 (by rw[<-E.dom p.1,k];rfl);refine au ?_;refine Gs.ent ?_ (by repeat first|(with_reducible exact eg)|(with_reducible apply ee));refine au ?_;refine MI k ?_;have f:vF S.bk a num p.1=ZV a p.1 ((S.bk p.1).find num):=rfl;have u:=j i p C;clear j;generalize(S.bk p.1).find num=Y at f|-;refine au ?_;intro r;refine au ?_;refine Gs.j1 (.bool (ZV a p.1 Y).isSome,()) (λJ w=>?_) ?_
 ·cases Y with
  |none=>
   refine au ?_;refine Gs.Ib (λh=>absurd h (by simp[ZU])) λ_=>?_;exact w
  |some y=>
   refine au ?_;refine Gs.Ib (λ_=>?_) λh=>absurd h (by simp[ZU]);obtain⟨o,d⟩:=y;refine au ?_
   dsimp only[ZV,bkO]at w|-
   by_cases h:o.acct=a<;>simpa [h,show(o.acct==a)=decide (o.acct=a)from rfl]using w
 refine Gs.z ?_;refine Gs.Ib (λh=>?_) λh=>?_
 ·obtain⟨o,d,rfl,t⟩:∃o d,Y=some (o,d)/\o.acct=a:=by
   unfold ZV at h;split at h
   ·rename_i o d
    split at h
    ·rename_i I;exact⟨o,d,rfl,I⟩
    ·cases h
   ·cases h
  have N:vF S.bk a num p.1=some (o,p.1):=by rw[f];exact ae t
  rw[Ly x m N]at g;refine Gs.mpo ?_ (by repeat first|(with_reducible exact eg)|(with_reducible apply ee));refine au ?_;exact g.fin
 ·exact(u (by rw[f];simpa using h)).fin
end
end Go.Proofs
set_option maxRecDepth 100000
set_option maxHeartbeats 1000000
namespace Go.Proofs
open Go Go.Vc
def Dl{B:Bk}{n p l:Int}(f:∀d,(B d).length<=100):(cC B n p l).2.2.gone.length<=100:=by
 unfold cC
 repeat' split
 all_goals first|exact aJ _|skip
 refine Dd λe=>?_
 rename_i d _ _ _
 by_cases h:e=d
 ·subst h;rw[Bk.set_self];unfold ot;exact ci (List.eraseP_sublist).length_le (f _)
 ·rw[Bk.set_ne _ _ h];exact f _
section
variable{L L0 M:List As}{φ:WP}{K:Value->WP}{v c l mb md b:Nat}{A:List (Int×Nat)}{D:List (Int×Value)}{S:bo}{n a:Int}{bk:Int->Bk}{bd:Int->List Od}{B:Bk}{s:Vt_}{os:List Od}
def wd{m p l:Int}(hp:eP p)(r:eP l)(h:∀x y,Gs (Bq b (cC B m p l).2.1::Ak (ej x (cC B m p l).2.2.trades.length) (cC B m p l).2.2.trades::sB (ej y (cC B m p l).2.2.gone.length) (cC B m p l).2.2.gone::M)
   (K (.tuple #[.agg (rB (ej x (cC B m p l).2.2.trades.length) (ej y (cC B m p l).2.2.gone.length) (cC B m p l).2.2.filled (cC B m p l).2.2.left),gI (cC B m p l).1])))(q:dV L (Bq b B::M):=by repeat first|(with_reducible exact eg)|(with_reducible apply ee)):
  Gs L (Cw pQ 217 #[fa b,gQ m,gI p,gI l] K):=by
 generalize j:cC B m p l=X at h
 exact Gs.old (A:=Bq b B) (val:=λx:(Option Addr×Nat)×Option Addr×Nat=>.tuple #[.agg (rB (ej x.1 X.2.2.trades.length) (ej x.2 X.2.2.gone.length) X.2.2.filled X.2.2.left),gI X.1]) (p:=λ_=>True) (B:=λx=>(Bq b X.2.1).mul ((Ak (ej x.1 X.2.2.trades.length) X.2.2.trades).mul (sB (ej x.2 X.2.2.gone.length) X.2.2.gone))) (λw F _ q K h=>Gp q hp r λe G H i f o z g nn=>by
  rw[j]at f o|-;obtain⟨C,k,rfl,-⟩:=o.tr.isSl;obtain⟨u,t,rfl,-⟩:=o.go.isSl;exact h ((C,k),u,t) i (λy=>e y\/aK _ y\/aK _ y) trivial ⟨e,_,f,⟨aK _,aK _,⟨o.tr,λ_=>aG⟩,⟨o.go,λ_=>aG⟩,o.dj,λ_=>aG⟩,λy d E=>(nn y E).2 d,λ_=>aG⟩ z λy d=>d.elim (g y) λh=>.inr (nn y h).1) (λx _=>((h x.1 x.2).pk (dV.cons Nx)).pk Nx) q
def EZ{x:Cm}(w:oB A D S.cal.l S.bk)(f:S.Ok)(V:x.Fit)(W:x.acct≠0)(z:QE v c l mb md A (S.replace x) L K)(pk:dV L0 (vs v c l mb md A D S L):=by repeat first|(with_reducible exact dV.refl)|((apply nL);(·repeat first|(with_reducible exact eg)|(with_reducible apply ee)))):Gs L0 (Cw pQ 140 #[dL v,vg x] K):=by
 refine Gs.pk ?_ pk;refine sN Tryz.func140 ?_;unfold dL;have O:=V;obtain⟨f1,f2,f3,f4,f5,f6,f7,H,R⟩:=O;refine au ?_;intro p;refine au ?_;intro q;refine au ?_;refine Fy w f.ord ?_
 have e:S.replace x=match S.find x.acct x.num with
   |none=>(7,jw,S)
   |some (o,n)=>if S.pass x.acct n o.buy x.price x.qty o≠0 then(S.pass x.acct n o.buy x.price x.qty o,jw,S)else
   (if(cC (S.bk n) x.num x.price x.qty).1≠0 then((cC (S.bk n) x.num x.price x.qty).1,jw,{S with bk:=eL S.bk n (cC (S.bk n) x.num x.price x.qty).2.1})
    else({S with bk:=eL S.bk n (cC (S.bk n) x.num x.price x.qty).2.1}:bo).traded n o (cC (S.bk n) x.num x.price x.qty).2.2):=rfl
 cases G:S.find x.acct x.num with
 |none=>
  rw[G]at e
  dsimp only[PR,Pa]
  refine au ?_;intro r;refine au ?_;exact z.fail e (D:=D) w
 |some y=>
 obtain⟨o,n⟩:=y;rw[G]at e
 dsimp only at e
 obtain⟨F,hoa,Z,d,T,hfd⟩:=pM G;have I:=ir (f.ord.std n o (ik T)).may
 dsimp only[PR,Pa]
 refine au ?_;intro r;refine au ?_;refine Gs.Ib (λh=>absurd (by simpa using h) (JB f F).1) λ_=>au ?_;refine FX w f H R ⟨qZ,I.2⟩ ?_;by_cases k:S.pass x.acct n o.buy x.price x.qty o≠0
 ·rw[ae k]at e;refine au ?_;refine Gs.Ib (λ_=>?_) λh=>absurd k (by simpa using h);refine au ?_;exact z.fail e (D:=D) w
 rw[aa k]at e;have k:=Decidable.not_not.1 k;have m:=xe W k;obtain⟨b,j⟩:=AP w (ry.1 F);have i:=yL f V W G k;have Q:(cC (S.bk n) x.num x.price x.qty).2.2.gone.length<=100:=Dl λd=>(f.ord.side _ d).1;have N:(cC (S.bk n) x.num x.price x.qty).2.2.trades.length<=100:=FZ λd=>(f.ord.side _ d).1;rw[k];refine au ?_;obtain⟨X,P⟩:=df (cC (S.bk n) x.num x.price x.qty);rw[<-P]at N Q e i
 refine Gs.j (λy:Nat×(Option Addr×Nat)×Option Addr×Nat=>(.pointer (some ⟨y.1,0,none⟩),gI X.1,())) (λy=>pt y.1 (plX (ej y.2.1 X.2.2.trades.length) (ej y.2.2 X.2.2.gone.length) X.2.2.filled X.2.2.left) 246::Ak (ej y.2.1 X.2.2.trades.length) X.2.2.trades::sB (ej y.2.2 X.2.2.gone.length) X.2.2.gone::
   pt r (XR o) ji::pt q Nl qL::pt p (jO x) lZ::vs v c l mb md A D {S with bk:=eL S.bk n X.2.1} L) (λ_=>True) (λJ U=>?_) λy _=>?_
 ·refine au ?_;refine Gs.WX (Xn j) ?_;refine au ?_;refine Gs.An ?_ (au ?_)
  ·refine tq j ?_;refine wd H R (λt g=>?_);rw[<-P];refine vz j ?_;refine au ?_;intro y;refine au ?_;exact(U (y,t,g) trivial).fin
  ·intro y;refine au ?_;refine Gs.E (Xn j) ?_;refine au ?_;refine tq j ?_;refine wd H R (λt g=>?_);rw[<-P];refine vz j ?_;refine au ?_;exact(U (y,t,g) trivial).fin
 obtain⟨y,t,g⟩:=y
 dsimp only
 refine Gs.z (au ?_);refine Gs.Ib (λh=>?_) λh=>?_
 ·rw[ae (by simpa using h)]at e;refine au ?_;exact z.fail e (D:=D) (w.upb j)
 ·rw[aa (by simpa using h)]at e;rw[e]at z;refine au ?_;refine AV (S:={S with bk:=eL S.bk n X.2.1}) (t:=t) (g:=g) (p:=X.2.2) (w.upb j) (i (by simpa using h)) m.alive qZ qZ (λt g u D' C E=>?_);generalize bo.traded _ n o X.2.2=Y at z C E|-;refine au ?_;exact(z t g u D' C E).fin
end
end Go.Proofs
set_option maxRecDepth 100000
set_option maxHeartbeats 1000000
namespace Go.Proofs
open Go Go.Vc
abbrev Xq(a:Ac):List Value:=[.int .u32 a.num,gI a.cash,.bool a.kil,.bool a.dfl]
section
variable{L L0 M:List As}{φ:WP}{K:Value->WP}{v c l mb md b:Nat}{A:List (Int×Nat)}{D:List (Int×Value)}{S:bo}{n a:Int}{bk:Int->Bk}{bd:Int->List Od}{B:Bk}{s:Vt_}{os:List Od}
def GT{fv:Vt_}{f:Od->Bool}(h:∀w,Ss w L->Rd w 5 s os.length (os.flatMap dx))(g:∀w,Ss w L->Dm w fv f os)(i:os.length<=100000)(d:Gs L (K (gI (qI os f)))):Gs L (Cw pQ 213 #[s,fv] K):=
 ⟨λw y=>vu (h w y) qZ (g w y) λe m=>d.go e (y.md0 m)⟩
def BW{i j:Nat}(e:i<j)(t:j<=os.length)(r:os.length<=1000000)(k:∀d,Gs (lX d (os.take i++os.drop j)::M) (K d))(p:dV L (lX s os::M):=by repeat first|(with_reducible exact eg)|(with_reducible apply ee)):Gs L (Cw pQ 215 #[s,gI (i:Int),gI (j:Int)] K):=
 Gs.old (A:=lX s os) (val:=λd=>d) (p:=λ_=>True) (B:=λd=>lX d (os.take i++os.drop j)) (λw F _ q K h=>uh q.1 e t r λd g o m n=>h d g (aK d) trivial ⟨o,λ_=>aG⟩ (m.mono λy _ f=>(q.2 y).2 f) λy f=>.inl ((q.2 y).2 (n y f))) (λd _=>k d) p
def Gs.itL{k:Value->WP}{i n:Nat}(t:∀w,Ss w L->Rd w 5 s n (os.flatMap dx))(h:n=os.length)(hi:i<os.length)(m:Gs L (k (gI os[i].left))):Gs L (Pw pQ (iX rE s (gI (i:Int))) λp=>Pw pQ (iF ji p 4) λq=>Ww pQ (iL 2 q) k):=⟨λw y=>by
 obtain⟨b,e,o,f,g,r⟩:=(t w y).item dP hi h;obtain⟨C,x,u,hC,j⟩:=r.get;have d:=j 4 _ rfl;rw[eD]at d;refine cT (bO b (e+i*5)) (λW=>by rw[f];subst h;simp[go_sem,hi,bD,gX]) ?_;refine cT (bO b (e+i*5+4)) (λ_=>by simp[go_sem,bD]) (qy (gI os[i].left) (by simp[go_sem,hC,d]) (m.go w y))⟩
def I3(h:(∀n,lk D n=none->bd n=[])->Gs L φ)(p:dV L (tU D bd::M):=by repeat first|(with_reducible exact eg)|(with_reducible apply ee)):Gs L φ:=⟨λw y=>(jF p y).elim λF q=>(h λn i=>by
 have d:=q.q n trivial;unfold kQ at d;rw[i]at d;obtain⟨e,⟨-,f⟩|⟨b,g,rest,j,-⟩⟩:=d
 ·exact gZ f
 ·cases j).go w y⟩
set_option maxHeartbeats 1000000 in
def Is{x:Cm}(C:oB A D S.cal.l S.bk)(m:S.Ok)(hx:x.Fit)(z:QE v c l mb md A (S.cancel x) L K)(pk:dV L0 (vs v c l mb md A D S L):=by repeat first|(with_reducible exact dV.refl)|((apply nL);(·repeat first|(with_reducible exact eg)|(with_reducible apply ee)))):Gs L0 (Cw pQ 139 #[dL v,vg x] K):=by
 refine Gs.pk ?_ pk;refine sN Tryz.func139 ?_;unfold dL;refine au ?_;intro p;refine au ?_;intro q;refine au ?_;refine Fy C m.ord ?_;cases O:S.find x.acct x.num with
 |some y=>
  obtain⟨o,n⟩:=y;have g:S.cancel x=((fh (S.bk n) x.num).1,{jw with num:=x.num,left:=o.left},{S with bk:=eL S.bk n (fh (S.bk n) x.num).2.1}):=by unfold bo.cancel;rw[O]
  obtain⟨G,hoa,hon,d,hod,hfd⟩:=pM O;obtain⟨b,H⟩:=AP C (ry.1 G)
  dsimp only[PR,Pa]
  refine au ?_;intro r;refine au ?_;refine Gs.Ib (λ_=>?_) λh=>absurd (by simpa using h) (JB m G).1;refine au ?_;refine Gs.WX (Xn H) ?_;refine au ?_;refine tq H ?_;refine EB ?_;refine vz H ?_;rw[g]at z;refine au ?_;refine Gs.tdn (Gs.idn (Gs.uin ?_));have:=z (none,0) (none,0) (none,0) D (C.upb H) ⟨aJ _,aJ _,aJ _⟩
  dsimp only[List.length_nil,jw]at this
  exact this.fin
 |none=>
  have g:S.cancel x=match S.nums.findSome? (uq S.bd x.acct x.num)with
    |some (i,n)=>(0,{jw with num:=x.num,left:=((S.bd n).getD i nZ).left},{S with bd:=eL S.bd n ((S.bd n).eraseIdx i)})
    |none=>(7,jw,S):=by unfold bo.cancel;rw[O];rfl
  dsimp only[PR,Pa]
  refine au ?_;intro r;refine au ?_;refine I3 (λQ=>?_);refine Gs.mpN (enc:=eQ) (ev:=xk) (D:=D) (λU=>?_) (by repeat first|(with_reducible exact eg)|(with_reducible apply ee));refine Gs.rng qD (λit=>?_) (by repeat first|(with_reducible exact eg)|(with_reducible apply ee));refine Gs.fm (λp=>uq S.bd x.acct x.num p.1=none) (λX=>X::pt r (XR nZ) ji::pt q Nl qL::pt p (jO x) lZ::Nr v c l mb md S.next::nJ c S.cal::mi l S.led::No mb A::rG A S.bk::tU D S.bd::L) U ?_ (by repeat first|(with_reducible exact dV.refl)|((apply nL);(·repeat first|(with_reducible exact eg)|(with_reducible apply ee))));intro R c hR P KN J;refine Gs.z ?_;refine Gs.nxt (λZ=>?_) (λi y W=>?_) (by repeat first|(with_reducible exact eg)|(with_reducible apply ee))
  ·subst Z
   have t:S.nums.findSome? (uq S.bd x.acct x.num)=none:=by
    rw[List.findSome?_eq_none_iff];intro n hn;cases V:lk D n with
    |some s=>exact(P _ (xD V)).elim (λh=>by cases h) id
    |none=>unfold uq;rw[Q n V];rfl
   rw[t]at g;refine au ?_;exact z.fail g (D:=D) C
  obtain⟨n,s⟩:=y;have F:lk D n=some s:=sL U (hR _ (cX W));have N:kQ D n=s:=by unfold kQ;rw[F];rfl
  have E:(cg S.cal.l n).isSome=true:=C.dod _ (by rw[F];rfl);have Y:=m.ord.bdl n;refine au ?_;refine Gs.ent ?_ (by repeat first|(with_reducible exact eg)|(with_reducible apply ee))
  dsimp only[eQ,xk]
  refine au ?_;subst N;refine GT (os:=S.bd n) (f:=vh x.acct x.num) (pD n) (λw y=>VB (tG (by repeat first|(with_reducible exact eg)|(with_reducible apply ee)) y) _) qZ ?_;cases k:(S.bd n).findIdx? (vh x.acct x.num)with
  |none=>
   have e:qI (S.bd n) (vh x.acct x.num)= -1:=by unfold qI;rw[k]
   rw[e];refine au ?_;exact(J i _ W (by unfold uq;rw[k];rfl)).fin
  |some j=>
   obtain⟨u,hjp,-⟩:=bp.1 k;have e:qI (S.bd n) (vh x.acct x.num)=(j:Int):=by unfold qI;rw[k]
   have I:=Qy m.ord (ry.2 E) k;rw[I]at g
   dsimp only at g
   rw[show(S.bd n).getD j nZ=(S.bd n)[j] by simp[u]]at g;rw[e];refine Gs.mpo ?_ (by repeat first|(with_reducible exact eg)|(with_reducible apply ee));refine au ?_;refine Gs.itL (os:=S.bd n) (pD n) rfl u ?_;rw[g]at z;generalize(S.bd n)[j]=o at z|-;refine au ?_;refine wI (n:=n) ?_;rw[show(j:Int)+1=((j+1:Nat):Int) by omega];refine BW (mU j) u qZ (λT=>?_);rw[GY];refine au ?_;refine Gs.mup (enc:=eQ) (ev:=xk) (x:=n) (v:=T) qD kM ?_ (by repeat first|(with_reducible exact eg)|(with_reducible apply ee));refine A6 (n:=n) ?_;refine au ?_;refine Gs.tdn (Gs.idn (Gs.uin ?_));have:=z (none,0) (none,0) (none,0) _ (C.put (s:=T) E) ⟨aJ _,aJ _,aJ _⟩
   dsimp only[List.length_nil,jw]at this
   exact this.fin
def D9{x:Cm}(k:oB A D S.cal.l S.bk)(f:S.Ok)(i:x.Fit)
  (e:Gs (vs v c l mb md A D {S with led:=(S.led.withdraw x.acct x.amt).2} L) (K (gI (if(S.led.withdraw x.acct x.amt).1≠0 then(S.led.withdraw x.acct x.amt).1 else if(({S with led:=(S.led.withdraw x.acct x.amt).2}:bo).acc x.acct).dfl=true then 120 else({S with led:=(S.led.withdraw x.acct x.amt).2}:bo).bears x.acct))))(pk:dV L0 (vs v c l mb md A D S L):=by repeat first|(with_reducible exact dV.refl)|((apply nL);(·repeat first|(with_reducible exact eg)|(with_reducible apply ee)))):
  Gs L0 (Cw pQ 133 #[dL v,vg x] K):=by
 refine Gs.pk ?_ pk;refine sN Tryz.func133 ?_;unfold dL;have d:=yq f (n:=x.acct) (m:=x.amt);obtain⟨t,j,z,y,u,w,q,o,C⟩:=i;refine au ?_;intro p;refine au ?_;refine GR j ?_;generalize S.led.withdraw x.acct x.amt=Y at e d|-;refine au ?_;refine Gs.Ib (λh=>?_) λh=>?_
 ·rw[ae (by simpa using h)]at e;exact e.fin
 rw[aa (by simpa using h)]at e;refine Gs.jv (λr=>(.pointer (some ⟨r,0,none⟩),())) (Xq (({S with led:=Y.2}:bo).acc x.acct)) 100 (λJ g=>au ?_) λr=>?_
 ·refine Gs.An ?_ (au ?_)
  ·refine rq ?_;rw[nC {S with led:=Y.2}];refine au ?_;intro r;refine au ?_;exact(g r).fin
  ·intro r;refine au ?_;refine rq ?_;rw[nC {S with led:=Y.2}];refine au ?_;exact(g r).fin
 dsimp only
 refine Gs.z (au ?_);refine Gs.Ib (λh=>?_) λh=>?_
 ·rw[ae h]at e;exact e.fin
 rw[aa (by rw[h];decide)]at e;refine au ?_;exact yh (S:={S with led:=Y.2}) k d e.fin
def EW{k:Ct}{f t price qty:Int}{long:Bool}(g:kV k.spec.num)(d:Gs (vs v c l mb md A D {S with led:=(lO S.led k.spec.num f t long price qty).2} L) (K (gI (lO S.led k.spec.num f t long price qty).1)))(pk:dV L0 (vs v c l mb md A D S L):=by repeat first|(with_reducible exact dV.refl)|((apply nL);(·repeat first|(with_reducible exact eg)|(with_reducible apply ee)))):
  Gs L0 (Cw pQ 276 #[dL v,.agg (dD k).toArray,gU f,gU t,.bool long,gI price,gI qty] K):=by
 refine Gs.pk ?_ pk;refine sN Tryz.func276 ?_;unfold dL;unfold lO at d;refine au ?_;intro r;refine Gs.j1 (gU (if long then f else t),gU (if long then t else f),()) (λJ e=>?_) ?_
 ·cases long<;>exact au e
 dsimp only
 refine Gs.z (au ?_);cases long
 all_goals
  simp only[bj,cZ,da]at d|-;refine GZ g ?_;exact d.fin
end
end Go.Proofs
