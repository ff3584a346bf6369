/- The statement SessionRestores: for every input the law SessionRestores returns true, and its arguments read as they did. Conditions: none. -/
import Derived.Test.YtekbnpagidkbbaaGreatRows
import Derived.WalkKit
import Derived.ProofKit
import Derived.OpenShut
import Derived.Test.YtekbnpagidkbbaaGreatT28
set_option linter.all false
set_option maxRecDepth 100000
set_option maxHeartbeats 4000000
namespace Go.Proofs
open Go Go.Vc
def bnd:Nat->List Tn->Nat
 |k,[]=>k
 |_,o::r=>bnd (o.c+1) r
def H3{o:Tn}:∀{r:List Tn} {k:Nat},bnd k (r++[o])=o.c+1
 | [],_=>rfl
 |p::r,_=>H3 (r:=r) (k:=p.c+1)
def FU{o:Tn}:∀{r:List Tn} {k:Nat},wu k (r++[o])↔wu k r/\bnd k r<=o.c/\o.c<64/\o.q≠0
 | [],k=>⟨λh=>⟨trivial,h.1,h.2.1,h.2.2.1⟩,λh=>⟨h.2.1,h.2.2.1,h.2.2.2,trivial⟩⟩
 |p::r,k=>by
  show(k<=p.c/\p.c<64/\p.q≠0/\wu (p.c+1) (r++[o]))↔(k<=p.c/\p.c<64/\p.q≠0/\wu (p.c+1) r)/\bnd (p.c+1) r<=o.c/\o.c<64/\o.q≠0;rw[FU];simp only[and_assoc]
instance wu.dec:∀(k:Nat) (r:List Tn),Decidable (wu k r)
 |_,[]=>isTrue trivial
 |k,o::r=>have:=wu.dec (o.c+1) r;inferInstanceAs (Decidable (_/\_/\_/\_))
def rD(A Q:List Int)(R:List (Value×List UInt8)):List Tn:=((A.zip Q).zip R).map λz=>⟨z.1.1.toNat,z.1.2.toNat,z.2.2⟩
def SF{A Q:List Int}{R:List (Value×List UInt8)}{i:Nat}(h:i<(rD A Q R).length):∃(b:i<A.length) (a:i<Q.length) (c:i<R.length),(rD A Q R)[i]=⟨A[i].toNat,Q[i].toNat,R[i].2⟩:=by
 unfold rD at h;rw[af,List.length_zip,List.length_zip]at h;exact⟨qZ,qZ,qZ,by simp[rD]⟩
def Sz{A Q:List Int}{R:List (Value×List UInt8)}{i:Nat}(h:i<(rD A Q R).length):wu 0 ((rD A Q R).take (i+1))↔wu 0 ((rD A Q R).take i)/\(rD A Q R)[i].c<64/\(rD A Q R)[i].q≠0/\(i=0\/(rD A Q R)[i - 1].c<(rD A Q R)[i].c):=by
 rw[List.take_succ,ao h,Option.toList_some,FU];cases i with
 |zero=>simp[bnd]
 |succ i=>
  rw[List.take_succ,ao (by omega:i<_),Option.toList_some,H3];simp only[gm,Nat.add_one_ne_zero,false_or];exact⟨λ⟨a,b,c,d⟩=>⟨a,c,d,b⟩,λ⟨a,b,c,d⟩=>⟨a,d,b,c⟩⟩
def Vx{L:List As}:Sb L []:=⟨λw F _=>⟨λ_=>False,λ_ h=>h,λ_ h=>h.elim⟩⟩
def BE:Tryz.prog.underlying 22=some (.slice 28):=cH
def nBs:Tryz.prog.cellsOf 28=0+1:=cH
def Vi(c:Value×List UInt8):List Value:=[c.1]
def ZL(x:Value×List UInt8)(w:Wt_)(b off:Nat)(h:At w b off (Vi x)):(iL 28 (cU b off)).run pQ w=.ok x.1 w:=by
 obtain⟨C,e,d,hC,c⟩:=h.get;have a:=c 0 x.1 rfl;simp only[bM]at a;simp[go_sem,cO hC,a]
section
variable{L M:List As}{K:Value->WP}{w0:Wt_}{s t u x y:Vt_}{C R:List (Value×List UInt8)}{A Q:List Int}{tl:List UInt8}
def BV(hC:Rd w0 1 s C.length (C.flatMap Vi))(fC:∀c∈C,Rd w0 1 c.1 c.2.length (bv c.2))(hA:Rd w0 1 t A.length (A.flatMap oy))(hQ:Rd w0 1 u Q.length (Q.flatMap oy))(uA:∀a∈A,sB a)(uQ:∀a∈Q,sB a)
  (hR:Rd w0 1 x R.length (R.flatMap Vi))(fR:∀c∈R,Rd w0 1 c.1 c.2.length (bv c.2))(hT:Rd w0 1 y tl.length (bv tl))(hK:Gs [uu w0 λ_=>False] (K (.bool true))):
  Gs [uu w0 λ_=>False] (Cw pQ 6 #[s,t,u,x,y] K):=by
 have rd:∀{L:List As} {sz v n cs} {M},Rd w0 sz v n cs->bL L (uu w0 (λ_=>False)::M)->∀w,Ss w L->Rd w sz v n cs:=λh p w z=>h.mod (WN p w z) eI;have E:∀{L:List As} {M},bL L (uu w0 (λ_=>False)::M)->Gs L (Cw pQ 21 #[] K):=λp=>Ki (Gs.fin hK (.pick p Vx));refine sN Tryz.func6 ?_;refine Gs.j1 (.bool (decide (10<C.length\/20<A.length\/20<Q.length\/20<R.length\/3000<tl.length)),()) (λJ q=>?_) ?_
 ·have O:(10<C.length\/20<A.length\/20<Q.length\/20<R.length\/3000<tl.length)->Gs [uu w0 λ_=>False] (J (.bool true,())):=λh=>by rw[aA h]at q;exact q
  refine Gs.len BE (rd hC (by repeat first|(with_reducible exact cF)|(with_reducible apply cS))) ?_;refine au ?_;refine Gs.I (λh=>O qZ) λh1=>?_;refine Gs.len qY (rd hA (by repeat first|(with_reducible exact cF)|(with_reducible apply cS))) ?_;refine au ?_;refine Gs.I (λh=>O qZ) λh2=>?_;refine Gs.len qY (rd hQ (by repeat first|(with_reducible exact cF)|(with_reducible apply cS))) ?_;refine au ?_;refine Gs.I (λh=>O qZ) λh3=>?_;refine Gs.len BE (rd hR (by repeat first|(with_reducible exact cF)|(with_reducible apply cS))) ?_;refine au ?_;refine Gs.I (λh=>O qZ) λh4=>?_;refine Gs.len vE (rd hT (by repeat first|(with_reducible exact cF)|(with_reducible apply cS))) ?_;refine au ?_;have e:decide (10<C.length\/20<A.length\/20<Q.length\/20<R.length\/3000<tl.length)=decide ((3000:Int)<tl.length):=by rw[bT,ax,ax];omega
  rw[e]at q;exact q
 refine Gs.z ?_;refine Gs.I (λh=>E cF) λh0=>?_;refine RD λv=>?_;refine Gs.l (λx:Nat×ba=>(Value.bool false,Value.int .i64 x.1,())) (C.length - ·.1) (λx=>nB v x.2::[uu w0 λ_=>False]) (λx=>x.1<=C.length/\x.2.Ok/\ut x.2) (0,ba.empty) rfl ⟨aw _,R1,TQ⟩ ?_ .refl;rintro⟨i,S⟩ ⟨hi,r,hx⟩ K1 G
 dsimp only at hi r hx G|-
 refine Gs.z ?_;refine Gs.len BE (rd hC (by repeat first|(with_reducible exact cF)|(with_reducible apply cS))) ?_;refine au ?_;refine Gs.I (λh=>?_) λh=>?_
 ·have D:i<C.length:=qZ;have W:∀{L:List As} {M} {k:Value->WP},Gs L (k C[i].1)->bL L (uu w0 (λ_=>False)::M)->Gs L (Vw pQ (iX 22 s (gI (i:Int))) λp=>Vw pQ (iL 28 p) k):=λh p=>Gs.it (f:=Vi) BE nBs (λ_=>rfl) ZL (rd hC p) rfl D h;have V:=fC _ (ar D);refine W ?_ (by repeat first|(with_reducible exact cF)|(with_reducible apply cS));refine Gs.len vE (rd V (by repeat first|(with_reducible exact cF)|(with_reducible apply cS))) ?_;refine au ?_;refine Gs.I (λh=>E (by repeat first|(with_reducible exact cF)|(with_reducible apply cS))) λh=>?_;refine W ?_ (by repeat first|(with_reducible exact cF)|(with_reducible apply cS));refine Yh r (By.frz V qZ) λt=>?_;have hd:=PQ (l:=C[i].2) r;refine au ?_;exact(G (i+1,(Eo S C[i].2).2) ⟨D,hd.1,hd.2.1 hx⟩ (by dsimp only;omega)).fin
 ·clear G;refine Gs.len qY (rd hA (by repeat first|(with_reducible exact cF)|(with_reducible apply cS))) ?_;refine Gs.j1 (gI (min A.length Q.length:Nat),()) (λJ q=>?_) ?_
  ·refine Gs.len qY (rd hQ (by repeat first|(with_reducible exact cF)|(with_reducible apply cS))) ?_;refine au ?_;refine Gs.I (λh=>?_) λh=>?_
   ·refine Gs.len qY (rd hQ (by repeat first|(with_reducible exact cF)|(with_reducible apply cS))) ?_;rw[Nat.min_eq_right qZ]at q;exact q
   ·rw[cV qZ]at q;exact q
  refine Gs.z ?_;have hnr:(rD A Q R).length=min (min A.length Q.length) R.length:=by simp[rD]
  refine Gs.j1 (gI ((rD A Q R).length:Nat),()) (λJ q=>?_) ?_
  ·rw[hnr]at q;refine Gs.len BE (rd hR (by repeat first|(with_reducible exact cF)|(with_reducible apply cS))) ?_;refine au ?_;refine Gs.I (λh=>?_) λh=>?_
   ·refine Gs.len BE (rd hR (by repeat first|(with_reducible exact cF)|(with_reducible apply cS))) ?_;rw[Nat.min_eq_right qZ]at q;exact q
   ·rw[cV qZ]at q;exact q
  have hn20:(rD A Q R).length<=20:=qZ;refine Gs.z ?_;have h8:=A7 (qP r) (wV r);refine PC r λsv=>?_;refine HI (b:=lH S.state) (By.own qZ) λs5=>?_;refine au ?_;refine Ax _ qZ λs6=>?_
  have ht9:(fT (lH S.state)).length<=200000000:=by
   have h2:=fi (n:=(lH S.state).length) qZ;simp only[ad,fT];omega
  have hn10:=fi (n:=(rD A Q R).length) qZ;refine Gs.cat8 (l:=fT (lH S.state)) (b:=eF (rD A Q R).length) (λs7=>?_) (By.own qZ) qZ (by repeat first|(with_reducible exact cF)|(with_reducible apply cS)) (by repeat first|(with_reducible exact cF)|(with_reducible apply cS));refine Gs.len vE (rd hT (by repeat first|(with_reducible exact cF)|(with_reducible apply cS))) ?_
  have e0:((tl.length:Int)==0)=decide (tl=[]):=by
   cases tl with
   |nil=>rfl
   |cons a l=>rw[aG (by simp),beq_eq_false_iff_ne,aR];omega
  refine Gs.V (v:=.bool (decide (tl=[]/\wu 0 ((rD A Q R).take 0)))) (λw _=>by simp[go_sem,wu,e0]) ?_;generalize H:fT (lH S.state)++eF (rD A Q R).length=d;have hp9:d.length<=300000000:=by rw[<-H,ad];omega
  refine Gs.fin (M:=ju s7 d::nB v S::[uu w0 λ_=>False]) ?_
  dsimp only
  refine Gs.l (λx:Nat×Value=>(Value.bool false,x.2,Value.bool (decide (tl=[]/\wu 0 ((rD A Q R).take x.1))),Value.int .i64 x.1,())) ((rD A Q R).length - ·.1) (λx=>ju x.2 (d++((rD A Q R).take x.1).flatMap fl)::nB v S::[uu w0 λ_=>False]) (λx=>x.1<=(rD A Q R).length/\∀o∈(rD A Q R).take x.1,JJ o) (0,s7) rfl ⟨aw _,by simp⟩ ?_ (by simp only[bS,bo,aC];exact .refl);rintro⟨j,b⟩ ⟨hj,T⟩ K1 G
  dsimp only at hj T G|-
  refine Gs.z (au ?_);refine Gs.I (λhl=>?_) λhl=>?_
  ·have D:j<(rD A Q R).length:=qZ;obtain⟨h1,h2,h3,ho⟩:=SF D;have N:=Sz D;have htk:(rD A Q R).take (j+1)=(rD A Q R).take j++[(rD A Q R)[j]]:=by rw[List.take_succ,ao D,Option.toList_some]
   have itA:∀{L:List As} {M} {k:Value->WP},Gs L (k (gQ A[j]))->bL L (uu w0 (λ_=>False)::M)->Gs L (Vw pQ (iX 39 t (gI (j:Int))) λp=>Vw pQ (iL 37 p) k):=λh p=>Gs.it qY Kx (λ_=>rfl) Bj (rd hA p) rfl h1 h;have itQ:∀{L:List As} {M} {k:Value->WP},Gs L (k (gQ Q[j]))->bL L (uu w0 (λ_=>False)::M)->Gs L (Vw pQ (iX 39 u (gI (j:Int))) λp=>Vw pQ (iL 37 p) k):=λh p=>Gs.it qY Kx (λ_=>rfl) Bj (rd hQ p) rfl h2 h;have itR:∀{L:List As} {M} {k:Value->WP},Gs L (k R[j].1)->bL L (uu w0 (λ_=>False)::M)->Gs L (Vw pQ (iX 22 x (gI (j:Int))) λp=>Vw pQ (iL 28 p) k):=λh p=>Gs.it (f:=Vi) BE nBs (λ_=>rfl) ZL (rd hR p) rfl h3 h;have P:∀(m:Nat) (I:m<A.length) {L:List As} {M} {k:Value->WP},Gs L (k (gQ A[m]))->bL L (uu w0 (λ_=>False)::M)->Gs L (Pw pQ (iX 39 t (gI (m:Int))) λp=>Ww pQ (iL 37 p) k):=λm I {L M k} h p=>Gs.itP qY Kx (λ_=>rfl) Bj (rd hA p) rfl I h;have ipQ:∀{L:List As} {M} {k:Value->WP},Gs L (k (gQ Q[j]))->bL L (uu w0 (λ_=>False)::M)->Gs L (Pw pQ (iX 39 u (gI (j:Int))) λp=>Ww pQ (iL 37 p) k):=λh p=>Gs.itP qY Kx (λ_=>rfl) Bj (rd hQ p) rfl h2 h;have V:=fR _ (ar h3);have ua:=uA _ (ar h1);have uq:=uQ _ (ar h2);have ea:A[j]=((A[j].toNat:Nat):Int):=(Int.toNat_of_nonneg ua.1).symm;have eq:Q[j]=((Q[j].toNat:Nat):Int):=(Int.toNat_of_nonneg uq.1).symm;have hf40:=wD T;have hl20:((rD A Q R).take j).length<=20:=by rw[av];omega
   have hacc:(d++((rD A Q R).take j).flatMap fl).length<=400000000:=by rw[ad];omega
   refine Gs.j (λb:Value=>(Value.bool (decide (tl=[]/\wu 0 ((rD A Q R).take (j+1)))),b,Value.bool false,())) (λb=>ju b (d++((rD A Q R).take (j+1)).flatMap fl)::nB v S::[uu w0 λ_=>False]) (λ_=>R[j].2.length<=3000) (λJ q=>?_) ?_
   ·refine itR ?_ (by repeat first|(with_reducible exact cF)|(with_reducible apply cS));refine Gs.len vE (rd V (by repeat first|(with_reducible exact cF)|(with_reducible apply cS))) ?_;refine au ?_;refine Gs.I (λh=>E (by repeat first|(with_reducible exact cF)|(with_reducible apply cS))) λh=>?_;have U:R[j].2.length<=3000:=qZ;have q:=λb (g:Bool) (e:g=decide (tl=[]/\wu 0 ((rD A Q R).take (j+1))))=>e▸q b U;have a10:=fi (n:=A[j].toNat) (by have:=ua.2;omega);have q10:=fi (n:=Q[j].toNat) (by have:=uq.2;omega);have l10:=fi (n:=R[j].2.length) qZ;have e9:(fT R[j].2).length<=3100:=by simp only[ad,fT];omega
    refine itA ?_ (by repeat first|(with_reducible exact cF)|(with_reducible apply cS))
    conv in Cw _ 24 _=>rw[ea]
    refine Ax _ (by have:=ua.2;omega) λt1=>?_;refine Gs.cat8 (l:=d++((rD A Q R).take j).flatMap fl) (b:=eF A[j].toNat) (λb1=>?_) (By.own qZ) qZ (by repeat first|(with_reducible exact cF)|(with_reducible apply cS)) (by repeat first|(with_reducible exact cF)|(with_reducible apply cS));refine itQ ?_ (by repeat first|(with_reducible exact cF)|(with_reducible apply cS))
    conv in Cw _ 24 _=>rw[eq]
    refine Ax _ (by have:=uq.2;omega) λt2=>?_;refine Gs.cat8 (l:=d++((rD A Q R).take j).flatMap fl++eF A[j].toNat) (b:=eF Q[j].toNat) (λb2=>?_) (By.own qZ) (by rw[ad];omega) (by repeat first|(with_reducible exact cF)|(with_reducible apply cS)) (by repeat first|(with_reducible exact cF)|(with_reducible apply cS));refine itR ?_ (by repeat first|(with_reducible exact cF)|(with_reducible apply cS));refine HI (b:=R[j].2) (By.frz V qZ) (λt3=>?_) (by repeat first|(with_reducible exact cF)|(with_reducible apply cS));refine Gs.cat8 (l:=d++((rD A Q R).take j).flatMap fl++eF A[j].toNat++eF Q[j].toNat) (b:=fT R[j].2) (λb3=>?_) (By.own qZ) (by rw[ad,ad];omega) (by repeat first|(with_reducible exact cF)|(with_reducible apply cS)) (by repeat first|(with_reducible exact cF)|(with_reducible apply cS));have hbe:d++((rD A Q R).take j).flatMap fl++eF A[j].toNat++eF Q[j].toNat++fT R[j].2=d++((rD A Q R).take (j+1)).flatMap fl:=by rw[htk,bD,ho];simp[fl]
    rw[hbe];replace q:=λg e=>q b3 g e;refine Gs.fin (M:=ju b3 (d++((rD A Q R).take (j+1)).flatMap fl)::nB v S::[uu w0 λ_=>False]) ?_;rw[ho]at N
    dsimp only at N
    refine Gs.D ?_;by_cases hr:tl=[]/\wu 0 ((rD A Q R).take j)
    ·rw[aA hr];refine Gs.It ?_;have Y:(tl=[]/\wu 0 ((rD A Q R).take (j+1)))↔A[j].toNat<64/\Q[j].toNat≠0/\(j=0\/(rD A Q R)[j - 1].c<A[j].toNat):=by rw[N];exact⟨λh=>h.2.2,λh=>⟨hr.1,hr.2,h⟩⟩
     rw[bT.2 ((decide_eq_true_iff.trans Y).trans decide_eq_true_iff.symm)]at q;have ua0:=ua.1;have uq0:=uq.1;refine P j h1 ?_ (by repeat first|(with_reducible exact cF)|(with_reducible apply cS));refine au ?_;refine Gs.I (λh64=>?_) λh64=>q false (aG qZ).symm;refine ipQ ?_ (by repeat first|(with_reducible exact cF)|(with_reducible apply cS));refine au ?_;refine Gs.Ib (λhq=>?_) λhq=>q false (aG λh=>by simp at hq;omega).symm;have hq' :Q[j]≠0:=by simpa using hq
     refine au ?_;refine Gs.Ib (λX=>q true (aA ⟨qZ,qZ,.inl (by simp at X;omega)⟩).symm) λX=>?_;have hz' :j≠0:=by simpa using X
     obtain⟨g1,g2,g3,g4⟩:=SF (A:=A) (Q:=Q) (R:=R) (i:=j - 1) qZ;rw[g4]at q
     dsimp only at q
     have ug0:=(uA _ (ar g1)).1;refine P j h1 ?_ (by repeat first|(with_reducible exact cF)|(with_reducible apply cS));refine Gs.Pu (v:=gI ((j - 1:Nat):Int)) (λw=>by simp[go_sem];rw[ie qZ qZ];omega) ?_;refine P (j - 1) g1 ?_ (by repeat first|(with_reducible exact cF)|(with_reducible apply cS));refine au ?_;refine q _ ?_;rw[bT,ax,ax];omega
    ·rw[aG hr];exact Gs.If (q false (aG λh=>hr ⟨h.1,(N.1 h.2).1⟩).symm)
   ·intro b1 U
    dsimp only
    refine Gs.z (au ?_);refine(G (j+1,b1) ⟨D,λo I=>?_⟩ (by dsimp only;omega)).fin
    dsimp only at I
    rw[htk]at I;rcases aN.1 I with I|I
    ·exact T o I
    ·rw[bX.1 I,ho];exact⟨by have:=ua.2;dsimp only;omega,by have:=uq.2;dsimp only;omega,U⟩
  ·rw[ay qZ]at T|-;have hf40:=wD T;refine Gs.cat8 (B:=uu w0 λ_=>False) (l:=d++(rD A Q R).flatMap fl) (b:=tl) (λb1=>?_) (By.frz hT qZ) (by rw[ad];omega) (by repeat first|(with_reducible exact cF)|(with_reducible apply cS)) (by repeat first|(with_reducible exact cF)|(with_reducible apply cS));have str:∀{L:List As} {M} {s l},bL L (ju s l::M)->∀w,Ss w L->(sn 28 9 s).run pQ w=.ok (.string (qy l)) w:=λp w z=>(fg p z).elim λF o=>DL vE cH cH o.1.rd;refine I3 (l:=d++(rD A Q R).flatMap fl++tl) r hx (tail:=tl) (rows:=rD A Q R) (by rw[<-H];simp) hn20 (by rw[ad,ad];omega) T (λhg ht v' m mm Z hZ=>?_) λhbad=>?_
   ·rw[aA ⟨ht,hg⟩];refine au ?_;refine Gs.WX (str (by repeat first|(with_reducible exact cF)|(with_reducible apply cS))) ?_;refine OY r (hZ▸hg) (by have:=dP List.length hZ;simp at this;omega) (λz X=>T _ (hZ▸aD.2 ⟨z,X,rfl⟩)) λs9=>?_;refine Gs.E (str (by repeat first|(with_reducible exact cF)|(with_reducible apply cS))) ?_;refine Gs.WX (str (by repeat first|(with_reducible exact cF)|(with_reducible apply cS))) ?_
    have el:fT (lH S.state)++eF Z.length++(Z.map (·.1)).flatMap fl=d++(rD A Q R).flatMap fl++tl:=by
     rw[hZ,ht,aC,<-H,<-hZ,af]
    rw[el];refine Gs.Pu (v:=.bool true) (λw=>by simp[go_sem]) (Gs.It (E (by repeat first|(with_reducible exact cF)|(with_reducible apply cS))))
   ·rw[aG λh=>hbad ⟨h.2,h.1⟩];refine au ?_;exact E (by repeat first|(with_reducible exact cF)|(with_reducible apply cS))
end
end Go.Proofs
namespace Go.Proofs
open Go Go.Vc
def Ck{w:Wt_}{K:be}{s t u x y:Vt_}{C R:List (Value×List UInt8)}{A Q:List Int}{e:List UInt8}(hC:Rd w 1 s C.length (C.flatMap Vi)/\∀c∈C,Rd w 1 c.1 c.2.length (bv c.2))(g:Rd w 1 t A.length (A.flatMap oy)/\∀a∈A,sB a)(f:Rd w 1 u Q.length (Q.flatMap oy)/\∀a∈Q,sB a)
  (i:Rd w 1 x R.length (R.flatMap Vi)/\∀c∈R,Rd w 1 c.1 c.2.length (bv c.2))(j:Rd w 1 y e.length (bv e))(k:∀d,M0 w d->K (.bool true) d):Ca pQ 6 #[s,t,u,x,y] w K:=
 (BV (K:=K) hC.1 hC.2 g.1 f.1 g.2 f.2 i.1 i.2 j ⟨λd y=>k d (WN (by repeat first|(with_reducible exact cF)|(with_reducible apply cS)) d y)⟩).go w ⟨_,_,λ_=>False,⟨λ_=>aI,bn.refl _ _⟩,λ_ h=>h,eI,λb=>(or_iff_left id).symm⟩
end Go.Proofs
namespace Go.Proofs.YtekbnpagidkbbaaGreat
open Go Go.Vc Go.Proofs Go.ChangeShapes Go.WideShapes Go.ChangeAt Go.RowKit
def own:ownKnob Tryz.prog.godebug=none:=cH
def laidOut:laidOutB pQ=true:=cH
def list_choose{α β:Type}{f:β->α}{Q:β->Prop}:∀{L:List α},(∀c∈L,∃o,c=f o/\Q o)->∃l:List β,L=l.map f/\∀o∈l,Q o
 | [],_=>⟨[],rfl,by simp⟩
 |c::L,h=>by
  obtain⟨o,rfl,b⟩:=h c ai;obtain⟨l,rfl,d⟩:=list_choose λc e=>h c (ae _ e);exact⟨o::l,rfl,λx a=>by rcases aq.1 a with rfl|a;exact b;exact d x a⟩
def wfQ{n:Int}(h:(Lit.int .u64 n).wf=true):sB n:=by
 simp[Lit.wf,IntKind.min,IntKind.max,IntKind.signed,IntKind.bits]at h;exact⟨qZ,qZ⟩
variable{H:Type}{enc:TypeId×Value->H}{w:Wt_}{v0:Vt_}{d0:DataW H}{p0:List MemPlace}{base:Nat}
def open_qs(a:Value.okWide pQ w .any base 39 v0)(e:DataW.Trod enc pQ w 0 (λ_=>true) true 39 v0 d0 p0):∃l:List Int,Rd w 1 v0 l.length (l.flatMap oy)/\∀x∈l,sB x:=by
 obtain⟨b,d,c⟩:=LR qY Tryz.underlying37 cH a e;exact⟨b,by rw[show b.flatMap oy=b.map λx=>gQ x from(List.map_eq_flatMap ..).symm];exact d,λx f=>wfQ (c x f)⟩
def open_bss(a:Value.okWide pQ w .any base 22 v0)(b:DataW.Trod enc pQ w 0 (λ_=>true) true 22 v0 d0 p0)(p:Wt pQ reachBytes 22 d0):
  ∃l:List (Value×List UInt8),Rd w 1 v0 l.length (l.flatMap Vi)/\∀x∈l,Rd w 1 x.1 x.2.length (bv x.2):=by
 have d:v0.cells.toList=[v0]:=by
  unfold Value.okWide at a;rw[BE]at a;simp only[Cell.okWide,BE]at a;unfold Cell.ok at a;rw[BE]at a;cases v0<;>first|rfl|exact a.elim
 obtain⟨j,b⟩:=b;rw[d]at b;obtain⟨v,e,L,i,-,n⟩:=Vs (sz:=1) BE cH qZ b p;cases e
 obtain⟨l,rfl,h⟩:=list_choose (f:=Vi) (Q:=λx=>Rd w 1 x.1 x.2.length (bv x.2)) λc q=>by
  obtain⟨r,s,y,m,t⟩:=n c q;obtain⟨k,rfl,o,g⟩:=P8 vE Tryz.underlying5 cH m;exact⟨(k,o),rfl,g⟩
 rw[af,<-List.flatMap_def]at i;exact⟨l,i,h⟩
end Go.Proofs.YtekbnpagidkbbaaGreat
namespace Go.Proofs.YtekbnpagidkbbaaGreat.sessionRestores
open Go Go.Vc Go.Proofs Go.ChangeShapes Go.WideShapes Go.ChangeAt Go.RowKit
def lifted(os:Os)(c:os.Started)(H:Type)(enc:TypeId×Value->H):
  ReturnsInHanded {} Tryz.checked os 6 .any (Rows.sessionRestoresSpec.pre6 enc pQ Tryz.f6 Rows.sessionRestoresRow.domain false) (Rows.sessionRestoresSpec.post enc pQ Tryz.f6 false true false false):=by
 refine returnsInHanded_of_change_sized (C:=Tryz.checked) own c cH Tryz.func6
  (ChangeSpec.witness6 (enc:=enc) (C:=Tryz.checked) false ⟨#[],#[.slice none 0 0,.slice none 0 0,.slice none 0 0,.slice none 0 0,.slice none 0 0],[]⟩ 8 cH cH cH cH) ?_
 intro W i b ds N l d J B k _;have a:∀(j:Nat) t v,Tryz.f6.params[j]? =some t->b[j]? =some v->Value.okWide pQ W .any i t v:=d;have g:(DataW.weightsEach pQ (Tryz.f6.params.toList++[]) (ds++N)).all (·<=reachBytes)=true:=k;have x:=J;obtain⟨p,q,h,hV,rfl,T,hnd⟩:=J;have E:DataW.TrodAll enc pQ W 0 (λ_=>true) true Tryz.f6.params.toList b.toList ds p:=h;rw[Tryz.params6]at E a g;obtain⟨v0,Q,O,M,p0,q0,s,rfl,rfl,h0,r0⟩:=trodAll_cons E;obtain⟨A,L,d1,Z,p1,q1,rfl,rfl,rfl,h1,r1⟩:=trodAll_cons r0;obtain⟨G,vs2,d2,R,p2,q2,rfl,rfl,rfl,V,r2⟩:=trodAll_cons r1;obtain⟨D,vs3,d3,S,p3,q3,rfl,rfl,rfl,P,U⟩:=trodAll_cons r2;obtain⟨F,X,d4,ds4,p4,q4,rfl,rfl,rfl,Y,r4⟩:=trodAll_cons U;obtain⟨rfl,rfl,rfl⟩:=trodAll_nil r4;obtain rfl:b= #[v0,A,G,D,F]:=by cases b;simp_all
 obtain⟨rfl,rfl⟩:=trodVars_none hV
 have y:Wt pQ reachBytes 22 O:=by
  intro m f;have:=aW.1 g m (by simp only[aC,ej,cX,DataW.weightsEach,aN];first|exact .inl f|exact .inl f);simpa using this
 have r:Wt pQ reachBytes 22 d3:=by
  intro m f;have:=aW.1 g m (by simp only[aC,ej,cX,DataW.weightsEach,aN];first|exact .inr (.inr (.inr (.inl f)))|exact .inr (.inr (.inr (.inl f))));simpa using this
 obtain⟨l0,n⟩:=open_bss (a 0 22 v0 rfl rfl) h0 y;obtain⟨l1,o⟩:=open_qs (a 1 39 A rfl rfl) h1;obtain⟨l2,w⟩:=open_qs (a 2 39 G rfl rfl) V;obtain⟨l3,u⟩:=open_bss (a 3 22 D rfl rfl) P r;obtain⟨b4,z⟩:=U2 Tryz.underlying28 Tryz.underlying5 cH (a 4 28 F rfl rfl) Y;clear h d;refine jr (Ck (K:=λv I=>v=.bool true/\M0 W I) n o w u z λI f=>⟨rfl,f⟩).out ?_;rintro e W' ⟨v,rfl,rfl,f⟩;exact⟨_,rfl,Iy laidOut cH rfl x f cH Tryz.underlying4 rfl⟩
abbrev zRw:=Rows.sessionRestoresRow
abbrev Ay:=Rows.sessionRestoresSpec
noncomputable abbrev zVt:=Tryz.f6.params.toList++Ay.plain.varTypes pQ
def k0:zRw.wf (OpenSpec.ofChange Ay):=cH
def k1:laidOutB pQ:=cH
def k2:mapsRowed pQ:=cH
def k3:Tryz.f6.params.all (Tryz.prog.readableRec ·):=cH
def k4:namedTie pQ zRw.named Ay.vars:=cH
def k5:zRw.stops== []:=cH
def k6:Tryz.prog.stops== []:=cH
def k7:zRw.knobs== []:=cH
def k8:Tryz.prog.stopKnobs== []:=cH
def k9:zRw.inPlace==Tryz.prog.inPlace 6:=cH
def k10:zRw.unfollowed==Tryz.prog.unfollowed 6:=cH
def k11:zRw.recurses==Tryz.prog.recurses 6:=cH
def k12:zRw.named==Tryz.prog.varsNamed 6:=cH
def k13:zRw.maps==zVt.any (Tryz.prog.mapsRec ·):=cH
def k14:zRw.ifaces==zVt.any (Tryz.prog.ifacesRec ·):=cH
def k15:zRw.mapsOut==Tryz.prog.mapsAmong Tryz.f6.resultTypes.toList:=cH
def k16:zRw.loops==zVt.any (Tryz.prog.loopsFrom ·):=cH
def k17:zRw.wideKeys==(zVt++Tryz.f6.resultTypes.toList).any (Tryz.prog.wideKeysFrom ·):=cH
def k18:Ay.vars.all (Tryz.prog.varReadable ·):=cH
def k19:Tryz.f6.resultTypes.all (λt=>Tryz.prog.readableRec t&& decide (t<Tryz.prog.types.size)):=cH
def k20:zRw.ifacesOut==Tryz.f6.resultTypes.toList.any (Tryz.prog.ifacesRec ·):=cH
def k21:zRw.loopsOut==Tryz.f6.resultTypes.toList.any (Tryz.prog.loopsFrom ·):=cH
def k22:zRw.plainKeys==Tryz.prog.plainKeys:=cH
def k23:zRw.shortTexts.isNone:=cH
def k24:Tryz.prog.stopsHeard:=cH
def k25:Tryz.prog.mayEnter:=cH
def k26:zRw.lifted==Tryz.prog.liftsFinal:=cH
def k27:Tryz.prog.make==some zRw.make:=cH
def k28:zRw.kinds==(if zRw.domain.isEmpty then []else Tryz.f6.params.toList.map λt=>match Tryz.prog.underlying t with|some (.int k)=>some k|_=>none):=cH
def k29:zRw.pinned==zRw.pinnedBy:=cH
def k30:zRw.veiled==(zVt++Tryz.f6.resultTypes.toList).any (Tryz.prog.veiledRec ·):=cH
def k31:zRw.veiledFits pQ Tryz.f6.params.toList (zVt++Tryz.f6.resultTypes.toList):=cH
def closed:joinedFacts pQ 6 Tryz.f6 Rows.sessionRestoresSpec Rows.sessionRestoresRow=true:=by
 unfold joinedFacts;simp only[ah];exact⟨⟨⟨⟨⟨⟨⟨⟨⟨⟨⟨⟨⟨⟨⟨⟨⟨⟨⟨⟨⟨⟨⟨⟨⟨⟨⟨⟨⟨⟨⟨k0,k1⟩,k2⟩,k3⟩,k4⟩,k5⟩,k6⟩,k7⟩,k8⟩,k9⟩,k10⟩,k11⟩,k12⟩,k13⟩,k14⟩,k15⟩,k16⟩,k17⟩,k18⟩,k19⟩,k20⟩,k21⟩,k22⟩,k23⟩,k24⟩,k25⟩,k26⟩,k27⟩,k28⟩,k29⟩,k30⟩,k31⟩
theorem holds:Rows.SessionRestoresSaid:=
 OpenClaim.holds_of_wide 6 Tryz.f6 rfl rfl rfl rfl rfl rfl rfl ⟨rfl,rfl,rfl,rfl,rfl⟩ rfl rfl rfl rfl rfl cH Tryz.func6 closed
  (bz cH) (by unfold Func.isWrapper;first|(rw[ab (by decide+kernel)];kernel_rfl)|(rw[aa (by decide+kernel)];exact⟨rfl,rfl⟩))
  (λos a H b _=>lifted os a H b)
end Go.Proofs.YtekbnpagidkbbaaGreat.sessionRestores
