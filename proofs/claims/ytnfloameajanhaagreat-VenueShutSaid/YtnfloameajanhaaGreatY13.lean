/- Part of a proof. -/
import Derived.Test.YtnfloameajanhaaGreatY12
set_option linter.all false
namespace Go.Proofs
open Go Go.Vc
attribute [local congr] cR
variable {c l mb md:Nat}{r:Rp}{sT sG sA:Vt_}{w W:Wt_}{K:cG}
def Dc:Tryz.prog.underlying 35=some (.map 23 100):=cU
def xn:Tryz.prog.underlying 36=some (.map 23 95):=cU
def XM:qw pQ 100=some (.pointer none):=cU
def O9:qw pQ 95=some dv:=cU
section
variable{v c l mb md:Nat}{n:Int}
abbrev xg(W:Wt_)(v c l mb md:Nat)(n:Int):Prop:=hC W v #[iZ c,iG l,.map (some mb),.map (some md),gQ n] vy
def EQ(W:Wt_)(h:xg W v c l mb md n):(iL 33 (pt v 0)).run pQ W=.ok (iZ c) W:=by simp[go_sem,h,iZ]
def ld1(W:Wt_)(h:xg W v c l mb md n):(iL 34 (pt v 1)).run pQ W=.ok (iG l) W:=by simp[go_sem,h,iG]
def IL(W:Wt_)(h:xg W v c l mb md n):(iL 35 (pt v 2)).run pQ W=.ok (.map (some mb)) W:=by simp[go_sem,h]
def AJ(W:Wt_)(h:xg W v c l mb md n):(iL 36 (pt v 3)).run pQ W=.ok (.map (some md)) W:=by simp[go_sem,h]
def wD(W:Wt_)(h:xg W v c l mb md n):(iL 24 (pt v 4)).run pQ W=.ok (gQ n) W:=by simp[go_sem,h]
def jk(i:Nat)(hi:i<5)(W:Wt_):(iF vy (pt v 0) i).run pQ W=.ok (pt v i) W:=by
 rcases(show i=0\/i=1\/i=2\/i=3\/i=4 by omega)with rfl|rfl|rfl|rfl|rfl<;>simp[go_sem]
end
def vT{v:Nat}{n:Int}(h:xg w v c l mb md n)(a:K (.bool true) w):Ca pQ 27 #[eY v] w K:=by
 apply ag1;unfold eY;refine qSt0 ?_;simp only[dr];refine cI (jk 1 qZ _) (cI (ld1 _ h) ?_);apply cx (.bool true) w (by simp[go_sem,iG]);exact a
def Gu(S:Ven)(C:List (Int×Nat))(D:List (Int×Value)):Ven:=
 {S with bk:=λn=>if(lk C n).isSome then S.bk n else Bk.empty,bd:=λn=>if(lk D n).isSome then S.bd n else []}
def qu{S:Ven}{k Fl:NP_}{ac o i r:Nat}(m:M0 w W)(C:pN W c k S.cal)(z:lA W l Fl S.led)(A:fB iI jY W mb ([]:List (Int×Nat)))(B:fB iI yh W md ([]:List (Int×Value)))
  (bc:∀x,k x->ac<=x/\x<o)(g:∀x,Fl x->i<=x/\x<r)(I:w.heap.size<=ac/\w.heap.size<=i/\w.heap.size<=mb/\w.heap.size<=md)
  (d1:o<=i\/r<=ac)(d2:mb<ac\/o<=mb)(d3:md<ac\/o<=md)(N:mb<i\/r<=mb)(L:md<i\/r<=md)(J:mb≠md)
  (G:∀y s j,rO s y c l mb md [] [] j (Gu S [] [])->M0 w s->(∀p x,j p x->w.heap.size<=x)->K (eY y) s):
  rv pQ (Instr.box vy (.agg #[iZ c,iG l,.map (some mb),.map (some md),gQ S.next])) W K:=by
 obtain⟨v,D⟩:=dW W.heap.size;have f:M0 W (W.alloc (.cells #[iZ c,iG l,.map (some mb),.map (some md),gQ S.next] vy)):=lm;have u:xg (W.alloc (.cells #[iZ c,iG l,.map (some mb),.map (some md),gQ S.next] vy)) v c l mb md S.next:=by show hp _ _=_;rw[D];simp[go_sem]
 apply cx (eY v) (W.alloc (.cells #[iZ c,iG l,.map (some mb),.map (some md),gQ S.next] vy)) (by rw[D];rfl);generalize W.alloc (.cells #[iZ c,iG l,.map (some mb),.map (some md),gQ S.next] vy)=H at f u|-;let fp:Pt->Nat->Prop:=λp=>match p with| .v=>λx=>x=v| .cal=>k| .led=>Fl| .mb=>λx=>x=mb| .md=>λx=>x=md| .bk _=>λ_=>False| .bd _=>λ_=>False
 have t:∀x,k x->x<W.heap.size:=λx e=>C.lt e;have E:∀x,Fl x->x<W.heap.size:=λx e=>z.lt e;have M:=A.lt;have ld:=B.lt;refine G v H fp {blk:=u,cal:=C.mod f eQ,led:=z.mod f eQ,mbk:=A.mod f id,mbd:=B.mod f id,bk:=λn b F=>(by cases F),nbk:=λn _=>⟨rfl,λ_ h=>h⟩,bd:=λn=>jo.nil _ _ _,fv:=λ_=>fd,fmb:=λ_=>fd,fmd:=λ_=>fd,fbd:=λn x=>⟨λh=>h.elim,λh=>(by cases h)⟩,dj:=?_} (m.trans f) ?_
 ·have key:∀p q x,fp p x->fp q x->(match p,q with| .v,.v=>True| .cal,.cal=>True| .led,.led=>True| .mb,.mb=>True| .md,.md=>True|_,_=>False):=by
   intro p q x hp d;cases p<;>cases q<;>first|trivial|exact hp.elim|exact d.elim|skip
   all_goals (simp only[fp]at hp d)
   all_goals first
    |(have a:=bc x hp;have b:=g x d;omega)
    |(have a:=g x hp;have b:=bc x d;omega)
    |(have a:=bc x hp;have b:=t x hp;omega)
    |(have a:=g x hp;have b:=E x hp;omega)
    |(have a:=bc x d;have b:=t x d;omega)
    |(have a:=g x d;have b:=E x d;omega)
    |omega
  intro p q x hp d;have:=key p q x hp d;cases p<;>cases q<;>first|rfl|exact this.elim|exact hp.elim|exact d.elim
 ·intro p x e;cases p
  ·grind
  ·have:=bc x e;omega
  ·have:=g x e;omega
  ·grind
  ·grind
  ·exact e.elim
  ·exact e.elim
def tB(D:∀v F t,lw t v F Ven.empty->M0 w t->(∀x,F x->w.heap.size<=x)->K (eY v) t):Ca pQ 22 #[] w K:=by
 apply aB6;refine Nu λc H y f A I=>?_;have O:=A.size;have bc:∀x,H x->w.heap.size<=x/\x<y.heap.size:=λx i=>⟨I x i,f.lt i⟩
 refine OL λe l Fl j s G=>?_;have M:=s.size;have C:∀x,Fl x->y.heap.size<=x/\x<e.heap.size:=λx i=>⟨G x i,j.lt i⟩
 replace f:=f.mod s eQ;obtain⟨nb,r⟩:=dW e.heap.size;have m:M0 e (e.alloc (.map #[] 0)):=lm;have o:fB iI jY (e.alloc (.map #[] 0)) nb ([]:List (Int×Nat)):=by rw[r];exact fB.new e
 apply cx (.map (some nb)) (e.alloc (.map #[] 0)) (by rw[r];simp[go_sem]);generalize e.alloc (.map #[] 0)=g at m o|-;have P:=m.size;have L:=o.lt;replace f:=f.mod m eQ;replace j:=j.mod m eQ;obtain⟨nd,q⟩:=dW g.heap.size;have k:M0 g (g.alloc (.map #[] 0)):=lm;have z:fB iI yh (g.alloc (.map #[] 0)) nd ([]:List (Int×Value)):=by rw[q];exact fB.new g
 apply cx (.map (some nd)) (g.alloc (.map #[] 0)) (by rw[q];simp[go_sem]);generalize g.alloc (.map #[] 0)=E at k z|-;have N:=k.size;replace f:=f.mod k eQ;replace j:=j.mod k eQ;replace o:=o.mod k id;apply cx (.agg #[iZ c,iG l,.map (some nb),.map (some nd),gQ 1]) E (by simp[go_sem,iZ,iG]);refine qu (S:=Ven.empty) (((A.trans s).trans m).trans k) f j o z bc C qZ qZ qZ qZ qZ qZ qZ λB J u a b d=>?_;refine D B _ J ⟨_,_,_,_,_,_,u,⟨a,λn=>rfl,λn h=>(by cases h)⟩,λ_=>fd⟩ b λx i=>?_;obtain⟨p,hp⟩:=i;exact d p x hp
structure Cw{ν ν' :Type}(A R:List (Int×ν))(C:List (Int×ν')):Prop where
 sub:R.Sublist A
 has:∀k,(lk C k).isSome=true↔(lk A k).isSome=true/\k ∉ R.map (·.1)
def Cw.init{ν d:Type}(A:List (Int×ν)):Cw A A ([]:List (Int×d)):=⟨kJ _,λk=>⟨λh=>(by cases h),λh=>by
 refine absurd ?_ h.2;cases a:lk A k with
 |none=>rw[a]at h;cases h.1
 |some b=>exact cF.2 ⟨_,AC a,rfl⟩⟩⟩
def Cw.step{ν f:Type}{A R:List (Int×ν)}{C:List (Int×f)}(h:Cw A R C)(j:(A.map (·.1)).Nodup){i:Nat}{p:Int×ν}(hp:R[i]? =some p)(b:f):
  Cw A (R.eraseIdx i) (put C p.1 b)/\lk A p.1=some p.2/\lk C p.1=none:=by
 have r:=dL hp;have q:=mem_lk j (h.sub.mem r);have s:=j.sublist (h.sub.map _);have a:=oY hp
 have d:∀k,k∈R.map (·.1)↔k=p.1\/k∈(R.eraseIdx i).map (·.1):=λk=>by
  rw[(a.map (·.1)).mem_iff,cM,cH]
 have t:p.1 ∉ (R.eraseIdx i).map (·.1):=by
  have:=(a.map (·.1)).nodup_iff.1 s;rw[cM,dA]at this;exact this.1
 refine⟨⟨(jB _ _).trans h.sub,λk=>?_⟩,q,?_⟩
 ·rw[sn];by_cases g:p.1=k
  ·grind
  ·rw[aZ g,h.has,d];constructor
   ·grind
   ·refine λ⟨o,m⟩=>⟨o,λe=>?_⟩
    rcases e with e|e
    ·exact g e.symm
    ·exact m e
 ·cases e:lk C p.1 with
  |none=>rfl
  |some x=>
   have:=(h.has p.1).1 (by rw[e];rfl);exact absurd ((d p.1).2 (.inl rfl)) this.2
def Cw.done{ν a:Type}{A:List (Int×ν)}{C:List (Int×a)}(h:Cw A [] C)(k:Int):(lk C k).isSome=(lk A k).isSome:=by
 have:=h.has k;rw[iC,this];simp
def Xg(S:Ven)(C:List (Int×Nat))(D:List (Int×Value))(n:Int)(b:Nat):{Gu S C D with bk:=upd (Gu S C D).bk n (S.bk n)}=Gu S (put C n b) D:=by
 have e:upd (Gu S C D).bk n (S.bk n)=(Gu S (put C n b) D).bk:=by
  funext m;show upd _ n (S.bk n) m=if(lk (put C n b) m).isSome=true then S.bk m else Bk.empty
  rw[sn];by_cases a:m=n
  ·subst a;rw[upd_self,bZ rfl];rfl
  ·have d:¬n=m:=λe=>a e.symm;rw[upd_ne _ _ _ a,aZ d];rfl
 rw[e];rfl
def YJ(S:Ven)(C:List (Int×Nat))(D:List (Int×Value))(n:Int)(x:Vt_):{Gu S C D with bd:=upd (Gu S C D).bd n (S.bd n)}=Gu S C (put D n x):=by
 have e:upd (Gu S C D).bd n (S.bd n)=(Gu S C (put D n x)).bd:=by
  funext m;show upd _ n (S.bd n) m=if(lk (put D n x) m).isSome=true then S.bd m else []
  rw[sn];by_cases a:m=n
  ·subst a;rw[upd_self,bZ rfl];rfl
  ·have b:¬n=m:=λe=>a e.symm;rw[upd_ne _ _ _ a,aZ b];rfl
 rw[e];rfl
set_option maxHeartbeats 2000000 in
def He{v:Nat}{A:List (Int×Nat)}{D:List (Int×Value)}{fp:Pt->Nat->Prop}{S:Ven}(h:ik w v c l mb md A D fp S)(hok:S.Ok)
  (hK:∀v' F' w',lw w' v' F' S->M0 w w' ->(∀x,F' x->w.heap.size<=x)->K (eY v') w'):Ca pQ 21 #[eY v] w K:=by
 apply ZK;apply vT h.blk;refine qSf0 ?_;have md0:M0 w w.drew:=mP;have hszd:w.drew.heap.size=w.heap.size:=rfl;have H0:=h.md0 md0;refine dK.at (λst W=>∃v' N I Q O G,st=(eY v',())/\rO W v' N I Q O [] [] G (Gu S [] [])/\M0 w W/\∀p x,G p x->w.heap.size<=x) ?_ ?_
 ·simp only[eY,dr];rw[<-hszd];obtain⟨Z,hu0⟩:=dW w.drew;rw[<-hu0]at H0 md0|-
  have fin:∀{N I Q O:Nat} (v' :Nat) (W' :Wt_) (G:Pt->Nat->Prop),rO W' v' N I Q O [] [] G (Gu S [] [])->M0 Z W' ->(∀p x,G p x->Z.heap.size<=x)->
    ∃v'' N I Q O G,(eY v',())=(eY v'',())/\rO W' v'' N I Q O [] [] G (Gu S [] [])/\M0 w W' /\∀p x,G p x->Z.heap.size<=x:=λv' W' G a b d=>⟨v',_,_,_,_,G,rfl,a,md0.trans b,d⟩
  refine dw (jk 0 qZ) (dp (EQ _ H0.blk) ?_);refine dw (jk 1 qZ) (dp (ld1 _ H0.blk) ?_);refine dw (jk 4 qZ) (dp (wD _ H0.blk) ?_);refine⟨?_,?_,?_⟩
  ·refine xr H0.cal λN Fc H o M nc=>?_;have T:=H0.md0 M;have z1:=M.size;have bc:∀x,Fc x->Z.heap.size<=x/\x<H.heap.size:=λx j=>⟨nc x j,o.lt j⟩
   refine⟨wD _ T.blk,ld1 _ T.blk,?_⟩;refine⟨?_,?_,?_⟩
   ·refine rV T.led λs I Fl y B V=>?_;have F:=T.md0 B;have z2:=B.size;have U:∀x,Fl x->H.heap.size<=x/\x<s.heap.size:=λx j=>⟨V x j,y.lt j⟩
    replace o:=o.mod B eQ;refine⟨wD _ F.blk,?_⟩;refine⟨?_,?_⟩
    ·obtain⟨nb,t⟩:=dW s.heap.size;have g:M0 s (s.alloc (.map #[] 0)):=lm;have k:fB iI jY (s.alloc (.map #[] 0)) nb ([]:List (Int×Nat)):=by rw[t];exact fB.new s
     apply cx (.map (some nb)) (s.alloc (.map #[] 0)) (by rw[t];simp[go_sem]);generalize s.alloc (.map #[] 0)=r at g k|-;have z:=F.md0 g;have z3:=g.size;have bb:=k.lt;replace o:=o.mod g eQ;replace y:=y.mod g eQ;refine⟨wD _ z.blk,?_⟩;obtain⟨nd,u⟩:=dW r.heap.size;have f:M0 r (r.alloc (.map #[] 0)):=lm;have m:fB iI yh (r.alloc (.map #[] 0)) nd ([]:List (Int×Value)):=by rw[u];exact fB.new r
     apply cx (.map (some nd)) (r.alloc (.map #[] 0)) (by rw[u];simp[go_sem]);generalize r.alloc (.map #[] 0)=u4 at f m|-;have J:=z.md0 f;have z4:=f.size;have bd:=m.lt;replace o:=o.mod f eQ;replace y:=y.mod f eQ;replace k:=k.mod f id;refine⟨wD _ J.blk,?_⟩;apply dX (.agg #[iZ N,iG I,.map (some nb),.map (some nd),gQ S.next]) (λ_=>by simp[go_sem,iZ,iG]);exact qu (S:=S) (((M.trans B).trans g).trans f) o y k m bc U qZ qZ qZ qZ qZ qZ qZ fin
    ·obtain⟨nd,u⟩:=dW s.heap.size;have g:M0 s (s.alloc (.map #[] 0)):=lm;have m:fB iI yh (s.alloc (.map #[] 0)) nd ([]:List (Int×Value)):=by rw[u];exact fB.new s
     apply cx (.map (some nd)) (s.alloc (.map #[] 0)) (by rw[u];simp[go_sem]);generalize s.alloc (.map #[] 0)=r at g m|-;have z:=F.md0 g;have z3:=g.size;have bd:=m.lt;replace o:=o.mod g eQ;replace y:=y.mod g eQ;refine⟨wD _ z.blk,?_⟩;obtain⟨nb,t⟩:=dW r.heap.size;have f:M0 r (r.alloc (.map #[] 0)):=lm;have k:fB iI jY (r.alloc (.map #[] 0)) nb ([]:List (Int×Nat)):=by rw[t];exact fB.new r
     apply cx (.map (some nb)) (r.alloc (.map #[] 0)) (by rw[t];simp[go_sem]);generalize r.alloc (.map #[] 0)=u4 at f k|-;have J:=z.md0 f;have z4:=f.size;have bb:=k.lt;replace o:=o.mod f eQ;replace y:=y.mod f eQ;replace m:=m.mod f id;refine⟨wD _ J.blk,?_⟩;apply dX (.agg #[iZ N,iG I,.map (some nb),.map (some nd),gQ S.next]) (λ_=>by simp[go_sem,iZ,iG]);exact qu (S:=S) (((M.trans B).trans g).trans f) o y k m bc U qZ qZ qZ qZ qZ qZ qZ fin
   ·obtain⟨nb,t⟩:=dW H.heap.size;have B:M0 H (H.alloc (.map #[] 0)):=lm;have k:fB iI jY (H.alloc (.map #[] 0)) nb ([]:List (Int×Nat)):=by rw[t];exact fB.new H
    apply cx (.map (some nb)) (H.alloc (.map #[] 0)) (by rw[t];simp[go_sem]);generalize H.alloc (.map #[] 0)=s at B k|-;have F:=T.md0 B;have z2:=B.size;have bb:=k.lt;replace o:=o.mod B eQ;refine⟨wD _ F.blk,ld1 _ F.blk,?_⟩;refine⟨?_,?_⟩
    ·refine rV F.led λr I Fl y g V=>?_;have z:=F.md0 g;have z3:=g.size;have U:∀x,Fl x->s.heap.size<=x/\x<r.heap.size:=λx j=>⟨V x j,y.lt j⟩
     replace o:=o.mod g eQ;replace k:=k.mod g id;refine⟨wD _ z.blk,?_⟩;obtain⟨nd,u⟩:=dW r.heap.size;have f:M0 r (r.alloc (.map #[] 0)):=lm;have m:fB iI yh (r.alloc (.map #[] 0)) nd ([]:List (Int×Value)):=by rw[u];exact fB.new r
     apply cx (.map (some nd)) (r.alloc (.map #[] 0)) (by rw[u];simp[go_sem]);generalize r.alloc (.map #[] 0)=u4 at f m|-;have J:=z.md0 f;have z4:=f.size;have bd:=m.lt;replace o:=o.mod f eQ;replace k:=k.mod f id;replace y:=y.mod f eQ;refine⟨wD _ J.blk,?_⟩;apply dX (.agg #[iZ N,iG I,.map (some nb),.map (some nd),gQ S.next]) (λ_=>by simp[go_sem,iZ,iG]);exact qu (S:=S) (((M.trans B).trans g).trans f) o y k m bc U qZ qZ qZ qZ qZ qZ qZ fin
    ·obtain⟨nd,u⟩:=dW s.heap.size;have g:M0 s (s.alloc (.map #[] 0)):=lm;have m:fB iI yh (s.alloc (.map #[] 0)) nd ([]:List (Int×Value)):=by rw[u];exact fB.new s
     apply cx (.map (some nd)) (s.alloc (.map #[] 0)) (by rw[u];simp[go_sem]);generalize s.alloc (.map #[] 0)=r at g m|-;have z:=F.md0 g;have z3:=g.size;have bd:=m.lt;replace o:=o.mod g eQ;replace k:=k.mod g id;refine⟨wD _ z.blk,ld1 _ z.blk,?_⟩;refine rV z.led λu4 I Fl y f V=>?_;have J:=z.md0 f;have z4:=f.size;have U:∀x,Fl x->r.heap.size<=x/\x<u4.heap.size:=λx j=>⟨V x j,y.lt j⟩
     replace o:=o.mod f eQ;replace k:=k.mod f id;replace m:=m.mod f id;refine⟨wD _ J.blk,?_⟩;apply dX (.agg #[iZ N,iG I,.map (some nb),.map (some nd),gQ S.next]) (λ_=>by simp[go_sem,iZ,iG]);exact qu (S:=S) (((M.trans B).trans g).trans f) o y k m bc U qZ qZ qZ qZ qZ qZ qZ fin
   ·obtain⟨nd,u⟩:=dW H.heap.size;have B:M0 H (H.alloc (.map #[] 0)):=lm;have m:fB iI yh (H.alloc (.map #[] 0)) nd ([]:List (Int×Value)):=by rw[u];exact fB.new H
    apply cx (.map (some nd)) (H.alloc (.map #[] 0)) (by rw[u];simp[go_sem]);generalize H.alloc (.map #[] 0)=s at B m|-;have F:=T.md0 B;have z2:=B.size;have bd:=m.lt;replace o:=o.mod B eQ;refine⟨wD _ F.blk,ld1 _ F.blk,?_⟩;refine⟨?_,?_⟩
    ·refine rV F.led λr I Fl y g V=>?_;have z:=F.md0 g;have z3:=g.size;have U:∀x,Fl x->s.heap.size<=x/\x<r.heap.size:=λx j=>⟨V x j,y.lt j⟩
     replace o:=o.mod g eQ;replace m:=m.mod g id;refine⟨wD _ z.blk,?_⟩;obtain⟨nb,t⟩:=dW r.heap.size;have f:M0 r (r.alloc (.map #[] 0)):=lm;have k:fB iI jY (r.alloc (.map #[] 0)) nb ([]:List (Int×Nat)):=by rw[t];exact fB.new r
     apply cx (.map (some nb)) (r.alloc (.map #[] 0)) (by rw[t];simp[go_sem]);generalize r.alloc (.map #[] 0)=u4 at f k|-;have J:=z.md0 f;have z4:=f.size;have bb:=k.lt;replace o:=o.mod f eQ;replace m:=m.mod f id;replace y:=y.mod f eQ;refine⟨wD _ J.blk,?_⟩;apply dX (.agg #[iZ N,iG I,.map (some nb),.map (some nd),gQ S.next]) (λ_=>by simp[go_sem,iZ,iG]);exact qu (S:=S) (((M.trans B).trans g).trans f) o y k m bc U qZ qZ qZ qZ qZ qZ qZ fin
    ·obtain⟨nb,t⟩:=dW s.heap.size;have g:M0 s (s.alloc (.map #[] 0)):=lm;have k:fB iI jY (s.alloc (.map #[] 0)) nb ([]:List (Int×Nat)):=by rw[t];exact fB.new s
     apply cx (.map (some nb)) (s.alloc (.map #[] 0)) (by rw[t];simp[go_sem]);generalize s.alloc (.map #[] 0)=r at g k|-;have z:=F.md0 g;have z3:=g.size;have bb:=k.lt;replace o:=o.mod g eQ;replace m:=m.mod g id;refine⟨wD _ z.blk,ld1 _ z.blk,?_⟩;refine rV z.led λu4 I Fl y f V=>?_;have J:=z.md0 f;have z4:=f.size;have U:∀x,Fl x->r.heap.size<=x/\x<u4.heap.size:=λx j=>⟨V x j,y.lt j⟩
     replace o:=o.mod f eQ;replace m:=m.mod f id;replace k:=k.mod f id;refine⟨wD _ J.blk,?_⟩;apply dX (.agg #[iZ N,iG I,.map (some nb),.map (some nd),gQ S.next]) (λ_=>by simp[go_sem,iZ,iG]);exact qu (S:=S) (((M.trans B).trans g).trans f) o y k m bc U qZ qZ qZ qZ qZ qZ qZ fin
  ·obtain⟨nb,t⟩:=dW Z.heap.size;have M:M0 Z (Z.alloc (.map #[] 0)):=lm;have k:fB iI jY (Z.alloc (.map #[] 0)) nb ([]:List (Int×Nat)):=by rw[t];exact fB.new Z
   apply cx (.map (some nb)) (Z.alloc (.map #[] 0)) (by rw[t];simp[go_sem]);generalize Z.alloc (.map #[] 0)=H at M k|-;have T:=H0.md0 M;have z1:=M.size;have bb:=k.lt;refine⟨wD _ T.blk,ld1 _ T.blk,EQ _ T.blk,?_⟩;refine⟨?_,?_⟩
   ·refine xr T.cal λN Fc s o B nc=>?_;have F:=T.md0 B;have z2:=B.size;have bc:∀x,Fc x->H.heap.size<=x/\x<s.heap.size:=λx j=>⟨nc x j,o.lt j⟩
    replace k:=k.mod B id;refine⟨wD _ F.blk,ld1 _ F.blk,?_⟩;refine⟨?_,?_⟩
    ·refine rV F.led λr I Fl y g V=>?_;have z:=F.md0 g;have z3:=g.size;have U:∀x,Fl x->s.heap.size<=x/\x<r.heap.size:=λx j=>⟨V x j,y.lt j⟩
     replace k:=k.mod g id;replace o:=o.mod g eQ;refine⟨wD _ z.blk,?_⟩;obtain⟨nd,u⟩:=dW r.heap.size;have f:M0 r (r.alloc (.map #[] 0)):=lm;have m:fB iI yh (r.alloc (.map #[] 0)) nd ([]:List (Int×Value)):=by rw[u];exact fB.new r
     apply cx (.map (some nd)) (r.alloc (.map #[] 0)) (by rw[u];simp[go_sem]);generalize r.alloc (.map #[] 0)=u4 at f m|-;have J:=z.md0 f;have z4:=f.size;have bd:=m.lt;replace k:=k.mod f id;replace o:=o.mod f eQ;replace y:=y.mod f eQ;refine⟨wD _ J.blk,?_⟩;apply dX (.agg #[iZ N,iG I,.map (some nb),.map (some nd),gQ S.next]) (λ_=>by simp[go_sem,iZ,iG]);exact qu (S:=S) (((M.trans B).trans g).trans f) o y k m bc U qZ qZ qZ qZ qZ qZ qZ fin
    ·obtain⟨nd,u⟩:=dW s.heap.size;have g:M0 s (s.alloc (.map #[] 0)):=lm;have m:fB iI yh (s.alloc (.map #[] 0)) nd ([]:List (Int×Value)):=by rw[u];exact fB.new s
     apply cx (.map (some nd)) (s.alloc (.map #[] 0)) (by rw[u];simp[go_sem]);generalize s.alloc (.map #[] 0)=r at g m|-;have z:=F.md0 g;have z3:=g.size;have bd:=m.lt;replace k:=k.mod g id;replace o:=o.mod g eQ;refine⟨wD _ z.blk,ld1 _ z.blk,?_⟩;refine rV z.led λu4 I Fl y f V=>?_;have J:=z.md0 f;have z4:=f.size;have U:∀x,Fl x->r.heap.size<=x/\x<u4.heap.size:=λx j=>⟨V x j,y.lt j⟩
     replace k:=k.mod f id;replace o:=o.mod f eQ;replace m:=m.mod f id;refine⟨wD _ J.blk,?_⟩;apply dX (.agg #[iZ N,iG I,.map (some nb),.map (some nd),gQ S.next]) (λ_=>by simp[go_sem,iZ,iG]);exact qu (S:=S) (((M.trans B).trans g).trans f) o y k m bc U qZ qZ qZ qZ qZ qZ qZ fin
   ·obtain⟨nd,u⟩:=dW H.heap.size;have B:M0 H (H.alloc (.map #[] 0)):=lm;have m:fB iI yh (H.alloc (.map #[] 0)) nd ([]:List (Int×Value)):=by rw[u];exact fB.new H
    apply cx (.map (some nd)) (H.alloc (.map #[] 0)) (by rw[u];simp[go_sem]);generalize H.alloc (.map #[] 0)=s at B m|-;have F:=T.md0 B;have z2:=B.size;have bd:=m.lt;replace k:=k.mod B id;refine⟨wD _ F.blk,ld1 _ F.blk,EQ _ F.blk,?_⟩;refine xr F.cal λN Fc r o g nc=>?_;have z:=F.md0 g;have z3:=g.size;have bc:∀x,Fc x->s.heap.size<=x/\x<r.heap.size:=λx j=>⟨nc x j,o.lt j⟩
    replace k:=k.mod g id;replace m:=m.mod g id;refine⟨wD _ z.blk,ld1 _ z.blk,?_⟩;refine rV z.led λu4 I Fl y f V=>?_;have J:=z.md0 f;have z4:=f.size;have U:∀x,Fl x->r.heap.size<=x/\x<u4.heap.size:=λx j=>⟨V x j,y.lt j⟩
    replace k:=k.mod f id;replace m:=m.mod f id;replace o:=o.mod f eQ;refine⟨wD _ J.blk,?_⟩;apply dX (.agg #[iZ N,iG I,.map (some nb),.map (some nd),gQ S.next]) (λ_=>by simp[go_sem,iZ,iG]);exact qu (S:=S) (((M.trans B).trans g).trans f) o y k m bc U qZ qZ qZ qZ qZ qZ qZ fin
  ·obtain⟨nd,u⟩:=dW Z.heap.size;have M:M0 Z (Z.alloc (.map #[] 0)):=lm;have m:fB iI yh (Z.alloc (.map #[] 0)) nd ([]:List (Int×Value)):=by rw[u];exact fB.new Z
   apply cx (.map (some nd)) (Z.alloc (.map #[] 0)) (by rw[u];simp[go_sem]);generalize Z.alloc (.map #[] 0)=H at M m|-;have T:=H0.md0 M;have bd:=m.lt;refine⟨wD _ T.blk,ld1 _ T.blk,EQ _ T.blk,?_⟩;refine⟨?_,?_⟩
   ·refine xr T.cal λN Fc s o B nc=>?_;have F:=T.md0 B;have z2:=B.size;have bc:∀x,Fc x->H.heap.size<=x/\x<s.heap.size:=λx j=>⟨nc x j,o.lt j⟩
    replace m:=m.mod B id;refine⟨wD _ F.blk,ld1 _ F.blk,?_⟩;refine⟨?_,?_⟩
    ·refine rV F.led λr I Fl y g V=>?_;have z:=F.md0 g;have z3:=g.size;have U:∀x,Fl x->s.heap.size<=x/\x<r.heap.size:=λx j=>⟨V x j,y.lt j⟩
     replace m:=m.mod g id;replace o:=o.mod g eQ;refine⟨wD _ z.blk,?_⟩;obtain⟨nb,t⟩:=dW r.heap.size;have f:M0 r (r.alloc (.map #[] 0)):=lm;have k:fB iI jY (r.alloc (.map #[] 0)) nb ([]:List (Int×Nat)):=by rw[t];exact fB.new r
     apply cx (.map (some nb)) (r.alloc (.map #[] 0)) (by rw[t];simp[go_sem]);generalize r.alloc (.map #[] 0)=u4 at f k|-;have J:=z.md0 f;have z4:=f.size;have bb:=k.lt;replace m:=m.mod f id;replace o:=o.mod f eQ;replace y:=y.mod f eQ;refine⟨wD _ J.blk,?_⟩;apply dX (.agg #[iZ N,iG I,.map (some nb),.map (some nd),gQ S.next]) (λ_=>by simp[go_sem,iZ,iG]);exact qu (S:=S) (((M.trans B).trans g).trans f) o y k m bc U qZ qZ qZ qZ qZ qZ qZ fin
    ·obtain⟨nb,t⟩:=dW s.heap.size;have g:M0 s (s.alloc (.map #[] 0)):=lm;have k:fB iI jY (s.alloc (.map #[] 0)) nb ([]:List (Int×Nat)):=by rw[t];exact fB.new s
     apply cx (.map (some nb)) (s.alloc (.map #[] 0)) (by rw[t];simp[go_sem]);generalize s.alloc (.map #[] 0)=r at g k|-;have z:=F.md0 g;have z3:=g.size;have bb:=k.lt;replace m:=m.mod g id;replace o:=o.mod g eQ;refine⟨wD _ z.blk,ld1 _ z.blk,?_⟩;refine rV z.led λu4 I Fl y f V=>?_;have J:=z.md0 f;have z4:=f.size;have U:∀x,Fl x->r.heap.size<=x/\x<u4.heap.size:=λx j=>⟨V x j,y.lt j⟩
     replace m:=m.mod f id;replace o:=o.mod f eQ;replace k:=k.mod f id;refine⟨wD _ J.blk,?_⟩;apply dX (.agg #[iZ N,iG I,.map (some nb),.map (some nd),gQ S.next]) (λ_=>by simp[go_sem,iZ,iG]);exact qu (S:=S) (((M.trans B).trans g).trans f) o y k m bc U qZ qZ qZ qZ qZ qZ qZ fin
   ·obtain⟨nb,t⟩:=dW H.heap.size;have B:M0 H (H.alloc (.map #[] 0)):=lm;have k:fB iI jY (H.alloc (.map #[] 0)) nb ([]:List (Int×Nat)):=by rw[t];exact fB.new H
    apply cx (.map (some nb)) (H.alloc (.map #[] 0)) (by rw[t];simp[go_sem]);generalize H.alloc (.map #[] 0)=s at B k|-;have F:=T.md0 B;have bb:=k.lt;replace m:=m.mod B id;refine⟨wD _ F.blk,ld1 _ F.blk,EQ _ F.blk,?_⟩;refine xr F.cal λN Fc r o g nc=>?_;have z:=F.md0 g;have z3:=g.size;have bc:∀x,Fc x->s.heap.size<=x/\x<r.heap.size:=λx j=>⟨nc x j,o.lt j⟩
    replace m:=m.mod g id;replace k:=k.mod g id;refine⟨wD _ z.blk,ld1 _ z.blk,?_⟩;refine rV z.led λu4 I Fl y f V=>?_;have J:=z.md0 f;have z4:=f.size;have U:∀x,Fl x->r.heap.size<=x/\x<u4.heap.size:=λx j=>⟨V x j,y.lt j⟩
    replace m:=m.mod f id;replace k:=k.mod f id;replace o:=o.mod f eQ;refine⟨wD _ J.blk,?_⟩;apply dX (.agg #[iZ N,iG I,.map (some nb),.map (some nd),gQ S.next]) (λ_=>by simp[go_sem,iZ,iG]);exact qu (S:=S) (((M.trans B).trans g).trans f) o y k m bc U qZ qZ qZ qZ qZ qZ qZ fin
 rintro _ W0 ⟨v',N,I,Q,O,G,rfl,q0,zM0,n0⟩;unfold Wv;intro _;have HW:=h.md0 zM0;simp only[eY,dr];refine cI (jk 2 qZ _) (cI (IL _ HW.blk) ?_);refine sw Dc HW.mbk λw1 it1 n1=>?_;obtain⟨it,hit⟩:=dW W0.heap.size;rw[<-hit]at it1|-;have hM0:=zM0.size;have hit0:∀p x,G p x->x≠it:=λp x j=>by have:=q0.lt j;omega
 refine eS (λst W=>∃(R:List (Int×Nat)) (C:List (Int×Nat)) (G:Pt->Nat->Prop),st=()/\nD iI jY W it mb R/\rO W v' N I Q O C [] G (Gu S C [])/\Cw A R C/\M0 w W/\∀p x,G p x->w.heap.size<=x/\x≠it)
  (λ_ W=>rm it mb W) ⟨A,[],G,rfl,it1,q0.mod n1 λ_ _ _ h=>h,Cw.init A,zM0.trans n1,λp x j=>⟨n0 p x j,hit0 p x j⟩⟩ ?_
 rintro _ W ⟨R,C,fpC,rfl,r1,r2,r3,r4,r5⟩ KN hKN;unfold VG;intro _;have hA:=h.mbk.1;have hitW:=r1.lt;refine uv r1 ?_ ?_
 ·intro hz W1 M hh;subst hz;refine qS0 ?_;rw[gP];simp only[eY,dr];have T:=h.md0 (r4.trans M);have q1:=r2.mod M λ_ _ _ h=>h;have hdn:=r3.done;refine cI (jk 3 qZ _) (cI (AJ _ T.blk) ?_);refine sw xn T.mbd λw2 it2 n2=>?_;obtain⟨jt,hjt⟩:=dW W1.heap.size;rw[<-hjt]at it2|-;have hs1:=(r4.trans M).size
  refine eS (λst W=>∃(R:List (Int×Value)) (E:List (Int×Value)) (G:Pt->Nat->Prop),st=()/\nD iI yh W jt md R/\rO W v' N I Q O C E G (Gu S C E)/\Cw D R E/\M0 w W/\∀p x,G p x->w.heap.size<=x/\x≠jt)
   (λ_ W=>rm jt md W) ⟨D,[],fpC,rfl,it2,q1.mod n2 λ_ _ _ h=>h,Cw.init D,(r4.trans M).trans n2,λp x j=>⟨(r5 p x j).1,by have:=q1.lt j;omega⟩⟩ ?_
  rintro _ W2 ⟨R2,E,fpE,rfl,t1,t2,t3,t4,t5⟩ KM hKM;unfold UE;intro _;have hD:=h.mbd.1;have hjtW:=t1.lt;refine uv t1 ?_ ?_
  ·intro hz W3 g hh3;subst hz;refine qS0 ?_;rw[gP];have q3:=t2.mod g λ_ _ _ h=>h;have hdE:=t3.done
   have hS:Gu S C E=S:=by
    unfold Gu
    have e1:(λn=>if(lk C n).isSome=true then S.bk n else Bk.empty)=S.bk:=by
     funext n;by_cases hc:(lk C n).isSome=true
     ·rw[bZ hc]
     ·rw[aZ hc];rw[hdn n]at hc;have:lk A n=none:=by cases hl:lk A n with|none=>rfl|some b=>rw[hl]at hc;exact absurd rfl hc
      exact((h.nbk n this).1).symm
    have e2:(λn=>if(lk E n).isSome=true then S.bd n else [])=S.bd:=by
     funext n;by_cases hc:(lk E n).isSome=true
     ·rw[bZ hc]
     ·rw[aZ hc];rw[hdE n]at hc;have hl:lk D n=none:=by cases hl:lk D n with|none=>rfl|some b=>rw[hl]at hc;exact absurd rfl hc
      have hb:=h.bd n;unfold rz at hb;rw[hl]at hb;obtain⟨hlen,⟨-,h0⟩|⟨b,cap,rest,he,-⟩⟩:=hb
      ·grind
      ·cases he
    rw[e1,e2]
   rw[hS]at q3;refine hK v' _ W3 ⟨N,I,Q,O,C,E,fpE,⟨q3,λn=>by rw[hdn];exact h.dom n,λn hn=>h.dod n (by grind)⟩,λ_=>fd⟩ (t4.trans g) λx j=>?_;obtain⟨p,hp⟩:=j;exact(t5 p x hp).1
  ·intro i p hp W3 i3 cu3 g hs3;refine qS0 ?_;rw[kx];apply sg cu3;refine qS0 ?_;refine qS0 ?_;simp only[eY,dr];have M3:M0 w W3:=t4.on g λb hb=>gz;have q3:=t2.mod g λp x j=>(t5 p x j).2;have Y:M0 W3 W3.drew:=mP;have X:=M3.trans Y;have P:=q3.mod Y λ_ _ _ h=>h;have i3d:=i3.mod Y id id;have hs3d:W3.drew.heap.size=W3.heap.size:=rfl
   try dsimp only
   generalize W3.drew=W4 at Y X P i3d hs3d|-;have J:=h.md0 X;refine dw (jk 3 qZ) (dp (AJ _ P.blk) ?_);obtain⟨-,hDp,-⟩:=t3.step hD hp dv;have hbd:=J.bd p.1;have hsl:rz D p.1=p.2:=by unfold rz;rw[hDp];rfl
   rw[hsl]at hbd;refine ww hbd.rd (by have:=hok.ord.bdl p.1;omega) λs' W5 o5 m5 n5=>?_;have q5:=P.mod m5 λ_ _ _ h=>h;refine⟨AJ _ q5.blk,?_⟩;obtain⟨t3',-,hEp⟩:=t3.step hD hp s';refine kV (enc:=iI) (ev:=yh) (x:=p.1) (v:=s') xn rP q5.mbd λW6 a6 m6 hs6=>?_;have hbdE:fpE (.bd p.1)=λx=>cK (rz E p.1) x:=funext λx=>propext (P.fbd p.1 x);have q6:=P.setBd (n:=p.1) (L:=S.bd p.1) (sl:=s') (m5.to) o5 (λx j=>.inr (n5 x j)) a6 m6;rw[YJ S C E p.1 s']at q6;have hmd' :fpE .md O:=(P.fmd O).2 rfl;have hmdn:=t5 .md O hmd';have hW34:=m5.size;refine hKM _ _ ⟨R2.eraseIdx i,put E p.1 s',_,rfl,(i3d.mod m5 id id).mod m6 (λe=>?_) (λe=>hmdn.2 e.symm),q6,t3',(X.trans m5).on m6 λb hb=>.inr (by grind),λq x j=>?_⟩ ?_
   ·have:=h.lt (p:=.md) ((h.fmd md).2 rfl);have:=hmdn.1;omega
   ·by_cases hq:q=.bd p.1
    ·subst hq;rw[ip]at j;have:=n5 x j;have:=X.size;have:=i3d.lt.2;exact⟨qZ,qZ⟩
    ·rw[eH hq]at j;exact t5 q x j
   ·have il:=(i3d.mod m5 id id).mod m6 (λe=>by have:=h.lt (p:=.md) ((h.fmd md).2 rfl);have:=hmdn.1;omega) (λe=>hmdn.2 e.symm);rw[il.left,t1.left];have hil:=(cP.1 hp).1;rw[kt hil];omega
 ·intro i p hp W3 i3 cu3 g hs3;refine qS0 ?_;rw[kx];apply sg cu3;refine qS0 ?_;refine qS0 ?_;simp only[eY,dr];have M3:M0 w W3:=r4.on g λb hb=>gz;have q3:=r2.mod g λp x j=>(r5 p x j).2;have Y:M0 W3 W3.drew:=mP;have X:=M3.trans Y;have P:=q3.mod Y λ_ _ _ h=>h;have i3d:=i3.mod Y id id;have hs3d:W3.drew.heap.size=W3.heap.size:=rfl
  try dsimp only
  generalize W3.drew=W4 at Y X P i3d hs3d|-;have J:=h.md0 X;refine dw (jk 2 qZ) (dp (IL _ P.blk) ?_);obtain⟨-,hAp,-⟩:=r3.step hA hp 0;refine EY (J.bk p.1 p.2 hAp) λb' F' W5 o5 m5 n5=>?_;have q5:=P.mod m5 λ_ _ _ h=>h;refine⟨IL _ q5.blk,?_⟩;obtain⟨r3',-,hCp⟩:=r3.step hA hp b';refine kV (enc:=iI) (ev:=jY) (x:=p.1) (v:=b') Dc rP q5.mbk λW6 a6 m6 hs6=>?_;have q6:=P.addBk (n:=p.1) hCp m5 o5 n5 a6 m6;rw[Xg S C [] p.1 b']at q6;have hmb' :fpC .mb Q:=(P.fmb Q).2 rfl;have hmbn:=r5 .mb Q hmb';have hmbl:=h.lt (p:=.mb) ((h.fmb mb).2 rfl);have il:=(i3d.mod m5 id id).mod m6 (λe=>by grind) (λe=>hmbn.2 e.symm);refine hKN _ _ ⟨R.eraseIdx i,put C p.1 b',_,rfl,il,q6,r3',(X.trans m5).on m6 λb hb=>.inr (by grind),λq x j=>?_⟩ ?_
  ·by_cases hq:q=.bk p.1
   ·subst hq;rw[ip]at j;have:=n5 x j;have:=X.size;have:=i3d.lt.2;exact⟨qZ,qZ⟩
   ·rw[eH hq]at j;exact r5 q x j
  ·rw[il.left,r1.left];have hil:=(cP.1 hp).1;rw[kt hil];omega
def KL{c a b:LV_}{off:Nat}(h:off+a.length+b.length<=c.length):mh (mh c off a) (off+a.length) b=mh c off (a++b):=by
 unfold mh;have f:(c.take off).length=off:=by grind
 have d:(c.take off++a).length=off+a.length:=by grind
 rw[List.take_left' d,qF,fg qZ,jO,eN,cD];have e:off+a.length+(off+a.length+b.length - ((List.take off c).length+a.length))=off+(a++b).length:=by grind
 rw[e,df (List.take off c) a b]
def xx:∀a:List Value,(a.flatMap λv=>v.cells.toList).length=(a.map λv=>v.cells.size).sum
 | []=>rfl
 |v::a=>by rw[eu,cD,xx a,cM,di];simp
def zY{place:Nat->Option (Nat×Nat)}:∀(e:LV_) (d:List Nat) (k off:Nat) (c:LV_),e.map (λv=>v.cells.size)=d->(∀j (h:j<d.length),place (k+j)=some (off+(d.take j).sum,d[j]))->off+d.sum<=c.length->
  Instr.fill place c.toArray ((e.zipIdx k).map λp=>(p.2,p.1))=some (mh c off (e.flatMap λv=>v.cells.toList)).toArray
 | [],d,k,off,c,f,_,o=>by
  show some c.toArray=_;unfold mh;simp
 |v::e,d,k,off,c,f,g,o=>by
  cases d with
  |nil=>simp at f
  |cons s d=>
  rw[cM]at f;injection f with q n;rw[di]at o;have i:=g 0 (by simp);simp only[kw,List.sum_nil,dS,iN]at i;rw[qJ,cM];rw[uz i q qZ];have r:v.cells.toList.length=s:=by rw[<-q];simp
  rw[zY e d (k+1) (off+s) _ n (λj t=>?_) (by rw[ve qZ];omega)]
  ·have m:(e.flatMap λv=>v.cells.toList).length=d.sum:=by rw[xx,n]
   have:=KL (c:=c) (off:=off) (a:=v.cells.toList) (b:=e.flatMap λv=>v.cells.toList) qZ;rw[r]at this;rw[this,eu]
  ·have:=g (j+1) (by simp;omega);rw[show k+1+j=k+(j+1) by omega,this];simp only[lq,di,fA];congr 2;omega
abbrev lx:TypeId:=52
def ud(r:Rp)(sT sG sA:Vt_):Value:=.agg #[.int .i64 r.err,gQ r.num,gI r.filled,gI r.left,sT,sG,sA]
def mC(r:Rp)(sT sG sA:Vt_):List Value:=[.int .i64 r.err,gQ r.num,gI r.filled,gI r.left,sT,sG,sA]
abbrev BH(n:Int):List Value:=[.int .u32 n]
structure vG(w:Wt_)(sT sG sA:Vt_)(r:Rp):Prop where
 tr:jo w 111 4 sT r.trades.length (r.trades.flatMap Fg)
 go:jo w 24 1 sG r.gone.length (r.gone.flatMap CB)
 ac:jo w 23 1 sA r.accts.length (r.accts.flatMap BH)
 d1:∀x,cK sT x->¬cK sG x
 d2:∀x,cK sT x->¬cK sA x
 d3:∀x,cK sG x->¬cK sA x
def vG.mod{F:NP_}{w' :Wt_}(h:vG w sT sG sA r)(d:de F w w')(b:∀x,cK sT x\/cK sG x\/cK sA x->¬F x):vG w' sT sG sA r:=
 ⟨h.tr.mod d λx a=>b x (.inl a),h.go.mod d λx a=>b x (.inr (.inl a)),h.ac.mod d λx a=>b x (.inr (.inr a)),h.d1,h.d2,h.d3⟩
def vG.nil(w:Wt_)(e:Int):vG w dv dv dv (failR e):=⟨jo.nil _ _ _,jo.nil _ _ _,jo.nil _ _ _,λx a=>(by cases a),λx a=>(by cases a),λx a=>(by cases a)⟩
def vG.isSl(h:vG w sT sG sA r):(∃a n c,sT=.slice a n c)/\(∃a n c,sG=.slice a n c)/\∃a n c,sA=.slice a n c:=by
 obtain⟨a,c,f,-⟩:=h.tr.isSl;obtain⟨i,j,e,-⟩:=h.go.isSl;obtain⟨d,b,g,-⟩:=h.ac.isSl;exact⟨⟨_,_,_,f⟩,⟨_,_,_,e⟩,_,_,_,g⟩
def pl{p:Nat}{cs:Array Value}(h:hC W p cs lx)(i:cs.size=7)(j:(∃a n c,sT=.slice a n c)/\(∃a n c,sG=.slice a n c)/\∃a n c,sA=.slice a n c):
  ∃f,(iS lx (pt p 0) (ud r sT sG sA)).run pQ W=.ok () f/\hp f p=some (.cells (mC r sT sG sA).toArray lx (0,0))/\de (λb=>b=p) W f:=by
 have g:cs.toList.length=7:=by simpa using i
 have k:Tryz.prog.cellsOf lx=6+1:=cU
 have d:(mC r sT sG sA).all (·.oneCell')=true:=by
  obtain⟨⟨_,_,_,rfl⟩,⟨_,_,_,rfl⟩,⟨_,_,_,rfl⟩⟩:=j;rfl
 have e:=xw (P:=pQ) (t:=lx) (b:=p) (off:=0) (cs:=mC r sT sG sA) k rfl h (by show 0+7<=cs.size;omega) d;refine⟨W.setRow p (mh cs.toList 0 (mC r sT sG sA)).toArray,?_,?_,(de.refl (λb=>b=p) W).setRow (.inl rfl) _⟩
 ·have:(jH lx (pt p 0) (ud r sT sG sA)).run pQ W=_:=e;unfold jH at this;exact this
 ·rw[ED,bZ rfl,h,tp (by rw[g];rfl)]
def lB{p:Nat}{T:TypeId}(h:hC W p (mC r sT sG sA).toArray T):(iL lx (pt p 0)).run pQ W=.ok (ud r sT sG sA) W:=
 gm (P:=pQ) (t:=lx) (n:=6) cU cU rfl (At.all h)
def qy(W:Wt_):∃a,(iA lx true (.tuple #[])).run pQ W=.ok (pt W.heap.size 0) a/\hC a W.heap.size (mC zRp dv dv dv).toArray lx/\M0 W a:=
 ⟨W.alloc (.cells (mC zRp dv dv dv).toArray lx),by simp[go_sem,mC,zRp,dv],by simp[go_sem],(de.refl _ W).alloc _⟩
def gJ:(∃a n c,dv=.slice a n c):=⟨none,0,0,rfl⟩
def aA0(W:Wt_):(Instr.build lx #[]).run pQ W=.ok (ud zRp dv dv dv) W:=by simp[go_sem,ud,zRp,dv]
def vQ{e:Int}(j:∀f,M0 w f->K (ud (failR e) dv dv dv) f):Ca pQ 33 #[.int .i64 e] w K:=by
 apply aE7;obtain⟨g,h,d,m⟩:=qy w;apply cI h;obtain⟨p,a⟩:=dW w.heap.size;rw[<-a]at d|-;apply cx (ud (failR e) dv dv dv) g (by simp[go_sem,ud,failR,zRp,dv]);obtain⟨n,o,k,i⟩:=pl (r:=failR e) d rfl ⟨gJ,gJ,gJ⟩;refine ir o (dp (lB k) ?_);exact j n (m.on i λb q=>gz)
section
variable{w:Wt_}{K:cG}{v c l mb md:Nat}{A:List (Int×Nat)}{D:List (Int×Value)}{fp:Pt->Nat->Prop}{S:Ven}
def Wm(h:ik w v c l mb md A D fp S){n:Int}(d:(eR S.cal.l n).isSome=true):∃b,lk A n=some b/\kK w b (fp (.bk n)) (S.bk n):=by
 have:=h.dom n;rw[d]at this;cases a:lk A n with
 |none=>rw[a]at this;cases this
 |some b=>exact⟨b,rfl,h.bk n b a⟩
def Pi{n a:Int}(h:ik w v c l mb md A D fp S)(C:vg S)(hn:(eR S.cal.l n).isSome=true)(hK:∀T,M0 w T->K (.tuple #[.int .i64 (S.opn n a).1,gI (S.opn n a).2]) T):
  Ca pQ 171 #[eY v,gU n,gU a] w K:=by
 apply ad4;unfold eY;simp only[dr];refine cI (jk 2 qZ _) (cI (IL _ h.blk) ?_);obtain⟨b,U,hB⟩:=Wm h hn;apply vr (enc:=iI) (ev:=jY) (x:=n) (.pointer none) Dc rP XM (.inr ⟨mb,rfl,h.mbk⟩);rw[U];refine Ns hB λR Z=>?_;have M:=h.md0 Z;refine qS0 ?_;refine qS0 ?_;refine cI (jk 3 qZ _) (cI (AJ _ M.blk) ?_);apply vr (enc:=iI) (ev:=yh) (x:=n) dv xn rP O9 (.inr ⟨md,rfl,M.mbd⟩);have J:(lk D n).elim dv yh=rz D n:=by unfold rz;cases lk D n<;>rfl
 rw[J];have g:=(M.bd n).rd;obtain⟨L,N⟩:=dW (S.bd n);have p:∀o∈L,1<=o.left/\o.left<=1000000:=λo g=>Od.left_bd (C.bdMay n o (by grind));have hLl:L.length<=50:=by rw[N];exact C.bdl n
 rw[<-N]at g;obtain⟨t,m⟩:=dW ((xd (S.bk n) a).1);obtain⟨y,r⟩:=dW ((xd (S.bk n) a).2);have B:S.opn n a=(t+oM L a true,y+oM L a false):=by unfold Ven.opn;rw[<-m,<-r,<-N]
 have hbb:(0<=t/\t<=200000000)/\0<=y/\y<=200000000:=by
  have j:=(hB.all)
  have hle:((S.bk n).all.length:Int)<=200:=qZ;have x1:=vF (l:=(S.bk n).all) (a:=a) (buy:=true) λo g=>Od.left_bd (j.2 o g).1;have x2:=vF (l:=(S.bk n).all) (a:=a) (buy:=false) λo g=>Od.left_bd (j.2 o g).1;rw[m,r];unfold xd;simp only;omega
 rw[<-m,<-r];obtain⟨sa,sc,hs⟩:=g.isSl;apply jm (gI (L.length:Int)) R (by rw[hs];simp[go_sem])
 refine eS (λst W=>∃i,i<=L.length/\st=(gI (t+oM (L.take i) a true),gI (y+oM (L.take i) a false),gI i,())/\M0 R W)
  (λst _=>match st.2.2.1 with| .int _ i=>L.length - i.toNat|_=>0) ⟨0,qZ,by simp[oM],lX⟩ ?_
 rintro⟨_,_,_,_⟩ W ⟨i,hi,⟨⟩,F⟩ KN I;unfold Rg;intro _;by_cases k:i<L.length
 ·have z:(i:Int)<(L.length:Int):=qZ;refine qSt1 z ?_;obtain⟨b0,O,cap,H,Y,hA⟩:=(g.mod F eQ).item gM k rfl;apply cx (pt b0 (O+i*5)) W (by rw[H];simp[go_sem,k,cS]);apply cI (lM (o:=L[i]) hA);obtain⟨w3,e3,V,m3⟩:=kD W;apply cI e3;obtain⟨q,hq⟩:=dW W.heap.size;rw[<-hq]at V|-;obtain⟨E,e4,s,m4⟩:=jK (o' :=L[i]) V;apply ir e4;have M4:=m3.on m4 λb U=>gz;have d:=eA k;obtain⟨o,Q⟩:=dW (L[i]);rw[<-Q]at s d;have hol:=p o (by grind);have x1:=vF (l:=L.take i) (a:=a) (buy:=true) λo g=>p o (ek g);have x2:=vF (l:=L.take i) (a:=a) (buy:=false) λo g=>p o (ek g);have xl:((L.take i).length:Int)<=50:=by grind
  unfold fL at s;refine qS0 ?_;refine qS1 s ?_
  have e:∀G P,G=oM (L.take (i+1)) a true->P=oM (L.take (i+1)) a false->KN (gI (t+G),gI (y+P),gI ((i+1:Nat):Int),()) E:=λG P e1 e2=>by
   subst e1 e2;exact I _ _ ⟨i+1,qZ,rfl,F.trans M4⟩ (by grind)
  by_cases u:o.acct=a
  ·refine qSf1 u ?_;refine qS0 ?_;refine qS1 s ?_;cases f:o.buy with
   |true=>
    rw[kx];refine qS0 ?_;refine qS1 s ?_;apply cx (gI (t+oM (L.take (i+1)) a true)) E (by rw[d,ox,bZ ⟨u,f⟩,<-oD];exact Aa ⟨qZ,qZ⟩);apply qSj i;exact e _ _ rfl (by rw[d,ox,aZ (by simp[f]),ft])
   |false=>
    rw[gP];refine qS0 ?_;refine qS1 s ?_;apply cx (gI (y+oM (L.take (i+1)) a false)) E (by rw[d,ox,bZ ⟨u,f⟩,<-oD];exact Aa ⟨qZ,qZ⟩);apply qSj i;exact e _ _ (by rw[d,ox,aZ (by simp[f]),ft]) rfl
  ·refine qSt1 u ?_;apply qSj i;exact e _ _ (by rw[d,ox,aZ (λh=>u h.1),ft]) (by rw[d,ox,aZ (λh=>u h.1),ft])
 ·obtain rfl:i=L.length:=qZ;refine qSf0 ?_;rw[cN];have X:=hK W (Z.trans F);rw[B]at X;exact X
def Xe(b:vg S)(n a:Int):(0<=(S.opn n a).1/\(S.opn n a).1<=250000000)/\0<=(S.opn n a).2/\(S.opn n a).2<=250000000:=by
 have h:(S.bk n).all.length<=200:=by
  unfold Bk.all;rw[cD];have:=(b.side n true).1;have:=(b.side n false).1;omega
 have g:∀o∈(S.bk n).all,1<=o.left/\o.left<=1000000:=λo f=>by
  obtain⟨d,i⟩:=mem_all.1 f;exact Od.left_bd ((b.bkMay n d o i).1)
 have e:∀o∈S.bd n,1<=o.left/\o.left<=1000000:=λo f=>Od.left_bd (b.bdMay n o f);have j:=b.bdl n;have m:=vF (a:=a) (buy:=true) g;have q:=vF (a:=a) (buy:=false) g;have p:=vF (a:=a) (buy:=true) e;have k:=vF (a:=a) (buy:=false) e;unfold Ven.opn xd;simp only;omega
def JM(h:ik w v c l mb md A D fp S)(m:1<=S.next/\S.next<=maxNum+1)
  (a:maxNum<S.next->K (.tuple #[.int .u64 0,gI 6]) w)
  (k:S.next<=maxNum->∀e,ik e v c l mb md A D fp {S with next:=S.next+1}->de (fp .v) w e->K (.tuple #[.int .u64 S.next,gI 0]) e):Ca pQ 176 #[eY v] w K:=by
 unfold maxNum at*;apply ad5;unfold eY;simp only[dr];refine cI (jk 4 qZ _) (cI (wD _ h.blk) ?_);by_cases b:4611686018427387904<S.next
 ·refine qSt1 b ?_;exact a b
 ·refine qSf1 b ?_;refine cI (jk 4 qZ _) (cI (wD _ h.blk) ?_);apply cx (gQ (S.next+1)) w (by simp[go_sem];rw[wU_]);apply cI (jk 4 qZ _);have i:=h.blk;have f:de (fp .v) w (w.setCell ⟨v,4,none⟩ (gQ (S.next+1))):=(de.refl (fp .v) w).setCell (.inl h.self) _ _;refine qU1 i ?_;have d:xg (w.setCell ⟨v,4,none⟩ (gQ (S.next+1))) v c l mb md (S.next+1):=by show hp _ _=_;simp[go_sem,i]
  generalize w.setCell ⟨v,4,none⟩ (gQ (S.next+1))=g at f d|-;have j:=h.setNext f d;refine cI (jk 4 qZ _) (cI (wD _ d) ?_)
  refine cx (gQ S.next) g (by
   simp[go_sem];rw[wU_]) ?_
  exact k qZ g j f
def Vi(p:Po)(W:Wt_):(Instr.field 79 (tn p) 2).run pQ W=.ok (gI p.q) W:=by
 simp[Instr.field,go_sem,part,isAgg,asAgg,tn]
def RT:lT pQ 272=BE ⟨JJ,⟨0,0,false,false⟩,0,0,0,false,0,0⟩:=cU
def Ui(g:Gt):Tryz.prog.built 272 [(0,.agg (fI g.k).toArray),(1,oz g.a),(2,gI g.q),(3,gI g.buys),(4,gI g.sells),(5,.bool g.buy),(6,gI g.price),(7,gI g.qty)]=some (BE g).toArray:=by
 have e:∀a,Tryz.prog.built 272 a=Instr.fill (λi=>#[(0,27),(27,4),(31,1),(32,1),(33,1),(34,1),(35,1),(36,1)][i]?) (lT pQ 272).toArray a:=λa=>by kernel_rfl
 rw[e]
 have:=zY (place:=λi=>#[(0,27),(27,4),(31,1),(32,1),(33,1),(34,1),(35,1),(36,1)][i]?) [.agg (fI g.k).toArray,oz g.a,gI g.q,gI g.buys,gI g.sells,.bool g.buy,gI g.price,gI g.qty] [27,4,1,1,1,1,1,1] 0 0 (lT pQ 272)
  (by show [(fI g.k).toArray.size,4,1,1,1,1,1,1]=_;rw[eT,eE]) (by
   intro j d
   match j,d with
   |0,_=>rfl
   |1,_=>rfl
   |2,_=>rfl
   |3,_=>rfl
   |4,_=>rfl
   |5,_=>rfl
   |6,_=>rfl
   |7,_=>rfl) (by rw[RT,zS];decide)
 apply this.trans
 have b:([.agg (fI g.k).toArray,oz g.a,gI g.q,gI g.buys,gI g.sells,.bool g.buy,gI g.price,gI g.qty]:LV_).flatMap (λv=>v.cells.toList)=BE g:=by
  simp[BE,oz,dH,Value.cells]
 rw[b,tp (by rw[RT,zS,zS])]
def oV(S:Ven)(a:Int):(S.led.getV a)=(S.acc a,if S.led.getO a=none then 7 else 0):=by
 unfold Led.getV Ven.acc;cases S.led.getO a<;>simp
def Ix{a n:Int}{buy:Bool}{price qty:Int}{x:Od}(h:ik w v c l mb md A D fp S)(j:S.Ok)(B:jl price)(H:jl qty)(hx:0<=x.left/\x.left<=1000000)
  (hK:∀w',M0 w w' ->K (gI (S.pass a n buy price qty x)) w'):Ca pQ 141 #[eY v,gU a,gU n,.bool buy,gI price,gI qty,oG x] w K:=by
 apply ac1;unfold eY;obtain⟨w1,e1,b1,m1⟩:=vt x w;apply cI e1;obtain⟨p,hp0⟩:=dW w.heap.size;rw[<-hp0]at b1|-;simp only[dr];have h1:=h.md0 m1;refine cI (jk 1 qZ _) (cI (ld1 _ h1.blk) ?_);refine ug h1.led λy m2=>?_;rw[oV];have M2:=m1.trans m2;have h2:=h1.md0 m2;refine qS0 ?_;refine qS0 ?_;obtain⟨ac,J⟩:=dW (S.acc a);rw[<-J];obtain⟨q,F⟩:=dW y.heap.size;have m3:M0 y (y.alloc (.cells (dH ⟨0,0,false,false⟩).toArray 70)):=lm;have N:hC (y.alloc (.cells (dH ⟨0,0,false,false⟩).toArray 70)) q (dH ⟨0,0,false,false⟩).toArray 70:=by rw[F];simp[go_sem]
 apply cx (pt q 0) (y.alloc (.cells (dH ⟨0,0,false,false⟩).toArray 70)) (by rw[F];simp[go_sem,dH]);generalize y.alloc (.cells (dH ⟨0,0,false,false⟩).toArray 70)=R at m3 N|-
 obtain⟨w4,e4,b4,m4⟩:∃W',(iS 70 (pt q 0) (oz ac)).run pQ R=.ok () W' /\hC W' q (dH ac).toArray 70/\de (λb=>b=q) R W' :=by
  unfold dH at N;refine⟨(((R.setCell ⟨q,0,none⟩ (gU ac.num)).setCell ⟨q,1,none⟩ (gI ac.cash)).setCell ⟨q,2,none⟩ (.bool ac.kil)).setCell ⟨q,3,none⟩ (.bool ac.dfl),by simp[go_sem,N,oz],by simp[go_sem,N,dH],?_⟩;exact((((de.refl (λx=>x=q) R).sc).sc).sc).sc
 apply ir e4;have M4:M0 y w4:=m3.on m4 λb M=>gz;have h4:=h2.md0 M4;have MM:=M2.trans M4;have fin:∀e W,S.pass a n buy price qty x=e->M0 w W->K (gI e) W:=λe W he m=>by grind
 by_cases T:S.led.getO a=none
 ·rw[bZ T];refine qSt0 ?_;exact fin 7 w4 (by unfold Ven.pass;rw[bZ T]) MM
 rw[aZ T];refine qSf0 ?_;refine cI (jk 0 qZ _) (cI (EQ _ h4.blk) ?_);refine Cp h4.cal λw5 P=>?_;obtain⟨G,o⟩:=dW (iU S.cal.l n)
 have d:S.pass a n buy price qty x=if G.2≠0 then G.2 else Gt.check ⟨G.1,ac,(S.led.position n a).q,(S.opn n a).1 - (if x.buy then x.left else 0),(S.opn n a).2 - (if x.buy then 0 else x.left),buy,price,qty⟩:=by
  unfold Ven.pass;rw[aZ T,o,J]
 rw[<-o];have h5:=h4.md0 P;have c5:=P.hpk b4 id;refine qS0 ?_;refine qS0 ?_;refine Ep λw6 b6 Q=>?_;obtain⟨r,hr0⟩:=dW w5.heap.size;rw[<-hr0]at b6|-;have h6:=h5.md0 Q;have c6:=Q.hpk c5 id;have M6:=(MM.trans P).trans Q;by_cases t:G.2≠0
 ·refine qSt1 t ?_;exact fin G.2 w6 (by grind) M6
 have s:G.2=0:=by simpa using t
 refine qSf1 s ?_;rw[aZ t]at d
 have u:∃k,eR S.cal.l n=some k/\G.1=k:=by
  unfold iU at o;cases hc:eR S.cal.l n with
  |none=>rw[hc]at o;rw[o]at s;simp at s
  |some k=>rw[hc]at o;exact⟨k,rfl,by rw[o]⟩
 obtain⟨k,hk,Y⟩:=u;have I:=(j.cal.ok k (ry hk)).1;rw[<-Y]at I;refine Pi h6 j.ord (by rw[hk];rfl) λX z=>?_;have ob:=Xe j.ord n a;obtain⟨O,hO⟩:=dW (S.opn n a);rw[<-hO]at ob d|-;have M7:=M6.trans z;have h7:=h6.md0 z;have c7:=z.hpk c6 id;have r7:=z.hpk b6 id;have U:=((((m2.trans M4).trans P).trans Q).trans z).hpk b1 id;unfold fL at U;refine qS0 ?_;refine qS0 ?_;refine dK.at (λst W=>st=(gI (O.1 - (if x.buy then x.left else 0)),gI (O.2 - (if x.buy then 0 else x.left)),())/\W=X) ?_ ?_
 ·refine qS0 ?_;refine qS1 U ?_;cases M:x.buy with
  |true=>
   rw[kx];refine qS0 ?_;refine qS1 U ?_;apply cx (gI (O.1 - x.left)) X (DD ⟨qZ,qZ⟩);exact⟨by simp,rfl⟩
  |false=>
   rw[gP];refine qS0 ?_;refine qS1 U ?_;apply cx (gI (O.2 - x.left)) X (DD ⟨qZ,qZ⟩);exact⟨by simp,rfl⟩
 rintro _ W ⟨rfl,rfl⟩;unfold Q9;intro _;have f:M0 W W.drew:=mP;have h8:=h7.md0 f;have r8:=f.hpk r7 id;have Z:=f.hpk c7 id;have M8:=M7.trans f
 try dsimp only
 generalize W.drew=w8 at f h8 r8 Z M8|-;have L:∀W,hC W q (dH ac).toArray 70->(iL 70 (pt q 0)).run pQ W=.ok (oz ac) W:=λW V=>by unfold dH at V;simp[go_sem,V,oz]
 have C:∀W,hC W r (fI G.1).toArray oT->(fH oT (pt r 0)).run pQ W=.ok (.agg (fI G.1).toArray) W:=λW V=>gm ME yV (eE _) (At.all V);apply li (C _ r8);apply dp (L _ Z);simp only[dr];refine dw (jk 1 qZ) (dp (ld1 _ h8.blk) ?_);refine rK h8.led λw9 m9=>?_;refine⟨L _ (m9.hpk Z id),C _ (m9.hpk r8 id),?_⟩;apply dX (gI (S.led.position n a).q) (λW=>Vi _ W);obtain⟨g,i⟩:=dW (⟨G.1,ac,(S.led.position n a).q,O.1 - (if x.buy then x.left else 0),O.2 - (if x.buy then 0 else x.left),buy,price,qty⟩:Gt);have M:=Ui g;rw[<-i]at d;rw[i]at M;apply AN M;rw[<-i];have E:=j.led.led.position n a;unfold MP at E;refine Qq ?_ λw10 m10=>?_
 ·rw[i];refine⟨I,⟨by grind,by grind⟩,?_,?_,B,H⟩
  ·grind
  ·grind
 ·exact fin _ w10 d ((M8.trans m9).trans m10)
end
end Go.Proofs
namespace Go.Proofs
open Go Go.Vc
def clear_led{S:Ven}(a k:Int):(S.clear a k).2.led=S.led:=by
 unfold Ven.clear
 have key:∀(b:List Int) (x:List Int×Ven),(b.foldl (clr1 a) x).2.led=x.2.led:=by
  intro b;induction b with
  |nil=>intro x;rfl
  |cons n b c=>intro x;rw[ig,c];rfl
 exact key _ _
def calGet_of{C:sE}(h:C.Ok){k:Ct}(b:k∈C.l):eR C.l k.spec.num=some k:=by
 unfold eR;have:=h.srt;rw[fV];obtain⟨i,a,rfl⟩:=cX b;refine⟨by simp,i,a,rfl,λj c=>?_⟩;have:=eI.1 this j i qZ a c;simp;omega
end Go.Proofs
namespace Go.Proofs
open Go Go.Vc
attribute [local congr] cR
variable {q:Nat}{w W:Wt_}
def yM{α:Type}{P:Program}{t e:TypeId}{k by_:Nat}{K:cG}{s g:Vt_}{l:List α}{x:α}{f:α->List Value}(i:P.underlying t=some (.slice e))(n:wd P e k by_)(B:∀x,(f x).length=k)(m:(f x).all (·.oneCell')=true)
  (H:g.cells.toList=f x)(C:jo w e k s l.length (l.flatMap f))(y:(l.length+1)*by_<=140737488355328)(I:k<=1000)
  (z:∀a d,jo d e k a (l++[x]).length ((l++[x]).flatMap f)->de (cK s) w d->(∀b,cK a b->cK s b\/w.heap.size<=b)->K a d):
  rx P (jQ t 1 [(0,g)]) w λv p=>rx P (eg #[t,t] t [s,v]) p K:=by
 have J:g.cells.size=k:=by grind
 refine oJ [g] i n rfl rfl (by grind) qZ ?_;have r:(([g]:LV_).flatMap (·.cells.toList)).toArray=(f x).toArray:=by simp[H]
 rw[r];have o:M0 w (w.alloc (.cells (f x).toArray e)):=lm
 have u:Rd (w.alloc (.cells (f x).toArray e)) k (.slice (some ⟨w.heap.size,0,none⟩) 1 1) 1 (f x):=
  ⟨by rw[B];omega,.inr ⟨_,0,1,rfl,cJ _,At.all (fy (by rw[gy,bZ rfl]))⟩⟩
 refine jR i i n (C.mod o eQ) u m y λa d E F q=>?_;refine z a d ?_ ((o.to (G:=cK s)).trans F) λb j=>?_
 ·rw[eJ,cD];simpa using E
 ·rcases q b j with h|h
  ·exact .inl h
  ·rw[eG]at h;exact gz
def AR{α:Type}(T:TypeId)(fc:α->List Value)(a:α)(v:Vt_)(q:Nat)(W:Wt_):Prop:=v=.pointer (some ⟨q,0,none⟩)/\hC W q (fc a).toArray T
def wQ{α:Type}{T:TypeId}{fc:α->List Value}:∀(a:α) v q W b H,AR T fc a v q W->de H W b->¬H q->AR T fc a v q b:=by
 rintro a v q W b H ⟨rfl,f⟩ d e;exact⟨rfl,d.hpk f e⟩
def Ar{xs:List Ct}:∀k∈xs,∀(W:Wt_) (K:Value->World->Prop),(∀a v,AR oT fI k v W.heap.size a->M0 W a->K v a)->
  rx pQ (nE oT) W λv d=>nj pQ (jH oT v (.agg (fI k).toArray)) d λa=>K v a:=λk _ W K e=>Ep λa b m=>e a _ ⟨rfl,b⟩ m
def wF{α:Type}{T:TypeId}{fv:α->Value}{fc:α->List Value}{xs:List α}(j:rS T fv fc xs):∀a∈xs,∀(W:Wt_) (K:Value->World->Prop),(∀b v,AR T fc a v W.heap.size b->M0 W b->K v b)->
  rv pQ (iA T true (.tuple #[])) W λv d=>ru pQ (iS T v (fv a)) d λb=>K v b:=λa k W K f=>by
 obtain⟨d,b,g,h,e,i⟩:=j a k W;exact cI g (ir h (f b _ ⟨rfl,e⟩ i))
def UN(p:Po)(W:Wt_):∃a d,(iA 79 true (.tuple #[])).run pQ W=.ok (pt W.heap.size 0) a/\(iS 79 (pt W.heap.size 0) (tn p)).run pQ a=.ok () d/\hC d W.heap.size (ec p).toArray 79/\M0 W d:=by
 obtain⟨a,b⟩:=dW (W.alloc (.cells #[.int .u32 0,gU 0,gI 0,gI 0] 79));have f:M0 W a:=by rw[b];exact(de.refl _ W).alloc _
 have e:hC a W.heap.size #[.int .u32 0,gU 0,gI 0,gI 0] 79:=by rw[b];simp[go_sem]
 refine⟨a,(((a.setCell ⟨W.heap.size,0,none⟩ (gU p.c)).setCell ⟨W.heap.size,1,none⟩ (gU p.a)).setCell ⟨W.heap.size,2,none⟩ (gI p.q)).setCell ⟨W.heap.size,3,none⟩ (gI p.b),by rw[b];simp[go_sem],by simp[go_sem,e,tn],by simp[go_sem,e,ec],?_⟩;exact f.on (((((de.refl (λx=>x=W.heap.size) a).sc).sc).sc).sc) λx g=>gz
def C0(p:Ac)(W:Wt_):∃a d,(iA 70 true (.tuple #[])).run pQ W=.ok (pt W.heap.size 0) a/\(iS 70 (pt W.heap.size 0) (oz p)).run pQ a=.ok () d/\hC d W.heap.size (dH p).toArray 70/\M0 W d:=by
 obtain⟨a,b⟩:=dW (W.alloc (.cells #[.int .u32 0,gI 0,.bool false,.bool false] 70));have f:M0 W a:=by rw[b];exact(de.refl _ W).alloc _
 have e:hC a W.heap.size #[.int .u32 0,gI 0,.bool false,.bool false] 70:=by rw[b];simp[go_sem]
 refine⟨a,(((a.setCell ⟨W.heap.size,0,none⟩ (gU p.num)).setCell ⟨W.heap.size,1,none⟩ (gI p.cash)).setCell ⟨W.heap.size,2,none⟩ (.bool p.kil)).setCell ⟨W.heap.size,3,none⟩ (.bool p.dfl),by rw[b];simp[go_sem],by simp[go_sem,e,oz],by simp[go_sem,e,dH],?_⟩;exact f.on (((((de.refl (λx=>x=W.heap.size) a).sc).sc).sc).sc) λx g=>gz
def rS.ac{xs:List Ac}:rS 70 oz dH xs:=λa _ W=>C0 a W
def rS.po{xs:List Po}:rS 79 tn ec xs:=λa _ W=>UN a W
def zi(W:Wt_):∃a,(iA 70 true (.tuple #[])).run pQ W=.ok (pt W.heap.size 0) a/\hC a W.heap.size (dH ⟨0,0,false,false⟩).toArray 70/\M0 W a:=
 ⟨W.alloc (.cells (dH ⟨0,0,false,false⟩).toArray 70),by simp[go_sem,dH],by simp[go_sem],(de.refl _ W).alloc _⟩
def zR{x:Ac}(p:Ac)(h:hC W q (dH x).toArray 70):∃a,(iS 70 (pt q 0) (oz p)).run pQ W=.ok () a/\hC a q (dH p).toArray 70/\de (λb=>b=q) W a:=by
 unfold dH at h;refine⟨(((W.setCell ⟨q,0,none⟩ (gU p.num)).setCell ⟨q,1,none⟩ (gI p.cash)).setCell ⟨q,2,none⟩ (.bool p.kil)).setCell ⟨q,3,none⟩ (.bool p.dfl),by simp[go_sem,h,oz],by simp[go_sem,h,dH],?_⟩;exact((((de.refl (λx=>x=q) W).sc).sc).sc).sc
def SS(W:Wt_):∃a,(iA 79 true (.tuple #[])).run pQ W=.ok (pt W.heap.size 0) a/\hC a W.heap.size (ec ⟨0,0,0,0⟩).toArray 79/\M0 W a:=
 ⟨W.alloc (.cells (ec ⟨0,0,0,0⟩).toArray 79),by simp[go_sem,ec],by simp[go_sem],(de.refl _ W).alloc _⟩
def TE{x:Po}(p:Po)(h:hC W q (ec x).toArray 79):∃a,(iS 79 (pt q 0) (tn p)).run pQ W=.ok () a/\hC a q (ec p).toArray 79/\de (λb=>b=q) W a:=by
 unfold ec at h;refine⟨(((W.setCell ⟨q,0,none⟩ (gU p.c)).setCell ⟨q,1,none⟩ (gU p.a)).setCell ⟨q,2,none⟩ (gI p.q)).setCell ⟨q,3,none⟩ (gI p.b),by simp[go_sem,h,tn],by simp[go_sem,h,ec],?_⟩;exact((((de.refl (λx=>x=q) W).sc).sc).sc).sc
def Xl:Lg:=⟨II,0⟩
def KY:lT pQ 94=wX Xl:=cU
def O3:lT pQ zg=uh (⟨Xl,0,0,[]⟩,dv):=cU
def T0(s:Sp)(q:Int):Tryz.prog.built 94 [(0,.agg (jA s).toArray),(1,gI q)]=some (wX ⟨s,q⟩).toArray:=by
 have e:∀a,Tryz.prog.built 94 a=Instr.fill (λi=>#[(0,25),(25,1)][i]?) (lT pQ 94).toArray a:=λa=>by kernel_rfl
 rw[e]
 have:=zY (place:=λi=>#[(0,25),(25,1)][i]?) [.agg (jA s).toArray,gI q] [25,1] 0 0 (lT pQ 94)
  (by show [(jA s).toArray.size,1]=_;rw[eT,dP]) (by
   intro j d
   match j,d with
   |0,_=>rfl
   |1,_=>rfl) (by rw[KY,kZ];decide)
 apply this.trans;have b:([.agg (jA s).toArray,gI q]:LV_).flatMap (λv=>v.cells.toList)=wX ⟨s,q⟩:=by simp[wX,Value.cells]
 rw[b,tp (by rw[KY,kZ,kZ])]
def TA(g:Lg)(b p:Int):Tryz.prog.built zg [(0,.agg (wX g).toArray),(1,gI b),(2,gI p)]=some (uh (⟨g,b,p,[]⟩,dv)).toArray:=by
 have h:∀a,Tryz.prog.built zg a=Instr.fill (λi=>#[(0,26),(26,1),(27,1),(28,1)][i]?) (lT pQ zg).toArray a:=λa=>by kernel_rfl
 rw[h]
 have:=zY (place:=λi=>#[(0,26),(26,1),(27,1),(28,1)][i]?) [.agg (wX g).toArray,gI b,gI p] [26,1,1] 0 0 (lT pQ zg)
  (by show [(wX g).toArray.size,1,1]=_;rw[eT,kZ]) (by
   intro j f
   match j,f with
   |0,_=>rfl
   |1,_=>rfl
   |2,_=>rfl) (by rw[O3,tq];decide)
 apply this.trans;have d:([.agg (wX g).toArray,gI b,gI p]:LV_).flatMap (λv=>v.cells.toList)=wX g++[.int .i64 b,gI p]:=by simp[Value.cells]
 rw[d];unfold mh
 have e:(uh (⟨Xl,0,0,[]⟩,dv)).drop (0+(wX g++[Value.int .i64 b,Value.int .i64 p]).length)=[dv]:=by
  rw[cD,kZ];rfl
 rw[O3,e];simp[uh]
def U0{s:Stk}{x:Vt_}{L:List Od}{y:Vt_}(h:hC W q (uh (s,x)).toArray zg)(d:∃a n c,y=.slice a n c):
  (iS 95 (pt q 28) y).run pQ W=.ok () (W.setCell ⟨q,28,none⟩ y)/\hp (W.setCell ⟨q,28,none⟩ y) q=some (.cells (uh ({s with ords:=L},y)).toArray zg (0,0))/\de (λb=>b=q) W (W.setCell ⟨q,28,none⟩ y):=by
 obtain⟨a,n,c,rfl⟩:=d;refine⟨by simp[go_sem,h,En],?_,(de.refl (λb=>b=q) W).sc⟩;rw[nO,bZ rfl,h,iK,ed];congr 3;unfold uh;rw[gh _ _ (by rw[kZ];omega),kZ];rfl
section
variable{w:Wt_}{K:cG}{v c l mb md:Nat}{A:List (Int×Nat)}{D:List (Int×Value)}{fp:Pt->Nat->Prop}{S:Ven}
def wJ(S:Ven)(a:Int)(i:Nat):List Stk:=((S.cal.l.take i).filter λk=>decide (k.st≠3)).map (S.stake a)
def FZ{S:Ven}{a:Int}{i:Nat}(hi:i<S.cal.l.length):wJ S a (i+1)=wJ S a i++(if S.cal.l[i].st=3 then []else [S.stake a S.cal.l[i]]):=by
 unfold wJ;rw[eA hi,dJ,dy];congr 1;by_cases h:S.cal.l[i].st=3
 ·grind
 ·grind
def L6(b:S.Ok){a:Int}{k:Ct}(f:k∈S.cal.l):(S.stake a k).Fit/\(S.stake a k).ords.length<=250:=by
 have d:=b.led.led.position k.spec.num a;unfold MP MF at d;have e:=(b.cal.ok k f).1;refine⟨⟨e.1,⟨by show _<=(S.led.position _ _).q;omega,by show(S.led.position _ _).q<_;omega⟩,⟨by show _<=(S.led.position _ _).b;omega,by show(S.led.position _ _).b<_;omega⟩,e.2.2,λo g=>?_⟩,?_⟩
 ·rcases dg.1 g with h|h
  ·exact(b.ord.std _ o (fk _ (cO.1 h).1)).fit
  ·exact(b.ord.std _ o (vk (cO.1 h).1)).fit
 ·show(List.filter _ _++List.filter _ _).length<=250;rw[cD];have m:=dm (ofA a) (S.bk k.spec.num).all;have i:=dm (ofA a) (S.bd k.spec.num);have n:=b.ord.bdl k.spec.num
  have j:(S.bk k.spec.num).all.length<=200:=by
   unfold Bk.all;rw[cD];have:=(b.ord.side k.spec.num true).1;have:=(b.ord.side k.spec.num false).1;omega
  omega
def HH{a:Int}(h:ik w v c l mb md A D fp S)(Q:S.Ok)
  (hK:∀w',M0 w w' ->K (.tuple #[IJ (S.need a).1,gI (S.need a).2]) w'):Ca pQ 14 #[eY v,gU a] w K:=by
 apply ad7;obtain⟨n0,hn0⟩:=dW w.heap.size
 have hlay:∃w3,((w.alloc (.cells #[eY v] 39)).alloc (.cells #[.int .u32 a] 23) |>.alloc (.cells (wY BM).toArray yg))=w3/\w3.heap.size=n0+3/\M0 w w3/\
   hC w3 n0 #[eY v] 39/\hC w3 (n0+1) #[.int .u32 a] 23/\hC w3 (n0+2) (wY BM).toArray yg:=by
  refine⟨_,rfl,by simp[go_sem,hn0],(lm.alloc _).alloc _,?_,?_,?_⟩<;>simp[go_sem,hn0]
 obtain⟨w3,hw3,hsz3,m3,b0,b1,b2⟩:=hlay;apply cx (pt n0 0) (w.alloc (.cells #[eY v] 39)) (by rw[hn0];rfl);refine qSv1 (pt (n0+1) 0) hn0 ?_;apply cx (pt (n0+2) 0) w3 (by rw[<-hw3];simp[go_sem,hn0,wY,BM]);clear hw3;have h3:=h.md0 m3;have O:∀W,hC W n0 #[eY v] 39->(iL 39 (pt n0 0)).run pQ W=.ok (eY v) W:=λW hW=>by simp[go_sem,hW,eY]
 have V:∀W,hC W (n0+1) #[.int .u32 a] 23->(iL 23 (pt (n0+1) 0)).run pQ W=.ok (gU a) W:=λW hW=>by simp[go_sem,hW]
 apply cI (O _ b0);apply vT h3.blk;apply qSv0 (.bool false);rw[gP];obtain⟨E,hE⟩:=dW (if S.led.getO a=none then 7 else 0:Int)
 have fin:∀(n:Nd) (e:Int) (W:Wt_),S.need a=(n,e)->M0 w W->K (.tuple #[IJ n,gI e]) W:=λn e W he m=>by
  have hk:=hK W m;rw[he]at hk;exact hk
 refine dK.at (λst W=>st=(gI E,())/\M0 w3 W) ?_ ?_
 ·have md0:M0 w3 w3.drew:=mP;have h4:=h3.md0 md0;have c0:=md0.hpk b0 id;have c1:=md0.hpk b1 id
  try dsimp only
  generalize w3.drew=u at md0 h4 c0 c1|-;apply dp (O _ c0);simp only[eY,dr];refine dw (jk 1 qZ) (dp (ld1 _ h4.blk) (dp (V _ c1) ?_));refine⟨?_,?_⟩
  ·refine ug h4.led λu2 m2=>?_;rw[oV,<-hE];refine qP0 ?_;refine qP0 ?_;obtain⟨u3,u4,x1,x2,x3,x4⟩:=C0 (S.acc a) u2;refine cI x1 (ir x2 ?_);exact⟨rfl,(md0.trans m2).trans x4⟩
  ·obtain⟨u2,x1,x2,m2⟩:=zi u;apply cI x1;have h5:=h4.md0 m2;refine⟨V _ (m2.hpk c1 id),ld1 _ h5.blk,O _ (m2.hpk c0 id),?_⟩;refine ug h5.led λu3 m3' =>?_;rw[oV,<-hE];refine qP0 ?_;refine qP0 ?_;obtain⟨u4,T,y2,Y⟩:=zR (S.acc a) (m3'.hpk x2 id);apply ir T;exact⟨rfl,((md0.trans m2).trans m3').on Y λb g=>.inr (by have:=md0.size;omega)⟩
 rintro _ w4 ⟨rfl,m4⟩;unfold Vf;intro _;have M4:=m3.trans m4;have d0:=m4.hpk b0 id;have d1:=m4.hpk b1 id;have d2:=m4.hpk b2 id;refine dK.at (λst W=>st=(.bool (decide (S.led.getO a=none\/a=0)),())/\w4=W) ?_ ?_
 ·by_cases hg:S.led.getO a=none
  ·rw[bZ hg]at hE;subst hE;refine qS0 ?_;rw[kx];exact⟨by rw[db (.inl hg)],rfl⟩
  ·rw[aZ hg]at hE;subst hE;apply qSv0 (.bool false);rw[gP];apply cI (V _ d1);apply cx (.bool (decide (a=0))) w4 (by simp[go_sem];rfl);exact⟨by simp[hg],rfl⟩
 rintro _ _ ⟨rfl,rfl⟩;unfold V0;intro _;by_cases Z:S.led.getO a=none\/a=0
 ·rw[qo Z];apply cx (IJ BM) w4 (by simp[go_sem,IJ,wY,BM]);obtain⟨w5,e5,b5,m5⟩:=Sl BM d2 rfl;refine ir e5 (dp (MI _ b5) ?_);refine fin BM 7 w5 ?_ (M4.on m5 λb g=>gz);unfold Ven.need;rw[bZ Z];rfl
 rw[DN Z];have hneed:S.need a=needR (S.stakes a):=by unfold Ven.need;rw[aZ Z]
 obtain⟨p,hp0⟩:=dW w4.heap.size;have m5:M0 w4 (w4.alloc (.cells #[dv] 88)):=lm;have b5:hC (w4.alloc (.cells #[dv] 88)) p #[dv] 88:=by rw[hp0];simp[go_sem]
 apply cx (pt p 0) (w4.alloc (.cells #[dv] 88)) (by rw[hp0];simp[go_sem,dv]);generalize w4.alloc (.cells #[dv] 88)=w5 at m5 b5|-;have M5:=M4.trans m5;have h5:=h.md0 M5;have k0:=m5.hpk d0 id;apply cI (O _ k0);simp only[eY,dr];refine cI (jk 0 qZ _) (cI (EQ _ h5.blk) ?_);refine zq h5.cal λgv w6 ht m6=>?_;have M6:=M5.trans m6;have h6:=h5.md0 m6;have g0:=m6.hpk k0 id;have g1:=m6.hpk (m5.hpk d1 id) id;have g2:=m6.hpk (m5.hpk d2 id) id;have gp:=m6.hpk b5 id;have hs4:=m4.size;have hs6:=m6.size;have hpl:=cB b5;have hfl:∀pt x,fp pt x->x<n0:=λpt x s=>by rw[hn0];exact h.lt s
 let I:(Nat->Prop)->Nat->World->Prop:=λX i W=>∃(sl:Vt_) (N:List (Stk×Value)),hC W p #[sl] 88/\jo W zg 29 sl N.length (N.flatMap uh)/\N.map (·.1)=wJ S a i/\(∀x∈N,qR W x.2 x.1.ords)/\
  (∀b,X b↔b=p\/cK sl b\/∃x∈N,cK x.2 b)/\(∀b,cK sl b->p<b/\∀x∈N,¬cK x.2 b)/\∀x∈N,∀b,cK x.2 b->p<b
 delta Xc
 refine CX (X0:=λx=>x=p) (fv:=λk:Ct=>.agg (fI k).toArray) (asg:=λx W K=>rx pQ (nE oT) W λv w1=>nj pQ (jH oT v x) w1 λw2=>K v w2) (Pv:=AR oT fI) ht Ar wQ I (λ_ _ _=>False) ?_ (λ_ _ _ _ _ h=>h.elim) (λx s=>qZ) ⟨dv,[],gp,jo.nil _ _ _,rfl,by simp,λb=>⟨.inl,λh=>h.elim id λh=>h.elim (λh=>by cases h) λ⟨x,s,_⟩=>by cases s⟩,λb g=>(by cases g),by simp⟩ ?_ ?_ (λ_ _ _ _ _ h=>h.elim)
 ·rintro X i W W' H ⟨sl,N,i1,i2,i3,i4,i5,i6,i7⟩ hm hX;exact⟨sl,N,hm.hpk i1 (hX _ ((i5 _).2 (.inl rfl))),i2.mod hm λb g=>hX b ((i5 b).2 (.inr (.inl g))),i3,λx s=>(i4 x s).mod hm λb g=>hX b ((i5 b).2 (.inr (.inr ⟨x,s,g⟩))),i5,i6,i7⟩
 ·rintro X i hi W q vv ⟨sl,N,i1,i2,i3,i4,i5,i6,i7⟩ mW hX hdq hqW ⟨rfl,zgq⟩ ⟨rec0,hrec⟩ KN KJ hKN hKJ;have HW:=h6.mod mW λpt x s e=>by have:=hfl pt x s;omega
  have f0:=mW.hpk g0 qZ;have f1:=mW.hpk g1 qZ;obtain⟨k,hk⟩:=dW (S.cal.l[i]);rw[<-hk]at zgq;have hkm:k∈S.cal.l:=by rw[hk];exact cC hi
  have z:=FZ (S:=S) (a:=a) hi;rw[<-hk]at z;have hXs:∀b,X b->b<W.heap.size:=λb g=>by have:=(hX b g).1;omega
  refine qS0 ?_;refine qS2 zgq D5 ?_;by_cases hst:k.st=3
  ·refine qSt1 hst ?_;rw[bZ hst,ew]at z;exact hKN X W ⟨sl,N,i1,i2,by rw[z];exact i3,i4,i5,i6,i7⟩ lX λb g=>⟨.inl g,hXs b g⟩
  refine qSf1 hst ?_;rw[aZ hst]at z;refine qS0 ?_;apply qSv0 (pt q 0);apply qSv2 (gU k.spec.num) zgq G9;obtain⟨P,hP⟩:=dW (S.led.position k.spec.num a);refine dK.at (λst W' =>∃r,st=(.pointer (some ⟨r,0,none⟩),())/\hC W' r (ec P).toArray 79/\M0 W W') ?_ ?_
  ·have md0:M0 W W.drew:=mP;have h4:=HW.md0 md0;have c0:=md0.hpk f0 id;have c1:=md0.hpk f1 id
   try dsimp only
   generalize W.drew=u at md0 h4 c0 c1|-;apply dp (O _ c0);simp only[eY,dr];refine dw (jk 1 qZ) (dp (ld1 _ h4.blk) (dp (V _ c1) ?_));refine⟨?_,?_⟩
   ·refine rK h4.led λu2 m2=>?_;rw[<-hP];obtain⟨u3,u4,x1,x2,x3,x4⟩:=UN P u2;refine cI x1 (ir x2 ?_);exact⟨_,rfl,x3,(md0.trans m2).trans x4⟩
   ·obtain⟨u2,x1,x2,m2⟩:=SS u;apply cI x1;have h5' :=h4.md0 m2;refine⟨V _ (m2.hpk c1 id),ld1 _ h5'.blk,O _ (m2.hpk c0 id),?_⟩;refine rK h5'.led λu3 m3' =>?_;rw[<-hP];obtain⟨u4,T,y2,Y⟩:=TE P (m3'.hpk x2 id);apply ir T;exact⟨_,rfl,y2,((md0.trans m2).trans m3').on Y λb g=>.inr (by have:=md0.size;omega)⟩
  rintro _ W1 ⟨r,rfl,rb,mW1⟩;unfold UZ;intro _;have q1:=mW1.hpk zgq id;unfold ec at rb;refine qS0 ?_
  have hA:At W1 q 0 (jA k.spec):=by
   have:=(At.all q1).sub 0 25 (by rw[eE];omega);rw[iw,fI,dh (by rw[dP];omega),cT (by rw[dP];omega)]at this;exact this
  apply jq (jA k.spec) 24 DW Cc (dP _) hA;refine qS0 ?_;refine qS1 rb ?_;apply lL (T0 k.spec P.q);refine qS0 ?_;refine qS1 rb ?_;refine qS0 ?_;apply qSv2 (gI k.price) q1 Hs;obtain⟨s0,hs0⟩:=dW (⟨⟨k.spec,P.q⟩,P.b,k.price,[]⟩:Stk);have hbk:=TA ⟨k.spec,P.q⟩ P.b k.price;rw[<-hs0]at hbk;apply lL hbk;refine RV ⟨_,_,_,rfl⟩ λW2 b2' mW2=>?_;obtain⟨q2,hq2⟩:=dW W1.heap.size;rw[<-hq2]at b2' |-;have hs1:=mW1.size;have MW2:=mW1.trans mW2;have H2:=HW.md0 MW2;have e0:=MW2.hpk f0 id;have e1:=MW2.hpk f1 id;apply cI (O _ e0);simp only[eY,dr];refine cI (jk 2 qZ _) (cI (IL _ H2.blk) ?_);obtain⟨bb,hbb,hBB⟩:=Wm H2 (n:=k.spec.num) (by rw[calGet_of Q.cal hkm];rfl);apply vr (enc:=iI) (ev:=jY) (x:=k.spec.num) (.pointer none) Dc rP XM (.inr ⟨mb,rfl,H2.mbk⟩);rw[hbb];show Ca pQ _ #[jY bb] W2 _;refine Ce hBB λgv2 W3 ht2 mW3=>?_;have MW3:=MW2.trans mW3;have H3:=H2.md0 mW3;have j0:=mW3.hpk e0 id;have j1:=mW3.hpk e1 id;have j2:=mW3.hpk b2' id;have hs3' :=mW3.size;have hq2l:=cB j2;obtain⟨Al,hAl⟩:=dW ((S.bk k.spec.num).all);have hAlb:(S.bk k.spec.num) true++(S.bk k.spec.num) false=Al:=hAl.symm;rw[hAlb]at ht2
  have hAll:Al.length<=200:=by
   rw[hAl];unfold Bk.all;rw[cD];have:=(Q.ord.side k.spec.num true).1;have:=(Q.ord.side k.spec.num false).1;omega
  let I2:(Nat->Prop)->Nat->World->Prop:=λX j W=>∃(y:Vt_),hC W q2 (uh ({s0 with ords:=(Al.take j).filter (ofA a)},y)).toArray zg/\qR W y ((Al.take j).filter (ofA a))/\(∀b,X b↔b=q2\/cK y b)/\∀b,cK y b->q2<b
  delta U3
  have hrec3:∃r,hp W3 (w6.heap.size+1)=some (.loop r):=⟨rec0,MW3.hpk hrec id⟩
  refine Lh (X0:=λx=>x=q2) (fv:=oG) (asg:=λx W K=>rv pQ (iA pz true (.tuple #[])) W λv w1=>ru pQ (iS pz v x) w1 λw2=>K v w2) (Pv:=AR pz fL) hrec3 ht2 (wF rS.od) wQ I2 (λ_ _ _=>False) ?_ (λ_ _ _ _ _ h=>h.elim) (λx s=>qZ) ⟨dv,by rw[hs0]at j2;rw[hs0];exact j2,jo.nil _ _ _,λb=>⟨.inl,λh=>h.elim id λh=>by cases h⟩,λb g=>(by cases g)⟩ ?_ ?_ (λ_ _ _ h=>h.elim)
  ·rintro X2 j W4 W4' H ⟨y,T,y2,Y,y4⟩ hm hX2;exact⟨y,hm.hpk T (hX2 _ ((Y _).2 (.inl rfl))),y2.mod hm λb g=>hX2 b ((Y b).2 (.inr g)),Y,y4⟩
  ·rintro X2 j hj W4 q4 vv ⟨y,T,y2,Y,y4⟩ mW4 hX2 hdq4 hqW4 ⟨rfl,gq4⟩ KN2 KJ2 hKN2 hKJ2;obtain⟨o,ho⟩:=dW (Al[j]);rw[<-ho]at gq4;have gq4' :=gq4;unfold fL at gq4';have B:=eA hj;rw[<-ho]at B;have t1:=mW4.hpk j1 qZ;have hX2s:∀b,X2 b->b<W4.heap.size:=λb g=>by have:=(hX2 b g).1;omega
   apply cI (by simp[-Int.natCast_add,go_sem,gq4']<;>first|exact sI|exact rfl);apply cI (by simp[-Int.natCast_add,go_sem,gq4']<;>first|exact sI|exact rfl);apply cI (V _ t1);apply cx (.bool (ofA a o)) W4 (by simp[go_sem,ofA];rfl);rw[cy];cases M:ofA a o with
   |false=>
    rw[aZ (by simp)];refine hKN2 X2 W4 ⟨y,?_,?_,Y,y4⟩ lX λb g=>⟨.inl g,hX2s b g⟩
    ·rw[B,dJ,cY (by simp[M]),iz,ew];exact T
    ·rw[B,dJ,cY (by simp[M]),iz,ew];exact y2
   |true=>
    rw[bZ rfl];obtain⟨sa,sc,U,-⟩:=y2.isSl;refine qS0 ?_;apply cx y W4 (by rw[U]at T|-;simp[go_sem,T,En]);apply cI (lM (o:=o) (At.all gq4));have hfl2:((Al.take j).filter (ofA a)).length<=200:=dD (dm _ _) (by rw[cZ];omega);refine vK (x:=o) (f:=fL) mH (eO Oh) gM pD rfl y2 qZ qZ λs' W5 o5 m5' n5=>?_;obtain⟨ta,tc,hs',-⟩:=o5.isSl;have z1:=m5'.hpk T λg=>by have:=y4 _ g;omega
    refine qS0 ?_;obtain⟨st1,st2,R⟩:=U0 (L:=(Al.take j).filter (ofA a)++[o]) z1 ⟨_,_,_,hs'⟩;apply ir st1;have hq2W4:=cB T;have hs5:=m5'.size;refine hKN2 (λb=>b=q2\/cK s' b) _ ⟨s',?_,?_,λb=>fd,λb g=>?_⟩ ?_ λb g=>?_
    ·rw[B,dJ,dI M,iz];exact st2
    ·rw[B,dJ,dI M,iz];exact o5.mod R λb g e=>by rcases n5 b g with t|t;have:=y4 b t;omega;omega
    ·rcases n5 b g with t|t
     ·exact y4 b t
     ·omega
    ·exact((m5'.mono λb _ g=>(Y b).2 (.inr g)).on R λb g=>.inl ((Y b).2 (.inl g)))
    ·have:=R.size;rcases g with rfl|g
     ·exact⟨.inl ((Y _).2 (.inl rfl)),qZ⟩
     ·refine⟨(n5 b g).imp (λt=>(Y b).2 (.inr t)) id,?_⟩;have:=o5.lt g;omega
  ·rintro X2 W4 ⟨y,T,y2,Y,y4⟩ mW4 hX2;have el:Al.take Al.length=Al:=cN;rw[el]at T y2;unfold UJ;simp only[iJ];have MW4:M0 W W4:=MW3.on mW4 λb g=>gz;have H4:=HW.md0 MW4;apply cI (O _ (MW4.hpk f0 id));simp only[eY,dr];refine cI (jk 3 qZ _) (cI (AJ _ H4.blk) ?_);apply vr (enc:=iI) (ev:=yh) (x:=k.spec.num) dv xn rP O9 (.inr ⟨md,rfl,H4.mbd⟩);have hsl3:(lk D k.spec.num).elim dv yh=rz D k.spec.num:=by unfold rz;cases lk D k.spec.num<;>rfl
   rw[hsl3];have hbd:=(H4.bd k.spec.num).rd;obtain⟨Bd,hBd⟩:=dW (S.bd k.spec.num);have hBdl:Bd.length<=50:=by rw[hBd];exact Q.ord.bdl _
   rw[<-hBd]at hbd;obtain⟨ba,bc,hbs⟩:=hbd.isSl;apply jm (gI (Bd.length:Int)) W4 (by rw[hbs];simp[go_sem]);obtain⟨F1,hF1⟩:=dW (Al.filter (ofA a));rw[<-hF1]at T y2;have hF1l:F1.length<=200:=by rw[hF1];exact dD (dm _ _) hAll
   have hW4s:=MW4.size
   refine eS (λst W5=>∃(j:Nat) (C:Vt_),j<=Bd.length/\st=(gI j,())/\M0 W W5/\hC W5 q2 (uh ({s0 with ords:=F1++(Bd.take j).filter (ofA a)},C)).toArray zg/\qR W5 C (F1++(Bd.take j).filter (ofA a))/\(∀b,cK C b->q2<b)/\W4.heap.size<=W5.heap.size)
    (λst _=>match st.1 with| .int _ i=>Bd.length - i.toNat|_=>0) ⟨0,y,qZ,rfl,MW4,by simpa using T,by simpa using y2,y4,cJ _⟩ ?_
   rintro⟨_,_⟩ W5 ⟨j,C,hj,⟨⟩,t1,t2,t3,t4,t5⟩ KM hKM;unfold Ot;intro _;have HW5:=HW.md0 t1;have hbd5:=(HW5.bd k.spec.num).rd;rw[<-hBd]at hbd5;by_cases hlt:j<Bd.length
   ·have hlt' :(j:Int)<(Bd.length:Int):=qZ;refine qSv1 (.bool true) hlt' ?_;rw[kx];obtain⟨b',off,cap,hse,hcap,hA5⟩:=hbd5.item gM hlt rfl;apply cx (pt b' (off+j*5)) W5 (by rw[hse];simp[go_sem,hlt,cS,mH]);apply cI (lM (o:=Bd[j]) hA5);obtain⟨w7,e7,b7,m7⟩:=kD W5;apply cI e7;obtain⟨q5,hq5⟩:=dW W5.heap.size;rw[<-hq5]at b7|-;obtain⟨w8,e8,b8,m8⟩:=jK (o' :=Bd[j]) b7;apply ir e8;have M8:M0 W5 w8:=m7.on m8 λb g=>gz;have B:=eA hlt;obtain⟨o,hoo⟩:=dW (Bd[j]);rw[<-hoo]at b8 B;have b8' :=b8;unfold fL at b8';have s8:=M8.hpk t2 id;have o8:=t3.mod M8 eQ;have v8:=(t1.trans M8).hpk f1 id;apply cI (by simp[-Int.natCast_add,go_sem,b8']<;>first|exact sI|exact rfl);apply cI (by simp[-Int.natCast_add,go_sem,b8']<;>first|exact sI|exact rfl);apply cI (V _ v8);apply cx (.bool (ofA a o)) w8 (by simp[go_sem,ofA];rfl);rw[cy];have hW8:=M8.size;have hq2l5:=cB t2;cases M:ofA a o with
    |false=>
     rw[aZ (by simp)];apply cx (gI ((j+1:Nat):Int)) w8 (by simp[go_sem];rw[wI_]);refine hKM _ _ ⟨j+1,C,qZ,rfl,t1.trans M8,?_,?_,t4,qZ⟩ (by show Bd.length - (((j+1:Nat):Int)).toNat<Bd.length - ((j:Int)).toNat;omega)
     ·rw[B,dJ,cY (by simp[M]),iz,ew];exact s8
     ·rw[B,dJ,cY (by simp[M]),iz,ew];exact o8
    |true=>
     rw[bZ rfl];obtain⟨sa,sc,U,-⟩:=t3.isSl;refine qS0 ?_;apply cx C w8 (by rw[U]at s8|-;simp[go_sem,s8,En]);apply cI (lM (o:=o) (At.all b8))
     have hfl2:(F1++(Bd.take j).filter (ofA a)).length<=250:=by
      have:=dm (ofA a) (Bd.take j);rw[cD];rw[cZ]at this;omega
     refine vK (x:=o) (f:=fL) mH (eO Oh) gM pD rfl o8 qZ qZ λs' W6 o6 F n6=>?_;obtain⟨ta,tc,hs',-⟩:=o6.isSl;have z1:=F.hpk s8 λg=>by have:=t4 _ g;omega
     refine qS0 ?_;obtain⟨st1,st2,R⟩:=U0 (L:=F1++(Bd.take j).filter (ofA a)++[o]) z1 ⟨_,_,_,hs'⟩;apply ir st1;have hs6' :=F.size;have hss:=R.size
     have el2:F1++(Bd.take (j+1)).filter (ofA a)=F1++(Bd.take j).filter (ofA a)++[o]:=by
      rw[B,dJ,dI M,iz,df]
     apply cx (gI ((j+1:Nat):Int)) (W6.setCell ⟨q2,28,none⟩ s') (by simp[go_sem];rw[wI_]);refine hKM _ _ ⟨j+1,s',qZ,rfl,((t1.trans M8).on F λb g=>.inr (by have:=t4 b g;omega)).on R λb g=>gz,?_,?_,λb g=>?_,qZ⟩ (by show Bd.length - (((j+1:Nat):Int)).toNat<Bd.length - ((j:Int)).toNat;omega)
     ·rw[el2];exact st2
     ·rw[el2];exact o6.mod R λb g e=>by rcases n6 b g with t|t;have:=t4 b t;omega;omega
     ·rcases n6 b g with t|t
      ·exact t4 b t
      ·omega
   ·obtain rfl:j=Bd.length:=qZ;refine qSf0 ?_;rw[cN]at t2 t3
    have hstk:({s0 with ords:=F1++Bd.filter (ofA a)}:Stk)=S.stake a k:=by
     rw[hs0,hF1,hAl,hBd,hP];rfl
    rw[hstk]at t2;have hso:(S.stake a k).ords=F1++Bd.filter (ofA a):=by rw[<-hstk]
    rw[<-hso]at t3;obtain⟨na,nc,U,-⟩:=i2.isSl;obtain⟨oa,oc,hosl,-⟩:=t3.isSl;have i1' :=t1.hpk i1 id;have i2' :=i2.mod t1 eQ;apply cx sl W5 (by rw[U]at i1' |-;simp[go_sem,i1']);apply jq (uh (S.stake a k,C)) 28 aSk Zk (tq _) (At.all t2)
    have hLl:N.length<=16:=by
     have:=fC List.length i3;rw[cz]at this;rw[this];unfold wJ;rw[cz];exact dD (dm _ _) (by rw[cZ];have:=Q.cal.len;omega)
    refine yM (x:=(S.stake a k,C)) (f:=uh) aj6 (eO eSk) tq (K1 _ ⟨_,_,_,hosl⟩) rfl i2' qZ qZ λs' W6 o6 F n6=>?_;obtain⟨ta,tc,hs',-⟩:=o6.isSl;have i1'' :=F.hpk i1' λg=>by have:=(i6 _ g).1;omega
    apply pH (W6.setCell ⟨p,0,none⟩ s') (by rw[hs'];simp[go_sem,i1'']);have mv:de (λb=>b=p) W6 (W6.setCell ⟨p,0,none⟩ s'):=(de.refl (λb=>b=p) W6).sc;have pv:hC (W6.setCell ⟨p,0,none⟩ s') p #[s'] 88:=by simp[go_sem,i1'']
    generalize W6.setCell ⟨p,0,none⟩ s' =W7 at mv pv|-;have hpW:=cB i1;have hs5' :=t1.size;have hs6'' :=F.size;have hs7:=mv.size;have hold:∀x∈N,∀b,cK x.2 b->b<W.heap.size:=λx s b g=>(i4 x s).lt g;have hsll:∀b,cK sl b->b<W.heap.size:=λb g=>i2.lt g;refine hKN (λb=>b=p\/cK s' b\/∃x∈N++[(S.stake a k,C)],cK x.2 b) W7 ⟨s',N++[(S.stake a k,C)],pv,o6.mod mv λb g e=>?_,?_,λx s=>?_,λb=>fd,λb g=>⟨?_,λx s J=>?_⟩,λx s b g=>?_⟩ ?_ λb g=>?_
    ·rcases n6 b g with t|t
     ·have:=(i6 b t).1;omega
     ·omega
    ·rw[dy,i3,z];rfl
    ·rcases dg.1 s with s|s
     ·refine(((i4 x s).mod t1 eQ).mod F λb g J=>(i6 b J).2 x s g).mod mv λb g e=>?_;have:=i7 x s b g;omega
     ·rw[eK.1 s];refine(t3.mod F λb g J=>?_).mod mv λb g e=>?_
      ·have:=t4 b g;have:=hsll b J;omega
      ·have:=t4 b g;omega
    ·rcases n6 b g with t|t
     ·exact(i6 b t).1
     ·omega
    ·rcases dg.1 s with s|s
     ·rcases n6 b g with t|t
      ·exact(i6 b t).2 x s J
      ·have:=hold x s b J;omega
     ·rw[eK.1 s]at J;rcases n6 b g with t|t
      ·have:=t4 b J;have:=hsll b t;omega
      ·have:=t3.lt J;omega
    ·rcases dg.1 s with s|s
     ·exact i7 x s b g
     ·rw[eK.1 s]at g;have:=t4 b g;omega
    ·exact((t1.to (G:=X)).on F λb g=>.inl ((i5 b).2 (.inr (.inl g)))).on mv λb g=>.inl ((i5 b).2 (.inl g))
    ·rcases g with rfl|g|⟨x,s,g⟩
     ·exact⟨.inl ((i5 _).2 (.inl rfl)),qZ⟩
     ·refine⟨(n6 b g).imp (λt=>(i5 b).2 (.inr (.inl t))) λt=>qZ,?_⟩;have:=o6.lt g;omega
     ·rcases dg.1 s with s|s
      ·exact⟨.inl ((i5 b).2 (.inr (.inr ⟨x,s,g⟩))),by have:=hold x s b g;omega⟩
      ·rw[eK.1 s]at g;exact⟨.inr (by have:=t4 b g;omega),by have:=t3.lt g;omega⟩
 ·rintro X W d hd ⟨sl,N,i1,i2,i3,i4,i5,i6,i7⟩ mW hdef hX;have e:wJ S a S.cal.l.length=S.stakes a:=by unfold wJ Ven.stakes;rw[cN]
  rw[e]at i3;unfold WP;simp only[iJ];obtain⟨na,nc,U,-⟩:=i2.isSl;apply cx sl W (by rw[U]at i1|-;simp[go_sem,i1])
  have hLl:N.length<=16:=by
   have:=fC List.length i3;rw[cz]at this;rw[this];unfold Ven.stakes;rw[cz];exact dD (dm _ _) Q.cal.len
  refine PA i2.rd qZ (λx s=>?_) λW2 mW2=>?_
  ·have hm:x.1∈S.stakes a:=by rw[<-i3];exact dn s
   unfold Ven.stakes at hm;obtain⟨k,hk,he⟩:=cF.1 hm;have:=L6 Q (a:=a) (cO.1 hk).1;rw[he]at this;exact⟨this.1,qZ,(i4 x s).rd⟩
  ·rw[i3,<-hneed];have g2W:=mW2.hpk (mW.hpk g2 qZ) id;refine qS0 ?_;refine qS0 ?_;obtain⟨w7,e7,b7,m7⟩:=Sl (S.need a).1 g2W rfl;apply ir e7;have hdW:=m7.hpk (mW2.hpk hdef id) qZ;refine Bz hdW λW3 mr=>?_;apply dp (MI _ (mr.hpk b7 qZ));apply fin (S.need a).1 (S.need a).2 W3 rfl;refine(((M6.on mW λb g=>gz).trans mW2).on m7 λb g=>gz).on mr λb g=>gz
end
def Ou:∀(l:List Lg) (a:List Rt) (k:Int),0<=k->a.length=9->(∀r∈a,r.Bd k)->(∀x∈l,A2 x=true)->(l.foldl pV a).length=9/\∀r∈l.foldl pV a,r.Bd (k+l.length)
 | [],a,k,_,b,d,_=>⟨b,by simpa using d⟩
 |x::l,a,k,h,b,d,f=>by
  rw[ig];have i:(pV a x).length=9:=by unfold pV;split;exact b;split;rw[ey];exact b;exact b
  obtain⟨g,n⟩:=Ou l (pV a x) (k+1) qZ i (D4 h d (f x cw)) λy j=>f y (cu _ j);refine⟨g,λr m=>?_⟩;have:=n r m;rw[dc];have e:k+1+(l.length:Int)=k+((l.length+1:Nat):Int):=qZ
  rwa[e]at this
def MV(l:List Lg):0<=(ng l).1/\(ng l).1<=14400000000000000:=by
 unfold ng;split
 ·simp
 ·rename_i k
  split
  ·simp
  ·rename_i b
   split
   ·simp
   ·have a:∀x∈l,A2 x=true:=λx n=>dF.1 (by simpa using b) x n
    obtain⟨h,f⟩:=Ou l (List.replicate 9 S7) 0 qZ (by simp) (λr d=>by
     rw[lg d];exact⟨by decide,by decide,by decide,by decide,by decide,by decide,by decide,by decide⟩) a
    have m:=Ik (l:=l.foldl pV (List.replicate 9 S7)) λr d=>by
     obtain⟨o,s,i,p,j,q,g,e⟩:=f r d;have:(l.length:Int)<=16:=qZ;exact⟨o,qZ,i,qZ,j,qZ,g,e⟩
    rw[h]at m;simp only;omega
def RO(l:List Stk):(0<=(needR l).1.m/\(needR l).1.m<=14400000000000000)/\(0<=(needR l).1.w/\(needR l).1.w<=200000000000000000)/\0<=(needR l).1.u/\(needR l).1.u<=17600000000000000:=by
 unfold needR;split
 ·simp
 ·rename_i g
  split
  ·simp
  ·rename_i e
   have d:∀x∈l,x.ok=true:=λx f=>dF.1 (by simpa using e) x f;split
   ·simp
   ·have a:=MV (l.map (·.leg));have b:=E4 d;have c:=PU d;have:(l.length:Int)<=16:=qZ;simp only;omega
def Fx(S:Ven)(a:Int):(0<=(S.need a).1.m/\(S.need a).1.m<=14400000000000000)/\(0<=(S.need a).1.w/\(S.need a).1.w<=200000000000000000)/\0<=(S.need a).1.u/\(S.need a).1.u<=17600000000000000:=by
 unfold Ven.need;split
 ·simp
 ·exact RO _
def SE(S:Ven)(a:Int):0<=(S.need a).1.total/\(S.need a).1.total<=240000000000000000:=by
 have:=Fx S a;unfold Nd.total;omega
def WM(n:Nd)(W:Wt_):∃b d,(iA yg true (.tuple #[])).run pQ W=.ok (pt W.heap.size 0) b/\(iS yg (pt W.heap.size 0) (IJ n)).run pQ b=.ok () d/\hC d W.heap.size (wY n).toArray yg/\M0 W d:=by
 obtain⟨b,a⟩:=dW (W.alloc (.cells (wY BM).toArray yg));have g:M0 W b:=by rw[a];exact(de.refl _ W).alloc _
 have e:hC b W.heap.size (wY BM).toArray yg:=by rw[a];simp[go_sem]
 obtain⟨d,i,h,f⟩:=Sl n e rfl;exact⟨b,d,by rw[a];simp[go_sem,wY,BM],i,h,g.on f λx j=>gz⟩
section
variable{w:Wt_}{K:cG}{v c l mb md:Nat}{A:List (Int×Nat)}{D:List (Int×Value)}{fp:Pt->Nat->Prop}{S:Ven}
def Au{a:Int}(h:ik w v c l mb md A D fp S)(t:S.Ok)(hK:∀C,M0 w C->K (gI (S.bears a)) C):Ca pQ 124 #[eY v,gU a] w K:=by
 apply ar3;refine HH h t λB Y=>?_;obtain⟨N,O⟩:=dW (S.need a);have u:=Fx S a;have x:=SE S a;rw[<-O]at u x|-;have b:S.bears a=if N.2≠0 then N.2 else if(S.acc a).cash<N.1.total then 161 else 0:=by unfold Ven.bears;rw[<-O]
 refine qS0 ?_;refine qS0 ?_;obtain⟨w2,T,H,I,E,Z⟩:=WM N.1 B;obtain⟨q,V⟩:=dW B.heap.size;rw[<-V]at H I E;refine cI H (ir I ?_);have p:=Y.trans Z;have J:=h.md0 p;have fin:∀e W,S.bears a=e->M0 w W->K (gI e) W:=λe W j m=>by grind
 by_cases j:N.2≠0
 ·refine qSt1 j ?_;exact fin N.2 T (by grind) p
 have n:N.2=0:=by simpa using j
 refine qSf1 n ?_;rw[aZ j]at b;simp only[eY,dr];refine cI (jk 1 qZ _) (cI (ld1 _ J.blk) ?_);refine ug J.led λz Q=>?_;rw[oV];obtain⟨ac,k⟩:=dW (S.acc a);rw[<-k]at b|-;refine qS0 ?_;refine qS0 ?_;obtain⟨w5,o,R,M,G,F⟩:=C0 ac z;obtain⟨r,X⟩:=dW z.heap.size;rw[<-X]at R M G;refine cI R (ir M ?_);have d:M0 o o.drew:=mP;have i:=d.hpk G id;have L:=d.hpk (F.hpk (Q.hpk E id) id) id;have s:=((p.trans Q).trans F).trans d
 try dsimp only
 generalize o.drew=w7 at d i L s|-;unfold dH at i;have g:∀W,hC W r #[.int .u32 ac.num,gI ac.cash,.bool ac.kil,.bool ac.dfl] 70->(iL 2 (pt r 1)).run pQ W=.ok (gI ac.cash) W:=λW U=>by simp[go_sem,U]
 refine qPv0 (pt r 1) (dp (g _ i) ?_);apply dp (MI _ L);refine MD ⟨qZ,qZ⟩ ⟨qZ,qZ⟩ ⟨qZ,qZ⟩ ⟨qZ,qZ⟩ λP y=>?_;refine⟨g _ (y.hpk i id),?_⟩;by_cases f:ac.cash<N.1.total
 ·refine qPt1 f ?_;exact fin 161 P (by grind) (s.trans y)
 ·refine qPf1 f ?_;exact fin 0 P (by grind) (s.trans y)
end
abbrev Vy:TypeId:=111
def PS(t:Td):Value:=.agg (Fg t).toArray
def Uu(t:Td):(Fg t).length=4:=rfl
def aB8{s:Vt_}{L:List Td}(h:Rd w 4 s L.length (L.flatMap Fg)){i:Nat}(hi:i<L.length):
  ∃p,(iX 48 s (gI (i:Int))).run pQ w=.ok p w/\(iL Vy p).run pQ w=.ok (PS L[i]) w:=by
 obtain⟨b,f,m,d,j,n⟩:=h.item Uu hi rfl;obtain⟨C,e,fz,hC,a⟩:=n.get;have g0:=a 0 (gI L[i].price) rfl;have g1:=a 1 (gI L[i].qty) rfl;have g:=a 2 (gQ L[i].num) rfl;have k:=a 3 (gU L[i].acct) rfl;simp only[jU,dS]at g0 g1 g k;exact⟨.pointer (some ⟨b,f+i*4,none⟩),by rw[d];simp[go_sem,hi,cS,JA],by simp[go_sem,fy hC,g0,g1,g,k,PS,Fg]⟩
def Zq(t:Td)(W:Wt_):∃a d,(iA Vy true (.tuple #[])).run pQ W=.ok (pt W.heap.size 0) a/\(iS Vy (pt W.heap.size 0) (PS t)).run pQ a=.ok () d/\hC d W.heap.size (Fg t).toArray Vy/\M0 W d:=by
 obtain⟨a,b⟩:=dW (W.alloc (.cells #[.int .i64 0,gI 0,gQ 0,gU 0] Vy));have f:M0 W a:=by rw[b];exact(de.refl _ W).alloc _
 have e:hC a W.heap.size #[.int .i64 0,gI 0,gQ 0,gU 0] Vy:=by rw[b];simp[go_sem]
 refine⟨a,(((a.setCell ⟨W.heap.size,0,none⟩ (gI t.price)).setCell ⟨W.heap.size,1,none⟩ (gI t.qty)).setCell ⟨W.heap.size,2,none⟩ (gQ t.num)).setCell ⟨W.heap.size,3,none⟩ (gU t.acct),by rw[b];simp[go_sem],by simp[go_sem,e,PS,Fg],by simp[go_sem,e,Fg],?_⟩;exact f.on (((((de.refl (λx=>x=W.heap.size) a).sc).sc).sc).sc) λx g=>gz
def Df{K:cG}{v:Nat}{F:NP_}{S:Ven}{n:Int}{o:Od}{p:Pm}{sT sG:Vt_}(h:lw w v F S)(hok:S.Ok)(hal:ex S.cal.l n=0)(B:Ji w sT sG p.trades p.gone)(J:∀x,cK sT x\/cK sG x->¬F x)(hlen:p.trades.length<=1000)
  (hK:∀s m w',lw w' v F (S.traded n o p).2.2->vG w' s m dv (S.traded n o p).2.1->de F w w' ->(∀x,cK s x\/cK m x->cK sT x\/cK sG x)->
   K (.tuple #[ud (S.traded n o p).2.1 s m dv,gI (S.traded n o p).1]) w'):Ca pQ 143 #[eY v,gU n,oG o,.agg (uy sT sG p.filled p.left)] w K:=by
 obtain⟨c,l,mb,md,A,D,fp,hr,hF⟩:=h;apply ar8;obtain⟨ta,tc,E,-⟩:=B.tr.isSl;obtain⟨ga,gc,N,-⟩:=B.go.isSl;obtain⟨w1,e1,b1,m1⟩:=vt o w;apply cI e1;obtain⟨I,hq0⟩:∃q,q=w.heap.size:=⟨_,rfl⟩
 rw[<-hq0]at b1|-;obtain⟨u,hq1⟩:∃q,q=w1.heap.size:=⟨_,rfl⟩
 have m2:M0 w1 (w1.alloc (.cells (uy sT sG p.filled p.left) 230)):=lm;have b2:hC (w1.alloc (.cells (uy sT sG p.filled p.left) 230)) u (uy sT sG p.filled p.left) 230:=by rw[hq1];simp[go_sem]
 apply cx (pt u 0) (w1.alloc (.cells (uy sT sG p.filled p.left) 230)) (by rw[hq1];rfl);generalize w1.alloc (.cells (uy sT sG p.filled p.left) 230)=w2 at m2 b2|-;obtain⟨w3,e3,b3,m3⟩:=qy w2;apply cI e3;obtain⟨q2,hq2⟩:∃q,q=w2.heap.size:=⟨_,rfl⟩
 rw[<-hq2]at b3|-;have M3:=(m1.trans m2).trans m3;have c1:=m3.hpk (m2.hpk b1 id) id;have c2:=m3.hpk b2 id;unfold uy at c2;unfold fL at c1;have hlt1:I<u:=by have:=cB b1;omega
 have hlt2:u<q2:=by have:=cB b2;omega
 have hFl:∀x,F x->x<I:=λx g=>by obtain⟨pt,hp⟩:=(hF x).1 g;have:=hr.lt hp;omega
 have hTl:∀x,cK sT x->x<I:=λx g=>by have:=B.tr.lt g;omega
 have hGl:∀x,cK sG x->x<I:=λx g=>by have:=B.go.lt g;omega
 refine qS0 ?_;apply cx sT w3 (by rw[E]at c2|-;simp[go_sem,c2]);apply jm (gI (p.trades.length:Int)) w3 (by rw[E];simp[go_sem]);have hun:pL n:=alive_u32 hok.cal hal;have V:∀x,fp .led x->F x:=λx g=>(hF x).2 ⟨_,g⟩
 have fin:∀(r:Rp) (e:Int) (M:Ven) s m W,S.traded n o p=(e,r,M)->lw W v F M->vG W s m dv r->de F w W->(∀x,cK s x\/cK m x->cK sT x\/cK sG x)->K (.tuple #[ud r s m dv,gI e]) W:=λr e M s m W he a b d f=>by
  have hk:=hK s m W;rw[he]at hk;exact hk a b d f
 refine eS (λst W=>∃(i:Nat) (y:Vt_) (L:Led),i<=p.trades.length/\st=(y,gI i,())/\ik W v c l mb md A D fp {S with led:=L}/\tradeL n o p.trades S.led=tradeL n o (p.trades.drop i) L/\de F w W/\hC W I #[.int .u64 o.num,gU o.acct,.bool o.buy,gI o.price,gI o.left] pz/\
   hC W u #[sT,sG,gI p.filled,gI p.left] 230/\hC W q2 (mC zRp dv dv dv).toArray lx)
  (λst _=>match st.2.1 with| .int _ i=>p.trades.length - i.toNat|_=>0) ⟨0,_,S.led,qZ,rfl,hr.md0 M3,rfl,M3.to,c1,c2,b3⟩ ?_
 rintro⟨_,_,_⟩ W ⟨i,y,L,hi,⟨⟩,i1,i2,i3,i4,i5,i6⟩ KN hKN;unfold RI;intro _;have hPW:Ji W sT sG p.trades p.gone:=B.mod i3 (λx g=>J x (.inl g)) λx g=>J x (.inr g);by_cases hlt:i<p.trades.length
 ·have hlt' :(i:Int)<(p.trades.length:Int):=qZ;refine qSt1 hlt' ?_;obtain⟨pp,x1,x2⟩:=aB8 hPW.tr.rd hlt;refine cI x1 (cI x2 ?_);obtain⟨t,ht⟩:=dW (p.trades[i]);rw[<-ht];have T:p.trades.drop i=t::p.trades.drop (i+1):=by rw[ht];exact(gK hlt).symm
  obtain⟨w4,w5,v1,v2,v3,v4⟩:=Zq t W;obtain⟨q3,hq3⟩:∃q,q=W.heap.size:=⟨_,rfl⟩
  rw[<-hq3]at v1 v2 v3;refine cI v1 (ir v2 ?_);have k:M0 w5 w5.drew:=mP;have u3:=k.hpk v3 id;have M5:=v4.trans k;have Z:=i1.md0 M5;have G:=M5.hpk i4 id;have Y:=M5.hpk i5 id;have j6:=M5.hpk i6 id
  try dsimp only
  generalize w5.drew=w6 at k u3 M5 Z G Y j6|-;unfold Fg at u3;refine qP0 ?_;refine qW1 G ?_;refine qP0 ?_;refine qW1 u3 ?_;refine⟨by simp[go_sem,u3],?_⟩;refine dK.at (λst W' =>st=(gU (if o.buy then o.acct else t.acct),gU (if o.buy then t.acct else o.acct),())/\w6=W') ?_ ?_
  ·refine qS0 ?_;refine qS1 G ?_;refine qS0 ?_;cases o.buy with
   |true=>
    rw[cy,aZ (by simp)];exact⟨by simp,rfl⟩
   |false=>
    rw[cy,bZ (by simp)];exact⟨by simp,rfl⟩
  rintro _ _ ⟨rfl,rfl⟩;unfold PZ;intro _;simp only[eY,dr];have j:M0 w6 w6.drew:=mP;have R:=j.hpk u3 id;have M6:=M5.trans j;have H:=Z.md0 j;have j4' :=j.hpk G id;have j5' :=j.hpk Y id;have j6' :=j.hpk j6 id
  try dsimp only
  generalize w6.drew=w7 at j R M6 H j4' j5' j6' |-;refine dw (jk 1 qZ) (dp (ld1 _ H.blk) ?_);refine qP0 ?_;refine qW1 R ?_;refine qP0 ?_;refine qW1 R ?_;refine IF H.led hun λw8 q8 m8=>?_;obtain⟨X,hX⟩:=dW (L.trade n (if o.buy then o.acct else t.acct) (if o.buy then t.acct else o.acct) t.price t.qty);replace q8:lA w8 l (fp .led) X.2:=by rw[hX];exact q8
  show rv pQ (qE .neq _ true (gI (L.trade n (if o.buy then o.acct else t.acct) (if o.buy then t.acct else o.acct) t.price t.qty).1) (gI 0)) w8 _;rw[<-hX];have U:∀x,x=I\/x=u\/x=q2->¬fp .led x:=λx g hf=>by grind
  have k4:=m8.hpk j4' (U _ (.inl rfl));have k5:=m8.hpk j5' (U _ (.inr (.inl rfl)));have k6:=m8.hpk j6' (U _ (.inr (.inr rfl)));have k1:ik w8 v c l mb md A D fp {S with led:=X.2}:=H.setLed m8 q8;have M8:de F w w8:=(i3.trans (M6.to)).on m8 λx g=>.inl (V x g);rw[T]at i2
  have z:tradeL n o (t::p.trades.drop (i+1)) L=if X.1≠0 then X else tradeL n o (p.trades.drop (i+1)) X.2:=by
   rw[hX];rfl
  by_cases C:X.1≠0
  ·rw[bZ C]at z;refine qSt1 C ?_;apply cI (aA0 _);obtain⟨w9,e9,b9,m9⟩:=pl (r:=zRp) k6 rfl ⟨gJ,gJ,gJ⟩;refine ir e9 (dp (lB b9) ?_);refine fin zRp X.1 {S with led:=X.2} dv dv w9 ?_ ⟨c,l,mb,md,A,D,fp,k1.mod m9 λpt x g e=>by have:=hFl x ((hF x).2 ⟨pt,g⟩);omega,hF⟩ (vG.nil _ 0) (M8.on m9 λb hb=>gz) λx g=>by rcases g with g|g<;>cases g
   unfold Ven.traded;simp only;rw[i2,z,bZ C]
  ·rw[aZ C]at z;have hX0:X.1=0:=by simpa using C
   refine qSf1 hX0 ?_;apply cx (gI ((i+1:Nat):Int)) w8 (by simp[go_sem];rw[wI_]);exact hKN _ _ ⟨i+1,_,X.2,qZ,rfl,k1,by rw[i2,z],M8,k4,k5,k6⟩ (by grind)
 ·obtain rfl:i=p.trades.length:=qZ;refine qSf0 ?_;rw[fg (cJ _)]at i2;have z:tradeL n o p.trades S.led=(0,L):=i2;obtain⟨M,hS'⟩:=dW ({S with led:=L}:Ven)
  have O:S.traded n o p=(M.bears o.acct,⟨0,o.num,p.filled,p.left,p.trades,p.gone,[]⟩,M):=by
   unfold Ven.traded;simp only;rw[z,aZ (by simp),<-hS']
  have hok' :M.Ok:=by
   have:=traded_ok hok hun hal o p;rw[O]at this;exact this
  rw[<-hS']at i1;have k:M0 W W.drew:=mP;have Z:=i1.md0 k;have G:=k.hpk i4 id;have Y:=k.hpk i5 id;have j6:=k.hpk i6 id
  try dsimp only
  generalize W.drew=w6 at k Z G Y j6|-;have la:∀W,hC W I #[.int .u64 o.num,gU o.acct,.bool o.buy,gI o.price,gI o.left] pz->(iL 24 (pt I 0)).run pQ W=.ok (gQ o.num) W:=λW hW=>by simp[go_sem,hW]
  have lb:∀W,hC W u #[sT,sG,gI p.filled,gI p.left] 230->(iL 2 (pt u 2)).run pQ W=.ok (gI p.filled) W/\(iL 2 (pt u 3)).run pQ W=.ok (gI p.left) W/\
    (iL 48 (pt u 0)).run pQ W=.ok sT W/\(iL 49 (pt u 1)).run pQ W=.ok sG W:=λW hW=>by
   rw[E,N]at hW|-;simp[go_sem,hW]
  obtain⟨l1,l2,l3,l4⟩:=lb _ Y;refine qPv0 (pt I 0) (dp (la _ G) ?_);refine qPv0 (pt u 2) (dp l1 ?_);refine qPv0 (pt u 3) (dp l2 ?_);refine qPv0 (pt u 0) (dp l3 ?_);refine qPv0 (pt u 1) (dp l4 ?_);obtain⟨r,Q⟩:=dW (⟨0,o.num,p.filled,p.left,p.trades,p.gone,[]⟩:Rp);apply dX (ud r sT sG dv) (λ_=>by rw[Q,E,N];simp[go_sem,ud,dv]);refine qP0 ?_;refine qW1 G ?_;refine Au Z hok' λw7 m7=>?_;obtain⟨n1,n2,n3,n4⟩:=lb _ (m7.hpk Y id);refine⟨n4,n3,n2,n1,la _ (m7.hpk G id),?_⟩;obtain⟨w9,e9,b9,m9⟩:=pl (r:=r) (sT:=sT) (sG:=sG) (sA:=dv) (m7.hpk j6 id) rfl ⟨⟨_,_,_,E⟩,⟨_,_,_,N⟩,gJ⟩;refine ir e9 (dp (lB b9) ?_);rw[<-Q]at O;have MM:M0 W w7:=k.trans m7;have hP7:=hPW.mod MM eQ eQ;have P:=hP7.mod m9 (λx g e=>by grind) λx g e=>by grind
  refine fin r _ M sT sG w9 O ⟨c,l,mb,md,A,D,fp,(Z.md0 m7).mod m9 λpt x g e=>by have:=hFl x ((hF x).2 ⟨pt,g⟩);omega,hF⟩ ?_ ((i3.trans (MM.to)).on m9 λb hb=>gz) λx g=>g;rw[Q];exact⟨P.tr,P.go,jo.nil _ _ _,P.dj,λx _ g=>(by cases g),λx _ g=>(by cases g)⟩
end Go.Proofs
