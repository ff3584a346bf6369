/- Part of a proof. -/
import Derived.Test.YtekbnpagidkbbaaGreatT19
set_option linter.all false
set_option maxRecDepth 100000
set_option maxHeartbeats 4000000
namespace Go.Proofs
open Go Go.Vc
def nTd:Tryz.prog.cellsOf tTd=3+1:=cH
def WS(x:Td)(w:Wt_)(b off:Nat)(h:At w b off (Gv x)):(iL tTd (cU b off)).run pQ w=.ok (Zm x) w:=by
 obtain⟨C,e,k,hC,d⟩:=h.get;have i:=d 0 (gI x.price) rfl;have g:=d 1 (gI x.qty) rfl;have f:=d 2 (gQ x.num) rfl;have j:=d 3 (gU x.acct) rfl;simp only[bM]at i g f j;simp[go_sem,cO hC,i,g,f,j,Zm,Gv]
attribute [go_sem] Zm Gv rpC Ka uX
abbrev IF(e n f l:Int)(t g u:Vt_):List Value:=[.int .i64 e,gQ n,gI f,gI l,t,g,u]
abbrev O6:List Value:=IF 0 0 0 0 (.slice none 0 0) (.slice none 0 0) (.slice none 0 0)
abbrev plX(t g:Vt_)(f l:Int):List Value:=[t,g,gI f,gI l]
abbrev ZT(o:Od):List Value:=[.int .u64 o.num,gU o.acct,.bool o.buy,gI o.price,gI o.left]
section
variable{L L0 M:List As}{φ:WP}{K:Value->WP}{v c l mb md b:Nat}{A:List (Int×Nat)}{D:List (Int×Value)}{S:ba}{n a:Int}{bk:Int->Bk}{bd:Int->List Od}{B:Bk}{s:Vt_}{os:List Od}
def Gs.tdn(h:Gs (Ey (eM (none,0) 0) []::L) φ):Gs L φ:=Gs.nil tTd 4 h
def Gs.idn(h:Gs (tX (eM (none,0) 0) []::L) φ):Gs L φ:=Gs.nil 37 1 h
def Gs.uin(h:Gs (CM (eM (none,0) 0) []::L) φ):Gs L φ:=Gs.nil 45 1 h
structure Yr(r:Rp):Prop where
 t:r.trades.length<=1000000
 g:r.gone.length<=1000000
 a:r.accts.length<=1000000
def yJ{o:Od}:∀(L:List Od) (left:Int),(eu o left L).2.2.2.1.length<=L.length
 | [],_=>aB _
 |b::r,left=>by
  unfold eu;split
  ·exact aw _
  ·split
   ·exact Nat.succ_le_succ (yJ r left)
   ·split
    ·exact aw _
    ·exact Nat.le_succ_of_le (yJ r _)
def Eh{B:Bk}{o:Od}{r:Bool}(e:∀d,(B d).length<=100):(eP B o r).2.gone.length<=100:=by
 have g:=yJ (o:=o) (B !o.buy) o.left;have f:=e !o.buy;unfold eP;simp only;split<;>(simp only;omega)
def SD(v c l mb md:Nat)(A:List (Int×Nat))(x:Int×Rp×ba)(L:List As)(K:Value->WP):Prop:=
 ∀t g u D',nQ A D' x.2.2.cal.l x.2.2.bk->Yr x.2.1->Gs (vs v c l mb md A D' x.2.2 (Ey (eM t x.2.1.trades.length) x.2.1.trades::tX (eM g x.2.1.gone.length) x.2.1.gone::CM (eM u x.2.1.accts.length) x.2.1.accts::L)) (K (.tuple #[Ka x.2.1 (eM t x.2.1.trades.length) (eM g x.2.1.gone.length) (eM u x.2.1.accts.length),gI x.1]))
def SD.fail{x:Int×Rp×ba}{e:Int}{T:ba}(h:SD v c l mb md A x L K)(f:x=(e,jo,T))(d:nQ A D T.cal.l T.bk)(p:Sb L0 (vs v c l mb md A D T L):=by exact sbZ):Gs L0 (K (.tuple #[Ka jo (.slice none 0 0) (.slice none 0 0) (.slice none 0 0),gI e])):=by
 subst f;refine Gs.fin ?_ p;refine Gs.tdn (Gs.idn (Gs.uin ?_));have:=h (none,0) (none,0) (none,0) D d ⟨aw _,aw _,aw _⟩
 dsimp only[jo,List.length_nil]at this
 exact this.fin
def GA{o:Od}{t:Td}{l:List Td}{X:bq}:oK n o (t::l) X=if(X.trade n (if o.buy then o.acct else t.acct) (if o.buy then t.acct else o.acct) t.price t.qty).1≠0 then X.trade n (if o.buy then o.acct else t.acct) (if o.buy then t.acct else o.acct) t.price t.qty else oK n o l (X.trade n (if o.buy then o.acct else t.acct) (if o.buy then t.acct else o.acct) t.price t.qty).2:=rfl
def BS{o:Od}{p:Pm}{t g:Option Addr×Nat}(C:nQ A D S.cal.l S.bk)(r:S.Ok)(u:bt S.cal.l n=0)(E:p.trades.length<=1000)(N:p.gone.length<=1000)(z:SD v c l mb md A (S.traded n o p) L K)
  (pk:bL L0 (Ey (eM t p.trades.length) p.trades::tX (eM g p.gone.length) p.gone::vs v c l mb md A D S L):=by exact kz):
  Gs L0 (Cw pQ 218 #[eE v,gU n,mi o,.agg (uX (eM t p.trades.length) (eM g p.gone.length) p.filled p.left)] K):=by
 refine Gs.pk ?_ pk;refine sN Tryz.func218 ?_;unfold eE uX;have q:gM n:=mN r.cal u;refine au ?_;intro F;refine au ?_;intro G;refine au ?_;intro O;refine au ?_;refine Gs.l (λx:Nat×Value×bq=>(x.2.1,gI x.1,())) (λx=>p.trades.length - x.1) (λx=>pt O O6 xj::pt G (plX (eM t p.trades.length) (eM g p.gone.length) p.filled p.left) 246::pt F (ZT o) kQ::Ey (eM t p.trades.length) p.trades::tX (eM g p.gone.length) p.gone::vs v c l mb md A D {S with led:=x.2.2} L) (λx=>x.1<=p.trades.length/\oK n o p.trades S.led=oK n o (p.trades.drop x.1) x.2.2) (0,gI 0,S.led) rfl ⟨aw _,rfl⟩ ?_ (by simp only[List.length_nil,bo,bS,ey,aC,jq,lX];(repeat first|(with_reducible exact bL.refl)|((apply kp);(·repeat first|(with_reducible exact cF)|(with_reducible apply cS)))));rintro⟨i,y,X⟩ ⟨I,d⟩ P k
 dsimp only at I d k|-
 refine Gs.z (au ?_);refine Gs.I (λh=>?_) λh=>?_
 ·have j:i<p.trades.length:=qZ;refine Gs.it JL nTd Ms WS (λw y=>mZ gy w y) rfl j (au ?_);intro Q;have f:p.trades.drop i=p.trades[i]::p.trades.drop (i+1):=(bR j).symm;rw[f]at d;generalize p.trades[i]=x at d|-;refine au ?_;refine Gs.j1 (gU (if o.buy then o.acct else x.acct),gU (if o.buy then x.acct else o.acct),()) (λJ H=>au ?_) ?_
  ·refine Gs.Ib (λh=>?_) λh=>?_ <;>simpa [show o.buy=_ from by simpa using h]using H
  dsimp only
  refine Gs.z (au ?_);refine Iu q (au ?_);rw[GA]at d;generalize X.trade n (if o.buy then o.acct else x.acct) (if o.buy then x.acct else o.acct) x.price x.qty=Y at d|-;refine Gs.Ib (λh=>?_) λh=>?_
  ·rw[ab (by simpa using h)]at d
   have e:S.traded n o p=(Y.1,jo,{S with led:=Y.2}):=by
    unfold ba.traded;simp only;rw[d,ab (by simpa using h)]
   refine au ?_;exact z.fail (D:=D) e C
  ·rw[aa (by simpa using h)]at d;refine au ?_;exact(k (i+1,_,Y.2) ⟨qZ,d⟩ (by dsimp only;omega)).fin
 ·obtain rfl:i=p.trades.length:=qZ;rw[cg (aB _)]at d;have d:oK n o p.trades S.led=(0,X):=d
  have e:S.traded n o p=(({S with led:=X}:ba).bears o.acct,⟨0,o.num,p.filled,p.left,p.trades,p.gone,[]⟩,{S with led:=X}):=by
   unfold ba.traded;simp only;rw[d,aa (by simp)]
  have m:({S with led:=X}:ba).Ok:=by
   have:=yH r q u o p;rw[e]at this;exact this
  refine au ?_;refine za (S:={S with led:=X}) C m ?_;refine au ?_;rw[e]at z;refine Gs.uin ?_;have:=z t g (none,0) D C ⟨by dsimp only;omega,by dsimp only;omega,aw _⟩
  dsimp only[List.length_nil]at this
  exact this.fin
end
end Go.Proofs
namespace Go.Proofs
open Go Go.Vc
def BX(S:ba)(x:Cm):(S.order x).2.2.cal=S.cal/\(S.order x).2.2.bk=S.bk:=by
 unfold ba.order
 dsimp only
 split
 ·exact⟨rfl,rfl⟩
 ·grind
def Kh{B:Bk}{o:Od}{k:Int}(e:∀d,(B d).length<=100):(cE B o k).2.2.gone.length<=100:=by
 unfold cE
 repeat' split
 all_goals first|exact aw _|exact Eh e
section
variable{L L0 M:List As}{φ:WP}{K:Value->WP}{v c l mb md b:Nat}{A:List (Int×Nat)}{D:List (Int×Value)}{S:ba}{n a:Int}{bk:Int->Bk}{bd:Int->List Od}{B:Bk}{s:Vt_}{os:List Od}
def Vn(d:lk A n=some b)(p:bL L (Ld mb A::M):=by exact gy):∀w,Ss w L->(jF 90 (.map (some mb)) (gU n) false).run pQ w=.ok (fe b) w:=λw z=>(fg p z).elim λF q=>YT q.1 d
def NW{x:Cm}(O:nQ A D S.cal.l S.bk)(i:S.Ok)(H:x.Fit)(V:x.acct≠0)(F:SD v c l mb md A (S.place x) L K)(pk:bL L0 (vs v c l mb md A D S L):=by exact kz):Gs L0 (Cw pQ 141 #[eE v,Aa x] K):=by
 refine Gs.pk ?_ pk;refine sN Tryz.func141 ?_;unfold eE;refine au ?_;intro p;refine au ?_;intro q;refine au ?_;refine Gs.X (λw z=>eG gy FN Am (dV x) w z) ?_;refine DT O i H ?_;have U:=BX S x
 have e:S.place x=if(S.order x).1≠0 then((S.order x).1,jo,(S.order x).2.2)else
   (if(cE ((S.order x).2.2.bk x.ct) (S.order x).2.1 x.ty).1≠0 then((cE ((S.order x).2.2.bk x.ct) (S.order x).2.1 x.ty).1,jo,{(S.order x).2.2 with bk:=eR (S.order x).2.2.bk x.ct (cE ((S.order x).2.2.bk x.ct) (S.order x).2.1 x.ty).2.1})
    else({(S.order x).2.2 with bk:=eR (S.order x).2.2.bk x.ct (cE ((S.order x).2.2.bk x.ct) (S.order x).2.1 x.ty).2.1}:ba).traded x.ct (S.order x).2.1 (cE ((S.order x).2.2.bk x.ct) (S.order x).2.1 x.ty).2.2):=rfl
 by_cases N:(S.order x).1≠0
 ·rw[ab N]at e;refine au ?_;intro r;refine au ?_;refine Gs.Ib (λ_=>?_) λh=>absurd N (by simpa using h);refine au ?_;exact F.fail e (D:=D) (by rw[U.1,U.2];exact O)
 rw[aa N]at e;obtain⟨j,R,G⟩:=pX V (Decidable.not_not.1 N);rw[G]at e|-
 dsimp only at e|-
 have m:(x.od S.next).Fit:=Bz H ⟨by have:=i.next;omega,by unfold ll at R;omega⟩;have P:(cE (S.bk x.ct) (x.od S.next) x.ty).2.2.gone.length<=100:=Kh λd=>(i.ord.side _ d).1;have C:(cE (S.bk x.ct) (x.od S.next) x.ty).2.2.trades.length<=100:=OQ λd=>(i.ord.side _ d).1;obtain⟨b,k⟩:=xp O (pD j.alive);have f:=Ol i H V (Decidable.not_not.1 N);generalize x.od S.next=o at m C P e f|-;refine au ?_;intro r;refine au ?_;obtain⟨X,Q⟩:=dW (cE (S.bk x.ct) o x.ty);rw[<-Q]at C P e f
 refine Gs.j (λy:Nat×(Option Addr×Nat)×Option Addr×Nat=>(.pointer (some ⟨y.1,0,none⟩),gI X.1,())) (λy=>pt y.1 (plX (eM y.2.1 X.2.2.trades.length) (eM y.2.2 X.2.2.gone.length) X.2.2.filled X.2.2.left) 246::Ey (eM y.2.1 X.2.2.trades.length) X.2.2.trades::tX (eM y.2.2 X.2.2.gone.length) X.2.2.gone::
   pt r (ZT o) kQ::pt q O6 xj::pt p (jI x) rF::vs v c l mb md A D {S with next:=S.next+1,bk:=eR S.bk x.ct X.2.1} L) (λ_=>True) (λJ T=>?_) λy _=>?_
 ·refine au ?_;refine Gs.WX (Vn k) ?_;refine au ?_;refine Gs.An ?_ (au ?_)
  ·refine qH k ?_;refine tJ m H.2.2.2.2.2.2.1 (λt g=>?_);rw[<-Q];refine tC k ?_;refine au ?_;intro y;refine au ?_;exact(T (y,t,g) trivial).fin
  ·intro y;refine au ?_;refine Gs.E (Vn k) ?_;refine au ?_;refine qH k ?_;refine tJ m H.2.2.2.2.2.2.1 (λt g=>?_);rw[<-Q];refine tC k ?_;refine au ?_;exact(T (y,t,g) trivial).fin
 obtain⟨y,t,g⟩:=y
 dsimp only
 refine Gs.z (au ?_);refine Gs.Ib (λh=>?_) λh=>?_
 ·rw[ab (by simpa using h)]at e;refine au ?_;exact F.fail e (D:=D) (O.upb k)
 ·rw[aa (by simpa using h)]at e;rw[e]at F;refine au ?_;refine BS (S:={S with next:=S.next+1,bk:=eR S.bk x.ct X.2.1}) (t:=t) (g:=g) (p:=X.2.2) (O.upb k) (f (by simpa using h)) j.alive qZ qZ (λt g u W E I=>?_);generalize ba.traded _ x.ct o X.2.2=Y at F E I|-;refine au ?_;exact(F t g u W E I).fin
end
end Go.Proofs
namespace Go.Proofs
open Go Go.Vc
attribute [local congr] bj
variable {S:ba}
def Ov(h:S.Ok){c:Cm}(f:c.Fit)(a:c.acct≠0)(d:(S.order c).1=0)(j:¬50<=(S.bd c.ct).length):({S with bd:=eR S.bd c.ct (S.bd c.ct++[c.od S.next]),next:=S.next+1}:ba).Ok:=by
 obtain⟨hp,g,i⟩:=pX a d;have b:=h.next
 have e:=h.ord.addBd (n:=c.ct) (x:=c.od S.next) (nx:=S.next+1) hp.alive (EO a qZ hp.price hp.qty) (Bz f ⟨qZ,by unfold ll at g;omega⟩)
  (by show S.next<_;omega) hp.stands (tz h.ord) qZ qZ
 exact⟨h.cal,h.led,e,⟨by grind,by grind⟩,h.fnd⟩
def sV{n:Int}:n∈S.nums↔(bU S.cal.l n).isSome=true:=by
 unfold ba.nums bU;rw[aD,List.find?_isSome];constructor
 ·grind
 ·grind
def NF(h:rE S){a num n:Int}{o:Od}(u:n∈S.nums)(b:uy S.bk a num n=some (o,n)):S.find a num=some (o,n):=by
 have s:(S.find a num).isSome=true:=by
  unfold ba.find;rw[List.findSome?_isSome_iff];exact⟨n,u,by rw[b];rfl⟩
 obtain⟨⟨t,g⟩,k⟩:=ek.1 s;obtain⟨z,y,r,d,p,q⟩:=pN k
 have e:∃j,(S.bk n).find num=some (o,j):=by
  unfold uy at b;cases i:(S.bk n).find num with
  |none=>rw[i]at b;cases b
  |some x=>
   rw[i]at b;simp only at b;split at b
   ·grind
   ·cases b
 obtain⟨j,e⟩:=e;have m:=xg e;have f:n=g:=h.apart n g o t (g8 m.1) (g8 p) (by rw[m.2,r]);subst f;rw[q]at e;simp only[gD,mV]at e;rw[k,e.1]
def EA{α:Type}{R:List α}{i:Nat}{p x:α}(h:R[i]? =some p)(b:x∈R):x=p\/x∈R.eraseIdx i:=by
 have:=(nv h).mem_iff (a:=x);rw[this]at b;exact aq.1 b
section
variable{w:Wt_}{K:be}{v c l mb md:Nat}{A:List (Int×Nat)}{D:List (Int×Value)}{fp:Pt->Nat->Prop}{S:ba}
def bkO(B:Option (Od×Bool)):Od:=match B with|none=>ou|some (o,_)=>o
def bkE(B:Option (Od×Bool)):Int:=match B with|none=>7|some _=>0
def fiB(a n:Int)(B:Option (Od×Bool)):Option (Od×Int):=match B with|some (o,_)=>if o.acct=a then some (o,n)else none|none=>none
def OW{w:Wt_}{K:be}{b:Nat}{F:NP_}{B:Bk}{n:Int}(h:gW w b F B)
  (d:∀a,M0 w a->K (.tuple #[mi (bkO (B.find n)),gI (bkE (B.find n))]) a):Ca pQ 268 #[fe b,gQ n] w K:=NM h d
def RA(x:Option (Od×Int)):Od:=match x with|some y=>y.1|none=>ou
def QT(x:Option (Od×Int)):Int:=match x with|some y=>y.2|none=>0
end
end Go.Proofs
namespace Go.Proofs
open Go Go.Vc
section
variable{L L0 M:List As}{φ:WP}{K:Value->WP}{v c l mb md b:Nat}{A:List (Int×Nat)}{D:List (Int×Value)}{S:ba}{n a:Int}{bk:Int->Bk}{bd:Int->List Od}{B:Bk}{s:Vt_}{os:List Od}
section
variable{P:Program}{k:Value->WP}{xv s1:Vt_}{cs:LV_}{e t:TypeId}{sz by_:Nat}
def Gs.lit1(m:P.underlying t=some (.slice e))(g:fj P e sz by_=true)(f:xv.cells.toList=cs)(d:xv.cells.size=sz)(p:sz<=1000)(i:∀b,Gs (ow (.slice (some ⟨b,0,none⟩) 1 1) e sz 1 cs::L) (k (.slice (some ⟨b,0,none⟩) 1 1))):Gs L (Xw P (qL t 1 [(0,xv)]) k):=⟨λw y=>by
 refine oE [xv] m (dG g) rfl rfl (by intro v j;rw[bX.1 j];exact d) qZ ?_;have h:(([xv]:LV_).flatMap (·.cells.toList)).toArray=cs.toArray:=by simp[<-f]
 rw[h];refine(i _).go _ (y.new ((bn.refl _ w).alloc _) (F' :=aQ (.slice (some ⟨w.heap.size,0,none⟩) 1 1)) ⟨⟨by rw[<-f];simp[d],.inr ⟨_,1,[],rfl,aB _,by rw[dZ,ab rfl];simp,by simp,by simp⟩⟩,λ_=>aI⟩ λb o=>?_);have:w.heap.size=b:=by simpa [aQ,Mm]using o
 omega⟩
def Gs.snd{α:Type}{l:List α}{x:α}{f:α->List Value}(g:P.underlying t=some (.slice e))(h:fj P e sz by_=true)(d:(f x).all (·.oneCell')=true)(j:(l.length+1)*by_<=140737488355328)
  (i:∀a c,Gs (ow (.slice a (l++[x]).length c) e sz (l++[x]).length ((l++[x]).flatMap f)::M) (k (.slice a (l++[x]).length c)))(p:bL L (ow s e sz l.length (l.flatMap f)::ow s1 e sz 1 (f x)::M):=by exact kz):Gs L (Xw P (ff #[t,t] t [s,s1]) k):=by
 refine Gs.pk (Gs.app g g h (λw y=>mZ (M:=ow s e sz l.length (l.flatMap f)::M) .swap w y) d j (λa c=>?_) .refl) p;have:=i a c;rw[ad,bD]at this;exact(by simpa using this:Gs (ow _ _ _ _ _::M) _).fin
end
def CI(p:bL L (Lm md D::M):=by exact gy):∀w,Ss w L->(jF 91 (.map (some md)) (gU n) false).run pQ w=.ok (ly D n) w:=λw z=>(fg p z).elim λF q=>Xx q.1 n
def Ts{x:Cm}(C:nQ A D S.cal.l S.bk)(m:S.Ok)(G:x.Fit)(H:x.acct≠0)(E:SD v c l mb md A (S.bid x) L K)(pk:bL L0 (vs v c l mb md A D S L):=by exact kz):Gs L0 (Cw pQ 142 #[eE v,Aa x] K):=by
 refine Gs.pk ?_ pk;refine sN Tryz.func142 ?_;unfold eE;refine au ?_;intro p;refine au ?_;intro q;refine au ?_;refine Gs.X (λw z=>eG gy FN Am (dV x) w z) ?_;refine DT C m G ?_;have F:=BX S x
 have d:S.bid x=if(S.order x).1≠0 then((S.order x).1,jo,(S.order x).2.2)else if 50<=((S.order x).2.2.bd x.ct).length then(9,jo,(S.order x).2.2)
   else(({(S.order x).2.2 with bd:=eR (S.order x).2.2.bd x.ct ((S.order x).2.2.bd x.ct++[(S.order x).2.1])}:ba).bears x.acct,⟨0,(S.order x).2.1.num,0,(S.order x).2.1.left,[],[],[]⟩,{(S.order x).2.2 with bd:=eR (S.order x).2.2.bd x.ct ((S.order x).2.2.bd x.ct++[(S.order x).2.1])}):=rfl
 by_cases u:(S.order x).1≠0
 ·rw[ab u]at d;refine au ?_;intro r;refine au ?_;refine Gs.Ib (λ_=>?_) λh=>absurd u (by simpa using h);refine au ?_;exact E.fail d (D:=D) (by rw[F.1,F.2];exact C)
 rw[aa u]at d;obtain⟨g,I,j⟩:=pX H (Decidable.not_not.1 u);rw[j]at d|-
 dsimp only at d|-
 have i:=Ov m G H (Decidable.not_not.1 u);generalize x.od S.next=o at d i|-;refine au ?_;intro r;refine au ?_;refine Gs.WX CI ?_;refine Gs.lenW gR (ni x.ct) (au ?_);refine Gs.I (λh=>?_) λh=>?_
 ·rw[ab qZ]at d;refine au ?_;exact E.fail d (D:=D) C
 rw[aa qZ]at d;rw[d]at E;refine au ?_;refine Gs.WX CI ?_;refine au ?_;refine Gs.lit1 gR Ny (cs:=dp o) rfl rfl qZ λb=>?_;refine au ?_;refine Gs.E CI ?_;refine au ?_;refine vg (n:=x.ct) ?_
 dsimp only
 refine Gs.snd (l:=S.bd x.ct) (x:=o) (f:=dp) gR Ny (lR o) qZ (λy z=>?_)
 ·refine au ?_;refine Gs.mup (enc:=eS) (ev:=AP) (x:=x.ct) (v:=.slice y (S.bd x.ct++[o]).length z) qw kL ?_ gy;refine yO (n:=x.ct) ?_;refine au ?_;refine za (S:={S with bd:=eR S.bd x.ct (S.bd x.ct++[o]),next:=S.next+1}) (C.put (pD g.alive)) (i qZ) ?_;refine au ?_;refine Gs.tdn (Gs.idn (Gs.uin ?_));have:=E (none,0) (none,0) (none,0) _ (C.put (s:=.slice y (S.bd x.ct++[o]).length z) (pD g.alive)) ⟨aw _,aw _,aw _⟩
  dsimp only[List.length_nil]at this
  exact this.fin
end
end Go.Proofs
namespace Go.Vc
open Go Go.Proofs
section
variable{P:Program}{κ ν:Type} [DecidableEq κ]{enc:κ->Value}{ev:ν->Value}{t kt e:TypeId}{b it:Nat}{D R:List (κ×ν)}{L M:List As}{k:Value->WP}{φ:WP}{c:Option (κ×ν)}{p:κ×ν}
def ME(enc:κ->Value)(ev:ν->Value)(b:Nat)(D:List (κ×ν))(it:Nat)(R:List (κ×ν))(c:Option (κ×ν)):As:=
 ⟨λw F=>fI enc ev w b D/\kR enc ev w it b R/\(∀p,c=some p->yz enc ev w it b p)/\∀x,F x↔x=b\/x=it,
 λh hb=>((h.2.2.2 _).1 hb).elim (λe=>e▸h.1.lt) λe=>e▸h.2.1.lt.2,
 λh m hg=>⟨h.1.mod m (hg _ ((h.2.2.2 _).2 (.inl rfl))),h.2.1.mod m (hg _ ((h.2.2.2 _).2 (.inl rfl))) (hg _ ((h.2.2.2 _).2 (.inr rfl))),λp hp=>(h.2.2.1 p hp).mod m (hg _ ((h.2.2.2 _).2 (.inl rfl))) (hg _ ((h.2.2.2 _).2 (.inr rfl))),h.2.2.2⟩⟩
def Gs.rng(j:P.underlying t=some (.map kt e))(n:∀it,Gs (ME enc ev b D it D none::M) (k (cU it 0)))(q:bL L (mp enc ev b D::M)):Gs L (Xw P (Bf t (.map (some b))) k):=⟨λw ⟨F,z⟩=>by
 obtain⟨u,l,a,d,o,s⟩:=(q.out w F).1 z;refine sQ j a.1 λg i m=>(n _).go g (Ss.cons.2 ⟨λx=>x=b\/x=w.heap.size,l,⟨a.1.mod m id,i,λ_ h=>(by cases h),λ_=>aI⟩,d.md m eI,λx r f=>?_⟩);rcases r with rfl|rfl
 ·exact o _ ((a.2 _).2 rfl) f
 ·have:=d.lt f;omega⟩
def Gs.mpo(h:Gs (mp enc ev b D::M) φ)(q:bL L (ME enc ev b D it R c::M)):Gs L φ:=⟨λw ⟨F,z⟩=>by
 obtain⟨l,d,a,f,g,m⟩:=(q.out w F).1 z;exact h.go w (Ss.cons.2 ⟨λx=>x=b,d,⟨a.1,λ_=>aI⟩,f,λx j i=>g x ((a.2.2.2 x).2 (.inl j)) i⟩)⟩
def Gs.nxt(v:R=[]->Gs (mp enc ev b D::M) (k (.tuple #[.bool false])))(A:∀i p,R[i]? =some p->Gs (ME enc ev b D it (R.eraseIdx i) (some p)::M) (k (.tuple #[.bool true,enc p.1,ev p.2])))(q:bL L (ME enc ev b D it R c::M)):
  Gs L (Xw P (Ea (cU it 0) false t) k):=⟨λw ⟨F,z⟩=>by
 obtain⟨N,n,⟨o,r,J,h⟩,l,j,I⟩:=(q.out w F).1 z
 have g:b≠it:=λe=>by
  obtain⟨es,Q,H,s,E,-⟩:=r;rw[e,E]at s;cases s
 refine vq r (λB f m K=>?_) λi p C f G u m O=>?_
 ·exact(v B).go f (Ss.cons.2 ⟨λx=>x=b,n,⟨o.mod m id,λ_=>aI⟩,l.md m eI,λx a d=>j x ((h x).2 (.inl a)) d⟩)
 ·exact(A i p C).go f (Ss.cons.2 ⟨λx=>x=b\/x=it,n,⟨o.mod m g,G,λq y=>by cases y;exact u,λ_=>aI⟩,l.md m λx a d=>j x ((h x).2 (.inr d)) a,λx a d=>j x ((h x).2 a) d⟩)⟩
def Gs.ent(a:Gs L (k (.tuple #[enc p.1,ev p.2])))(q:bL L (ME enc ev b D it R (some p)::M)):Gs L (Xw P (Bh (cU it 0)) k):=⟨λw y=>(fg q y).elim λF h=>so (h.2.2.1 p rfl) (a.go w y)⟩
def Gs.mpN(h:(D.map (·.1)).Nodup->Gs L φ)(q:bL L (mp enc ev b D::M)):Gs L φ:=⟨λw y=>(fg q y).elim λF a=>(h a.1.1).go w y⟩
def Cy{α:Type}{R:List α}{i:Nat}{p x:α}(h:R[i]? =some p)(a:x∈R):x=p\/x∈R.eraseIdx i:=by
 obtain⟨d,rfl⟩:=aF.1 h;have e:R=R.take i++R[i]::R.drop (i+1):=by rw[bR,ce]
 rw[e,aN,aq]at a;rw[List.eraseIdx_eq_take_drop_succ,aN];exact a.elim (λh=>.inr (.inl h)) λh=>h.imp id .inr
def Gs.fm{S:Type}{st:S}{body:S->(S->WP)->WP}(q:κ×ν->Prop)(I:As->List As)(m:(D.map (·.1)).Nodup)
  (h:∀R c,(∀p∈R,p∈D)->(∀p∈D,p∈R\/q p)->∀K:S->WP,(∀i p,R[i]? =some p->q p->Gs (I (ME enc ev b D it (R.eraseIdx i) (some p))) (K st))->Gs (I (ME enc ev b D it R c)) (body st K))(l:bL L (I (ME enc ev b D it D none))):Gs L (Lw body st):=
 Gs.l (λ_:List (κ×ν)×Option (κ×ν)=>st) (·.1.length) (λx=>I (ME enc ev b D it x.1 x.2)) (λx=>(∀p∈x.1,p∈D)/\∀p∈D,p∈x.1\/q p) (D,none) rfl ⟨λ_ h=>h,λ_ h=>.inl h⟩ (λx d K j=>h x.1 x.2 d.1 d.2 K λi p g hp=>j (x.1.eraseIdx i,some p) ⟨λy f=>d.1 y ((eO _ _).mem f),λy f=>by
  rcases d.2 y f with a|a
  ·rcases Cy g a with rfl|a
   ·exact .inr hp
   ·exact .inl a
  ·exact .inr a⟩ (by
  have:=(aF.1 g).1;show(x.1.eraseIdx i).length<x.1.length;rw[gh this];omega)) l
end
end Go.Vc
namespace Go.Proofs
open Go Go.Vc
attribute [local congr] bj
def Le{S:ba}(h:S.Ok){n:Int}(d:n∈S.nums):n≠0/\gM n:=by
 obtain⟨k,b,rfl⟩:=aD.1 d;obtain⟨c,a,-⟩:=h.cal.ok k b;constructor
 ·unfold Sp.may at a;simp only[ah,ax]at a;omega
 ·exact c.1.1
def Sv{S:ba}(h:rE S){a num n:Int}{i:Nat}(p:n∈S.nums)(f:(S.bd n).findIdx? (vF a num)=some i):S.nums.findSome? (uD S.bd a num)=some (i,n):=by
 have o:(S.nums.findSome? (uD S.bd a num)).isSome=true:=by
  rw[List.findSome?_isSome_iff];exact⟨n,p,by unfold uD;rw[f];rfl⟩
 obtain⟨⟨s,q⟩,g⟩:=ek.1 o;obtain⟨m,r,b⟩:=List.exists_of_findSome?_eq_some g;unfold uD at b;cases c:(S.bd m).findIdx? (vF a num)with
 |none=>rw[c]at b;cases b
 |some j=>
  rw[c]at b;simp only[eA,gD,mV]at b;obtain⟨rfl,rfl⟩:=b;obtain⟨k,d,-⟩:=bg.1 f;obtain⟨l,e,-⟩:=bg.1 c;unfold vF at d e;simp only[ah,ax]at d e;have:=h.apart n m _ _ (iV (ar k)) (iV (ar l)) (by rw[d.1,e.1]);subst this;rw[f]at c;cases c;exact g
def Is{α:Type}(l:List α)(i:Nat):l.take i++l.drop (i+1)=l.eraseIdx i:=(List.eraseIdx_eq_take_drop_succ l i).symm
def XT{w:Wt_}{p:Nat}{x:Cm}(h:CK w p x)(l:List Od):Ez w (.func (.func 214) #[] #[.pointer (some ⟨p,0,none⟩)]) (vF x.acct x.num) l:=by
 refine⟨_,_,rfl,λo k W i K j=>?_⟩;show Ca pQ _ [mi o,.pointer (some ⟨p,0,none⟩)].toArray W K;refine cN Tryz.func214 ?_;obtain⟨a,g,d,e⟩:=tQ o W;apply dy g;have f:CK a p x:=e.hpk (i.hpk h id) id;refine az (cU W.heap.size 0) a (by simp[go_sem]) (az (gQ o.num) a (by simp[go_sem,d,dp]) ?_);refine dy (aq4 _) (dy (an4 f) ?_);apply az (.bool (decide (o.num=x.num))) a (by simp[go_sem];rfl);have b:=j a e;unfold vF at b;by_cases c:o.num=x.num
 ·rw[zZ c];refine az (cU W.heap.size 1) a (by simp[go_sem]) (az (gU o.acct) a (by simp[go_sem,d,dp]) ?_);refine dy (aj4 _) (dy (am3 f) ?_);apply az (.bool (decide (o.acct=x.acct))) a (by simp[go_sem];rfl);rw[aA c,cK]at b;exact b
 ·rw[JV c];rw[aG c,bh]at b;exact b
end Go.Proofs
namespace Go.Proofs
open Go Go.Vc
attribute [local congr] bj
def QV{B:Bk}{o:Od}{r:Bool}(c:∀d,(B d).length<=100):(eP B o r).2.trades.length<=100:=by
 have a:∀(L:List Od) (left:Int),(eu o left L).2.2.1.length<=L.length:=by
  intro L;induction L with
  |nil=>intro left;simp[eu]
  |cons b r e=>
   intro left;unfold eu;split
   ·simp
   ·split
    ·grind
    ·split
     ·simp
     ·grind
 have g:=a (B !o.buy) o.left;have f:=c !o.buy;unfold eP;simp only;split<;>(simp only;omega)
def HJ{B:Bk}{n p l:Int}(a:∀d,(B d).length<=100):(co B n p l).2.2.trades.length<=100:=by
 unfold co;split
 ·simp
 ·split
  ·simp
  ·split
   ·simp
   ·refine QV λe=>?_
    rename_i d _ _ _
    by_cases h:e=d
    ·subst h;rw[Bk.set_self];unfold oB;exact bK (List.eraseP_sublist).length_le (a _)
    ·rw[Bk.set_ne _ _ h];exact a _
end Go.Proofs
namespace Go.Proofs
open Go Go.Vc
section
variable{L L0 M:List As}{φ:WP}{K:Value->WP}{v c l mb md b:Nat}{A:List (Int×Nat)}{D:List (Int×Value)}{S:ba}{n a:Int}{bk:Int->Bk}{bd:Int->List Od}{B:Bk}{s:Vt_}{os:List Od}
def OF{m:Int}(e:lk A n=some b)(d:Gs L (K (.tuple #[mi (bkO ((bk n).find m)),gI (bkE ((bk n).find m))])))(p:bL L (qG A bk::M):=by exact gy):Gs L (Cw pQ 268 #[fe b,gQ m] K):=
 Gs.rd1 (A:=qG A bk) (λw F _ q K h=>q.elim λf q=>OW (q.q n b trivial e) h) d p
def Hh{a num:Int}(E:nQ A D S.cal.l S.bk)(x:rE S)(g:Gs L0 (K (.tuple #[mi (RA (S.find a num)),gU (QT (S.find a num))])))(pk:bL L0 (vs v c l mb md A D S L):=by exact kz):Gs L0 (Cw pQ 211 #[eE v,gU a,gQ num] K):=by
 refine Gs.pk ?_ pk;replace g:=Gs.pk g pk.symm;refine sN Tryz.func211 ?_;unfold eE;refine au ?_;intro q;refine au ?_;refine Gs.mpN (enc:=eS) (ev:=fe) (D:=A) (λz=>?_) gy;refine Gs.rng xw (λit=>?_) gy;refine Gs.fm (λp=>uy S.bk a num p.1=none) (λX=>X::pt q (ZT ⟨0,0,false,0,0⟩) kQ::O9 v c l mb md S.next::lT c S.cal::jV l S.led::Lm md D::qG A S.bk::tq D S.bd::L) z ?_ kz;intro R c O H P j;refine Gs.z ?_;refine Gs.nxt (λF=>?_) (λi p C=>?_) gy
 ·subst F
  have e:S.find a num=none:=by
   unfold ba.find;rw[List.findSome?_eq_none_iff];intro n N;have:=E.dom n;rw[sV.1 N]at this;obtain⟨b,G⟩:=ek.1 this;exact(H _ (yy G)).elim (λh=>by cases h) id
  rw[e]at g;refine au ?_;exact g.fin
 have k:lk A p.1=some p.2:=rN z (O p (cP C));have m:p.1∈S.nums:=sV.2 (by rw[<-E.dom p.1,k];rfl);refine au ?_;refine Gs.ent ?_ gy;refine au ?_;refine OF k ?_;have f:uy S.bk a num p.1=fiB a p.1 ((S.bk p.1).find num):=rfl;have u:=j i p C;clear j;generalize(S.bk p.1).find num=Y at f|-;refine au ?_;intro r;refine au ?_;refine Gs.j1 (.bool (fiB a p.1 Y).isSome,()) (λJ w=>?_) ?_
 ·cases Y with
  |none=>
   refine au ?_;refine Gs.Ib (λh=>absurd h (by simp[bkE])) λ_=>?_;exact w
  |some y=>
   refine au ?_;refine Gs.Ib (λ_=>?_) λh=>absurd h (by simp[bkE]);obtain⟨o,d⟩:=y;refine au ?_
   dsimp only[fiB,bkO]at w|-
   by_cases h:o.acct=a<;>simpa [h,show(o.acct==a)=decide (o.acct=a)from rfl]using w
 refine Gs.z ?_;refine Gs.Ib (λh=>?_) λh=>?_
 ·obtain⟨o,d,rfl,t⟩:∃o d,Y=some (o,d)/\o.acct=a:=by
   unfold fiB at h;split at h
   ·rename_i o d
    split at h
    ·grind
    ·cases h
   ·cases h
  have I:uy S.bk a num p.1=some (o,p.1):=by rw[f];exact ab t
  rw[NF x m I]at g;refine Gs.mpo ?_ gy;refine au ?_;exact g.fin
 ·exact(u (by rw[f];simpa using h)).fin
end
end Go.Proofs
namespace Go.Proofs
open Go Go.Vc
def Ev{B:Bk}{n p l:Int}(f:∀d,(B d).length<=100):(co B n p l).2.2.gone.length<=100:=by
 unfold co
 repeat' split
 all_goals first|exact aw _|skip
 refine Eh λe=>?_
 rename_i d _ _ _
 by_cases h:e=d
 ·subst h;rw[Bk.set_self];unfold oB;exact bK (List.eraseP_sublist).length_le (f _)
 ·rw[Bk.set_ne _ _ h];exact f _
section
variable{L L0 M:List As}{φ:WP}{K:Value->WP}{v c l mb md b:Nat}{A:List (Int×Nat)}{D:List (Int×Value)}{S:ba}{n a:Int}{bk:Int->Bk}{bd:Int->List Od}{B:Bk}{s:Vt_}{os:List Od}
def wJ{m p l:Int}(hp:dM p)(hl:dM l)(h:∀x y,Gs (Cp b (co B m p l).2.1::Ey (eM x (co B m p l).2.2.trades.length) (co B m p l).2.2.trades::tX (eM y (co B m p l).2.2.gone.length) (co B m p l).2.2.gone::M)
   (K (.tuple #[.agg (uX (eM x (co B m p l).2.2.trades.length) (eM y (co B m p l).2.2.gone.length) (co B m p l).2.2.filled (co B m p l).2.2.left),gI (co B m p l).1])))(q:bL L (Cp b B::M):=by exact gy):
  Gs L (Cw pQ 217 #[fe b,gQ m,gI p,gI l] K):=by
 generalize j:co B m p l=X at h
 exact Gs.old (A:=Cp b B) (val:=λx:(Option Addr×Nat)×Option Addr×Nat=>.tuple #[.agg (uX (eM x.1 X.2.2.trades.length) (eM x.2 X.2.2.gone.length) X.2.2.filled X.2.2.left),gI X.1]) (p:=λ_=>True) (B:=λx=>(Cp b X.2.1).mul ((Ey (eM x.1 X.2.2.trades.length) X.2.2.trades).mul (tX (eM x.2 X.2.2.gone.length) X.2.2.gone))) (λw F _ q K h=>HT q hp hl λe sT E i f o u g nn=>by
  rw[j]at f o|-;obtain⟨z,k,rfl,-⟩:=o.tr.isSl;obtain⟨t,r,rfl,-⟩:=o.go.isSl;exact h ((z,k),t,r) i (λy=>e y\/aQ _ y\/aQ _ y) trivial ⟨e,_,f,⟨aQ _,aQ _,⟨o.tr,λ_=>aI⟩,⟨o.go,λ_=>aI⟩,o.dj,λ_=>aI⟩,λy d C=>(nn y C).2 d,λ_=>aI⟩ u λy d=>d.elim (g y) λh=>.inr (nn y h).1) (λx _=>((h x.1 x.2).pk (bL.cons My)).pk My) q
def GH{x:Cm}(w:nQ A D S.cal.l S.bk)(f:S.Ok)(V:x.Fit)(W:x.acct≠0)(z:SD v c l mb md A (S.replace x) L K)(pk:bL L0 (vs v c l mb md A D S L):=by exact kz):Gs L0 (Cw pQ 140 #[eE v,Aa x] K):=by
 refine Gs.pk ?_ pk;refine sN Tryz.func140 ?_;unfold eE;have O:=V;obtain⟨f1,f2,f3,f4,f5,f6,f7,H,R⟩:=O;refine au ?_;intro p;refine au ?_;intro q;refine au ?_;refine Hh w f.ord ?_
 have e:S.replace x=match S.find x.acct x.num with
   |none=>(7,jo,S)
   |some (o,n)=>if S.pass x.acct n o.buy x.price x.qty o≠0 then(S.pass x.acct n o.buy x.price x.qty o,jo,S)else
   (if(co (S.bk n) x.num x.price x.qty).1≠0 then((co (S.bk n) x.num x.price x.qty).1,jo,{S with bk:=eR S.bk n (co (S.bk n) x.num x.price x.qty).2.1})
    else({S with bk:=eR S.bk n (co (S.bk n) x.num x.price x.qty).2.1}:ba).traded n o (co (S.bk n) x.num x.price x.qty).2.2):=rfl
 cases G:S.find x.acct x.num with
 |none=>
  rw[G]at e
  dsimp only[RA,QT]
  refine au ?_;intro r;refine au ?_;exact z.fail e (D:=D) w
 |some y=>
 obtain⟨o,n⟩:=y;rw[G]at e
 dsimp only at e
 obtain⟨F,hoa,Z,d,T,hfd⟩:=pN G;have I:=jm (f.ord.std n o (g8 T)).may
 dsimp only[RA,QT]
 refine au ?_;intro r;refine au ?_;refine Gs.Ib (λh=>absurd (by simpa using h) (Le f F).1) λ_=>au ?_;refine HF w f H R ⟨qZ,I.2⟩ ?_;by_cases k:S.pass x.acct n o.buy x.price x.qty o≠0
 ·rw[ab k]at e;refine au ?_;refine Gs.Ib (λ_=>?_) λh=>absurd k (by simpa using h);refine au ?_;exact z.fail e (D:=D) w
 rw[aa k]at e;have k:=Decidable.not_not.1 k;have m:=xY W k;obtain⟨b,j⟩:=xp w (sV.1 F);have i:=zN f V W G k;have Q:(co (S.bk n) x.num x.price x.qty).2.2.gone.length<=100:=Ev λd=>(f.ord.side _ d).1;have N:(co (S.bk n) x.num x.price x.qty).2.2.trades.length<=100:=HJ λd=>(f.ord.side _ d).1;rw[k];refine au ?_;obtain⟨X,P⟩:=dW (co (S.bk n) x.num x.price x.qty);rw[<-P]at N Q e i
 refine Gs.j (λy:Nat×(Option Addr×Nat)×Option Addr×Nat=>(.pointer (some ⟨y.1,0,none⟩),gI X.1,())) (λy=>pt y.1 (plX (eM y.2.1 X.2.2.trades.length) (eM y.2.2 X.2.2.gone.length) X.2.2.filled X.2.2.left) 246::Ey (eM y.2.1 X.2.2.trades.length) X.2.2.trades::tX (eM y.2.2 X.2.2.gone.length) X.2.2.gone::
   pt r (ZT o) kQ::pt q O6 xj::pt p (jI x) rF::vs v c l mb md A D {S with bk:=eR S.bk n X.2.1} L) (λ_=>True) (λJ U=>?_) λy _=>?_
 ·refine au ?_;refine Gs.WX (Vn j) ?_;refine au ?_;refine Gs.An ?_ (au ?_)
  ·refine qH j ?_;refine wJ H R (λt g=>?_);rw[<-P];refine tC j ?_;refine au ?_;intro y;refine au ?_;exact(U (y,t,g) trivial).fin
  ·intro y;refine au ?_;refine Gs.E (Vn j) ?_;refine au ?_;refine qH j ?_;refine wJ H R (λt g=>?_);rw[<-P];refine tC j ?_;refine au ?_;exact(U (y,t,g) trivial).fin
 obtain⟨y,t,g⟩:=y
 dsimp only
 refine Gs.z (au ?_);refine Gs.Ib (λh=>?_) λh=>?_
 ·rw[ab (by simpa using h)]at e;refine au ?_;exact z.fail e (D:=D) (w.upb j)
 ·rw[aa (by simpa using h)]at e;rw[e]at z;refine au ?_;refine BS (S:={S with bk:=eR S.bk n X.2.1}) (t:=t) (g:=g) (p:=X.2.2) (w.upb j) (i (by simpa using h)) m.alive qZ qZ (λt g u D' C E=>?_);generalize ba.traded _ n o X.2.2=Y at z C E|-;refine au ?_;exact(z t g u D' C E).fin
end
end Go.Proofs
namespace Go.Proofs
open Go Go.Vc
abbrev Zs(a:Ac):List Value:=[.int .u32 a.num,gI a.cash,.bool a.kil,.bool a.dfl]
section
variable{L L0 M:List As}{φ:WP}{K:Value->WP}{v c l mb md b:Nat}{A:List (Int×Nat)}{D:List (Int×Value)}{S:ba}{n a:Int}{bk:Int->Bk}{bd:Int->List Od}{B:Bk}{s:Vt_}{os:List Od}
def Ip{fv:Vt_}{f:Od->Bool}(h:∀w,Ss w L->Rd w 5 s os.length (os.flatMap dp))(g:∀w,Ss w L->Ez w fv f os)(hl:os.length<=100000)(d:Gs L (K (gI (qE os f)))):Gs L (Cw pQ 213 #[s,fv] K):=
 ⟨λw y=>vO (h w y) qZ (g w y) λe m=>d.go e (y.md0 m)⟩
def C2{i j:Nat}(e:i<j)(t:j<=os.length)(r:os.length<=1000000)(k:∀d,Gs (lX d (os.take i++os.drop j)::M) (K d))(p:bL L (lX s os::M):=by exact gy):Gs L (Cw pQ 215 #[s,gI (i:Int),gI (j:Int)] K):=
 Gs.old (A:=lX s os) (val:=λd=>d) (p:=λ_=>True) (B:=λd=>lX d (os.take i++os.drop j)) (λw F _ q K h=>un q.1 e t r λd g o m n=>h d g (aQ d) trivial ⟨o,λ_=>aI⟩ (m.mono λy _ f=>(q.2 y).2 f) λy f=>.inl ((q.2 y).2 (n y f))) (λd _=>k d) p
def Gs.itL{k:Value->WP}{i n:Nat}(t:∀w,Ss w L->Rd w 5 s n (os.flatMap dp))(h:n=os.length)(hi:i<os.length)(m:Gs L (k (gI os[i].left))):Gs L (Pw pQ (iX tZ s (gI (i:Int))) λp=>Pw pQ (iF kQ p 4) λq=>Ww pQ (iL 2 q) k):=⟨λw y=>by
 obtain⟨b,e,o,f,g,r⟩:=(t w y).item dH hi h;obtain⟨C,x,u,hC,j⟩:=r.get;have d:=j 4 _ rfl;rw[fd]at d;refine eQ (cU b (e+i*5)) (λW=>by rw[f];subst h;simp[go_sem,hi,bQ,gR]) ?_;refine eQ (cU b (e+i*5+4)) (λ_=>by simp[go_sem,bQ]) (mE (gI os[i].left) (by simp[go_sem,hC,d]) (m.go w y))⟩
def KA(h:(∀n,lk D n=none->bd n=[])->Gs L φ)(p:bL L (tq D bd::M):=by exact gy):Gs L φ:=⟨λw y=>(fg p y).elim λF q=>(h λn i=>by
 have d:=q.q n trivial;unfold ly at d;rw[i]at d;obtain⟨e,⟨-,j⟩|⟨b,g,rest,f,-⟩⟩:=d
 ·grind
 ·cases f).go w y⟩
def JR{x:Cm}(C:nQ A D S.cal.l S.bk)(m:S.Ok)(hx:x.Fit)(z:SD v c l mb md A (S.cancel x) L K)(pk:bL L0 (vs v c l mb md A D S L):=by exact kz):Gs L0 (Cw pQ 139 #[eE v,Aa x] K):=by
 refine Gs.pk ?_ pk;refine sN Tryz.func139 ?_;unfold eE;refine au ?_;intro p;refine au ?_;intro q;refine au ?_;refine Hh C m.ord ?_;cases O:S.find x.acct x.num with
 |some y=>
  obtain⟨o,n⟩:=y;have g:S.cancel x=((eY (S.bk n) x.num).1,{jo with num:=x.num,left:=o.left},{S with bk:=eR S.bk n (eY (S.bk n) x.num).2.1}):=by unfold ba.cancel;rw[O]
  obtain⟨G,hoa,hon,d,hod,hfd⟩:=pN O;obtain⟨b,H⟩:=xp C (sV.1 G)
  dsimp only[RA,QT]
  refine au ?_;intro r;refine au ?_;refine Gs.Ib (λ_=>?_) λh=>absurd (by simpa using h) (Le m G).1;refine au ?_;refine Gs.WX (Vn H) ?_;refine au ?_;refine qH H ?_;refine FV ?_;refine tC H ?_;rw[g]at z;refine au ?_;refine Gs.tdn (Gs.idn (Gs.uin ?_));have:=z (none,0) (none,0) (none,0) D (C.upb H) ⟨aw _,aw _,aw _⟩
  dsimp only[List.length_nil,jo]at this
  exact this.fin
 |none=>
  have g:S.cancel x=match S.nums.findSome? (uD S.bd x.acct x.num)with
    |some (i,n)=>(0,{jo with num:=x.num,left:=((S.bd n).getD i ou).left},{S with bd:=eR S.bd n ((S.bd n).eraseIdx i)})
    |none=>(7,jo,S):=by unfold ba.cancel;rw[O];rfl
  dsimp only[RA,QT]
  refine au ?_;intro r;refine au ?_;refine KA (λQ=>?_);refine Gs.mpN (enc:=eS) (ev:=AP) (D:=D) (λU=>?_) gy;refine Gs.rng qw (λit=>?_) gy;refine Gs.fm (λp=>uD S.bd x.acct x.num p.1=none) (λX=>X::pt r (ZT ou) kQ::pt q O6 xj::pt p (jI x) rF::O9 v c l mb md S.next::lT c S.cal::jV l S.led::Ld mb A::qG A S.bk::tq D S.bd::L) U ?_ kz;intro R c hR P KN J;refine Gs.z ?_;refine Gs.nxt (λZ=>?_) (λi y W=>?_) gy
  ·subst Z
   have t:S.nums.findSome? (uD S.bd x.acct x.num)=none:=by
    rw[List.findSome?_eq_none_iff];intro n hn;cases V:lk D n with
    |some s=>exact(P _ (yy V)).elim (λh=>by cases h) id
    |none=>unfold uD;rw[Q n V];rfl
   rw[t]at g;refine au ?_;exact z.fail g (D:=D) C
  obtain⟨n,s⟩:=y;have F:lk D n=some s:=rN U (hR _ (cP W));have N:ly D n=s:=by unfold ly;rw[F];rfl
  have E:(bU S.cal.l n).isSome=true:=C.dod _ (by rw[F];rfl);have Y:=m.ord.bdl n;refine au ?_;refine Gs.ent ?_ gy
  dsimp only[eS,AP]
  refine au ?_;subst N;refine Ip (os:=S.bd n) (f:=vF x.acct x.num) (ni n) (λw y=>XT (nW gy y) _) qZ ?_;cases k:(S.bd n).findIdx? (vF x.acct x.num)with
  |none=>
   have e:qE (S.bd n) (vF x.acct x.num)= -1:=by unfold qE;rw[k]
   rw[e];refine au ?_;exact(J i _ W (by unfold uD;rw[k];rfl)).fin
  |some j=>
   obtain⟨u,hjp,-⟩:=bg.1 k;have e:qE (S.bd n) (vF x.acct x.num)=(j:Int):=by unfold qE;rw[k]
   have I:=Sv m.ord (sV.2 E) k;rw[I]at g
   dsimp only at g
   rw[show(S.bd n).getD j ou=(S.bd n)[j] by simp[u]]at g;rw[e];refine Gs.mpo ?_ gy;refine au ?_;refine Gs.itL (os:=S.bd n) (ni n) rfl u ?_;rw[g]at z;generalize(S.bd n)[j]=o at z|-;refine au ?_;refine vg (n:=n) ?_;rw[show(j:Int)+1=((j+1:Nat):Int) by omega];refine C2 (dv j) u qZ (λT=>?_);rw[Is];refine au ?_;refine Gs.mup (enc:=eS) (ev:=AP) (x:=n) (v:=T) qw kL ?_ gy;refine yO (n:=n) ?_;refine au ?_;refine Gs.tdn (Gs.idn (Gs.uin ?_));have:=z (none,0) (none,0) (none,0) _ (C.put (s:=T) E) ⟨aw _,aw _,aw _⟩
   dsimp only[List.length_nil,jo]at this
   exact this.fin
def Fq{x:Cm}(k:nQ A D S.cal.l S.bk)(f:S.Ok)(i:x.Fit)
  (e:Gs (vs v c l mb md A D {S with led:=(S.led.withdraw x.acct x.amt).2} L) (K (gI (if(S.led.withdraw x.acct x.amt).1≠0 then(S.led.withdraw x.acct x.amt).1 else if(({S with led:=(S.led.withdraw x.acct x.amt).2}:ba).acc x.acct).dfl=true then 120 else({S with led:=(S.led.withdraw x.acct x.amt).2}:ba).bears x.acct))))(pk:bL L0 (vs v c l mb md A D S L):=by exact kz):
  Gs L0 (Cw pQ 133 #[eE v,Aa x] K):=by
 refine Gs.pk ?_ pk;refine sN Tryz.func133 ?_;unfold eE;have d:=zj f (n:=x.acct) (m:=x.amt);obtain⟨t,j,z,y,u,w,q,o,C⟩:=i;refine au ?_;intro p;refine au ?_;refine In j ?_;generalize S.led.withdraw x.acct x.amt=Y at e d|-;refine au ?_;refine Gs.Ib (λh=>?_) λh=>?_
 ·rw[ab (by simpa using h)]at e;exact e.fin
 rw[aa (by simpa using h)]at e;refine Gs.jv (λr=>(.pointer (some ⟨r,0,none⟩),())) (Zs (({S with led:=Y.2}:ba).acc x.acct)) 100 (λJ g=>au ?_) λr=>?_
 ·refine Gs.An ?_ (au ?_)
  ·refine pK ?_;rw[nE {S with led:=Y.2}];refine au ?_;intro r;refine au ?_;exact(g r).fin
  ·intro r;refine au ?_;refine pK ?_;rw[nE {S with led:=Y.2}];refine au ?_;exact(g r).fin
 dsimp only
 refine Gs.z (au ?_);refine Gs.Ib (λh=>?_) λh=>?_
 ·rw[ab h]at e;exact e.fin
 rw[aa (by rw[h];decide)]at e;refine au ?_;exact za (S:={S with led:=Y.2}) k d e.fin
def GC{k:Ct}{f t price qty:Int}{long:Bool}(g:gM k.spec.num)(d:Gs (vs v c l mb md A D {S with led:=(lQ S.led k.spec.num f t long price qty).2} L) (K (gI (lQ S.led k.spec.num f t long price qty).1)))(pk:bL L0 (vs v c l mb md A D S L):=by exact kz):
  Gs L0 (Cw pQ 276 #[eE v,.agg (dh k).toArray,gU f,gU t,.bool long,gI price,gI qty] K):=by
 refine Gs.pk ?_ pk;refine sN Tryz.func276 ?_;unfold eE;unfold lQ at d;refine au ?_;intro r;refine Gs.j1 (gU (if long then f else t),gU (if long then t else f),()) (λJ e=>?_) ?_
 ·cases long<;>exact au e
 dsimp only
 refine Gs.z (au ?_);cases long
 all_goals
  simp only[bE,de,dB]at d|-;refine Iu g ?_;exact d.fin
end
end Go.Proofs
namespace Go.Proofs
open Go Go.Vc
attribute [local congr] bj
variable {a:Int}{ids:List Int}{L:List Od}{p:Nat}{sl s:Vt_}{w:Wt_}{K:be}
section
variable{w:Wt_}{K:be}{v c l mb md:Nat}{A:List (Int×Nat)}{D:List (Int×Value)}{fp:Pt->Nat->Prop}{S:ba}
end
structure qt(w:Wt_)(p:Nat)(sl:Vt_)(ids:List Int):Prop where
 at_:hC w p #[sl] 39
 own:Bb w sl ids
 ne:∀y,aQ sl y->y≠p
def qt.mod{F:NP_}{w' :Wt_}(h:qt w p sl ids)(a:bn F w w')(d:¬F p)(b:∀y,aQ sl y->¬F y):qt w' p sl ids:=⟨a.hpk h.at_ d,h.own.mod a b,h.ne⟩
def qt.ld(h:qt w p sl ids):(iL 39 (cU p 0)).run pQ w=.ok sl w:=by
 obtain⟨a,c,b,-⟩:=h.own.isSl;have:=h.at_;subst b;simp[go_sem,this]
def VM{x:Int}{K:World->Prop}(h:qt w p sl ids)(F:ids.length<=100000)
  (u:∀g b,qt b p g (ids++[x])->bn (λy=>y=p\/aQ sl y) w b->(∀y,aQ g y->aQ sl y\/w.heap.size<=y)->K b):
  rx pQ (qL 39 1 [(0,gQ x)]) w λv s=>rx pQ (ff #[39,39] 39 [sl,v]) s λz B=>ru pQ (iS 39 (cU p 0) z) B K:=by
 refine Rh (x:=x) (f:=oy) Ce (dG Oq) (λ_=>rfl) (Gi x) rfl h.own qZ qZ λE b o q k=>?_;obtain⟨a,i,rfl,-⟩:=o.isSl;have t:=aJ h.at_;have m:=q.hpk h.at_ λC=>h.ne _ C rfl;apply nz (b.setCell ⟨p,0,none⟩ (.slice a (ids++[x]).length i)) (by simp[go_sem,m])
 have d:∀y,aQ (.slice a (ids++[x]).length i) y->y≠p:=λy j e=>by
  rcases k y j with n|n
  ·exact h.ne y n e
  ·omega
 have r:bn (λy=>y=p) b (b.setCell ⟨p,0,none⟩ (.slice a (ids++[x]).length i)):=(bn.refl (λy=>y=p) b).sc;exact u _ _ ⟨by simp[go_sem,m],o.mod r λy j e=>d y j e,d⟩ ((q.mono λ_ _ h=>.inr h).trans (r.mono λ_ _ h=>.inl h)) k
def BI(a:Int)(ids:List Int)(o:Od):List Int:=if kP a o then ids++[o.num]else ids
def FX{o:Od}{n e:Nat}(E:hC w n #[.int .u32 a] 45)(x:qt w e sl ids)(P:ids.length<=100000)(z:n≠e)(G:¬aQ sl n)
  (H:∀b h,qt h e b (BI a ids o)->bn (λy=>y=e\/aQ sl y) w h->(∀y,aQ b y->aQ sl y\/w.heap.size<=y)->(kP a o=false->M0 w h/\b=sl)->K (.bool (kP a o)) h):
  Ca pQ 221 #[mi o,.pointer (some ⟨n,0,none⟩),.pointer (some ⟨e,0,none⟩)] w K:=by
 refine cN Tryz.func221 ?_;obtain⟨f,R,m,j⟩:=tQ o w;apply dy R;obtain⟨q,F⟩:=dW w.heap.size;rw[<-F]at m|-;have i:=j.hpk E id;have g:=x.mod j id eI;have M:=aJ x.at_;have I:=j.size;refine dU.at (λst W=>∃b,qt W e b (BI a ids o)/\bn (λy=>y=e\/aQ sl y) f W/\(∀y,aQ b y->aQ sl y\/f.heap.size<=y)/\(kP a o=false->f=W/\b=sl)) ?_ ?_
 ·refine az (cU q 1) f (by simp[go_sem]) (az (gU o.acct) f (by simp[go_sem,m,dp]) ?_);refine dD i ?_;by_cases d:o.acct=a
  ·have t:kP a o=true:=by unfold kP;simp[d]
   refine ee d ?_;apply dy g.ld;refine az (cU q 0) f (by simp[go_sem]) (az (gQ o.num) f (by simp[go_sem,m,dp]) ?_);refine VM g P λb h T O C=>?_;refine⟨b,?_,O,C,λB=>by grind⟩;unfold BI;rw[t];exact T
  ·have t:kP a o=false:=by unfold kP;simp[d]
   refine fH d ?_;refine⟨sl,?_,rC,λy u=>.inl u,λ_=>⟨rfl,rfl⟩⟩;unfold BI;rw[t];exact g
 rintro _ W ⟨b,Q,s,J,L⟩;refine qk ?_;intro _
 have p:¬(q=e\/aQ sl q):=λk=>by
  rcases k with k|k
  ·omega
  ·have:=x.own.lt k;omega
 have N:=s.hpk m p;have r:=s.hpk i λk=>by grind
 refine az (cU q 1) W (by simp[go_sem]) (az (gU o.acct) W (by simp[go_sem,N,dp]) ?_);refine dD r ?_;apply az (.bool (kP a o)) W (by simp[go_sem,kP];rfl);refine H b W Q ((j.to).trans s) (λy u=>(J y u).imp id λU=>qZ) λB=>?_;obtain⟨rfl,rfl⟩:=L B;exact⟨j,rfl⟩
def ah8(h:Rd w 5 s L.length (L.flatMap dp)){i:Nat}(hi:i<L.length):
  ∃p,(iX 146 s (gI (i:Int))).run pQ w=.ok p w/\(iL kQ p).run pQ w=.ok (mi L[i]) w:=by
 obtain⟨b,f,q,d,k,r⟩:=h.item dH hi rfl;obtain⟨C,e,t,hC,a⟩:=r.get;have j:=a 0 (gQ L[i].num) rfl;have n:=a 1 (gU L[i].acct) rfl;have g:=a 2 (.bool L[i].buy) rfl;have o:=a 3 (gI L[i].price) rfl;have m:=a 4 (gI L[i].left) rfl;simp only[fd,bM]at j n g o m;exact⟨.pointer (some ⟨b,f+i*5,none⟩),by rw[d];simp[go_sem,hi,bQ],by simp[go_sem,cO hC,j,n,g,o,m,dp,mi]⟩
def NU{r m:Nat}(h:Rd w 5 s L.length (L.flatMap dp))(Y:L.length<=100000)(E:hC w r #[.int .u32 a] 45)(R:qt w m sl ids)
  (z:ids.length<=100000)(n:r≠m)(u:¬aQ sl r)
  (F:L.findIdx? (kP a)=none->∀f,M0 w f->K (gI (-1)) f)
  (I:∀i (hi:i<L.length),(∀j (p:j<L.length),j<i->kP a L[j]=false)->kP a L[i]=true->∀d f,qt f m d (ids++[L[i].num])->bn (λy=>y=m\/aQ sl y) w f->(∀y,aQ d y->aQ sl y\/w.heap.size<=y)->K (gI (i:Int)) f):
  Ca pQ 213 #[s,.func (.func 221) #[] #[.pointer (some ⟨r,0,none⟩),.pointer (some ⟨m,0,none⟩)]] w K:=by
 refine cN Tryz.func213 ?_;obtain⟨sa,sc,O⟩:=h.isSl;apply ke (gI (L.length:Int)) w (by rw[O];simp[go_sem])
 refine iz (λst W=>∃(i:Nat) (x:Vt_),i<=L.length/\st=(x,gI i,())/\M0 w W/\∀j,∀p,j<i->kP a L[j]=false)
  (λst _=>match st.2.1 with| .int _ i=>L.length - i.toNat|_=>0) ⟨0,gI 0,qZ,rfl,rC,λj _ h=>qZ⟩ ?_
 rintro⟨_,_⟩ W ⟨i,x,hi,⟨⟩,e,g⟩ V t;refine rT ?_;intro _;by_cases k:i<L.length
 ·have b:(i:Int)<(L.length:Int):=qZ;refine ee b ?_;obtain⟨q,G,Q⟩:=ah8 (h.mod e eI) k;apply dy G;apply dy Q;simp only[iI];refine FX (e.hpk E id) (R.mod e id eI) z n u λd U B P C N=>?_;cases hp:kP a L[i]with
  |true=>
   rw[nO];refine I i k g hp d U ?_ ((e.to).trans P) λy M=>(C y M).imp id λX=>by have:=e.size;omega
   unfold BI at B;rw[hp]at B;exact B
  |false=>
   rw[lW];apply V3 i;refine t _ _ ⟨i+1,_,qZ,rfl,e.trans (N hp).1,λj p H=>?_⟩ (by grind);by_cases T:j=i
   ·subst T;exact hp
   ·grind
 ·obtain rfl:i=L.length:=qZ;have b:¬(L.length:Int)<(L.length:Int):=qZ;refine fH b ?_;refine F ?_ W e;rw[du];intro o J;obtain⟨j,p,rfl⟩:=bI J;exact g j p p
def Gp{i:Nat}(hi:i<L.length)(d:∀j (e:j<L.length),j<i->kP a L[j]=false):(L.take i).filter (kP a)=[]/\(L.take i).filter (λo=> !kP a o)=L.take i:=by
 have key:∀o∈L.take i,kP a o=false:=λo b=>by
  obtain⟨j,e,rfl⟩:=bI b;rw[List.getElem_take];rw[av]at e;exact d j qZ qZ
 exact⟨gf.2 λo b=>by rw[key o b];simp,cC.2 λo b=>by rw[key o b];rfl⟩
def MJ{T u:Nat}(h:sZ w s L)(hn:L.length<=1000)(h2:hC w T #[.int .u32 a] 45)(h6:qt w u sl ids)
  (hni:ids.length<=50000)(B:T≠u)(N:¬aQ sl T)(hd:∀y,aQ s y->y≠T/\y≠u/\¬aQ sl y)
  (hK:∀s' g w',sZ w' s' (L.filter λo=> !kP a o)->qt w' u g (ids++(L.filter (kP a)).map (·.num))->bn (λy=>aQ s y\/y=u\/aQ sl y) w w' ->(∀y,aQ s' y->aQ s y)->(∀y,aQ g y->aQ sl y\/w.heap.size<=y)->K s' w'):
  Ca pQ 220 #[s,.func (.func 221) #[] #[.pointer (some ⟨T,0,none⟩),.pointer (some ⟨u,0,none⟩)]] w K:=by
 refine cN Tryz.func220 ?_;refine NU h.rd qZ h2 h6 qZ B N (λI w1 P=>?_) λi0 E hno H sl1 w1 ids1 P n1=>?_
 ·refine lV ?_;rw[du]at I;have e1:L.filter (kP a)=[]:=gf.2 λo J=>by grind
  have e2:(L.filter λo=> !kP a o)=L:=cC.2 λo J=>by grind
  rw[e1,e2]at hK;exact hK s sl w1 (h.mod P eI) (by simpa using h6.mod P id eI) (P.to) (λ_ h=>h) λ_ h=>.inl h
 ·obtain⟨b,p,rest,rfl,f,hb,hrl,hr1⟩:=h.pos qZ;have hbs:=aJ hb;have t:∀y,aQ (.slice (some ⟨b,0,none⟩) L.length p) y↔y=b:=λy=>⟨λd=>(by cases d;rfl),λd=>by subst d;exact rfl⟩
  have m:=hd b ((t b).2 rfl);refine fh ?_;apply V3 i0;have hs1:=P.size
  have h1:=h.mod P λy d f=>by
   rw[t]at d;subst d;rcases f with f|f
   ·exact m.2.1 f
   ·exact m.2.2 f
  obtain⟨t1,t2⟩:=Gp E hno
  refine iz (λst W=>∃(i j:Nat) (M:List Od) (g:Vt_),st=(gI i,gI j,())/\i<j/\j<=L.length/\sZ W (.slice (some ⟨b,0,none⟩) L.length p) M/\M.length=L.length/\M.take i=(L.take j).filter (λo=> !kP a o)/\M.drop j=L.drop j/\
    qt W u g (ids++((L.take j).filter (kP a)).map (·.num))/\bn (λy=>y=b\/y=u\/aQ sl y) w W/\∀y,aQ g y->aQ sl y\/w.heap.size<=y)
   (λst _=>match st.2.1 with| .int _ j=>L.length - j.toNat|_=>0) ⟨i0,i0+1,L,sl1,rfl,qZ,E,h1,rfl,?_,rfl,?_,P.mono λ_ _ h=>.inr h,n1⟩ ?_
  ·rw[bV E,cj,t2,aU (by rw[H];simp)];simp
  ·rw[bV E,cj,t1,bF H];exact ids1
  rintro _ W ⟨i,j,M,g,rfl,hij,hjL,r1,r2,r3,r4,r5,r6,Z⟩ KN hKN;refine rT ?_;intro _;refine II ?_;have hMW:=r6.size
  have X:¬aQ g T:=λf=>by
   rcases Z _ f with r|r
   ·exact N r
   ·have:=aJ h2;omega
  have F:¬aQ g b:=λf=>by
   rcases Z _ f with r|r
   ·exact m.2.2 r
   ·omega
  have h2W:=r6.hpk h2 λf=>by
   rcases f with f|f|f
   ·exact m.1 f.symm
   ·exact B f
   ·exact N f
  by_cases x:j<L.length
  ·apply az (.bool true) W (by simp[go_sem];omega);rw[nO]
   have hMj:M[j]'qZ=L[j]:=by
    have e:=dP (λl=>l[0]?) r4;simp only[eV,bM]at e;rw[ao qZ,ao x]at e;exact cM e
   have hrd:=r1.rd;obtain⟨pj,f1,f2⟩:=ah8 (i:=j) hrd qZ;rw[hMj]at f2
   have C:(ids++((L.take j).filter (kP a)).map (·.num)).length<=100000:=by
    have h1:=aX (kP a) (L.take j);rw[ad,af];rw[av]at h1;omega
   refine dU.at (λst W' =>∃(i' :Nat) (U:List Od) (n:Vt_),st=(gI i',())/\i' <j+1/\sZ W' (.slice (some ⟨b,0,none⟩) L.length p) U/\U.length=L.length/\U.take i' =(L.take (j+1)).filter (λo=> !kP a o)/\U.drop (j+1)=L.drop (j+1)/\
    qt W' u n (ids++((L.take (j+1)).filter (kP a)).map (·.num))/\bn (λy=>y=b\/y=u\/aQ sl y) w W' /\∀y,aQ n y->aQ sl y\/w.heap.size<=y) ?_ ?_
   ·refine dy f1 (dy f2 ?_);obtain⟨W1,e1,b1,m1'⟩:=kg W;apply dy e1;obtain⟨q,hq⟩:=dW W.heap.size;rw[<-hq]at b1|-;obtain⟨W2,e2,b2,m2'⟩:=jA (o' :=L[j]) b1;apply lO e2;have M2:=m1'.on m2' λy d=>gT;apply dy (me (o:=L[j]) (At.all b2));simp only[iI];have i2:=r5.mod M2 id eI
    have hqsl:¬(q=u\/aQ g q):=λf=>by
     rcases f with f|f
     ·have:=aJ r5.at_;omega
     ·have:=r5.own.lt f;omega
    refine FX (M2.hpk h2W id) i2 C B X λn W3 i3 m3 n3 f3=>?_;refine dF ?_
    have M3:bn (λy=>y=b\/y=u\/aQ sl y) w W3:=by
     refine(r6.trans (M2.to (G:=λy=>y=b\/y=u\/aQ sl y))).on m3 λy d=>?_;rcases d with d|d
     ·grind
     ·rcases Z y d with r|r
      ·grind
      ·exact .inr r
    have o3:=(r1.mod M2 eI).mod m3 λy d f=>by
     rw[t]at d;subst d;rcases f with f|f
     ·exact m.2.1 f
     ·exact F f
    have b3:=m3.hpk b2 hqsl
    have Q:∀y,aQ n y->aQ sl y\/w.heap.size<=y:=λy d=>by
     rcases n3 y d with r|r
     ·exact Z y r
     ·exact .inr (by have:=M2.size;omega)
    have V:BI a (ids++((L.take j).filter (kP a)).map (·.num)) L[j]=ids++((L.take (j+1)).filter (kP a)).map (·.num):=by
     unfold BI;rw[bV x,cj];cases J:kP a L[j]with
     |true=>rw[bF J];simp
     |false=>rw[aU (by rw[J];simp)];simp
    rw[V]at i3
    have hdr:M.drop (j+1)=L.drop (j+1):=by
     have:=dP (List.drop 1) r4
     rwa[cw,cw]at this
    cases J:kP a L[j]with
    |false=>
     rw[show(!false)=true from rfl,bG,ab rfl];apply dy (me (o:=L[j]) (At.all b3));obtain⟨pi,g1,g2⟩:=sZ.el (l:=M) o3 (i:=i) qZ (sl:=.slice (some ⟨b,0,none⟩) L.length p) (w:=W3);obtain⟨-,g4⟩:=g2 W3 M o3 qZ;obtain⟨W4,s4,o4,m4⟩:=g4 L[j];refine dy (g1 W3) (lO s4 ?_);apply V3 i;have m4' :=m4.mono λy _ d=>(t y).1 d;refine⟨i+1,M.set i L[j],n,rfl,qZ,o4,by grind,?_,?_,i3.mod m4' (λe=>m.2.1 e.symm) λy d e=>?_,M3.trans (m4'.mono λy _ d=>.inl d),Q⟩
     ·rw[bV (by grind),dX,List.take_set_of_le (aB _),r3,bV x,cj,bF (by rw[J];rfl)];rfl
     ·rw[List.drop_set_of_lt qZ];exact hdr
     ·subst e;rcases Q y d with r|r
      ·exact m.2.2 r
      ·omega
    |true=>
     rw[show(!true)=false from rfl,bG,aa fG];refine⟨i,M,n,rfl,qZ,o3,r2,?_,hdr,i3,M3,Q⟩;rw[r3,bV x,cj,aU (by rw[J];simp)];simp
   rintro _ W' ⟨i',U,n,rfl,u1,u2,u3,u4,u5,u6,u7,u8⟩;refine qk ?_;intro _;apply V3 j;exact hKN _ _ ⟨i',j+1,U,n,rfl,u1,x,u2,u3,u4,u5,u6,u7,u8⟩ (by grind)
  ·obtain rfl:j=L.length:=qZ;refine fh ?_;rw[aL]at r3 r5;apply dy (vY gR Av (show i<=L.length by omega) f qZ W);obtain⟨b',Y,k,he',hc',hb',hrl',hr1'⟩:=r1.pos qZ;obtain⟨rfl,-,rfl⟩:b=b' /\L.length=M.length/\p=Y:=by simpa using he'
   have hMl:(M.flatMap dp).length=M.length*5:=by rw[tU dH]
   refine Dn gR (dG Ny) hb' (by grind) λz hz hz1=>?_;have R:(M.take i).length=i:=by grind
   have hA:((M.take i).flatMap dp).length=i*5:=by rw[tU dH,R]
   have O:ji (M.flatMap dp++k) (i*5) z=(M.take i).flatMap dp++(z++k):=by
    unfold ji;rw[hz,aP (by rw[hMl];omega),Tu dH,ag,show i*5+(L.length - i)*(4+1)=(M.flatMap dp).length by rw[hMl];omega,ck]
   apply dy (IT gR Av (show i<=p by omega) qZ _);have m9:bn (λy=>y=b) W (W.setRow b (ji (M.flatMap dp++k).toArray.toList (i*(4+1)) z).toArray):=(bn.refl (λy=>y=b) W).setRow (.inl rfl) _;refine hK _ g _ (?_ :sZ _ _ _) (r5.mod m9 (λe=>m.2.1 e.symm) λy d e=>F (e▸d)) ((r6.mono λy _ d=>?_).trans (m9.mono λy _ d=>.inl ((t y).2 d))) (λy d=>(t y).2 (by cases d;rfl)) Z
   ·rw[<-r3];refine⟨by rw[hA,R],.inr ⟨b,p,z++k,by rw[R],qZ,?_,?_,?_⟩⟩
    ·rw[eU,ab rfl,hb'];rw[O]
    ·grind
    ·grind
   ·rcases d with d|d
    ·grind
    ·exact .inr d
end Go.Proofs
namespace Go.Proofs
open Go Go.Vc
attribute [local congr] bj
variable {a k:Int}{S:ba}
def xU(a k:Int)(S:ba)(i:Nat):List Int×ba:=((S.nums.take i).filter λn=>decide (k=0\/k=n)).foldl (rQ a) ([],S)
def MX{i:Nat}(hi:i<S.cal.l.length):xU a k S (i+1)=if k=0\/k=S.cal.l[i].spec.num then rQ a (xU a k S i) S.cal.l[i].spec.num else xU a k S i:=by
 unfold xU;have b:i<S.nums.length:=by unfold ba.nums;rw[af];exact hi
 have c:S.nums[i]=S.cal.l[i].spec.num:=by simp[ba.nums]
 rw[bV b,cj,iP,c];by_cases h:k=0\/k=S.cal.l[i].spec.num
 ·grind
 ·grind
def Pl:xU a k S S.cal.l.length=S.clear a k:=by
 unfold xU ba.clear;rw[ay (by unfold ba.nums;rw[af];exact aB _)]
def Qi{i:Nat}:(xU a k S i).2.cal=S.cal:=BO _ _ _
def Hq{B:Bk}(h:B.all.length<=200):(iU B a).2.length<=200:=bK (aX _ _) h
end Go.Proofs
namespace Go.Proofs
open Go Go.Vc
section
variable{L L0 M:List As}{φ:WP}{K:Value->WP}{v c l mb md b p2 p6:Nat}{A:List (Int×Nat)}{D:List (Int×Value)}{S:ba}{n a:Int}{bk:Int->Bk}{bd:Int->List Od}{B:Bk}{s:Vt_}{os:List Od}{ids:List Int}{x:Option Addr×Nat}
abbrev QF(p:Nat)(x:Option Addr×Nat)(ids:List Int)(L:List As):List As:=pt p [eM x ids.length] 39::tX (eM x ids.length) ids::L
def NC(Y:os.length<=1000)(r:ids.length<=50000)(O:∀d x,Gs (lX d (os.filter λo=> !kP a o)::QF p6 x (ids++(os.filter (kP a)).map (·.num)) (pt p2 [.int .u32 a] 45::M)) (K d))(q:bL L (lX s os::QF p6 x ids (pt p2 [.int .u32 a] 45::M)):=by exact kz):
  Gs L (Cw pQ 220 #[s,.func (.func 221) #[] #[.pointer (some ⟨p2,0,none⟩),.pointer (some ⟨p6,0,none⟩)]] K):=by
 let T:List Int:=ids++(os.filter (kP a)).map (·.num);refine Gs.pk ?_ q;refine Gs.old (φ:=λk=>Cw pQ _ _ k) (A:=(lX s os).mul ((pt p6 [eM x ids.length] 39).mul ((tX (eM x ids.length) ids).mul (pt p2 [.int .u32 a] 45)))) (val:=λy:Value×Option Addr×Nat=>y.1) (p:=λ_=>True) (B:=λy=>(lX y.1 (os.filter λo=> !kP a o)).mul ((pt p6 [eM y.2 T.length] 39).mul ((tX (eM y.2 T.length) T).mul (pt p2 [.int .u32 a] 45)))) (λw F _ ⟨F1,F2,⟨o,e1⟩,⟨F3,F4,⟨t,e3⟩,⟨F5,F6,⟨i,e5⟩,⟨j,e6⟩,J,g4⟩,R,g2⟩,N,g0⟩ K h=>?_) (λy _=>(((O y.1 y.2).pk (bL.cons (bL.cons My))).pk (bL.cons My)).pk My) ((My.trans (bL.cons (My.trans (bL.cons My)))).symm);have Q:∀y,aQ s y->y≠p2/\y≠p6/\¬aQ (eM x ids.length) y:=by grind
 have I:p2≠p6:=by grind
 have W:¬aQ (eM x ids.length) p2:=by grind
 have P:∀y,aQ (eM x ids.length) y->y≠p6:=by grind
 refine MJ o Y j ⟨t,i,P⟩ r I W Q λd sl' G X Z m n1 n2=>?_;have l2:=aJ j;have l6:=aJ t;have ls:=λy (g:aQ s y)=>o.lt g;have H:=m.hpk j (by grind);obtain⟨U,C,V⟩:=Z;obtain⟨u,E,rfl,-⟩:=C.isSl;refine h (d,u,E) G (λz=>aQ d z\/(z=p6\/(aQ (eM (u,E) T.length) z\/z=p2))) trivial ⟨aQ d,_,⟨X,λ_=>aI⟩,⟨λz=>z=p6,_,⟨U,λ_=>aI⟩,⟨aQ _,λz=>z=p2,⟨C,λ_=>aI⟩,⟨H,λ_=>aI⟩,λz f e=>?_,λ_=>aI⟩,λz f e=>?_,λ_=>aI⟩,λz f e=>?_,λ_=>aI⟩ (m.mono λy _ g=>?_) λy g=>?_
 ·have:=n2 z f;grind
 ·have:=V p6;grind
 ·grind
 ·grind
 ·grind
def y9{k:Int}(hv:nQ A D S.cal.l S.bk)(u:S.cal.Ok)(hbl:∀n,(S.bd n).length<=50)
  (hK:∀y D',nQ A D' S.cal.l (S.clear a k).2.bk->(S.clear a k).1.length<=4000->Gs (vs v c l mb md A D' (S.clear a k).2 (tX (eM y (S.clear a k).1.length) (S.clear a k).1::L)) (K (eM y (S.clear a k).1.length)))
  (pk:bL L0 (vs v c l mb md A D S L):=by exact kz):Gs L0 (Cw pQ 144 #[eE v,gU a,gU k] K):=by
 refine Gs.pk ?_ pk;refine sN Tryz.func144 ?_;unfold eE;refine au ?_;intro p0;refine au ?_;intro p1;refine au ?_;intro p2;refine au ?_;intro V;refine au ?_;refine Gs.idn (uW λgv=>?_);refine Gg.rf (L:=L) (λ_ _ _ _=>rfl) (Ec _) (I:=λi (b:(Option Addr×Nat)×List (Int×Value)) M=>QF V b.1 (xU a k S i).1 (pt p1 [.int .u32 a] 45::pt p2 [.int .u32 k] 45::pt p0 [.pointer (some ⟨v,0,none⟩)] 24::vs v c l mb md A b.2 (xU a k S i).2 M)) (E:=λ(_:Unit) M=>M) (λ_ _ _=>rfl) (λ_ _=>rfl) (λi b=>nQ A b.2 S.cal.l (xU a k S i).2.bk/\(xU a k S i).1.length<=250*i/\∀n,((xU a k S i).2.bd n).length<=50) (λ_ _=>False) ((none,0),D) ⟨hv,aw _,hbl⟩ ?_ ?_ (λ_ _ _ (h:False)=>h.elim) ?_
 ·rintro i hi ⟨x,Q⟩ ⟨t,H,G⟩ l1 r1 q M kn kj e -;have z:=MX (a:=a) (k:=k) hi;have hn:(bU S.cal.l S.cal.l[i].spec.num).isSome=true:=by rw[yr u (ar hi)];rfl
  have N:(xU a k S i).2.cal=S.cal:=Qi;have hil:=u.len
  dsimp only at t H G e|-
  generalize S.cal.l[i]=C at z hn|-;rw[z]at e;generalize xU a k S i=Y at e N t H G|-;obtain⟨g,T⟩:=Y
  dsimp only at N t H G e|-
  refine au ?_;refine Gs.j1 (.bool (decide (¬(k=0\/k=C.spec.num))),()) (λJ hJ=>au ?_) ?_
  ·refine Gs.Ib (λX=>?_) λX=>?_
   ·refine au ?_;have X:¬k=0:=by simpa using X
    simpa [X,show(k != C.spec.num)= !decide (k=C.spec.num)from rfl]using hJ
   ·grind
  refine Gs.z (Gs.I (λhc=>?_) λhc=>au ?_)
  ·rw[aa hc]at e;exact(e (x,Q) _ ⟨t,(by omega:g.length<=_),G⟩).fin
  rw[ab (Decidable.not_not.1 hc)]at e;unfold rQ at e
  dsimp only at e
  have hnb:∀m,((eR T.bd C.spec.num ((T.bd C.spec.num).filter λo=> !kP a o)) m).length<=50:=λm=>by
   by_cases hm:m=C.spec.num
   ·subst hm;rw[cQ];exact bK (aX _ _) (G _)
   ·rw[eT _ _ _ hm];exact G m
  have hfl:=bK (aX (kP a) _) (G C.spec.num);have hbl' :=G C.spec.num;obtain⟨b,W⟩:=xp t hn;refine Gs.WX (Vn W) ?_;refine au ?_;refine qH W ?_;refine Gs.fact (λw F q=>(gW.all q).1) λZ=>?_;have hml:=Hq (a:=a) Z;refine Mt (λy1 y2=>?_);refine tC W ?_;generalize(iU (T.bk C.spec.num) a).2=O at e hml|-;generalize(iU (T.bk C.spec.num) a).1=B' at e|-;refine Gs.lenW gR (λw y=>mZ gy w y) ?_;refine Gs.l (λy:Nat×(Option Addr×Nat)=>(gI y.1,())) (λy=>O.length - y.1) (λy=>QF V y.2 (g++(O.take y.1).map (·.num)) (lX (.slice y1 O.length y2) O::pt q (dh C) lN::pt p1 [.int .u32 a] 45::pt p2 [.int .u32 k] 45::pt p0 [.pointer (some ⟨v,0,none⟩)] 24::vs v c l mb md A Q {T with bk:=eR T.bk C.spec.num B' } (pJ l1 r1::M))) (λy=>y.1<=O.length) (0,x) rfl (aw _) ?_ ?_
  rotate_left
  ·show bL _ (QF V x (g++[]) _);rw[aC];exact kz
  rintro⟨j,x'⟩ hj KN R
  dsimp only at hj R|-
  refine Gs.z (au ?_);refine Gs.I (λh=>?_) λh=>?_
  ·have P:j<O.length:=qZ;have htk:=bV P;refine Gs.it gR Nt dH OA (λw y=>mZ gy w y) rfl P ?_;have hLl:(g++(O.take j).map (·.num)).length<=10000:=by rw[ad,af,av];omega
   have p:=λz1 z2=>R (j+1,z1,z2) (by dsimp only;omega) (by dsimp only;omega)
   dsimp only at p
   rw[htk,aK,<-ag,aH,ed]at p;generalize O[j]=o at p|-;generalize g++(O.take j).map (·.num)=I at hLl p|-;refine au ?_;intro r;refine au ?_;refine Gs.push (x:=o.num) (f:=oy) (l:=I) Ce Oq (λ_=>rfl) rfl rfl qZ qZ (λz1 z2=>?_) gy;refine au ?_;exact(p z1 z2).fin
  obtain rfl:j=O.length:=qZ;rw[aL];have hgl:(g++O.map (·.num)).length<=10000:=by rw[ad,af];omega
  have U:(g++O.map (·.num)++((T.bd C.spec.num).filter (kP a)).map (·.num)).length<=250*(i+1):=by rw[ad,ad,af,af];omega
  generalize g++O.map (·.num)=I at hgl U e|-;refine au ?_;refine Gs.WX CI ?_;refine vg (n:=C.spec.num) ?_;refine NC (a:=a) (os:=T.bd C.spec.num) (ids:=I) (x:=x') qZ qZ (λs' x2=>?_);refine au ?_;refine Gs.mup (enc:=eS) (ev:=AP) (x:=C.spec.num) (v:=s') qw kL ?_ gy;refine yO (n:=C.spec.num) ?_;have:=e (x2,put Q C.spec.num s') (dh C) ⟨(t.upb W).put hn,U,hnb⟩;exact this.fin
 ·rintro⟨x,Q⟩ d ⟨t,H,G⟩;have N:=u.len;rw[Pl]at t H|-
  dsimp only at t H|-
  generalize S.clear a k=Y at t H hK|-;obtain⟨I,T⟩:=Y;refine Gs.ak (au ?_);refine Gs.tw ?_;refine au ?_;exact(hK x Q t qZ).fin
 ·show bL _ (pt V [.slice none 0 0] 39::tX (eM (none,0) 0) []::pt p1 [.int .u32 a] 45::pt p2 [.int .u32 k] 45::pt p0 [.pointer (some ⟨v,0,none⟩)] 24::vs v c l mb md A D S L);exact kz
end
end Go.Proofs
namespace Go.Proofs
open Go Go.Vc
attribute [local congr] bj
def vr(n:Int):Value:=gI n
def WA:Tryz.prog.underlying 309=some (.map 45 2):=cH
def ap8:jS pQ 2=some (gI 0):=cH
def C7(w:Wt_)(mw:Nat)(won:Int->Int):Prop:=∃L:List (Int×Int),fI eS vr w mw L/\∀n,(lk L n).getD 0=won n
def C7.mod{F:NP_}{w w' :Wt_}{a:Nat}{won:Int->Int}(h:C7 w a won)(b:bn F w w')(d:¬F a):C7 w' a won:=by
 obtain⟨L,c,e⟩:=h;exact⟨L,c.mod b d,e⟩
def C7.look{w:Wt_}{a:Nat}{won:Int->Int}(h:C7 w a won)(n:Int):(jF 309 (.map (some a)) (gU n) false).run pQ w=.ok (gI (won n)) w:=by
 obtain⟨L,c,d⟩:=h;have:=mI (ok:=false) (x:=n) WA kL ap8 (.inr ⟨a,rfl,c⟩:Ad eS vr w (.map (some a)) L);rw[<-d n];cases b:lk L n with
 |none=>rw[b]at this;exact this
 |some x=>rw[b]at this;exact this
def eDu:fj pQ 369 3 24=true:=cH
def Yo:Tryz.prog.underlying 40=some (.slice 45):=cH
def aa6:fj pQ 45 1 4=true:=cH
end Go.Proofs
