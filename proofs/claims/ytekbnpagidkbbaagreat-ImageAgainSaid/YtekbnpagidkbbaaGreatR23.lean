/- Part of a proof. -/
import Derived.Test.YtekbnpagidkbbaaGreatR22
set_option linter.all false
set_option maxRecDepth 100000
set_option maxHeartbeats 4000000
namespace Go.Proofs
open Go Go.Vc
def nTd:Tryz.prog.cellsOf Z5=3+1:=cV
def Sv(x:Td)(w:Wt_)(b off:Nat)(h:At w b off (FJ x)):(iL Z5 (bO b off)).run pQ w=.ok (YI x) w:=by
 obtain⟨C,e,k,hC,d⟩:=h.get;have i:=d 0 (gI x.price) rfl;have g:=d 1 (gI x.qty) rfl;have f:=d 2 (gQ x.num) rfl;have j:=d 3 (gU x.acct) rfl;simp only[cB]at i g f j;simp[go_sem,bT hC,i,g,f,j,YI,FJ]
attribute [go_sem] YI FJ rpC O0 sw
abbrev CK(e n f l:Int)(t g u:Vt_):List Value:=[.int .i64 e,gQ n,gI f,gI l,t,g,u]
abbrev OS:List Value:=CK 0 0 0 0 (.slice none 0 0) (.slice none 0 0) (.slice none 0 0)
abbrev plX(t g:Vt_)(f l:Int):List Value:=[t,g,gI f,gI l]
abbrev Za(o:Od):List Value:=[.int .u64 o.num,gU o.acct,.bool o.buy,gI o.price,gI o.left]
section
variable{L L0 M:List As}{φ:WP}{K:Value->WP}{v c l mb md b:Nat}{A:List (Int×Nat)}{D:List (Int×Value)}{S:bt}{n a:Int}{bk:Int->Bk}{bd:Int->List Od}{B:Bk}{s:Vt_}{os:List Od}
def Gs.tdn(h:Gs (Bm (ez (none,0) 0) []::L) φ):Gs L φ:=Gs.nil Z5 4 h
def Gs.idn(h:Gs (tL (ez (none,0) 0) []::L) φ):Gs L φ:=Gs.nil 37 1 h
def Gs.uin(h:Gs (Ab (ez (none,0) 0) []::L) φ):Gs L φ:=Gs.nil 45 1 h
structure RpB(r:Rp):Prop where
 t:r.trades.length<=1000000
 g:r.gone.length<=1000000
 a:r.accts.length<=1000000
def yU{o:Od}:∀(L:List Od) (left:Int),(eT o left L).2.2.2.1.length<=L.length
 | [],_=>aD _
 |b::r,left=>by
  unfold eT;split
  ·exact aH _
  ·split
   ·exact Nat.succ_le_succ (yU r left)
   ·split
    ·exact aH _
    ·exact Nat.le_succ_of_le (yU r _)
def Eg{B:Bk}{o:Od}{r:Bool}(e:∀d,(B d).length<=100):(fC B o r).2.gone.length<=100:=by
 have h1:=yU (o:=o) (B !o.buy) o.left;have f:=e !o.buy;unfold fC;simp only;split<;>(simp only;omega)
def Sg(v c l mb md:Nat)(A:List (Int×Nat))(x:Int×Rp×bt)(L:List As)(K:Value->WP):Prop:=
 ∀t g u D',pI A D' x.2.2.cal.l x.2.2.bk->RpB x.2.1->Gs (vs v c l mb md A D' x.2.2 (Bm (ez t x.2.1.trades.length) x.2.1.trades::tL (ez g x.2.1.gone.length) x.2.1.gone::Ab (ez u x.2.1.accts.length) x.2.1.accts::L)) (K (.tuple #[O0 x.2.1 (ez t x.2.1.trades.length) (ez g x.2.1.gone.length) (ez u x.2.1.accts.length),gI x.1]))
def Sg.fail{x:Int×Rp×bt}{e:Int}{T:bt}(h:Sg v c l mb md A x L K)(f:x=(e,kI,T))(d:pI A D T.cal.l T.bk)(p:Sb L0 (vs v c l mb md A D T L):=by exact sbZ):Gs L0 (K (.tuple #[O0 kI (.slice none 0 0) (.slice none 0 0) (.slice none 0 0),gI e])):=by
 subst f;refine Gs.fin ?_ p;refine Gs.tdn (Gs.idn (Gs.uin ?_));have:=h (none,0) (none,0) (none,0) D d ⟨aH _,aH _,aH _⟩
 dsimp only[kI,List.length_nil]at this
 exact this.fin
def GB{o:Od}{t:Td}{l:List Td}{X:bJ}:pv n o (t::l) X=if(X.trade n (if o.buy then o.acct else t.acct) (if o.buy then t.acct else o.acct) t.price t.qty).1≠0 then X.trade n (if o.buy then o.acct else t.acct) (if o.buy then t.acct else o.acct) t.price t.qty else pv n o l (X.trade n (if o.buy then o.acct else t.acct) (if o.buy then t.acct else o.acct) t.price t.qty).2:=rfl
def BW{o:Od}{p:Pm}{t g:Option Addr×Nat}(C:pI A D S.cal.l S.bk)(r:S.Ok)(u:bG S.cal.l n=0)(E:p.trades.length<=1000)(N:p.gone.length<=1000)(z:Sg v c l mb md A (S.traded n o p) L K)
  (pk:eG L0 (Bm (ez t p.trades.length) p.trades::tL (ez g p.gone.length) p.gone::vs v c l mb md A D S L):=by exact iP):
  Gs L0 (Cw pQ 218 #[ec v,gU n,kx o,.agg (sw (ez t p.trades.length) (ez g p.gone.length) p.filled p.left)] K):=by
 refine Gs.pk ?_ pk;refine sN Tryz.func218 ?_;unfold ec sw;have q:iU n:=ng r.cal u;refine au ?_;intro F;refine au ?_;intro G;refine au ?_;intro O;refine au ?_;refine Gs.l (λx:Nat×Value×bJ=>(x.2.1,gI x.1,())) (λx=>p.trades.length - x.1) (λx=>pt O OS vg::pt G (plX (ez t p.trades.length) (ez g p.gone.length) p.filled p.left) 246::pt F (Za o) jG::Bm (ez t p.trades.length) p.trades::tL (ez g p.gone.length) p.gone::vs v c l mb md A D {S with led:=x.2.2} L) (λx=>x.1<=p.trades.length/\pv n o p.trades S.led=pv n o (p.trades.drop x.1) x.2.2) (0,gI 0,S.led) rfl ⟨aH _,rfl⟩ ?_ (by simp only[List.length_nil,cC,cU,eN,aN,gm,mE];(repeat first|(with_reducible exact eG.refl)|((apply Zo);(·repeat first|(with_reducible exact Ou)|(with_reducible apply OV)))));rintro⟨i,y,X⟩ ⟨I,d⟩ P k
 dsimp only at I d k|-
 refine Gs.z (au ?_);refine Gs.I (λh=>?_) λh=>?_
 ·have j:i<p.trades.length:=qZ;refine Gs.it Hu nTd FF Sv (λw y=>nG fR w y) rfl j (au ?_);intro Q;have f:p.trades.drop i=p.trades[i]::p.trades.drop (i+1):=(ci j).symm;rw[f]at d;generalize p.trades[i]=x at d|-;refine au ?_;refine Gs.j1 (gU (if o.buy then o.acct else x.acct),gU (if o.buy then x.acct else o.acct),()) (λJ H=>au ?_) ?_
  ·refine Gs.Ib (λh=>?_) λh=>?_ <;>simpa [show o.buy=_ from by simpa using h]using H
  dsimp only
  refine Gs.z (au ?_);refine Iq q (au ?_);rw[GB]at d;generalize X.trade n (if o.buy then o.acct else x.acct) (if o.buy then x.acct else o.acct) x.price x.qty=Y at d|-;refine Gs.Ib (λh=>?_) λh=>?_
  ·rw[ae (by simpa using h)]at d
   have e:S.traded n o p=(Y.1,kI,{S with led:=Y.2}):=by
    unfold bt.traded;simp only;rw[d,ae (by simpa using h)]
   refine au ?_;exact z.fail (D:=D) e C
  ·rw[aa (by simpa using h)]at d;refine au ?_;exact(k (i+1,_,Y.2) ⟨qZ,d⟩ (by dsimp only;omega)).fin
 ·obtain rfl:i=p.trades.length:=qZ;rw[cn (aD _)]at d;have d:pv n o p.trades S.led=(0,X):=d
  have e:S.traded n o p=(({S with led:=X}:bt).bears o.acct,⟨0,o.num,p.filled,p.left,p.trades,p.gone,[]⟩,{S with led:=X}):=by
   unfold bt.traded;simp only;rw[d,aa (by simp)]
  have m:({S with led:=X}:bt).Ok:=by
   have:=yT r q u o p;rw[e]at this;exact this
  refine au ?_;refine zn (S:={S with led:=X}) C m ?_;refine au ?_;rw[e]at z;refine Gs.uin ?_;have:=z t g (none,0) D C ⟨by dsimp only;omega,by dsimp only;omega,aH _⟩
  dsimp only[List.length_nil]at this
  exact this.fin
end
end Go.Proofs
namespace Go.Proofs
open Go Go.Vc
def B5(S:bt)(x:Cm):(S.order x).2.2.cal=S.cal/\(S.order x).2.2.bk=S.bk:=by
 unfold bt.order
 dsimp only
 split
 ·exact⟨rfl,rfl⟩
 ·grind
def J9{B:Bk}{o:Od}{k:Int}(e:∀d,(B d).length<=100):(db B o k).2.2.gone.length<=100:=by
 unfold db
 repeat' split
 all_goals first|exact aH _|exact Eg e
section
variable{L L0 M:List As}{φ:WP}{K:Value->WP}{v c l mb md b:Nat}{A:List (Int×Nat)}{D:List (Int×Value)}{S:bt}{n a:Int}{bk:Int->Bk}{bd:Int->List Od}{B:Bk}{s:Vt_}{os:List Od}
def YN(d:lk A n=some b)(p:eG L (OU mb A::M):=by exact fR):∀w,Ss w L->(jQ 90 (.map (some mb)) (gU n) false).run pQ w=.ok (fi b) w:=λw z=>(iK p z).elim λF q=>Ft q.1 d
def NE{x:Cm}(O:pI A D S.cal.l S.bk)(i:S.Ok)(H:x.Fit)(V:x.acct≠0)(F:Sg v c l mb md A (S.place x) L K)(pk:eG L0 (vs v c l mb md A D S L):=by exact iP):Gs L0 (Cw pQ 141 #[ec v,zF x] K):=by
 refine Gs.pk ?_ pk;refine sN Tryz.func141 ?_;unfold ec;refine au ?_;intro p;refine au ?_;intro q;refine au ?_;refine Gs.X (λw z=>iH fR LS H9 (fL x) w z) ?_;refine DS O i H ?_;have U:=B5 S x
 have e:S.place x=if(S.order x).1≠0 then((S.order x).1,kI,(S.order x).2.2)else
   (if(db ((S.order x).2.2.bk x.ct) (S.order x).2.1 x.ty).1≠0 then((db ((S.order x).2.2.bk x.ct) (S.order x).2.1 x.ty).1,kI,{(S.order x).2.2 with bk:=eS (S.order x).2.2.bk x.ct (db ((S.order x).2.2.bk x.ct) (S.order x).2.1 x.ty).2.1})
    else({(S.order x).2.2 with bk:=eS (S.order x).2.2.bk x.ct (db ((S.order x).2.2.bk x.ct) (S.order x).2.1 x.ty).2.1}:bt).traded x.ct (S.order x).2.1 (db ((S.order x).2.2.bk x.ct) (S.order x).2.1 x.ty).2.2):=rfl
 by_cases N:(S.order x).1≠0
 ·rw[ae N]at e;refine au ?_;intro r;refine au ?_;refine Gs.Ib (λ_=>?_) λh=>absurd N (by simpa using h);refine au ?_;exact F.fail e (D:=D) (by rw[U.1,U.2];exact O)
 rw[aa N]at e;obtain⟨j,R,G⟩:=qC V (Decidable.not_not.1 N);rw[G]at e|-
 dsimp only at e|-
 have m:(x.od S.next).Fit:=BE H ⟨by have:=i.next;omega,by unfold jZ at R;omega⟩;have P:(db (S.bk x.ct) (x.od S.next) x.ty).2.2.gone.length<=100:=J9 λd=>(i.ord.side _ d).1;have C:(db (S.bk x.ct) (x.od S.next) x.ty).2.2.trades.length<=100:=OD λd=>(i.ord.side _ d).1;obtain⟨b,k⟩:=BQ O (qm j.alive);have f:=N4 i H V (Decidable.not_not.1 N);generalize x.od S.next=o at m C P e f|-;refine au ?_;intro r;refine au ?_;obtain⟨X,Q⟩:=di (db (S.bk x.ct) o x.ty);rw[<-Q]at C P e f
 refine Gs.j (λy:Nat×(Option Addr×Nat)×Option Addr×Nat=>(.pointer (some ⟨y.1,0,none⟩),gI X.1,())) (λy=>pt y.1 (plX (ez y.2.1 X.2.2.trades.length) (ez y.2.2 X.2.2.gone.length) X.2.2.filled X.2.2.left) 246::Bm (ez y.2.1 X.2.2.trades.length) X.2.2.trades::tL (ez y.2.2 X.2.2.gone.length) X.2.2.gone::
   pt r (Za o) jG::pt q OS vg::pt p (ny x) tA::vs v c l mb md A D {S with next:=S.next+1,bk:=eS S.bk x.ct X.2.1} L) (λ_=>True) (λJ T=>?_) λy _=>?_
 ·refine au ?_;refine Gs.WX (YN k) ?_;refine au ?_;refine Gs.An ?_ (au ?_)
  ·refine ui k ?_;refine B3 m H.2.2.2.2.2.2.1 (λt g=>?_);rw[<-Q];refine wH k ?_;refine au ?_;intro y;refine au ?_;exact(T (y,t,g) trivial).fin
  ·intro y;refine au ?_;refine Gs.E (YN k) ?_;refine au ?_;refine ui k ?_;refine B3 m H.2.2.2.2.2.2.1 (λt g=>?_);rw[<-Q];refine wH k ?_;refine au ?_;exact(T (y,t,g) trivial).fin
 obtain⟨y,t,g⟩:=y
 dsimp only
 refine Gs.z (au ?_);refine Gs.Ib (λh=>?_) λh=>?_
 ·rw[ae (by simpa using h)]at e;refine au ?_;exact F.fail e (D:=D) (O.upb k)
 ·rw[aa (by simpa using h)]at e;rw[e]at F;refine au ?_;refine BW (S:={S with next:=S.next+1,bk:=eS S.bk x.ct X.2.1}) (t:=t) (g:=g) (p:=X.2.2) (O.upb k) (f (by simpa using h)) j.alive qZ qZ (λt g u W E I=>?_);generalize bt.traded _ x.ct o X.2.2=Y at F E I|-;refine au ?_;exact(F t g u W E I).fin
end
end Go.Proofs
namespace Go.Proofs
open Go Go.Vc
section
variable{L L0 M:List As}{φ:WP}{K:Value->WP}{v c l mb md b:Nat}{A:List (Int×Nat)}{D:List (Int×Value)}{S:bt}{n a:Int}{bk:Int->Bk}{bd:Int->List Od}{B:Bk}{s:Vt_}{os:List Od}
section
variable{P:Program}{k:Value->WP}{xv s1:Vt_}{cs:LV_}{e t:TypeId}{sz by_:Nat}
def Gs.lit1(m:P.underlying t=some (.slice e))(g:fY P e sz by_=true)(f:xv.cells.toList=cs)(d:xv.cells.size=sz)(p:sz<=1000)(i:∀b,Gs (ow (.slice (some ⟨b,0,none⟩) 1 1) e sz 1 cs::L) (k (.slice (some ⟨b,0,none⟩) 1 1))):Gs L (Xw P (rg t 1 [(0,xv)]) k):=⟨λw y=>by
 refine nI [xv] m (dB g) rfl rfl (by intro v j;rw[cm.1 j];exact d) qZ ?_;have h:(([xv]:LV_).flatMap (·.cells.toList)).toArray=cs.toArray:=by simp[<-f]
 rw[h];refine(i _).go _ (y.new ((aR.refl _ w).alloc _) (F' :=aF (.slice (some ⟨w.heap.size,0,none⟩) 1 1)) ⟨⟨by rw[<-f];simp[d],.inr ⟨_,1,[],rfl,aD _,by rw[er,ae rfl];simp,by simp,by simp⟩⟩,λ_=>aG⟩ λb o=>?_);have:w.heap.size=b:=by simpa [aF,Sr]using o
 omega⟩
def Gs.snd{α:Type}{l:List α}{x:α}{f:α->List Value}(g:P.underlying t=some (.slice e))(h:fY P e sz by_=true)(d:(f x).all (·.oneCell')=true)(j:(l.length+1)*by_<=140737488355328)
  (i:∀a c,Gs (ow (.slice a (l++[x]).length c) e sz (l++[x]).length ((l++[x]).flatMap f)::M) (k (.slice a (l++[x]).length c)))(p:eG L (ow s e sz l.length (l.flatMap f)::ow s1 e sz 1 (f x)::M):=by exact iP):Gs L (Xw P (fb #[t,t] t [s,s1]) k):=by
 refine Gs.pk (Gs.app g g h (λw y=>nG (M:=ow s e sz l.length (l.flatMap f)::M) .swap w y) d j (λa c=>?_) .refl) p;have:=i a c;rw[af,cE]at this;exact(by simpa using this:Gs (ow _ _ _ _ _::M) _).fin
end
def Mr(p:eG L (OW md D::M):=by exact fR):∀w,Ss w L->(jQ 91 (.map (some md)) (gU n) false).run pQ w=.ok (lx D n) w:=λw z=>(iK p z).elim λF q=>Bc q.1 n
def S7{x:Cm}(C:pI A D S.cal.l S.bk)(m:S.Ok)(G:x.Fit)(H:x.acct≠0)(E:Sg v c l mb md A (S.bid x) L K)(pk:eG L0 (vs v c l mb md A D S L):=by exact iP):Gs L0 (Cw pQ 142 #[ec v,zF x] K):=by
 refine Gs.pk ?_ pk;refine sN Tryz.func142 ?_;unfold ec;refine au ?_;intro p;refine au ?_;intro q;refine au ?_;refine Gs.X (λw z=>iH fR LS H9 (fL x) w z) ?_;refine DS C m G ?_;have F:=B5 S x
 have d:S.bid x=if(S.order x).1≠0 then((S.order x).1,kI,(S.order x).2.2)else if 50<=((S.order x).2.2.bd x.ct).length then(9,kI,(S.order x).2.2)
   else(({(S.order x).2.2 with bd:=eS (S.order x).2.2.bd x.ct ((S.order x).2.2.bd x.ct++[(S.order x).2.1])}:bt).bears x.acct,⟨0,(S.order x).2.1.num,0,(S.order x).2.1.left,[],[],[]⟩,{(S.order x).2.2 with bd:=eS (S.order x).2.2.bd x.ct ((S.order x).2.2.bd x.ct++[(S.order x).2.1])}):=rfl
 by_cases u:(S.order x).1≠0
 ·rw[ae u]at d;refine au ?_;intro r;refine au ?_;refine Gs.Ib (λ_=>?_) λh=>absurd u (by simpa using h);refine au ?_;exact E.fail d (D:=D) (by rw[F.1,F.2];exact C)
 rw[aa u]at d;obtain⟨g,I,j⟩:=qC H (Decidable.not_not.1 u);rw[j]at d|-
 dsimp only at d|-
 have i:=Oe m G H (Decidable.not_not.1 u);generalize x.od S.next=o at d i|-;refine au ?_;intro r;refine au ?_;refine Gs.WX Mr ?_;refine Gs.lenW ik (qg x.ct) (au ?_);refine Gs.I (λh=>?_) λh=>?_
 ·rw[ae qZ]at d;refine au ?_;exact E.fail d (D:=D) C
 rw[aa qZ]at d;rw[d]at E;refine au ?_;refine Gs.WX Mr ?_;refine au ?_;refine Gs.lit1 ik MY (cs:=dF o) rfl rfl qZ λb=>?_;refine au ?_;refine Gs.E Mr ?_;refine au ?_;refine xU (n:=x.ct) ?_
 dsimp only
 refine Gs.snd (l:=S.bd x.ct) (x:=o) (f:=dF) ik MY (mz o) qZ (λy z=>?_)
 ·refine au ?_;refine Gs.mup (enc:=eY) (ev:=yr) (x:=x.ct) (v:=.slice y (S.bd x.ct++[o]).length z) rj lu ?_ fR;refine B8 (n:=x.ct) ?_;refine au ?_;refine zn (S:={S with bd:=eS S.bd x.ct (S.bd x.ct++[o]),next:=S.next+1}) (C.put (qm g.alive)) (i qZ) ?_;refine au ?_;refine Gs.tdn (Gs.idn (Gs.uin ?_));have:=E (none,0) (none,0) (none,0) _ (C.put (s:=.slice y (S.bd x.ct++[o]).length z) (qm g.alive)) ⟨aH _,aH _,aH _⟩
  dsimp only[List.length_nil]at this
  exact this.fin
end
end Go.Proofs
namespace Go.Vc
open Go Go.Proofs
section
variable{P:Program}{κ ν:Type} [DecidableEq κ]{enc:κ->Value}{ev:ν->Value}{t kt e:TypeId}{b it:Nat}{D R:List (κ×ν)}{L M:List As}{k:Value->WP}{φ:WP}{c:Option (κ×ν)}{p:κ×ν}
def OR(enc:κ->Value)(ev:ν->Value)(b:Nat)(D:List (κ×ν))(it:Nat)(R:List (κ×ν))(c:Option (κ×ν)):As:=
 ⟨λw F=>eM enc ev w b D/\lz enc ev w it b R/\(∀p,c=some p->yL enc ev w it b p)/\∀x,F x↔x=b\/x=it,
 λh hb=>((h.2.2.2 _).1 hb).elim (λe=>e▸h.1.lt) λe=>e▸h.2.1.lt.2,
 λh m hg=>⟨h.1.mod m (hg _ ((h.2.2.2 _).2 (.inl rfl))),h.2.1.mod m (hg _ ((h.2.2.2 _).2 (.inl rfl))) (hg _ ((h.2.2.2 _).2 (.inr rfl))),λp hp=>(h.2.2.1 p hp).mod m (hg _ ((h.2.2.2 _).2 (.inl rfl))) (hg _ ((h.2.2.2 _).2 (.inr rfl))),h.2.2.2⟩⟩
def Gs.rng(g:P.underlying t=some (.map kt e))(l:∀it,Gs (OR enc ev b D it D none::M) (k (bO it 0)))(q:eG L (mp enc ev b D::M)):Gs L (Xw P (Bo t (.map (some b))) k):=⟨λw ⟨F,z⟩=>by
 obtain⟨s,j,h1,a,n,r⟩:=(q.out w F).1 z;refine tM g h1.1 λf i m=>(l _).go f (Ss.cons.2 ⟨λx=>x=b\/x=w.heap.size,j,⟨h1.1.mod m id,i,λ_ h=>(by cases h),λ_=>aG⟩,a.md m d9,λx o d=>?_⟩);rcases o with rfl|rfl
 ·exact n _ ((h1.2 _).2 rfl) d
 ·have:=a.lt d;omega⟩
def Gs.mpo(h:Gs (mp enc ev b D::M) φ)(q:eG L (OR enc ev b D it R c::M)):Gs L φ:=⟨λw ⟨F,z⟩=>by
 obtain⟨j,a,h1,d,f,l⟩:=(q.out w F).1 z;exact h.go w (Ss.cons.2 ⟨λx=>x=b,a,⟨h1.1,λ_=>aG⟩,d,λx i g=>f x ((h1.2.2.2 x).2 (.inl i)) g⟩)⟩
def Gs.nxt(v:R=[]->Gs (mp enc ev b D::M) (k (.tuple #[.bool false])))(h1:∀i p,R[i]? =some p->Gs (OR enc ev b D it (R.eraseIdx i) (some p)::M) (k (.tuple #[.bool true,enc p.1,ev p.2])))(q:eG L (OR enc ev b D it R c::M)):
  Gs L (Xw P (Ea (bO it 0) false t) k):=⟨λw ⟨F,z⟩=>by
 obtain⟨K,n,⟨o,r,I,h⟩,l,j,H⟩:=(q.out w F).1 z
 have g:b≠it:=λe=>by
  obtain⟨es,O,G,s,C,-⟩:=r;rw[e,C]at s;cases s
 refine vY r (λA f m J=>?_) λi p B f E u m N=>?_
 ·exact(v A).go f (Ss.cons.2 ⟨λx=>x=b,n,⟨o.mod m id,λ_=>aG⟩,l.md m d9,λx a d=>j x ((h x).2 (.inl a)) d⟩)
 ·exact(h1 i p B).go f (Ss.cons.2 ⟨λx=>x=b\/x=it,n,⟨o.mod m g,E,λq y=>by cases y;exact u,λ_=>aG⟩,l.md m λx a d=>j x ((h x).2 (.inr d)) a,λx a d=>j x ((h x).2 a) d⟩)⟩
def Gs.ent(a:Gs L (k (.tuple #[enc p.1,ev p.2])))(q:eG L (OR enc ev b D it R (some p)::M)):Gs L (Xw P (Bq (bO it 0)) k):=⟨λw y=>(iK q y).elim λF h=>tv (h.2.2.1 p rfl) (a.go w y)⟩
def Gs.mpN(h:(D.map (·.1)).Nodup->Gs L φ)(q:eG L (mp enc ev b D::M)):Gs L φ:=⟨λw y=>(iK q y).elim λF a=>(h a.1.1).go w y⟩
def CE{α:Type}{R:List α}{i:Nat}{p x:α}(h:R[i]? =some p)(a:x∈R):x=p\/x∈R.eraseIdx i:=by
 obtain⟨d,rfl⟩:=aJ.1 h;have e:R=R.take i++R[i]::R.drop (i+1):=by rw[ci,cJ]
 rw[e,bf,ax]at a;rw[List.eraseIdx_eq_take_drop_succ,bf];exact a.elim (λh=>.inr (.inl h)) λh=>h.imp id .inr
def Gs.fm{S:Type}{st:S}{body:S->(S->WP)->WP}(q:κ×ν->Prop)(I:As->List As)(m:(D.map (·.1)).Nodup)
  (h:∀R c,(∀p∈R,p∈D)->(∀p∈D,p∈R\/q p)->∀K:S->WP,(∀i p,R[i]? =some p->q p->Gs (I (OR enc ev b D it (R.eraseIdx i) (some p))) (K st))->Gs (I (OR enc ev b D it R c)) (body st K))(l:eG L (I (OR enc ev b D it D none))):Gs L (Lw body st):=
 Gs.l (λ_:List (κ×ν)×Option (κ×ν)=>st) (·.1.length) (λx=>I (OR enc ev b D it x.1 x.2)) (λx=>(∀p∈x.1,p∈D)/\∀p∈D,p∈x.1\/q p) (D,none) rfl ⟨λ_ h=>h,λ_ h=>.inl h⟩ (λx d K j=>h x.1 x.2 d.1 d.2 K λi p g hp=>j (x.1.eraseIdx i,some p) ⟨λy f=>d.1 y ((fg _ _).mem f),λy f=>by
  rcases d.2 y f with a|a
  ·rcases CE g a with rfl|a
   ·exact .inr hp
   ·exact .inl a
  ·exact .inr a⟩ (by
  have:=(aJ.1 g).1;show(x.1.eraseIdx i).length<x.1.length;rw[iZ this];omega)) l
end
end Go.Vc
namespace Go.Proofs
open Go Go.Vc
section
variable{L L0 M:List As}{φ:WP}{K:Value->WP}{v c l mb md b:Nat}{A:List (Int×Nat)}{D:List (Int×Value)}{S:bt}{n a:Int}{bk:Int->Bk}{bd:Int->List Od}{B:Bk}{s:Vt_}{os:List Od}
def Ot{m:Int}(e:lk A n=some b)(d:Gs L (K (.tuple #[kx (bkO ((bk n).find m)),gI (bkE ((bk n).find m))])))(p:eG L (sH A bk::M):=by exact fR):Gs L (Cw pQ 268 #[fi b,gQ m] K):=
 Gs.rd1 (A:=sH A bk) (λw F _ q K h=>q.elim λf q=>OJ (q.q n b trivial e) h) d p
def Hj{a num:Int}(E:pI A D S.cal.l S.bk)(x:sy S)(g:Gs L0 (K (.tuple #[kx (Rj (S.find a num)),gU (QK (S.find a num))])))(pk:eG L0 (vs v c l mb md A D S L):=by exact iP):Gs L0 (Cw pQ 211 #[ec v,gU a,gQ num] K):=by
 refine Gs.pk ?_ pk;replace g:=Gs.pk g pk.symm;refine sN Tryz.func211 ?_;unfold ec;refine au ?_;intro q;refine au ?_;refine Gs.mpN (enc:=eY) (ev:=fi) (D:=A) (λz=>?_) fR;refine Gs.rng xM (λit=>?_) fR;refine Gs.fm (λp=>wN S.bk a num p.1=none) (λX=>X::pt q (Za ⟨0,0,false,0,0⟩) jG::OX v c l mb md S.next::oz c S.cal::mN l S.led::OW md D::sH A S.bk::uI D S.bd::L) z ?_ iP;intro R c O H P j;refine Gs.z ?_;refine Gs.nxt (λF=>?_) (λi p C=>?_) fR
 ·subst F
  have e:S.find a num=none:=by
   unfold bt.find;rw[List.findSome?_eq_none_iff];intro n N;have:=E.dom n;rw[so.1 N]at this;obtain⟨b,G⟩:=fh.1 this;exact(H _ (yK G)).elim (λh=>by cases h) id
  rw[e]at g;refine au ?_;exact g.fin
 have k:lk A p.1=some p.2:=tS z (O p (dc C));have m:p.1∈S.nums:=so.2 (by rw[<-E.dom p.1,k];rfl);refine au ?_;refine Gs.ent ?_ fR;refine au ?_;refine Ot k ?_;have f:wN S.bk a num p.1=fiB a p.1 ((S.bk p.1).find num):=rfl;have u:=j i p C;clear j;generalize(S.bk p.1).find num=Y at f|-;refine au ?_;intro r;refine au ?_;refine Gs.j1 (.bool (fiB a p.1 Y).isSome,()) (λJ w=>?_) ?_
 ·cases Y with
  |none=>
   refine au ?_;refine Gs.Ib (λh=>absurd h (by simp[bkE])) λ_=>?_;exact w
  |some y=>
   refine au ?_;refine Gs.Ib (λ_=>?_) λh=>absurd h (by simp[bkE]);obtain⟨o,d⟩:=y;refine au ?_
   dsimp only[fiB,bkO]at w|-
   by_cases h:o.acct=a<;>simpa [h,show(o.acct==a)=decide (o.acct=a)from rfl]using w
 refine Gs.z ?_;refine Gs.Ib (λh=>?_) λh=>?_
 ·obtain⟨o,d,rfl,t⟩:∃o d,Y=some (o,d)/\o.acct=a:=by
   unfold fiB at h;split at h
   ·rename_i o d
    split at h
    ·grind
    ·cases h
   ·cases h
  have I:wN S.bk a num p.1=some (o,p.1):=by rw[f];exact ae t
  rw[Nh x m I]at g;refine Gs.mpo ?_ fR;refine au ?_;exact g.fin
 ·exact(u (by rw[f];simpa using h)).fin
end
end Go.Proofs
namespace Go.Proofs
open Go Go.Vc
def Ev{B:Bk}{n p l:Int}(f:∀d,(B d).length<=100):(cF B n p l).2.2.gone.length<=100:=by
 unfold cF
 repeat' split
 all_goals first|exact aH _|skip
 refine Eg λe=>?_
 rename_i d _ _ _
 by_cases h:e=d
 ·subst h;rw[Bk.set_self];unfold oX;exact ck (List.eraseP_sublist).length_le (f _)
 ·rw[Bk.set_ne _ _ h];exact f _
section
variable{L L0 M:List As}{φ:WP}{K:Value->WP}{v c l mb md b:Nat}{A:List (Int×Nat)}{D:List (Int×Value)}{S:bt}{n a:Int}{bk:Int->Bk}{bd:Int->List Od}{B:Bk}{s:Vt_}{os:List Od}
def xp{m p l:Int}(hp:ed p)(r:ed l)(h:∀x y,Gs (Cy b (cF B m p l).2.1::Bm (ez x (cF B m p l).2.2.trades.length) (cF B m p l).2.2.trades::tL (ez y (cF B m p l).2.2.gone.length) (cF B m p l).2.2.gone::M)
   (K (.tuple #[.agg (sw (ez x (cF B m p l).2.2.trades.length) (ez y (cF B m p l).2.2.gone.length) (cF B m p l).2.2.filled (cF B m p l).2.2.left),gI (cF B m p l).1])))(q:eG L (Cy b B::M):=by exact fR):
  Gs L (Cw pQ 217 #[fi b,gQ m,gI p,gI l] K):=by
 generalize j:cF B m p l=X at h
 exact Gs.old (A:=Cy b B) (val:=λx:(Option Addr×Nat)×Option Addr×Nat=>.tuple #[.agg (sw (ez x.1 X.2.2.trades.length) (ez x.2 X.2.2.gone.length) X.2.2.filled X.2.2.left),gI X.1]) (p:=λ_=>True) (B:=λx=>(Cy b X.2.1).mul ((Bm (ez x.1 X.2.2.trades.length) X.2.2.trades).mul (tL (ez x.2 X.2.2.gone.length) X.2.2.gone))) (λw F _ q K h=>HS q hp r λe sT G i f o z g nn=>by
  rw[j]at f o|-;obtain⟨C,k,rfl,-⟩:=o.tr.isSl;obtain⟨u,t,rfl,-⟩:=o.go.isSl;exact h ((C,k),u,t) i (λy=>e y\/aF _ y\/aF _ y) trivial ⟨e,_,f,⟨aF _,aF _,⟨o.tr,λ_=>aG⟩,⟨o.go,λ_=>aG⟩,o.dj,λ_=>aG⟩,λy d E=>(nn y E).2 d,λ_=>aG⟩ z λy d=>d.elim (g y) λh=>.inr (nn y h).1) (λx _=>((h x.1 x.2).pk (eG.cons O3)).pk O3) q
def GI{x:Cm}(w:pI A D S.cal.l S.bk)(f:S.Ok)(V:x.Fit)(W:x.acct≠0)(z:Sg v c l mb md A (S.replace x) L K)(pk:eG L0 (vs v c l mb md A D S L):=by exact iP):Gs L0 (Cw pQ 140 #[ec v,zF x] K):=by
 refine Gs.pk ?_ pk;refine sN Tryz.func140 ?_;unfold ec;have O:=V;obtain⟨f1,f2,f3,f4,f5,f6,f7,H,R⟩:=O;refine au ?_;intro p;refine au ?_;intro q;refine au ?_;refine Hj w f.ord ?_
 have e:S.replace x=match S.find x.acct x.num with
   |none=>(7,kI,S)
   |some (o,n)=>if S.pass x.acct n o.buy x.price x.qty o≠0 then(S.pass x.acct n o.buy x.price x.qty o,kI,S)else
   (if(cF (S.bk n) x.num x.price x.qty).1≠0 then((cF (S.bk n) x.num x.price x.qty).1,kI,{S with bk:=eS S.bk n (cF (S.bk n) x.num x.price x.qty).2.1})
    else({S with bk:=eS S.bk n (cF (S.bk n) x.num x.price x.qty).2.1}:bt).traded n o (cF (S.bk n) x.num x.price x.qty).2.2):=rfl
 cases G:S.find x.acct x.num with
 |none=>
  rw[G]at e
  dsimp only[Rj,QK]
  refine au ?_;intro r;refine au ?_;exact z.fail e (D:=D) w
 |some y=>
 obtain⟨o,n⟩:=y;rw[G]at e
 dsimp only at e
 obtain⟨F,hoa,Z,d,T,hfd⟩:=qr G;have I:=jD (f.ord.std n o (iz T)).may
 dsimp only[Rj,QK]
 refine au ?_;intro r;refine au ?_;refine Gs.Ib (λh=>absurd (by simpa using h) (K0 f F).1) λ_=>au ?_;refine HD w f H R ⟨qZ,I.2⟩ ?_;by_cases k:S.pass x.acct n o.buy x.price x.qty o≠0
 ·rw[ae k]at e;refine au ?_;refine Gs.Ib (λ_=>?_) λh=>absurd k (by simpa using h);refine au ?_;exact z.fail e (D:=D) w
 rw[aa k]at e;have k:=Decidable.not_not.1 k;have m:=yo W k;obtain⟨b,j⟩:=BQ w (so.1 F);have i:=zU f V W G k;have Q:(cF (S.bk n) x.num x.price x.qty).2.2.gone.length<=100:=Ev λd=>(f.ord.side _ d).1;have N:(cF (S.bk n) x.num x.price x.qty).2.2.trades.length<=100:=HG λd=>(f.ord.side _ d).1;rw[k];refine au ?_;obtain⟨X,P⟩:=di (cF (S.bk n) x.num x.price x.qty);rw[<-P]at N Q e i
 refine Gs.j (λy:Nat×(Option Addr×Nat)×Option Addr×Nat=>(.pointer (some ⟨y.1,0,none⟩),gI X.1,())) (λy=>pt y.1 (plX (ez y.2.1 X.2.2.trades.length) (ez y.2.2 X.2.2.gone.length) X.2.2.filled X.2.2.left) 246::Bm (ez y.2.1 X.2.2.trades.length) X.2.2.trades::tL (ez y.2.2 X.2.2.gone.length) X.2.2.gone::
   pt r (Za o) jG::pt q OS vg::pt p (ny x) tA::vs v c l mb md A D {S with bk:=eS S.bk n X.2.1} L) (λ_=>True) (λJ U=>?_) λy _=>?_
 ·refine au ?_;refine Gs.WX (YN j) ?_;refine au ?_;refine Gs.An ?_ (au ?_)
  ·refine ui j ?_;refine xp H R (λt g=>?_);rw[<-P];refine wH j ?_;refine au ?_;intro y;refine au ?_;exact(U (y,t,g) trivial).fin
  ·intro y;refine au ?_;refine Gs.E (YN j) ?_;refine au ?_;refine ui j ?_;refine xp H R (λt g=>?_);rw[<-P];refine wH j ?_;refine au ?_;exact(U (y,t,g) trivial).fin
 obtain⟨y,t,g⟩:=y
 dsimp only
 refine Gs.z (au ?_);refine Gs.Ib (λh=>?_) λh=>?_
 ·rw[ae (by simpa using h)]at e;refine au ?_;exact z.fail e (D:=D) (w.upb j)
 ·rw[aa (by simpa using h)]at e;rw[e]at z;refine au ?_;refine BW (S:={S with bk:=eS S.bk n X.2.1}) (t:=t) (g:=g) (p:=X.2.2) (w.upb j) (i (by simpa using h)) m.alive qZ qZ (λt g u D' C E=>?_);generalize bt.traded _ n o X.2.2=Y at z C E|-;refine au ?_;exact(z t g u D' C E).fin
end
end Go.Proofs
namespace Go.Proofs
open Go Go.Vc
abbrev YO(a:Ac):List Value:=[.int .u32 a.num,gI a.cash,.bool a.kil,.bool a.dfl]
section
variable{L L0 M:List As}{φ:WP}{K:Value->WP}{v c l mb md b:Nat}{A:List (Int×Nat)}{D:List (Int×Value)}{S:bt}{n a:Int}{bk:Int->Bk}{bd:Int->List Od}{B:Bk}{s:Vt_}{os:List Od}
def Il{fv:Vt_}{f:Od->Bool}(h:∀w,Ss w L->Rd w 5 s os.length (os.flatMap dF))(g:∀w,Ss w L->Ey w fv f os)(i:os.length<=100000)(d:Gs L (K (gI (rz os f)))):Gs L (Cw pQ 213 #[s,fv] K):=
 ⟨λw y=>wE (h w y) qZ (g w y) λe m=>d.go e (y.md0 m)⟩
def C1{i j:Nat}(e:i<j)(t:j<=os.length)(r:os.length<=1000000)(k:∀d,Gs (mE d (os.take i++os.drop j)::M) (K d))(p:eG L (mE s os::M):=by exact fR):Gs L (Cw pQ 215 #[s,gI (i:Int),gI (j:Int)] K):=
 Gs.old (A:=mE s os) (val:=λd=>d) (p:=λ_=>True) (B:=λd=>mE d (os.take i++os.drop j)) (λw F _ q K h=>u0 q.1 e t r λd g o m n=>h d g (aF d) trivial ⟨o,λ_=>aG⟩ (m.mono λy _ f=>(q.2 y).2 f) λy f=>.inl ((q.2 y).2 (n y f))) (λd _=>k d) p
def Gs.itL{k:Value->WP}{i n:Nat}(t:∀w,Ss w L->Rd w 5 s n (os.flatMap dF))(h:n=os.length)(hi:i<os.length)(m:Gs L (k (gI os[i].left))):Gs L (Pw pQ (iX sC s (gI (i:Int))) λp=>Pw pQ (iF jG p 4) λq=>Ww pQ (iL 2 q) k):=⟨λw y=>by
 obtain⟨b,e,o,f,g,r⟩:=(t w y).item dV hi h;obtain⟨C,x,u,hC,j⟩:=r.get;have d:=j 4 _ rfl;rw[ey]at d;refine du (bO b (e+i*5)) (λW=>by rw[f];subst h;simp[go_sem,hi,bK,ik]) ?_;refine du (bO b (e+i*5+4)) (λ_=>by simp[go_sem,bK]) (lN (gI os[i].left) (by simp[go_sem,hC,d]) (m.go w y))⟩
def Kr(h:(∀n,lk D n=none->bd n=[])->Gs L φ)(p:eG L (uI D bd::M):=by exact fR):Gs L φ:=⟨λw y=>(iK p y).elim λF q=>(h λn i=>by
 have d:=q.q n trivial;unfold lx at d;rw[i]at d;obtain⟨e,⟨-,j⟩|⟨b,g,rest,f,-⟩⟩:=d
 ·grind
 ·cases f).go w y⟩
def JN{x:Cm}(C:pI A D S.cal.l S.bk)(m:S.Ok)(hx:x.Fit)(z:Sg v c l mb md A (S.cancel x) L K)(pk:eG L0 (vs v c l mb md A D S L):=by exact iP):Gs L0 (Cw pQ 139 #[ec v,zF x] K):=by
 refine Gs.pk ?_ pk;refine sN Tryz.func139 ?_;unfold ec;refine au ?_;intro p;refine au ?_;intro q;refine au ?_;refine Hj C m.ord ?_;cases O:S.find x.acct x.num with
 |some y=>
  obtain⟨o,n⟩:=y;have g:S.cancel x=((fq (S.bk n) x.num).1,{kI with num:=x.num,left:=o.left},{S with bk:=eS S.bk n (fq (S.bk n) x.num).2.1}):=by unfold bt.cancel;rw[O]
  obtain⟨G,hoa,hon,d,hod,hfd⟩:=qr O;obtain⟨b,H⟩:=BQ C (so.1 G)
  dsimp only[Rj,QK]
  refine au ?_;intro r;refine au ?_;refine Gs.Ib (λ_=>?_) λh=>absurd (by simpa using h) (K0 m G).1;refine au ?_;refine Gs.WX (YN H) ?_;refine au ?_;refine ui H ?_;refine FX ?_;refine wH H ?_;rw[g]at z;refine au ?_;refine Gs.tdn (Gs.idn (Gs.uin ?_));have:=z (none,0) (none,0) (none,0) D (C.upb H) ⟨aH _,aH _,aH _⟩
  dsimp only[List.length_nil,kI]at this
  exact this.fin
 |none=>
  have g:S.cancel x=match S.nums.findSome? (vr S.bd x.acct x.num)with
    |some (i,n)=>(0,{kI with num:=x.num,left:=((S.bd n).getD i oQ).left},{S with bd:=eS S.bd n ((S.bd n).eraseIdx i)})
    |none=>(7,kI,S):=by unfold bt.cancel;rw[O];rfl
  dsimp only[Rj,QK]
  refine au ?_;intro r;refine au ?_;refine Kr (λQ=>?_);refine Gs.mpN (enc:=eY) (ev:=yr) (D:=D) (λU=>?_) fR;refine Gs.rng rj (λit=>?_) fR;refine Gs.fm (λp=>vr S.bd x.acct x.num p.1=none) (λX=>X::pt r (Za oQ) jG::pt q OS vg::pt p (ny x) tA::OX v c l mb md S.next::oz c S.cal::mN l S.led::OU mb A::sH A S.bk::uI D S.bd::L) U ?_ iP;intro R c hR P KN J;refine Gs.z ?_;refine Gs.nxt (λZ=>?_) (λi y W=>?_) fR
  ·subst Z
   have t:S.nums.findSome? (vr S.bd x.acct x.num)=none:=by
    rw[List.findSome?_eq_none_iff];intro n hn;cases V:lk D n with
    |some s=>exact(P _ (yK V)).elim (λh=>by cases h) id
    |none=>unfold vr;rw[Q n V];rfl
   rw[t]at g;refine au ?_;exact z.fail g (D:=D) C
  obtain⟨n,s⟩:=y;have F:lk D n=some s:=tS U (hR _ (dc W));have N:lx D n=s:=by unfold lx;rw[F];rfl
  have E:(cj S.cal.l n).isSome=true:=C.dod _ (by rw[F];rfl);have Y:=m.ord.bdl n;refine au ?_;refine Gs.ent ?_ fR
  dsimp only[eY,yr]
  refine au ?_;subst N;refine Il (os:=S.bd n) (f:=wo x.acct x.num) (qg n) (λw y=>Xe (td fR y) _) qZ ?_;cases k:(S.bd n).findIdx? (wo x.acct x.num)with
  |none=>
   have e:rz (S.bd n) (wo x.acct x.num)= -1:=by unfold rz;rw[k]
   rw[e];refine au ?_;exact(J i _ W (by unfold vr;rw[k];rfl)).fin
  |some j=>
   obtain⟨u,hjp,-⟩:=bz.1 k;have e:rz (S.bd n) (wo x.acct x.num)=(j:Int):=by unfold rz;rw[k]
   have I:=R8 m.ord (so.2 E) k;rw[I]at g
   dsimp only at g
   rw[show(S.bd n).getD j oQ=(S.bd n)[j] by simp[u]]at g;rw[e];refine Gs.mpo ?_ fR;refine au ?_;refine Gs.itL (os:=S.bd n) (qg n) rfl u ?_;rw[g]at z;generalize(S.bd n)[j]=o at z|-;refine au ?_;refine xU (n:=n) ?_;rw[show(j:Int)+1=((j+1:Nat):Int) by omega];refine C1 (nK j) u qZ (λT=>?_);rw[Ip];refine au ?_;refine Gs.mup (enc:=eY) (ev:=yr) (x:=n) (v:=T) rj lu ?_ fR;refine B8 (n:=n) ?_;refine au ?_;refine Gs.tdn (Gs.idn (Gs.uin ?_));have:=z (none,0) (none,0) (none,0) _ (C.put (s:=T) E) ⟨aH _,aH _,aH _⟩
   dsimp only[List.length_nil,kI]at this
   exact this.fin
def Fq{x:Cm}(k:pI A D S.cal.l S.bk)(f:S.Ok)(i:x.Fit)
  (e:Gs (vs v c l mb md A D {S with led:=(S.led.withdraw x.acct x.amt).2} L) (K (gI (if(S.led.withdraw x.acct x.amt).1≠0 then(S.led.withdraw x.acct x.amt).1 else if(({S with led:=(S.led.withdraw x.acct x.amt).2}:bt).acc x.acct).dfl=true then 120 else({S with led:=(S.led.withdraw x.acct x.amt).2}:bt).bears x.acct))))(pk:eG L0 (vs v c l mb md A D S L):=by exact iP):
  Gs L0 (Cw pQ 133 #[ec v,zF x] K):=by
 refine Gs.pk ?_ pk;refine sN Tryz.func133 ?_;unfold ec;have d:=zy f (n:=x.acct) (m:=x.amt);obtain⟨t,j,z,y,u,w,q,o,C⟩:=i;refine au ?_;intro p;refine au ?_;refine Ij j ?_;generalize S.led.withdraw x.acct x.amt=Y at e d|-;refine au ?_;refine Gs.Ib (λh=>?_) λh=>?_
 ·rw[ae (by simpa using h)]at e;exact e.fin
 rw[aa (by simpa using h)]at e;refine Gs.jv (λr=>(.pointer (some ⟨r,0,none⟩),())) (YO (({S with led:=Y.2}:bt).acc x.acct)) 100 (λJ g=>au ?_) λr=>?_
 ·refine Gs.An ?_ (au ?_)
  ·refine sj ?_;rw[oq {S with led:=Y.2}];refine au ?_;intro r;refine au ?_;exact(g r).fin
  ·intro r;refine au ?_;refine sj ?_;rw[oq {S with led:=Y.2}];refine au ?_;exact(g r).fin
 dsimp only
 refine Gs.z (au ?_);refine Gs.Ib (λh=>?_) λh=>?_
 ·rw[ae h]at e;exact e.fin
 rw[aa (by rw[h];decide)]at e;refine au ?_;exact zn (S:={S with led:=Y.2}) k d e.fin
def GE{k:Ct}{f t price qty:Int}{long:Bool}(g:iU k.spec.num)(d:Gs (vs v c l mb md A D {S with led:=(mq S.led k.spec.num f t long price qty).2} L) (K (gI (mq S.led k.spec.num f t long price qty).1)))(pk:eG L0 (vs v c l mb md A D S L):=by exact iP):
  Gs L0 (Cw pQ 276 #[ec v,.agg (dA k).toArray,gU f,gU t,.bool long,gI price,gI qty] K):=by
 refine Gs.pk ?_ pk;refine sN Tryz.func276 ?_;unfold ec;unfold mq at d;refine au ?_;intro r;refine Gs.j1 (gU (if long then f else t),gU (if long then t else f),()) (λJ e=>?_) ?_
 ·cases long<;>exact au e
 dsimp only
 refine Gs.z (au ?_);cases long
 all_goals
  simp only[bi,df,dg]at d|-;refine Iq g ?_;exact d.fin
end
end Go.Proofs
namespace Go.Proofs
open Go Go.Vc
section
variable{L L0 M:List As}{φ:WP}{K:Value->WP}{v c l mb md b p2 p6:Nat}{A:List (Int×Nat)}{D:List (Int×Value)}{S:bt}{n a:Int}{bk:Int->Bk}{bd:Int->List Od}{B:Bk}{s:Vt_}{os:List Od}{ids:List Int}{x:Option Addr×Nat}
abbrev Qx(p:Nat)(x:Option Addr×Nat)(ids:List Int)(L:List As):List As:=pt p [ez x ids.length] 39::tL (ez x ids.length) ids::L
def Nc(X:os.length<=1000)(r:ids.length<=50000)(O:∀d x,Gs (mE d (os.filter λo=> !lw a o)::Qx p6 x (ids++(os.filter (lw a)).map (·.num)) (pt p2 [.int .u32 a] 45::M)) (K d))(q:eG L (mE s os::Qx p6 x ids (pt p2 [.int .u32 a] 45::M)):=by exact iP):
  Gs L (Cw pQ 220 #[s,.func (.func 221) #[] #[.pointer (some ⟨p2,0,none⟩),.pointer (some ⟨p6,0,none⟩)]] K):=by
 let T:List Int:=ids++(os.filter (lw a)).map (·.num);refine Gs.pk ?_ q;refine Gs.old (φ:=λk=>Cw pQ _ _ k) (A:=(mE s os).mul ((pt p6 [ez x ids.length] 39).mul ((tL (ez x ids.length) ids).mul (pt p2 [.int .u32 a] 45)))) (val:=λy:Value×Option Addr×Nat=>y.1) (p:=λ_=>True) (B:=λy=>(mE y.1 (os.filter λo=> !lw a o)).mul ((pt p6 [ez y.2 T.length] 39).mul ((tL (ez y.2 T.length) T).mul (pt p2 [.int .u32 a] 45)))) (λw F _ ⟨F1,F2,⟨o,e1⟩,⟨F3,F4,⟨t,e3⟩,⟨F5,F6,⟨i,e5⟩,⟨j,e6⟩,J,g4⟩,Q,g2⟩,N,g0⟩ K h=>?_) (λy _=>(((O y.1 y.2).pk (eG.cons (eG.cons O3))).pk (eG.cons O3)).pk O3) ((O3.trans (eG.cons (O3.trans (eG.cons O3)))).symm);have h1:∀y,aF s y->y≠p2/\y≠p6/\¬aF (ez x ids.length) y:=by grind
 have I:p2≠p6:=by grind
 have V:¬aF (ez x ids.length) p2:=by grind
 have P:∀y,aF (ez x ids.length) y->y≠p6:=by grind
 refine Mn o X j ⟨t,i,P⟩ r I V h1 λd Z G W Y m n1 n2=>?_;have l2:=aB j;have l6:=aB t;have ls:=λy (g:aF s y)=>o.lt g;have H:=m.hpk j (by grind);obtain⟨R,C,U⟩:=Y;obtain⟨u,E,rfl,-⟩:=C.isSl;refine h (d,u,E) G (λz=>aF d z\/(z=p6\/(aF (ez (u,E) T.length) z\/z=p2))) trivial ⟨aF d,_,⟨W,λ_=>aG⟩,⟨λz=>z=p6,_,⟨R,λ_=>aG⟩,⟨aF _,λz=>z=p2,⟨C,λ_=>aG⟩,⟨H,λ_=>aG⟩,λz f e=>?_,λ_=>aG⟩,λz f e=>?_,λ_=>aG⟩,λz f e=>?_,λ_=>aG⟩ (m.mono λy _ g=>?_) λy g=>?_
 ·have:=n2 z f;grind
 ·have:=U p6;grind
 ·grind
 ·grind
 ·grind
def zm{k:Int}(hv:pI A D S.cal.l S.bk)(t:S.cal.Ok)(hbl:∀n,(S.bd n).length<=50)
  (hK:∀y D',pI A D' S.cal.l (S.clear a k).2.bk->(S.clear a k).1.length<=4000->Gs (vs v c l mb md A D' (S.clear a k).2 (tL (ez y (S.clear a k).1.length) (S.clear a k).1::L)) (K (ez y (S.clear a k).1.length)))
  (pk:eG L0 (vs v c l mb md A D S L):=by exact iP):Gs L0 (Cw pQ 144 #[ec v,gU a,gU k] K):=by
 refine Gs.pk ?_ pk;refine sN Tryz.func144 ?_;unfold ec;refine au ?_;intro p0;refine au ?_;intro p1;refine au ?_;intro p2;refine au ?_;intro U;refine au ?_;refine Gs.idn (AC λgv=>?_);refine Gg.rf (L:=L) (λ_ _ _ _=>rfl) (L1 _) (I:=λi (b:(Option Addr×Nat)×List (Int×Value)) M=>Qx U b.1 (ym a k S i).1 (pt p1 [.int .u32 a] 45::pt p2 [.int .u32 k] 45::pt p0 [.pointer (some ⟨v,0,none⟩)] 24::vs v c l mb md A b.2 (ym a k S i).2 M)) (E:=λ(_:Unit) M=>M) (λ_ _ _=>rfl) (λ_ _=>rfl) (λi b=>pI A b.2 S.cal.l (ym a k S i).2.bk/\(ym a k S i).1.length<=250*i/\∀n,((ym a k S i).2.bd n).length<=50) (λ_ _=>False) ((none,0),D) ⟨hv,aH _,hbl⟩ ?_ ?_ (λ_ _ _ (h:False)=>h.elim) ?_
 ·rintro i hi ⟨x,P⟩ ⟨h1,G,z⟩ l1 r1 q M kn kj e -;have u:=Mw (a:=a) (k:=k) hi;have hn:(cj S.cal.l S.cal.l[i].spec.num).isSome=true:=by rw[Dk t (aq hi)];rfl
  have H:(ym a k S i).2.cal=S.cal:=P8;have hil:=t.len
  dsimp only at h1 G z e|-
  generalize S.cal.l[i]=C at u hn|-;rw[u]at e;generalize ym a k S i=Y at e H h1 G z|-;obtain⟨g,T⟩:=Y
  dsimp only at H h1 G z e|-
  refine au ?_;refine Gs.j1 (.bool (decide (¬(k=0\/k=C.spec.num))),()) (λJ hJ=>au ?_) ?_
  ·refine Gs.Ib (λW=>?_) λW=>?_
   ·refine au ?_;have W:¬k=0:=by simpa using W
    simpa [W,show(k != C.spec.num)= !decide (k=C.spec.num)from rfl]using hJ
   ·grind
  refine Gs.z (Gs.I (λhc=>?_) λhc=>au ?_)
  ·rw[aa hc]at e;exact(e (x,P) _ ⟨h1,(by omega:g.length<=_),z⟩).fin
  rw[ae (Decidable.not_not.1 hc)]at e;unfold uL at e
  dsimp only at e
  have hnb:∀m,((eS T.bd C.spec.num ((T.bd C.spec.num).filter λo=> !lw a o)) m).length<=50:=λm=>by
   by_cases hm:m=C.spec.num
   ·subst hm;rw[cQ];exact ck (bh _ _) (z _)
   ·rw[eR _ _ _ hm];exact z m
  have hfl:=ck (bh (lw a) _) (z C.spec.num);have hbl' :=z C.spec.num;obtain⟨b,V⟩:=BQ h1 hn;refine Gs.WX (YN V) ?_;refine au ?_;refine ui V ?_;refine Gs.fact (λw F q=>(gg.all q).1) λX=>?_;have hml:=Hq (a:=a) X;refine Ma (λy1 y2=>?_);refine wH V ?_;generalize(jk (T.bk C.spec.num) a).2=O at e hml|-;generalize(jk (T.bk C.spec.num) a).1=B' at e|-;refine Gs.lenW ik (λw y=>nG fR w y) ?_;refine Gs.l (λy:Nat×(Option Addr×Nat)=>(gI y.1,())) (λy=>O.length - y.1) (λy=>Qx U y.2 (g++(O.take y.1).map (·.num)) (mE (.slice y1 O.length y2) O::pt q (dA C) jW::pt p1 [.int .u32 a] 45::pt p2 [.int .u32 k] 45::pt p0 [.pointer (some ⟨v,0,none⟩)] 24::vs v c l mb md A P {T with bk:=eS T.bk C.spec.num B' } (x7 l1 r1::M))) (λy=>y.1<=O.length) (0,x) rfl (aH _) ?_ ?_
  rotate_left
  ·show eG _ (Qx U x (g++[]) _);rw[aN];exact iP
  rintro⟨j,x'⟩ hj KN Q
  dsimp only at hj Q|-
  refine Gs.z (au ?_);refine Gs.I (λh=>?_) λh=>?_
  ·have N:j<O.length:=qZ;have htk:=bR N;refine Gs.it ik P7 dV R3 (λw y=>nG fR w y) rfl N ?_;have hLl:(g++(O.take j).map (·.num)).length<=10000:=by rw[af,ah,az];omega
   have p:=λz1 z2=>Q (j+1,z1,z2) (by dsimp only;omega) (by dsimp only;omega)
   dsimp only at p
   rw[htk,aM,<-ar,aI,gf]at p;generalize O[j]=o at p|-;generalize g++(O.take j).map (·.num)=I at hLl p|-;refine au ?_;intro r;refine au ?_;refine Gs.push (x:=o.num) (f:=vZ) (l:=I) yf Oa (λ_=>rfl) rfl rfl qZ qZ (λz1 z2=>?_) fR;refine au ?_;exact(p z1 z2).fin
  obtain rfl:j=O.length:=qZ;rw[aK];have Z:(g++O.map (·.num)).length<=10000:=by rw[af,ah];omega
  have R:(g++O.map (·.num)++((T.bd C.spec.num).filter (lw a)).map (·.num)).length<=250*(i+1):=by rw[af,af,ah,ah];omega
  generalize g++O.map (·.num)=I at Z R e|-;refine au ?_;refine Gs.WX Mr ?_;refine xU (n:=C.spec.num) ?_;refine Nc (a:=a) (os:=T.bd C.spec.num) (ids:=I) (x:=x') qZ qZ (λs' x2=>?_);refine au ?_;refine Gs.mup (enc:=eY) (ev:=yr) (x:=C.spec.num) (v:=s') rj lu ?_ fR;refine B8 (n:=C.spec.num) ?_;have:=e (x2,put P C.spec.num s') (dA C) ⟨(h1.upb V).put hn,R,hnb⟩;exact this.fin
 ·rintro⟨x,P⟩ d ⟨h1,G,z⟩;have H:=t.len;rw[Pc]at h1 G|-
  dsimp only at h1 G|-
  generalize S.clear a k=Y at h1 G hK|-;obtain⟨I,T⟩:=Y;refine Gs.ak (au ?_);refine Gs.tw ?_;refine au ?_;exact(hK x P h1 qZ).fin
 ·show eG _ (pt U [.slice none 0 0] 39::tL (ez (none,0) 0) []::pt p1 [.int .u32 a] 45::pt p2 [.int .u32 k] 45::pt p0 [.pointer (some ⟨v,0,none⟩)] 24::vs v c l mb md A D S L);exact iP
end
end Go.Proofs
namespace Go.Proofs
open Go Go.Vc
def uG(mw:Nat)(won:Int->Int):As:=⟨λw F=>C8 w mw won/\∀x,F x↔x=mw,λh hb=>by
  obtain⟨⟨L,h1,-⟩,h2⟩:=h;rw[(h2 _).1 hb];exact h1.lt,λh m hg=>⟨h.1.mod m (hg mw ((h.2 mw).2 rfl)),h.2⟩⟩
abbrev vaA(s:Vt_)(l:List (Int×Int)):As:=ow s 366 2 l.length (l.flatMap pg)
def ai2:Tryz.prog.cellsOf 366=1+1:=cV
def YW(x:Int×Int)(w:Wt_)(b off:Nat)(h:At w b off (pg x)):(iL 366 (bO b off)).run pQ w=.ok (.agg (pg x).toArray) w:=by
 obtain⟨C,e,i,hC,g⟩:=h.get;have f:=g 0 (gU x.1) rfl;have d:=g 1 (gI x.2) rfl;simp only[cB]at f d;simp[go_sem,bT hC,f,d,pg]
section
variable{L L0 M:List As}{φ:WP}{K:Value->WP}{k0:WP}{v c l mb md b mw:Nat}{A:List (Int×Nat)}{D:List (Int×Value)}{S:bt}{n a:Int}{X:bJ}{won:Int->Int}
def Gs.wonL(d:Gs L (K (gI (won n))))(q:eG L (uG mw won::M):=by exact fR):Gs L (Xw pQ (jQ 309 (.map (some mw)) (gU n) false) K):=⟨λw y=>(iK q y).elim λF h=>kY (h.1.look n) (d.go w y)⟩
def Gs.wonU{x:Int}(p:Gs (uG mw (eS won n x)::M) k0)(q:eG L (uG mw won::M):=by exact fR):Gs L (Yw pQ (qX 309 (.map (some mw)) (gU n) (gI x)) k0):=⟨λw ⟨F,z⟩=>by
 obtain⟨t,i,⟨⟨Lw,r,j⟩,h1⟩,h,f⟩:=Ss.cons.1 (⟨F,(q.out w F).1 z⟩:Ss w (uG mw won::M));refine gZ (enc:=eY) (ev:=Mq) (x:=n) (v:=x) Wa lu r λg o m _=>p.go g (Ss.cons.2 ⟨t,i,⟨⟨_,o,λk=>?_⟩,h1⟩,h.md m λy s u=>f y ((h1 y).2 u) s,f⟩);rw[lm];by_cases d:k=n
 ·subst d;rw[cQ,ae rfl];rfl
 ·rw[eR _ _ _ d,aa λe=>d e.symm,j]⟩
def Tj{ct price:Int}{cl:Bool}(g:X.held.length<4294967295)(f:∀y,Gs (mN l (X.mark ct price cl).2.2::vaA (ez y (X.mark ct price cl).2.1.length) (X.mark ct price cl).2.1::M) (K (.tuple #[ez y (X.mark ct price cl).2.1.length,gI (X.mark ct price cl).1])))(p:eG L (mN l X::M):=by exact fR):
  Gs L (Cw pQ 263 #[eP l,gU ct,gI price,.bool cl] K):=
 Gs.old (A:=mN l X) (val:=λy:Option Addr×Nat=>.tuple #[ez y (X.mark ct price cl).2.1.length,gI (X.mark ct price cl).1]) (p:=λ_=>True) (B:=λy=>(mN l (X.mark ct price cl).2.2).mul (vaA (ez y (X.mark ct price cl).2.1.length) (X.mark ct price cl).2.1)) (λw F _ q K h=>VM q g λe sl j o i nn=>by
  obtain⟨x,y,rfl,-⟩:=o.isSl;exact h (x,y) e (λy=>F y\/aF _ y) trivial ⟨F,aF _,j,⟨o,λ_=>aG⟩,λy d k=>by have:=nn y k;have:=q.lt d;omega,λ_=>aG⟩ i λy d=>d.elim .inl λh=>.inr (nn y h)) (λx _=>(f x).pk O3) p
def HB(h:X.Ok->Gs L φ)(p:eG L (mN l X::M):=by exact fR):Gs L φ:=⟨λw y=>(iK p y).elim λF q=>(h q.ok).go w y⟩
def Gz{k:Ct}{cl:Bool}{B:Int}(F:S.led.held.length<4294967295)(G:WR B won)(C:0<=B/\B<=2000000000000000000)
  (t:Gs (uG mw (iy won (S.led.mark k.spec.num k.price cl).2.1)::vs v c l mb md A D {S with led:=(S.led.mark k.spec.num k.price cl).2.2} L) (K (gI (S.led.mark k.spec.num k.price cl).1)))(pk:eG L0 (uG mw won::vs v c l mb md A D S L):=by exact iP):
  Gs L0 (Cw pQ 205 #[ec v,.agg (dA k).toArray,.bool cl,.map (some mw)] K):=by
 refine Gs.pk ?_ pk;refine sN Tryz.func205 ?_;unfold ec;refine HB (X:=S.led) (λz=>?_);obtain⟨m,d⟩:=yM z k.spec.num k.price cl;refine au ?_;intro r;refine au ?_;refine Tj F (λy=>?_);generalize S.led.mark k.spec.num k.price cl=X at m d t|-;obtain⟨e,V,Y⟩:=X
 dsimp only at m d t|-
 refine au ?_;refine Gs.l (λi:Nat=>(gI i,())) (V.length - ·) (λi=>uG mw (iy won (V.take i))::vaA (ez y V.length) V::pt r (dA k) jW::vs v c l mb md A D {S with led:=Y} L) (·<=V.length) 0 rfl (aH _) ?_ (show eG _ (uG mw won::vaA (ez y V.length) V::pt r (dA k) jW::vs v c l mb md A D {S with led:=Y} L)from iP);intro i O I s
 dsimp only
 refine Gs.z (au ?_);refine Gs.I (λh=>?_) λh=>?_
 ·have j:i<V.length:=qZ;have p:=bR j;have u:=d _ (aq j);have g:=s (i+1) qZ qZ
  have o:WR (B+1100000000000000*64) (iy won (V.take i)):=by
   have h1:=zh (V:=1100000000000000) qZ (V.take i) G λy E=>(d y (bF E)).1;intro n;have J:=h1 n;have N:((V.take i).length:Int)<=64:=by rw[az];omega
   omega
  rw[p,show iy won (V.take i++[V[i]])=eS (iy won (V.take i)) V[i].1 (iy won (V.take i) V[i].1+V[i].2) by unfold iy;rw[iV];rfl]at g;refine Gs.it (T:=366) (f:=pg) cV ai2 (λ_=>rfl) YW (λw y=>nG fR w y) rfl j ?_;generalize iy won (V.take i)=wn at o g|-;generalize V[i]=x at u g|-;have H:=o x.1;unfold pg;refine au ?_;intro q;refine au ?_;refine Gs.wonL ?_;refine au ?_;refine Gs.wonU ?_;refine au ?_;exact g.fin
 ·obtain rfl:i=V.length:=qZ;rw[aK];exact t.fin
end
end Go.Proofs
namespace Go.Proofs
open Go Go.Vc
abbrev duA(s:Vt_)(l:List Du):As:=ow s 369 3 l.length (l.flatMap Kp)
abbrev Z4(s:Vt_)(l:List Sd):As:=ow s 374 4 l.length (l.flatMap xn)
abbrev sdX(d:Sd):List Value:=[.int .u32 d.acct,gI d.cash,.bool d.dfl,gI d.cut]
structure ai0 where
 i:Nat
 g:Option Addr×Nat
 u:Option Addr×Nat
 D:List (Int×Value)
 gn:List Int
 ac:List Int
 T:bt
def OC(s:Sd)(l:List Sd)(gn ac:List Int)(S:bt):nJ (s::l) ⟨0,0,0,0,[],gn,ac⟩ S=
  if((if s.dfl then(S.clear s.acct 0).2 else S).led.set {S.acc s.acct with cash:=s.cash,dfl:=(S.acc s.acct).dfl||s.dfl}).1≠0 then
   (((if s.dfl then(S.clear s.acct 0).2 else S).led.set {S.acc s.acct with cash:=s.cash,dfl:=(S.acc s.acct).dfl||s.dfl}).1,⟨0,0,0,0,[],if s.dfl then gn++(S.clear s.acct 0).1 else gn,if s.dfl then ac++[s.acct]else ac⟩,{(if s.dfl then(S.clear s.acct 0).2 else S)with led:=((if s.dfl then(S.clear s.acct 0).2 else S).led.set {S.acc s.acct with cash:=s.cash,dfl:=(S.acc s.acct).dfl||s.dfl}).2})
  else nJ l ⟨0,0,0,0,[],if s.dfl then gn++(S.clear s.acct 0).1 else gn,if s.dfl then ac++[s.acct]else ac⟩ {(if s.dfl then(S.clear s.acct 0).2 else S)with led:=((if s.dfl then(S.clear s.acct 0).2 else S).led.set {S.acc s.acct with cash:=s.cash,dfl:=(S.acc s.acct).dfl||s.dfl}).2}:=by
 cases h:s.dfl<;>simp only[nJ,h,df,dg,bi]<;>rfl
def CD(won:Int->Int)(a:Ac):Du:=⟨a.num,a.cash,won a.num⟩
def YY(x:Sd)(w:Wt_)(b off:Nat)(h:At w b off (xn x)):(iL 374 (bO b off)).run pQ w=.ok (S4 x) w:=by
 obtain⟨C,e,m,hC,d⟩:=h.get;have i:=d 0 (gU x.acct) rfl;have g:=d 1 (gI x.cash) rfl;have f:=d 2 (.bool x.dfl) rfl;have j:=d 3 (gI x.cut) rfl;simp only[cB]at i g f j;simp[go_sem,bT hC,i,g,f,j,xn,S4]
attribute [go_sem] S4 xn
section
variable{L L0 M:List As}{φ:WP}{K:Value->WP}{k0:WP}{v c l mb md b mw:Nat}{A:List (Int×Nat)}{D:List (Int×Value)}{S:bt}{n a:Int}{X:bJ}{won:Int->Int}
def Oq{s:Vt_}{ds:List Du}{fund:Int}(q:ds.length<=100000)(j:∀d∈ds,d.Fit)(i:ed fund)(g:∀y,Gs (Z4 (ez y (ie fund ds).1.length) (ie fund ds).1::L) (K (.tuple #[ez y (ie fund ds).1.length,gI (ie fund ds).2.1,gI (ie fund ds).2.2])))(p:eG L (duA s ds::M):=by exact fR):
  Gs L (Cw pQ 264 #[.int .i64 fund,s] K):=
 Gs.nw (φ:=λk=>Cw pQ _ _ k) (val:=λy:Option Addr×Nat=>.tuple #[ez y (ie fund ds).1.length,gI (ie fund ds).2.1,gI (ie fund ds).2.2]) (p:=λ_=>True) (B:=λy=>Z4 (ez y (ie fund ds).1.length) (ie fund ds).1) (λw y K h=>Oj (nG p w y) q j i λr f o m nn=>by
  obtain⟨x,y,rfl,-⟩:=o.isSl;exact h (x,y) f (aF _) trivial ⟨o,λ_=>aG⟩ m nn) (λy _=>g y)
section
variable{P:Program}{k:Value->WP}{s s1:Vt_}{e t:TypeId}{sz by_:Nat}
def Gs.cat{α:Type}{l l1:List α}{f:α->List Value}(d:P.underlying t=some (.slice e))(g:fY P e sz by_=true)(h1:∀x,(f x).all (·.oneCell')=true)(h:(l.length+l1.length)*by_<=140737488355328)
  (i:∀a c,Gs (ow (.slice a (l++l1).length c) e sz (l++l1).length ((l++l1).flatMap f)::ow s1 e sz l1.length (l1.flatMap f)::M) (k (.slice a (l++l1).length c)))(p:eG L (ow s e sz l.length (l.flatMap f)::ow s1 e sz l1.length (l1.flatMap f)::M):=by exact iP):Gs L (Xw P (fb #[t,t] t [s,s1]) k):=by
 refine Gs.pk (Gs.app d d g (λw y=>nG (M:=ow s e sz l.length (l.flatMap f)::M) .swap w y) ?_ h (λa c=>?_) .refl) p
 ·grind
 ·grind
end
def LM(hv:pI A D S.cal.l S.bk)(hcal:S.cal.Ok)(hbl:∀n,(S.bd n).length<=50)(hw64:∀n,ed (won n))
  (hK:∀g u D',pI A D' S.cal.l (S.pay won).2.2.bk->(S.pay won).2.2.cal=S.cal->(S.pay won).2.1.gone.length<=256000->(S.pay won).2.1.accts.length<=64->(S.pay won).2.1.trades=[]->
   Gs (vs v c l mb md A D' (S.pay won).2.2 (tL (ez g (S.pay won).2.1.gone.length) (S.pay won).2.1.gone::Ab (ez u (S.pay won).2.1.accts.length) (S.pay won).2.1.accts::uG mw won::L)) (K (.tuple #[O0 (S.pay won).2.1 (.slice none 0 0) (ez g (S.pay won).2.1.gone.length) (ez u (S.pay won).2.1.accts.length),gI (S.pay won).1])))
  (pk:eG L0 (uG mw won::vs v c l mb md A D S L):=by exact iP):Gs L0 (Cw pQ 206 #[ec v,.map (some mw)] K):=by
 refine Gs.pk ?_ pk;refine sN Tryz.func206 ?_;unfold ec;refine HB (X:=S.led) (λV=>?_);have hal:=V.len;refine au ?_;intro p0;refine au ?_;intro q;refine au ?_;intro p4;refine au ?_;refine Gs.nilF 369 3 Kp (zv λgv=>?_);refine Gg.rf (L:=pt q OS vg::vs v c l mb md A D S L) (λ_ _ _ _=>rfl) (S8 oH.ac) (I:=λi (b:Option Addr×Nat) M=>pt p4 [ez b ((S.led.all.take i).map (CD won)).length] 367::duA (ez b ((S.led.all.take i).map (CD won)).length) ((S.led.all.take i).map (CD won))::pt p0 [.map (some mw)] 309::uG mw won::M) (E:=λ(_:Unit) M=>M) (λ_ _ _=>rfl) (λ_ _=>rfl) (λi b=>True) (λ_ _=>False) (none,0) trivial ?_ ?_ (λ_ _ _ (h:False)=>h.elim) ?_
 ·rintro i hi x - l1 r1 q1 M kn kj N -;have htk:=bR hi;have C:((S.led.all.take i).map (CD won)).length<=64:=by rw[ah,az];omega
  rw[htk,aM,aI,gf]at N;generalize S.led.all[i]=a at N|-;generalize(S.led.all.take i).map (CD won)=I at C N|-;unfold cY;refine au ?_;refine Gs.wonL ?_;refine au ?_;refine Gs.push (x:=CD won a) (f:=Kp) (l:=I) aa6 eDu (λ_=>rfl) rfl rfl qZ qZ (λz1 z2=>?_) fR;refine au ?_;exact(N (z1,z2) _ trivial).fin
 ·rintro x0 d -;have C:(S.dues won).length<=64:=by unfold bt.dues;rw[ah];omega
  have hdu:∀x∈S.dues won,x.Fit:=λx hx=>by
   obtain⟨a,ha,rfl⟩:=aL.1 hx;have:=V.acc a ha;unfold MF at this;exact⟨⟨by show 0<=a.num;omega,this.2.1⟩,⟨by show _<=a.cash;omega,by show a.cash<_;omega⟩,hw64 _⟩
  have hf:ed S.led.fund:=by have:=V.fund;unfold MF at this;constructor<;>omega
  rw[aK,show S.led.all.map (CD won)=S.dues won from rfl]
  have j:S.pay won=if(ie S.led.fund (S.dues won)).2.2≠0 then((ie S.led.fund (S.dues won)).2.2,kI,S)else
    if(nJ (ie S.led.fund (S.dues won)).1 kI S).1≠0 then nJ (ie S.led.fund (S.dues won)).1 kI S else
     (((nJ (ie S.led.fund (S.dues won)).1 kI S).2.2.led.set ⟨0,(ie S.led.fund (S.dues won)).2.1,false,false⟩).1,(nJ (ie S.led.fund (S.dues won)).1 kI S).2.1,{(nJ (ie S.led.fund (S.dues won)).1 kI S).2.2 with led:=((nJ (ie S.led.fund (S.dues won)).1 kI S).2.2.led.set ⟨0,(ie S.led.fund (S.dues won)).2.1,false,false⟩).2}):=rfl
  have Q:=Ln (fund:=S.led.fund) (l:=S.dues won);have hdl:∀s∈S.dues won,iU s.acct:=λs hs=>(hdu s hs).1;generalize S.dues won=ds at C hdu j Q hdl|-;refine Gs.ak (au ?_);refine sj ?_;rw[show S.led.getV 0=(⟨0,S.led.fund,false,false⟩,0)from rfl];refine au ?_;intro r0;refine au ?_;refine Oq (ds:=ds) qZ hdu hf (λy=>?_);generalize ie S.led.fund ds=X at j Q|-;obtain⟨out,left,e⟩:=X
  dsimp only at j Q|-
  refine au ?_;refine Gs.Ib (λU=>?_) λU=>?_
  ·rw[ae (by simpa using U)]at j;rw[j]at hK;refine au ?_;refine Gs.tw ?_;refine au ?_;refine Gs.idn (Gs.uin ?_);have:=hK (none,0) (none,0) D hv rfl (aH _) (aH _) rfl
   dsimp only[kI,List.length_nil]at this
   exact this.fin
  obtain rfl:e=0:=by simpa using U
  rw[aa (by simp)]at j;obtain⟨hsa,-⟩:=Q rfl;have hol:out.length<=64:=by have:=ep List.length hsa;rw[ah,ah]at this;omega
  have hoa:∀s∈out,iU s.acct:=λs hs=>by
   have h1:s.acct∈ds.map (·.acct):=by rw[<-hsa];exact aX hs
   obtain⟨x,hx,p⟩:=aL.1 h1;rw[<-p];exact hdl x hx
  refine au ?_;refine Gs.idn (Gs.uin ?_);refine Gs.fin (M:=Z4 (ez y out.length) out::pt q OS vg::tL (ez (none,0) 0) []::Ab (ez (none,0) 0) []::OY d::uG mw won::vs v c l mb md A D S L) ?_
  refine Gs.l (λx:ai0=>(gI 0,gI x.i,())) (λx=>out.length - x.i) (λx=>Z4 (ez y out.length) out::pt q (CK 0 0 0 0 (.slice none 0 0) (ez x.g x.gn.length) (ez x.u x.ac.length)) vg::tL (ez x.g x.gn.length) x.gn::Ab (ez x.u x.ac.length) x.ac::OY d::uG mw won::vs v c l mb md A x.D x.T L)
   (λx=>x.i<=out.length/\nJ out kI S=nJ (out.drop x.i) ⟨0,0,0,0,[],x.gn,x.ac⟩ x.T/\pI A x.D S.cal.l x.T.bk/\x.T.cal=S.cal/\(∀n,(x.T.bd n).length<=50)/\x.gn.length<=4000*x.i/\x.ac.length<=x.i) ⟨0,(none,0),(none,0),D,[],[],S⟩ rfl ⟨aH _,rfl,hv,rfl,hbl,aH _,aH _⟩ ?_ .refl
  rintro⟨i,g,u,D1,gn,ac,T⟩ ⟨h1,p,h3,Y,h5,h6,h7⟩ KN hKN
  dsimp only at h1 p h3 Y h5 h6 h7 hKN|-
  refine Gs.z (au ?_);refine Gs.I (λh=>?_) λh=>?_
  ·have O:i<out.length:=qZ;have hsm:=hoa _ (aq O);rw[<-ci O]at p;refine Gs.it (f:=xn) XH nSd (λ_=>rfl) YY (λw y=>nG fR w y) rfl O ?_;generalize out[i]=s at hsm p|-;rw[OC]at p;refine HB (X:=T.led) (λhTk=>?_);have hau:=Mf hTk s.acct;refine au ?_;intro r1;unfold S4 xn;refine au ?_;refine Gs.jv (λr=>(.pointer (some ⟨r,0,none⟩),())) (YO (T.acc s.acct)) 100 (λJ hJ=>au ?_) λr=>?_
   ·refine Gs.An ?_ (au ?_)
    ·refine sj ?_;rw[oq T];refine au ?_;intro r;refine au ?_;exact(hJ r).fin
    ·intro r;refine au ?_;refine sj ?_;rw[oq T];refine au ?_;exact(hJ r).fin
   dsimp only
   refine Gs.z (au ?_);obtain⟨H,o⟩:∃x,x=if s.dfl then gn++(T.clear s.acct 0).1 else gn:=⟨_,rfl⟩
   obtain⟨F,B⟩:∃x,x=if s.dfl then ac++[s.acct]else ac:=⟨_,rfl⟩
   obtain⟨T1,m⟩:∃x,x=if s.dfl then(T.clear s.acct 0).2 else T:=⟨_,rfl⟩
   have hcl:=su T s.acct 0;have R:=Dp T s.acct 0;rw[<-o,<-B,<-m]at p
   refine Gs.j (λ_:(Option Addr×Nat)×(Option Addr×Nat)×List (Int×Value)=>()) (λz=>pt r [.int .u32 (T.acc s.acct).num,gI s.cash,.bool (T.acc s.acct).kil,.bool ((T.acc s.acct).dfl||s.dfl)] 100::pt r1 (sdX s) 374::Z4 (ez y out.length) out::pt q (CK 0 0 0 0 (.slice none 0 0) (ez z.1 H.length) (ez z.2.1 F.length)) vg::tL (ez z.1 H.length) H::Ab (ez z.2.1 F.length) F::OY d::uG mw won::vs v c l mb md A z.2.2 T1 L)
    (λz=>pI A z.2.2 S.cal.l T1.bk/\H.length<=4000*(i+1)/\F.length<=i+1) (λJ hJ=>?_) λz hz=>?_
   ·refine au ?_;refine Gs.Ib (λhd=>?_) λhd=>?_
    ·rw[ae hd]at o B m;refine au ?_;refine Gs.push (x:=s.acct) (f:=Cu) (l:=ac) JG ZB (λ_=>rfl) rfl rfl qZ qZ (λz1 z2=>?_) fR;refine au ?_;refine zm (S:=T) (by rw[Y];exact h3) (by rw[Y];exact hcal) h5 (λy' D' w1 w2=>?_);rw[Y]at w1;rw[<-m]at w1|-;have hl:(ac++[s.acct]).length<=i+1:=by rw[af];exact Nat.add_le_add_right h7 1
     rw[<-B]at hl|-;have hg:(gn++(T.clear s.acct 0).1).length<=4000*(i+1):=by rw[af];omega
     generalize(T.clear s.acct 0).1=G at o w2 hg|-;refine au ?_;refine Gs.cat (l:=gn) (l1:=G) (f:=vZ) yf Oa (λ_=>rfl) qZ (λx1 x2=>?_);rw[<-o]at hg|-;refine au ?_;have:=hJ ((x1,x2),(z1,z2),D') ⟨w1,hg,hl⟩;rw[hd,Bool.or_true]at this;exact this.fin
    ·rw[hd]at o B m;simp only[bi,dg]at o B m;subst o B m;have:=hJ (g,u,D1) ⟨h3,qZ,qZ⟩;rw[hd,Bool.or_false]at this;exact this.fin
   obtain⟨⟨z1,z2,z3⟩,hz1,Z,hz3⟩:∃y,y=z/\_:=⟨z,rfl,hz⟩
   subst hz1
   dsimp only at Z|-
   have hc1:T1.cal=S.cal:=by rw[m];split;exact hcl.trans Y;exact Y
   have hb1:∀n,(T1.bd n).length<=50:=λn=>by rw[m];split;exact ck (R n) (h5 n);exact h5 n
   clear hcl R o B m hbl h3 h5 h6 h7;refine Gs.z (au ?_);refine EF (a:={T.acc s.acct with cash:=s.cash,dfl:=(T.acc s.acct).dfl||s.dfl}) hau ?_;generalize T1.led.set {T.acc s.acct with cash:=s.cash,dfl:=(T.acc s.acct).dfl||s.dfl}=W at p|-;obtain⟨e,W⟩:=W
   dsimp only at p|-
   refine au ?_;refine Gs.Ib (λU=>?_) λU=>?_
   ·rw[ae (by simpa using U)]at p;rw[p]at j;rw[ae (by simpa using U)]at j;rw[j]at hK;refine au ?_;refine Gs.tw ?_;refine au ?_;exact(hK z1 z2 z3 Z hc1 (by dsimp only;omega) (by dsimp only;omega) rfl).fin
   ·obtain rfl:e=0:=by simpa using U
    rw[aa (by simp)]at p;refine au ?_;exact(hKN ⟨i+1,z1,z2,z3,H,F,{T1 with led:=W}⟩ ⟨O,p,Z,hc1,hb1,hz3.1,hz3.2⟩ (by dsimp only;omega)).fin
  ·obtain rfl:i=out.length:=qZ;rw[cn (aD _)]at p;rw[p]at j;rw[show nJ [] (⟨0,0,0,0,[],gn,ac⟩:Rp) T=(0,⟨0,0,0,0,[],gn,ac⟩,T)from rfl,aa (by simp)]at j
   dsimp only at j
   rw[j]at hK;refine au ?_;refine EF (a:=⟨0,left,false,false⟩) ⟨by show(0:Int)<=0;omega,by show(0:Int)<_;omega⟩ ?_;refine au ?_;refine Gs.tw ?_;refine au ?_;exact(hK g u D1 h3 Y (by dsimp only;omega) (by dsimp only;omega) rfl).fin
 ·simp only[duA,cU,gf,List.length_nil,cC];exact iP
end
end Go.Proofs
