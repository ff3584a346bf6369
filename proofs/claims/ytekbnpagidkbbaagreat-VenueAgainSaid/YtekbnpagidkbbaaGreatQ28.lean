/- Part of a proof. -/
import Derived.Test.YtekbnpagidkbbaaGreatQ27
set_option linter.all false
set_option maxRecDepth 100000
set_option maxHeartbeats 1000000
namespace Go.Proofs
open Go Go.Vc
attribute [local congr] aZ
variable {k:Ct}{p:Nat}{W:Wt_}{K:aY}
def HP{off:Nat}(h:At W p off (dD k)):At W p off (fC k.spec):=by
 have:=h.sub 0 25 (by rw[bV];omega)
 have e:((dD k).drop 0).take 25=fC k.spec:=by
  show(fC k.spec++_).take 25=_;rw[<-bG k.spec,dG]
 rw[e]at this;exact this
abbrev Hj(W:Wt_)(p:Nat)(k:Ct):Prop:=hp W p=some (.cells (dD k).toArray kP (0,0))
def Mi{k' :Ct}{K:World->Prop}(h:Hj W p k)(c:∀a,Hj a p k' ->aS (λy=>y=p) W a->K a):vD pQ (oT kP (bO p 0) (.agg (dD k').toArray)) W K:=by
 have b:W.heap[p]? =some (.cells (dD k).toArray kP (0,0)):=h
 have h1:(dD k').all (·.oneCell')=true:=by
  unfold dD;rw[ek,tm];rfl
 refine qX tM (bV k') b (by rw[cI,bV,bV];omega) h1 (c _ ?_ ((aS.refl (λy=>y=p) W).setRow (.inl rfl) _));show(W.setRow p _).heap[p]? =_;rw[d9,ae rfl,b,lR (by rw[bV];simp[bV])]
def zV(w:Wt_)(b:∀a,Hj a w.heap.size BN->M0 w a->K (bO w.heap.size 0) a):rx pQ (tW kP) w K:=by
 refine nE zCt ?_;rw[H8];exact b _ (by show hp _ _=_;simp[go_sem]) ((aS.refl _ w).alloc _)
def Sj(h:Hj W p k):(iL 45 (bO p 0)).run pQ W=.ok (gU k.spec.num) W:=by
 have a:hp W p=some (.cells (dD k).toArray kP (0,0)):=h;simp[go_sem,a,Ox]
def Jd(h:Hj W p k):(iL 118 (bO p 25)).run pQ W=.ok (gB k.st) W:=by
 have a:hp W p=some (.cells (dD k).toArray kP (0,0)):=h;simp[go_sem,a,B3]
def Zc(h:Hj W p k):(iL 2 (bO p 26)).run pQ W=.ok (gI k.price) W:=by
 have a:hp W p=some (.cells (dD k).toArray kP (0,0)):=h;simp[go_sem,a,OU]
def NZ(p:Nat)(W:Wt_):(iF kP (bO p 0) 0).run pQ W=.ok (bO p 0) W/\(iF kP (bO p 0) 1).run pQ W=.ok (bO p 25) W/\(iF kP (bO p 0) 2).run pQ W=.ok (bO p 26) W/\(iF 48 (bO p 0) 0).run pQ W=.ok (bO p 0) W:=⟨by simp[go_sem],by simp[go_sem],by simp[go_sem],by simp[go_sem]⟩
def Hr(n:Int)(k:Ct)(l:List Ct):sI n (k::l)=(decide (n<k.spec.num)&& (decide (1<=k.st)&& (decide (k.st<=3)&& (k.spec.isPrice k.price&& sI k.spec.num l)))):=rfl
set_option maxRecDepth 10000 in
set_option maxHeartbeats 1000000 in
def HG{w:Wt_}{sl:Vt_}{day:Int}{l:List Ct}(h:Rd w 27 sl l.length (l.flatMap dD))(hl:l.length<=100000)(hf:∀k∈l,k.Fit)(hd:kV day)
  (I:l.length<=16->sI 0 l=true->∀c F o,lW o c F ⟨day,l⟩->M0 w o->(∀b,F b->w.heap.size<=b)->K (.tuple #[fF c,gI 0]) o)
  (u:¬(l.length<=16/\sI 0 l=true)->∀o,M0 w o->K (.tuple #[.pointer none,gI 2]) o):Ca pQ 49 #[.int .u32 day,sl] w K:=by
 obtain⟨sa,sc,L⟩:=h.isSl;refine cN Tryz.func49 ?_;have ln:∀W,(builtin .len #[GU] 3 #[false] #[sl]).run pQ W=.ok (.value (gI (l.length:Int))) W:=λW=>by rw[L];simp[go_sem]
 refine sr (ln _) ?_;refine ax (.bool (decide (16<l.length))) w (by simp[go_sem];omega) ?_;by_cases t:16<l.length
 ·rw[aw,ae (by simpa using t)];exact u (λa=>qZ) _ (aS.refl _ _)
 rw[aw,aa (by simpa using t)];refine sr (ln _) ?_
 refine d8 (λst W=>∃(i:Nat) (last:Int) (x y:Vt_),i<=l.length/\st=(x,y,gU last,gI i,())/\sI 0 l=sI last (l.drop i)/\M0 w W)
  (λst _=>match st.2.2.2.1 with| .int _ i=>l.length - i.toNat|_=>0) ⟨0,0,_,_,qZ,rfl,rfl,aS.refl _ _⟩ ?_
 rintro⟨_,_⟩ W ⟨i,last,x,y,hi,⟨⟩,d,v⟩ KN J;refine lE ?_;intro _;refine ax (.bool (decide (i<l.length))) W (by simp[go_sem]) ?_;by_cases f:i<l.length
 ·rw[aw,ae (by simpa using f)];obtain⟨b,N,cap,P,S,Z⟩:=(h.mod v dS).item bV f rfl;have A:=hf l[i] (av f);rw[dA f]at d;generalize l[i]=k at Z A d;refine ax (bO b (N+i*27)) W (by rw[P];simp[go_sem,f,bD,qh]) ?_;refine fX (dD k) 26 Hk tM (bV k) Z ?_;refine zV _ λw1 X m1=>?_;obtain⟨p,Q⟩:=df W.heap.size;rw[<-Q]at X|-;refine Mi (k' :=k) X λs r m2=>?_;have M2:M0 W s:=m1.on m2 λy hy=>.inr qZ;obtain⟨f0,f1,f2,f3⟩:=NZ p s;rw[Hr]at d;refine cG.at (λst W' =>st=(.bool (!(decide (last<k.spec.num)&& (decide (1<=k.st)&& (decide (k.st<=3)&& k.spec.isPrice k.price)))),())/\M0 s W') ?_ ?_
  ·refine bh f0 (bh f3 (bh (Sj r) ?_));refine ax (.bool (decide (k.spec.num<=last))) s (by simp[go_sem]) ?_;by_cases c1:k.spec.num<=last
   ·rw[aw,ae (by simpa using c1)];have:¬last<k.spec.num:=qZ;exact⟨by simp[this],aS.refl _ _⟩
   rw[aw,aa (by simpa using c1)];have O:last<k.spec.num:=qZ;refine bh f1 (bh (Jd r) ?_);refine ax (.bool (decide (k.st<1))) s (by simp[go_sem]) ?_;by_cases T:k.st<1
   ·rw[aw,ae (by simpa using T)];have:¬1<=k.st:=qZ;exact⟨by simp[this],aS.refl _ _⟩
   rw[aw,aa (by simpa using T)];have M:1<=k.st:=qZ;refine bh f1 (bh (Jd r) ?_);refine ax (.bool (decide (3<k.st))) s (by simp[go_sem]) ?_;by_cases c3:3<k.st
   ·rw[aw,ae (by simpa using c3)];have:¬k.st<=3:=qZ;exact⟨by simp[this],aS.refl _ _⟩
   rw[aw,aa (by simpa using c3)];have R:k.st<=3:=qZ;refine bh f0 (fX (fC k.spec) 24 zF xG (bG _) (HP (At.all r)) ?_);refine bh f2 (bh (Zc r) ?_);refine pH A.1 λe j=>?_;refine ax (.bool (!k.spec.isPrice k.price)) e (by simp[go_sem]) ?_;exact⟨by simp[O,M,R],j⟩
  rintro _ e ⟨rfl,j⟩;refine jG ?_;intro _;have M3:=(v.trans M2).trans j;cases a:(decide (last<k.spec.num)&& (decide (1<=k.st)&& (decide (k.st<=3)&& k.spec.isPrice k.price)))with
  |false=>
   rw[show(!false)=true from rfl,aw,ae rfl];refine u (λB=>?_) _ M3;rw[d]at B;have:=B.2;simp only[ao,aX]at this a;simp only[Bool.and_eq_false_iff,fj]at a;obtain⟨D,z,C,n,-⟩:=this;rcases a with a|a|a|a
   ·exact a D
   ·exact a z
   ·exact a C
   ·rw[n]at a;cases a
  |true=>
   rw[show(!true)=false from rfl,aw,aa dw];have b3:Hj e p k:=j.hpk r id;obtain⟨g0,g1,g2,g3⟩:=NZ p e;refine bh g0 (bh g3 (bh (Sj b3) ?_));refine ax (gI ((i+1:Nat):Int)) e (by simp[go_sem];rw[fI qZ qZ]) ?_;refine J _ _ ⟨i+1,k.spec.num,_,_,qZ,rfl,?_,M3⟩ (by show l.length - (((i+1:Nat):Int)).toNat<l.length - ((i:Int)).toNat;omega);rw[d];simp only[ao,aX]at a;obtain⟨D,z,C,n⟩:=a;simp[D,z,C,n]
 ·obtain rfl:i=l.length:=qZ;rw[aw,aa (by simp)];rw[gi]at d;have g:sI 0 l=true:=d;refine vA (l:=l) (h.mod v dS) qZ λm e H j n3=>?_;obtain⟨ta,tc,E,-⟩:=H.isSl;refine ax (.agg #[.bool true,gU day,m]) e (by rw[E];simp[go_sem]) ?_;obtain⟨q,hq⟩:=df e.heap.size;have V:M0 e (e.alloc (.cells #[.bool true,gU day,m] 172)):=(aS.refl _ _).alloc _;have b4:hp (e.alloc (.cells #[.bool true,gU day,m] 172)) q=some (.cells #[.bool true,gU day,m] 172 (0,0)):=by rw[hq];simp[go_sem]
  refine ax (fF q) (e.alloc (.cells #[.bool true,gU day,m] 172)) (by rw[hq];rfl) ?_;have hs:=v.size;have U:=j.size;obtain⟨u1,u2⟩:=tI g;refine I qZ g q (λb=>b=q\/aK m b) _ ⟨⟨m,b4,H.mod V dS,λb=>aG,λa=>by have:=H.lt a;omega⟩,by show l.length<=16;omega,hd,λk Y=>?_,u2⟩ ((v.trans j).trans V) λb G=>?_
  ·obtain⟨D,z,C,n⟩:=u1 k Y;have:=n;unfold Sp.isPrice at this;exact⟨hf k Y,(ao _ _▸this).1,n,z,C⟩
  ·rcases G with rfl|G
   ·omega
   ·have:=n3 b G;omega
def PS(l:List Ct)(n:Int):decide (bt l n=0)=(decide ((dI l n).2=0)&& decide ((dI l n).1.st≠3)):=by
 unfold bt dI;cases cg l n with
 |none=>simp
 |some k=>
  by_cases h:k.st=3
  ·simp[h]
  ·simp[h]
def Cd{w:Wt_}{v c l mb md:Nat}{A:List (Int×Nat)}{D:List (Int×Value)}{J:Pt->Nat->Prop}{S:bo}{n:Int}(h:pO w v c l mb md A D J S)
  (d:∀z,M0 w z->K (.tuple #[.agg (dD (dI S.cal.l n).1).toArray,.bool (decide (bt S.cal.l n=0))]) z):Ca pQ 53 #[dL v,gU n] w K:=by
 unfold dL;refine cN Tryz.func53 ?_;rw[PS]at d;refine zV _ λN t m=>?_;obtain⟨p,o⟩:=df w.heap.size;rw[<-o]at t|-;have h1:=h.md0 m;simp only[dL,cj];refine bh (uf 0 qZ _) (bh (ld0 _ h1.blk) ?_);refine Km h1.cal λH j=>?_;generalize dI S.cal.l n=x at d|-;refine bh (by simp[-Int.natCast_add,go_sem]<;>first|exact⟨rfl,rfl⟩|exact rfl) ?_;refine bh (by simp[-Int.natCast_add,go_sem]<;>first|exact⟨rfl,rfl⟩|exact rfl) ?_;have F:Hj H p BN:=j.hpk t id;refine zV _ λO C B=>?_;obtain⟨q,k⟩:=df H.heap.size;rw[<-k]at C|-;refine Mi (k' :=x.1) C λb L G=>?_;have I:p<q:=by have:=ay F;omega
 have md:=(aS.refl (λ_=>False) b).drew;have a:Hj b.drew q x.1:=md.hpk L id;have g:Hj b.drew p BN:=md.hpk (G.hpk (B.hpk F id) qZ) id;have s:M0 w b.drew:=(((m.trans j).trans B).on G λy E=>.inr (by have:=m.size;have:=j.size;omega)).trans md;generalize b.drew=u at a g s|-;have M:w.heap.size<=p:=qZ;refine kI (dD x.1) 26 Hk tM (bV _) (At.all a) ?_;refine cT (.bool (decide (x.2=0))) (λW=>by simp[go_sem];try rw[dr];simp) ?_;by_cases f:x.2=0
 ·rw[aw,ae (by simpa using f)];refine bQ (λW=>(NZ q W).2.1) (cK (Jd a) ?_);refine cT (.bool (decide (x.1.st≠3))) (λW=>by simp[go_sem];try rw[dr];simp) ?_;refine Mi (k' :=x.1) g λr i e=>?_;refine⟨Jd (e.hpk a qZ),?_⟩;refine kI (dD x.1) 26 Hk tM (bV _) (At.all i) ?_;have:=d r (s.on e λy E=>.inr qZ);rw[f]at this;simpa using this
 ·rw[aw,aa (by simpa using f)];refine Mi (k' :=x.1) g λr i e=>?_;refine kI (dD x.1) 26 Hk tM (bV _) (At.all i) ?_;have:=d r (s.on e λy E=>.inr qZ);simpa [f]using this
end Go.Proofs
set_option maxRecDepth 100000
set_option maxHeartbeats 1000000
namespace Go.Proofs
open Go Go.Vc
attribute [local congr] aZ
variable {x:Int×Od}{U:List Int}{a p:Nat}{w W:Wt_}
abbrev O1:TypeId:=243
def Zo:lw pQ 3=some (gI 0):=cy
def oL(w:Wt_)(mn:Nat)(U:List Int):Prop:=∃L:List (Int×Int),eF Dq KL w mn L/\∀n,(lk L n).getD 0=if n∈U then 1 else 0
def oL.mod{F:NP_}{w' :Wt_}(h:oL w a U)(b:aS F w w')(h1:¬F a):oL w' a U:=by
 obtain⟨L,c,d⟩:=h;exact⟨L,c.mod b h1,d⟩
def oL.lt(h:oL w a U):a<w.heap.size:=by
 obtain⟨L,b,c⟩:=h;exact b.lt
def oL.look(h:oL w a U)(n:Int):(ju O1 (.map (some a)) (gQ n) false).run pQ w=.ok (gI (if n∈U then 1 else 0)) w:=by
 obtain⟨L,c,d⟩:=h;have:=mB (ok:=false) (x:=n) EV OZ Zo (.inr ⟨a,rfl,c⟩:yW Dq KL w (.map (some a)) L);rw[<-d n];cases b:lk L n with
 |none=>rw[b]at this;exact this
 |some x=>rw[b]at this;exact this
theorem oL.add{b:Nat}{n:Int}{K:World->Prop}(h:oL w b U)(j:n ∉ U)(e:∀a,oL a b (n::U)->aS (λy=>y=b) w a->K a):vD pQ (qw O1 (.map (some b)) (gQ n) (gI 1)) w K:=by
 obtain⟨L,d,i⟩:=h;refine gL (enc:=Dq) (ev:=KL) (x:=n) (v:=1) EV OZ d λa c f _=>e a ⟨_,c,λm=>?_⟩ f;rw[kJ];by_cases g:n=m
 ·grind
 ·grind
abbrev uX:TypeId:=132
def GP(x:Int×Od):Value:=.agg (jD x).toArray
abbrev FT(W:Wt_)(p:Nat)(x:Int×Od):Prop:=hp W p=some (.cells (jD x).toArray uX (0,0))
def YW(x:Int×Od)(w:Wt_):∃a,(Instr.box uX (GP x)).run pQ w=.ok (bO w.heap.size 0) a/\FT a w.heap.size x/\M0 w a:=
 ⟨w.alloc (.cells (jD x).toArray uX),rfl,by show hp _ _=_;simp[go_sem],(aS.refl _ w).alloc _⟩
def Ai(p:Nat)(W:Wt_):(iF uX (bO p 0) 0).run pQ W=.ok (bO p 0) W/\(iF uX (bO p 0) 1).run pQ W=.ok (bO p 1) W:=⟨by simp[go_sem],by simp[go_sem]⟩
def BK(h:FT W p x):(iL 45 (bO p 0)).run pQ W=.ok (gU x.1) W:=by
 have a:hp W p=some (.cells (jD x).toArray uX (0,0)):=h;simp only[jD,dx]at a;simp[go_sem,a]
def TC(h:FT W p x):(iL ji (bO p 1)).run pQ W=.ok (jQ x.2) W:=by
 have a:At W p 0 (jD x):=At.all h;have:=a.sub 1 5 (by show 1+5<=6;omega);have e:((jD x).drop 1).take 5=dx x.2:=rfl;rw[e,cM]at this;exact kX this
def LQ(i:Nat)(hi:i<5)(p:Nat)(W:Wt_):(iF ji (bO p 0) i).run pQ W=.ok (bO p i) W:=by
 have:i=0\/i=1\/i=2\/i=3\/i=4:=qZ;rcases this with rfl|rfl|rfl|rfl|rfl<;>simp[go_sem]
abbrev Ti(W:Wt_)(p:Nat)(o:Od):Prop:=hp W p=some (.cells (dx o).toArray ji (0,0))
def IE{o:Od}(h:Ti W p o):(iL 37 (bO p 0)).run pQ W=.ok (gQ o.num) W/\(iL 45 (bO p 1)).run pQ W=.ok (gU o.acct) W/\(iL 2 (bO p 3)).run pQ W=.ok (gI o.price) W/\(iL 2 (bO p 4)).run pQ W=.ok (gI o.left) W:=by
 have a:hp W p=some (.cells (dx o).toArray ji (0,0)):=h;simp only[dx]at a;exact⟨by simp[go_sem,a],by simp[go_sem,a],by simp[go_sem,a],by simp[go_sem,a]⟩
abbrev Xv(W:Wt_)(p:Nat)(a:Ac):Prop:=hp W p=some (.cells (db a).toArray 100 (0,0))
def Zv(p:Nat)(W:Wt_):(iF 100 (bO p 0) 2).run pQ W=.ok (bO p 2) W/\(iF 100 (bO p 0) 3).run pQ W=.ok (bO p 3) W:=⟨by simp[go_sem],by simp[go_sem]⟩
def XV{a:Ac}(h:Xv W p a):(iL 4 (bO p 2)).run pQ W=.ok (.bool a.kil) W/\(iL 4 (bO p 3)).run pQ W=.ok (.bool a.dfl) W:=by
 have b:hp W p=some (.cells (db a).toArray 100 (0,0)):=h;simp only[db]at b;exact⟨by simp[go_sem,b],by simp[go_sem,b]⟩
def NQ(W:Wt_):∃a,(iA 100 true (.tuple #[])).run pQ W=.ok (bO W.heap.size 0) a/\Xv a W.heap.size ⟨0,0,false,false⟩/\M0 W a:=
 ⟨W.alloc (.cells (db ⟨0,0,false,false⟩).toArray 100),by simp[go_sem,db],by show hp _ _=_;simp[go_sem],(aS.refl _ W).alloc _⟩
def QY{a:Ac}(b:Ac)(h:Xv W p a):∃d,(iS 100 (bO p 0) (kx b)).run pQ W=.ok () d/\Xv d p b/\aS (λy=>y=p) W d:=by
 have c:hp W p=some (.cells (db a).toArray 100 (0,0)):=h;simp only[db]at c;exact⟨(((W.setCell ⟨p,0,none⟩ (gU b.num)).setCell ⟨p,1,none⟩ (gI b.cash)).setCell ⟨p,2,none⟩ (.bool b.kil)).setCell ⟨p,3,none⟩ (.bool b.dfl),by simp[go_sem,c,kx],by show hp _ _=_;simp[go_sem,c,db],((((aS.refl (λy=>y=p) W).setCell (.inl rfl) _ _).setCell (.inl rfl) _ _).setCell (.inl rfl) _ _).setCell (.inl rfl) _ _⟩
def V6(L:bE)(a:Int):L.stB a=(decide ((L.getV a).2=0)&& (!(L.getV a).1.dfl&& !(L.getV a).1.kil)):=by
 unfold bE.stB bE.getV;cases L.getO a with
 |none=>simp
 |some x=>simp
set_option maxRecDepth 10000 in
set_option maxHeartbeats 4000000 in
def Br{K:aY}{v c l mb md L:Nat}{A:List (Int×Nat)}{D:List (Int×Value)}{fp:Pt->Nat->Prop}{S:bo}{lots:Bool}(h:pO w v c l mb md A D fp S)(hN:oL w L U)(hmn:¬kK fp L)
  (hK1:S.stnd lots U x=true->∀s,pO s v c l mb md A D fp S->oL s L (x.2.num::U)->aS (λy=>y=L) w s->K (.bool true) s)
  (hK0:S.stnd lots U x=false->∀s,M0 w s->K (.bool false) s):Ca pQ 154 #[dL v,GP x,.bool lots,.map (some L)] w K:=by
 unfold dL;refine cN Tryz.func154 ?_;obtain⟨w1,e1,b1,m1⟩:=YW x w;obtain⟨p,hp0⟩:=df w.heap.size;rw[<-hp0]at e1 b1;refine bh e1 (bh (Ai p _).2 (bh (TC b1) ?_));obtain⟨w2,e2,b2,m2⟩:=jE w1;obtain⟨q,hq0⟩:=df w1.heap.size;rw[<-hq0]at e2 b2;refine bh e2 ?_;obtain⟨w3,e3,b3,m3⟩:=jf (o' :=x.2) b2;refine gg e3 ?_;have hpq:p<q:=by have:=ay b1;omega
 have M3:M0 w w3:=(m1.trans m2).on m3 λy Q=>.inr qZ;have b13:FT w3 p x:=m3.hpk (m2.hpk b1 id) qZ;refine bh (Ai p _).1 (bh (BK b13) ?_);refine Cd (h.md0 M3) λw4 m4=>?_;have o4:Ti w4 q x.2:=m4.hpk b3 id;obtain⟨k,hk⟩:=df (dI S.cal.l x.1);rw[<-hk];refine dq ?_;refine dq ?_;refine zV _ λw5 b5 m5=>?_;obtain⟨z,hz0⟩:=df w4.heap.size;rw[<-hz0]at b5|-;have hqz:q<z:=by have:=ay o4;omega
 refine Mi (k' :=k.1) b5 λP b6 m6=>?_;have md:=(aS.refl (λ_=>False) P).drew;have o6:Ti P.drew q x.2:=md.hpk (m6.hpk (m5.hpk o4 id) qZ) id;have O:Hj P.drew z k.1:=md.hpk b6 id;have hw0:w.heap.size<=p:=qZ;have Y:M0 w P.drew:=(((M3.trans m4).trans m5).on m6 λy Q=>.inr qZ).trans md;have M:=h.md0 Y;have R:=hN.mod Y id;generalize P.drew=u at o6 O Y M R|-;obtain⟨g,hg⟩:=df (S.led.getV x.2.acct);refine cG.at (λst W=>∃pa,st=(.pointer (some ⟨pa,0,none⟩),gI g.2,())/\Xv W pa g.1/\M0 u W) ?_ ?_
 ·simp only[dL,cj];refine bQ (λW=>uf 1 qZ W) (cK (ld1 _ M.blk) ?_);refine bQ (λW=>LQ 1 qZ q W) (cK (IE o6).2.1 ?_);refine⟨?_,?_⟩
  ·refine Dv M.led λb B=>?_;rw[<-hg];refine cT (kx g.1) (λW=>by simp[go_sem]) (cT (gI g.2) (λW=>by simp[go_sem]) ?_);obtain⟨w8,e8,N,J⟩:=NQ b;obtain⟨w9,e9,X,C⟩:=QY g.1 N;refine bh e8 (gg e9 ?_);exact⟨_,rfl,X,(B.trans J).on C λy Q=>.inr (by have:=B.size;omega)⟩
  ·obtain⟨w8,e8,N,J⟩:=NQ u;refine bh e8 ?_;refine⟨(IE (J.hpk o6 id)).2.1,ld1 _ (M.md0 J).blk,?_⟩;refine Dv (M.md0 J).led λw9 C=>?_;rw[<-hg];refine cT (kx g.1) (λW=>by simp[go_sem]) (cT (gI g.2) (λW=>by simp[go_sem]) ?_);obtain⟨r,e10,H,i⟩:=QY g.1 (C.hpk N id);refine gg e10 ?_;exact⟨_,rfl,H,(J.trans C).on i λy Q=>.inr qZ⟩
 rintro _ b ⟨pa,rfl,a7,B⟩;refine jG ?_;intro _;have h7:=M.md0 B;have o7:Ti b q x.2:=B.hpk o6 id;have b7:Hj b z k.1:=B.hpk O id;have N7:=R.mod B id;have M7:=Y.trans B
 have a:S.stnd lots U x=(decide (bt S.cal.l x.1=0)&& ((decide (g.2=0)&& (!g.1.dfl&& !g.1.kil))&& (x.2.may&& (k.1.spec.isPrice x.2.price&& ((!lots||k.1.spec.isQty x.2.left)&& (decide (x.2.num<S.next)&& !U.contains x.2.num)))))):=by
  unfold bo.stnd;rw[V6,<-hg,<-hk]
 refine cG.at (λst W=>st=(.bool (!S.stnd lots U x),())/\M0 b W) ?_ ?_
 ·refine cT (.bool (!decide (bt S.cal.l x.1=0))) (λW=>by simp[go_sem]) ?_;have f:=(aS.refl (λ_=>False) b).drew;by_cases d:bt S.cal.l x.1=0
  rotate_left
  ·rw[aw,ae (by simpa using d)];exact⟨by rw[a];simp[d],f⟩
  rw[aw,aa (by simpa using d)]
  have V:k.1.Fit:=by
   obtain⟨k0,a1,-,-,a2⟩:=nR d;have:k=(k0,0):=by rw[hk];unfold dI;rw[a1]
   rw[this];exact(h.cal.ok k0 a2).1
  refine cT (.bool (decide (g.2≠0))) (λW=>by simp[go_sem];try rw[dr];simp) ?_;by_cases j:g.2=0
  rotate_left
  ·rw[aw,ae (by simpa using j)];exact⟨by rw[a];simp[d,j],f⟩
  rw[aw,aa (by simpa using j)];have a8:Xv b.drew pa g.1:=f.hpk a7 id;have o8:Ti b.drew q x.2:=f.hpk o7 id;have N:Hj b.drew z k.1:=f.hpk b7 id;have h8:=h7.md0 f;have N8:=N7.mod f id;generalize b.drew=w8 at f a8 o8 N h8 N8|-;refine bQ (λW=>(Zv pa W).2) (cK (XV a8).2 ?_);cases I:g.1.dfl with
  |true=>
   rw[jV];exact⟨by rw[a];simp[d,j,I],f⟩
  |false=>
  rw[ij];refine bQ (λW=>(Zv pa W).1) (cK (XV a8).1 ?_);cases T:g.1.kil with
  |true=>
   rw[jV];exact⟨by rw[a];simp[d,j,I,T],f⟩
  |false=>
  rw[ij];refine cK (kX (o:=x.2) (At.all o8)) ?_;refine uN λw9 C=>?_;refine cT (.bool (!x.2.may)) (λW=>by simp[go_sem]) ?_;have M9:=f.trans C;cases c5:x.2.may with
  |false=>
   rw[show(!false)=true from rfl,aw,ae rfl];exact⟨by rw[a];simp[d,j,I,T,c5],M9⟩
  |true=>
  rw[show(!true)=false from rfl,aw,aa dw];have o9:Ti w9 q x.2:=C.hpk o8 id;have X:Hj w9 z k.1:=C.hpk N id;refine bQ (λW=>(NZ z W).1) (kI (fC k.1.spec) 24 zF xG (bG _) (HP (At.all X)) ?_);refine bQ (λW=>LQ 3 qZ q W) (cK (IE o9).2.2.1 ?_);refine pH V.1 λr i=>?_;refine cT (.bool (!k.1.spec.isPrice x.2.price)) (λW=>by simp[go_sem]) ?_;have n:=M9.trans i;cases c6:k.1.spec.isPrice x.2.price with
  |false=>
   rw[show(!false)=true from rfl,aw,ae rfl];exact⟨by rw[a];simp[d,j,I,T,c5,c6],n⟩
  |true=>
  rw[show(!true)=false from rfl,aw,aa dw];have o10:Ti r q x.2:=i.hpk o9 id;have H:Hj r z k.1:=i.hpk X id
  have fin:∀W,M0 b W->(!lots||k.1.spec.isQty x.2.left)=true->∀K2:Value×Unit->World->Prop,K2 (.bool (!S.stnd lots U x),()) W->
    g9 pQ (iF ji (bO q 0) 0) λv71=>l8 pQ (iL 37 v71) W λv72=>oQ (bO v 0) λv73=>g9 pQ (iF zS v73 4) λv74=>l8 pQ (iL 37 v74) W λv75=>
     g9 pQ (gx .geq 37 false v72 v75) λv76=>qr v76 (K2 (.bool true,()) W) (g9 pQ (iF ji (bO q 0) 0) λv77=>l8 pQ (iL 37 v77) W λv78=>BL pQ (ju O1 (.map (some L)) v78 false) W λv79=>g9 pQ (gx .gtr 3 true v79 (gI 0)) λv80=>K2 (v80,()) W):=by
   intro W m c7 K2 F;have Z:Ti W q x.2:=m.hpk o7 id;refine bQ (λW=>LQ 0 qZ q W) (cK (IE Z).1 ?_);rw[cj];refine bQ (λW=>uf 4 qZ W) (cK (ld4 _ (h7.md0 m).blk) ?_);refine cT (.bool (decide (S.next<=x.2.num))) (λW=>by simp[go_sem]) ?_;by_cases c8:S.next<=x.2.num
   ·rw[aw,ae (by simpa using c8)];have t:¬x.2.num<S.next:=qZ;have:S.stnd lots U x=false:=by rw[a];simp[t]
    rw[this]at F;exact F
   rw[aw,aa (by simpa using c8)];have t:x.2.num<S.next:=qZ;refine bQ (λW=>LQ 0 qZ q W) (cK (IE Z).1 ?_);refine nt ((N7.mod m id).look x.2.num) ?_;refine cT (.bool (!S.stnd lots U x)) (λW=>?_) F;rw[a,c7];by_cases c9:x.2.num∈U
   ·simp[go_sem,d,j,I,T,c5,c6,t,c9]
   ·simp[go_sem,d,j,I,T,c5,c6,t,c9]
  cases lots with
  |true=>
   rw[jV];refine bQ (λW=>(NZ z W).1) (kI (fC k.1.spec) 24 zF xG (bG _) (HP (At.all H)) ?_);refine bQ (λW=>LQ 4 qZ q W) (cK (IE o10).2.2.2 ?_);refine Gy V.1 λw11 m11=>?_;refine cT (.bool (!k.1.spec.isQty x.2.left)) (λW=>by simp[go_sem]) ?_;have G:=n.trans m11;cases c7:k.1.spec.isQty x.2.left with
   |false=>
    rw[show(!false)=true from rfl,aw,ae rfl];exact⟨by rw[a];simp[c7],G⟩
   |true=>
    rw[show(!true)=false from rfl,aw,aa dw];exact fin w11 G (by simp[c7]) (λst W=>st=(.bool (!S.stnd true U x),())/\M0 b W) ⟨rfl,G⟩
  |false=>
   rw[ij];exact fin r n rfl (λst W=>st=(.bool (!S.stnd false U x),())/\M0 b W) ⟨rfl,n⟩
 rintro _ W ⟨rfl,mW⟩;refine jG ?_;intro _;have MW:=M7.trans mW;cases hs:S.stnd lots U x with
 |false=>
  rw[show(!false)=true from rfl,aw,ae rfl];exact hK0 hs W MW
 |true=>
  rw[show(!true)=false from rfl,aw,aa dw];have Z:Ti W q x.2:=mW.hpk o7 id;have NW:=N7.mod mW id;have E:=(DD hs).new;refine bh (LQ 0 qZ q W) (bh (IE Z).1 ?_);refine jP (NW.look x.2.num) ?_;rw[aa E];refine ax (gI 1) W (by simp[go_sem];decide) ?_;refine NW.add E λs N' m' =>?_;exact hK1 hs s ((h.md0 MW).mod m' λpt y Q e=>hmn ⟨pt,e▸Q⟩) N' ((MW.to).trans m')
end Go.Proofs
set_option maxRecDepth 100000
set_option maxHeartbeats 1000000
namespace Go.Proofs
open Go Go.Vc
attribute [local congr] aZ
variable {x:Int×Od}{W:Wt_}
def ac8:Tryz.prog.cellsOf uX=5+1:=cy
def ZF:Tryz.prog.underlying 56=some (.slice uX):=cy
def xW{p off:Nat}(h:At W p off (jD x)):(iL uX (bO p off)).run pQ W=.ok (GP x) W:=
 fK (P:=pQ) (t:=uX) cy ac8 rfl h
def OR(x:Int×Od)(W:Wt_):∃a e,(iA uX true (.tuple #[])).run pQ W=.ok (bO W.heap.size 0) a/\(iS uX (bO W.heap.size 0) (GP x)).run pQ a=.ok () e/\FT e W.heap.size x/\M0 W e:=by
 obtain⟨p,d⟩:=df W.heap.size;obtain⟨a,b⟩:=df (W.alloc (.cells #[.int .u32 0,gQ 0,gU 0,.bool false,gI 0,gI 0] uX));have g:M0 W a:=by rw[b];exact(aS.refl _ W).alloc _
 have f:hp a p=some (.cells #[.int .u32 0,gQ 0,gU 0,.bool false,gI 0,gI 0] uX (0,0)):=by rw[b,d];simp[go_sem]
 rw[<-d];refine⟨a,(((((a.setCell ⟨p,0,none⟩ (gU x.1)).setCell ⟨p,1,none⟩ (gQ x.2.num)).setCell ⟨p,2,none⟩ (gU x.2.acct)).setCell ⟨p,3,none⟩ (.bool x.2.buy)).setCell ⟨p,4,none⟩ (gI x.2.price)).setCell ⟨p,5,none⟩ (gI x.2.left),by rw[b,d];simp[go_sem],by simp[go_sem,f,GP,jD,dx],by show hp _ _=_;simp[go_sem,f,jD,dx],?_⟩;exact g.on (((((((aS.refl (λy=>y=p) a).setCell (.inl rfl) _ _).setCell (.inl rfl) _ _).setCell (.inl rfl) _ _).setCell (.inl rfl) _ _).setCell (.inl rfl) _ _).setCell (.inl rfl) _ _) λy h=>.inr qZ
def Zb{p:Nat}(h:FT W p x):(iL 37 (bO p 1)).run pQ W=.ok (gQ x.2.num) W:=by
 have a:hp W p=some (.cells (jD x).toArray uX (0,0)):=h;simp only[jD,dx]at a;simp[go_sem,a]
def UN(p:Nat)(W:Wt_):(iF ji (bO p 1) 0).run pQ W=.ok (bO p 1) W:=by simp[go_sem]
def Qf{s:Vt_}{L:List (Int×Od)}(h:Rd W 6 s L.length (L.flatMap jD)){i:Nat}(hi:i<L.length):
  ∃b a,(∀e k,(iX 56 s (.int k (i:Int))).run pQ e=.ok (bO b a) e)/\At W b a (jD L[i]):=by
 obtain⟨b,a,g,d,f,j⟩:=h.item (show∀x,(jD x).length=6 from λ_=>rfl) hi rfl;exact⟨b,a+i*6,λe k=>by rw[d];simp[go_sem,hi,bD,ZF],j⟩
def Yc{b off:Nat}(h:At W b off (jD x)):(iL 45 (bO b off)).run pQ W=.ok (gU x.1) W:=by
 obtain⟨C,e,f,hC,d⟩:=h.get;have a:=d 0 (gU x.1) rfl;rw[cx]at a;simp[go_sem,bT hC,a]
def oL.new(W:Wt_):oL (W.alloc (.map #[] 0)) W.heap.size []:=⟨[],eF.new W,λn=>rfl⟩
def uT(b i:Nat)(hi:i<=7)(W:Wt_):(iF uL (bO b 0) i).run pQ W=.ok (bO b i) W:=by
 rcases(show i=0\/i=1\/i=2\/i=3\/i=4\/i=5\/i=6\/i=7 by omega)with rfl|rfl|rfl|rfl|rfl|rfl|rfl|rfl<;>simp[go_sem]
def Be{w:Wt_}{b:Nat}{d nx e:Int}{ss:Nat->Value}(h:nS w b d nx e ss)(hs:∀i,3<=i->i<=7->∃a n c,ss i=.slice a n c):(iL 56 (bO b 6)).run pQ w=.ok (ss 6) w/\(iL 56 (bO b 7)).run pQ w=.ok (ss 7) w:=
 ⟨Hh h hs 6 qZ qZ,Hh h hs 7 qZ qZ⟩
def Ey{q:Nat}{sT sG:Vt_}{f l:Int}(h:hp W q=some (.cells (rB sT sG f l) 246 (0,0)))(b:∃a n c,sT=.slice a n c)(d:∃a n c,sG=.slice a n c):(iF 246 (bO q 0) 1).run pQ W=.ok (bO q 1) W/\(iL 39 (bO q 1)).run pQ W=.ok sG W:=by
 obtain⟨k,m,i,rfl⟩:=b;obtain⟨e,j,g,rfl⟩:=d;unfold rB at h;exact⟨by simp[go_sem],by simp[go_sem,h]⟩
def H4(x:Int×Od)(l:List (Int×Od))(U:List Int)(S:bo):nv (x::l) U S=if S.stnd true U x=false then none
  else if(cV (S.bk x.1) x.2 4).1≠0\/(cV (S.bk x.1) x.2 4).2.2.gone≠ []then none
  else nv l (x.2.num::U) {S with bk:=eL S.bk x.1 (cV (S.bk x.1) x.2 4).2.1}:=rfl
def Ig(x:Int×Od)(l:List (Int×Od))(a:Option Int)(n:Int)(U:List Int)(S:bo):oq (x::l) a n U S=if S.stnd false U x=false then none
  else if x.2.num<=(if a≠none/\a≠some x.1 then 0 else n)then none
  else if 50<=(S.bd x.1).length then none
  else oq l (some x.1) x.2.num (x.2.num::U) {S with bd:=eL S.bd x.1 (S.bd x.1++[x.2])}:=rfl
def TH(l:List (Int×Od))(i:Nat):Option Int:=if i=0 then none else l[i - 1]?.map (·.1)
def CP{l:List (Int×Od)}{i:Nat}(h:i<l.length):TH l (i+1)=some l[i].1:=by
 unfold TH;rw[aa qZ,jz,aq h];rfl
section
variable{w:Wt_}{K:aY}{v c l mb md mn sb:Nat}{A:List (Int×Nat)}{D:List (Int×Value)}{fp:Pt->Nat->Prop}{S0:bo}{ss:Nat->Value}{s:zg}
structure tJ(w:Wt_)(v c l mb md mn sb:Nat)(A:List (Int×Nat))(fp:Pt->Nat->Prop)(S0:bo)(ss:Nat->Value)(s:zg)(W:Wt_)(D' :List (Int×Value))(U:List Int)(T:bo)(fp' :Pt->Nat->Prop):Prop where
 ven:pO W v c l mb md A D' fp' T
 num:oL W mn U
 inv:rH S0 T U
 st:nS W sb s.day s.next s.fund ss
 up:∀y,kK fp' y->kK fp y\/mn<y
 md:aS (kK fp) w W
def tJ.nmn{W:Wt_}{e:List (Int×Value)}{U:List Int}{T:bo}{a:Pt->Nat->Prop}(h:tJ w v c l mb md mn sb A fp S0 ss s W e U T a)(b:∀y,kK fp y->y<w.heap.size)(h1:w.heap.size<=mn):¬kK a mn:=λf=>by
 rcases h.up mn f with d|d
 ·have:=b mn d;omega
 ·omega
def tJ.nsb{W:Wt_}{e:List (Int×Value)}{U:List Int}{T:bo}{a:Pt->Nat->Prop}(h:tJ w v c l mb md mn sb A fp S0 ss s W e U T a)(b:∀y,kK fp y->y<w.heap.size)(h1:w.heap.size<=sb)(g:sb<mn):¬kK a sb:=λf=>by
 rcases h.up sb f with d|d
 ·have:=b sb d;omega
 ·omega
def tJ.md0{W d:Wt_}{b:List (Int×Value)}{U:List Int}{T:bo}{a:Pt->Nat->Prop}(h:tJ w v c l mb md mn sb A fp S0 ss s W b U T a)(m:M0 W d):tJ w v c l mb md mn sb A fp S0 ss s d b U T a:=
 ⟨h.ven.md0 m,h.num.mod m id,h.inv,m.hpk h.st id,h.up,h.md.trans (m.to)⟩
set_option maxRecDepth 10000 in
set_option maxHeartbeats 8000000 in
def LL{U0:List Int}{X:bo}{fp0:Pt->Nat->Prop}{W0:Wt_}(Q:∀y,kK fp y->y<w.heap.size)(hs:tj w ss s)(hf:s.Fit)(hlb:s.bids.length<=100000)(hsb:w.heap.size<=sb)(hsm:sb<mn)
  (hap:∀i y,3<=i->i<=7->vw (ss i) y->¬kK fp y)(h0:tJ w v c l mb md mn sb A fp S0 ss s W0 D U0 X fp0)
  (hK1:∀T R d U w',oq s.bids none 0 U0 X=some T->tJ w v c l mb md mn sb A fp S0 ss s w' R U T d->K (.bool true) w')
  (hK0:∀w',oq s.bids none 0 U0 X=none->aS (kK fp) w w' ->K (.bool false) w'):
  nU (S:=Value×Value×Value×Unit) (UH (gI (s.bids.length:Int)) (ss 7) (bO sb 0) (dL v) (.map (some mn)) K) (.bool false,gQ 0,gI 0,()) W0:=by
 have hssl:=hs.sl
 refine d8 (λst W=>∃(i:Nat) (last:Int) (R:List (Int×Value)) (U:List Int) (T:bo) (d:Pt->Nat->Prop),i<=s.bids.length/\st=(.bool false,gQ last,gI i,())/\oq s.bids none 0 U0 X=oq (s.bids.drop i) (TH s.bids i) last U T/\tJ w v c l mb md mn sb A fp S0 ss s W R U T d)
  (λst _=>match st.2.2.1 with| .int _ i=>s.bids.length - i.toNat|_=>0) ⟨0,0,D,U0,X,fp0,qZ,rfl,rfl,h0⟩ ?_
 rintro _ W ⟨i,last,R,U,T,d,hi,rfl,a,r⟩ KN hKN;unfold UH;intro _;by_cases B:i<s.bids.length
 ·have hlt' :(i:Int)<(s.bids.length:Int):=qZ;refine dB hlt' ?_;have hR:Rd W 6 (ss 7) s.bids.length (s.bids.flatMap jD):=hs.bids.mod r.md λy f=>hap 7 y qZ qZ f;obtain⟨eb,eo,ei,hA⟩:=Qf hR B;have L:=CP B;have hxf:=hf.bids s.bids[i] (av B);rw[dA B]at a;obtain⟨x,hx⟩:=df (s.bids[i]);rw[<-hx]at hA a L hxf;refine bh (ei W _) (bh (xW hA) ?_);obtain⟨w1,w2,e1,e2,b2,m2⟩:=OR x W;obtain⟨p,hp0⟩:=df W.heap.size;rw[<-hp0]at e1 e2 b2;refine bh e1 (gg e2 ?_);have h2:=r.md0 m2;obtain⟨F,P⟩:=df (TH s.bids i);rw[<-P]at a;obtain⟨la,u⟩:=df (if F≠none/\F≠some x.1 then 0 else last:Int);rw[Ig]at a;rw[<-u]at a;refine cG.at (λst C=>st=(gQ la,())/\M0 w2 C) ?_ ?_
  ·refine cG.at (λst C=>st=(.bool (decide (F≠none/\F≠some x.1)),())/\M0 w2 C) ?_ ?_
   ·have b:=(aS.refl (λ_=>False) w2).drew;have h3:=h2.md0 b;have b3:FT w2.drew p x:=b.hpk b2 id;generalize w2.drew=O at b h3 b3|-;cases i with
    |zero=>
     refine cT (.bool false) (λW=>by simp[go_sem]) ?_;rw[ij];have:F=none:=by rw[P];rfl
     exact⟨by simp[this],b⟩
    |succ j=>
     refine cT (.bool true) (λW=>by simp[go_sem]<;>omega) ?_;rw[jV];have hj:j<s.bids.length:=qZ;have hR3:Rd O 6 (ss 7) s.bids.length (s.bids.flatMap jD):=hs.bids.mod h3.md λy f=>hap 7 y qZ qZ f;obtain⟨jb,jo,je,jA⟩:=Qf hR3 hj;have hpj:=CP hj;rw[<-P]at hpj;refine bQ (λW=>(Ai p W).1) (cK (BK b3) ?_);refine bQ (λW=>uT sb 7 qZ W) (cK (Be h3.st hssl).2 ?_);refine cT (gI (j:Int)) (λW=>by simp[go_sem];rw[fI qZ qZ]) ?_;refine bQ (λW=>je W _) ?_;refine cT (bO jb jo) (λW=>by simp[go_sem]) (cK (Yc jA) ?_);refine cT (.bool (decide (x.1≠s.bids[j].1))) (λW=>by simp[go_sem];rfl) ?_;refine⟨?_,b⟩
     have e:decide (F≠none/\F≠some x.1)=decide (x.1≠s.bids[j].1):=by
      rw[hpj];by_cases t:x.1=s.bids[j].1<;>simp[t,eq_comm]
     rw[e]
   ·rintro _ O ⟨rfl,Y⟩;unfold Uv;intro _;by_cases t:F≠none/\F≠some x.1
    ·rw[ae t]at u;simp only[aQ t];rw[jV];exact⟨by rw[u],Y⟩
    ·rw[aa t]at u;simp only[br t];rw[ij];exact⟨by rw[u],Y⟩
  rintro _ O ⟨rfl,Y⟩;unfold UD;intro _;have h3:=h2.md0 Y;have b3:FT O p x:=Y.hpk b2 id;have M3:=m2.trans Y;have hnum:mn<W.heap.size:=r.num.lt;refine cG.at (λst C=>∃bad,st=(.bool bad,())/\FT C p x/\(bad=true->oq s.bids none 0 U0 X=none/\aS (kK fp) w C)/\(bad=false->T.stnd false U x=true/\¬x.2.num<=la/\¬50<=(T.bd x.1).length/\pO C v c l mb md A R d T/\oL C mn (x.2.num::U)/\aS (λy=>y=mn) W C)) ?_ ?_
  ·have b:=(aS.refl (λ_=>False) O).drew;have Z:=h3.md0 b;have b4:FT O.drew p x:=b.hpk b3 id;have M4:=M3.trans b;generalize O.drew=w4 at b Z b4 M4|-;refine cK (xW (At.all b4)) ?_;refine Br Z.ven Z.num (Z.nmn Q qZ) (λm E v5 n5 G=>?_) λm E G=>?_
   rotate_left
   ·refine cT (.bool true) (λW=>by simp[go_sem]) ?_;rw[jV];rw[ae m]at a;exact⟨true,rfl,G.hpk b4 id,λ_=>⟨a,Z.md.trans (G.to)⟩,λh=>(by cases h)⟩
   refine cT (.bool false) (λW=>by simp[go_sem]) ?_;rw[ij];rw[aa (by rw[m];simp)]at a;have N:FT E p x:=G.hpk b4 qZ;have hm5:aS (kK fp) w E:=Z.md.on G λy f=>.inr qZ;have hm5' :aS (λy=>y=mn) W E:=(M4.to).trans G;refine bQ (λW=>(Ai p W).2) (bQ (λW=>UN p W) (cK (Zb N) ?_));refine cT (.bool (decide (x.2.num<=la))) (λW=>by simp[go_sem]) ?_;by_cases o:x.2.num<=la
   ·rw[aw,ae (by simpa using o)];rw[ae o]at a;exact⟨true,rfl,N,λ_=>⟨a,hm5⟩,λh=>(by cases h)⟩
   rw[aw,aa (by simpa using o)];rw[aa o]at a;simp only[dL,cj];refine bQ (λW=>uf 3 qZ W) (cK (VN _ v5.blk) ?_);refine bQ (λW=>(Ai p W).1) (cK (BK N) ?_);refine nt (zZ v5.mbd x.1) ?_;obtain⟨sa,sc,hsl,-⟩:=(v5.bd x.1).isSl;refine qy (gI ((T.bd x.1).length:Int)) (by rw[hsl];simp[go_sem]) ?_;refine cT (.bool (decide (50<=(T.bd x.1).length))) (λ_=>by simp[go_sem];omega) ?_;refine⟨_,rfl,N,λhb=>?_,λhb=>?_⟩
   ·rw[ae (bF hb)]at a;exact⟨a,hm5⟩
   ·exact⟨m,o,of_decide_eq_false hb,v5,n5,hm5'⟩
  rintro _ E ⟨bad,rfl,N,hbt,hbf⟩;unfold Ud;intro _;cases bad with
  |true=>
   rw[jV];exact hK0 _ (hbt rfl).1 (hbt rfl).2
  |false=>
  rw[ij];obtain⟨m,o,h50,v5,n5,G⟩:=hbf rfl;rw[aa (by rw[m];simp),aa o,aa h50]at a;have I:=DD m;refine bh (Ai p _).2 (bh (UN p _) (bh (Zb N) ?_));have b:=(aS.refl (λ_=>False) E).drew;have v6:=v5.md0 b;have n6:=n5.mod b id;have b6:FT E.drew p x:=b.hpk N id;have M6:aS (λy=>y=mn) W E.drew:=G.trans (b.to);generalize E.drew=w6 at b v6 n6 b6 M6|-;simp only[dL,cj];refine bQ (λW=>uf 3 qZ W) (cK (VN _ v6.blk) ?_);refine bQ (λW=>(Ai p W).1) (cK (BK b6) ?_);refine bQ (λW=>uf 3 qZ W) (cK (VN _ v6.blk) ?_);refine bQ (λW=>(Ai p W).1) (cK (BK b6) ?_);refine nt (zZ v6.mbd x.1) ?_;refine bQ (λW=>(Ai p W).2) (cK (TC b6) ?_);refine XT λw7 g hg l7 V=>?_;have k:=v6.md0 V;have b7:FT w7 p x:=V.hpk b6 id;refine⟨zZ k.mbd x.1,BK b7,VN _ k.blk,BK b7,VN _ k.blk,?_⟩;refine YS (k.bd x.1) l7 qZ λs' w8 o8 m8 n8=>?_;have q:aS (d (.bd x.1)) w7 w8:=m8.mono λy _ f=>(k.fbd x.1 y).2 f;have hpn:¬d (.bd x.1) p:=λt=>by have:=r.ven.lt t;omega
  have b8:FT w8 p x:=q.hpk b7 hpn;have blk8:=q.hpk k.blk (k.ap (by simp) _ k.self);refine⟨BK b8,VN _ blk8,?_⟩;have mbd8:=k.mbd.mod q (k.ap (by simp) _ ((k.fmd md).2 rfl));refine gL (enc:=eQ) (ev:=xk) (x:=x.1) (v:=s') qD kM mbd8 λw9 a9 m9 hs9=>?_;have z:d .md md:=(k.fmd md).2 rfl;have v9:=k.setBd (n:=x.1) (pI I.alive) q o8 (λy f=>(n8 y f).imp (λh' =>(k.fbd x.1 y).2 h') id) a9 m9;have H:¬kK d mn:=r.nmn Q qZ;have n9:oL w9 mn (x.2.num::U):=((n6.mod V id).mod q λt=>H ⟨_,t⟩).mod m9 λe=>H ⟨_,e▸z⟩;have M:¬kK d sb:=r.nsb Q hsb hsm;have t9:nS w9 sb s.day s.next s.fund ss:=m9.hpk (q.hpk (V.hpk (M6.hpk r.st qZ) id) λt=>M ⟨_,t⟩) λe=>M ⟨_,e▸z⟩;have hM6:=M6.size;have hM7:=V.size;have hwW:=r.md.size;have J:∀y,kK d y->kK fp y\/w.heap.size<=y:=λy f=>(r.up y f).imp id λh=>by omega
  refine ax (gI ((i+1:Nat):Int)) w9 (by simp[go_sem];rw[fI qZ qZ]) ?_;refine hKN _ _ ⟨i+1,x.2.num,put R x.1 s',x.2.num::U,{T with bd:=eL T.bd x.1 (T.bd x.1++[x.2])},xS d (.bd x.1) (aK s'),qZ,rfl,?_,?_⟩ (by show s.bids.length - (((i+1:Nat):Int)).toNat<s.bids.length - ((i:Int)).toNat;omega)
  rotate_left 1
  ·refine⟨v9,n9,r.inv.bid I hxf.2 qZ,t9,λy ⟨pt,f⟩=>?_,?_⟩
   ·by_cases hpt:pt=.bd x.1
    ·subst hpt;rw[lF]at f;rcases n8 y f with h' |h'
     ·exact r.up y ⟨_,(k.fbd x.1 y).2 h'⟩
     ·exact .inr qZ
    ·rw[fk hpt]at f;exact r.up y ⟨_,f⟩
   ·exact(((r.md.on M6 λy f=>.inr qZ).trans (V.to)).on q λy f=>J y ⟨_,f⟩).on m9 λy f=>J y ⟨.md,f▸z⟩
  ·rw[L];exact a
 ·obtain rfl:i=s.bids.length:=qZ;refine eK ?_;rw[gi]at a;exact hK1 T R d U W a r
set_option maxRecDepth 10000 in
set_option maxHeartbeats 8000000 in
def Qa(h:pO w v c l mb md A D fp S0)(hi0:rH S0 S0 [])(hs:tj w ss s)(hf:s.Fit)(hlo:s.ords.length<=100000)(hlb:s.bids.length<=100000)
  (hap:∀i y,3<=i->i<=7->vw (ss i) y->¬kK fp y)
  (hK1:∀T D' d P,((nv s.ords [] S0).bind λx=>oq s.bids none 0 x.1 x.2)=some T->pO P v c l mb md A D' d T->(∃U,rH S0 T U)->aS (kK fp) w P->(∀y,kK d y->kK fp y\/w.heap.size<=y)->K (.bool true) P)
  (H:∀P,((nv s.ords [] S0).bind λx=>oq s.bids none 0 x.1 x.2)=none->aS (kK fp) w P->K (.bool false) P):Ca pQ 54 #[dL v,ad4 s ss] w K:=by
 have L:=hs.sl;have hFl:∀y,kK fp y->y<w.heap.size:=λy ⟨p,f⟩=>h.lt f;unfold dL;refine cN Tryz.func54 ?_;obtain⟨O,e1,b1,m1⟩:=NI s.day s.next s.fund ss w;obtain⟨sb,hsb⟩:∃p,p=w.heap.size:=⟨_,rfl⟩
 rw[<-hsb]at e1 b1;refine bh e1 ?_;obtain⟨mn,hmn⟩:∃p,p=O.heap.size:=⟨_,rfl⟩
 have hsm:sb<mn:=by have:=ay b1;omega
 have m2:M0 O (O.alloc (.map #[] 0)):=(aS.refl _ O).alloc _;have N2:oL (O.alloc (.map #[] 0)) mn []:=by rw[hmn];exact oL.new O
 refine ax (.map (some mn)) (O.alloc (.map #[] 0)) (by rw[hmn];simp[go_sem]) ?_;generalize O.alloc (.map #[] 0)=w2 at m2 N2|-;have M2:=m1.trans m2;have b2:nS w2 sb s.day s.next s.fund ss:=m2.hpk b1 id;have f2:tJ w v c l mb md mn sb A fp S0 ss s w2 D [] S0 fp:=⟨h.md0 M2,N2,hi0,b2,λy f=>.inl f,M2.to⟩
 refine bh (uT sb 6 qZ _) (bh (Be b2 L).1 ?_);obtain⟨oa,oc,ho6⟩:=hs.ords.isSl;refine iq (gI (s.ords.length:Int)) w2 (by rw[ho6];simp[go_sem]) ?_
 refine d8 (λst W=>∃(i:Nat) (U:List Int) (T:bo) (d:Pt->Nat->Prop),i<=s.ords.length/\st=(.bool false,gI i,())/\nv s.ords [] S0=nv (s.ords.drop i) U T/\tJ w v c l mb md mn sb A fp S0 ss s W D U T d)
  (λst _=>match st.2.1 with| .int _ i=>s.ords.length - i.toNat|_=>0) ⟨0,[],S0,fp,qZ,rfl,rfl,f2⟩ ?_
 rintro _ W ⟨i,U,T,d,hi,rfl,g,o⟩ KN hKN;refine lE ?_;intro _;by_cases Y:i<s.ords.length
 ·have hlt' :(i:Int)<(s.ords.length:Int):=qZ;refine dB hlt' ?_;have hR:Rd W 6 (ss 6) s.ords.length (s.ords.flatMap jD):=hs.ords.mod o.md λy f=>hap 6 y qZ qZ f;obtain⟨eb,eo,ei,hA⟩:=Qf hR Y;have F:=hf.ords s.ords[i] (av Y);rw[dA Y]at g;obtain⟨x,hx⟩:=df (s.ords[i]);rw[<-hx]at hA g F;refine bh (ei W _) (bh (xW hA) ?_);obtain⟨w1',w3,e1',e3,b3,m3⟩:=OR x W;obtain⟨p,hp0⟩:=df W.heap.size;rw[<-hp0]at e1' e3 b3;refine bh e1' (gg e3 ?_);have h3:=o.md0 m3;obtain⟨X,hX⟩:=df (cV (T.bk x.1) x.2 4);rw[H4]at g;rw[<-hX]at g;refine bh (xW (At.all b3)) ?_;have M:¬kK d mn:=o.nmn hFl qZ;have hnsb:¬kK d sb:=o.nsb hFl qZ hsm;have hnum:mn<W.heap.size:=o.num.lt;refine Br h3.ven h3.num M (λC m v4 n4 m4=>?_) λC m m4=>?_
  rotate_left
  ·refine jZ ?_;rw[ae C]at g;exact H m (by rw[g];rfl) (h3.md.trans (m4.to))
  refine eK ?_;rw[aa (by rw[C];simp)]at g;have N:=DD C;have b4:FT m p x:=m4.hpk b3 qZ;have M4:aS (λy=>y=mn) W m:=(m3.to).trans m4;obtain⟨b,R,-⟩:=lkB v4 (n:=x.1) (pI N.alive)
  refine cG.at (λst W' =>∃r z E G,st=(.pointer (some ⟨r,0,none⟩),gI X.1,())/\hp W' r=some (.cells (rB z E X.2.2.filled X.2.2.left) 246 (0,0))/\pO W' v c l mb md A D (xS d (.bk x.1) G) {T with bk:=eL T.bk x.1 X.2.1}/\(∃a n c,z=.slice a n c)/\(∃a c,E=.slice a X.2.2.gone.length c)/\
   aS (d (.bk x.1)) m W' /\(∀y,G y->d (.bk x.1) y\/m.heap.size<=y)) ?_ ?_
  ·have I:=(aS.refl (λ_=>False) m).drew;have B:=v4.md0 I;have b6:FT m.drew p x:=I.hpk b4 id;have hs6:m.drew.heap.size=m.heap.size:=rfl;rw[<-hs6];have S:aS (d (.bk x.1)) m m.drew:=I.to;generalize m.drew=Z at I B b6 S hs6|-;have hB:=B.bk x.1 b R;simp only[dL,cj];refine bQ (λW=>uf 2 qZ W) (cK (ZJ _ B.blk) ?_);refine bQ (λW=>(Ai p W).1) (cK (BK b6) ?_);refine nt (Ea B.mbk R) ?_;refine bQ (λW=>(Ai p W).2) (cK (TC b6) ?_);refine⟨?_,?_⟩
   ·refine x7 hB F.2 ⟨qZ,qZ⟩ λG z E w7 q7 p7 m7 n7 s7=>?_;rw[<-hX]at q7 p7|-;refine rD ?_;refine rD ?_;obtain⟨w8,e8,b8,m8⟩:=Ka w7;refine bh e8 ?_;obtain⟨r,hr0⟩:=df w7.heap.size;rw[<-hr0]at b8|-;obtain⟨ta,tc,u,-⟩:=p7.tr.isSl;obtain⟨ga,gc,j,-⟩:=p7.go.isSl;obtain⟨w9,e9,b9,m9⟩:=Kt z E X.2.2.filled X.2.2.left b8 ⟨_,_,_,u⟩ ⟨_,_,_,j⟩;refine gg e9 ?_;have M79:M0 w7 w9:=m8.on m9 λb R=>.inr qZ;exact⟨r,z,E,G,rfl,b9,(B.setBk R m7 q7 n7).md0 M79,⟨_,_,_,u⟩,⟨_,_,j⟩,(S.trans m7).trans (M79.to),n7⟩
   ·obtain⟨w7,e7,b7,m7⟩:=Ka Z;refine bh e7 ?_;obtain⟨r,hr0⟩:=df Z.heap.size;rw[<-hr0]at b7|-;have v7:=B.md0 m7;have b7' :FT w7 p x:=m7.hpk b6 id;refine⟨TC b7',Ea v7.mbk R,BK b7',ZJ _ v7.blk,?_⟩;have hrl:r<w7.heap.size:=ay b7;refine x7 (v7.bk x.1 b R) F.2 ⟨qZ,qZ⟩ λG z E w8 q8 p8 m8 n8 s8=>?_;rw[<-hX]at q8 p8|-;refine rD ?_;refine rD ?_;obtain⟨ta,tc,u,-⟩:=p8.tr.isSl;obtain⟨ga,gc,j,-⟩:=p8.go.isSl;have hrF:∀pt,¬d pt r:=λpt V=>by have:=B.lt V;omega
    obtain⟨w9,e9,b9,m9⟩:=Kt z E X.2.2.filled X.2.2.left (m8.hpk b7 (hrF _)) ⟨_,_,_,u⟩ ⟨_,_,_,j⟩;refine gg e9 ?_;have v8:=v7.setBk R m8 q8 n8;refine⟨r,z,E,G,rfl,b9,v8.mod m9 λpt y f e=>?_,⟨_,_,_,u⟩,⟨_,_,j⟩,(((S.trans (m7.to)).trans m8).on m9 λy f=>.inr qZ),λy f=>(n8 y f).imp id (λh' =>qZ)⟩;subst e;by_cases q:pt=.bk x.1
    ·subst q;rw[lF]at f;rcases n8 y f with h' |h'
     ·exact hrF _ h'
     ·omega
    ·rw[fk q]at f;exact hrF _ f
  rintro _ Z ⟨r,z,E,G,rfl,i1,B,iT,⟨ga,gc,j⟩,m6,hG⟩;refine jG ?_;intro _;have k:(if X.1≠0\/X.2.2.gone≠ []then(none:Option (List Int×bo))else nv (s.ords.drop (i+1)) (x.2.num::U) {T with bk:=eL T.bk x.1 X.2.1})=nv s.ords [] S0:=g.symm;have hM4:=M4.size;have hupT:∀y,kK d y->kK fp y\/w.heap.size<=y:=λy f=>(o.up y f).imp id λh=>by have:=m1.size;omega
  have M6:aS (kK fp) w Z:=(o.md.on M4 λy f=>.inr (by have:=m1.size;omega)).on m6 λy f=>hupT y ⟨_,f⟩;refine cG.at (λst W' =>st=(.bool (decide (X.1≠0\/X.2.2.gone≠ [])),())/\W' =Z) ?_ ?_
  ·by_cases Q:X.1≠0
   ·refine dB Q ?_;exact⟨by simp[Q],rfl⟩
   have hX0:X.1=0:=by simpa using Q
   refine ey hX0 ?_;refine bh (Ey i1 iT ⟨_,_,_,j⟩).1 (bh (Ey i1 iT ⟨_,_,_,j⟩).2 ?_);refine iq (gI (X.2.2.gone.length:Int)) Z (by rw[j];simp[go_sem]) ?_;refine ax (.bool (decide (X.1≠0\/X.2.2.gone≠ []))) Z ?_ ⟨rfl,rfl⟩;cases hgn:X.2.2.gone with
   |nil=>simp[go_sem,hX0]
   |cons a b=>simp[go_sem,hX0]<;>omega
  rintro _ w6' ⟨rfl,hee⟩;subst hee;refine jG ?_;intro _;by_cases V:X.1≠0\/X.2.2.gone≠ []
  ·simp only[aQ V];rw[jV];rw[ae V]at k;exact H _ (by rw[<-k];rfl) M6
  simp only[br V];rw[ij];rw[aa V]at k;refine ax (gI ((i+1:Nat):Int)) w6' (by simp[go_sem];rw[fI qZ qZ]) ?_;refine hKN _ _ ⟨i+1,x.2.num::U,{T with bk:=eL T.bk x.1 X.2.1},xS d (.bk x.1) G,qZ,rfl,k.symm,?_⟩ (by show s.ords.length - (((i+1:Nat):Int)).toNat<s.ords.length - ((i:Int)).toNat;omega);have J:=o.inv.order N F.2 (aI λt=>V (.inl (by rw[hX];exact t)));rw[<-hX]at J;refine⟨B,n4.mod m6 λt=>M ⟨_,t⟩,J,m6.hpk (M4.hpk o.st qZ) λt=>hnsb ⟨_,t⟩,λy ⟨pt,f⟩=>?_,M6⟩;by_cases q:pt=.bk x.1
  ·subst q;rw[lF]at f;rcases hG y f with h' |h'
   ·exact o.up y ⟨_,h'⟩
   ·exact .inr qZ
  ·rw[fk q]at f;exact o.up y ⟨_,f⟩
 ·obtain rfl:i=s.ords.length:=qZ;refine eK ?_;rw[gi]at g;have hfo:nv s.ords [] S0=some (U,T):=g;refine bh (uT sb 7 qZ _) (bh (Be o.st L).2 ?_);obtain⟨ba,bc,hb7⟩:=hs.bids.isSl;refine iq (gI (s.bids.length:Int)) W (by rw[hb7];simp[go_sem]) ?_;have hbind:((nv s.ords [] S0).bind λx=>oq s.bids none 0 x.1 x.2)=oq s.bids none 0 U T:=by rw[hfo];rfl
  rw[hbind]at hK1 H;refine LL hFl hs hf hlb qZ hsm hap o (λT' D' fp'' U' P e hw=>?_) H;exact hK1 T' D' fp'' P e hw.ven ⟨U',hw.inv⟩ hw.md λy f=>(hw.up y f).imp id λh=>by have:=m1.size;omega
end
end Go.Proofs
set_option maxRecDepth 100000
set_option maxHeartbeats 1000000
namespace Go.Proofs
open Go Go.Vc
attribute [local congr] aZ
variable {A:List Ac}{i:Nat}{w:Wt_}
def DX(h:i<4294967296):IntKind.i64.wrap ((i:Int)+1)=((i+1:Nat):Int):=by rw[bU];omega
def Ya{s:Vt_}{l:List Ac}(h:Rd w 4 s l.length (l.flatMap db)){i:Nat}(hi:i<l.length):
  ∃b a d C e f,s=.slice (some ⟨b,a,none⟩) l.length d/\hp w b=some (.cells C e f)/\C[a+i*4]? =some (gU l[i].num)/\C[a+(i*4+1)]? =some (gI l[i].cash)/\C[a+(i*4+2)]? =some (.bool l[i].kil)/\C[a+(i*4+3)]? =some (.bool l[i].dfl):=by
 obtain⟨b,a,d,e,-,j⟩:=h.item (show∀x,(db x).length=4 from λ_=>rfl) hi rfl;obtain⟨C,g,f,hC,c⟩:=j.get;refine⟨b,a,d,C,g,f,e,hC,c 0 _ rfl,?_,?_,?_⟩
 ·have:=c 1 _ rfl;rwa[eD]at this
 ·have:=c 2 _ rfl;rwa[eD]at this
 ·have:=c 3 _ rfl;rwa[eD]at this
def ag3{s:Vt_}{l:List Po}(h:Rd w 4 s l.length (l.flatMap dy)){i:Nat}(hi:i<l.length):
  ∃b a d C e f,s=.slice (some ⟨b,a,none⟩) l.length d/\hp w b=some (.cells C e f)/\C[a+i*4]? =some (gU l[i].c)/\C[a+(i*4+1)]? =some (gU l[i].a)/\C[a+(i*4+2)]? =some (gI l[i].q)/\C[a+(i*4+3)]? =some (gI l[i].b):=by
 obtain⟨b,a,d,e,-,j⟩:=h.item (show∀x,(dy x).length=4 from λ_=>rfl) hi rfl;obtain⟨C,g,f,hC,c⟩:=j.get;refine⟨b,a,d,C,g,f,e,hC,c 0 _ rfl,?_,?_,?_⟩
 ·have:=c 1 _ rfl;rwa[eD]at this
 ·have:=c 2 _ rfl;rwa[eD]at this
 ·have:=c 3 _ rfl;rwa[eD]at this
def kf{P:Program}{s:Sem Value}{K:aY}{v:Vt_}{w' :Wt_}(h:s.run P w=.ok v w')(a:K v w'):rv P s w K:=by
 rw[A2];unfold UJ;rw[h];exact a
def sh{α:Type}{A:List α}(hi:i<A.length):A.take (i+1)=A.take i++[A[i]]:=by
 rw[fP,aq hi];rfl
def KY(hi:i<A.length):((A.take (i+1)).map (·.cash)).sum=((A.take i).map (·.cash)).sum+A[i].cash:=by
 rw[sh hi,aM,fN];simp
def PA.sum(h:PA A)(e:A.length<=64):0<=(A.map (·.cash)).sum/\(A.map (·.cash)).sum<=64000000000000000:=by
 have h1:=DQ (l:=A.map (·.cash)) (B:=1000000000000000) λx c=>by
  obtain⟨a,b,rfl⟩:=aL.1 c;have:=fQ.1 (h.num a b).2;simp only[MF]at this;omega
 rw[ah]at h1
 have i:0<=(A.map (·.cash)).sum:=by
  clear h1 e
  have:∀x∈A.map (·.cash),0<=x:=λx c=>by
   obtain⟨a,b,rfl⟩:=aL.1 c;exact(fQ.1 (h.num a b).2).1
  generalize A.map (·.cash)=l at this;induction l with
  |nil=>simp
  |cons x l f=>
   have h1:=this x ai;have g:=f λy d=>this y (af _ d);rw[bC];omega
 omega
set_option maxRecDepth 10000 in
set_option maxHeartbeats 1000000 in
def KW{f:Int}{v:Vt_}{K:aY}(D:Rd w 4 v A.length (A.flatMap db))(U:A.length<4294967296)
  (y:∀b l,M0 w l->(b=true↔A.length<=64/\aW f 0 MF=true/\PA A/\f+(A.map (·.cash)).sum<=MF)->K (.bool b) l):
  Ca pQ 149 #[.int .i64 f,v] w K:=by
 obtain⟨S,vc,rfl⟩:=D.isSl;refine cN Tryz.func149 ?_;refine cG.at (λs W=>s=(.bool (decide (64<A.length)|| !aW f 0 MF),())/\W=w) ?_ ?_
 ·by_cases q:64<A.length
  ·have k:(64:Int)<(A.length:Int):=qZ;simp[go_sem,q,k]
  ·have k:¬(64:Int)<(A.length:Int):=qZ;simp[go_sem,q,k];refine nW ?_;simp[go_sem,MF]
 rintro _ l ⟨rfl,rfl⟩;refine jG ?_;intro _;by_cases a:(decide (64<A.length)|| !aW f 0 MF)=true
 ·rw[a];simp only[aw,cZ];refine y false _ (aS.refl _ _) ⟨λh=>(by cases h),λh=>?_⟩;obtain⟨h1,u,-,-⟩:=h;rw[u]at a;simp at a;omega
 rw[ez.2 a];simp only[aw,bj,da]
 have q:A.length<=64:=by
  apply aI;intro h;apply a;simp;left;omega
 have E:aW f 0 MF=true:=by
  cases B:aW f 0 MF with
  |true=>rfl
  |false=>exact absurd (by rw[B];simp) a
 have t:=fQ.1 E;simp only[MF]at t;clear a;simp[go_sem]
 refine uo (λs W=>∃(i:Nat) (last:Int) (x:Vt_),i<=A.length/\s=(gI (f+((A.take i).map (·.cash)).sum),x,gU last,gI i,())/\yU (A.take i) last/\M0 l W)
  (λs _=>match s.2.2.2.1 with| .int _ i=>A.length - i.toNat|_=>0) ⟨0,0,.bool false,qZ,by simp,yU.nil,aS.refl _ _⟩ ?_
 rintro⟨_,_⟩ W ⟨i,last,x,T,⟨⟩,d,p⟩ P m;refine lE ?_;intro _;by_cases g:i<A.length
 ·obtain⟨b,L,F,C,R,Q,e,hC,G,H,J,M⟩:=Ya (D.mod p dS) g;cases e;have I:=DX (i:=i) qZ;refine kf (v:=.bool true) (w' :=W) (by simp[go_sem,g]) ?_;rw[jV];simp[-Int.natCast_add,go_sem,g,hC,G,H,J,M];generalize n:W.alloc _=z;have o:M0 W z:=by subst n;exact(aS.refl _ W).alloc _
  have j:hp z W.heap.size=some (.cells #[.int .u32 A[i].num,gI A[i].cash,.bool A[i].kil,.bool A[i].dfl] 100 (0,0)):=by subst n;simp[go_sem]
  refine cG.at (λs O=>s=(.bool (decide (A[i].num<=last)|| !aW A[i].cash 0 MF),())/\O=z) ?_ ?_
  ·by_cases h1:A[i].num<=last
   ·simp[go_sem,bT j,h1]
   ·simp[go_sem,bT j,h1];refine nW ?_;simp[go_sem,MF]
  rintro _ _ ⟨rfl,rfl⟩;refine jG ?_;intro _;by_cases a:(decide (A[i].num<=last)|| !aW A[i].cash 0 MF)=true
  ·rw[a];simp only[aw,cZ];refine y false _ (p.trans o) ⟨λh=>(by cases h),λh=>?_⟩;refine absurd h.2.2.1 (yU.bad g d ?_);rw[li,aX]at a;rcases a with h|h
   ·exact .inl h
   ·exact .inr (by simpa using h)
  ·rw[ez.2 a]
   have h1:last<A[i].num:=by
    apply aI;intro h;apply a;simp;left;omega
   have u:aW A[i].cash 0 MF=true:=by
    cases B:aW A[i].cash 0 MF with
    |true=>rfl
    |false=>exact absurd (by rw[B];simp) a
   have c:=d.step h1 u;rw[<-sh g]at c;have N:=c.pa.sum (by rw[aB];omega)
   have r:IntKind.i64.wrap (f+((A.take i).map (·.cash)).sum+A[i].cash)=f+((A.take (i+1)).map (·.cash)).sum:=by
    rw[KY g]at N|-;rw[bU];omega
   simp only[aw,bj,da];simp[-Int.natCast_add,-List.map_take,go_sem,bT j];rw[r,I];exact m _ _ ⟨i+1,_,_,qZ,rfl,c,p.trans o⟩ (by simp;omega)
 ·obtain rfl:i=A.length:=qZ;clear m;rw[aC (az _)]at d|-;refine kf (v:=.bool false) (w' :=W) (by simp[go_sem]) ?_;rw[ij];simp[-Int.natCast_add,go_sem];refine y _ _ p ⟨λh=>⟨q,E,d.pa,?_⟩,λh=>?_⟩
  ·simpa [MF]using h
  ·have:=h.2.2.2;simpa [MF]using this
end Go.Proofs
