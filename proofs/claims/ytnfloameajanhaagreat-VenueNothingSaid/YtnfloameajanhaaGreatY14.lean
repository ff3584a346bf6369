/- Part of a proof. -/
import Derived.Test.YtnfloameajanhaaGreatY13
set_option linter.all false
namespace Go.Proofs
open Go Go.Vc
attribute [local congr] cR
variable {B:Bk}{x:Cm}{a l n k:Int}{L:List Od}{F:NP_}{p v q i:Nat}{o:Od}{r:Rp}{S:Ven}{sT sG s sl sA:Vt_}{W w w' :Wt_}{K:cG}
abbrev om:TypeId:=30
def ni(c:Cm):(cmC c).length=35:=by simp[cmC,dP]
def Ky(c:Cm):(cmC c).all (·.oneCell')=true:=by rw[cmC,gj,gj,xS];rfl
def ZV(c:Cm):(cmC c)[0]? =some (gB c.kind):=rfl
def cm1(c:Cm):(cmC c)[1]? =some (gU c.acct):=rfl
def cm2(c:Cm):(cmC c)[2]? =some (gU c.ct):=rfl
def cm3(c:Cm):(cmC c)[3]? =some (gQ c.num):=rfl
def cm4(c:Cm):(cmC c)[4]? =some (gI c.amt):=rfl
def RX(c:Cm)(i:Nat):(cmC c)[30+i]? =([.bool c.on,.bool c.buy,gB c.ty,gI c.price,gI c.qty]:LV_)[i]? :=by
 rw[cmC,cQ (by show 5<=30+i;omega),cQ (by rw[dP];simp;omega),dP];congr 1;simp;omega
def SJ(c:Cm):(cmC c)[30]? =some (.bool c.on):=RX c 0
def S4(c:Cm):(cmC c)[31]? =some (.bool c.buy):=RX c 1
def YA(c:Cm):(cmC c)[32]? =some (gB c.ty):=RX c 2
def TT(c:Cm):(cmC c)[33]? =some (gI c.price):=RX c 3
def TC(c:Cm):(cmC c)[34]? =some (gI c.qty):=RX c 4
def aCm:pY pQ om=true:=cU
def nCm:Tryz.prog.cellsOf om=34+1:=cU
abbrev iy(W:Wt_)(p:Nat)(c:Cm):Prop:=hC W p (cmC c).toArray om
def vI(c:Cm):Value:=.agg (cmC c).toArray
def uT(c:Cm)(w:Wt_):∃a,(Instr.box om (vI c)).run pQ w=.ok (pt w.heap.size 0) a/\iy a w.heap.size c/\M0 w a:=
 ⟨w.alloc (.cells (cmC c).toArray om),rfl,by show hp _ _=_;simp[go_sem],(de.refl _ w).alloc _⟩
def vm{c:Cm}(h:iy W p c):(fH om (pt p 0)).run pQ W=.ok (vI c) W:=gm aCm nCm (ni c) (At.all h)
section
variable{W:Wt_}{p:Nat}{c:Cm}
def pM(W:Wt_):(iF om (pt p 0) 1).run pQ W=.ok (pt p 1) W:=by simp[go_sem]
def tZ(W:Wt_):(iF om (pt p 0) 2).run pQ W=.ok (pt p 2) W:=by simp[go_sem]
def B7(W:Wt_):(iF om (pt p 0) 3).run pQ W=.ok (pt p 3) W:=by simp[go_sem]
def JB(W:Wt_):(iF om (pt p 0) 4).run pQ W=.ok (pt p 4) W:=by simp[go_sem]
def H6(W:Wt_):(iF om (pt p 0) 6).run pQ W=.ok (pt p 30) W:=by simp[go_sem]
def MG(W:Wt_):(iF om (pt p 0) 7).run pQ W=.ok (pt p 31) W:=by simp[go_sem]
def ay4(W:Wt_):(iF om (pt p 0) 8).run pQ W=.ok (pt p 32) W:=by simp[go_sem]
def DK(W:Wt_):(iF om (pt p 0) 9).run pQ W=.ok (pt p 33) W:=by simp[go_sem]
def yy(W:Wt_):(iF om (pt p 0) 10).run pQ W=.ok (pt p 34) W:=by simp[go_sem]
def rk(h:iy W p c):(iL 23 (pt p 1)).run pQ W=.ok (gU c.acct) W:=by simp[go_sem,h,cm1]
def sD(h:iy W p c):(iL 23 (pt p 2)).run pQ W=.ok (gU c.ct) W:=by simp[go_sem,h,cm2]
def BV(h:iy W p c):(iL 24 (pt p 3)).run pQ W=.ok (gQ c.num) W:=by simp[go_sem,h,cm3]
def Nx(h:iy W p c):(iL 2 (pt p 4)).run pQ W=.ok (gI c.amt) W:=by simp[go_sem,h,cm4]
def Jd(h:iy W p c):(iL 4 (pt p 30)).run pQ W=.ok (.bool c.on) W:=by simp[go_sem,h,SJ]
def Jr(h:iy W p c):(iL 4 (pt p 31)).run pQ W=.ok (.bool c.buy) W:=by simp[go_sem,h,S4]
def ac8(h:iy W p c):(iL 28 (pt p 32)).run pQ W=.ok (gB c.ty) W:=by simp[go_sem,h,YA]
def yG(h:iy W p c):(iL 2 (pt p 33)).run pQ W=.ok (gI c.price) W:=by simp[go_sem,h,TT]
def um(h:iy W p c):(iL 2 (pt p 34)).run pQ W=.ok (gI c.qty) W:=by simp[go_sem,h,TC]
end
def AK(w:Wt_)(v:Nat)(F:NP_)(x:Int×Rp×Ven)(K:cG):Prop:=
 ∀sT sG sA F' w',lw w' v F' x.2.2->vG w' sT sG sA x.2.1->de F w w' ->(∀y,F' y->F y\/w.heap.size<=y)->(∀y,cK sT y\/cK sG y\/cK sA y->w.heap.size<=y/\¬F' y)->
  K (.tuple #[ud x.2.1 sT sG sA,gI x.1]) w'
def AK.tell{F' :NP_}{x:Int×Rp×Ven}(h:AK w v F x K){e:Int}{r:Rp}{T:Ven}{sT sG sA:Vt_}{w' :Wt_}(i:x=(e,r,T))(d:lw w' v F' T)(a:vG w' sT sG sA r)(g:de F w w')(b:∀y,F' y->F y\/w.heap.size<=y)
  (f:∀y,cK sT y\/cK sG y\/cK sA y->w.heap.size<=y/\¬F' y):K (.tuple #[ud r sT sG sA,gI e]) w' :=by
 have:=h sT sG sA F' w';rw[i]at this;exact this d a g b f
def AK.nil{F' :NP_}{x:Int×Rp×Ven}(h:AK w v F x K){e:Int}{T:Ven}{w' :Wt_}(g:x=(e,zRp,T))(d:lw w' v F' T)(f:de F w w')(b:∀y,F' y->F y\/w.heap.size<=y):K (.tuple #[ud zRp dv dv dv,gI e]) w' :=
 h.tell g d (vG.nil _ 0) f b λy a=>by rcases a with a|a|a<;>cases a
def xz{mb:Nat}{A:List (Int×Nat)}(h:fB iI jY W mb A){n:Int}{b:Nat}(a:lk A n=some b):(ji 35 (.map (some mb)) (gU n) false).run pQ W=.ok (jY b) W:=by
 have:=rA (ok:=false) (x:=n) Dc rP XM (.inr ⟨mb,rfl,h⟩:DR iI jY W (.map (some mb)) A);rw[a]at this;exact this
def uF{md:Nat}{D:List (Int×Value)}(h:fB iI yh W md D)(n:Int):(ji 36 (.map (some md)) (gU n) false).run pQ W=.ok (rz D n) W:=by
 have:=rA (ok:=false) (x:=n) xn rP O9 (.inr ⟨md,rfl,h⟩:DR iI yh W (.map (some md)) D);unfold rz;cases a:lk D n with
 |none=>rw[a]at this;exact this
 |some x=>rw[a]at this;exact this
def Cl(W:Wt_):∃a,(iA 230 true (.tuple #[])).run pQ W=.ok (pt W.heap.size 0) a/\hC a W.heap.size (uy dv dv 0 0) 230/\M0 W a:=
 ⟨W.alloc (.cells (uy dv dv 0 0) 230),by simp[go_sem,uy,dv],by simp[go_sem],(de.refl _ W).alloc _⟩
def Cr{a b:Vt_}{f:Int}(sT sG:Vt_)(d l' :Int)(h:hC W q (uy a b f l) 230)(j:∃a n c,sT=.slice a n c)(o:∃a n c,sG=.slice a n c):
  ∃e,(iS 230 (pt q 0) (.agg (uy sT sG d l'))).run pQ W=.ok () e/\hC e q (uy sT sG d l') 230/\de (λb=>b=q) W e:=by
 obtain⟨s,r,k,rfl⟩:=j;obtain⟨g,m,i,rfl⟩:=o;unfold uy at h;exact⟨(((W.setCell ⟨q,0,none⟩ (.slice s r k)).setCell ⟨q,1,none⟩ (.slice g m i)).setCell ⟨q,2,none⟩ (gI d)).setCell ⟨q,3,none⟩ (gI l'),by simp[go_sem,h,uy],by simp[go_sem,h,uy],((((de.refl (λx=>x=q) W).sc).sc).sc).sc⟩
def QG{f:Int}(h:hC W q (uy sT sG f l) 230):(iL 230 (pt q 0)).run pQ W=.ok (.agg (uy sT sG f l)) W:=by
 unfold uy at h|-;simp[go_sem,h]
section
variable{w:Wt_}{K:cG}{v c l mb md:Nat}{A:List (Int×Nat)}{D:List (Int×Value)}{fp:Pt->Nat->Prop}{S:Ven}
def EI{x:Cm}(h:ik w v c l mb md A D fp S)(k:S.Ok)(hx:x.Fit)
  (hK:∀w',ik w' v c l mb md A D fp (S.order x).2.2->de (fp .v) w w' ->K (.tuple #[oG (S.order x).2.1,gI (S.order x).1]) w'):Ca pQ 144 #[eY v,vI x] w K:=by
 apply am0;obtain⟨w1,e1,M,m1⟩:=uT x w;apply cI e1;obtain⟨p,hp0⟩:=dW w.heap.size;rw[<-hp0]at M|-;obtain⟨w2,e2,b2,m2⟩:=kD w1;apply cI e2;obtain⟨q,Q⟩:=dW w1.heap.size;rw[<-Q]at b2|-;have M2:=m1.trans m2;have h2:=h.md0 M2;have i:=m2.hpk M id;have hpq:p<q:=by have:=cB M;omega
 refine cI (pM _) (cI (rk i) ?_);refine cI (tZ _) (cI (sD i) ?_);refine cI (MG _) (cI (Jr i) ?_);refine cI (DK _) (cI (yG i) ?_);refine cI (yy _) (cI (um i) ?_);apply cx (oG pC) w2 (by simp[go_sem,oG,fL,pC]);obtain⟨f1,f2,f3,f4,f5,f6,f7,f8,f9⟩:=hx;refine Ix h2 k f8 f9 ⟨by show(0:Int)<=0;omega,by show(0:Int)<=1000000;omega⟩ λw3 u=>?_;obtain⟨E,hE⟩:=dW (S.pass x.acct x.ct x.buy x.price x.qty pC);have d:S.order x=if E≠0 then(E,pC,S)else if maxNum<S.next then(6,x.od 0,S)else(0,x.od S.next,{S with next:=S.next+1}):=by unfold Ven.order;rw[<-hE]
 rw[<-hE];have I:=h2.md0 u;have c3:=u.hpk i id;have F:=u.hpk b2 id;have M3:=M2.trans u
 have fin:∀e o T W,S.order x=(e,o,T)->ik W v c l mb md A D fp T->de (fp .v) w W->K (.tuple #[oG o,gI e]) W:=λe o T W j a b=>by
  have hk:=hK W;rw[j]at hk;exact hk a b
 have g:¬fp .v p/\¬fp .v q:=by
  have hv:=h.lt h.self;constructor
  ·intro J;have:=(h.fv p).1 J;omega
  ·intro J;have:=(h.fv q).1 J;omega
 have r:∀{W W' :Wt_} {T:Ven},ik W v c l mb md A D fp T->de (λb=>b=q) W W' ->ik W' v c l mb md A D fp T:=λa m=>a.mod m λpt y hy e=>by
  have:=h.lt hy;have:=m1.size;omega
 by_cases j:E≠0
 ·rw[bZ j]at d;refine qSt1 j ?_;apply cI (lM (o:=pC) (At.all F));obtain⟨U,e4,b4,t⟩:=jK (o' :=pC) F;refine ir e4 (dp (lM (o:=pC) (At.all b4)) ?_);exact fin E pC S U d (r I t) ((M3.to).on t λb hb=>.inr (by grind))
 rw[aZ j]at d;have C:E=0:=by simpa using j
 refine qSf1 C ?_
 have f:∀n e T W,S.order x=(e,x.od n,T)->ik W v c l mb md A D fp T->de (fp .v) w3 W->
   (rv pQ (iF om (pt p 0) 1) W λL w41=>rv pQ (iL 23 L) w41 λv42 B=>rv pQ (iF om (pt p 0) 7) B λX w45=>rv pQ (iL 4 X) w45 λG w47=>
    rv pQ (iF om (pt p 0) 9) w47 λZ w49=>rv pQ (iL 2 Z) w49 λV w51=>rv pQ (iF om (pt p 0) 10) w51 λR N=>rv pQ (iL 2 R) N λH O=>
    rv pQ (Instr.build pz #[(0,gQ n),(1,v42),(2,G),(3,V),(4,H)]) O λv56 P=>ru pQ (iS pz (pt q 0) v56) P λs=>uc pQ (iL pz (pt q 0)) s λv59=>K (.tuple #[v59,gI e]) s):=λn e T W ho a m=>by
  have z:=m.hpk c3 g.1;have b5:=m.hpk F g.2;refine cI (pM _) (cI (rk z) ?_);refine cI (MG _) (cI (Jr z) ?_);refine cI (DK _) (cI (yG z) ?_);refine cI (yy _) (cI (um z) ?_);apply cx (oG (x.od n)) W (by simp[go_sem,oG,fL,Cm.od]);obtain⟨w6,e6,b6,m6⟩:=jK (o' :=x.od n) b5;refine ir e6 (dp (lM (o:=x.od n) (At.all b6)) ?_);exact fin e (x.od n) T w6 ho (r a m6) (((M3.to).trans m).on m6 λb hb=>.inr (by grind))
 refine JM I k.next (λY=>?_) λhle U h4 t=>?_
 ·refine qS0 ?_;refine qS0 ?_;rw[bZ Y]at d;exact f 0 6 S w3 d I lX
 ·refine qS0 ?_;refine qS0 ?_;rw[aZ qZ]at d;exact f S.next 0 _ U d h4 t
end
def NE(h:S.Ok){c:Cm}(i:c.Fit)(a:c.acct≠0)(f:(S.order c).1=0)(d:(gD (S.bk c.ct) (c.od S.next) c.ty).1=0):({S with bk:=upd S.bk c.ct (gD (S.bk c.ct) (c.od S.next) c.ty).2.1,next:=S.next+1}:Ven).Ok:=by
 obtain⟨hp,j,k⟩:=order_ok a f;obtain⟨e,-⟩:=place_0 d;have b:=h.next
 have g:=come_addBk h.ord (n:=c.ct) (o:=c.od S.next) (rests:=decide (c.ty=1\/c.ty=4)) (nx:=S.next+1) hp.alive (od_may a qZ hp.price hp.qty) (od_fit i ⟨qZ,by unfold maxNum at j;omega⟩)
  (by show S.next<_;omega) hp.stands (fresh_next h.ord) qZ
 rw[e];exact⟨h.cal,h.led,g,⟨by grind,by grind⟩,h.fnd⟩
def yO{l:List Ct}(h:ex l n=0):(eR l n).isSome=true:=by
 obtain⟨k,a,-⟩:=alive_get h;rw[a];rfl
def NW(e:∀d,(B d).length<=100):(gD B o k).2.2.trades.length<=100:=by
 have a:∀L left,(iV o left L).2.2.1.length<=L.length:=by
  intro L;induction L with
  |nil=>intro left;simp[iV]
  |cons b r f=>
   intro left;unfold iV;split
   ·simp
   ·split
    ·grind
    ·split
     ·simp
     ·grind
 unfold gD;split
 ·simp
 ·split
  ·simp
  ·split
   ·simp
   ·split
    ·simp
    ·split
     ·simp
     ·have h:=a (B !o.buy) o.left;have g:=e !o.buy;unfold ko;simp only;split<;>(simp only;omega)
def MO(h:lw w v F S)(Q:S.Ok)(hx:x.Fit)(ha:x.acct≠0)(hK:AK w v F (S.place x) K):Ca pQ 92 #[eY v,vI x] w K:=by
 obtain⟨c,l,mb,md,A,D,fp,hr,hF⟩:=h;apply az2;obtain⟨w1,e1,b1,m1⟩:=uT x w;apply cI e1;obtain⟨p,hp0⟩:=dW w.heap.size;rw[<-hp0]at b1|-;obtain⟨w2,e2,b2,m2⟩:=qy w1;apply cI e2;obtain⟨q,hq0⟩:=dW w1.heap.size;rw[<-hq0]at b2|-;have hpq:p<q:=by have:=cB b1;omega
 have M2:=m1.trans m2;have c2:=m2.hpk b1 id;have hFl:∀y,F y->y<p:=λy f=>by obtain⟨pt,hp⟩:=(hF y).1 f;have:=hr.lt hp;omega
 have j:∀pt y,fp pt y->F y:=λpt y f=>(hF y).2 ⟨_,f⟩;apply iW (vm c2);refine EI (hr.md0 M2) Q hx λw3 h3 m3=>?_;obtain⟨O,hO⟩:=dW (S.order x);have M3:=(M2.to).on m3 λy f=>.inl (j _ y f);have c3:=m3.hpk c2 λU=>by grind
 have b3:=m3.hpk b2 λU=>by grind
 rw[<-hO]at h3|-;refine qS0 ?_;refine qS0 ?_;obtain⟨w4,e4,b4,m4⟩:=kD w3;apply cI e4;obtain⟨q2,hq2⟩:∃q,q=w3.heap.size:=⟨_,rfl⟩
 rw[<-hq2]at b4|-;obtain⟨M,e5,b5,m5⟩:=jK (o' :=O.2.1) b4;apply ir e5;have hq2q:q<q2:=by have:=cB b3;omega
 have P:=m4.on m5 λb hb=>gz;have M5:=M3.trans (P.to (G:=F));have h5:=h3.md0 P;have c5:=P.hpk c3 id;have r5:=P.hpk b3 id
 have i:S.place x=if O.1≠0 then(O.1,zRp,O.2.2)else
   (if(gD (O.2.2.bk x.ct) O.2.1 x.ty).1≠0 then((gD (O.2.2.bk x.ct) O.2.1 x.ty).1,zRp,{O.2.2 with bk:=upd O.2.2.bk x.ct (gD (O.2.2.bk x.ct) O.2.1 x.ty).2.1})
    else({O.2.2 with bk:=upd O.2.2.bk x.ct (gD (O.2.2.bk x.ct) O.2.1 x.ty).2.1}:Ven).traded x.ct O.2.1 (gD (O.2.2.bk x.ct) O.2.1 x.ty).2.2):=by
  unfold Ven.place;rw[<-hO]
 have bad:∀e T fp' A' W,S.place x=(e,zRp,T)->ik W v c l mb md A' D fp' T->hC W q (mC zRp dv dv dv).toArray lx->de F w W->(∀pt y,fp' pt y->(F y\/w.heap.size<=y)/\y≠q)->
   rv pQ (iL lx (pt q 0)) W λv17 w18=>ru pQ (iS lx (pt q 0) v17) w18 λw19=>uc pQ (iL lx (pt q 0)) w19 λv20=>K (.tuple #[v20,gI e]) w19:=λe T fp' A' W he a b m hn=>by
  apply cI (lB b);obtain⟨w9,e9,b9,s⟩:=pl (r:=zRp) b rfl ⟨gJ,gJ,gJ⟩;refine ir e9 (dp (lB b9) ?_);refine hK.nil he (a.mod s λpt y f e=>(hn pt y f).2 e).q (m.on s λy f=>.inr (by grind)) λy ⟨pt,f⟩=>(hn pt y f).1
 have hq0F:∀pt y,fp pt y->(F y\/w.heap.size<=y)/\y≠q:=λpt y f=>⟨.inl (j _ _ f),by grind⟩
 by_cases he:O.1≠0
 ·rw[bZ he]at i;refine qSt1 he ?_;exact bad O.1 O.2.2 fp A M i h5 r5 M5 hq0F
 rw[aZ he]at i;have he0:O.1=0:=by simpa using he
 refine qSf1 he0 ?_;have Z:(S.order x).1=0:=by grind
 obtain⟨I,hnx,hord⟩:=order_ok ha Z;rw[hord]at hO;obtain⟨o,hoo⟩:=dW (x.od S.next);obtain⟨S1,L⟩:=dW ({S with next:=S.next+1});rw[<-hoo,<-L]at hO;rw[hO]at i h5 b5;simp only at i h5 b5;have hof:o.Fit:=by rw[hoo];exact od_fit hx ⟨by have:=Q.next;omega,by unfold maxNum at hnx;omega⟩
 obtain⟨X,hX⟩:=dW (gD (S1.bk x.ct) o x.ty);have k:S1.bk=S.bk:=by rw[L]
 have hXl:X.2.2.trades.length<=100:=by rw[hX];exact NW λd=>by rw[k];exact(Q.ord.side _ d).1
 rw[<-hX]at i;have hcal:S1.cal=S.cal:=by rw[L]
 refine dK.at (λst W=>∃r E H G,st=(.pointer (some ⟨r,0,none⟩),gI X.1,())/\hC W r (uy E H X.2.2.filled X.2.2.left) 230/\ik W v c l mb md A D (mj fp (.bk x.ct) G) {S1 with bk:=upd S1.bk x.ct X.2.1}/\Ji W E H X.2.2.trades X.2.2.gone/\
   de F w W/\(∀y,G y->(F y\/M.heap.size<=y))/\(∀y,cK E y\/cK H y->M.heap.size<=y/\¬G y)/\iy W p x/\hC W q (mC zRp dv dv dv).toArray lx/\hC W q2 (fL o).toArray pz/\M.heap.size<=r) ?_ ?_
 ·have C:M0 M M.drew:=mP;have hszd:M.drew.heap.size=M.heap.size:=rfl;have h6:=h5.md0 C;have c6:=C.hpk c5 id;have r6:=C.hpk r5 id;have o6:=C.hpk b5 id;have M6:=M5.trans (C.to (G:=F));rw[<-hszd]
  try dsimp only
  generalize M.drew=w6 at C h6 c6 r6 o6 M6|-;simp only[eY,dr];obtain⟨b,hb,hB⟩:=Wm h6 (n:=x.ct) (by rw[hcal];exact yO I.alive);have t:∀y,fp (.bk x.ct) y->F y:=λy f=>j _ y f;refine dw (jk 2 qZ) (dp (IL _ h6.blk) ?_);refine dw tZ (dp (sD c6) ?_);apply li (xz h6.mbk hb);apply dp (lM (o:=o) (At.all o6));refine dw ay4 (dp (ac8 c6) ?_);have hty:=hx.2.2.2.2.2.2.1;have hpl6:=cB c6;have hql6:=cB r6;have hq2l6:=cB o6;refine⟨?_,?_⟩
  ·refine EP hB hof hty λG E H w7 q7 p7 z n7 s7=>?_;rw[<-hX]at q7 p7|-;refine qP0 ?_;refine qP0 ?_;obtain⟨w8,e8,b8,N⟩:=Cl w7;apply cI e8;obtain⟨r,hr0⟩:=dW w7.heap.size;rw[<-hr0]at b8|-;obtain⟨ta,tc,hsT,-⟩:=p7.tr.isSl;obtain⟨ga,gc,hsG,-⟩:=p7.go.isSl;obtain⟨w9,e9,b9,s⟩:=Cr E H X.2.2.filled X.2.2.left b8 ⟨_,_,_,hsT⟩ ⟨_,_,_,hsG⟩;apply ir e9;have B:=N.on s λb hb=>gz;have h7:=h6.setBk hb z q7 n7;have hs7:=z.size;refine⟨r,E,H,G,rfl,b9,h7.md0 B,p7.mod B eQ eQ,(M6.on z λy f=>.inl (t y f)).trans (B.to),λy f=>(n7 y f).imp (t y) id,s7,?_,?_,?_,qZ⟩
   ·exact B.hpk (z.hpk c6 λU=>by grind) id
   ·exact B.hpk (z.hpk r6 λU=>by grind) id
   ·exact B.hpk (z.hpk o6 λU=>by grind) id
  ·obtain⟨w7,e7,b7,z⟩:=Cl w6;apply cI e7;obtain⟨r,hr0⟩:=dW w6.heap.size;rw[<-hr0]at b7|-;have h7:=h6.md0 z;have c7:=z.hpk c6 id;have o7:=z.hpk o6 id;have r7:=z.hpk r6 id;refine⟨ac8 c7,lM (o:=o) (At.all o7),xz h7.mbk hb,sD c7,IL _ h7.blk,?_⟩;have hs67:=z.size;refine EP (h7.bk x.ct b hb) hof hty λG E H w8 q8 V N n8 s8=>?_;rw[<-hX]at q8 V|-;refine qP0 ?_;refine qP0 ?_;obtain⟨ta,tc,hsT,-⟩:=V.tr.isSl;obtain⟨ga,gc,hsG,-⟩:=V.go.isSl;have hrF:¬fp (.bk x.ct) r:=λU=>by grind
   obtain⟨w9,e9,b9,s⟩:=Cr E H X.2.2.filled X.2.2.left (N.hpk b7 hrF) ⟨_,_,_,hsT⟩ ⟨_,_,_,hsG⟩;apply ir e9;have h8:=h7.setBk hb N q8 n8;have hrl:=cB b7;have hsr:∀y,cK E y\/cK H y->y≠r:=λy f=>by grind
   have hGr:∀pt y,mj fp (.bk x.ct) G pt y->y≠r:=λpt y f=>by
    by_cases g:pt=.bk x.ct
    ·subst g;rw[ip]at f;rcases n8 y f with h' |h'
     ·grind
     ·omega
    ·rw[eH g]at f;have:=hFl y (j _ _ f);omega
   refine⟨r,E,H,G,rfl,b9,h8.mod s λpt y f e=>hGr pt y f e,V.mod s (λy f e=>hsr y (.inl f) e) λy f e=>hsr y (.inr f) e,((M6.trans (z.to (G:=F))).on N λy f=>.inl (t y f)).on s λy f=>.inr (by grind),λy f=>(n8 y f).imp (t y) (λh' =>qZ),λy f=>⟨by grind,(s8 y f).2⟩,?_,?_,?_,qZ⟩
   ·exact s.hpk (N.hpk c7 λU=>by grind) qZ
   ·exact s.hpk (N.hpk r7 λU=>by grind) qZ
   ·exact s.hpk (N.hpk o7 λU=>by grind) qZ
 rintro _ W ⟨r,E,H,G,rfl,i1,i2,i3,i4,i5,i6,i7,i8,i9,i10⟩;unfold WD;intro _;have hM5s:=M5.size;have hq5:=cB b5
 have hup:∀pt y,mj fp (.bk x.ct) G pt y->(F y\/M.heap.size<=y):=λpt y f=>by
  by_cases g:pt=.bk x.ct
  ·subst g;rw[ip]at f;exact i5 y f
  ·rw[eH g]at f;exact .inl (j _ _ f)
 have u:∀pt y,mj fp (.bk x.ct) G pt y->(F y\/w.heap.size<=y)/\y≠q:=λpt y f=>by
  rcases hup pt y f with h' |h'
  ·grind
  ·grind
 by_cases R:X.1≠0
 ·rw[bZ R]at i;refine qSt1 R ?_;exact bad X.1 _ _ A W i i2 i8 i4 u
 rw[aZ R]at i;have hX0:X.1=0:=by simpa using R
 refine qSf1 hX0 ?_;refine cI (tZ _) (cI (sD i7) ?_);apply cI (lM (o:=o) (At.all i9));apply cI (QG i1);obtain⟨S2,hS2⟩:=dW ({S1 with bk:=upd S1.bk x.ct X.2.1});rw[<-hS2]at i2 i
 have hok2:S2.Ok:=by
  have:=NE Q hx ha Z (by grind);rw[hS2,L];rw[<-hoo,<-k,<-hX,k]at this;exact this
 have hal2:ex S2.cal.l x.ct=0:=by rw[hS2,L];exact I.alive
 have J:∀y,cK E y\/cK H y->¬dY (mj fp (.bk x.ct) G) y:=λy f ⟨pt,g⟩=>by
  have h6' :=i6 y f;by_cases hp:pt=.bk x.ct
  ·subst hp;rw[ip]at g;exact h6'.2 g
  ·rw[eH hp]at g;have:=hFl y (j _ _ g);omega
 refine Df (F:=dY (mj fp (.bk x.ct) G)) i2.q hok2 hal2 i3 J qZ λsT' sG' w8 v8 V N n8=>?_;obtain⟨Y,hY⟩:=dW (S2.traded x.ct o X.2.2);rw[<-hY]at v8 V i|-;have hqn:¬dY (mj fp (.bk x.ct) G) q:=λ⟨pt,g⟩=>(u pt q g).2 rfl;have k8:=N.hpk i8 hqn;refine qS0 ?_;refine qS0 ?_;obtain⟨s1,s2,s3⟩:=V.isSl;obtain⟨w9,e9,b9,s⟩:=pl (r:=Y.2.1) k8 rfl ⟨s1,s2,s3⟩;refine ir e9 (dp (lB b9) ?_);have hnew:∀y,cK sT' y\/cK sG' y->M.heap.size<=y/\¬dY (mj fp (.bk x.ct) G) y:=λy f=>⟨(i6 y (n8 y f)).1,J y (n8 y f)⟩
 refine hK.tell (F' :=dY (mj fp (.bk x.ct) G)) (T:=Y.2.2) (r:=Y.2.1) (e:=Y.1) i (v8.mod s λy f e=>hqn (e▸f)) (V.mod s λy f e=>?_) ((i4.on N λy ⟨pt,f⟩=>(u pt y f).1).on s λy f=>.inr (by grind)) (λy ⟨pt,f⟩=>(u pt y f).1) λy f=>?_
 ·rcases f with f|f|f
  ·grind
  ·grind
  ·cases f
 ·rcases f with f|f|f
  ·grind
  ·grind
  ·cases f
def ZP(f:∀a b,b=w.heap.size->qR a (.slice (some ⟨b,0,none⟩) 1 1) [o]->M0 w a->K (.slice (some ⟨b,0,none⟩) 1 1) a):rx pQ (jQ Av 1 [(0,oG o)]) w K:=by
 refine oJ [oG o] mH (eO Oh) rfl rfl (by intro v e;rw[eK.1 e];rfl) qZ ?_;have d:(([oG o]:LV_).flatMap (·.cells.toList)).toArray=(fL o).toArray:=rfl;rw[d];exact f _ _ rfl ⟨rfl,.inr ⟨_,1,[],rfl,cJ _,by rw[gy,bZ rfl];simp,by simp,by simp⟩⟩ lm
def ai1{s1:Vt_}(h:qR w s L)(g:qR w s1 [o])(k:L.length<=100000)
  (i:∀a d,qR d a (L++[o])->de (cK s) w d->(∀b,cK a b->cK s b\/w.heap.size<=b)->K a d):rx pQ (eg #[Av,Av] Av [s,s1]) w K:=by
 refine jR mH mH (eO Oh) h g.rd (by rw[MH pD]) (by grind) λa d e j f=>i a d ?_ j f;rw[<-eJ]at e;show jo d pz 5 a (L++[o]).length _;rw[cD];exact e
def rp0(w:Wt_)(n l:Int):vG w dv dv dv ⟨0,n,0,l,[],[],[]⟩:=⟨jo.nil _ _ _,jo.nil _ _ _,jo.nil _ _ _,λx a=>(by cases a),λx a=>(by cases a),λx a=>(by cases a)⟩
def NI(h:S.Ok){c:Cm}(f:c.Fit)(a:c.acct≠0)(d:(S.order c).1=0)(j:¬50<=(S.bd c.ct).length):({S with bd:=upd S.bd c.ct (S.bd c.ct++[c.od S.next]),next:=S.next+1}:Ven).Ok:=by
 obtain⟨hp,g,i⟩:=order_ok a d;have b:=h.next
 have e:=h.ord.addBd (n:=c.ct) (x:=c.od S.next) (nx:=S.next+1) hp.alive (od_may a qZ hp.price hp.qty) (od_fit f ⟨qZ,by unfold maxNum at g;omega⟩)
  (by show S.next<_;omega) hp.stands (fresh_next h.ord) qZ qZ
 exact⟨h.cal,h.led,e,⟨by grind,by grind⟩,h.fnd⟩
def TI(h:lw w v F S)(Q:S.Ok)(hx:x.Fit)(ha:x.acct≠0)(hK:AK w v F (S.bid x) K):Ca pQ 93 #[eY v,vI x] w K:=by
 obtain⟨c,l,mb,md,A,D,fp,hr,hF⟩:=h;apply aA6;obtain⟨w1,e1,b1,m1⟩:=uT x w;apply cI e1;obtain⟨p,hp0⟩:=dW w.heap.size;rw[<-hp0]at b1|-;obtain⟨w2,e2,b2,m2⟩:=qy w1;apply cI e2;obtain⟨q,hq0⟩:=dW w1.heap.size;rw[<-hq0]at b2|-;have hpq:p<q:=by have:=cB b1;omega
 have M2:=m1.trans m2;have c2:iy w2 p x:=m2.hpk b1 id;have hFl:∀y,F y->y<p:=λy d=>by obtain⟨pt,hp⟩:=(hF y).1 d;have:=hr.lt hp;omega
 have j:∀pt y,fp pt y->F y:=λpt y d=>(hF y).2 ⟨_,d⟩;apply iW (vm c2);refine EI (hr.md0 M2) Q hx λw3 h3 m3=>?_;obtain⟨O,hO⟩:=dW (S.order x);have M3:de F w w3:=(M2.to).on m3 λy d=>.inl (j _ y d);have c3:iy w3 p x:=m3.hpk c2 λhc=>by grind
 have b3:=m3.hpk b2 λhc=>by grind
 rw[<-hO]at h3|-;refine qS0 ?_;refine qS0 ?_;obtain⟨w4,e4,b4,m4⟩:=kD w3;apply cI e4;obtain⟨q2,hq2⟩:∃q,q=w3.heap.size:=⟨_,rfl⟩
 rw[<-hq2]at b4|-;obtain⟨J,e5,b5,m5⟩:=jK (o' :=O.2.1) b4;apply ir e5;have hq2q:q<q2:=by have:=cB b3;omega
 have B:M0 w3 J:=m4.on m5 λb hb=>gz;have M5:=M3.trans (B.to (G:=F));have h5:=h3.md0 B;have c5:iy J p x:=B.hpk c3 id;have r5:=B.hpk b3 id;obtain⟨L,hL⟩:=dW (O.2.2.bd x.ct)
 have i:S.bid x=if O.1≠0 then(O.1,zRp,O.2.2)else
   (if 50<=L.length then(9,zRp,O.2.2)
    else(({O.2.2 with bd:=upd O.2.2.bd x.ct (L++[O.2.1])}:Ven).bears x.acct,⟨0,O.2.1.num,0,O.2.1.left,[],[],[]⟩,{O.2.2 with bd:=upd O.2.2.bd x.ct (L++[O.2.1])})):=by
  unfold Ven.bid;rw[<-hO,hL]
 have I:∀(e:Int) (W:Wt_),S.bid x=(e,zRp,O.2.2)->ik W v c l mb md A D fp O.2.2->hC W q (mC zRp dv dv dv).toArray lx->de F w W->
   rv pQ (iL lx (pt q 0)) W λv17 w18=>ru pQ (iS lx (pt q 0) v17) w18 λw19=>uc pQ (iL lx (pt q 0)) w19 λv20=>K (.tuple #[v20,gI e]) w19:=λe W he a b m=>by
  apply cI (lB b);obtain⟨w9,e9,b9,m9⟩:=pl (r:=zRp) b rfl ⟨gJ,gJ,gJ⟩;refine ir e9 (dp (lB b9) ?_);refine hK.nil he (a.mod m9 λpt y d e=>by grind).q (m.on m9 λy d=>.inr (by grind)) λy ⟨pt,d⟩=>.inl (j _ _ d)
 by_cases he:O.1≠0
 ·rw[bZ he]at i;refine qSt1 he ?_;exact I O.1 J i h5 r5 M5
 rw[aZ he]at i;have he0:O.1=0:=by simpa using he
 refine qSf1 he0 ?_;have P:(S.order x).1=0:=by grind
 obtain⟨V,hnx,hord⟩:=order_ok ha P;obtain⟨o,hoo⟩:=dW (x.od S.next);obtain⟨S1,hS1⟩:=dW ({S with next:=S.next+1}:Ven);have hO' :O=(0,o,S1):=by grind
 have U:S1.bd=S.bd:=by rw[hS1]
 have hcal:S1.cal=S.cal:=by rw[hS1]
 rw[hO']at i h5 b5 hL I;simp only at i h5 b5 hL I;have hLb:L=S.bd x.ct:=by rw[hL,U]
 have hLl:L.length<=50:=by rw[hLb];exact Q.ord.bdl _
 have t:M0 J J.drew:=mP;have h6:=h5.md0 t;have c6:iy J.drew p x:=t.hpk c5 id;have r6:=t.hpk r5 id;have o6:=t.hpk b5 id;have M6:=M5.trans (t.to (G:=F));have hs6:J.heap.size<=J.drew.heap.size:=t.size
 try dsimp only
 generalize J.drew=R at t h6 c6 r6 o6 M6 hs6|-;simp only[eY,dr];have M:=h6.bd x.ct;rw[<-hL]at M;obtain⟨sa,sc,hsl,-⟩:=M.isSl;refine dw (jk 3 qZ) (dp (AJ _ h6.blk) ?_);refine dw tZ (dp (sD c6) ?_);apply li (uF h6.mbd x.ct);apply oy (gI (L.length:Int)) (by rw[hsl];simp[go_sem]);by_cases h50:50<=L.length
 ·rw[bZ h50]at i;apply dX (.bool true) (λ_=>by simp[go_sem];omega);rw[kx];exact I 9 R i h6 r6 M6
 rw[aZ h50]at i;apply dX (.bool false) (λ_=>by simp[go_sem];omega);rw[gP];have g:M0 R R.drew:=mP;have h7:=h6.md0 g;have c7:iy R.drew p x:=g.hpk c6 id;have r7:=g.hpk r6 id;have o7:=g.hpk o6 id;have M7:=M6.trans (g.to (G:=F));have hs7:R.heap.size<=R.drew.heap.size:=g.size
 try dsimp only
 generalize R.drew=w7 at g h7 c7 r7 o7 M7 hs7|-;refine dw (jk 3 qZ) (dp (AJ _ h7.blk) ?_);refine dw tZ (dp (sD c7) ?_);refine dw (jk 3 qZ) (dp (AJ _ h7.blk) ?_);refine dw tZ (dp (sD c7) ?_);apply li (uF h7.mbd x.ct);apply dp (lM (o:=o) (At.all o7));refine ZP λw8 b8 hb8 l8 m8=>?_;have k:=h7.md0 m8;have c8:iy w8 p x:=m8.hpk c7 id;refine⟨uF k.mbd x.ct,sD c8,AJ _ k.blk,sD c8,AJ _ k.blk,?_⟩;have N:=k.bd x.ct;rw[<-hL]at N;refine ai1 N l8 qZ λs' w9 o9 m9 n9=>?_;have u:de (fp (.bd x.ct)) w8 w9:=m9.mono λy _ d=>(k.fbd x.ct y).2 d;have hnF:∀{y},p<=y->¬fp (.bd x.ct) y:=λd hc=>by grind
 have c9:iy w9 p x:=u.hpk c8 (hnF qZ);have blk9:=u.hpk k.blk (k.ap (by simp) _ k.self);refine⟨sD c9,AJ _ blk9,?_⟩;have mbd9:=k.mbd.mod u (k.ap (by simp) _ ((k.fmd md).2 rfl));refine kV (enc:=iI) (ev:=yh) (x:=x.ct) (v:=s') xn rP mbd9 λs a10 m10 hs10=>?_;have hmdF:F md:=j _ _ ((k.fmd md).2 rfl);have Y:(eR S1.cal.l x.ct).isSome=true:=by rw[hcal];exact yO V.alive
 have E:=k.setBd (n:=x.ct) Y u o9 (λy d=>(n9 y d).imp (λX=>(k.fbd x.ct y).2 X) id) a10 m10;have kp:∀{y T cs},p<=y->hC w7 y cs T->hC s y cs T:=λd a=>m10.hpk (u.hpk (m8.hpk a id) (hnF d)) λe=>by grind
 have c10:iy s p x:=kp (cJ _) c7;have r10:=kp qZ r7;have o10:=kp qZ o7;have M10:de F w s:=((M7.trans (m8.to (G:=F))).trans (u.mono λy _ d=>j _ y d)).on m10 λy d=>.inl (by rw[d];exact hmdF)
 have z:∀pt y,mj fp (.bd x.ct) (cK s') pt y->(F y\/w8.heap.size<=y):=λpt y d=>by
  by_cases hpt:pt=.bd x.ct
  ·subst hpt;rw[ip]at d;exact(n9 y d).imp (λX=>j _ _ ((k.fbd x.ct y).2 X)) id
  ·rw[eH hpt]at d;exact .inl (j _ _ d)
 have hM8:=m8.size;have hq7:q<w7.heap.size:=cB r7;obtain⟨fp',hfp'⟩:=dW (mj fp (.bd x.ct) (cK s'));obtain⟨D',hD'⟩:=dW (put D x.ct s');rw[<-hfp']at E z;rw[<-hD']at E;obtain⟨S2,hS2⟩:=dW ({S1 with bd:=upd S1.bd x.ct (L++[o])}:Ven);rw[<-hS2]at E i
 have hok2:S2.Ok:=by
  have:=NI Q hx ha P (by grind);rw[hS2,hS1,hLb,hoo];exact this
 have f:M0 s s.drew:=mP;have Z:=E.md0 f;have c11:iy s.drew p x:=f.hpk c10 id;have r11:=f.hpk r10 id;have H:=f.hpk o10 id;have M11:=M10.trans (f.to (G:=F))
 try dsimp only
 generalize s.drew=w11 at f Z c11 r11 H M11|-;refine qPv0 (pt q2 0) (oy (gQ o.num) (by simp[go_sem,H,fL]) ?_);refine qPv0 (pt q2 4) (oy (gI o.left) (by simp[go_sem,H,fL]) ?_);apply dX (ud ⟨0,o.num,0,o.left,[],[],[]⟩ dv dv dv) (λ_=>by simp[go_sem,ud,dv]);refine dw pM (dp (rk c11) ?_);refine Au Z hok2 λw12 C=>?_;have o12:=C.hpk H id;refine⟨by simp[go_sem,o12,fL],by simp[go_sem,o12,fL],?_⟩;obtain⟨w13,e13,b13,m13⟩:=pl (r:=⟨0,o.num,0,o.left,[],[],[]⟩) (C.hpk r11 id) rfl ⟨gJ,gJ,gJ⟩;refine ir e13 (dp (lB b13) ?_);refine hK.tell i ((Z.md0 C).mod m13 λpt y d e=>?_).q (rp0 _ _ _) (((M11.trans (C.to (G:=F)))).on m13 λy d=>.inr (by grind)) (λy ⟨pt,d⟩=>(z pt y d).imp id λX=>qZ) λy d=>by rcases d with d|d|d<;>cases d
 rcases z pt y d with X|X
 ·have:=hFl y X;omega
 ·omega
def vj:n∈S.nums↔(eR S.cal.l n).isSome=true:=by
 unfold Ven.nums eR;rw[cF,List.find?_isSome];constructor
 ·grind
 ·grind
def MR(h:vg S){a num n:Int}{o:Od}(u:n∈S.nums)(b:findIn S.bk a num n=some (o,n)):S.find a num=some (o,n):=by
 have s:(S.find a num).isSome=true:=by
  unfold Ven.find;rw[List.findSome?_isSome_iff];exact⟨n,u,by rw[b];rfl⟩
 obtain⟨⟨t,g⟩,k⟩:=kY.1 s;obtain⟨z,y,r,d,p,q⟩:=find_spec k
 have e:∃j,(S.bk n).find num=some (o,j):=by
  unfold findIn at b;cases i:(S.bk n).find num with
  |none=>rw[i]at b;cases b
  |some x=>
   rw[i]at b;simp only at b;split at b
   ·grind
   ·cases b
 obtain⟨j,e⟩:=e;have m:=find_mem e;have f:n=g:=h.apart n g o t (rC m.1) (rC p) (by rw[m.2,r]);subst f;rw[q]at e;simp only[jr,ou]at e;rw[k,e.1]
def wy{α:Type}{R:List α}{p x:α}(h:R[i]? =some p)(b:x∈R):x=p\/x∈R.eraseIdx i:=by
 have:=(oY h).mem_iff (a:=x);rw[this]at b;exact cH.1 b
section
variable{w:Wt_}{K:cG}{v c l mb md:Nat}{A:List (Int×Nat)}{D:List (Int×Value)}{fp:Pt->Nat->Prop}{S:Ven}
def bkO(B:Option (Od×Bool)):Od:=match B with|none=>pC|some (o,_)=>o
def bkE(B:Option (Od×Bool)):Int:=match B with|none=>7|some _=>0
def fiB(a n:Int)(B:Option (Od×Bool)):Option (Od×Int):=match B with|some (o,_)=>if o.acct=a then some (o,n)else none|none=>none
def N4{w:Wt_}{K:cG}{b:Nat}{F:NP_}{B:Bk}{n:Int}(h:kK w b F B)
  (d:∀a,M0 w a->K (.tuple #[oG (bkO (B.find n)),gI (bkE (B.find n))]) a):Ca pQ 168 #[jY b,gQ n] w K:=MY h d
def TY(x:Option (Od×Int)):Od:=match x with|some y=>y.1|none=>pC
def Nb(x:Option (Od×Int)):Int:=match x with|some y=>y.2|none=>0
def HO{a num:Int}(h:ik w v c l mb md A D fp S)(L:vg S)
  (hK:∀w',M0 w w' ->K (.tuple #[oG (TY (S.find a num)),gU (Nb (S.find a num))]) w'):Ca pQ 136 #[eY v,gU a,gQ num] w K:=by
 apply Z3;obtain⟨w1,e1,O,E⟩:=kD w;apply cI e1;obtain⟨q,X⟩:=dW w.heap.size;rw[<-X]at O|-;simp only[eY,dr];have h1:=h.md0 E;refine cI (jk 2 qZ _) (cI (IL _ h1.blk) ?_);refine sw Dc h1.mbk λw2 x m2=>?_;obtain⟨Y,U⟩:=dW w1.heap.size;rw[<-U]at x|-;have M2:=E.trans m2;have b2:=m2.hpk O id;have hqit:q<Y:=by have:=cB O;omega
 have hA:=h.mbk.1
 refine eS (λst W=>∃R:List (Int×Nat),st=(gU 0,())/\nD iI jY W Y mb R/\M0 w W/\hC W q (fL pC).toArray pz/\(∀p∈R,p∈A)/\∀p∈A,p∈R\/findIn S.bk a num p.1=none)
  (λ_ W=>rm Y mb W) ⟨A,rfl,x,M2,b2,λ_ h=>h,λ_ h=>.inl h⟩ ?_
 rintro _ W ⟨R,rfl,r1,r2,Z,r4,r5⟩ KN Q;unfold PK;intro _;have hitW:=r1.lt;have hqW:=cB Z;refine uv r1 ?_ ?_
 ·intro hz W1 E hh;subst hz;refine qS0 ?_;rw[gP];apply cx (oG pC) W1 (by simp[go_sem,oG,fL,pC]);obtain⟨w6,T,H,N⟩:=jK (o' :=pC) (E.hpk Z id);refine ir T (dp (lM (o:=pC) (At.all H)) ?_)
  have k:S.find a num=none:=by
   unfold Ven.find;rw[List.findSome?_eq_none_iff];intro n hn;have:=h.dom n;rw[vj.1 hn]at this;obtain⟨b,I⟩:=kY.1 this;rcases r5 _ (AC I)with g|g
   ·cases g
   ·exact g
  have:=hK w6 ((r2.trans E).on N λy z=>gz);rw[k]at this;exact this
 ·intro i p m W3 i3 V m3 hs3;refine qS0 ?_;rw[kx];apply sg V;refine qS0 ?_;refine qS0 ?_;have P:=dL m;have M:=r4 p P;have t:lk A p.1=some p.2:=mem_lk hA M;have M3:M0 w W3:=r2.on m3 λb I=>gz;have b3:=m3.hpk Z qZ;have hB:=(h.bk p.1 p.2 t).mod M3 eQ;refine N4 (n:=num) hB λW4 m4=>?_;obtain⟨B,s⟩:=dW ((S.bk p.1).find num);rw[<-s];have e:findIn S.bk a num p.1=fiB a p.1 B:=by rw[s];rfl
  obtain⟨G,J⟩:=dW (bkO B:Od);rw[<-J];refine qS0 ?_;refine qS0 ?_;obtain⟨W5,e5,b5,m5⟩:=kD W4;apply cI e5;obtain⟨q5,hq5⟩:∃q,q=W4.heap.size:=⟨_,rfl⟩
  rw[<-hq5]at b5|-;obtain⟨r,T,H,N⟩:=jK (o' :=G) b5;apply ir T;have f:M0 W3 r:=(m4.trans m5).on N λb I=>.inr (by have:=m4.size;omega);have C:=f.hpk b3 id;have F:p.1∈S.nums:=vj.2 (by rw[<-h.dom p.1,t];rfl)
  have u:findIn S.bk a num p.1=none->KN (gU 0,()) r:=λhf=>by
   have il:=i3.mod f id id;refine Q _ _ ⟨R.eraseIdx i,rfl,il,M3.trans f,C,λy z=>r4 y ((jB _ _).mem z),λy z=>?_⟩ ?_
   ·rcases r5 y z with g|g
    ·rcases wy m g with rfl|g
     ·exact .inr hf
     ·exact .inl g
    ·exact .inr g
   ·rw[il.left,r1.left];have hil:=(cP.1 m).1;rw[kt hil];omega
  cases B with
  |none=>
   apply dK.on;apply cx (.bool false) r (by simp[go_sem,bkE]);rw[gP];unfold FD;intro _;rw[gP];exact u e
  |some y=>
   obtain⟨o,d⟩:=y;simp only[bkO,fiB]at J e;subst J;apply dK.on;apply cx (.bool true) r (by simp[go_sem,bkE]);rw[kx];refine cx (pt q5 1) r (by simp[go_sem]) (cx (gU G.acct) r (by simp[go_sem,H,fL]) ?_);by_cases j:G.acct=a
   ·refine qS1 j ?_;unfold FD;intro _;rw[kx];apply cI (lM (o:=G) (At.all H));obtain⟨W7,e7,b7,m7⟩:=jK (o' :=G) C;refine ir e7 (dp (lM (o:=G) (At.all b7)) ?_);rw[bZ j]at e;have:=hK W7 ((M3.trans f).on m7 λy z=>gz);rw[MR L F e]at this;exact this
   ·refine qSv1 (.bool false) j ?_;unfold FD;intro _;rw[gP];rw[aZ j]at e;exact u e
end
def KX(h:S.Ok){n:Int}(d:n∈S.nums):n≠0/\pL n:=by
 obtain⟨k,b,rfl⟩:=cF.1 d;obtain⟨c,a,-⟩:=h.cal.ok k b;constructor
 ·unfold Sp.may at a;simp only[cL,dN]at a;omega
 ·exact c.1.1
def RN(h:vg S){a num n:Int}{i:Nat}(p:n∈S.nums)(f:(S.bd n).findIdx? (isBid a num)=some i):S.nums.findSome? (bidIn S.bd a num)=some (i,n):=by
 have o:(S.nums.findSome? (bidIn S.bd a num)).isSome=true:=by
  rw[List.findSome?_isSome_iff];exact⟨n,p,by unfold bidIn;rw[f];rfl⟩
 obtain⟨⟨s,q⟩,g⟩:=kY.1 o;obtain⟨m,r,b⟩:=List.exists_of_findSome?_eq_some g;unfold bidIn at b;cases c:(S.bd m).findIdx? (isBid a num)with
 |none=>rw[c]at b;cases b
 |some j=>
  rw[c]at b;simp only[iD,jr,ou]at b;obtain⟨rfl,rfl⟩:=b;obtain⟨k,d,-⟩:=eB.1 f;obtain⟨l,e,-⟩:=eB.1 c;unfold isBid at d e;simp only[cL,dN]at d e;have:=h.apart n m _ _ (vk (cC k)) (vk (cC l)) (by rw[d.1,e.1]);subst this;rw[f]at c;cases c;exact g
def Iz{α:Type}(l:List α)(i:Nat):l.take i++l.drop (i+1)=l.eraseIdx i:=(List.eraseIdx_eq_take_drop_succ l i).symm
def XL(h:iy w p x)(l:List Od):Jb w (.func (.func 139) #[] #[.pointer (some ⟨p,0,none⟩)]) (isBid x.acct x.num) l:=by
 refine⟨_,_,rfl,λo k W i K j=>?_⟩;show Ca pQ _ [oG o,.pointer (some ⟨p,0,none⟩)].toArray W K;apply ad8;obtain⟨a,g,d,e⟩:=vt o W;apply cI g;have f:iy a p x:=e.hpk (i.hpk h id) id;refine cx (pt W.heap.size 0) a (by simp[go_sem]) (cx (gQ o.num) a (by simp[go_sem,d,fL]) ?_);refine cI (B7 _) (cI (BV f) ?_);apply cx (.bool (decide (o.num=x.num))) a (by simp[go_sem];rfl);have b:=j a e;unfold isBid at b;by_cases c:o.num=x.num
 ·rw[qo c];refine cx (pt W.heap.size 1) a (by simp[go_sem]) (cx (gU o.acct) a (by simp[go_sem,d,fL]) ?_);refine cI (pM _) (cI (rk f) ?_);apply cx (.bool (decide (o.acct=x.acct))) a (by simp[go_sem];rfl);rw[db c,oo]at b;exact b
 ·rw[DN c];rw[ej c,jp]at b;exact b
def qR.at{l:List Od}(h:qR w sl l){i:Nat}(hi:i<l.length):∃b a,sl=.slice (some ⟨b,0,none⟩) l.length a/\At w b (i*5) (fL l[i]):=by
 obtain⟨b,a,rest,rfl,j,f,g⟩:=h.pos qZ;have c:At w b 0 (l.flatMap fL++rest):=At.all (fy f);have e:=h.1;have d:=c.sub (i*5) 5 (by grind);rw[eZ (by rw[e];omega),dh (by grind),oB fL 5 l i (λx _=>gM x) hi,eU]at d;exact⟨b,a,rfl,d⟩
def J3(h:lw w v F S)(P:S.Ok)(hx:x.Fit)(hK:AK w v F (S.cancel x) K):Ca pQ 90 #[eY v,vI x] w K:=by
 obtain⟨c,l,mb,md,A,D,fp,V,hF⟩:=h;apply av7;obtain⟨w1,e1,b1,m1⟩:=uT x w;apply cI e1;obtain⟨p,hp0⟩:=dW w.heap.size;rw[<-hp0]at b1|-;obtain⟨w2,e2,b2,m2⟩:=qy w1;apply cI e2;obtain⟨q,hq0⟩:=dW w1.heap.size;rw[<-hq0]at b2|-;have hpq:p<q:=by have:=cB b1;omega
 have M2:=m1.trans m2;have c2:iy w2 p x:=m2.hpk b1 id;have hFl:∀y,F y->y<p:=λy a=>by obtain⟨pt,hp⟩:=(hF y).1 a;have:=V.lt hp;omega
 have m:∀pt y,fp pt y->F y:=λpt y a=>(hF y).2 ⟨_,a⟩;refine cI (pM _) (cI (rk c2) ?_);refine cI (B7 _) (cI (BV c2) ?_);refine HO (V.md0 M2) P.ord λw3 m3=>?_;have M3:=M2.trans m3;have c3:iy w3 p x:=m3.hpk c2 id;have b3:=m3.hpk b2 id;obtain⟨f,hf⟩:=dW (S.find x.acct x.num);rw[<-hf];refine qS0 ?_;refine qS0 ?_;obtain⟨w4,e4,b4,m4⟩:=kD w3;apply cI e4;obtain⟨q2,hq2⟩:∃q,q=w3.heap.size:=⟨_,rfl⟩
 rw[<-hq2]at b4|-;obtain⟨X,e5,b5,m5⟩:=jK (o' :=TY f) b4;apply ir e5;have hq2q:q<q2:=by have:=cB b3;omega
 have M35:M0 w3 X:=m4.on m5 λb Y=>gz;have M5:=M3.trans M35;have h5:=V.md0 M5;have c5:iy X p x:=M35.hpk c3 id;have r5:=M35.hpk b3 id;have hM5:=M5.size;cases f with
 |some y=>
  obtain⟨o,n⟩:=y;obtain⟨hnm,hoa,hon,d,hod,hfd⟩:=find_spec hf.symm;have hn0:=(KX P hnm).1
  have u:S.cancel x=((jX (S.bk n) x.num).1,{zRp with num:=x.num,left:=o.left},{S with bk:=upd S.bk n (jX (S.bk n) x.num).2.1}):=by
   unfold Ven.cancel;rw[<-hf]
  apply cx (.bool true) X (by simp[go_sem,Nb,hn0]);rw[kx];have t:M0 X X.drew:=mP;have h6:=h5.md0 t;have c6:iy X.drew p x:=t.hpk c5 id;have r6:=t.hpk r5 id;have o6:=t.hpk b5 id;have M6:=M5.trans t
  try dsimp only
  generalize X.drew=w6 at t h6 c6 r6 o6 M6|-;simp only[eY,dr];obtain⟨b,Y,hB⟩:=Wm h6 (n:=n) (vj.1 hnm);refine dw (jk 2 qZ) (dp (IL _ h6.blk) ?_);apply li (xz h6.mbk Y);refine dw B7 (dp (BV c6) ?_);refine zu hB λG w7 q7 m7 n7=>?_;refine qP0 ?_;refine qP0 ?_;have h7:=h6.setBk Y m7 q7 n7;have hnF:∀{y},p<=y->¬fp (.bk n) y:=λa hc=>by grind
  have c7:iy w7 p x:=m7.hpk c6 (hnF (cJ _));have r7:=m7.hpk r6 (hnF qZ);have o7:=m7.hpk o6 (hnF qZ);refine cI (B7 _) (cI (BV c7) ?_);refine cx (pt q2 4) w7 (by simp[go_sem]) (cx (gI o.left) w7 (by simp[go_sem,o7,fL,TY]) ?_);apply cx (ud ⟨0,x.num,0,o.left,[],[],[]⟩ dv dv dv) w7 (by simp[go_sem,ud,dv]);obtain⟨w8,e8,b8,m8⟩:=pl (r:=⟨0,x.num,0,o.left,[],[],[]⟩) r7 rfl ⟨gJ,gJ,gJ⟩;refine ir e8 (dp (lB b8) ?_);have hM6:=M6.size
  have U:∀pt y,mj fp (.bk n) G pt y->(F y\/w6.heap.size<=y):=λpt y a=>by
   by_cases I:pt=.bk n
   ·subst I;rw[ip]at a;exact(n7 y a).imp (m _ _) id
   ·rw[eH I]at a;exact .inl (m _ _ a)
  have hql:=cB r6;refine hK.tell u (h7.mod m8 λpt y a e=>?_).q (rp0 _ _ _) (((M6.to (G:=F)).on m7 λy a=>.inl (m _ y a)).on m8 λy a=>.inr (by grind)) (λy ⟨pt,a⟩=>(U pt y a).imp id λE=>qZ) λy a=>by rcases a with a|a|a<;>cases a
  rcases U pt y a with E|E
  ·have:=hFl y E;omega
  ·omega
 |none=>
  apply cx (.bool false) X (by simp[go_sem,Nb]);rw[gP];simp only[eY,dr]
  have u:S.cancel x=match S.nums.findSome? (bidIn S.bd x.acct x.num)with
    |some (i,n)=>(0,{zRp with num:=x.num,left:=((S.bd n).getD i pC).left},{S with bd:=upd S.bd n ((S.bd n).eraseIdx i)})
    |none=>(7,zRp,S):=by
   unfold Ven.cancel;rw[<-hf];rfl
  refine cI (jk 3 qZ _) (cI (AJ _ h5.blk) ?_);refine sw xn h5.mbd λw6 it6 m6=>?_;obtain⟨it,hit⟩:=dW X.heap.size;rw[<-hit]at it6|-;have hD:=V.mbd.1;have hqit:q<it:=by have:=cB r5;omega
  refine eS (λst W=>∃R:List (Int×Value),st=(gI 0,())/\nD iI yh W it md R/\M0 w W/\iy W p x/\hC W q (mC zRp dv dv dv).toArray lx/\(∀p∈R,p∈D)/\∀p∈D,p∈R\/bidIn S.bd x.acct x.num p.1=none)
   (λ_ W=>rm it md W) ⟨D,rfl,it6,M5.trans m6,m6.hpk c5 id,m6.hpk r5 id,λ_ h=>h,λ_ h=>.inl h⟩ ?_
  rintro _ W ⟨R,rfl,t1,t2,t3,t4,t5,t6⟩ KN hKN;unfold UX;intro _;have hitW:=t1.lt;have hqW:=cB t4;have hMW:=t2.size;refine uv t1 ?_ ?_
  ·intro hz W1 m1' hh;subst hz;refine qS0 ?_;rw[gP]
   have hnone:S.nums.findSome? (bidIn S.bd x.acct x.num)=none:=by
    rw[List.findSome?_eq_none_iff];intro n hn;cases hl:lk D n with
    |some s=>
     rcases t6 _ (AC hl)with E|E
     ·cases E
     ·exact E
    |none=>
     have Y:=V.bd n;unfold rz at Y;rw[hl]at Y;obtain⟨hlen,⟨-,h0⟩|⟨b,cap,rest,he,-⟩⟩:=Y
     ·unfold bidIn;rw[jF h0];rfl
     ·cases he
   rw[hnone]at u;have r1:=m1'.hpk t4 id;apply cI (lB r1);obtain⟨w9,e9,b9,m9⟩:=pl (r:=zRp) r1 rfl ⟨gJ,gJ,gJ⟩;refine ir e9 (dp (lB b9) ?_);have hM1' :=m1.size;refine hK.nil u ((V.md0 (t2.trans m1')).mod m9 λpt y a e=>by grind).q ((t2.trans m1').mono (G:=F) (λ_ _ h=>h.elim) |>.on m9 λy a=>gz) λy ⟨pt,a⟩=>.inl (m _ _ a)
  ·intro i g J W3 i3 cu3 m3' hs3;refine qS0 ?_;rw[kx];apply sg cu3;refine qS0 ?_;refine qS0 ?_;have hpR:=dL J;have hpD:=t5 g hpR;have hlk:lk D g.1=some g.2:=mem_lk hD hpD;have M3' :M0 w W3:=t2.on m3' λb Y=>gz;have c3' :iy W3 p x:=m3'.hpk t3 qZ;have r3' :=m3'.hpk t4 qZ;have h3' :=V.md0 M3';have hbd:=h3'.bd g.1;have B:rz D g.1=g.2:=by unfold rz;rw[hlk];rfl
   have hbl:=P.ord.bdl g.1;have hsm:(eR S.cal.l g.1).isSome=true:=V.dod _ (by rw[hlk];rfl);show Ca pQ _ #[g.2,_] W3 _;refine wE (l:=S.bd g.1) (by rw[<-B];exact hbd.rd) qZ (XL c3' _) λW4 T=>?_;have M4:=M3'.trans T;have c4' :iy W4 p x:=T.hpk c3' id;have r4' :=T.hpk r3' id;cases H:(S.bd g.1).findIdx? (isBid x.acct x.num)with
   |none=>
    have hi:uK (S.bd g.1) (isBid x.acct x.num)= -1:=by unfold uK;rw[H]
    rw[hi];refine qSf0 ?_;have il:=i3.mod T id id;refine hKN _ _ ⟨R.eraseIdx i,rfl,il,M4,c4',r4',λy a=>t5 y ((jB _ _).mem a),λy a=>?_⟩ ?_
    ·rcases t6 y a with E|E
     ·rcases wy J E with rfl|E
      ·exact .inr (by unfold bidIn;rw[H];rfl)
      ·exact .inl E
     ·exact .inr E
    ·rw[il.left,t1.left];have hil:=(cP.1 J).1;rw[kt hil];omega
   |some j=>
    obtain⟨O,hjp,-⟩:=eB.1 H;have hi:uK (S.bd g.1) (isBid x.acct x.num)=(j:Int):=by unfold uK;rw[H]
    rw[hi];refine qSt0 ?_;have hbs:=RN P.ord (vj.2 hsm) H;rw[hbs]at u;simp only at u;have hgd:(S.bd g.1).getD j pC=(S.bd g.1)[j]:=by simp[O]
    rw[hgd]at u;have t:M0 W4 W4.drew:=mP;have c5' :iy W4.drew p x:=t.hpk c4' id;have r5' :=t.hpk r4' id;have N:=M4.trans t
    try dsimp only
    generalize W4.drew=W5 at t c5' r5' N|-;have h5' :=V.md0 N;have Z:=h5'.bd g.1;rw[B]at Z;obtain⟨sb,scap,hse,hat⟩:=Z.at O;obtain⟨C,eC,fz,hC,hg⟩:=hat.get;have hg4:=hg 4 _ rfl;refine dw B7 (dp (BV c5') ?_);show wS pQ (iX Av g.2 (gI (j:Int))) _;apply dX (pt sb (j*5)) (λW=>by rw[hse];simp[go_sem,O,cS,mH]);refine qPv1 (pt sb (j*5+4)) cS (qWv2 (gI (S.bd g.1)[j].left) hC hg4 ?_);apply dX (ud ⟨0,x.num,0,(S.bd g.1)[j].left,[],[],[]⟩ dv dv dv) (λ_=>by simp[go_sem,ud,dv]);obtain⟨Q,e6',b6',m6'⟩:=pl (r:=⟨0,x.num,0,(S.bd g.1)[j].left,[],[],[]⟩) r5' rfl ⟨gJ,gJ,gJ⟩;apply ir e6';have hM5' :=N.size;have h6' :=h5'.mod m6' λpt y a e=>by grind
    have M6' :de (λy=>y=q) w Q:=(N.to).trans m6';have z:M0 Q Q.drew:=mP;have k:=h6'.md0 z;have b7' :=z.hpk b6' id;have M7' :=M6'.trans (z.to (G:=λy=>y=q));generalize Q.drew=w7' at z k b7' M7' |-;refine dw (jk 3 qZ) (dp (AJ _ k.blk) ?_);apply dX (gI ((j+1:Nat):Int)) (λ_=>by simp[go_sem];rw[wI_]);have hbd7:=k.bd g.1;have M:=hbd7;rw[B]at M;refine vq (l:=S.bd g.1) M (qH j) O qZ λs' w8 o8 m8 n8=>?_;rw[Iz]at o8;have L:de (fp (.bd g.1)) w7' w8:=m8.mono λy _ a=>(k.fbd g.1 y).2 (by rw[B];exact a);have blk8:=L.hpk k.blk (k.ap (by simp) _ k.self);refine⟨AJ _ blk8,?_⟩;have mbd8:=k.mbd.mod L (k.ap (by simp) _ ((k.fmd md).2 rfl));refine kV (enc:=iI) (ev:=yh) (x:=g.1) (v:=s') xn rP mbd8 λw9 a9 m9 hs9=>?_;have hmdF:F md:=m _ _ ((k.fmd md).2 rfl);have h9:=k.setBd (n:=g.1) hsm L o8 (λy a=>.inl ((k.fbd g.1 y).2 (by rw[B];exact n8 y a))) a9 m9;have b9:=m9.hpk (L.hpk b7' λhc=>by grind) λe=>by grind
    have M9:de (λy=>F y\/y=q) w w9:=((M7'.mono λy _ a=>.inr a).trans (L.mono λy _ a=>.inl (m _ y a))).trans (m9.mono λy _ a=>.inl (by rw[a];exact hmdF));apply cI (lB b9);obtain⟨w10,e10,b10,m10⟩:=pl (r:=⟨0,x.num,0,(S.bd g.1)[j].left,[],[],[]⟩) b9 rfl ⟨gJ,gJ,gJ⟩;refine ir e10 (dp (lB b10) ?_)
    have U:∀pt y,mj fp (.bd g.1) (cK s') pt y->F y:=λpt y a=>by
     by_cases I:pt=.bd g.1
     ·subst I;rw[ip]at a;exact m _ _ ((k.fbd g.1 y).2 (by rw[B];exact n8 y a))
     ·rw[eH I]at a;exact m _ _ a
    refine hK.tell u (h9.mod m10 λpt y a e=>by grind).q (rp0 _ _ _) ?_ (λy ⟨pt,a⟩=>.inl (U pt y a)) λy a=>by rcases a with a|a|a<;>cases a
    have:=(de.refl F w).on (M9.trans (m10.mono (G:=λy=>F y\/y=q) λy _ a=>.inr a)) λy a=>?_
    ·exact this
    ·rcases a with a|a
     ·exact .inl a
     ·grind
def Qj{r:Bool}(c:∀d,(B d).length<=100):(ko B o r).2.trades.length<=100:=by
 have a:∀(L:List Od) (left:Int),(iV o left L).2.2.1.length<=L.length:=by
  intro L;induction L with
  |nil=>intro left;simp[iV]
  |cons b r e=>
   intro left;unfold iV;split
   ·simp
   ·split
    ·grind
    ·split
     ·simp
     ·grind
 have g:=a (B !o.buy) o.left;have f:=c !o.buy;unfold ko;simp only;split<;>(simp only;omega)
def HZ{p:Int}(a:∀d,(B d).length<=100):(fX B n p l).2.2.trades.length<=100:=by
 unfold fX;split
 ·simp
 ·split
  ·simp
  ·split
   ·simp
   ·refine Qj λe=>?_
    rename_i d _ _ _
    by_cases h:e=d
    ·subst h;rw[Bk.set_self];unfold tD;exact dD (List.eraseP_sublist).length_le (a _)
    ·rw[Bk.set_ne _ _ h];exact a _
def In(h:lw w v F S)(I:S.Ok)(hx:x.Fit)(ha:x.acct≠0)(hK:AK w v F (S.replace x) K):Ca pQ 91 #[eY v,vI x] w K:=by
 obtain⟨c,l,mb,md,A,D,fp,hr,hF⟩:=h;apply aB2;obtain⟨w1,e1,b1,m1⟩:=uT x w;apply cI e1;obtain⟨p,hp0⟩:=dW w.heap.size;rw[<-hp0]at b1|-;obtain⟨w2,e2,b2,m2⟩:=qy w1;apply cI e2;obtain⟨q,hq0⟩:=dW w1.heap.size;rw[<-hq0]at b2|-;have hpq:p<q:=by have:=cB b1;omega
 have M2:=m1.trans m2;have c2:iy w2 p x:=m2.hpk b1 id;have hFl:∀y,F y->y<p:=λy g=>by obtain⟨pt,hp⟩:=(hF y).1 g;have:=hr.lt hp;omega
 have s:∀pt y,fp pt y->F y:=λpt y g=>(hF y).2 ⟨_,g⟩;refine cI (pM _) (cI (rk c2) ?_);refine cI (B7 _) (cI (BV c2) ?_);refine HO (hr.md0 M2) I.ord λw3 m3=>?_;have M3:de F w w3:=(M2.trans m3).to;have c3:iy w3 p x:=m3.hpk c2 id;have b3:=m3.hpk b2 id;have h3:=(hr.md0 M2).md0 m3;obtain⟨f,hf⟩:=dW (S.find x.acct x.num);rw[<-hf];refine qS0 ?_;refine qS0 ?_;obtain⟨w4,e4,b4,m4⟩:=kD w3;apply cI e4;obtain⟨q2,hq2⟩:∃q,q=w3.heap.size:=⟨_,rfl⟩
 rw[<-hq2]at b4|-;obtain⟨k,e5,b5,m5⟩:=jK (o' :=TY f) b4;apply ir e5;have hq2q:q<q2:=by have:=cB b3;omega
 have O:M0 w3 k:=m4.on m5 λb hb=>gz;have M5:=M3.trans (O.to (G:=F));have V:=h3.md0 O;have c5:iy k p x:=O.hpk c3 id;have r5:=O.hpk b3 id
 have bad:∀(e:Int) (T:Ven) (fp' :Pt->Nat->Prop) (A' :List (Int×Nat)) (W:Wt_),S.replace x=(e,zRp,T)->ik W v c l mb md A' D fp' T->hC W q (mC zRp dv dv dv).toArray lx->de F w W->(∀pt y,fp' pt y->(F y\/w.heap.size<=y)/\y≠q)->
   rv pQ (iL lx (pt q 0)) W λv17 w18=>ru pQ (iS lx (pt q 0) v17) w18 λw19=>uc pQ (iL lx (pt q 0)) w19 λv20=>K (.tuple #[v20,gI e]) w19:=λe T fp' A' W he a b m hn=>by
  apply cI (lB b);obtain⟨w9,e9,b9,t⟩:=pl (r:=zRp) b rfl ⟨gJ,gJ,gJ⟩;refine ir e9 (dp (lB b9) ?_);refine hK.nil he (a.mod t λpt y g e=>(hn pt y g).2 e).q (m.on t λy g=>.inr (by grind)) λy ⟨pt,g⟩=>(hn pt y g).1
 have U:∀pt y,fp pt y->(F y\/w.heap.size<=y)/\y≠q:=λpt y g=>⟨.inl (s _ _ g),by grind⟩
 cases f with
 |none=>
  have j:S.replace x=(7,zRp,S):=by unfold Ven.replace;rw[<-hf]
  apply cx (.bool true) k (by simp[go_sem,Nb]);rw[kx];exact bad 7 S fp A k j V r5 M5 U
 |some y=>
 obtain⟨o,n⟩:=y;obtain⟨hnm,hoa,hon,d,hod,hfd⟩:=find_spec hf.symm;have hn0:=(KX I hnm).1;have hstd:=I.ord.std n o (rC hod);have hol:=may_left hstd.may;apply cx (.bool false) k (by simp[go_sem,Nb,hn0]);rw[gP];rw[show Nb (some (o,n))=n from rfl];have H:hC k q2 (fL o).toArray pz:=b5;refine cI (pM _) (cI (rk c5) ?_);refine cx (pt q2 2) k (by simp[go_sem]) (cx (.bool o.buy) k (by simp[go_sem,H,fL]) ?_);refine cI (DK _) (cI (yG c5) ?_);refine cI (yy _) (cI (um c5) ?_);apply cI (lM (o:=o) (At.all H));have hxf:=hx;obtain⟨f1,f2,f3,f4,f5,f6,f7,f8,f9⟩:=hxf;refine Ix V I f8 f9 ⟨qZ,hol.2⟩ λw5a J=>?_;obtain⟨E,hE⟩:=dW (S.pass x.acct n o.buy x.price x.qty o);rw[<-hE];replace V:=V.md0 J;replace c5:iy w5a p x:=J.hpk c5 id;replace r5:=J.hpk r5 id;replace H:=J.hpk H id;replace M5:=M5.trans (J.to (G:=F))
 have j:S.replace x=if E≠0 then(E,zRp,S)else
   (if(fX (S.bk n) x.num x.price x.qty).1≠0 then((fX (S.bk n) x.num x.price x.qty).1,zRp,{S with bk:=upd S.bk n (fX (S.bk n) x.num x.price x.qty).2.1})
    else({S with bk:=upd S.bk n (fX (S.bk n) x.num x.price x.qty).2.1}:Ven).traded n o (fX (S.bk n) x.num x.price x.qty).2.2):=by
  unfold Ven.replace;rw[<-hf,hE]
 by_cases he:E≠0
 ·rw[bZ he]at j;refine qSt1 he ?_;exact bad E S fp A w5a j V r5 M5 U
 rw[aZ he]at j;have he0:E=0:=by simpa using he
 refine qSf1 he0 ?_;have hpass:=pass_ok ha (hE.symm.trans he0);clear b5;have b5:=H;clear H;clear m5 e5 O e4 m4 b4 J;clear k
 revert V c5 r5 b5 M5
 generalize w5a=k;intro V c5 r5 M5 b5;obtain⟨X,hX⟩:=dW (fX (S.bk n) x.num x.price x.qty);have hXl:X.2.2.trades.length<=100:=by rw[hX];exact HZ λd=>(I.ord.side _ d).1
 rw[<-hX]at j
 refine dK.at (λst W=>∃r M N G,st=(.pointer (some ⟨r,0,none⟩),gI X.1,())/\hC W r (uy M N X.2.2.filled X.2.2.left) 230/\ik W v c l mb md A D (mj fp (.bk n) G) {S with bk:=upd S.bk n X.2.1}/\Ji W M N X.2.2.trades X.2.2.gone/\
   de F w W/\(∀y,G y->(F y\/k.heap.size<=y))/\(∀y,cK M y\/cK N y->k.heap.size<=y/\¬G y)/\iy W p x/\hC W q (mC zRp dv dv dv).toArray lx/\hC W q2 (fL o).toArray pz/\k.heap.size<=r) ?_ ?_
 ·have L:M0 k k.drew:=mP;have hszd:k.drew.heap.size=k.heap.size:=rfl;have h6:=V.md0 L;have c6:iy k.drew p x:=L.hpk c5 id;have r6:=L.hpk r5 id;have o6:=L.hpk b5 id;have M6:=M5.trans (L.to (G:=F));rw[<-hszd]
  try dsimp only
  generalize k.drew=w6 at L h6 c6 r6 o6 M6|-;simp only[eY,dr];obtain⟨b,hb,hB⟩:=Wm h6 (n:=n) (vj.1 hnm);have u:∀y,fp (.bk n) y->F y:=λy g=>s _ y g;refine dw (jk 2 qZ) (dp (IL _ h6.blk) ?_);apply li (xz h6.mbk hb);refine dw B7 (dp (BV c6) ?_);refine dw DK (dp (yG c6) ?_);refine dw yy (dp (um c6) ?_);have hpl6:p<w6.heap.size:=cB c6;have hql6:q<w6.heap.size:=cB r6;have hq2l6:q2<w6.heap.size:=cB o6;refine⟨?_,?_⟩
  ·refine BC hB f8 f9 λG M N w7 q7 p7 B n7 s7=>?_;rw[<-hX]at q7 p7|-;refine qP0 ?_;refine qP0 ?_;obtain⟨w8,e8,b8,Q⟩:=Cl w7;apply cI e8;obtain⟨r,hr0⟩:=dW w7.heap.size;rw[<-hr0]at b8|-;obtain⟨ta,tc,hsT,-⟩:=p7.tr.isSl;obtain⟨ga,gc,hsG,-⟩:=p7.go.isSl;obtain⟨w9,e9,b9,t⟩:=Cr M N X.2.2.filled X.2.2.left b8 ⟨_,_,_,hsT⟩ ⟨_,_,_,hsG⟩;apply ir e9;have C:M0 w7 w9:=Q.on t λb hb=>gz;have h7:=h6.setBk hb B q7 n7;have hs7:=B.size;refine⟨r,M,N,G,rfl,b9,h7.md0 C,p7.mod C eQ eQ,(M6.on B λy g=>.inl (u y g)).trans (C.to),λy g=>(n7 y g).imp (u y) id,s7,?_,?_,?_,qZ⟩
   ·exact C.hpk (B.hpk c6 λhc=>by grind) id
   ·exact C.hpk (B.hpk r6 λhc=>by grind) id
   ·exact C.hpk (B.hpk o6 λhc=>by grind) id
  ·obtain⟨w7,e7,b7,B⟩:=Cl w6;apply cI e7;obtain⟨r,hr0⟩:=dW w6.heap.size;rw[<-hr0]at b7|-;have h7:=h6.md0 B;have c7:iy w7 p x:=B.hpk c6 id;have o7:=B.hpk o6 id;have r7:=B.hpk r6 id;refine⟨um c7,yG c7,BV c7,xz h7.mbk hb,IL _ h7.blk,?_⟩;have hs67:=B.size;refine BC (h7.bk n b hb) f8 f9 λG M N w8 q8 Z Q n8 s8=>?_;rw[<-hX]at q8 Z|-;refine qP0 ?_;refine qP0 ?_;obtain⟨ta,tc,hsT,-⟩:=Z.tr.isSl;obtain⟨ga,gc,hsG,-⟩:=Z.go.isSl;have hrF:¬fp (.bk n) r:=λhc=>by grind
   obtain⟨w9,e9,b9,t⟩:=Cr M N X.2.2.filled X.2.2.left (Q.hpk b7 hrF) ⟨_,_,_,hsT⟩ ⟨_,_,_,hsG⟩;apply ir e9;have h8:=h7.setBk hb Q q8 n8;have hrl:r<w7.heap.size:=cB b7;have hsr:∀y,cK M y\/cK N y->y≠r:=λy g=>by grind
   have hGr:∀pt y,mj fp (.bk n) G pt y->y≠r:=λpt y g=>by
    by_cases i:pt=.bk n
    ·subst i;rw[ip]at g;rcases n8 y g with h' |h'
     ·grind
     ·omega
    ·rw[eH i]at g;have:=hFl y (s _ _ g);omega
   refine⟨r,M,N,G,rfl,b9,h8.mod t λpt y g e=>hGr pt y g e,Z.mod t (λy g e=>hsr y (.inl g) e) λy g e=>hsr y (.inr g) e,((M6.trans (B.to (G:=F))).on Q λy g=>.inl (u y g)).on t λy g=>.inr (by grind),λy g=>(n8 y g).imp (u y) (λh' =>qZ),λy g=>⟨by grind,(s8 y g).2⟩,?_,?_,?_,qZ⟩
   ·exact t.hpk (Q.hpk c7 λhc=>by grind) qZ
   ·exact t.hpk (Q.hpk r7 λhc=>by grind) qZ
   ·exact t.hpk (Q.hpk o7 λhc=>by grind) qZ
 rintro _ W ⟨r,M,N,G,rfl,i1,i2,i3,i4,i5,i6,i7,i8,i9,i10⟩;unfold VV;intro _;have hM5s:=M5.size;have hq5:q2<k.heap.size:=cB b5
 have hup:∀pt y,mj fp (.bk n) G pt y->(F y\/k.heap.size<=y):=λpt y g=>by
  by_cases i:pt=.bk n
  ·subst i;rw[ip]at g;exact i5 y g
  ·rw[eH i]at g;exact .inl (s _ _ g)
 have z:∀pt y,mj fp (.bk n) G pt y->(F y\/w.heap.size<=y)/\y≠q:=λpt y g=>by
  rcases hup pt y g with h' |h'
  ·grind
  ·grind
 by_cases R:X.1≠0
 ·rw[bZ R]at j;refine qSt1 R ?_;exact bad X.1 _ _ A W j i2 i8 i4 z
 rw[aZ R]at j;have hX0:X.1=0:=by simpa using R
 refine qSf1 hX0 ?_;apply cI (lM (o:=o) (At.all i9));apply cI (QG i1);obtain⟨S2,hS2⟩:=dW ({S with bk:=upd S.bk n X.2.1}:Ven);rw[<-hS2]at i2 j
 have hok2:S2.Ok:=by
  have:=replaced_ok I hx ha hf.symm (hE.symm.trans he0) (by grind);rw[hS2,hX];exact this
 have hal2:ex S2.cal.l n=0:=by rw[hS2];exact hpass.alive
 have P:∀y,cK M y\/cK N y->¬dY (mj fp (.bk n) G) y:=λy g ⟨pt,i⟩=>by
  have h6' :=i6 y g;by_cases hp:pt=.bk n
  ·subst hp;rw[ip]at i;exact h6'.2 i
  ·rw[eH hp]at i;have:=hFl y (s _ _ i);omega
 refine Df (F:=dY (mj fp (.bk n) G)) i2.q hok2 hal2 i3 P qZ λsT' sG' w8 v8 Z Q n8=>?_;obtain⟨Y,hY⟩:=dW (S2.traded n o X.2.2);rw[<-hY]at v8 Z j|-;have hqn:¬dY (mj fp (.bk n) G) q:=λ⟨pt,i⟩=>(z pt q i).2 rfl;have k8:=Q.hpk i8 hqn;refine qS0 ?_;refine qS0 ?_;obtain⟨s1,s2,s3⟩:=Z.isSl;obtain⟨w9,e9,b9,t⟩:=pl (r:=Y.2.1) k8 rfl ⟨s1,s2,s3⟩;refine ir e9 (dp (lB b9) ?_);have hnew:∀y,cK sT' y\/cK sG' y->k.heap.size<=y/\¬dY (mj fp (.bk n) G) y:=λy g=>⟨(i6 y (n8 y g)).1,P y (n8 y g)⟩
 refine hK.tell (F' :=dY (mj fp (.bk n) G)) (T:=Y.2.2) (r:=Y.2.1) (e:=Y.1) j (v8.mod t λy g e=>hqn (e▸g)) (Z.mod t λy g e=>?_) ((i4.on Q λy ⟨pt,g⟩=>(z pt y g).1).on t λy g=>.inr (by grind)) (λy ⟨pt,g⟩=>(z pt y g).1) λy g=>?_
 ·rcases g with g|g|g
  ·grind
  ·grind
  ·cases g
 ·rcases g with g|g|g
  ·grind
  ·grind
  ·cases g
section
variable{w:Wt_}{K:cG}{v c l mb md:Nat}{A:List (Int×Nat)}{D:List (Int×Value)}{fp:Pt->Nat->Prop}{S:Ven}
def Gh{x:Cm}(h:ik w v c l mb md A D fp S)(M:S.Ok)(hx:x.Fit)
  (b:∀t,ik t v c l mb md A D fp (S.done {x with kind:=2}).2.2->de (fp .led) w t->K (gI (S.done {x with kind:=2}).1) t):Ca pQ 83 #[eY v,vI x] w K:=by
 apply aw7;obtain⟨j,e1,P,Z⟩:=uT x w;apply cI e1;obtain⟨p,L⟩:=dW w.heap.size;rw[<-L]at P|-;have hu:=hx.2.1;obtain⟨X,E⟩:=dW (S.led.withdraw x.acct x.amt)
 have hd:S.done {x with kind:=2}=(if X.1≠0 then X.1 else if(({S with led:=X.2}:Ven).acc x.acct).dfl=true then 120 else({S with led:=X.2}:Ven).bears x.acct,zRp,{S with led:=X.2}):=by
  unfold Ven.done;rw[aZ (by simp),bZ rfl,E]
 rw[hd]at b;simp only at b;have a:M0 j j.drew:=mP;have m:=(h.md0 Z).md0 a;have o:iy j.drew p x:=a.hpk P id;have M2:=Z.trans a
 try dsimp only
 generalize j.drew=w2 at a m o M2|-;simp only[eY,dr];refine dw (jk 1 qZ) (dp (ld1 _ m.blk) ?_);refine dw pM (dp (rk o) ?_);refine dw JB (dp (Nx o) ?_);refine GF m.led hu λf U u=>?_;rw[<-E]at U|-;have hFp:∀{pt y},fp pt y->y<p:=λJ=>by have:=h.lt J;omega
 have q:=m.setLed u U;have Q:=(M2.to (G:=fp .led)).trans u;have Y:iy f p x:=u.hpk o λhc=>by grind
 have e:({S with led:=X.2}:Ven).Ok:=by rw[E];exact Bc M
 by_cases s:X.1≠0
 ·rw[bZ s]at b;refine qSt1 s ?_;exact b f q Q
 rw[aZ s]at b;have z:X.1=0:=by simpa using s
 refine qSf1 z ?_;obtain⟨T,hT⟩:=dW ({S with led:=X.2}:Ven);rw[<-hT]at q e b;refine dK.at (λst W=>∃r,st=(.pointer (some ⟨r,0,none⟩),())/\hC W r (dH (T.acc x.acct)).toArray 70/\M0 f W) ?_ ?_
 ·have a:M0 f f.drew:=mP;have n:=q.md0 a;have H:iy f.drew p x:=a.hpk Y id;have hs:=a.size
  try dsimp only
  generalize f.drew=w4 at a n H hs|-;refine dw (jk 1 qZ) (dp (ld1 _ n.blk) ?_);refine dw pM (dp (rk H) ?_);refine⟨?_,?_⟩
  ·refine ug n.led λO i=>?_;refine qP1 oV ?_;rw[oV];refine qP0 ?_;obtain⟨w6,e6,b6,k⟩:=zi O;apply cI e6;obtain⟨F,C,I,g⟩:=zR (T.acc x.acct) b6;apply ir C;exact⟨_,rfl,I,((a.trans i).trans k).on g λy J=>.inr (by have:=(a.trans i).size;omega)⟩
  ·obtain⟨O,e5,b5,i⟩:=zi w4;apply cI e5;have R:=n.md0 i;have c5:iy O p x:=i.hpk H id;refine⟨rk c5,ld1 _ R.blk,?_⟩;refine ug R.led λw6 k=>?_;refine qP1 oV ?_;rw[oV];refine qP0 ?_;obtain⟨F,C,I,g⟩:=zR (T.acc x.acct) (k.hpk b5 id);apply ir C;exact⟨_,rfl,I,((a.trans i).trans k).on g λy J=>.inr (by grind)⟩
 rintro _ W ⟨r,rfl,i1,B⟩;unfold Vg;intro _;have N:=q.md0 B;have c6:iy W p x:=B.hpk Y id;have V:=Q.trans (B.to (G:=fp .led));refine cx (pt r 3) W (by simp[go_sem]) (cx (.bool (T.acc x.acct).dfl) W (by simp[go_sem,i1,dH]) ?_);by_cases d:(T.acc x.acct).dfl=true
 ·rw[bZ d]at b;rw[cy,bZ d];exact b W N V
 ·rw[aZ d]at b;rw[cy,aZ d];refine cI (pM _) (cI (rk c6) ?_);refine Au N e λF g=>?_;exact b F (N.md0 g) (V.trans (g.to))
def GM{k:Ct}{f t price qty:Int}{long:Bool}(h:ik w v c l mb md A D fp S)(s:pL k.spec.num)
  (j:∀e,ik e v c l mb md A D fp {S with led:=(swapL S.led k.spec.num f t long price qty).2}->de (fp .led) w e->K (gI (swapL S.led k.spec.num f t long price qty).1) e):
  Ca pQ 181 #[eY v,.agg (fI k).toArray,gU f,gU t,.bool long,gI price,gI qty] w K:=by
 apply Zv;obtain⟨b,u,p,n⟩:=GT k w;apply cI u;have g:swapL S.led k.spec.num f t long price qty=S.led.trade k.spec.num (if long then t else f) (if long then f else t) price qty:=by unfold swapL;cases long<;>rfl
 rw[g]at j;refine dK.at (λst W=>st=(gU (if long then f else t),gU (if long then t else f),())/\b=W) ?_ ?_
 ·cases long with
  |true=>rw[kx];exact sI
  |false=>rw[gP];exact sI
 rintro _ _ ⟨rfl,rfl⟩;unfold QK;intro _;have a:M0 b b.drew:=mP;have d:=(h.md0 n).md0 a;have m:=a.hpk p id;have o:=n.trans a
 try dsimp only
 generalize b.drew=x at a d m o|-;simp only[eY,dr];refine dw (jk 1 qZ) (dp (ld1 _ d.blk) ?_);refine qP0 ?_;refine qP0 ?_;apply oy (gU k.spec.num) (by simp[go_sem,m,fI,jA]);refine IF d.led s λq r i=>?_;exact j q (d.setLed i r) ((o.to).trans i)
end
structure rF(w:Wt_)(p:Nat)(sl:Vt_)(ids:List Int):Prop where
 at_:hC w p #[sl] 49
 own:vO w sl ids
 ne:∀y,cK sl y->y≠p
def rF.mod{a:List Int}(h:rF w p sl a)(b:de F w w')(e:¬F p)(d:∀y,cK sl y->¬F y):rF w' p sl a:=⟨b.hpk h.at_ e,h.own.mod b d,h.ne⟩
def rF.ld{b:List Int}(h:rF w p sl b):(iL 49 (pt p 0)).run pQ w=.ok sl w:=by
 obtain⟨a,c,d,-⟩:=h.own.isSl;have:=h.at_;subst d;simp[go_sem,this]
def LI{b:List Int}{x:Int}{K:World->Prop}(h:rF w p sl b)(G:b.length<=100000)
  (z:∀i d,rF d p i (b++[x])->de (λy=>y=p\/cK sl y) w d->(∀y,cK i y->cK sl y\/w.heap.size<=y)->K d):
  rx pQ (jQ 49 1 [(0,gQ x)]) w λv t=>rx pQ (eg #[49,49] 49 [sl,v]) t λB C=>ru pQ (iS 49 (pt p 0) B) C K:=by
 refine yM (x:=x) (f:=CB) yu (eO Ry) (λ_=>rfl) (CC x) rfl h.own qZ qZ λF d q r m=>?_;obtain⟨a,j,rfl,-⟩:=q.isSl;have u:=cB h.at_;have n:=r.hpk h.at_ λE=>h.ne _ E rfl;apply pH (d.setCell ⟨p,0,none⟩ (.slice a (b++[x]).length j)) (by simp[go_sem,n])
 have g:∀y,cK (.slice a (b++[x]).length j) y->y≠p:=λy k e=>by
  rcases m y k with o|o
  ·exact h.ne y o e
  ·omega
 have s:de (λy=>y=p) d (d.setCell ⟨p,0,none⟩ (.slice a (b++[x]).length j)):=(de.refl (λy=>y=p) d).sc;exact z _ _ ⟨by simp[go_sem,n],q.mod s λy k e=>g y k e,g⟩ ((r.mono λ_ _ h=>.inr h).trans (s.mono λ_ _ h=>.inl h)) m
def C7(a:Int)(ids:List Int)(o:Od):List Int:=if ofA a o then ids++[o.num]else ids
def GC{f:Nat}{e:List Int}(F:hC w p #[.int .u32 a] 23)(z:rF w f sl e)(Q:e.length<=100000)(B:p≠f)(H:¬cK sl p)
  (I:∀b i,rF i f b (C7 a e o)->de (λy=>y=f\/cK sl y) w i->(∀y,cK b y->cK sl y\/w.heap.size<=y)->(ofA a o=false->M0 w i/\b=sl)->K (.bool (ofA a o)) i):
  Ca pQ 147 #[oG o,.pointer (some ⟨p,0,none⟩),.pointer (some ⟨f,0,none⟩)] w K:=by
 apply al3;obtain⟨g,T,n,k⟩:=vt o w;apply cI T;obtain⟨q,G⟩:=dW w.heap.size;rw[<-G]at n|-;have j:=k.hpk F id;have h:=z.mod k id eQ;have N:=cB z.at_;have J:=k.size;refine dK.at (λst W=>∃b,rF W f b (C7 a e o)/\de (λy=>y=f\/cK sl y) g W/\(∀y,cK b y->cK sl y\/g.heap.size<=y)/\(ofA a o=false->g=W/\b=sl)) ?_ ?_
 ·refine cx (pt q 1) g (by simp[go_sem]) (cx (gU o.acct) g (by simp[go_sem,n,fL]) ?_);refine qS1 j ?_;by_cases d:o.acct=a
  ·have u:ofA a o=true:=by unfold ofA;simp[d]
   refine qSt1 d ?_;apply cI h.ld;refine cx (pt q 0) g (by simp[go_sem]) (cx (gQ o.num) g (by simp[go_sem,n,fL]) ?_);refine LI h Q λb i U P E=>?_;refine⟨b,?_,P,E,λC=>by grind⟩;unfold C7;rw[u];exact U
  ·have u:ofA a o=false:=by unfold ofA;simp[d]
   refine qSf1 d ?_;refine⟨sl,?_,lX,λy x=>.inl x,λ_=>⟨rfl,rfl⟩⟩;unfold C7;rw[u];exact h
 rintro _ W ⟨b,R,t,L,M⟩;unfold RC;intro _
 have r:¬(q=f\/cK sl q):=λm=>by
  rcases m with m|m
  ·omega
  ·have:=z.own.lt m;omega
 have O:=t.hpk n r;have s:=t.hpk j λm=>by grind
 refine cx (pt q 1) W (by simp[go_sem]) (cx (gU o.acct) W (by simp[go_sem,O,fL]) ?_);refine qS1 s ?_;apply cx (.bool (ofA a o)) W (by simp[go_sem,ofA];rfl);refine I b W R ((k.to).trans t) (λy x=>(L y x).imp id λV=>qZ) λC=>?_;obtain⟨rfl,rfl⟩:=M C;exact⟨k,rfl⟩
def J7(h:Rd w 5 s L.length (L.flatMap fL)){i:Nat}(hi:i<L.length):
  ∃p,(iX 95 s (gI (i:Int))).run pQ w=.ok p w/\(iL pz p).run pQ w=.ok (oG L[i]) w:=by
 obtain⟨b,f,n,d,j,o⟩:=h.item gM hi rfl;obtain⟨C,e,fz,hC,a⟩:=o.get;have g0:=a 0 (gQ L[i].num) rfl;have g1:=a 1 (gU L[i].acct) rfl;have g:=a 2 (.bool L[i].buy) rfl;have m:=a 3 (gI L[i].price) rfl;have k:=a 4 (gI L[i].left) rfl;simp only[jU,dS]at g0 g1 g m k;exact⟨.pointer (some ⟨b,f+i*5,none⟩),by rw[d];simp[go_sem,hi,cS],by simp[go_sem,fy hC,g0,g1,g,m,k,fL,oG]⟩
def Ni{t n:Nat}{f:List Int}(h:Rd w 5 s L.length (L.flatMap fL))(Z:L.length<=100000)(F:hC w t #[.int .u32 a] 23)(T:rF w n sl f)
  (B:f.length<=100000)(p:t≠n)(z:¬cK sl t)
  (G:L.findIdx? (ofA a)=none->∀g,M0 w g->K (gI (-1)) g)
  (J:∀i (hi:i<L.length),(∀j (r:j<L.length),j<i->ofA a L[j]=false)->ofA a L[i]=true->∀d g,rF g n d (f++[L[i].num])->de (λy=>y=n\/cK sl y) w g->(∀y,cK d y->cK sl y\/w.heap.size<=y)->K (gI (i:Int)) g):
  Ca pQ 138 #[s,.func (.func 147) #[] #[.pointer (some ⟨t,0,none⟩),.pointer (some ⟨n,0,none⟩)]] w K:=by
 apply WG;obtain⟨sa,sc,P⟩:=h.isSl;apply jm (gI (L.length:Int)) w (by rw[P];simp[go_sem])
 refine eS (λst W=>∃(i:Nat) (x:Vt_),i<=L.length/\st=(x,gI i,())/\M0 w W/\∀j,∀r,j<i->ofA a L[j]=false)
  (λst _=>match st.2.1 with| .int _ i=>L.length - i.toNat|_=>0) ⟨0,gI 0,qZ,rfl,lX,λj _ h=>qZ⟩ ?_
 rintro⟨_,_⟩ W ⟨i,x,hi,⟨⟩,e,k⟩ X u;unfold JD;intro _;by_cases m:i<L.length
 ·have b:(i:Int)<(L.length:Int):=qZ;refine qSt1 b ?_;obtain⟨q,H,R⟩:=J7 (h.mod e eQ) m;apply cI H;apply cI R;simp only[kE];refine GC (e.hpk F id) (T.mod e id eQ) B p z λd V C Q E O=>?_;cases hp:ofA a L[i]with
  |true=>
   rw[kx];refine J i m k hp d V ?_ ((e.to).trans Q) λy N=>(E y N).imp id λY=>by have:=e.size;omega
   unfold C7 at C;rw[hp]at C;exact C
  |false=>
   rw[gP];apply qSj i;refine u _ _ ⟨i+1,_,qZ,rfl,e.trans (O hp).1,λj r I=>?_⟩ (by grind);by_cases U:j=i
   ·subst U;exact hp
   ·grind
 ·obtain rfl:i=L.length:=qZ;have b:¬(L.length:Int)<(L.length:Int):=qZ;refine qSf1 b ?_;refine G ?_ W e;rw[fR];intro o M;obtain⟨j,r,rfl⟩:=cX M;exact k j r r
def GR(hi:i<L.length)(d:∀j (e:j<L.length),j<i->ofA a L[j]=false):(L.take i).filter (ofA a)=[]/\(L.take i).filter (λo=> !ofA a o)=L.take i:=by
 have key:∀o∈L.take i,ofA a o=false:=λo b=>by
  obtain⟨j,e,rfl⟩:=cX b;rw[List.getElem_take];rw[cZ]at e;exact d j qZ qZ
 exact⟨ii.2 λo b=>by rw[key o b];simp,fi.2 λo b=>by rw[key o b];rfl⟩
def L7{U x:Nat}{p:List Int}(h:qR w s L)(hn:L.length<=1000)(h2:hC w U #[.int .u32 a] 23)(h6:rF w x sl p)
  (hni:p.length<=50000)(C:U≠x)(O:¬cK sl U)(hd:∀y,cK s y->y≠U/\y≠x/\¬cK sl y)
  (hK:∀s' g w',qR w' s' (L.filter λo=> !ofA a o)->rF w' x g (p++(L.filter (ofA a)).map (·.num))->de (λy=>cK s y\/y=x\/cK sl y) w w' ->(∀y,cK s' y->cK s y)->(∀y,cK g y->cK sl y\/w.heap.size<=y)->K s' w'):
  Ca pQ 146 #[s,.func (.func 147) #[] #[.pointer (some ⟨U,0,none⟩),.pointer (some ⟨x,0,none⟩)]] w K:=by
 apply ZG;refine Ni h.rd qZ h2 h6 qZ C O (λJ w1 Q=>?_) λi0 F hno I sl1 w1 ids1 Q n1=>?_
 ·refine qSt0 ?_;rw[fR]at J;have e1:L.filter (ofA a)=[]:=ii.2 λo N=>by grind
  have e2:(L.filter λo=> !ofA a o)=L:=fi.2 λo N=>by grind
  rw[e1,e2]at hK;exact hK s sl w1 (h.mod Q eQ) (by simpa using h6.mod Q id eQ) (Q.to) (λ_ h=>h) λ_ h=>.inl h
 ·obtain⟨b,r,rest,rfl,f,hb,hrl,hr1⟩:=h.pos qZ;have hbs:=cB hb;have u:∀y,cK (.slice (some ⟨b,0,none⟩) L.length r) y↔y=b:=λy=>⟨λd=>(by cases d;rfl),λd=>by subst d;exact rfl⟩
  have m:=hd b ((u b).2 rfl);refine qSf0 ?_;apply qSj i0;have hs1:=Q.size
  have h1:=h.mod Q λy d f=>by
   rw[u]at d;subst d;rcases f with f|f
   ·exact m.2.1 f
   ·exact m.2.2 f
  obtain⟨t1,t2⟩:=GR F hno
  refine eS (λst W=>∃(i j:Nat) (M:List Od) (g:Vt_),st=(gI i,gI j,())/\i<j/\j<=L.length/\qR W (.slice (some ⟨b,0,none⟩) L.length r) M/\M.length=L.length/\M.take i=(L.take j).filter (λo=> !ofA a o)/\M.drop j=L.drop j/\
    rF W x g (p++((L.take j).filter (ofA a)).map (·.num))/\de (λy=>y=b\/y=x\/cK sl y) w W/\∀y,cK g y->cK sl y\/w.heap.size<=y)
   (λst _=>match st.2.1 with| .int _ j=>L.length - j.toNat|_=>0) ⟨i0,i0+1,L,sl1,rfl,qZ,F,h1,rfl,?_,rfl,?_,Q.mono λ_ _ h=>.inr h,n1⟩ ?_
  ·rw[eA F,dJ,t2,cY (by rw[I];simp)];simp
  ·rw[eA F,dJ,t1,dI I];exact ids1
  rintro _ W ⟨i,j,M,g,rfl,hij,hjL,r1,r2,r3,r4,r5,r6,r7⟩ KN hKN;unfold Qy;intro _;refine qN0 ?_;have hMW:=r6.size
  have Y:¬cK g U:=λf=>by
   rcases r7 _ f with t|t
   ·exact O t
   ·have:=cB h2;omega
  have H:¬cK g b:=λf=>by
   rcases r7 _ f with t|t
   ·exact m.2.2 t
   ·omega
  have h2W:=r6.hpk h2 λf=>by
   rcases f with f|f|f
   ·exact m.1 f.symm
   ·exact C f
   ·exact O f
  by_cases B:j<L.length
  ·apply cx (.bool true) W (by simp[go_sem];omega);rw[kx]
   have hMj:M[j]'qZ=L[j]:=by
    have e:=fC (λl=>l[0]?) r4;simp only[iY,dS]at e;rw[cE qZ,cE B]at e;exact dB e
   have hrd:=r1.rd;obtain⟨pj,f1,f2⟩:=J7 (i:=j) hrd qZ;rw[hMj]at f2
   have E:(p++((L.take j).filter (ofA a)).map (·.num)).length<=100000:=by
    have h1:=dm (ofA a) (L.take j);rw[cD,cz];rw[cZ]at h1;omega
   refine dK.at (λst W' =>∃(i' :Nat) (V:List Od) (n:Vt_),st=(gI i',())/\i' <j+1/\qR W' (.slice (some ⟨b,0,none⟩) L.length r) V/\V.length=L.length/\V.take i' =(L.take (j+1)).filter (λo=> !ofA a o)/\V.drop (j+1)=L.drop (j+1)/\
    rF W' x n (p++((L.take (j+1)).filter (ofA a)).map (·.num))/\de (λy=>y=b\/y=x\/cK sl y) w W' /\∀y,cK n y->cK sl y\/w.heap.size<=y) ?_ ?_
   ·refine cI f1 (cI f2 ?_);obtain⟨W1,e1,b1,m1'⟩:=kD W;apply cI e1;obtain⟨q,hq⟩:=dW W.heap.size;rw[<-hq]at b1|-;obtain⟨W2,e2,b2,m2'⟩:=jK (o' :=L[j]) b1;apply ir e2;have M2:=m1'.on m2' λy d=>gz;apply cI (lM (o:=L[j]) (At.all b2));simp only[kE];have i2:=r5.mod M2 id eQ
    have hqsl:¬(q=x\/cK g q):=λf=>by
     rcases f with f|f
     ·have:=cB r5.at_;omega
     ·have:=r5.own.lt f;omega
    refine GC (M2.hpk h2W id) i2 E C Y λn W3 i3 m3 n3 f3=>?_;refine qS0 ?_
    have M3:de (λy=>y=b\/y=x\/cK sl y) w W3:=by
     refine(r6.trans (M2.to (G:=λy=>y=b\/y=x\/cK sl y))).on m3 λy d=>?_;rcases d with d|d
     ·grind
     ·rcases r7 y d with t|t
      ·grind
      ·exact .inr t
    have o3:=(r1.mod M2 eQ).mod m3 λy d f=>by
     rw[u]at d;subst d;rcases f with f|f
     ·exact m.2.1 f
     ·exact H f
    have b3:=m3.hpk b2 hqsl
    have R:∀y,cK n y->cK sl y\/w.heap.size<=y:=λy d=>by
     rcases n3 y d with t|t
     ·exact r7 y t
     ·exact .inr (by have:=M2.size;omega)
    have X:C7 a (p++((L.take j).filter (ofA a)).map (·.num)) L[j]=p++((L.take (j+1)).filter (ofA a)).map (·.num):=by
     unfold C7;rw[eA B,dJ];cases N:ofA a L[j]with
     |true=>rw[dI N];simp
     |false=>rw[cY (by rw[N];simp)];simp
    rw[X]at i3
    have hdr:M.drop (j+1)=L.drop (j+1):=by
     have:=fC (List.drop 1) r4
     rwa[eN,eN]at this
    cases N:ofA a L[j]with
    |false=>
     rw[show(!false)=true from rfl,cy,bZ rfl];apply cI (lM (o:=L[j]) (At.all b3));obtain⟨pi,g1,g2⟩:=qR.el (l:=M) o3 (i:=i) qZ (sl:=.slice (some ⟨b,0,none⟩) L.length r) (w:=W3);obtain⟨-,g4⟩:=g2 W3 M o3 qZ;obtain⟨W4,s4,o4,m4⟩:=g4 L[j];refine cI (g1 W3) (ir s4 ?_);apply qSj i;have m4' :=m4.mono λy _ d=>(u y).1 d;refine⟨i+1,M.set i L[j],n,rfl,qZ,o4,by grind,?_,?_,i3.mod m4' (λe=>m.2.1 e.symm) λy d e=>?_,M3.trans (m4'.mono λy _ d=>.inl d),R⟩
     ·rw[eA (by grind),gV,List.take_set_of_le (cJ _),r3,eA B,dJ,dI (by rw[N];rfl)];rfl
     ·rw[List.drop_set_of_lt qZ];exact hdr
     ·subst e;rcases R y d with t|t
      ·exact m.2.2 t
      ·omega
    |true=>
     rw[show(!true)=false from rfl,cy,aZ gL];refine⟨i,M,n,rfl,qZ,o3,r2,?_,hdr,i3,M3,R⟩;rw[r3,eA B,dJ,cY (by rw[N];simp)];simp
   rintro _ W' ⟨i',V,n,rfl,u1,u2,u3,u4,u5,u6,u7,u8⟩;unfold RD;intro _;apply qSj j;exact hKN _ _ ⟨i',j+1,V,n,rfl,u1,B,u2,u3,u4,u5,u6,u7,u8⟩ (by grind)
  ·obtain rfl:j=L.length:=qZ;refine qSf0 ?_;rw[cN]at r3 r5;apply cI (yI mH B9 (show i<=L.length by omega) f qZ W);obtain⟨b',Z,k,he',hc',hb',hrl',hr1'⟩:=r1.pos qZ;obtain⟨rfl,-,rfl⟩:b=b' /\L.length=M.length/\r=Z:=by simpa using he'
   have hMl:(M.flatMap fL).length=M.length*5:=by rw[wT gM]
   refine Ek mH (eO Oh) hb' (by grind) λz hz hz1=>?_;have T:(M.take i).length=i:=by grind
   have hA:((M.take i).flatMap fL).length=i*5:=by rw[wT gM,T]
   have P:mh (M.flatMap fL++k) (i*5) z=(M.take i).flatMap fL++(z++k):=by
    unfold mh;rw[hz,dh (by rw[hMl];omega),SN gM,df,show i*5+(L.length - i)*(4+1)=(M.flatMap fL).length by rw[hMl];omega,fj]
   apply cI (IU mH B9 (show i<=r by omega) qZ _);have m9:de (λy=>y=b) W (W.setRow b (mh (M.flatMap fL++k).toArray.toList (i*(4+1)) z).toArray):=(de.refl (λy=>y=b) W).setRow (.inl rfl) _;refine hK _ g _ (?_ :qR _ _ _) (r5.mod m9 (λe=>m.2.1 e.symm) λy d e=>H (e▸d)) ((r6.mono λy _ d=>?_).trans (m9.mono λy _ d=>.inl ((u y).2 d))) (λy d=>(u y).2 (by cases d;rfl)) r7
   ·rw[<-r3];refine⟨by rw[hA,T],.inr ⟨b,r,z++k,by rw[T],qZ,?_,?_,?_⟩⟩
    ·rw[ij,bZ rfl,hb'];rw[P]
    ·grind
    ·grind
   ·rcases d with d|d
    ·grind
    ·exact .inr d
def wg(a k:Int)(S:Ven)(i:Nat):List Int×Ven:=((S.nums.take i).filter λn=>decide (k=0\/k=n)).foldl (clr1 a) ([],S)
def Mj(hi:i<S.cal.l.length):wg a k S (i+1)=if k=0\/k=S.cal.l[i].spec.num then clr1 a (wg a k S i) S.cal.l[i].spec.num else wg a k S i:=by
 unfold wg;have b:i<S.nums.length:=by unfold Ven.nums;rw[cz];exact hi
 have c:S.nums[i]=S.cal.l[i].spec.num:=by simp[Ven.nums]
 rw[eA b,dJ,kH,c];by_cases h:k=0\/k=S.cal.l[i].spec.num
 ·grind
 ·grind
def GA:wg a k S S.cal.l.length=S.clear a k:=by
 unfold wg Ven.clear;rw[cT (by unfold Ven.nums;rw[cz];exact cJ _)]
def PD:(wg a k S i).2.cal=S.cal:=C9 _ _ _
def HL(h:B.all.length<=200):(qi B a).2.length<=200:=dD (dm _ _) h
def Ax{c l mb md:Nat}{A:List (Int×Nat)}{D:List (Int×Value)}{fp:Pt->Nat->Prop}(h:ik w v c l mb md A D fp S)(hcal:S.cal.Ok)(hbl:∀n,(S.bd n).length<=50)
  (hK:∀sl Z u w',ik w' v c l mb md A Z u (S.clear a k).2->vO w' sl (S.clear a k).1->de (dY fp) w w' ->(∀y,dY u y->dY fp y\/w.heap.size<=y)->(∀y,cK sl y->w.heap.size<=y/\¬dY u y)->(S.clear a k).1.length<=4000->K sl w'):
  Ca pQ 95 #[eY v,gU a,gU k] w K:=by
 apply ay5;obtain⟨t,Q⟩:=dW w.heap.size
 have hlay:∃w4,(((w.alloc (.cells #[eY v] 39)).alloc (.cells #[.int .u32 a] 23) |>.alloc (.cells #[.int .u32 k] 23)).alloc (.cells #[dv] 49))=w4/\w4.heap.size=t+4/\M0 w w4/\
   hC w4 t #[eY v] 39/\hC w4 (t+1) #[.int .u32 a] 23/\hC w4 (t+2) #[.int .u32 k] 23/\hC w4 (t+3) #[dv] 49:=by
  refine⟨_,rfl,by simp[go_sem,Q],((lm.alloc _).alloc _).alloc _,?_,?_,?_,?_⟩<;>simp[go_sem,Q]
 obtain⟨w4,hw4,hsz4,m4,b0,b1,b2,b3⟩:=hlay;apply cx (pt t 0) (w.alloc (.cells #[eY v] 39)) (by rw[Q];rfl);apply cx (pt (t+1) 0) ((w.alloc (.cells #[eY v] 39)).alloc (.cells #[.int .u32 a] 23)) (by simp[go_sem,Q]);apply cx (pt (t+2) 0) (((w.alloc (.cells #[eY v] 39)).alloc (.cells #[.int .u32 a] 23)).alloc (.cells #[.int .u32 k] 23)) (by simp[go_sem,Q]);apply cx (pt (t+3) 0) w4 (by rw[<-hw4];simp[go_sem,Q,dv]);clear hw4;have h4:=h.md0 m4;have lv0:∀W,hC W t #[eY v] 39->(iL 39 (pt t 0)).run pQ W=.ok (eY v) W:=λW hW=>by simp[go_sem,hW,eY]
 have lv1:∀W,hC W (t+1) #[.int .u32 a] 23->(iL 23 (pt (t+1) 0)).run pQ W=.ok (gU a) W:=λW hW=>by simp[go_sem,hW]
 have lv2:∀W,hC W (t+2) #[.int .u32 k] 23->(iL 23 (pt (t+2) 0)).run pQ W=.ok (gU k) W:=λW hW=>by simp[go_sem,hW]
 apply cI (lv0 _ b0);simp only[eY,dr];refine cI (jk 0 qZ _) (cI (EQ _ h4.blk) ?_);refine zq h4.cal λgv w5 ht m5=>?_;have M5:=m4.trans m5;have h5:=h4.md0 m5;have g0:=m5.hpk b0 id;have g1:=m5.hpk b1 id;have g2:=m5.hpk b2 id;have g3:=m5.hpk b3 id;have hs5:=m5.size;have hfl:∀pt x,fp pt x->x<t:=λpt x C=>by rw[Q];exact h.lt C
 have E:∀x,dY fp x->x<t:=λx ⟨pt,C⟩=>hfl pt x C
 let I:(Nat->Prop)->Nat->World->Prop:=λX i W=>∃(Z:List (Int×Value)) (u:Pt->Nat->Prop) (sl:Vt_),ik W v c l mb md A Z u (wg a k S i).2/\rF W (t+3) sl (wg a k S i).1/\(∀y,X y↔dY u y\/y=t+3\/cK sl y)/\
  (∀y,dY u y->(dY fp y\/t+3<y))/\(∀y,cK sl y->t+3<y/\¬dY u y)/\(wg a k S i).1.length<=250*i/\∀n,((wg a k S i).2.bd n).length<=50
 have hT0:wg a k S 0=([],S):=rfl
 delta UK
 refine CX (X0:=λx=>dY fp x\/x=t+3) (fv:=λk:Ct=>.agg (fI k).toArray) (asg:=λx W K=>rx pQ (nE oT) W λv w1=>nj pQ (jH oT v x) w1 λw2=>K v w2) (Pv:=AR oT fI) ht Ar wQ I (λ_ _ _=>False) ?_ (λ_ _ _ _ _ h=>h.elim) (λx C=>?_) ⟨D,fp,dv,by rw[hT0];exact h5,by rw[hT0];exact⟨g3,jo.nil _ _ _,λy f=>(by cases f)⟩,λy=>?_,λy f=>.inl f,λy f=>(by cases f),by rw[hT0];simp,by rw[hT0];exact hbl⟩ ?_ ?_ (λ_ _ _ _ _ h=>h.elim)
 ·rintro X i W W' H ⟨Z,u,sl,i1,Y,P,i4,i5,i6,i7⟩ hm hX;exact⟨Z,u,sl,i1.mod hm λpt y f=>hX y ((P y).2 (.inl ⟨pt,f⟩)),Y.mod hm (hX _ ((P _).2 (.inr (.inl rfl)))) λy f=>hX y ((P y).2 (.inr (.inr f))),P,i4,i5,i6,i7⟩
 ·rcases C with C|C
  ·have:=E x C;omega
  ·omega
 ·constructor
  ·rintro(C|C)
   ·exact .inl C
   ·exact .inr (.inl C)
  ·rintro(C|C|C)
   ·exact .inl C
   ·exact .inr C
   ·cases C
 ·rintro X i hi W q vv ⟨Z,u,sl,i1,Y,P,i4,i5,i6,i7⟩ mW hX hdq hqW ⟨rfl,zgq⟩ ⟨rec0,hrec⟩ KN KJ hKN hKJ
  have f0:=mW.hpk g0 λr=>by
    rcases r with r|r;·have:=E _ r;omega
    ·omega
  have f1:=mW.hpk g1 λr=>by
    rcases r with r|r;·have:=E _ r;omega
    ·omega
  have f2:=mW.hpk g2 λr=>by
    rcases r with r|r;·have:=E _ r;omega
    ·omega
  obtain⟨n,hn⟩:=dW ((S.cal.l[i]).spec.num);have F:=Mj (a:=a) (k:=k) hi;rw[<-hn]at F;have hXs:∀b,X b->b<W.heap.size:=λb hb=>by grind
  have hsome:(eR (wg a k S i).2.cal.l n).isSome=true:=by
   rw[PD];exact vj.1 (by rw[hn];exact dn (cC hi))
  obtain⟨T,hT⟩:=dW ((wg a k S i).2);obtain⟨g,hg⟩:=dW ((wg a k S i).1);have hTg:wg a k S i=(g,T):=by rw[hg,hT]
  rw[<-hT]at i1 i7 hsome;rw[<-hg]at Y i6;apply qSv0 (pt q 0);apply qSv0 (pt q 0);apply qSv3 (gU n) zgq G9 hn;refine dK.at (λst W' =>st=(.bool (decide (¬(k=0\/k=n))),())/\W=W') ?_ ?_
  ·apply cI (lv2 _ f2);by_cases hk0:k=0
   ·apply qSv1 (.bool false) hk0;rw[gP];exact⟨by simp[hk0],rfl⟩
   ·apply qSv1 (.bool true) hk0;rw[kx];apply cI (lv2 _ f2);by_cases L:k=n
    ·apply qSv1 (.bool false) L;exact⟨by simp[L],rfl⟩
    ·apply qSv1 (.bool true) L;exact⟨by simp[hk0,L],rfl⟩
  rintro _ _ ⟨rfl,rfl⟩;unfold Vr;intro _;by_cases L:k=0\/k=n
  case neg=>
   rw[aZ L,hTg]at F;rw[qo L];exact hKN X W ⟨Z,u,sl,by grind,by grind,P,i4,i5,by grind,by grind⟩ lX λb hb=>⟨.inl hb,hXs b hb⟩
  rw[bZ L,hTg]at F;rw[cy,aZ (by grind)];have z:M0 W W.drew:=mP;have h6:=i1.md0 z;have d6:=Y.mod z id eQ;have c0:=z.hpk f0 id;have c1:=z.hpk f1 id;have hs6:W.drew.heap.size=W.heap.size:=rfl
  try dsimp only
  generalize W.drew=W1 at z h6 d6 c0 c1 hs6|-;apply dp (lv0 _ c0);simp only[eY,dr];obtain⟨b,hb,hB⟩:=Wm h6 (n:=n) hsome;refine dw (jk 2 qZ) (dp (IL _ h6.blk) ?_);apply li (xz h6.mbk hb);apply dp (lv1 _ c1);have hBl:=hB.all;refine KV hB λG so W2 q2 o2 m2 n2 s2=>?_;have h7:=h6.setBk hb m2 q2 n2;obtain⟨O,hO⟩:=dW ((qi (T.bk n) a).2);have hOl:O.length<=200:=by rw[hO];exact HL hBl.1
  rw[<-hO]at o2;obtain⟨oa,oc,hso,-⟩:=o2.isSl;apply oy (gI (O.length:Int)) (by rw[hso];simp[go_sem]);obtain⟨B,hfp2⟩:=dW (mj u (.bk n) G);obtain⟨T2,hT2⟩:=dW ({T with bk:=upd T.bk n (qi (T.bk n) a).1}:Ven);rw[<-hfp2,<-hT2]at h7
  have hp3:¬dY u (t+3):=λr=>by
    rcases i4 _ r with s|s;·have:=E _ s;omega
    ·omega
  have hfB:∀y,u (.bk n) y->dY u y:=λy f=>⟨_,f⟩
  have M:∀y,dY B y->dY u y\/W1.heap.size<=y:=by rw[hfp2];exact zX n2
  have hp32:¬dY B (t+3):=λr=>by
    rcases M _ r with s|s;·exact hp3 s
    ·omega
  have hsl2:∀y,cK sl y->¬dY B y:=λy f r=>by
   rcases M y r with s|s
   ·exact(i5 y f).2 s
   ·have:=Y.own.lt f;omega
  have d7:rF W2 (t+3) sl g:=d6.mod m2 (λr=>hp3 (hfB _ r)) λy f r=>(i5 y f).2 (hfB _ r)
  have hnotB:∀{y},t<=y->y<=t+3->¬u (.bk n) y:=λh1 h2 r=>by
   rcases i4 _ (hfB _ r)with s|s
   ·have:=E _ s;omega
   ·omega
  have e0:=m2.hpk c0 (hnotB qZ qZ);have e1:=m2.hpk c1 (hnotB qZ qZ);have hgl:g.length<=4000:=by have:=hcal.len;omega
  have hs62:=m2.size;have hMW2:de X W W2:=(z.to).trans (m2.mono λy _ f=>(P y).2 (.inl (hfB y f)))
  refine eS (λst V=>∃(j:Nat) (R:Vt_),j<=O.length/\st=(gI j,())/\rF V (t+3) R (g++(O.take j).map (·.num))/\de (λy=>y=t+3\/cK sl y) W2 V/\∀y,cK R y->cK sl y\/W2.heap.size<=y)
   (λst _=>match st.1 with| .int _ i=>O.length - i.toNat|_=>0) ⟨0,sl,qZ,rfl,by simpa using d7,lX,λy f=>.inl f⟩ ?_
  rintro⟨_,_⟩ V ⟨j,R,hj,⟨⟩,t1,t2,t3⟩ KM hKM;unfold VC;intro _;have hs25:=t2.size;have hslW2:∀y,cK sl y->y<W2.heap.size:=λy f=>d7.own.lt f
  have o5:qR V so O:=o2.mod t2 λy f r=>by
   have h1:=(s2 y f).1;rcases r with r|r
   ·omega
   ·have:=d6.own.lt r;omega
  have hil:(g++(O.take j).map (·.num)).length<=5000:=by grind
  by_cases hlt:j<O.length
  ·have hlt' :(j:Int)<(O.length:Int):=qZ;apply qSv1 (.bool true) hlt';rw[kx];obtain⟨pj,p1,p2⟩:=J7 o5.rd hlt;refine cI p1 (cI p2 ?_);obtain⟨w7,e7,b7,m7⟩:=kD V;apply cI e7;obtain⟨q5,hq5⟩:=dW V.heap.size;rw[<-hq5]at b7|-;obtain⟨w8,e8,b8,m8⟩:=jK (o' :=O[j]) b7;apply ir e8;have M8:M0 V w8:=m7.on m8 λb hb=>gz;have t8:=t1.mod M8 id eQ;apply cI t8.ld;refine cx (pt q5 0) w8 (by simp[go_sem]) (cx (gQ O[j].num) w8 (by simp[go_sem,b8,fL]) ?_);refine LI t8 qZ λsl9 w9 i9 m9 n9=>?_;apply cx (gI ((j+1:Nat):Int)) w9 (by simp[go_sem];rw[wI_]);have hs8:=M8.size;refine hKM _ _ ⟨j+1,sl9,qZ,rfl,?_,(t2.trans (M8.to)).on m9 λy f=>?_,λy f=>?_⟩ (by grind)
   ·rw[eA hlt,dy,<-df];exact i9
   ·rcases f with f|f
    ·exact .inl (.inl f)
    ·exact(t3 y f).imp .inr id
   ·rcases n9 y f with s|s
    ·exact t3 y s
    ·exact gz
  ·obtain rfl:j=O.length:=qZ;apply qSv0 (.bool false);rw[gP];rw[cN]at t1 hil
   have h8:=h7.mod t2 λpt y f r=>by
    rcases r with r|r
    ·subst r;exact hp32 ⟨pt,f⟩
    ·exact hsl2 y r ⟨pt,f⟩
   have hns:∀{y},t<=y->y<t+3->¬(y=t+3\/cK sl y):=λh1 h2 r=>by
    rcases r with r|r
    ·omega
    ·have:=(i5 _ r).1;omega
   have k0:=t2.hpk e0 (hns qZ qZ);have k1:=t2.hpk e1 (hns qZ qZ);have z:M0 V V.drew:=mP;have J:=h8.md0 z;have t9:=t1.mod z id eQ;have l0:=z.hpk k0 id;have l1:=z.hpk k1 id;have hs9:V.drew.heap.size=V.heap.size:=rfl
   try dsimp only
   generalize V.drew=W6 at z J t9 l0 l1 hs9|-;apply dp (lv0 _ l0);simp only[eY,dr];refine dw (jk 3 qZ) (dp (AJ _ J.blk) ?_);apply dp (lv0 _ l0);simp only[eY,dr];refine dw (jk 3 qZ) (dp (AJ _ J.blk) ?_);apply li (uF J.mbd n);have hbd:=J.bd n;have hbdl:(T2.bd n).length<=50:=by rw[hT2];exact i7 n
   have N:∀y,cK R y->t+3<y/\¬dY B y:=λy f=>by
    rcases t3 y f with s|s
    ·exact⟨(i5 y s).1,hsl2 y s⟩
    ·exact⟨qZ,λ⟨pt,r⟩=>by have:=h7.lt r;omega⟩
   have hfd:∀y,cK (rz Z n) y->dY B y:=λy f=>⟨.bd n,(J.fbd n y).2 f⟩
   have hlow:∀y,dY B y->y<t\/t+3<y:=λy f=>by
    rcases M y f with s|s
    ·rcases i4 y s with h'' |h''
     ·exact .inl (E y h'')
     ·exact .inr h''
    ·exact gz
   refine L7 hbd qZ l1 t9 qZ qZ (λr=>by grind) (λy f=>?_) λs' sl6 W7 o7 i7' m7 n7 n7' =>?_
   ·have:=hlow y (hfd y f);exact⟨qZ,qZ,λr=>(N y r).2 (hfd y f)⟩
   have hsp:∀y,cK R y->∀pt,¬B pt y:=λy f pt r=>(N y f).2 ⟨pt,r⟩
   have hE:∀p x,p≠ .bd n->B p x->¬(cK (rz Z n) x\/x=t+3\/cK R x):=λp x hp C r=>by
    rcases r with r|r|r
    ·exact J.ap hp x C ((J.fbd n x).2 r)
    ·subst r;exact hp32 ⟨p,C⟩
    ·exact hsp x r p C
   have blk7:=m7.hpk J.blk (hE .v _ (by simp) J.self);have mbd7:=J.mbd.mod m7 (hE .md _ (by simp) ((J.fmd md).2 rfl))
   have z0:=m7.hpk l0 λr=>by
    rcases r with r|r|r
    ·have:=hlow _ (hfd _ r);omega
    ·omega
    ·have:=(N _ r).1;omega
   refine⟨AJ _ blk7,lv0 _ z0,?_⟩;refine kV (enc:=iI) (ev:=yh) (x:=n) (v:=s') xn rP mbd7 λW8 a8 m8 hs8=>?_;have hsome2:(eR T2.cal.l n).isSome=true:=by grind
   have h10:=J.setBdG (n:=n) hsome2 m7 hE o7 (λy f=>.inl ((J.fbd n y).2 (n7 y f))) a8 m8;have hmdA:dY B md:=⟨.md,(J.fmd md).2 rfl⟩
   have hs7:=m7.size
   have i10:=i7'.mod m8 (λe=>hp32 (by rw[e];exact hmdA)) λy f e=>by
    subst e;rcases n7' y f with s|s
    ·exact hsp y s .md ((J.fmd y).2 rfl)
    ·have:=J.lt ((J.fmd y).2 rfl);omega
   obtain⟨fp3,hfp3⟩:=dW (mj B (.bd n) (cK s'));rw[<-hfp3]at h10
   have U:∀y,dY fp3 y->dY B y:=λy ⟨pt,f⟩=>by
    rw[hfp3]at f;by_cases hpt:pt=.bd n
    ·subst hpt;rw[ip]at f;exact hfd y (n7 y f)
    ·rw[eH hpt]at f;exact⟨pt,f⟩
   have hclr:wg a k S (i+1)=(g++O.map (·.num)++((T2.bd n).filter (ofA a)).map (·.num),{T2 with bd:=upd T2.bd n ((T2.bd n).filter λo=> !ofA a o)}):=by
    rw[F,hT2,hO];rfl
   have hXW:∀y,dY B y->X y\/W.heap.size<=y:=λy f=>(M y f).imp (λs=>(P y).2 (.inl s)) λs=>by omega
   have hXs5:∀y,cK R y->X y\/W.heap.size<=y:=λy f=>(t3 y f).imp (λs=>(P y).2 (.inr (.inr s))) λs=>by omega
   refine hKN (λy=>dY fp3 y\/y=t+3\/cK sl6 y) W8 ⟨put Z n s',fp3,sl6,by grind,by grind,λy=>fd,λy f=>?_,λy f=>?_,?_,λm=>?_⟩ ?_ λy f=>?_
   ·rcases M y (U y f)with s|s
    ·exact i4 y s
    ·exact gz
   ·rcases n7' y f with s|s
    ·exact⟨(N y s).1,λr=>(N y s).2 (U y r)⟩
    ·exact⟨qZ,λr=>by obtain⟨pt,hp⟩:=U y r;have:=J.lt hp;omega⟩
   ·rw[hclr];have h1:=dm (ofA a) (T2.bd n);simp only[cD,cz];omega
   ·rw[hclr];show(upd T2.bd n _ m).length<=50;by_cases hmn:m=n
    ·subst hmn;rw[upd_self];exact dD (dm _ _) hbdl
    ·rw[upd_ne _ _ _ hmn,hT2];exact i7 m
   ·have m25:de X W V:=hMW2.on t2 λy f=>by
     rcases f with f|f
     ·exact .inl ((P y).2 (.inr (.inl f)))
     ·exact .inl ((P y).2 (.inr (.inr f)))
    refine((m25.trans (z.to)).on m7 λy f=>?_).on m8 λy f=>?_
    ·rcases f with f|f|f
     ·exact hXW y (hfd y f)
     ·exact .inl ((P y).2 (.inr (.inl f)))
     ·exact hXs5 y f
    ·exact hXW y (by rw[f];exact hmdA)
   ·rcases f with f|f|f
    ·refine⟨hXW y (U y f),?_⟩;obtain⟨pt,hp⟩:=f;exact h10.lt hp
    ·exact⟨.inl ((P y).2 (.inr (.inl f))),by grind⟩
    ·refine⟨?_,i10.own.lt f⟩;rcases n7' y f with s|s
     ·exact hXs5 y s
     ·exact gz
 ·rintro X W d hd ⟨Z,u,sl,i1,Y,P,i4,i5,i6,i7⟩ mW hdef hX;replace i1:ik W v c l mb md A Z u (wg a k S S.cal.l.length).2:=i1;replace Y:rF W (t+3) sl (wg a k S S.cal.l.length).1:=Y;rw[GA]at i1 Y
  have hlen:(S.clear a k).1.length<=4000:=by
   have:=hcal.len;rw[<-GA];have i6' :(wg a k S S.cal.l.length).1.length<=250*S.cal.l.length:=i6;omega
  unfold VU;simp only[iJ];apply cI Y.ld;obtain⟨sa,sc,hsl,-⟩:=Y.own.isSl;have hat:=Y.at_;apply pH (W.setCell ⟨t+3,0,none⟩ sl) (by rw[hsl]at hat|-;simp[go_sem,hat]);have mS:de (λy=>y=t+3) W (W.setCell ⟨t+3,0,none⟩ sl):=(de.refl (λy=>y=t+3) W).sc;have bS:hC (W.setCell ⟨t+3,0,none⟩ sl) (t+3) #[sl] 49:=by simp[go_sem,hat]
  generalize W.setCell ⟨t+3,0,none⟩ sl=W2 at mS bS|-
  have hp3:¬dY u (t+3):=λr=>by
    rcases i4 _ r with s|s;·have:=E _ s;omega
    ·omega
  have hdX:¬X d:=λr=>by
   rcases(hX d r).2 with s|s
   ·rcases s with s|s
    ·have:=E _ s;omega
    ·omega
   ·omega
  have hdef2:=mS.hpk hdef qZ;refine Bz hdef2 λW3 mr=>?_;have b3' :=mr.hpk bS qZ;have j1:=(i1.mod mS λpt y f e=>hp3 (e▸⟨pt,f⟩)).mod mr λpt y f e=>hdX ((P d).2 (.inl (e▸⟨pt,f⟩)));have j2:=(Y.own.mod mS λy f e=>by grind).mod mr λy f e=>hdX ((P d).2 (.inr (.inr (e▸f))));apply oy sl (by rw[hsl]at b3' |-;simp[go_sem,b3']);refine hK sl Z u W3 j1 j2 ?_ (λy f=>(i4 y f).imp id λs=>qZ) (λy f=>⟨by grind,(i5 y f).2⟩) hlen;refine(((M5.to (G:=dY fp)).on mW λy f=>?_).on mS λy f=>gz).on mr λy f=>gz;rcases f with f|f
  ·exact .inl f
  ·exact gz
def Ox(n:Int):Value:=gI n
def Vw:Tryz.prog.underlying 217=some (.map 23 2):=cU
def aD6:qw pQ 2=some (gI 0):=cU
def vJ(w:Wt_)(mw:Nat)(won:Int->Int):Prop:=∃L:List (Int×Int),fB iI Ox w mw L/\∀n,(lk L n).getD 0=won n
def vJ.mod{a:Nat}{won:Int->Int}(h:vJ w a won)(b:de F w w')(d:¬F a):vJ w' a won:=by
 obtain⟨L,c,e⟩:=h;exact⟨L,c.mod b d,e⟩
def vJ.look{a:Nat}{won:Int->Int}(h:vJ w a won)(n:Int):(ji 217 (.map (some a)) (gU n) false).run pQ w=.ok (gI (won n)) w:=by
 obtain⟨L,c,d⟩:=h;have:=rA (ok:=false) (x:=n) Vw rP aD6 (.inr ⟨a,rfl,c⟩:DR iI Ox w (.map (some a)) L);rw[<-d n];cases b:lk L n with
 |none=>rw[b]at this;exact this
 |some x=>rw[b]at this;exact this
abbrev Gv:TypeId:=70
def YX{r:Nat}{a:Ac}(x:Int)(h:hC W r (dH a).toArray Gv):
  ∃c,(iS 2 (pt r 1) (gI x)).run pQ W=.ok () c/\hC c r (dH {a with cash:=x}).toArray Gv/\de (λb=>b=r) W c:=by
 unfold dH at h;exact⟨W.setCell ⟨r,1,none⟩ (gI x),by simp[go_sem,h],by simp[go_sem,h,dH],(de.refl (λb=>b=r) W).sc⟩
def VW{r:Nat}{a:Ac}(x:Bool)(h:hC W r (dH a).toArray Gv):
  ∃c,(iS 4 (pt r 3) (.bool x)).run pQ W=.ok () c/\hC c r (dH {a with dfl:=x}).toArray Gv/\de (λb=>b=r) W c:=by
 unfold dH at h;exact⟨W.setCell ⟨r,3,none⟩ (.bool x),by simp[go_sem,h],by simp[go_sem,h,dH],(de.refl (λb=>b=r) W).sc⟩
def O6{r:Nat}{a:Ac}(h:hC W r (dH a).toArray Gv):(iL Gv (pt r 0)).run pQ W=.ok (oz a) W:=by
 unfold dH at h;simp[go_sem,h,oz]
def eDu:lN pQ 259 3 24=true:=cU
def De:Tryz.prog.underlying 50=some (.slice 23):=cU
def ac6:lN pQ 23 1 4=true:=cU
def Yd{d:Vt_}{L:List Int}(h:hC W q (mC r sT sG sA).toArray lx)(g:∃a n c,d=.slice a n c)(f:∃a n c,sA=.slice a n c):
  ∃e,(iS 50 (pt q 6) d).run pQ W=.ok () e/\hC e q (mC {r with accts:=L} sT sG d).toArray lx/\de (λb=>b=q) W e:=by
 obtain⟨_,_,_,rfl⟩:=f;obtain⟨a,n,c,rfl⟩:=g;unfold mC at h;exact⟨W.setCell ⟨q,6,none⟩ (.slice a n c),by simp[go_sem,h],by simp[go_sem,h,mC],(de.refl (λb=>b=q) W).sc⟩
def E7{d:Vt_}{L:List Int}(h:hC W q (mC r sT sG sA).toArray lx)(g:∃a n c,d=.slice a n c)(f:∃a n c,sG=.slice a n c):
  ∃e,(iS 49 (pt q 5) d).run pQ W=.ok () e/\hC e q (mC {r with gone:=L} sT d sA).toArray lx/\de (λb=>b=q) W e:=by
 obtain⟨_,_,_,rfl⟩:=f;obtain⟨a,n,c,rfl⟩:=g;unfold mC at h;exact⟨W.setCell ⟨q,5,none⟩ (.slice a n c),by simp[go_sem,h],by simp[go_sem,h,mC],(de.refl (λb=>b=q) W).sc⟩
def WU(h:hC W q (mC r sT sG sA).toArray lx)(b:∃a n c,sA=.slice a n c):(iL 50 (pt q 6)).run pQ W=.ok sA W:=by
 obtain⟨_,_,_,rfl⟩:=b;simp[go_sem,h,mC]
def Lp(h:hC W q (mC r sT sG sA).toArray lx)(b:∃a n c,sG=.slice a n c):(iL 49 (pt q 5)).run pQ W=.ok sG W:=by
 obtain⟨_,_,_,rfl⟩:=b;simp[go_sem,h,mC]
def X6{s1:Vt_}{L d:List Int}(h:vO w s L)(g:vO w s1 d)(l:L.length+d.length<=1000000)
  (i:∀a c,vO c a (L++d)->de (cK s) w c->(∀b,cK a b->cK s b\/w.heap.size<=b)->K a c):rx pQ (eg #[49,49] 49 [s,s1]) w K:=by
 refine jR yu yu (eO Ry) h g.rd (dF.2 λx e=>?_) qZ λa c k j f=>i a c ?_ j f
 ·rw[GP]at e;obtain⟨y,-,rfl⟩:=cF.1 e;rfl
 ·grind
structure BN(w:Wt_)(q:Nat)(sG sA:Vt_)(r:Rp)(lo:Nat)(Z:NP_):Prop where
 at_:hC w q (mC r dv sG sA).toArray lx
 rp:vG w dv sG sA r
 nw:∀y,cK sG y\/cK sA y->lo<=y/\y≠q/\¬Z y
def BN.mod{Z:NP_}{lo:Nat}(h:BN w q sG sA r lo Z)(b:de F w w')(d:¬F q)(c:∀y,cK sG y\/cK sA y->¬F y):BN w' q sG sA r lo Z:=
 ⟨b.hpk h.at_ d,h.rp.mod b λx a=>by
   rcases a with a|a;·cases a
   ·exact c x a,h.nw⟩
def BN.z{Z b:NP_}{lo:Nat}(h:BN w q sG sA r lo Z)(c:∀y,cK sG y\/cK sA y->¬b y):BN w q sG sA r lo b:=⟨h.at_,h.rp,λy a=>⟨(h.nw y a).1,(h.nw y a).2.1,c y a⟩⟩
end Go.Proofs
