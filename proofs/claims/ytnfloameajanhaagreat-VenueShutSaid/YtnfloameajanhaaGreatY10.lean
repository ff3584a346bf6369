/- Part of a proof. -/
import Derived.Test.YtnfloameajanhaaGreatY9
set_option linter.all false
namespace Go.Proofs
open Go Go.Vc
attribute [local congr] cR
variable {k:Int}{b:Nat}{W w:Wt_}
structure Lg where
 spec:Sp
 q:Int
variable {x:Lg}
def wX(x:Lg):List Value:=jA x.spec++[.int .i64 x.q]
def kZ(x:Lg):(wX x).length=26:=by simp[wX,dP]
def FT(x:Lg):(wX x).all (·.oneCell')=true:=by rw[wX,gj,xS];rfl
def lgT(x:Lg)(i:Nat)(h:i<25):(wX x)[i]? =(jA x.spec)[i]? :=by rw[wX,dC (by rw[dP];omega)]
def QU(x:Lg):(wX x)[25]? =some (gI x.q):=by rw[wX,cQ (by rw[dP];omega),dP];rfl
def av4(s:Sp):(jA s)[1]? =some (gB s.route):=rfl
def Zj(s:Sp):(jA s)[22]? =some (gI s.credit):=by have:=WJ s [];rwa[ew]at this
def ae8:Tryz.prog.underlying 146=some (.slice 94):=cU
def nLg:Tryz.prog.cellsOf 94=25+1:=cU
def aLg:pY pQ 94=true:=cU
def zLg:se pQ 94=true:=cU
def aw0:(lT pQ 94).length=25+1:=cU
def eLg:lN pQ 94 26 200=true:=cU
abbrev LgS(w:Wt_)(sl:Vt_)(l:List Lg):Prop:=jo w 94 26 sl l.length (l.flatMap wX)
def Vd{K:Value->World->Prop}(c:∀a,hC a W.heap.size (wX x).toArray 94->M0 W a->K (pt W.heap.size 0) a):
  rx pQ (nE 94) W λv b=>nj pQ (jH 94 v (.agg (wX x).toArray)) b λa=>K v a:=by
 apply xM 25 zLg nLg (kZ x) aw0 (FT x);exact c _ (by simp[go_sem]) lm
def ac0{s:Vt_}{l:List Lg}(h:Rd w 26 s l.length (l.flatMap wX)){x:Nat}(e:x<l.length):
  ∃p,(iX 146 s (gI (x:Int))).run pQ w=.ok p w/\(fH 94 p).run pQ w=.ok (.agg (wX l[x]).toArray) w:=by
 obtain⟨b,a,f,c,d,g⟩:=h.item kZ e rfl;exact⟨.pointer (some ⟨b,a+x*26,none⟩),by rw[c];simp[go_sem,e,cS,ae8],gm aLg nLg (kZ _) g⟩
structure Rt where
 scans:Int
 longs:Int
 shorts:Int
 rate:Int
variable {a:List Rt}
def I7(r:Rt):List Value:=[.int .i64 r.scans,gI r.longs,gI r.shorts,gI r.rate]
def wB(r:Rt):(I7 r).length=4:=rfl
def S7:Rt:=⟨0,0,0,0⟩
def av3:lT pQ 193=(List.replicate 9 S7).flatMap I7:=cU
def ag9:se pQ 193=true:=cU
def EE{α:Type}{f:α->List Value}{S j:Nat}{v:Vt_}{c:α}(b:∀x,(f x).length=S)(d:j<S):∀(l:List α) (i:Nat) (hi:i<l.length),(f l[i]).set j v=f c->(l.flatMap f).set (i*S+j) v=(l.set i c).flatMap f
 |x::l,0,hi,a=>by
  simp only[iN]at a;rw[eu,nv,eU,gZ _ _ (by rw[b];omega),a];rfl
 |x::l,i+1,hi,a=>by
  have e:(i+1)*S+j=(f x).length+(i*S+j):=by grind
  rw[eu,e,gh _ _ qZ,jN,EE b d l i (by simpa using hi) (by simpa using a)];rfl
def vM{α:Type}{f:α->List Value}{S j:Nat}(b:∀x,(f x).length=S)(c:j<S)(l:List α)(i:Nat)(hi:i<l.length):(l.flatMap f)[i*S+j]? =(f l[i])[j]? :=by
 have d:=oB f S l i (λx _=>b x) hi;have a:(((l.flatMap f).drop (i*S)).take S)[j]? =(f l[i])[j]? :=by rw[d]
 rw[iE,bZ c,iY]at a;exact a
def D9(r:Rt)(x:Lg):Rt:=
 ⟨r.scans+oQ x.spec.shifts.toList x.q,r.longs+max x.q 0,r.shorts+max (-x.q) 0,if(r.longs=0/\r.shorts=0)\/x.spec.credit<r.rate then x.spec.credit else r.rate⟩
def pV(rs:List Rt)(x:Lg):List Rt:=if x.q=0 then rs else match rs[x.spec.route.toNat]? with|some r=>rs.set x.spec.route.toNat (D9 r x)|none=>rs
def A2(x:Lg):Bool:=x.spec.may&& amongB x.q (-10000000) 10000000
def Bv(rs:List Rt):Int:=(rs.map λr=>max 0 (r.scans - min r.longs r.shorts*r.rate)).sum
def CE:List Int->List Lg->Bool
 |_,[]=>false
 |seen,x::l=>seen.contains x.spec.num||CE (x.spec.num::seen) l
def ng(l:List Lg):Int×Int:=
 if 16<l.length then(0,3)else if l.all A2=false then(0,2)else if CE [] l=true then(0,8)else(Bv (l.foldl pV (List.replicate 9 S7)),0)
def Rt.Bd(k:Int)(r:Rt):Prop:=0<=r.scans/\r.scans<=k*100000000000000/\0<=r.longs/\r.longs<=k*10000000/\0<=r.shorts/\r.shorts<=k*10000000/\0<=r.rate/\r.rate<=10000000
def Er{q:Int}(i: -10000000<=q/\q<=10000000):∀{l:List Int},(∀x∈l,-10000000<=x/\x<=10000000)->0<=oQ l q/\oQ l q<=100000000000000:=by
 intro l
 have key:∀(l:List Int) (m:Int),(∀x∈l,-10000000<=x/\x<=10000000)->0<=m/\m<=100000000000000->0<=l.foldl (λm s=>max m (-q*s)) m/\l.foldl (λm s=>max m (-q*s)) m<=100000000000000:=by
  intro l;induction l with
  |nil=>intro m _ h;exact h
  |cons x l g=>
   intro m c j;rw[ig];have d:=E3 (a:= -q) (b:=x) (A:=10000000) (B:=10000000) qZ (c x (by simp));obtain⟨z,e⟩:=dW (-q*x);rw[<-e]at d|-;exact g _ (λy f=>c y (by simp[f])) qZ
 exact λh=>key l 0 h qZ
def A3{s:Sp}(h:s.may=true):(∀x∈s.shifts.toList,-10000000<=x/\x<=10000000)/\1<=s.route/\s.route<=8/\0<=s.credit/\s.credit<=10000000:=by
 unfold Sp.may at h;simp only[cL]at h;obtain⟨⟨⟨⟨⟨⟨⟨⟨⟨⟨d,l⟩,o⟩,m⟩,e⟩,i⟩,n⟩,k⟩,j⟩,c⟩,f⟩:=h;refine⟨λx g=>dR (dF.1 d x g),?_⟩;have a:=dR e;have b:=dR c;unfold MP at b;omega
def QY{r:Rt}(h:r.Bd k)(j:0<=k)(a:A2 x=true):(D9 r x).Bd (k+1):=by
 unfold A2 at a;rw[cL]at a;obtain⟨c,i,d,f,e⟩:=A3 a.1;have b:=dR a.2;have p:=Er b c;obtain⟨m,g,s,l,o,t,n,q⟩:=h;unfold D9;refine⟨?_,?_,?_,?_,?_,?_,?_,?_⟩<;>dsimp only
 ·omega
 ·omega
 ·omega
 ·omega
 ·omega
 ·omega
 ·split<;>omega
 ·split<;>omega
abbrev Fw:TypeId:=193
def ax3:Tryz.prog.underlying Fw=some (.array 9 192):=cU
def nRt:Tryz.prog.cellsOf 192=3+1:=cU
def vE(w:Wt_)(b:Nat)(rs:List Rt):Prop:=hp w b=some (.cells (rs.flatMap I7).toArray Fw (0,0))/\rs.length=9
def vE.mod{F:NP_}{w' :Wt_}(h:vE w b a)(c:de F w w')(d:¬F b):vE w' b a:=⟨c.hpk h.1 d,h.2⟩
def vE.ld(h:vE w b a){i:Nat}(hi:i<9){j:Nat}(c:j<4){x:Int}(d:(I7 (a[i]'(by rw[h.2];exact hi)))[j]? =some (gI x)):
  (iL 2 (pt b (i*4+j))).run pQ w=.ok (gI x) w:=by
 have:=vM wB c a i (by rw[h.2];exact hi);rw[d]at this;simp[go_sem,h.1,this]
def vE.st(h:vE w b a){i:Nat}(hi:i<9){j:Nat}(g:j<4){x:Int}{r' :Rt}(l:(I7 (a[i]'(by rw[h.2];exact hi))).set j (gI x)=I7 r'):
  ∃e,(iS 2 (pt b (i*4+j)) (gI x)).run pQ w=.ok () e/\vE e b (a.set i r')/\de (λy=>y=b) w e:=by
 have f:i<a.length:=by rw[h.2];exact hi
 have c:=EE wB g a i f l;have d:i*4+j<(a.flatMap I7).length:=by rw[wT wB,h.2];omega
 have k:(a.flatMap I7)[i*4+j]? =some ((a.flatMap I7)[i*4+j]):=cE d;refine⟨w.setCell ⟨b,i*4+j,none⟩ (gI x),by simp[go_sem,h.1,k],⟨?_,by rw[ey,h.2]⟩,(de.refl (λy=>y=b) w).sc⟩;rw[nO,bZ rfl,h.1,iK,ed,c]
def vE.ix{i:Nat}(hi:i<9)(k:IntKind)(W:Wt_):(iX Fw (pt b 0) (.int k (i:Int))).run pQ W=.ok (pt b (i*4)) W:=by
 have a:¬(9:Int)<=(i:Int):=qZ;simp[go_sem,hi,a,cS,ax3,Program.elem,Go.Vc.oK nRt]
def xu(b o j:Nat)(a:j<4)(W:Wt_):(iF 192 (pt b o) j).run pQ W=.ok (pt b (o+j)) W:=by
 rcases(show j=0\/j=1\/j=2\/j=3 by omega)with rfl|rfl|rfl|rfl<;>simp[go_sem,cS]
def Aa{x y:Int}(h:jl (x+y)):(qE .add 2 false (gI x) (gI y)).run pQ W=.ok (gI (x+y)) W:=by
 simp[go_sem];rw[uP h.1 h.2]
def On{q:Nat}{f:List Rt}{S:Value×Value×Value×Unit->World->Prop}{K:cG}{s1 s2:Vt_}{i:Nat}(hR:vE W b f)(V:hp W q=some (.cells (wX x).toArray 94 (0,0)))(hbq:b≠q)(hi:i<=1000)(hk:0<=k/\k<=100)(hbd:∀r∈f,r.Bd k)(hok:A2 x=true)(hfit:x.spec.Fit)
  (hK:∀p,vE p b (pV f x)->de (λy=>y=b) W p->S (s1,s2,gI ((i+1:Nat):Int),()) p):
  Li K (pt q 0) (s1,s2,gI (i:Int),()) S (pt b 0) (.bool false,()) W:=by
 have g:=hok;unfold A2 at g;rw[cL]at g;obtain⟨p1,p2,p3,p4,p5⟩:=A3 g.1;have Z:=dR g.2;unfold Li;intro _;rw[gP];have u:∀W,hp W q=some (.cells (wX x).toArray 94 (0,0))->(iL 2 (pt q 25)).run pQ W=.ok (gI x.q) W:=λW h=>by simp[go_sem,h,QU]
 have I:∀W,hp W q=some (.cells (wX x).toArray 94 (0,0))->(iL 2 (pt q 22)).run pQ W=.ok (gI x.spec.credit) W:=λW h=>by simp[go_sem,h,lgT,Zj]
 refine qSv0 (pt q 25) (cI (u _ V) ?_);by_cases z:x.q=0
 ·refine qSt1 z ?_;apply cx (gI ((i+1:Nat):Int)) W (by simp[go_sem];rw[wI_]);have e:pV f x=f:=by unfold pV;rw[bZ z]
  have hk' :=hK W (by rw[e];exact hR) lX;exact hk'
 refine qSf1 z ?_;obtain⟨n,hn⟩:=dW (x.spec.route.toNat:Nat);have hnr:x.spec.route=(n:Int):=qZ;have a:n<9:=qZ;have hnl:n<f.length:=by rw[hR.2];exact a
 obtain⟨r,hr⟩:=dW (f[n]);have hrb:=hbd r (by grind);obtain⟨b1,b2,b3,b4,b5,b6,b7,b8⟩:=hrb;have hw:=Er Z p1;refine qS0 ?_;refine qS0 ?_;apply cx (gB (n:Int)) W (by simp[go_sem,V,lgT,av4,hnr]);apply cI (vE.ix a .u8 W)
 have st:pV f x=f.set n (D9 r x):=by
  unfold pV;rw[aZ z,<-hn,cE hnl,hr]
 obtain⟨s,c⟩:=dW (if(r.longs=0/\r.shorts=0)\/x.spec.credit<r.rate then x.spec.credit else r.rate);have D:∀{W p:Wt_},de (λy=>y=b) W p->hp W q=some (.cells (wX x).toArray 94 (0,0))->hp p q=some (.cells (wX x).toArray 94 (0,0)):=λm h=>m.hpk h (λe=>hbq e.symm);refine dK.at (λ_ p=>vE p b (f.set n ⟨r.scans+oQ x.spec.shifts.toList x.q,r.longs,r.shorts,s⟩)/\de (λy=>y=b) W p) ?_ ?_
 ·simp only[dr];have md:M0 W W.drew:=mP;have F:=hR.mod md id;have A:=md.hpk V id;generalize W.drew=w1 at md F A|-;apply dw (λW=>xu b (n*4) 0 qZ W);have l0:∀w,vE w b f->(iL 2 (pt b (n*4+0))).run pQ w=.ok (gI r.scans) w:=λw h=>h.ld a (j:=0) qZ (by rw[hr];rfl);apply dp (l0 _ F);refine qP0 ?_;refine qP0 ?_
  have hA:At w1 q 6 (xD x.spec.shifts):=by
   have:=(At.all A).sub 6 16 (by rw[kZ];omega);rw[wX,eZ (by rw[dP];omega),dh (by rw[dV,dP];omega),xK]at this;simpa using this
  apply sm (xD x.spec.shifts) 15 Y2 Y4 (rh _) hA;refine qPv0 (pt q 25) (dp (u _ A) ?_);refine Im p1 qZ λw2 m2=>?_;have R:=F.mod m2 id;have hq2:=m2.hpk A id;refine⟨l0 _ R,?_⟩;apply dw (λW=>Aa ⟨qZ,qZ⟩);apply dw (λW=>xu b (n*4) 0 qZ W);obtain⟨L,e3,M,m3⟩:=R.st a (j:=0) qZ (x:=r.scans+oQ x.spec.shifts.toList x.q) (r' :=⟨r.scans+oQ x.spec.shifts.toList x.q,r.longs,r.shorts,r.rate⟩) (by rw[<-hr];rfl);apply ir e3;have O:=D m3 hq2;have v:(f.set n ⟨r.scans+oQ x.spec.shifts.toList x.q,r.longs,r.shorts,r.rate⟩)[n]'(by grind)=⟨r.scans+oQ x.spec.shifts.toList x.q,r.longs,r.shorts,r.rate⟩:=gV _;have M3:de (λy=>y=b) W L:=((md.trans m2).to).trans m3;have t:M0 L L.drew:=mP;refine dK.at (λst p=>st=(.bool (decide ((r.longs=0/\r.shorts=0)\/x.spec.credit<r.rate)),())/\p=L.drew) ?_ ?_
  ·have d:=M.mod t id;have o:=t.hpk O id;generalize L.drew=w4 at d o|-;have l1:=d.ld a (j:=1) qZ (x:=r.longs) (by rw[v];rfl);have l2:=d.ld a (j:=2) qZ (x:=r.shorts) (by rw[v];rfl);have l3:=d.ld a (j:=3) qZ (x:=r.rate) (by rw[v];rfl);simp only[dr];refine dw (λW=>xu b (n*4) 1 qZ W) (dp l1 ?_);by_cases h1:r.longs=0
   ·refine qPt1 h1 ?_;refine dw (λW=>xu b (n*4) 2 qZ W) (dp l2 ?_);by_cases h2:r.shorts=0
    ·refine qPt1 h2 ?_;exact⟨by grind,by trivial⟩
    ·refine qPf1 h2 ?_;refine qP0 ?_;refine qPv0 (pt q 22) (dp (I _ o) ?_);refine dw (λW=>xu b (n*4) 3 qZ W) (dp l3 ?_);refine qP0 ?_;exact⟨by simp[h2],by trivial⟩
   ·refine qPf1 h1 ?_;refine qP0 ?_;refine qPv0 (pt q 22) (dp (I _ o) ?_);refine dw (λW=>xu b (n*4) 3 qZ W) (dp l3 ?_);refine qP0 ?_;exact⟨by simp[h1],by trivial⟩
  rintro _ p ⟨rfl,rfl⟩;have d:=M.mod t id;have o:=t.hpk O id;have M4:=M3.trans (t.to (G:=λy=>y=b));generalize L.drew=w4 at d o M4|-;unfold VM;intro _;by_cases hc:(r.longs=0/\r.shorts=0)\/x.spec.credit<r.rate
  ·rw[qo hc];rw[bZ hc]at c;refine qS0 ?_;refine qSv0 (pt q 22) (cI (I _ o) ?_);simp only[dr];apply cI (xu b (n*4) 3 qZ _);obtain⟨X,e5,B,m5⟩:=d.st a (j:=3) qZ (x:=x.spec.credit) (r' :=⟨r.scans+oQ x.spec.shifts.toList x.q,r.longs,r.shorts,x.spec.credit⟩) (by rw[v];rfl);apply ir e5;rw[nt]at B;exact⟨by grind,M4.trans m5⟩
  ·rw[cy,aZ (by grind)];rw[aZ hc]at c;exact⟨by grind,M4⟩
 rintro _ X ⟨B,M5⟩;unfold Vn;intro _;obtain⟨H,l⟩:=dW (⟨r.scans+oQ x.spec.shifts.toList x.q,r.longs,r.shorts,s⟩:Rt);rw[<-l]at B;have P:(f.set n H)[n]'(by grind)=H:=gV _;have hq5:=D M5 V;simp only[dr];have md:M0 X X.drew:=mP;have E:=B.mod md id;have J:=md.hpk hq5 id;have M6:=M5.trans (md.to (G:=λy=>y=b));generalize X.drew=w6 at E J M6|-;refine dw (λW=>xu b (n*4) 1 qZ W) (dp (E.ld a (j:=1) qZ (x:=r.longs) (by rw[P,l];rfl)) ?_);refine qPv0 (pt q 25) (dp (u _ J) ?_);refine qW0 ?_;apply dw (λW=>Aa ⟨qZ,qZ⟩);apply dw (λW=>xu b (n*4) 1 qZ W);obtain⟨Y,e7,U,m7⟩:=E.st a (j:=1) qZ (x:=r.longs+max x.q 0) (r' :={H with longs:=r.longs+max x.q 0}) (by rw[P,l];rfl);apply ir e7;rw[nt]at U;have hq7:=D m7 J;have M7:=M6.trans m7;have md:M0 Y Y.drew:=mP;have C:=U.mod md id;have N:=md.hpk hq7 id;have M8:=M7.trans (md.to (G:=λy=>y=b));generalize Y.drew=w8 at C N M8|-;have T:(f.set n {H with longs:=r.longs+max x.q 0})[n]'(by grind)={H with longs:=r.longs+max x.q 0}:=gV _;refine dw (λW=>xu b (n*4) 2 qZ W) (dp (C.ld a (j:=2) qZ (x:=r.shorts) (by rw[T,l];rfl)) ?_);refine qPv0 (pt q 25) (dp (u _ N) ?_);apply dX (gI (-x.q)) (λ_=>by simp[go_sem];rw[wI_]);refine qW0 ?_;apply dw (λW=>Aa ⟨qZ,qZ⟩);apply dw (λW=>xu b (n*4) 2 qZ W);obtain⟨w9,e9,Q,m9⟩:=C.st a (j:=2) qZ (x:=r.shorts+max (-x.q) 0) (r' :={H with longs:=r.longs+max x.q 0,shorts:=r.shorts+max (-x.q) 0}) (by rw[T,l];rfl);apply ir e9;rw[nt]at Q;apply cx (gI ((i+1:Nat):Int)) w9 (by simp[go_sem];rw[wI_]);refine hK w9 ?_ (M8.trans m9);rw[st]
 have e:D9 r x={H with longs:=r.longs+max x.q 0,shorts:=r.shorts+max (-x.q) 0}:=by
  unfold D9;rw[l,c]
 rw[e];exact Q
def Pd:Tryz.prog.underlying 194=some (.map 23 3):=cU
def rtV(r:Rt):Value:=.agg (I7 r).toArray
def vE.ld4{c:List Rt}(h:vE w b c){i:Nat}(hi:i<9):
  (iL 192 (pt b (i*4))).run pQ w=.ok (rtV (c[i]'(by rw[h.2];exact hi))) w:=by
 have a:i<c.length:=by rw[h.2];exact hi
 have g0:=vM wB (show 0<4 by omega) c i a;have g1:=vM wB (show 1<4 by omega) c i a;have d:=vM wB (show 2<4 by omega) c i a;have e:=vM wB (show 3<4 by omega) c i a;simp only[dS]at g0;simp[go_sem,h.1,g0,g1,d,e,rtV,I7]
def aj8(d:Rt)(w:Wt_):∃a c,(iA 192 true (.tuple #[])).run pQ w=.ok (pt w.heap.size 0) a/\(iS 192 (pt w.heap.size 0) (rtV d)).run pQ a=.ok () c/\hC c w.heap.size (I7 d).toArray 192/\M0 w c:=by
 obtain⟨a,b⟩:=dW (w.alloc (.cells #[.int .i64 0,gI 0,gI 0,gI 0] 192));have f:M0 w a:=by rw[b];exact(de.refl _ w).alloc _
 have e:hC a w.heap.size #[.int .i64 0,gI 0,gI 0,gI 0] 192:=by rw[b];simp[go_sem]
 refine⟨a,(((a.setCell ⟨w.heap.size,0,none⟩ (gI d.scans)).setCell ⟨w.heap.size,1,none⟩ (gI d.longs)).setCell ⟨w.heap.size,2,none⟩ (gI d.shorts)).setCell ⟨w.heap.size,3,none⟩ (gI d.rate),by rw[b];simp[go_sem],by simp[go_sem,e,rtV,I7],by simp[go_sem,e,I7],?_⟩;exact f.on (((((de.refl (λx=>x=w.heap.size) a).sc).sc).sc).sc) λx g=>gz
def HN(r:Rt):Int:=max 0 (r.scans - min r.longs r.shorts*r.rate)
def Jh(l:List Rt)(r:Rt):Bv (l++[r])=Bv l+HN r:=by unfold Bv HN;simp
def Rt.prod{r:Rt}(h:r.Bd 16):0<=min r.longs r.shorts*r.rate/\min r.longs r.shorts*r.rate<=1600000000000000/\0<=r.scans/\r.scans<=1600000000000000:=by
 obtain⟨i,f,k,g,j,d,c,e⟩:=h;have l:=E3 (a:=min r.longs r.shorts) (b:=r.rate) (A:=160000000) (B:=10000000) qZ qZ;have m:0<=min r.longs r.shorts*r.rate:=lU qZ c;omega
def Ik{l:List Rt}(h:∀r∈l,r.Bd 16):0<=Bv l/\Bv l<=l.length*1600000000000000:=by
 have:=vu (l:=l.map HN) (B:=1600000000000000) λx b=>by
  obtain⟨r,a,rfl⟩:=cF.1 b;have:=Rt.prod (h r a);unfold HN;omega
 rw[cz]at this;exact this
def D4(d:0<=k){c:List Rt}{x:Lg}(h:∀r∈c,r.Bd k)(l:A2 x=true):∀r∈pV c x,r.Bd (k+1):=by
 have a:∀r:Rt,r.Bd k->r.Bd (k+1):=λr b=>by
  obtain⟨e,m,j,n,g,o,f,i⟩:=b;exact⟨e,qZ,j,qZ,g,qZ,f,i⟩
 intro r b;unfold pV at b;split at b
 ·exact a r (h r b)
 ·split at b
  ·next r0 h0=>
   rcases gG b with b|rfl
   ·exact a r (h r b)
   ·exact QY (h r0 (dL h0)) d l
  ·exact a r (h r b)
def L5{K:cG}{s:Vt_}{l:List Lg}(h:Rd w 26 s l.length (l.flatMap wX))(hn:l.length<=100000)(hl:∀x∈l,x.spec.Fit/\jl x.q)
  (hK:∀w',M0 w w' ->K (.tuple #[.int .i64 (ng l).1,gI (ng l).2]) w'):Ca pQ 60 #[s] w K:=by
 apply au2;obtain⟨a,c,hs⟩:=h.isSl;have f:∀{W:Wt_},(builtin .len #[146] 3 #[false] #[s]).run pQ W=.ok (.value (gI (l.length:Int))) W:=λ{W}=>by rw[hs];simp[go_sem]
 have fin:∀x e W,ng l=(x,e)->M0 w W->K (.tuple #[.int .i64 x,gI e]) W:=λx e W he m=>by
  have hk:=hK W m;rw[he]at hk;exact hk
 apply mB f;by_cases A:16<l.length
 ·have g:(16:Int)<(l.length:Int):=qZ;refine qSt1 g ?_;exact fin 0 3 w (by unfold ng;rw[bZ A]) lX
 have g:¬(16:Int)<(l.length:Int):=qZ;refine qSf1 g ?_;apply rg ag9;obtain⟨b,hb0⟩:=dW w.heap.size;have m1:M0 w (w.alloc (.cells (lT pQ Fw).toArray Fw)):=lm;have r1:vE (w.alloc (.cells (lT pQ Fw).toArray Fw)) b (List.replicate 9 S7):=⟨by rw[hb0,<-av3];simp[go_sem],by simp⟩
 rw[<-hb0];generalize w.alloc (.cells (lT pQ Fw).toArray Fw)=P at m1 r1|-;obtain⟨m,J⟩:=dW P.heap.size;have hbm:b<m:=by rw[J];exact cB r1.1
 have m2:M0 P (P.alloc (.map #[] 0)):=lm;have N:fB iI Gq (P.alloc (.map #[] 0)) m ([]:List (Int×Int)):=by rw[J];exact fB.new P
 apply cx (.map (some m)) (P.alloc (.map #[] 0)) (by rw[J];simp[go_sem]);have r2:=r1.mod m2 id;generalize P.alloc (.map #[] 0)=w2 at m2 N r2|-;apply mB f;have hml:=N.lt;have hs1:=m1.size
 refine eS (λst W=>∃(i:Nat) (x y:Vt_),i<=l.length/\st=(x,y,gI i,())/\vE W b ((l.take i).foldl pV (List.replicate 9 S7))/\(∀r∈(l.take i).foldl pV (List.replicate 9 S7),r.Bd i)/\(l.take i).all A2=true/\fB iI Gq W m ([]:List (Int×Int))/\M0 w W/\m<W.heap.size)
  (λst _=>match st.2.2.1 with| .int _ i=>l.length - i.toNat|_=>0) ⟨0,_,_,qZ,rfl,r2,λr G=>?_,rfl,N,m1.trans m2,hml⟩ ?_
 ·have:r=S7:=lg G;rw[this];exact⟨by decide,by decide,by decide,by decide,by decide,by decide,by decide,by decide⟩
 rintro⟨s1,s2,_,_⟩ W ⟨i,x0,y0,hi,⟨⟩,q1,q2,q3,q4,q5,q6⟩ KN hKN;unfold U9;intro _;by_cases j:i<l.length
 ·have t:(i:Int)<(l.length:Int):=qZ;refine qSt1 t ?_;obtain⟨p,e1,e2⟩:=ac0 (h.mod q5 eQ) j;refine cI e1 (iW e2 ?_);obtain⟨x,X⟩:=dW (l[i]);rw[<-X];have O:=hl x (by grind);refine Vd λw3 D B=>?_;obtain⟨q,hq⟩:=dW W.heap.size;rw[<-hq]at D|-;have htk:l.take (i+1)=l.take i++[x]:=by rw[X];exact eA j
  refine dK.at (λst W' =>st=(.bool (!A2 x),())/\M0 w3 W') ?_ ?_
  ·refine qS0 ?_
   have hA:At w3 q 0 (jA x.spec):=by
    have:=(At.all D).sub 0 25 (by rw[kZ];omega);rw[iw,wX,dh (by rw[dP];omega),cT (by rw[dP];omega)]at this;exact this
   apply jq (jA x.spec) 24 DW Cc (dP _) hA;refine vP O.1 λo d=>?_;have T:=d.hpk D id;cases F:x.spec.may with
   |false=>
    refine qSt0 ?_;exact⟨by simp[A2,F],d⟩
   |true=>
    refine qSf0 ?_;refine qS0 ?_;refine qS2 T QU ?_;apply lH O.2 qZ;refine qS0 ?_;exact⟨by simp[A2,F],d⟩
  rintro _ o ⟨rfl,d⟩;cases I:A2 x with
  |false=>
   unfold Li;intro _;rw[cy,bZ (show(!false)=true from rfl)];refine fin 0 2 o ?_ ((q5.trans B).trans d);unfold ng;rw[aZ A];exact bZ (nI.2 ⟨x,by grind,by rw[I];simp⟩)
  |true=>
   have M4:=(q5.trans B).trans d;have r4:=(q1.mod B id).mod d id;have T:=d.hpk D id;refine On (k:=(i:Int)) r4 T qZ qZ qZ q2 I O.1 λW' rW mW=>?_;have hsz:=mW.size;have hb4:=cB T;have hs34:=d.size;have hs3:=B.size;refine hKN _ _ ⟨i+1,_,_,qZ,rfl,?_,?_,?_,((q4.mod B id).mod d id).mod mW qZ,M4.on mW λy hy=>gz,qZ⟩ (by grind)
   ·grind
   ·rw[htk,kH];have:=D4 (k:=(i:Int)) qZ q2 I;rw[iT];exact this
   ·grind
 ·obtain rfl:i=l.length:=qZ;refine qSf0 ?_;rw[cN]at q1 q2 q3;obtain⟨u,hrs⟩:=dW (l.foldl pV (List.replicate 9 S7));rw[<-hrs]at q1 q2;apply mB f
  refine eS (λst W2=>∃(i:Nat) (x y:Vt_) (L:List (Int×Int)) (seen:List Int),i<=l.length/\st=(x,y,gI i,())/\vE W2 b u/\fB iI Gq W2 m L/\(∀n,lk L n=if n∈seen then some 1 else none)/\CE [] l=CE seen (l.drop i)/\M0 w W2)
   (λst _=>match st.2.2.1 with| .int _ i=>l.length - i.toNat|_=>0) ⟨0,_,_,[],[],qZ,rfl,q1,q4,λn=>by simp[lk],rfl,q5⟩ ?_
  rintro⟨_,_,_,_⟩ W2 ⟨i,x0,y0,L,seen,hi,⟨⟩,t1,t2,t3,t4,t5⟩ KM hKM;unfold UY;intro _;by_cases j:i<l.length
  ·have t:(i:Int)<(l.length:Int):=qZ;refine qSt1 t ?_;obtain⟨p,e1,e2⟩:=ac0 (h.mod t5 eQ) j;refine cI e1 (iW e2 ?_);obtain⟨x,X⟩:=dW (l[i]);rw[<-X];refine Vd λw3 D B=>?_;obtain⟨q,hq⟩:=dW W2.heap.size;rw[<-hq]at D|-;have Q:l.drop i=x::l.drop (i+1):=by rw[X];exact(gK j).symm
   rw[Q,CE]at t4;have hml:=t2.lt;have Z:=t2.mod B id;refine qS0 ?_;refine qS0 ?_;refine qS3 D lgT Qa ?_;apply vr (enc:=iI) (ev:=Gq) (x:=x.spec.num) (gI 0) Pd rP TK (.inr ⟨m,rfl,Z⟩);obtain⟨v,S⟩:=dW (if x.spec.num∈seen then 1 else 0:Int)
   have hlk:(lk L x.spec.num).elim (gI 0) Gq=gI v:=by
    rw[t3,S];split<;>rfl
   rw[hlk];have hvb:0<=v/\v<=1:=by grind
   apply cx (Gq (v+1)) w3 (by simp[go_sem,Gq];rw[wI_]);refine kV (enc:=iI) (ev:=Gq) (x:=x.spec.num) (v:=v+1) Pd rP Z λo U d hs4=>?_;have T:=d.hpk D qZ;refine qS0 ?_;refine qS0 ?_;refine qS3 T lgT Qa ?_;apply vr (enc:=iI) (ev:=Gq) (x:=x.spec.num) (gI 0) Pd rP TK (.inr ⟨m,rfl,U⟩)
   have V:(lk (put L x.spec.num (v+1)) x.spec.num).elim (gI 0) Gq=gI (v+1):=by
    rw[sn,bZ rfl];rfl
   rw[V];have M4:M0 w o:=(t5.trans B).on d λy hy=>gz;by_cases C:x.spec.num∈seen
   ·rw[bZ C]at S;refine qSt1 S ?_;refine fin 0 8 o ?_ M4;have ht:CE [] l=true:=by rw[t4];simp[C]
    unfold ng;rw[aZ A,aZ (by rw[q3];simp),bZ ht]
   ·rw[aZ C]at S;refine qSf1 S ?_;apply cx (gI ((i+1:Nat):Int)) o (by simp[go_sem];rw[wI_]);refine hKM _ _ ⟨i+1,_,_,_,x.spec.num::seen,qZ,rfl,(t1.mod B id).mod d qZ,U,λn=>?_,?_,M4⟩ (by grind)
    ·rw[sn,t3,S];by_cases hno:x.spec.num=n
     ·subst hno;simp
     ·grind
    ·rw[t4];simp[C]
  ·obtain rfl:i=l.length:=qZ;refine qSf0 ?_;rw[fg (cJ _),CE]at t4
   have hmr:ng l=(Bv u,0):=by
    unfold ng;rw[aZ A,aZ (by rw[q3];simp),aZ (by rw[t4];simp),<-hrs]
   have Y:∀r∈u,r.Bd 16:=λr G=>by
    obtain⟨h1,h2,h3,h4,h5,h6,h7,h8⟩:=q2 r G;exact⟨h1,qZ,h3,qZ,h5,qZ,h7,h8⟩
   have hr9:=t1.2
   refine eS (λst H=>∃i:Nat,i<=9/\st=(gI (Bv (u.take i)),gI i,())/\vE H b u/\M0 w H)
    (λst _=>match st.2.1 with| .int _ i=>9 - i.toNat|_=>0) ⟨0,qZ,rfl,t1,t5⟩ ?_
   rintro⟨_,_,_⟩ H ⟨i,hi9,⟨⟩,u1,u2⟩ KP hKP;unfold Vo;intro _;by_cases E:i<9
   ·have M:(i:Int)<9:=qZ;refine qSt1 M ?_;refine cI (vE.ix E .i64 H) (cI (u1.ld4 E) ?_);obtain⟨r,G⟩:=dW (u[i]'qZ);rw[<-G];obtain⟨wv,o,v1,v2,R,v4⟩:=aj8 r H;obtain⟨q,hq⟩:=dW H.heap.size;rw[<-hq]at v1 v2 R;refine cI v1 (ir v2 ?_);unfold I7 at R;have hrb:=Y r (by grind);have hp:=Rt.prod hrb;obtain⟨z,hz⟩:=dW (min r.longs r.shorts*r.rate);rw[<-hz]at hp;refine qS0 ?_;refine qS1 R ?_;refine qS0 ?_;refine qS1 R ?_;refine qS0 ?_;refine qS1 R ?_;refine qN0 ?_;refine qS0 ?_;refine qS1 R ?_;apply cx (gI z) o (by simp only[go_sem];simp;rw[<-hz,wI_]);apply cI (DD (W:=o) ⟨qZ,qZ⟩);refine qN0 ?_;have hsb:=Ik (l:=u.take i) λr G=>Y r (ek G);have htl:(u.take i).length<=9:=by grind
    apply cI (Aa (W:=o) ⟨qZ,qZ⟩);apply cx (gI ((i+1:Nat):Int)) o (by simp[go_sem];rw[wI_]);refine hKP _ _ ⟨i+1,qZ,?_,u1.mod v4 id,u2.trans v4⟩ (by grind);have e:u.take (i+1)=u.take i++[r]:=by rw[G];exact eA qZ
    rw[e,Jh];unfold HN;rw[<-hz]
   ·obtain rfl:i=9:=qZ;refine qSf0 ?_;rw[cT qZ];exact fin _ 0 H hmr u2
end Go.Proofs
namespace Go.Proofs
open Go Go.Vc
structure Cm where
 kind:Int
 acct:Int
 ct:Int
 num:Int
 amt:Int
 spec:Sp
 on:Bool
 buy:Bool
 ty:Int
 price:Int
 qty:Int
 deriving DecidableEq
def Cm.Fit(c:Cm):Prop:=(0<=c.kind/\c.kind<256)/\pL c.acct/\pL c.ct/\P6 c.num/\jl c.amt/\c.spec.Fit/\(0<=c.ty/\c.ty<256)/\jl c.price/\jl c.qty
def zCm:Cm:=⟨0,0,0,0,0,II,false,false,0,0,0⟩
def cmC(c:Cm):List Value:=[.int .u8 c.kind,gU c.acct,gU c.ct,gQ c.num,gI c.amt]++(jA c.spec++[.bool c.on,.bool c.buy,gB c.ty,gI c.price,gI c.qty])
def Cm.bare(c:Cm):Cm:=
 let b:Cm:={zCm with kind:=c.kind}
 if c.kind=1\/c.kind=2 then{b with acct:=c.acct,amt:=c.amt}
 else if c.kind=3 then{b with spec:=c.spec}
 else if c.kind=4 then{b with ct:=c.ct,on:=c.on}
 else if c.kind=5 then{c with num:=0,amt:=0,spec:=II,on:=false}
 else if c.kind=6 then{b with acct:=c.acct,num:=c.num}
 else if c.kind=7 then{b with acct:=c.acct,num:=c.num,price:=c.price,qty:=c.qty}
 else if c.kind=8 then{b with acct:=c.acct,ct:=c.ct}
 else if c.kind=9 then{b with acct:=c.acct,ct:=c.ct,buy:=c.buy,price:=c.price,qty:=c.qty}
 else if c.kind=10 then{b with acct:=c.acct,on:=c.on}
 else if c.kind=11 then{b with ct:=c.ct,price:=c.price}
 else if c.kind=13 then{b with acct:=c.acct}
 else if c.kind=14 then{b with ct:=c.ct}
 else b
def Cm.may(c:Cm):Bool:=decide (1<=c.kind/\c.kind<=14)&& decide (c=c.bare)&& (decide (c.kind≠3)||c.spec.may)
structure Rp where
 err:Int
 num:Int
 filled:Int
 left:Int
 trades:List Td
 gone:List Int
 accts:List Int
 deriving DecidableEq
def zRp:Rp:=⟨0,0,0,0,[],[],[]⟩
def failR(e:Int):Rp:={zRp with err:=e}
structure Stk where
 leg:Lg
 basis:Int
 price:Int
 ords:List Od
structure Nd where
 m:Int
 w:Int
 u:Int
 deriving DecidableEq
def Stk.ok(s:Stk):Bool:=
 amongB s.basis (-1000000000000000) 1000000000000000&& amongB s.leg.q (-10000000) 10000000&& s.leg.spec.isPrice s.price&& decide (s.ords.length<=250)&& s.ords.all (·.may)
def sumB(l:List Od)(buy:Bool):Int:=((l.filter λo=>o.buy==buy).map (·.left)).sum
def wOne(price:Int)(o:Od):Int:=if o.buy then max 0 (o.price - price)*o.left else max 0 (price - o.price)*o.left
def Stk.at(s:Stk)(q:Int):Int:=(yx s.leg.spec.shifts q).1
def Stk.worst(s:Stk):Int:=
 (s.ords.map (wOne s.price)).sum+max 0 (max (s.at (s.leg.q+sumB s.ords true)) (s.at (s.leg.q - sumB s.ords false)) - s.at s.leg.q)
def Stk.u(s:Stk):Int:=s.basis - s.leg.q*s.price
def needR(l:List Stk):Nd×Int:=
 if 16<l.length then(⟨0,0,0⟩,3)
 else if l.all Stk.ok=false then(⟨0,0,0⟩,2)
 else if(ng (l.map (·.leg))).2≠0 then(⟨0,0,0⟩,(ng (l.map (·.leg))).2)
 else(⟨(ng (l.map (·.leg))).1,(l.map Stk.worst).sum,max 0 (l.map Stk.u).sum⟩,0)
def Nd.total(n:Nd):Int:=n.m+n.w+n.u
structure Ven where
 cal:sE
 led:Led
 bk:Int->Bk
 bd:Int->List Od
 next:Int
def Ven.empty:Ven:=⟨⟨0,[]⟩,⟨0,[],[]⟩,λ_=>Bk.empty,λ_=>[],1⟩
def upd{α:Type}(f:Int->α)(n:Int)(x:α):Int->α:=λm=>if m=n then x else f m
def upd_self{α:Type}(f:Int->α)(n:Int)(x:α):upd f n x n=x:=bZ rfl
def upd_ne{α:Type}(f:Int->α)(n:Int)(x:α){m:Int}(h:m≠n):upd f n x m=f m:=aZ h
def Ven.nums(S:Ven):List Int:=S.cal.l.map (·.spec.num)
def ofA(a:Int)(o:Od):Bool:=decide (o.acct=a)
def clr1(a:Int)(x:List Int×Ven)(n:Int):List Int×Ven:=
 ((x.1++(qi (x.2.bk n) a).2.map (·.num))++((x.2.bd n).filter (ofA a)).map (·.num),
 {x.2 with bk:=upd x.2.bk n (qi (x.2.bk n) a).1,bd:=upd x.2.bd n ((x.2.bd n).filter λo=> !ofA a o)})
def Ven.clear(S:Ven)(a k:Int):List Int×Ven:=(S.nums.filter λn=>decide (k=0\/k=n)).foldl (clr1 a) ([],S)
def Ven.opn(S:Ven)(n a:Int):Int×Int:=((xd (S.bk n) a).1+oM (S.bd n) a true,(xd (S.bk n) a).2+oM (S.bd n) a false)
def Ven.stake(S:Ven)(a:Int)(k:Ct):Stk:=
 ⟨⟨k.spec,(S.led.position k.spec.num a).q⟩,(S.led.position k.spec.num a).b,k.price,(S.bk k.spec.num).all.filter (ofA a)++(S.bd k.spec.num).filter (ofA a)⟩
def Ven.stakes(S:Ven)(a:Int):List Stk:=(S.cal.l.filter λk=>decide (k.st≠3)).map (S.stake a)
def Ven.need(S:Ven)(a:Int):Nd×Int:=if S.led.getO a=none\/a=0 then(⟨0,0,0⟩,7)else needR (S.stakes a)
def Ven.acc(S:Ven)(a:Int):Ac:=(S.led.getO a).getD ⟨0,0,false,false⟩
def Ven.bears(S:Ven)(a:Int):Int:=
 if(S.need a).2≠0 then(S.need a).2 else if(S.acc a).cash<(S.need a).1.total then 161 else 0
def Ven.pass(S:Ven)(a n:Int)(buy:Bool)(price qty:Int)(w:Od):Int:=
 if S.led.getO a=none then 7
 else if(iU S.cal.l n).2≠0 then(iU S.cal.l n).2
 else Gt.check ⟨(iU S.cal.l n).1,S.acc a,(S.led.position n a).q,(S.opn n a).1 - (if w.buy then w.left else 0),(S.opn n a).2 - (if w.buy then 0 else w.left),buy,price,qty⟩
def tradeL(n:Int)(o:Od):List Td->Led->Int×Led
 | [],L=>(0,L)
 |t::l,L=>
  let x:=L.trade n (if o.buy then o.acct else t.acct) (if o.buy then t.acct else o.acct) t.price t.qty
  if x.1≠0 then x else tradeL n o l x.2
def Ven.traded(S:Ven)(n:Int)(o:Od)(p:Pm):Int×Rp×Ven:=
 let x:=tradeL n o p.trades S.led;let S' :={S with led:=x.2}
 if x.1≠0 then(x.1,zRp,S')else(S'.bears o.acct,⟨0,o.num,p.filled,p.left,p.trades,p.gone,[]⟩,S')
def Cm.od(c:Cm)(n:Int):Od:=⟨n,c.acct,c.buy,c.price,c.qty⟩
def maxNum:Int:=4611686018427387904
def Ven.order(S:Ven)(c:Cm):Int×Od×Ven:=
 let e:=S.pass c.acct c.ct c.buy c.price c.qty pC
 if e≠0 then(e,pC,S)else if maxNum<S.next then(6,c.od 0,S)else(0,c.od S.next,{S with next:=S.next+1})
def Ven.place(S:Ven)(c:Cm):Int×Rp×Ven:=
 let x:=S.order c
 if x.1≠0 then(x.1,zRp,x.2.2)
 else
  let p:=gD (x.2.2.bk c.ct) x.2.1 c.ty;let S' :={x.2.2 with bk:=upd x.2.2.bk c.ct p.2.1}
  if p.1≠0 then(p.1,zRp,S')else S'.traded c.ct x.2.1 p.2.2
def Ven.bid(S:Ven)(c:Cm):Int×Rp×Ven:=
 let x:=S.order c
 if x.1≠0 then(x.1,zRp,x.2.2)
 else if 50<=(x.2.2.bd c.ct).length then(9,zRp,x.2.2)
 else
  let S' :={x.2.2 with bd:=upd x.2.2.bd c.ct (x.2.2.bd c.ct++[x.2.1])}
  (S'.bears c.acct,⟨0,x.2.1.num,0,x.2.1.left,[],[],[]⟩,S')
def findIn(bk:Int->Bk)(a num n:Int):Option (Od×Int):=
 match (bk n).find num with
 |some (o,_)=>if o.acct=a then some (o,n)else none
 |none=>none
def Ven.find(S:Ven)(a num:Int):Option (Od×Int):=S.nums.findSome? (findIn S.bk a num)
def isBid(a num:Int)(o:Od):Bool:=decide (o.num=num)&& decide (o.acct=a)
def bidIn(bd:Int->List Od)(a num n:Int):Option (Nat×Int):=((bd n).findIdx? (isBid a num)).map λi=>(i,n)
def Ven.cancel(S:Ven)(c:Cm):Int×Rp×Ven:=
 match S.find c.acct c.num with
 |some (o,n)=>((jX (S.bk n) c.num).1,{zRp with num:=c.num,left:=o.left},{S with bk:=upd S.bk n (jX (S.bk n) c.num).2.1})
 |none=>
  match S.nums.findSome? (bidIn S.bd c.acct c.num)with
  |some (i,n)=>(0,{zRp with num:=c.num,left:=((S.bd n).getD i pC).left},{S with bd:=upd S.bd n ((S.bd n).eraseIdx i)})
  |none=>(7,zRp,S)
def Ven.replace(S:Ven)(c:Cm):Int×Rp×Ven:=
 match S.find c.acct c.num with
 |none=>(7,zRp,S)
 |some (o,n)=>
  let e:=S.pass c.acct n o.buy c.price c.qty o
  if e≠0 then(e,zRp,S)
  else
   let p:=fX (S.bk n) c.num c.price c.qty;let S' :={S with bk:=upd S.bk n p.2.1}
   if p.1≠0 then(p.1,zRp,S')else S'.traded n o p.2.2
def wonAdd(won:Int->Int)(l:List (Int×Int)):Int->Int:=l.foldl (λf x=>upd f x.1 (f x.1+x.2)) won
def payL:List Sd->Rp->Ven->Int×Rp×Ven
 | [],r,S=>(0,r,S)
 |s::l,r,S=>
  let g:=S.clear s.acct 0;let r' :Rp:=if s.dfl then{r with accts:=r.accts++[s.acct],gone:=r.gone++g.1}else r
  let S1:=if s.dfl then g.2 else S
  let x:=S1.led.set {S.acc s.acct with cash:=s.cash,dfl:=(S.acc s.acct).dfl||s.dfl}
  if x.1≠0 then(x.1,r',{S1 with led:=x.2})else payL l r' {S1 with led:=x.2}
def Ven.dues(S:Ven)(won:Int->Int):List Du:=S.led.all.map λa=>⟨a.num,a.cash,won a.num⟩
def Ven.pay(S:Ven)(won:Int->Int):Int×Rp×Ven:=
 let x:=lP S.led.fund (S.dues won)
 if x.2.2≠0 then(x.2.2,zRp,S)
 else
  let y:=payL x.1 zRp S
  if y.1≠0 then y
  else
   let z:=y.2.2.led.set ⟨0,x.2.1,false,false⟩
   (z.1,y.2.1,{y.2.2 with led:=z.2})
def markL:List Ct->Led->(Int->Int)->Int×Led×(Int->Int)
 | [],L,won=>(0,L,won)
 |k::l,L,won=>
  if k.st=3 then markL l L won
  else
   let x:=L.mark k.spec.num k.price false
   if x.1≠0 then(x.1,x.2.2,wonAdd won x.2.1)else markL l x.2.2 (wonAdd won x.2.1)
def freeL(accts:List Int):List Ac->Int->Led->Int×Led
 | [],e,L=>(e,L)
 |a::l,e,L=>
  if a.dfl=true/\(L.ofA a.num).isEmpty=true/\accts.contains a.num=false then
   freeL accts l (L.set {a with dfl:=false}).1 (L.set {a with dfl:=false}).2
  else freeL accts l e L
def noWon:Int->Int:=λ_=>0
def Ven.settle(S:Ven):Int×Rp×Ven:=
 let c:=eD S.cal;let S0:={S with cal:=c.2}
 if c.1≠0 then(c.1,zRp,S0)
 else
  let m:=markL c.2.l S.led noWon;let S1:={S0 with led:=m.2.1}
  if m.1≠0 then(m.1,zRp,S1)
  else
   let p:=S1.pay m.2.2
   if p.1≠0 then p
   else
    let f:=freeL p.2.1.accts p.2.2.led.all 0 p.2.2.led
    (f.1,p.2.1,{p.2.2 with led:=f.2})
def Ven.expire(S:Ven)(n:Int):Int×Rp×Ven:=
 let c:=jy S.cal n;let S0:={S with cal:=c.2}
 if c.1≠0 then(c.1,zRp,S0)
 else
  let m:=S.led.mark (iU S.cal.l n).1.spec.num (iU S.cal.l n).1.price true;let S1:={S0 with led:=m.2.2}
  if m.1≠0 then(m.1,zRp,S1)
  else
   let p:=S1.pay (wonAdd noWon m.2.1)
   if p.1≠0 then p
   else
    let b:=qi (p.2.2.bk n) 0
    (0,{p.2.1 with gone:=(p.2.1.gone++b.2.map (·.num))++(p.2.2.bd n).map (·.num)},{p.2.2 with bk:=upd p.2.2.bk n b.1,bd:=upd p.2.2.bd n []})
def swapL(L:Led)(n from_ to:Int)(long:Bool)(price qty:Int):Int×Led:=if long then L.trade n to from_ price qty else L.trade n from_ to price qty
def bidFill(l:List Od)(num qty:Int):List Od:=
 match l.findIdx? λo=>decide (o.num=num)with
 |none=>l
 |some i=>
  let o:=l.getD i pC
  if o.left - qty=0 then l.eraseIdx i else l.set i {o with left:=o.left - qty}
def fillsL(n a:Int)(long:Bool)(price:Int):List Fl->Int->Rp->Ven->Int×Int×Rp×Ven
 | [],left,r,S=>(0,left,r,S)
 |f::l,left,r,S=>
  let x:=swapL S.led n a f.acct long price f.qty
  if x.1≠0 then(x.1,left,r,{S with led:=x.2})
  else fillsL n a long price l (left - f.qty) {r with filled:=r.filled+f.qty,trades:=r.trades++[⟨price,f.qty,f.num,f.acct⟩]}
   {S with led:=x.2,bd:=upd S.bd n (bidFill (S.bd n) f.num f.qty)}
def partsL(n a:Int)(long:Bool)(price:Int):List Hd->Rp->Ven->Int×Rp×Ven
 | [],r,S=>(0,r,S)
 |h::l,r,S=>
  let x:=swapL S.led n a h.acct long price h.q
  if x.1≠0 then(x.1,r,{S with led:=x.2})
  else partsL n a long price l {r with left:=r.left+h.q,trades:=r.trades++[⟨price,h.q,0,h.acct⟩]} {S with led:=x.2}
def Ven.sell(S:Ven)(k:Ct)(a q:Int)(r:Rp):Int×Rp×Ven:=
 let n:=k.spec.num;let long:Bool:=decide (0<q);let c:=pG long (max q (-q)) ((S.bd n).filter λo=>o.buy==long)
 if c.2.2≠0 then(c.2.2,r,S)
 else
  let f:=fillsL n a long c.1 c.2.1 (max q (-q)) r S
  if f.1≠0 then(f.1,f.2.2.1,f.2.2.2)
  else if f.2.1=0 then(0,f.2.2.1,f.2.2.2)
  else
   let p:=qT (if long then f.2.1 else -f.2.1) (((f.2.2.2.led.holders n).filter λp=>decide (p.a≠a)).map λp=>⟨p.a,p.q⟩)
   if p.2≠0 then(p.2,f.2.2.1,f.2.2.2)
   else partsL n a long k.price p.1 f.2.2.1 f.2.2.2
def sellL(a:Int):List Ct->Rp->Ven->Int×Rp×Ven
 | [],r,S=>(0,r,S)
 |k::l,r,S=>
  let q:=(S.led.position k.spec.num a).q
  if q=0 then sellL a l r S
  else
   let x:=S.sell k a q r
   if x.1≠0 then x else sellL a l x.2.1 x.2.2
def Ven.liquidate(S:Ven)(a:Ac):Int×Rp×Ven:=if a.dfl=false then(162,zRp,S)else sellL a.num S.cal.l zRp S
def Ven.done(S:Ven)(c:Cm):Int×Rp×Ven:=
 if c.kind=1 then((S.led.deposit c.acct c.amt).1,zRp,{S with led:=(S.led.deposit c.acct c.amt).2})
 else if c.kind=2 then
  let x:=S.led.withdraw c.acct c.amt;let S' :={S with led:=x.2}
  (if x.1≠0 then x.1 else if(S'.acc c.acct).dfl=true then 120 else S'.bears c.acct,zRp,S')
 else if c.kind=3 then
  let x:=kC S.cal c.spec
  (x.1,zRp,if x.1=0 then{S with cal:=x.2,bk:=upd S.bk c.spec.num Bk.empty}else{S with cal:=x.2})
 else if c.kind=4 then((nz S.cal c.ct c.on).1,zRp,{S with cal:=(nz S.cal c.ct c.on).2})
 else if c.kind=11 then((jJ S.cal c.ct c.price).1,zRp,{S with cal:=(jJ S.cal c.ct c.price).2})
 else if c.kind=12 then S.settle
 else if c.kind=14 then S.expire c.ct
 else if c.acct=0 then(2,zRp,S)
 else if c.kind=6 then S.cancel c
 else if c.kind=7 then S.replace c
 else if S.led.getO c.acct=none then(7,zRp,S)
 else if c.kind=5 then S.place c
 else if c.kind=9 then S.bid c
 else if c.kind=8 then
  if c.ct≠0/\(iU S.cal.l c.ct).2≠0 then((iU S.cal.l c.ct).2,zRp,S)
  else(0,{zRp with gone:=(S.clear c.acct c.ct).1},(S.clear c.acct c.ct).2)
 else if c.kind=10 then
  let g:=S.clear c.acct 0;let S' :=if c.on then g.2 else S
  let x:=S'.led.set {S.acc c.acct with kil:=c.on}
  (x.1,if c.on then{zRp with gone:=g.1}else zRp,{S' with led:=x.2})
 else if c.kind=13 then S.liquidate (S.acc c.acct)
 else(0,zRp,S)
def Ven.apply(S:Ven)(c:Cm):Rp×Ven:=
 if c.may=false then(failR 160,S)
 else
  let x:=S.done c
  if x.1≠0 then(failR x.1,S)else(x.2.1,x.2.2)
end Go.Proofs
namespace Go.Proofs
open Go Go.Vc
attribute [local congr] cR
inductive Pt where
 |v
 |cal
 |led
 |mb
 |md
 |bk (n:Int)
 |bd (n:Int)
 deriving DecidableEq
def eY(v:Nat):Value:=pt v 0
def yh(x:Vt_):Value:=x
abbrev vy:TypeId:=38
def rz(D:List (Int×Value))(n:Int):Value:=(lk D n).getD dv
structure rO(w:Wt_)(v c l mb md:Nat)(A:List (Int×Nat))(D:List (Int×Value))(fp:Pt->Nat->Prop)(S:Ven):Prop where
 blk:hC w v #[iZ c,iG l,.map (some mb),.map (some md),gQ S.next] vy
 cal:pN w c (fp .cal) S.cal
 led:lA w l (fp .led) S.led
 mbk:fB iI jY w mb A
 mbd:fB iI yh w md D
 bk:∀n b,lk A n=some b->kK w b (fp (.bk n)) (S.bk n)
 nbk:∀n,lk A n=none->S.bk n=Bk.empty/\∀x,¬fp (.bk n) x
 bd:∀n,qR w (rz D n) (S.bd n)
 fv:∀x,fp .v x↔x=v
 fmb:∀x,fp .mb x↔x=mb
 fmd:∀x,fp .md x↔x=md
 fbd:∀n x,fp (.bd n) x↔cK (rz D n) x
 dj:∀p q x,fp p x->fp q x->p=q
structure ik(w:Wt_)(v c l mb md:Nat)(A:List (Int×Nat))(D:List (Int×Value))(fp:Pt->Nat->Prop)(S:Ven):Prop extends rO w v c l mb md A D fp S where
 dom:∀n,(lk A n).isSome=(eR S.cal.l n).isSome
 dod:∀n,(lk D n).isSome=true->(eR S.cal.l n).isSome=true
def lw(w:Wt_)(v:Nat)(F:NP_)(S:Ven):Prop:=∃c l mb md A D fp,ik w v c l mb md A D fp S/\∀x,F x↔∃p,fp p x
def dY(fp:Pt->Nat->Prop):Nat->Prop:=λx=>∃p,fp p x
def mj(fp:Pt->Nat->Prop)(p:Pt)(G:NP_):Pt->Nat->Prop:=λq=>if q=p then G else fp q
def ip(fp:Pt->Nat->Prop)(p:Pt)(G:NP_):mj fp p G p=G:=bZ rfl
def eH{fp:Pt->Nat->Prop}{p q:Pt}{G:NP_}(h:q≠p):mj fp p G q=fp q:=aZ h
section
variable{w w' :Wt_}{v c l mb md:Nat}{A:List (Int×Nat)}{D:List (Int×Value)}{fp:Pt->Nat->Prop}{S:Ven}
def ik.q(h:ik w v c l mb md A D fp S):lw w v (dY fp) S:=⟨c,l,mb,md,A,D,fp,h,λ_=>fd⟩
def rO.lt(h:rO w v c l mb md A D fp S){p:Pt}{x:Nat}(a:fp p x):x<w.heap.size:=by
 cases p with
 |v=>rw[(h.fv x).1 a];exact cB h.blk
 |cal=>exact h.cal.lt a
 |led=>exact h.led.lt a
 |mb=>rw[(h.fmb x).1 a];exact h.mbk.lt
 |md=>rw[(h.fmd x).1 a];exact h.mbd.lt
 |bk n=>
  cases d:lk A n with
  |none=>exact absurd a ((h.nbk n d).2 x)
  |some b=>exact(h.bk n b d).lt a
 |bd n=>exact(h.bd n).lt ((h.fbd n x).1 a)
def lw.lt{F:NP_}(h:lw w v F S){x:Nat}(d:F x):x<w.heap.size:=by
 obtain⟨c,l,mb,md,A,D,fp,a,b⟩:=h;obtain⟨p,hp⟩:=(b x).1 d;exact a.lt hp
def rO.self(h:rO w v c l mb md A D fp S):fp .v v:=(h.fv v).2 rfl
def lw.self{F:NP_}(h:lw w v F S):F v:=by
 obtain⟨c,l,mb,md,A,D,fp,a,b⟩:=h;exact(b v).2 ⟨.v,a.self⟩
def rO.mod{G:NP_}(h:rO w v c l mb md A D fp S)(d:de G w w')(a:∀p x,fp p x->¬G x):rO w' v c l mb md A D fp S where
 blk:=d.hpk h.blk (a .v v h.self)
 cal:=h.cal.mod d (a .cal)
 led:=h.led.mod d (a .led)
 mbk:=h.mbk.mod d (a .mb mb ((h.fmb mb).2 rfl))
 mbd:=h.mbd.mod d (a .md md ((h.fmd md).2 rfl))
 bk n b hl:=(h.bk n b hl).mod d (a (.bk n))
 nbk:=h.nbk
 bd n:=(h.bd n).mod d λx e=>a (.bd n) x ((h.fbd n x).2 e)
 fv:=h.fv
 fmb:=h.fmb
 fmd:=h.fmd
 fbd:=h.fbd
 dj:=h.dj
def ik.mod{G:NP_}(h:ik w v c l mb md A D fp S)(b:de G w w')(a:∀p x,fp p x->¬G x):ik w' v c l mb md A D fp S:=⟨h.torO.mod b a,h.dom,h.dod⟩
def lw.mod{F G:NP_}(h:lw w v F S)(d:de G w w')(b:∀x,F x->¬G x):lw w' v F S:=by
 obtain⟨c,l,mb,md,A,D,fp,e,a⟩:=h;exact⟨c,l,mb,md,A,D,fp,e.mod d λp x f=>b x ((a x).2 ⟨p,f⟩),a⟩
def ik.md0(h:ik w v c l mb md A D fp S)(a:M0 w w'):ik w' v c l mb md A D fp S:=h.mod a λ_ _ _ h=>h
def lw.md0{F:NP_}(h:lw w v F S)(a:M0 w w'):lw w' v F S:=h.mod a eQ
def rO.djU(h:rO w v c l mb md A D fp S){p:Pt}{G:NP_}(i:∀x,G x->fp p x\/w.heap.size<=x):∀q r x,mj fp p G q x->mj fp p G r x->q=r:=by
 have key:∀q x,q≠p->fp q x->¬G x:=λq x a f g=>by
  rcases i x g with b|b
  ·exact a (h.dj _ _ _ f b)
  ·have:=h.lt f;omega
 intro q r x a e;by_cases b:q=p
 ·by_cases d:r=p
  ·rw[b,d]
  ·subst b;rw[ip]at a;rw[eH d]at e;exact absurd a (key r x d e)
 ·rw[eH b]at a;by_cases d:r=p
  ·subst d;rw[ip]at e;exact absurd e (key q x b a)
  ·rw[eH d]at e;exact h.dj _ _ _ a e
def rO.ap(h:rO w v c l mb md A D fp S){p q:Pt}(a:q≠p):∀x,fp q x->¬fp p x:=λx d b=>a (h.dj _ _ _ d b)
def zX{fp:Pt->Nat->Prop}{p:Pt}{G:NP_}{n:Nat}(d:∀x,G x->fp p x\/n<=x):∀x,dY (mj fp p G) x->dY fp x\/n<=x:=by
 rintro x ⟨q,a⟩;by_cases b:q=p
 ·subst b;rw[ip]at a;exact(d x a).imp (λh=>⟨_,h⟩) id
 ·rw[eH b]at a;exact .inl ⟨_,a⟩
def ik.setCal(h:ik w v c l mb md A D fp S){G:NP_}{C:sE}(a:de (fp .cal) w w')(f:pN w' c G C)(d:∀x,G x->fp .cal x\/w.heap.size<=x)
  (e:∀n,(eR C.l n).isSome=(eR S.cal.l n).isSome):ik w' v c l mb md A D (mj fp .cal G) {S with cal:=C} where
 blk:=a.hpk h.blk (h.ap (by simp) _ h.self)
 cal:=by rw[ip];exact f
 led:=by rw[eH (by simp)];exact h.led.mod a (h.ap (by simp))
 mbk:=h.mbk.mod a (h.ap (by simp) _ ((h.fmb mb).2 rfl))
 mbd:=h.mbd.mod a (h.ap (by simp) _ ((h.fmd md).2 rfl))
 dom n:=by rw[h.dom n];exact(e n).symm
 dod n d:=by rw[e n];exact h.dod n d
 bk n b hl:=by rw[eH (by simp)];exact(h.bk n b hl).mod a (h.ap (by simp))
 nbk n hl:=by rw[eH (by simp)];exact h.nbk n hl
 bd n:=(h.bd n).mod a λx g=>h.ap (by simp) x ((h.fbd n x).2 g)
 fv:=by rw[eH (by simp)];exact h.fv
 fmb:=by rw[eH (by simp)];exact h.fmb
 fmd:=by rw[eH (by simp)];exact h.fmd
 fbd n:=by rw[eH (by simp)];exact h.fbd n
 dj:=h.djU d
def ik.setLed(h:ik w v c l mb md A D fp S){L:Led}(a:de (fp .led) w w')(d:lA w' l (fp .led) L):ik w' v c l mb md A D fp {S with led:=L} where
 blk:=a.hpk h.blk (h.ap (by simp) _ h.self)
 cal:=h.cal.mod a (h.ap (by simp))
 led:=d
 mbk:=h.mbk.mod a (h.ap (by simp) _ ((h.fmb mb).2 rfl))
 mbd:=h.mbd.mod a (h.ap (by simp) _ ((h.fmd md).2 rfl))
 dom:=h.dom
 dod:=h.dod
 bk n b hl:=(h.bk n b hl).mod a (h.ap (by simp))
 nbk:=h.nbk
 bd n:=(h.bd n).mod a λx e=>h.ap (by simp) x ((h.fbd n x).2 e)
 fv:=h.fv
 fmb:=h.fmb
 fmd:=h.fmd
 fbd:=h.fbd
 dj:=h.dj
def ik.setBk(h:ik w v c l mb md A D fp S){n:Int}{b:Nat}{G:NP_}{B:Bk}(g:lk A n=some b)(f:de (fp (.bk n)) w w')(i:kK w' b G B)(k:∀x,G x->fp (.bk n) x\/w.heap.size<=x):
  ik w' v c l mb md A D (mj fp (.bk n) G) {S with bk:=upd S.bk n B} where
 blk:=f.hpk h.blk (h.ap (by simp) _ h.self)
 cal:=by rw[eH (by simp)];exact h.cal.mod f (h.ap (by simp))
 led:=by rw[eH (by simp)];exact h.led.mod f (h.ap (by simp))
 mbk:=h.mbk.mod f (h.ap (by simp) _ ((h.fmb mb).2 rfl))
 mbd:=h.mbd.mod f (h.ap (by simp) _ ((h.fmd md).2 rfl))
 dom:=h.dom
 dod:=h.dod
 bk m b' hl:=by
  by_cases a:m=n
  ·subst a;rw[g]at hl;cases hl;show kK w' b _ (upd S.bk m B m);rw[ip,upd_self];exact i
  ·have d:Pt.bk m≠Pt.bk n:=by simpa using a
   show kK w' b' _ (upd S.bk n B m);rw[eH d,upd_ne _ _ _ a];exact(h.bk m b' hl).mod f (h.ap d)
 nbk m hl:=by
  have a:m≠n:=λe=>by grind
  have d:Pt.bk m≠Pt.bk n:=by simpa using a
  show upd S.bk n B m=_/\_;rw[eH d,upd_ne _ _ _ a];exact h.nbk m hl
 bd m:=(h.bd m).mod f λx j=>h.ap (by simp) x ((h.fbd m x).2 j)
 fv:=by rw[eH (by simp)];exact h.fv
 fmb:=by rw[eH (by simp)];exact h.fmb
 fmd:=by rw[eH (by simp)];exact h.fmd
 fbd m:=by rw[eH (by simp)];exact h.fbd m
 dj:=h.djU k
def ik.setNext(h:ik w v c l mb md A D fp S){n:Int}(a:de (fp .v) w w')(d:hC w' v #[iZ c,iG l,.map (some mb),.map (some md),gQ n] vy):
  ik w' v c l mb md A D fp {S with next:=n} where
 blk:=d
 cal:=h.cal.mod a (h.ap (by simp))
 led:=h.led.mod a (h.ap (by simp))
 mbk:=h.mbk.mod a (h.ap (by simp) _ ((h.fmb mb).2 rfl))
 mbd:=h.mbd.mod a (h.ap (by simp) _ ((h.fmd md).2 rfl))
 dom:=h.dom
 dod:=h.dod
 bk m b hl:=(h.bk m b hl).mod a (h.ap (by simp))
 nbk:=h.nbk
 bd m:=(h.bd m).mod a λx e=>h.ap (by simp) x ((h.fbd m x).2 e)
 fv:=h.fv
 fmb:=h.fmb
 fmd:=h.fmd
 fbd:=h.fbd
 dj:=h.dj
def ik.bdIn(h:ik w v c l mb md A D fp S){n:Int}{L:List Od}(a:de (fp (.bd n)) w w')(f:qR w' (rz D n) L):
  ik w' v c l mb md A D fp {S with bd:=upd S.bd n L} where
 blk:=a.hpk h.blk (h.ap (by simp) _ h.self)
 cal:=h.cal.mod a (h.ap (by simp))
 led:=h.led.mod a (h.ap (by simp))
 mbk:=h.mbk.mod a (h.ap (by simp) _ ((h.fmb mb).2 rfl))
 mbd:=h.mbd.mod a (h.ap (by simp) _ ((h.fmd md).2 rfl))
 dom:=h.dom
 dod:=h.dod
 bk m b hl:=(h.bk m b hl).mod a (h.ap (by simp))
 nbk:=h.nbk
 bd m:=by
  by_cases d:m=n
  ·subst d;show qR w' _ (upd S.bd m L m);rw[upd_self];exact f
  ·have e:Pt.bd m≠Pt.bd n:=by simpa using d
   show qR w' _ (upd S.bd n L m);rw[upd_ne _ _ _ d];exact(h.bd m).mod a λx g=>h.ap e x ((h.fbd m x).2 g)
 fv:=h.fv
 fmb:=h.fmb
 fmd:=h.fmd
 fbd:=h.fbd
 dj:=h.dj
def Hk(D:List (Int×Value))(n m:Int)(x:Vt_):rz (put D n x) m=if m=n then x else rz D m:=by
 unfold rz;rw[sn];by_cases a:m=n
 ·subst a;simp
 ·grind
def rO.setBdG(h:rO w v c l mb md A D fp S){w1:Wt_}{n:Int}{L:List Od}{sl:Vt_}{E:NP_}(s:de E w w1)(u:∀p x,p≠ .bd n->fp p x->¬E x)(g:qR w1 sl L)(r:∀x,cK sl x->fp (.bd n) x\/w.heap.size<=x)
  (k:fB iI yh w' md (put D n sl))(q:de (λx=>x=md) w1 w'):rO w' v c l mb md A (put D n sl) (mj fp (.bd n) (cK sl)) {S with bd:=upd S.bd n L}:=by
 have y:=h.lt (p:=.md) ((h.fmd md).2 rfl);have t:=s.size;have i:de (λx=>E x\/x=md) w w' :=(s.mono λx _ e=>.inl e).on q λx e=>.inl (.inr e)
 have d:∀p,p≠ .bd n->p≠ .md->∀x,fp p x->¬(E x\/x=md):=λp j k x e g=>by
  rcases g with g|g
  ·exact u p x j e g
  ·exact k (h.dj _ _ _ e ((h.fmd x).2 g))
 exact{
  blk:=i.hpk h.blk (d .v (by simp) (by simp) _ h.self)
  cal:=by rw[eH (by simp)];exact h.cal.mod i (d .cal (by simp) (by simp))
  led:=by rw[eH (by simp)];exact h.led.mod i (d .led (by simp) (by simp))
  mbk:=h.mbk.mod i (d .mb (by simp) (by simp) _ ((h.fmb mb).2 rfl))
  mbd:=k
  bk:=λm b o=>by rw[eH (by simp)];exact(h.bk m b o).mod i (d (.bk m) (by simp) (by simp))
  nbk:=λm o=>by rw[eH (by simp)];exact h.nbk m o
  bd:=λm=>by
   show qR w' _ (upd S.bd n L m);rw[Hk];by_cases a:m=n
   ·subst a;rw[bZ rfl,upd_self];refine g.mod q λx e z=>?_;rcases r x e with j|j
    ·exact absurd (h.dj _ _ _ j ((h.fmd x).2 z)) (by simp)
    ·omega
   ·have f:Pt.bd m≠Pt.bd n:=by simpa using a
    rw[aZ a,upd_ne _ _ _ a];exact(h.bd m).mod i λx e=>d (.bd m) f (by simp) x ((h.fbd m x).2 e)
  fv:=by rw[eH (by simp)];exact h.fv
  fmb:=by rw[eH (by simp)];exact h.fmb
  fmd:=by rw[eH (by simp)];exact h.fmd
  fbd:=λm x=>by
   rw[Hk];by_cases a:m=n
   ·subst a;rw[bZ rfl,ip]
   ·have f:Pt.bd m≠Pt.bd n:=by simpa using a
    rw[aZ a,eH f];exact h.fbd m x
  dj:=h.djU r}
def rO.setBd(h:rO w v c l mb md A D fp S){w1:Wt_}{n:Int}{L:List Od}{sl:Vt_}(a:de (fp (.bd n)) w w1)(e:qR w1 sl L)(f:∀x,cK sl x->fp (.bd n) x\/w.heap.size<=x)
  (d:fB iI yh w' md (put D n sl))(b:de (λx=>x=md) w1 w'):rO w' v c l mb md A (put D n sl) (mj fp (.bd n) (cK sl)) {S with bd:=upd S.bd n L}:=
 h.setBdG a (λp x hp=>h.ap hp x) e f d b
def ik.setBdG(h:ik w v c l mb md A D fp S){w1:Wt_}{n:Int}{L:List Od}{sl:Vt_}(g:(eR S.cal.l n).isSome=true){E:NP_}(k:de E w w1)(i:∀p x,p≠ .bd n->fp p x->¬E x)(o:qR w1 sl L)(j:∀x,cK sl x->fp (.bd n) x\/w.heap.size<=x)
  (f:fB iI yh w' md (put D n sl))(d:de (λx=>x=md) w1 w'):ik w' v c l mb md A (put D n sl) (mj fp (.bd n) (cK sl)) {S with bd:=upd S.bd n L}:=
 ⟨h.torO.setBdG k i o j f d,h.dom,λm a=>by
  by_cases b:m=n
  ·subst b;exact g
  ·rw[sn,aZ λe=>b e.symm]at a;exact h.dod m a⟩
def ik.setBd(h:ik w v c l mb md A D fp S){w1:Wt_}{n:Int}{L:List Od}{sl:Vt_}(d:(eR S.cal.l n).isSome=true)(f:de (fp (.bd n)) w w1)(j:qR w1 sl L)(k:∀x,cK sl x->fp (.bd n) x\/w.heap.size<=x)
  (g:fB iI yh w' md (put D n sl))(i:de (λx=>x=md) w1 w'):ik w' v c l mb md A (put D n sl) (mj fp (.bd n) (cK sl)) {S with bd:=upd S.bd n L}:=
 ⟨h.torO.setBd f j k g i,h.dom,λm a=>by
  by_cases b:m=n
  ·subst b;exact d
  ·rw[sn,aZ λe=>b e.symm]at a;exact h.dod m a⟩
def rO.addBk(h:rO w v c l mb md A D fp S){w1:Wt_}{n:Int}{b:Nat}{G:NP_}{B:Bk}(C:lk A n=none)(s:M0 w w1)(o:kK w1 b G B)(z:∀x,G x->w.heap.size<=x)
  (k:fB iI jY w' mb (put A n b))(q:de (λx=>x=mb) w1 w'):rO w' v c l mb md (put A n b) D (mj fp (.bk n) G) {S with bk:=upd S.bk n B}:=by
 have u:=h.lt (p:=.mb) ((h.fmb mb).2 rfl);have t:=s.size;have i:de (λx=>x=mb) w w' :=(s.to).trans q;have d:∀p,p≠ .mb->∀x,fp p x->¬x=mb:=λp k x j o=>k (h.dj _ _ _ j ((h.fmb x).2 o));have y:∀x,G x->¬x=mb:=λx j e=>by grind
 exact{
  blk:=i.hpk h.blk (d .v (by simp) _ h.self)
  cal:=by rw[eH (by simp)];exact h.cal.mod i (d .cal (by simp))
  led:=by rw[eH (by simp)];exact h.led.mod i (d .led (by simp))
  mbk:=k
  mbd:=h.mbd.mod i (d .md (by simp) _ ((h.fmd md).2 rfl))
  bk:=λm r f=>by
   rw[sn]at f;show kK w' r _ (upd S.bk n B m);by_cases a:m=n
   ·subst a;rw[bZ rfl]at f;cases f;rw[ip,upd_self];exact o.mod q y
   ·have g:Pt.bk m≠Pt.bk n:=by simpa using a
    rw[aZ λe=>a e.symm]at f;rw[eH g,upd_ne _ _ _ a];exact(h.bk m r f).mod i (d (.bk m) (by simp))
  nbk:=λm f=>by
   rw[sn]at f;show upd S.bk n B m=_/\_;by_cases a:m=n
   ·grind
   ·have g:Pt.bk m≠Pt.bk n:=by simpa using a
    rw[aZ λe=>a e.symm]at f;rw[eH g,upd_ne _ _ _ a];exact h.nbk m f
  bd:=λm=>(h.bd m).mod i λx j=>d (.bd m) (by simp) x ((h.fbd m x).2 j)
  fv:=by rw[eH (by simp)];exact h.fv
  fmb:=by rw[eH (by simp)];exact h.fmb
  fmd:=by rw[eH (by simp)];exact h.fmd
  fbd:=λm x=>by rw[eH (by simp)];exact h.fbd m x
  dj:=h.djU (p:=.bk n) λx j=>.inr (z x j)}
def ik.delBd(h:ik w v c l mb md A D fp S){n:Int}(o:fB iI yh w' md (DF D n))(f:de (λx=>x=md) w w'):ik w' v c l mb md A (DF D n) (mj fp (.bd n) (λ_=>False)) {S with bd:=upd S.bd n []}:=by
 have d:∀p,p≠ .md->∀x,fp p x->¬x=md:=λp o x j r=>o (h.dj _ _ _ j ((h.fmd x).2 r));have i:∀m,lk (DF D n) m=if n=m then none else lk D m:=λm=>Xo h.mbd.1 n m
 have g:∀m,rz (DF D n) m=if m=n then dv else rz D m:=λm=>by
  unfold rz;rw[i];by_cases a:m=n
  ·subst a;simp
  ·grind
 exact{
  blk:=f.hpk h.blk (d .v (by simp) _ h.self)
  cal:=by rw[eH (by simp)];exact h.cal.mod f (d .cal (by simp))
  led:=by rw[eH (by simp)];exact h.led.mod f (d .led (by simp))
  mbk:=h.mbk.mod f (d .mb (by simp) _ ((h.fmb mb).2 rfl))
  mbd:=o
  dom:=h.dom
  dod:=λm e=>by
   rw[i]at e;by_cases a:n=m
   ·grind
   ·rw[aZ a]at e;exact h.dod m e
  bk:=λm b q=>by rw[eH (by simp)];exact(h.bk m b q).mod f (d (.bk m) (by simp))
  nbk:=λm q=>by rw[eH (by simp)];exact h.nbk m q
  bd:=λm=>by
   show qR w' _ (upd S.bd n [] m);rw[g];by_cases a:m=n
   ·subst a;rw[bZ rfl,upd_self];exact jo.nil _ _ _
   ·rw[aZ a,upd_ne _ _ _ a];exact(h.bd m).mod f λx j=>d (.bd m) (by simp) x ((h.fbd m x).2 j)
  fv:=by rw[eH (by simp)];exact h.fv
  fmb:=by rw[eH (by simp)];exact h.fmb
  fmd:=by rw[eH (by simp)];exact h.fmd
  fbd:=λm x=>by
   rw[g];by_cases a:m=n
   ·subst a;rw[bZ rfl,ip];exact⟨λh=>h.elim,λh=>by cases h⟩
   ·have k:Pt.bd m≠Pt.bd n:=by simpa using a
    rw[aZ a,eH k];exact h.fbd m x
  dj:=h.djU (p:=.bd n) λx j=>j.elim}
end
end Go.Proofs
namespace Go.Proofs
open Go Go.Vc
variable {B:Bk}{n:Int}{l l' :List Od}{o o' :Od}{g f:Po->Int}{S:Ven}
def Od.key(o:Od):Int×Int×Bool×Int:=(o.num,o.acct,o.buy,o.price)
def key_num(h:o.key=o'.key):o.num=o'.num:=fC (·.1) h
def key_acct(h:o.key=o'.key):o.acct=o'.acct:=fC (·.2.1) h
def key_buy(h:o.key=o'.key):o.buy=o'.buy:=fC (·.2.2.1) h
def key_price(h:o.key=o'.key):o.price=o'.price:=fC (·.2.2.2) h
structure SubL(l' l:List Od):Prop where
 sub:(l'.map Od.key).Sublist (l.map Od.key)
 left:∀o∈l',1<=o.left/\o.left<=1000000
def may_left(h:o.may=true):1<=o.left/\o.left<=1000000:=Od.left_bd h
def may_key(h:o.key=o'.key)(a:o.may=true)(b:1<=o'.left/\o'.left<=1000000):o'.may=true:=by
 unfold Od.may at*;rw[<-key_num h,<-key_acct h,<-key_price h];simp only[cL]at a|-;exact⟨a.1,db b⟩
def SubL.refl(h:∀o∈l,o.may=true):SubL l l:=⟨kJ _,λo a=>may_left (h o a)⟩
def SubL.mem(h:SubL l' l){o:Od}(b:o∈l'):∃a∈l,a.key=o.key:=by
 have:=h.sub.mem (dn (f:=Od.key) b);obtain⟨a,d,c⟩:=cF.1 this;exact⟨a,d,c⟩
def K9(l:List Od):l.map (·.num)=(l.map Od.key).map (·.1):=by rw[dQ];rfl
def SubL.nums(h:SubL l' l):(l'.map (·.num)).Sublist (l.map (·.num)):=by
 rw[K9,K9];exact h.sub.map _
def SubL.len(h:SubL l' l):l'.length<=l.length:=by
 have:=h.sub.length_le
 rwa[cz,cz]at this
def SubL.of_sub(h:l'.Sublist l)(b:∀o∈l,o.may=true):SubL l' l:=⟨h.map _,λo a=>may_left (b o (h.mem a))⟩
def SubL.filter(a:∀o∈l,o.may=true)(p:Od->Bool):SubL (l.filter p) l:=SubL.of_sub jv a
def SubL.set(b:∀o∈l,o.may=true){i:Nat}(hi:i<l.length){x:Int}(c:1<=x/\x<=1000000):SubL (l.set i {l[i]with left:=x}) l:=by
 refine⟨?_,λo a=>?_⟩
 ·rw[lY]
  have e:(l.map Od.key).set i (Od.key {l[i]with left:=x})=l.map Od.key:=by
   have:Od.key {l[i]with left:=x}=(l.map Od.key)[i]'(by simpa using hi):=by rw[eL];rfl
   rw[this,nS]
  rw[e];exact kJ _
 ·rcases gG a with a|rfl
  ·exact may_left (b o a)
  ·exact c
structure YD(o:Od)(left:Int)(L:List Od)(x:Int×List Od×List Td×List Int×Int):Prop where
 sub:SubL x.2.1 L
 rest:0<=x.1/\x.1<=left
 fill:x.2.2.2.2+x.1=left
 qty:(x.2.2.1.map (·.qty)).sum=x.2.2.2.2
 tr:∀t∈x.2.2.1,1<=t.qty/\t.qty<=1000000/\t.acct≠o.acct/\∃b∈L,b.num=t.num/\b.acct=t.acct/\b.price=t.price/\t.qty<=b.left/\nf o b.price=true
 gone:∀g∈x.2.2.2.1,∃b∈L,b.num=g/\b.acct=o.acct
def Fp{o:Od}:∀{L:List Od} {left:Int},0<=left->(∀b∈L,b.may=true)->YD o left L (iV o left L)
 | [],left,l,m=>⟨⟨kJ _,by simp[iV]⟩,by simp[iV];omega,by simp[iV],by simp[iV],by simp[iV],by simp[iV]⟩
 |b::r,left,l,m=>by
  have B:=may_left (m b cw);have v:∀x∈r,x.may=true:=λx A=>m x (cu _ A);by_cases k:left<=0\/nf o b.price=false
  ·have e:iV o left (b::r)=(left,b::r,[],[],0):=by unfold iV;rw[bZ k]
   rw[e];exact⟨SubL.refl m,⟨l,io _⟩,by simp,by simp,by simp,by simp⟩
  ·have D:nf o b.price=true:=by
    cases h:nf o b.price with
    |true=>rfl
    |false=>exact absurd (.inr h) k
   by_cases q:b.acct=o.acct
   ·have c:=Fp (o:=o) (L:=r) l v
    have e:iV o left (b::r)=((iV o left r).1,(iV o left r).2.1,(iV o left r).2.2.1,b.num::(iV o left r).2.2.2.1,(iV o left r).2.2.2.2):=by
     conv=>lhs;unfold iV
     rw[aZ k,bZ q]
    rw[e];refine⟨⟨c.sub.sub.trans (List.sublist_cons_self _ _),c.sub.left⟩,c.rest,c.fill,c.qty,λt i=>?_,λg j=>?_⟩
    ·obtain⟨u,n,p,d,a,f⟩:=c.tr t i;exact⟨u,n,p,d,cu _ a,f⟩
    ·rcases cH.1 j with rfl|j
     ·grind
     ·obtain⟨d,a,f⟩:=c.gone g j;exact⟨d,cu _ a,f⟩
   ·by_cases w:left<b.left
    ·have e:iV o left (b::r)=(0,{b with left:=b.left - left}::r,[⟨b.price,left,b.num,b.acct⟩],[],left):=by unfold iV;rw[aZ k,aZ q,bZ w]
     rw[e];refine⟨⟨kJ _,λz s=>?_⟩,⟨io _,l⟩,by simp,by simp,λt i=>?_,by simp⟩
     ·rcases cH.1 s with rfl|s
      ·grind
      ·exact may_left (v z s)
     ·grind
    ·have c:=Fp (o:=o) (L:=r) (left:=left - b.left) qZ v
     have e:iV o left (b::r)=((iV o (left - b.left) r).1,(iV o (left - b.left) r).2.1,⟨b.price,b.left,b.num,b.acct⟩::(iV o (left - b.left) r).2.2.1,(iV o (left - b.left) r).2.2.2.1,b.left+(iV o (left - b.left) r).2.2.2.2):=by
      conv=>lhs;unfold iV
      rw[aZ k,aZ q,aZ w]
     rw[e];have y:=c.rest;have C:=c.fill;refine⟨⟨c.sub.sub.trans (List.sublist_cons_self _ _),c.sub.left⟩,⟨y.1,by grind⟩,by grind,?_,λt i=>?_,λg j=>?_⟩
     ·show(List.map _ (_::_)).sum=_;rw[cM,di,c.qty]
     ·rcases cH.1 i with rfl|i
      ·grind
      ·obtain⟨u,n,p,d,a,f⟩:=c.tr t i;exact⟨u,n,p,d,cu _ a,f⟩
     ·obtain⟨d,a,f⟩:=c.gone g j;exact⟨d,cu _ a,f⟩
def BkMay(B:Bk):Prop:=∀d,∀o∈B d,o.may=true/\o.buy=d
def wx(buy:Bool)(l:List Od)(o:Od):(tK buy l o).Perm (o::l):=by
 unfold tK;apply qL.trans;rw[fP]
def Ha{buy:Bool}(b:o.may=true)(e:o.buy=buy):
  ((rX buy l o).2=l/\(rX buy l o).1≠0)\/((rX buy l o).2.Perm (o::l)/\l.length<100/\(∀x∈l,x.num≠o.num)/\(rX buy l o).2=tK buy l o):=by
 unfold rX;rw[aZ (by simp[b,e])];by_cases a:(l.any λx=>decide (x.num=o.num))=true
 ·grind
 ·rw[aZ a];by_cases d:100<=l.length
  ·grind
  ·rw[aZ d];refine .inr ⟨wx _ _ _,qZ,λx f c=>a ?_,rfl⟩;rw[gA];exact⟨x,f,db c⟩
structure X7(B:Bk)(o:Od)(x:Bk×Pm):Prop where
 opp:SubL (x.1 (!o.buy)) (B !o.buy)
 own:x.1 o.buy=B o.buy\/(0<x.2.left/\x.1 o.buy=tK o.buy (B o.buy) {o with left:=x.2.left}/\(B o.buy).length<100/\∀y∈B o.buy,y.num≠o.num)
 fill:0<=x.2.left/\0<=x.2.filled/\x.2.filled+x.2.left<=o.left
 qty:(x.2.trades.map (·.qty)).sum=x.2.filled
 tr:∀t∈x.2.trades,1<=t.qty/\t.qty<=1000000/\t.acct≠o.acct/\∃b∈B !o.buy,b.num=t.num/\b.acct=t.acct/\b.price=t.price/\t.qty<=b.left/\nf o b.price=true
def Bk.set_ne(B:Bk){d e:Bool}(l:List Od)(h:e≠d):B.set d l e=B e:=aZ h
def Gg{rests:Bool}(j:BkMay B)(e:o.may=true):X7 B o (ko B o rests):=by
 have r:=may_left e;have a:=Fp (o:=o) (L:=B !o.buy) (left:=o.left) qZ λb h=>(j _ b h).1;obtain⟨x,g⟩:=dW (iV o o.left (B !o.buy));rw[<-g]at a;have k:=a.rest;have m:=a.fill;have n:0<=x.2.2.2.2:=qZ;have c:o.buy≠ !o.buy:=by grind
 unfold ko;simp only[<-g];by_cases f:rests=true/\0<x.1
 ·rw[bZ f];have i:=may_key (o:=o) (o' :={o with left:=x.1}) rfl e (by grind);refine⟨?_,?_,by grind,a.qty,a.tr⟩
  ·show SubL (Bk.set _ _ _ _) _;rw[Bk.set_other,Bk.set_self];exact a.sub
  ·show Bk.set _ _ _ _=_\/(0<x.1/\Bk.set _ _ _ _=tK _ _ {o with left:=x.1}/\_);rw[Bk.set_self,Bk.set_ne _ _ c];rcases Ha (l:=B o.buy) (buy:=o.buy) i rfl with⟨d,-⟩|⟨d,s,p,q⟩
   ·exact .inl d
   ·grind
 ·rw[aZ f];refine⟨?_,.inl ?_,by grind,a.qty,a.tr⟩
  ·show SubL (Bk.set _ _ _ _) _;rw[Bk.set_self];exact a.sub
  ·show Bk.set _ _ _ _=_;rw[Bk.set_ne _ _ c]
def IW(h:∀o∈l,o.num≠n):pI l n=none:=by
 unfold pI;rw[fW];exact λx a=>by simpa using h x a
def sdGet_some(d:(l.map (·.num)).Nodup){o:Od}(b:o∈l):pI l o.num=some o:=by
 induction l with
 |nil=>cases b
 |cons a l g=>
  rw[cM,dA]at d;unfold pI;rw[jL];rcases cH.1 b with rfl|b
  ·simp
  ·have c:a.num≠o.num:=λe=>d.1 (e▸dn (f:=(·.num)) b);rw[ej c];exact g d.2 b
def Ez(h:pI l n=some o):o∈l/\o.num=n:=by
 unfold pI at h;exact⟨fl h,by grind⟩
def Fy(b:(l.map (·.num)).Nodup)(n:Int):tD l n=l.filter λo=>decide (o.num≠n):=by
 unfold tD;induction l with
 |nil=>rfl
 |cons a l d=>
  rw[cM,dA]at b;by_cases h:a.num=n
  ·rw[List.eraseP_cons_of_pos (by simpa using h),cY (by simpa using h),fi.2 λx c=>?_];have:x.num≠a.num:=λe=>b.1 (e▸dn (f:=(·.num)) c);rw[db];omega
  ·grind
def BkNd(B:Bk):Prop:=(B.all.map (·.num)).Nodup
def BkNd.side(h:BkNd B)(d:Bool):((B d).map (·.num)).Nodup:=by
 unfold BkNd Bk.all at h;rw[dy,jI]at h;cases d
 ·exact h.2.1
 ·exact h.1
def BkNd.ne(h:BkNd B){d e:Bool}{x y:Od}(i:x∈B d)(g:y∈B e)(c:x.num=y.num):d=e/\x=y:=by
 unfold BkNd Bk.all at h;rw[dy,jI]at h
 have m:∀(l:List Od),(l.map (·.num)).Nodup->x∈l->y∈l->x=y:=λl f k j=>by
  have a:=sdGet_some f k;have b:=sdGet_some f j;rw[c,b]at a;exact(dB a).symm
 cases d<;>cases e
 ·grind
 ·exact absurd c.symm (h.2.2 _ (dn g) _ (dn i))
 ·exact absurd c (h.2.2 _ (dn i) _ (dn g))
 ·grind
def Ln(h:BkNd B){d:Bool}{o:Od}(a:o∈B d):B.find o.num=some (o,d):=by
 unfold Bk.find;cases d
 ·rw[IW λx c b=>by have:=(h.ne c a b).1;cases this];simp only;rw[sdGet_some (h.side false) a]
 ·rw[sdGet_some (h.side true) a]
def find_mem{d:Bool}(h:B.find n=some (o,d)):o∈B d/\o.num=n:=by
 unfold Bk.find at h;cases b:pI (B true) n with
 |some x=>
  rw[b]at h;cases h;exact Ez b
 |none=>
  rw[b]at h;simp only at h;cases a:pI (B false) n with
  |some x=>
   rw[a]at h;cases h;exact Ez a
  |none=>rw[a]at h;cases h
def Bk.flt(B:Bk)(p:Od->Bool):Bk:=λd=>(B d).filter p
def yS(h:BkNd B){n:Int}{o:Od}{d:Bool}(c:B.find n=some (o,d)):(jX B n).2.1=B.flt λo=>decide (o.num≠n):=by
 unfold jX;rw[c];funext e;have b:=find_mem c;show Bk.set _ _ _ _=_;unfold Bk.flt;by_cases a:e=d
 ·subst a;rw[Bk.set_self,Fy (h.side e)]
 ·rw[Bk.set_ne _ _ a,fi.2 λx f=>?_];rw[db];intro g;exact a (h.ne f b.1 (g.trans b.2.symm)).1
def SI(B:Bk)(p q:Od->Bool):(B.flt p).flt q=B.flt λo=>q o&& p o:=by
 funext d;unfold Bk.flt;rw[lF]
def Kq(B:Bk)(p:Od->Bool):(B.flt p).all=B.all.filter p:=by
 unfold Bk.all Bk.flt;rw[dJ]
def BkNd.flt(h:BkNd B)(p:Od->Bool):BkNd (B.flt p):=by
 unfold BkNd;rw[Kq];exact h.sublist (jv.map _)
def mem_all:o∈B.all↔∃d,o∈B d:=by
 unfold Bk.all;rw[dg];constructor
 ·rintro(h|h)
  ·exact⟨true,h⟩
  ·exact⟨false,h⟩
 ·rintro⟨d,h⟩;cases d
  ·exact .inr h
  ·exact .inl h
def AH{a:Int}:∀(l:List Od) (B:Bk),BkNd B->(l.map (·.num)).Nodup->(∀o∈l,o∈B.all)->yr a B l=B.flt λo=> !(l.any λx=>decide (x.num=o.num)&& pA a x)
 | [],B,_,_,_=>by
  funext d;unfold yr Bk.flt;exact(fi.2 λx k=>rfl).symm
 |x::l,B,h,c,i=>by
  rw[cM,dA]at c;have k:=i x cw;obtain⟨d,n⟩:=mem_all.1 k;have p:yr a B (x::l)=yr a (if pA a x then(jX B x.num).2.1 else B) l:=rfl;rw[p];by_cases g:pA a x=true
  ·rw[bZ g,yS h (Ln h n)];rw[AH l _ (h.flt _) c.2 λo b=>?_,SI]
   ·funext e;unfold Bk.flt;refine gF λo b=>?_;rw[kQ,g,Bool.and_true,Bool.not_or];by_cases m:x.num=o.num
    ·grind
    ·grind
   ·rw[Kq,cO];refine⟨i o (cu _ b),?_⟩;rw[db];exact λm=>c.1 (m▸dn (f:=(·.num)) b)
  ·rw[aZ g,AH l _ h c.2 λo b=>i o (cu _ b)];funext e;unfold Bk.flt;refine gF λo b=>?_;have j:pA a x=false:=by simpa using g
   rw[kQ,j,sj,jz]
def mass_flt(h:BkNd B)(a:Int):(qi B a).1=B.flt λo=> !pA a o:=by
 unfold qi;simp only;rw[AH _ _ h h λo c=>c];funext d;unfold Bk.flt;refine gF λo c=>?_;congr 1;rw[iC,gA];constructor
 ·rintro⟨x,i,b⟩;rw[cL,dN]at b;obtain⟨e,f⟩:=mem_all.1 i;rw[<-(h.ne f c b.1).2];exact b.2
 ·intro g;exact⟨o,mem_all.2 ⟨d,c⟩,by simp[g]⟩
def find_unique{l:List Po}(h:SortP l){p:Po}(hp:p∈l):l.find? (λx=>decide (x.key=p.key))=some p:=Led.pos_some (S:=⟨0,[],l⟩) h hp
def Led.pos_putP{S:Led}(h:SortP S.held)(p:Po)(k:Int×Int):(S.putP p).pos? k=if k=p.key then(if p.isZ then none else some p)else S.pos? k:=by
 have i:=qn h p;by_cases c:k=p.key
 ·subst c;rw[bZ rfl];cases g:p.isZ with
  |true=>
   simp only[fh];unfold Led.pos? Led.putP;rw[fW];intro x f;rcases mem_insP.1 f with⟨_,a⟩|⟨_,a⟩
   ·simpa using a
   ·rw[g]at a;cases a
  |false=>
   exact Led.pos_some (S:=S.putP p) i (mem_insP.2 (.inr ⟨rfl,g⟩))
 ·rw[aZ c];cases b:S.pos? k with
  |some x=>
   obtain⟨d,a⟩:=Led.pos_mem b;have:=Led.pos_some (S:=S.putP p) i (mem_insP.2 (.inl ⟨d,λe=>c (a▸e)⟩))
   rwa[a]at this
  |none=>
   unfold Led.pos? at b|-;rw[fW]at b|-;intro x f;rcases mem_insP.1 f with⟨d,_⟩|⟨rfl,_⟩
   ·exact b x d
   ·grind
def Led.position_putP{S:Led}(h:SortP S.held)(p:Po)(c a:Int):(S.putP p).position c a=if c=p.c/\a=p.a then p else S.position c a:=by
 unfold Led.position;rw[Led.pos_putP h];by_cases d:c=p.c/\a=p.a
 ·obtain⟨rfl,rfl⟩:=d;rw[bZ (show(p.c,p.a)=p.key from rfl),bZ (show p.c=p.c/\p.a=p.a from sI)];cases b:p.isZ with
  |false=>rfl
  |true=>
   unfold Po.isZ at b;simp only[dN]at b;obtain⟨g,f,j,i⟩:=p;simp only at b;simp[b.1,b.2]
 ·rw[aZ (λe=>d (by simpa [Po.key]using e)),aZ d]
def Led.trade_ok{S:Led}{c b s p:Int}(h:(S.trade c b s p n).1=0):b≠s/\
  (S.trade c b s p n).2=(S.putP ⟨c,b,(S.position c b).q+n,(S.position c b).b+p*n⟩).putP ⟨c,s,(S.position c s).q - n,(S.position c s).b - p*n⟩:=by
 unfold Led.trade at h|-;by_cases a:c=0\/b=0\/s=0\/b=s\/amongB p 1 MP=false\/amongB n 1 MP=false
 ·grind
 ·rw[aZ a]at h|-;by_cases d:S.find b=none\/S.find s=none
  ·grind
  ·rw[aZ d]at h|-;simp only at h|-;refine⟨λe=>a (.inr (.inr (.inr (.inl e)))),?_⟩;split at h
   ·cases h
   ·grind
def Led.trade_all{S:Led}{c b s p:Int}:(S.trade c b s p n).2.all=S.all/\(S.trade c b s p n).2.fund=S.fund:=by
 unfold Led.trade;split
 ·exact sI
 ·split
  ·exact sI
  ·simp only;split<;>exact sI
def kB(g:Po->Int)(l:List Po):Int:=(l.map g).sum
def Eu{l l' :List Po}(h:l.Perm l'):kB g l=kB g l' :=perm_sum (h.map g)
def Bg{l l' :List Po}:kB g (l++l')=kB g l+kB g l' :=by simp[kB]
def MS{l:List Po}(a:SortP l)(k:Int×Int):l.Perm ((l.find? λx=>decide (x.key=k)).toList++l.filter λx=>decide (x.key≠k)):=by
 induction l with
 |nil=>exact fw _
 |cons p l d=>
  have b:SortP l:=(fO.1 a).2;have hp:=(fO.1 a).1;by_cases h:p.key=k
  ·rw[lD (by simpa using h),cY (by simpa using h)];simp only[Option.toList_some,List.singleton_append];refine List.Perm.cons _ (lI ?_);symm;refine fi.2 λx c=>?_;have:=vC (hp x c);simpa using λe:x.key=k=>this (h.trans e.symm)
  ·grind
def wl{S:Led}(e:SortP S.held){g:Po->Int}(c:∀p,p.isZ=true->g p=0)(p:Po):kB g (S.putP p).held=kB g S.held+g p - g (S.position p.c p.a):=by
 have b:=Eu (g:=g) (AW S.held p);have a:=Eu (g:=g) (MS e p.key);rw[Bg]at b a
 have d:kB g (if p.isZ=true then []else [p])=g p:=by
  cases h:p.isZ with
  |true=>simp[kB,c p h]
  |false=>simp[kB]
 have f:kB g (S.held.find? λx=>decide (x.key=p.key)).toList=g (S.position p.c p.a):=by
  unfold Led.position Led.pos?;show _=g ((S.held.find? λx=>decide (x.key=p.key)).getD _);cases S.held.find? λx=>decide (x.key=p.key)with
  |none=>simp[kB,c ⟨p.c,p.a,0,0⟩ (by simp[Po.isZ])]
  |some x=>simp[kB]
 rw[d]at b;rw[f]at a;show kB g (G0 S.held p)=_;omega
def zgq(c:Int)(p:Po):Int:=if p.c=c then p.q else 0
def fJ(c:Int)(p:Po):Int:=if p.c=c then p.b else 0
def TB(c:Int):∀p,p.isZ=true->zgq c p=0:=λp h=>by
 unfold Po.isZ at h;simp only[dN]at h;unfold zgq;split<;>simp[h]
def Tx(c:Int):∀p,p.isZ=true->fJ c p=0:=λp h=>by
 unfold Po.isZ at h;simp only[dN]at h;unfold fJ;split<;>simp[h]
def Be(S:Led)(c:Int)(f:Po->Int):kB f (S.holders c)=kB (λp=>if p.c=c then f p else 0) S.held:=by
 unfold Led.holders kB;induction S.held with
 |nil=>rfl
 |cons p l a=>
  by_cases h:p.c=c
  ·grind
  ·grind
def Led.trade_sum{S:Led}(a:S.Ok){c b s p n:Int}(k:Int):
  kB (zgq k) (S.trade c b s p n).2.held=kB (zgq k) S.held/\kB (fJ k) (S.trade c b s p n).2.held=kB (fJ k) S.held:=by
 by_cases g:(S.trade c b s p n).1=0
 ·obtain⟨e,m⟩:=Led.trade_ok g;rw[m];have d:=qn a.sp ⟨c,b,(S.position c b).q+n,(S.position c b).b+p*n⟩;obtain⟨l,o,-⟩:=a.position c b;obtain⟨i,q,-⟩:=a.position c s
  have j:(S.putP ⟨c,b,(S.position c b).q+n,(S.position c b).b+p*n⟩).position c s=S.position c s:=by
   rw[Led.position_putP a.sp];rw[aZ (λh=>e h.2.symm)]
  constructor
  ·rw[wl d (TB k),wl a.sp (TB k)];simp only[j];unfold zgq;rw[l,i];by_cases f:c=k<;>simp[f]<;>omega
  ·rw[wl d (Tx k),wl a.sp (Tx k)];simp only[j];unfold fJ;rw[l,i];by_cases f:c=k<;>simp[f]<;>omega
 ·have:(S.trade c b s p n).2=S:=by
   unfold Led.trade at g|-;split
   ·rfl
   ·split
    ·rfl
    ·simp only at g|-;split
     ·rfl
     ·grind
  rw[this];exact sI
def mark_c(p:Po)(price:Int)(cl:Bool):(p.mark price cl).c=p.c/\(p.mark price cl).a=p.a:=by
 unfold Po.mark;cases cl<;>exact sI
def Je{price:Int}{cl:Bool}:∀{l:List Po} {S:Led},SortP S.held->SortP l->∀c a,(S.marked l price cl).position c a=match l.find? (λx=>decide (x.key=(c,a)))with|some p=>p.mark price cl|none=>S.position c a:=by
 intro l;induction l with
 |nil=>intro S b f c a;rfl
 |cons p l i=>
  intro S b f c a;have hp:=(fO.1 f).1;show((S.putP (p.mark price cl)).marked l price cl).position c a=_;rw[i (qn b _) (fO.1 f).2];by_cases h:p.key=(c,a)
  ·rw[lD (by simpa using h)]
   have d:l.find? (λx=>decide (x.key=(c,a)))=none:=by
    rw[fW];intro x g;have:=vC (hp x g);simpa using λe:x.key=(c,a)=>this (h.trans e.symm)
   rw[d];simp only;rw[Led.position_putP b];simp only[Po.key,ou]at h;rw[bZ ⟨by rw[(mark_c p price cl).1];exact h.1.symm,by rw[(mark_c p price cl).2];exact h.2.symm⟩]
  ·rw[lE (by simpa using h)];cases l.find? λx=>decide (x.key=(c,a))with
   |some x=>rfl
   |none=>
    simp only;rw[Led.position_putP b,(mark_c p price cl).1,(mark_c p price cl).2,aZ];intro e;exact h (by simp[Po.key,e.1,e.2])
def ur{S:Led}(h:SortP S.held)(c:Int):SortP (S.holders c):=h.filter _
def FG(S:Led)(c a k:Int):(S.holders c).find? (λx=>decide (x.key=(k,a)))=if k=c then S.pos? (c,a)else none:=by
 unfold Led.holders Led.pos?;by_cases b:k=c
 ·subst b;rw[bZ rfl];induction S.held with
  |nil=>rfl
  |cons p l d=>
   by_cases h:p.c=k
   ·grind
   ·rw[cY (by simpa using h),d,lE];simp[Po.key];intro e;exact absurd e h
 ·rw[aZ b,fW];intro x f;have:x.c=c:=by grind
  simp[Po.key];intro e;exact absurd (e.symm.trans this) b
def Led.mark_pos{S:Led}(b:SortP S.held)(c price:Int)(cl:Bool)(k a:Int):(S.marked (S.holders c) price cl).position k a=if k=c then(S.position c a).mark price cl else S.position k a:=by
 rw[Je b (ur b c),FG];by_cases d:k=c
 ·subst d;rw[bZ rfl,bZ rfl];unfold Led.position;cases S.pos? (k,a)with
  |some p=>rfl
  |none=>
   simp only[Option.getD_none];unfold Po.mark;cases cl<;>simp
 ·grind
def wM(f:∀p,p.isZ=true->g p=0){price:Int}{cl:Bool}:∀{l:List Po} {S:Led},SortP S.held->SortP l->(∀p∈l,S.position p.c p.a=p)->
  kB g (S.marked l price cl).held=kB g S.held+kB (λp=>g (p.mark price cl) - g p) l:=by
 intro l;induction l with
 |nil=>intro S _ _ _;simp[kB,Led.marked]
 |cons p l h=>
  intro S b c hp;have a:=(fO.1 c).1;show kB g ((S.putP (p.mark price cl)).marked l price cl).held=_;rw[h (qn b _) (fO.1 c).2 ?_,wl b f,(mark_c p price cl).1,(mark_c p price cl).2,hp p cw]
  ·simp only[kB,cM,di];omega
  ·intro x d;rw[Led.position_putP b,(mark_c p price cl).1,(mark_c p price cl).2,aZ,hp x (cu _ d)];intro e;have:=vC (a x d);exact this (by grind)
def uS{l:List Po}(h:∀p∈l,f p=g p):kB f l=kB g l:=by
 unfold kB;rw[dt h]
def xJ(l:List Po):kB (λ_=>0) l=0:=by
 unfold kB;induction l with
 |nil=>rfl
 |cons p l a=>simp[a]
def CV{l:List Po}(x:Int):kB (λp=>f p*x) l=kB f l*x:=by
 unfold kB;induction l with
 |nil=>simp
 |cons p l a=>simp[a,Int.add_mul]
def zN{l:List Po}:kB (λp=>f p - g p) l=kB f l - kB g l:=by
 unfold kB;induction l with
 |nil=>simp
 |cons p l a=>simp[a];omega
def Led.Zero(S:Led):Prop:=∀c,kB (zgq c) S.held=0/\kB (fJ c) S.held=0
def Led.Zero.holders{S:Led}(h:S.Zero)(c:Int):kB (·.q) (S.holders c)=0/\kB (·.b) (S.holders c)=0:=by
 rw[Be,Be];exact h c
def Led.holders_self{S:Led}(d:SortP S.held){c:Int}{p:Po}(hp:p∈S.holders c):S.position p.c p.a=p/\p.c=c:=by
 obtain⟨b,a⟩:=cO.1 hp;refine⟨?_,by simpa using a⟩;unfold Led.position;rw[show(p.c,p.a)=p.key from rfl,Led.pos_some d b];rfl
def Led.Zero.mark{S:Led}(a:S.Ok)(h:S.Zero)(c price:Int)(cl:Bool):(S.marked (S.holders c) price cl).Zero:=by
 intro k;have j:=ur a.sp c;have b:=λp (hp:p∈S.holders c)=>(Led.holders_self a.sp hp).1;obtain⟨l,n⟩:=h.holders c;by_cases m:k=c
 ·subst m;constructor
  ·rw[wM (TB k) a.sp j b,(h k).1]
   have:kB (λp=>zgq k (p.mark price cl) - zgq k p) (S.holders k)=kB (λp=>(if cl then 0 else p.q) - p.q) (S.holders k):=uS λp hp=>by
    have i:=(Led.holders_self a.sp hp).2;unfold zgq Po.mark;cases cl<;>simp[i]
   rw[this,zN,l];cases cl with
   |true=>simp only[fh];rw[xJ];rfl
   |false=>simp only[dE,eW];rw[l];rfl
  ·rw[wM (Tx k) a.sp j b,(h k).2]
   have:kB (λp=>fJ k (p.mark price cl) - fJ k p) (S.holders k)=kB (λp=>(if cl then 0 else p.q*price) - p.b) (S.holders k):=uS λp hp=>by
    have i:=(Led.holders_self a.sp hp).2;unfold fJ Po.mark;cases cl<;>simp[i]
   rw[this,zN,n];cases cl with
   |true=>simp only[fh];rw[xJ];rfl
   |false=>
    simp only[dE,eW];rw[CV (f:=λp=>p.q),l];simp
 ·have e:∀(g:Int->Po->Int),(g=zgq\/g=fJ)->kB (λp=>g k (p.mark price cl) - g k p) (S.holders c)=0:=λg o=>by
   have:kB (λp=>g k (p.mark price cl) - g k p) (S.holders c)=kB (λ_=>0) (S.holders c):=uS λp hp=>by
    have i:=(Led.holders_self a.sp hp).2;have d:¬p.c=k:=λe=>m (e.symm.trans i);rcases o with rfl|rfl
    ·unfold zgq;rw[(mark_c p price cl).1,aZ d,aZ d];rfl
    ·unfold fJ;rw[(mark_c p price cl).1,aZ d,aZ d];rfl
   rw[this];exact xJ _
  constructor
  ·rw[wM (TB k) a.sp j b,(h k).1,e zgq (.inl rfl)];rfl
  ·rw[wM (Tx k) a.sp j b,(h k).2,e fJ (.inr rfl)];rfl
def NP{l:List Ac}(a:SortA l)(n:Int):l.Perm ((l.find? λx=>decide (x.num=n)).toList++l.filter λx=>decide (x.num≠n)):=by
 induction l with
 |nil=>exact fw _
 |cons p l d=>
  have b:SortA l:=(fO.1 a).2;have hp:=(fO.1 a).1;by_cases h:p.num=n
  ·rw[lD (by simpa using h),cY (by simpa using h)];simp only[Option.toList_some,List.singleton_append];refine List.Perm.cons _ (lI ?_);symm;refine fi.2 λx c=>?_;have:=hp x c;simp;omega
  ·grind
def Led.funds_putA{S:Led}(f:SortA S.all)(a:Ac):(S.putA a).funds=S.funds+a.cash - ((S.getO a.num).getD ⟨0,0,false,false⟩).cash:=by
 unfold Led.putA;by_cases b:a.num=0
 ·rw[bZ b,b];simp[Led.funds,Led.getO,fundAc];omega
 ·rw[aZ b];simp only[Led.funds,Led.getO,aZ b,Led.find];have d:=perm_sum ((xR S.all a).map (·.cash));have c:=perm_sum ((NP f a.num).map (·.cash));rw[dy,g9]at c;simp only[cM,di]at d
  have e:((S.all.find? λx=>decide (x.num=a.num)).toList.map (·.cash)).sum=((S.all.find? λx=>decide (x.num=a.num)).getD ⟨0,0,false,false⟩).cash:=by
   cases S.all.find? λx=>decide (x.num=a.num)<;>simp
  omega
def Led.deposit_funds{S:Led}(a:SortA S.all)(n m:Int):(S.deposit n m).2.funds=S.funds+if(S.deposit n m).1=0 then m else 0:=by
 unfold Led.deposit;split
 ·split
  ·simp
  ·split
   ·simp
   ·rw[bZ rfl];simp only;rw[Led.funds_putA a];simp only;omega
 ·simp
def Led.withdraw_funds{S:Led}(g:SortA S.all)(n m:Int):(S.withdraw n m).2.funds=S.funds+if(S.withdraw n m).1=0 then -m else 0:=by
 unfold Led.withdraw;split
 ·simp
 ·rename_i f
  cases d:S.find n with
  |none=>simp
  |some a=>
   simp only;split
   ·simp
   ·rw[bZ rfl];simp only;obtain⟨h,b⟩:=Led.find_mem d;have c:n≠0:=λe=>f (.inl e);rw[Led.funds_putA g];simp only[Led.getO,b,aZ c,d,fT];omega
def Led.funds_of{S S' :Led}(h:S'.all=S.all/\S'.fund=S.fund):S'.funds=S.funds:=by unfold Led.funds;rw[h.1,h.2]
def Led.putA_held(S:Led)(a:Ac):(S.putA a).held=S.held:=by unfold Led.putA;split<;>rfl
def Led.deposit_held(S:Led)(n m:Int):(S.deposit n m).2.held=S.held:=by
 unfold Led.deposit;split
 ·split
  ·rfl
  ·split
   ·rfl
   ·exact Led.putA_held _ _
 ·rfl
def Led.withdraw_held(S:Led)(n m:Int):(S.withdraw n m).2.held=S.held:=by
 unfold Led.withdraw;split
 ·rfl
 ·split
  ·rfl
  ·split
   ·rfl
   ·exact Led.putA_held _ _
def Led.empty_zero:Led.Zero ⟨0,[],[]⟩:=λc=>⟨rfl,rfl⟩
structure sE.Ok(C:sE):Prop where
 len:C.l.length<=16
 day:pL C.day
 ok:∀k∈C.l,k.Ok
 srt:qO C.l
def Ven.ords(S:Ven)(n:Int):List Od:=(S.bk n).all++S.bd n
def Led.Stands(L:Led)(a:Int):Prop:=∃x,L.find a=some x/\x.kil=false/\x.dfl=false
structure Ven.Std(S:Ven)(o:Od):Prop where
 may:o.may=true
 fit:o.Fit
 num:o.num<S.next
 acc:S.led.Stands o.acct
structure vg(S:Ven):Prop where
 out:∀n,ex S.cal.l n≠0->S.ords n=[]
 side:∀n d,(S.bk n d).length<=100/\∀o∈S.bk n d,o.buy=d
 std:∀n,∀o∈S.ords n,S.Std o
 nd:∀n,((S.ords n).map (·.num)).Nodup
 apart:∀n m o o',o∈S.ords n->o' ∈S.ords m->o.num=o'.num->n=m
 bdl:∀n,(S.bd n).length<=50
structure Cb(C:sE)(L:Led):Prop where
 led:L.Ok
 held:∀p∈L.held,ex C.l p.c=0
 zero:L.Zero
structure Ven.Ok(S:Ven):Prop where
 cal:S.cal.Ok
 led:Cb S.cal S.led
 ord:vg S
 next:1<=S.next/\S.next<=maxNum+1
 fnd:S.led.funds<=MF
def rC{d:Bool}(h:o∈S.bk n d):o∈S.ords n:=fk _ (mem_all.2 ⟨d,h⟩)
def vk(h:o∈S.bd n):o∈S.ords n:=gg _ h
def vN(h:o∈S.ords n):(∃d,o∈S.bk n d)\/o∈S.bd n:=(dg.1 h).imp mem_all.1 id
def vg.bkMay(h:vg S)(n:Int):BkMay (S.bk n):=λd o a=>⟨(h.std n o (rC a)).may,(h.side n d).2 o a⟩
def vg.bkNd(h:vg S)(n:Int):BkNd (S.bk n):=by
 have:=h.nd n;unfold Ven.ords at this;rw[dy,jI]at this;exact this.1
def vg.bdMay(h:vg S)(n:Int):∀o∈S.bd n,o.may=true:=λo a=>(h.std n o (vk a)).may
def vg.bdNd(h:vg S)(n:Int):((S.bd n).map (·.num)).Nodup:=by
 have:=h.nd n;unfold Ven.ords at this;rw[dy,jI]at this;exact this.2.1
def I8{a d b e c c' :List Int}(f:d.Sublist a)(g:e.Sublist b)(i:c'.Sublist c)(h:(a++b++c).Nodup):(d++e++c').Nodup:=h.sublist ((f.append g).append i)
def Cv(S:Ven)(n:Int):(S.ords n).map (·.num)=(S.bk n true).map (·.num)++(S.bk n false).map (·.num)++(S.bd n).map (·.num):=by
 unfold Ven.ords Bk.all;rw[dy,dy]
def K3(h:o.key=o'.key)(a:o.Fit)(b:1<=o'.left/\o'.left<=1000000):o'.Fit:=by
 unfold Od.Fit at*;rw[<-key_num h,<-key_acct h,<-key_price h];exact⟨a.1,a.2.1,a.2.2.1,by grind⟩
def zQ{S' :Ven}(f:∀n d,SubL (S'.bk n d) (S.bk n d))(g:∀n,SubL (S'.bd n) (S.bd n)){n:Int}{o:Od}(h:o∈S'.ords n):∃a∈S.ords n,a.key=o.key/\1<=o.left/\o.left<=1000000:=by
 rcases vN h with⟨d,b⟩|b
 ·obtain⟨a,c,e⟩:=(f n d).mem b;exact⟨a,rC c,e,(f n d).left o b⟩
 ·obtain⟨a,c,e⟩:=(g n).mem b;exact⟨a,vk c,e,(g n).left o b⟩
def vg.mono{S' :Ven}(h:vg S)(s:∀n,ex S'.cal.l n≠0->ex S.cal.l n≠0\/S'.ords n=[])(f:∀n d,SubL (S'.bk n d) (S.bk n d))(i:∀n,SubL (S'.bd n) (S.bd n))
  (u:∀n o,o∈S'.ords n->S.led.Stands o.acct->S'.led.Stands o.acct)(q:S.next<=S'.next):vg S' where
 out n q:=by
  rcases s n q with e|e
  ·have c:=h.out n e;cases r:S'.ords n with
   |nil=>rfl
   |cons x l=>
    obtain⟨p,g,-⟩:=zQ (S:=S) (S' :=S') f i (n:=n) (o:=x) (by grind);rw[c]at g;cases g
  ·exact e
 side n d:=⟨dD (f n d).len (h.side n d).1,λo j=>by
  obtain⟨p,e,c⟩:=(f n d).mem j;rw[<-key_buy c];exact(h.side n d).2 p e⟩
 std n o j:=by
  obtain⟨p,e,c,g⟩:=zQ f i j;have k:=h.std n p e;exact⟨may_key c k.may g,K3 c k.fit g,by rw[<-key_num c];exact oZ k.num q,u n o j (by rw[<-key_acct c];exact k.acc)⟩
 nd n:=by
  have:=h.nd n;rw[Cv]at this|-;exact I8 (f n true).nums (f n false).nums (i n).nums this
 apart n m o o' j ho' r:=by
  obtain⟨a,e,c,-⟩:=zQ f i j;obtain⟨b,g,t,-⟩:=zQ f i ho';exact h.apart n m a b e g (by rw[key_num c,key_num t];exact r)
 bdl n:=dD (i n).len (h.bdl n)
def vg.addBk(h:vg S){n:Int}{x:Od}{B:Bk}{nx:Int}(H:ex S.cal.l n=0)(P:x.may=true)(N:x.Fit)(C:x.num<nx)(D:S.led.Stands x.acct)(r:∀m,∀o∈S.ords m,o.num≠x.num)
  (opp:SubL (B !x.buy) (S.bk n !x.buy))(own:B x.buy=S.bk n x.buy\/((B x.buy).Perm (x::S.bk n x.buy)/\(S.bk n x.buy).length<100))(G:S.next<=nx):vg {S with bk:=upd S.bk n B,next:=nx}:=by
 have q:=h.bkMay;have v:=h.bdMay
 have i:∀m,∀o∈({S with bk:=upd S.bk n B,next:=nx}:Ven).ords m,(∃s∈S.ords m,s.key=o.key/\1<=o.left/\o.left<=1000000)\/(o=x/\m=n):=by
  intro m o l;by_cases c:m=n
  ·subst c;rcases vN l with⟨d,j⟩|j
   ·replace j:o∈upd S.bk m B m d:=j;rw[upd_self]at j;by_cases t:d=x.buy
    ·subst t;rcases own with f|⟨f,-⟩
     ·rw[f]at j;exact .inl ⟨o,rC j,rfl,may_left (q m _ o j).1⟩
     ·rcases cH.1 (f.mem_iff.1 j)with rfl|g
      ·grind
      ·exact .inl ⟨o,rC g,rfl,may_left (q m _ o g).1⟩
    ·obtain rfl:d= !x.buy:=by cases d<;>cases C:x.buy<;>simp_all
     obtain⟨s,g,k⟩:=opp.mem j;exact .inl ⟨s,rC g,k,opp.left o j⟩
   ·exact .inl ⟨o,vk j,rfl,may_left (v m o j)⟩
  ·have:o∈S.ords m:=by
    have e:({S with bk:=upd S.bk n B,next:=nx}:Ven).ords m=S.ords m:=by
     show(upd S.bk n B m).all++S.bd m=_;rw[upd_ne _ _ _ c];rfl
    rwa[e]at l
   exact .inl ⟨o,this,rfl,may_left (h.std m o this).may⟩
 have p:∀d,((B d).map (·.num)).Sublist ((S.bk n d).map (·.num))\/(d=x.buy/\((B d).map (·.num)).Perm (x.num::(S.bk n d).map (·.num))):=λd=>by
  by_cases t:d=x.buy
  ·subst t;rcases own with f|⟨f,-⟩
   ·grind
   ·grind
  ·obtain rfl:d= !x.buy:=by cases d<;>cases C:x.buy<;>simp_all
   exact .inl opp.nums
 refine⟨λm u=>?_,λm d=>?_,λm o l=>?_,λm=>?_,λO I o K l w y=>?_,h.bdl⟩
 ·have c:m≠n:=λe=>by subst e;exact u H
  show(upd S.bk n B m).all++S.bd m=[]
  rw[upd_ne _ _ _ c];exact h.out m u
 ·show(upd S.bk n B m d).length<=100/\∀o∈upd S.bk n B m d,_;by_cases c:m=n
  ·subst c;rw[upd_self];by_cases t:d=x.buy
   ·subst t;rcases own with f|⟨f,g⟩
    ·rw[f];exact h.side m _
    ·refine⟨by have:=f.length_eq;rw[dc]at this;omega,λo l=>?_⟩;rcases cH.1 (f.mem_iff.1 l)with rfl|k
     ·rfl
     ·exact(h.side m _).2 o k
   ·obtain rfl:d= !x.buy:=by cases d<;>cases C:x.buy<;>simp_all
    refine⟨dD opp.len (h.side m _).1,λo l=>?_⟩;obtain⟨s,g,k⟩:=opp.mem l;rw[<-key_buy k];exact(h.side m _).2 s g
  ·rw[upd_ne _ _ _ c];exact h.side m d
 ·rcases i m o l with⟨s,f,g,k⟩|⟨rfl,rfl⟩
  ·have A:=h.std m s f;exact⟨may_key g A.may k,K3 g A.fit k,by rw[<-key_num g];exact oZ A.num G,by rw[<-key_acct g];exact A.acc⟩
  ·exact⟨P,N,C,D⟩
 ·by_cases c:m=n
  ·subst c;rw[Cv];show(List.map _ (upd S.bk m B m true)++List.map _ (upd S.bk m B m false)++List.map _ (S.bd m)).Nodup;rw[upd_self];have J:=h.nd m
   have z:x.num ∉ (S.ords m).map (·.num):=λQ=>by
    obtain⟨o,l,y⟩:=cF.1 Q;exact r m o l y
   rw[Cv]at J z;have j:(x.num::((S.bk m true).map (·.num)++(S.bk m false).map (·.num)++(S.bd m).map (·.num))).Nodup:=dA.2 ⟨z,J⟩;rcases p true with M|⟨R,M⟩
   ·rcases p false with F|⟨L,F⟩
    ·grind
    ·grind
   ·rcases p false with F|⟨L,F⟩
    ·grind
    ·grind
  ·show(((upd S.bk n B m).all++S.bd m).map (·.num)).Nodup;rw[upd_ne _ _ _ c];exact h.nd m
 ·rcases i O o l with⟨a,f,g,-⟩|⟨rfl,rfl⟩
  ·rcases i I K w with⟨b,k,E,-⟩|⟨rfl,rfl⟩
   ·exact h.apart _ _ a b f k (by rw[key_num g,key_num E];exact y)
   ·exact absurd ((key_num g).trans y) (r _ a f)
  ·rcases i I K w with⟨b,k,E,-⟩|⟨rfl,rfl⟩
   ·exact absurd ((key_num E).trans y.symm) (r _ b k)
   ·rfl
def vg.addBd(h:vg S){n:Int}{x:Od}{nx:Int}(u:ex S.cal.l n=0)(C:x.may=true)(z:x.Fit)(B:x.num<nx)(r:S.led.Stands x.acct)(q:∀m,∀o∈S.ords m,o.num≠x.num)
  (F:(S.bd n).length<50)(s:S.next<=nx):vg {S with bd:=upd S.bd n (S.bd n++[x]),next:=nx}:=by
 have f:∀m,∀o∈({S with bd:=upd S.bd n (S.bd n++[x]),next:=nx}:Ven).ords m,o∈S.ords m\/(o=x/\m=n):=by
  intro m o g;by_cases c:m=n
  ·subst c;rcases vN g with⟨d,j⟩|j
   ·exact .inl (rC j)
   ·replace j:o∈upd S.bd m (S.bd m++[x]) m:=j;rw[upd_self]at j;rcases dg.1 j with i|i
    ·exact .inl (vk i)
    ·grind
  ·left
   have e:({S with bd:=upd S.bd n (S.bd n++[x]),next:=nx}:Ven).ords m=S.ords m:=by
    show(S.bk m).all++upd S.bd n _ m=_;rw[upd_ne _ _ _ c];rfl
   rwa[e]at g
 refine⟨λm k=>?_,h.side,λm o g=>?_,λm=>?_,λA v o t g l D=>?_,λm=>?_⟩
 ·have c:m≠n:=λe=>by subst e;exact k u
  show(S.bk m).all++upd S.bd n _ m=[]
  rw[upd_ne _ _ _ c];exact h.out m k
 ·rcases f m o g with i|⟨rfl,rfl⟩
  ·have p:=h.std m o i;exact⟨p.may,p.fit,oZ p.num s,p.acc⟩
  ·exact⟨C,z,B,r⟩
 ·by_cases c:m=n
  ·subst c;show(((S.bk m).all++upd S.bd m _ m).map (·.num)).Nodup;rw[upd_self,<-df,dy,jI];refine⟨h.nd m,by simp,λa E b w=>?_⟩;obtain⟨o,g,rfl⟩:=cF.1 E;rw[cM,List.map_nil,eK]at w;rw[w];exact q m o g
  ·show(((S.bk m).all++upd S.bd n _ m).map (·.num)).Nodup;rw[upd_ne _ _ _ c];exact h.nd m
 ·rcases f A o g with i|⟨rfl,rfl⟩
  ·rcases f v t l with y|⟨rfl,rfl⟩
   ·exact h.apart _ _ o t i y D
   ·grind
  ·rcases f v t l with y|⟨rfl,rfl⟩
   ·grind
   ·rfl
 ·show(upd S.bd n _ m).length<=50;by_cases c:m=n
  ·subst c;rw[upd_self,cD];show(S.bd m).length+1<=50;omega
  ·rw[upd_ne _ _ _ c];exact h.bdl m
def JC{a:Int}(b:a≠0)(o:Od):pA a o=ofA a o:=by unfold pA ofA;rw[ej b,jz]
def BZ(a:Int)(ns:List Int)(n:Int)(o:Od):Bool:= !(ns.contains n&& ofA a o)
def CL{a:Int}(h:a≠0):∀(c:List Int) (S:Ven) (g:List Int),(∀n,BkNd (S.bk n))->
  (c.foldl (clr1 a) (g,S)).2={S with bk:=λn=>(S.bk n).flt (BZ a c n),bd:=λn=>(S.bd n).filter (BZ a c n)}
 | [],S,g,_=>by
  have p:(λn=>(S.bk n).flt (BZ a [] n))=S.bk:=by
   funext n d;unfold Bk.flt;exact fi.2 λo _=>rfl
  have l:(λn=>(S.bd n).filter (BZ a [] n))=S.bd:=by
   funext n;exact fi.2 λo _=>rfl
  rw[p,l];rfl
 |m::c,S,g,f=>by
  rw[ig];obtain⟨k,e⟩:=dW ((clr1 a (g,S) m).1)
  have i:clr1 a (g,S) m=(k,{S with bk:=upd S.bk m ((S.bk m).flt λo=> !ofA a o),bd:=upd S.bd m ((S.bd m).filter λo=> !ofA a o)}):=by
   rw[e];unfold clr1;simp only;rw[mass_flt (f m)];congr 3;funext d;unfold Bk.flt;exact gF λo _=>by rw[JC h]
  rw[i,CL h c]
  ·congr 1
   ·funext n d;show List.filter _ (upd S.bk m _ n d)=List.filter _ (S.bk n d);by_cases b:n=m
    ·subst b;rw[upd_self];unfold Bk.flt;rw[lF];refine gF λo _=>?_;unfold BZ;cases j:ofA a o<;>simp
    ·rw[upd_ne _ _ _ b];refine gF λo _=>?_;unfold BZ;rw[pf];have:(n==m)=false:=by simpa using b
     rw[this,jz]
   ·funext n;show List.filter _ (upd S.bd m _ n)=List.filter _ (S.bd n);by_cases b:n=m
    ·subst b;rw[upd_self,lF];refine gF λo _=>?_;unfold BZ;cases j:ofA a o<;>simp
    ·rw[upd_ne _ _ _ b];refine gF λo _=>?_;unfold BZ;rw[pf];have:(n==m)=false:=by simpa using b
     rw[this,jz]
  ·intro n;show BkNd (upd S.bk m _ n);by_cases b:n=m
   ·subst b;rw[upd_self];exact(f n).flt _
   ·rw[upd_ne _ _ _ b];exact f n
def C8(h:vg S){a k:Int}(b:a≠0):(S.clear a k).2={S with bk:=λn=>(S.bk n).flt (BZ a (S.nums.filter λn=>decide (k=0\/k=n)) n),bd:=λn=>(S.bd n).filter (BZ a (S.nums.filter λn=>decide (k=0\/k=n)) n)}:=
 CL b _ _ _ h.bkNd
def wH(h:vg S){a k:Int}(b:a≠0):(S.clear a k).2.cal=S.cal/\(S.clear a k).2.led=S.led/\(S.clear a k).2.next=S.next:=by
 rw[C8 h b];exact⟨rfl,rfl,rfl⟩
def AT(h:vg S){a k:Int}(c:a≠0):vg (S.clear a k).2:=by
 rw[C8 h c];exact h.mono (λn f=>.inl f) (λn d=>SubL.filter (λo b=>(h.bkMay n d o b).1) _) (λn=>SubL.filter (h.bdMay n) _) (λn o b e=>e) (io _)
def zn(h:ex S.cal.l n=0):n∈S.nums:=by
 unfold ex at h;unfold Ven.nums;cases a:eR S.cal.l n with
 |none=>rw[a]at h;cases h
 |some k=>
  have b:=jw a;exact cF.2 ⟨k,ry a,by simpa using b⟩
def vg.alive(h:vg S){n:Int}{o:Od}(a:o∈S.ords n):ex S.cal.l n=0:=by
 apply dU;intro b;rw[h.out n b]at a;cases a
def CY(h:vg S){a:Int}(f:a≠0){n:Int}{o:Od}(c:o∈(S.clear a 0).2.ords n):o.acct≠a/\o∈S.ords n:=by
 have g:ex S.cal.l n=0:=by
  have:=(AT h (k:=0) f).alive c
  rwa[(wH h f).1]at this
 rw[C8 h f]at c
 have j:(S.nums.filter λm=>decide ((0:Int)=0\/0=m)).contains n=true:=by
  rw[List.contains_eq_mem,dN,cO];exact⟨zn g,by simp⟩
 have key:∀{l:List Od},o∈l.filter (BZ a (S.nums.filter λm=>decide ((0:Int)=0\/0=m)) n)->o∈l/\o.acct≠a:=λ{l} b=>by
  rw[cO]at b;refine⟨b.1,λe=>?_⟩;have:=b.2;unfold BZ ofA at this;rw[j,db e]at this;cases this
 rcases vN c with⟨d,i⟩|i
 ·have:=key (l:=S.bk n d) i;exact⟨this.2,rC this.1⟩
 ·have:=key (l:=S.bd n) i;exact⟨this.2,vk this.1⟩
end Go.Proofs
