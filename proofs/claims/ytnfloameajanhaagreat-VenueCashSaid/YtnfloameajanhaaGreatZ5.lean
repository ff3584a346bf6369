/- Part of a proof. -/
import Derived.Test.YtnfloameajanhaaGreatZ4
set_option linter.all false
namespace Go.Proofs
open Go Go.Vc
attribute [local congr] cR
variable {a:List Rt}{b:Nat}{w:Wt_}
abbrev Fw:TypeId:=193
def ax3:Tryz.prog.underlying Fw=some (.array 9 192):=cU
def nRt:Tryz.prog.cellsOf 192=3+1:=cU
def vE(w:Wt_)(b:Nat)(rs:List Rt):Prop:=hp w b=some (.cells (rs.flatMap I7).toArray Fw (0,0))/\rs.length=9
def vE.mod{F:NP_}{w' :Wt_}(h:vE w b a)(c:de F w w')(d:¬F b):vE w' b a:=⟨c.hpk h.1 d,h.2⟩
def vE.ld(h:vE w b a){i:Nat}(hi:i<9){j:Nat}(c:j<4){x:Int}(d:(I7 (a[i]'(by rw[h.2];exact hi)))[j]? =some (gI x)):
  (iL 2 (pt b (i*4+j))).run pQ w=.ok (gI x) w:=by
 have:=vM wB c a i (by rw[h.2];exact hi);rw[d]at this;simp[go_sem,h.1,this]
def vE.st(h:vE w b a){i:Nat}(hi:i<9){j:Nat}(g:j<4){x:Int}{r' :Rt}(l:(I7 (a[i]'(by rw[h.2];exact hi))).set j (gI x)=I7 r'):
  ∃e,(iS 2 (pt b (i*4+j)) (gI x)).run pQ w=.ok () e/\vE e b (a.set i r')/\de (λy=>y=b) w e:=by
 have f:i<a.length:=by rw[h.2];exact hi
 have c:=EE wB g a i f l;have d:i*4+j<(a.flatMap I7).length:=by rw[wT wB,h.2];omega
 have k:(a.flatMap I7)[i*4+j]? =some ((a.flatMap I7)[i*4+j]):=cE d;refine⟨w.setCell ⟨b,i*4+j,none⟩ (gI x),by simp[go_sem,h.1,k],⟨?_,by rw[ey,h.2]⟩,(de.refl (λy=>y=b) w).sc⟩;rw[nO,bZ rfl,h.1,iK,ed,c]
def vE.ix{i:Nat}(hi:i<9)(k:IntKind)(W:Wt_):(iX Fw (pt b 0) (.int k (i:Int))).run pQ W=.ok (pt b (i*4)) W:=by
 have a:¬(9:Int)<=(i:Int):=qZ;simp[go_sem,hi,a,cS,ax3,Program.elem,Go.Vc.oK nRt]
def xu(b o j:Nat)(a:j<4)(W:Wt_):(iF 192 (pt b o) j).run pQ W=.ok (pt b (o+j)) W:=by
 rcases(show j=0\/j=1\/j=2\/j=3 by omega)with rfl|rfl|rfl|rfl<;>simp[go_sem,cS]
def Aa{x y:Int}{W:Wt_}(h:jl (x+y)):(qE .add 2 false (gI x) (gI y)).run pQ W=.ok (gI (x+y)) W:=by
 simp[go_sem];rw[uP h.1 h.2]
def On{W:Wt_}{q:Nat}{f:List Rt}{x:Lg}{k:Int}{S:Value×Value×Value×Unit->World->Prop}{K:cG}{s1 s2:Vt_}{i:Nat}(hR:vE W b f)(V:hp W q=some (.cells (wX x).toArray 94 (0,0)))(hbq:b≠q)(hi:i<=1000)(hk:0<=k/\k<=100)(hbd:∀r∈f,r.Bd k)(hok:A2 x=true)(hfit:x.spec.Fit)
  (hK:∀p,vE p b (pV f x)->de (λy=>y=b) W p->S (s1,s2,gI ((i+1:Nat):Int),()) p):
  Li K (pt q 0) (s1,s2,gI (i:Int),()) S (pt b 0) (.bool false,()) W:=by
 have g:=hok;unfold A2 at g;rw[cL]at g;obtain⟨p1,p2,p3,p4,p5⟩:=A3 g.1;have Z:=dR g.2;unfold Li;intro _;rw[gP];have u:∀W,hp W q=some (.cells (wX x).toArray 94 (0,0))->(iL 2 (pt q 25)).run pQ W=.ok (gI x.q) W:=λW h=>by simp[go_sem,h,QU]
 have I:∀W,hp W q=some (.cells (wX x).toArray 94 (0,0))->(iL 2 (pt q 22)).run pQ W=.ok (gI x.spec.credit) W:=λW h=>by simp[go_sem,h,lgT,Zj]
 refine qSv0 (pt q 25) (cI (u _ V) ?_);by_cases z:x.q=0
 ·refine qSt1 z ?_;apply cx (gI ((i+1:Nat):Int)) W (by simp[go_sem];rw[wI_]);have e:pV f x=f:=by unfold pV;rw[bZ z]
  have hk' :=hK W (by rw[e];exact hR) lX;exact hk'
 refine qSf1 z ?_;obtain⟨n,hn⟩:=dW (x.spec.route.toNat:Nat);have hnr:x.spec.route=(n:Int):=qZ;have a:n<9:=qZ;have hnl:n<f.length:=by rw[hR.2];exact a
 obtain⟨r,hr⟩:=dW (f[n]);have hrb:=hbd r (by grind);obtain⟨b1,b2,b3,b4,b5,b6,b7,b8⟩:=hrb;have hw:=Er Z p1;refine qS0 ?_;refine qS0 ?_;apply cx (gB (n:Int)) W (by simp[go_sem,V,lgT,av4,hnr]);apply cI (vE.ix a .u8 W)
 have st:pV f x=f.set n (D9 r x):=by
  unfold pV;rw[aZ z,<-hn,cE hnl,hr]
 obtain⟨s,c⟩:=dW (if(r.longs=0/\r.shorts=0)\/x.spec.credit<r.rate then x.spec.credit else r.rate);have D:∀{W p:Wt_},de (λy=>y=b) W p->hp W q=some (.cells (wX x).toArray 94 (0,0))->hp p q=some (.cells (wX x).toArray 94 (0,0)):=λm h=>m.hpk h (λe=>hbq e.symm);refine dK.at (λ_ p=>vE p b (f.set n ⟨r.scans+oQ x.spec.shifts.toList x.q,r.longs,r.shorts,s⟩)/\de (λy=>y=b) W p) ?_ ?_
 ·simp only[dr];have md:M0 W W.drew:=mP;have F:=hR.mod md id;have A:=md.hpk V id;generalize W.drew=w1 at md F A|-;apply dw (λW=>xu b (n*4) 0 qZ W);have l0:∀w,vE w b f->(iL 2 (pt b (n*4+0))).run pQ w=.ok (gI r.scans) w:=λw h=>h.ld a (j:=0) qZ (by rw[hr];rfl);apply dp (l0 _ F);refine qP0 ?_;refine qP0 ?_
  have hA:At w1 q 6 (xD x.spec.shifts):=by
   have:=(At.all A).sub 6 16 (by rw[kZ];omega);rw[wX,eZ (by rw[dP];omega),dh (by rw[dV,dP];omega),xK]at this;simpa using this
  apply sm (xD x.spec.shifts) 15 Y2 Y4 (rh _) hA;refine qPv0 (pt q 25) (dp (u _ A) ?_);refine Im p1 qZ λw2 m2=>?_;have R:=F.mod m2 id;have hq2:=m2.hpk A id;refine⟨l0 _ R,?_⟩;apply dw (λW=>Aa ⟨qZ,qZ⟩);apply dw (λW=>xu b (n*4) 0 qZ W);obtain⟨L,e3,M,m3⟩:=R.st a (j:=0) qZ (x:=r.scans+oQ x.spec.shifts.toList x.q) (r' :=⟨r.scans+oQ x.spec.shifts.toList x.q,r.longs,r.shorts,r.rate⟩) (by rw[<-hr];rfl);apply ir e3;have O:=D m3 hq2;have v:(f.set n ⟨r.scans+oQ x.spec.shifts.toList x.q,r.longs,r.shorts,r.rate⟩)[n]'(by grind)=⟨r.scans+oQ x.spec.shifts.toList x.q,r.longs,r.shorts,r.rate⟩:=gV _;have M3:de (λy=>y=b) W L:=((md.trans m2).to).trans m3;have t:M0 L L.drew:=mP;refine dK.at (λst p=>st=(.bool (decide ((r.longs=0/\r.shorts=0)\/x.spec.credit<r.rate)),())/\p=L.drew) ?_ ?_
  ·have d:=M.mod t id;have o:=t.hpk O id;generalize L.drew=w4 at d o|-;have l1:=d.ld a (j:=1) qZ (x:=r.longs) (by rw[v];rfl);have l2:=d.ld a (j:=2) qZ (x:=r.shorts) (by rw[v];rfl);have l3:=d.ld a (j:=3) qZ (x:=r.rate) (by rw[v];rfl);simp only[dr];refine dw (λW=>xu b (n*4) 1 qZ W) (dp l1 ?_);by_cases h1:r.longs=0
   ·refine qPt1 h1 ?_;refine dw (λW=>xu b (n*4) 2 qZ W) (dp l2 ?_);by_cases h2:r.shorts=0
    ·refine qPt1 h2 ?_;exact⟨by grind,by trivial⟩
    ·refine qPf1 h2 ?_;refine qP0 ?_;refine qPv0 (pt q 22) (dp (I _ o) ?_);refine dw (λW=>xu b (n*4) 3 qZ W) (dp l3 ?_);refine qP0 ?_;exact⟨by simp[h2],by trivial⟩
   ·refine qPf1 h1 ?_;refine qP0 ?_;refine qPv0 (pt q 22) (dp (I _ o) ?_);refine dw (λW=>xu b (n*4) 3 qZ W) (dp l3 ?_);refine qP0 ?_;exact⟨by simp[h1],by trivial⟩
  rintro _ p ⟨rfl,rfl⟩;have d:=M.mod t id;have o:=t.hpk O id;have M4:=M3.trans (t.to (G:=λy=>y=b));generalize L.drew=w4 at d o M4|-;unfold VM;intro _;by_cases hc:(r.longs=0/\r.shorts=0)\/x.spec.credit<r.rate
  ·rw[qo hc];rw[bZ hc]at c;refine qS0 ?_;refine qSv0 (pt q 22) (cI (I _ o) ?_);simp only[dr];apply cI (xu b (n*4) 3 qZ _);obtain⟨X,e5,B,m5⟩:=d.st a (j:=3) qZ (x:=x.spec.credit) (r' :=⟨r.scans+oQ x.spec.shifts.toList x.q,r.longs,r.shorts,x.spec.credit⟩) (by rw[v];rfl);apply ir e5;rw[nt]at B;exact⟨by grind,M4.trans m5⟩
  ·rw[cy,aZ (by grind)];rw[aZ hc]at c;exact⟨by grind,M4⟩
 rintro _ X ⟨B,M5⟩;unfold Vn;intro _;obtain⟨H,l⟩:=dW (⟨r.scans+oQ x.spec.shifts.toList x.q,r.longs,r.shorts,s⟩:Rt);rw[<-l]at B;have P:(f.set n H)[n]'(by grind)=H:=gV _;have hq5:=D M5 V;simp only[dr];have md:M0 X X.drew:=mP;have E:=B.mod md id;have J:=md.hpk hq5 id;have M6:=M5.trans (md.to (G:=λy=>y=b));generalize X.drew=w6 at E J M6|-;refine dw (λW=>xu b (n*4) 1 qZ W) (dp (E.ld a (j:=1) qZ (x:=r.longs) (by rw[P,l];rfl)) ?_);refine qPv0 (pt q 25) (dp (u _ J) ?_);refine qW0 ?_;apply dw (λW=>Aa ⟨qZ,qZ⟩);apply dw (λW=>xu b (n*4) 1 qZ W);obtain⟨Y,e7,U,m7⟩:=E.st a (j:=1) qZ (x:=r.longs+max x.q 0) (r' :={H with longs:=r.longs+max x.q 0}) (by rw[P,l];rfl);apply ir e7;rw[nt]at U;have hq7:=D m7 J;have M7:=M6.trans m7;have md:M0 Y Y.drew:=mP;have C:=U.mod md id;have N:=md.hpk hq7 id;have M8:=M7.trans (md.to (G:=λy=>y=b));generalize Y.drew=w8 at C N M8|-;have T:(f.set n {H with longs:=r.longs+max x.q 0})[n]'(by grind)={H with longs:=r.longs+max x.q 0}:=gV _;refine dw (λW=>xu b (n*4) 2 qZ W) (dp (C.ld a (j:=2) qZ (x:=r.shorts) (by rw[T,l];rfl)) ?_);refine qPv0 (pt q 25) (dp (u _ N) ?_);apply dX (gI (-x.q)) (λ_=>by simp[go_sem];rw[wI_]);refine qW0 ?_;apply dw (λW=>Aa ⟨qZ,qZ⟩);apply dw (λW=>xu b (n*4) 2 qZ W);obtain⟨w9,e9,Q,m9⟩:=C.st a (j:=2) qZ (x:=r.shorts+max (-x.q) 0) (r' :={H with longs:=r.longs+max x.q 0,shorts:=r.shorts+max (-x.q) 0}) (by rw[T,l];rfl);apply ir e9;rw[nt]at Q;apply cx (gI ((i+1:Nat):Int)) w9 (by simp[go_sem];rw[wI_]);refine hK w9 ?_ (M8.trans m9);rw[st]
 have e:D9 r x={H with longs:=r.longs+max x.q 0,shorts:=r.shorts+max (-x.q) 0}:=by
  unfold D9;rw[l,c]
 rw[e];exact Q
def Pd:Tryz.prog.underlying 194=some (.map 23 3):=cU
def rtV(r:Rt):Value:=.agg (I7 r).toArray
def vE.ld4{c:List Rt}(h:vE w b c){i:Nat}(hi:i<9):
  (iL 192 (pt b (i*4))).run pQ w=.ok (rtV (c[i]'(by rw[h.2];exact hi))) w:=by
 have a:i<c.length:=by rw[h.2];exact hi
 have g0:=vM wB (show 0<4 by omega) c i a;have g1:=vM wB (show 1<4 by omega) c i a;have d:=vM wB (show 2<4 by omega) c i a;have e:=vM wB (show 3<4 by omega) c i a;simp only[dS]at g0;simp[go_sem,h.1,g0,g1,d,e,rtV,I7]
def aj8(d:Rt)(w:Wt_):∃a c,(iA 192 true (.tuple #[])).run pQ w=.ok (pt w.heap.size 0) a/\(iS 192 (pt w.heap.size 0) (rtV d)).run pQ a=.ok () c/\hC c w.heap.size (I7 d).toArray 192/\M0 w c:=by
 obtain⟨a,b⟩:=dW (w.alloc (.cells #[.int .i64 0,gI 0,gI 0,gI 0] 192));have f:M0 w a:=by rw[b];exact(de.refl _ w).alloc _
 have e:hC a w.heap.size #[.int .i64 0,gI 0,gI 0,gI 0] 192:=by rw[b];simp[go_sem]
 refine⟨a,(((a.setCell ⟨w.heap.size,0,none⟩ (gI d.scans)).setCell ⟨w.heap.size,1,none⟩ (gI d.longs)).setCell ⟨w.heap.size,2,none⟩ (gI d.shorts)).setCell ⟨w.heap.size,3,none⟩ (gI d.rate),by rw[b];simp[go_sem],by simp[go_sem,e,rtV,I7],by simp[go_sem,e,I7],?_⟩;exact f.on (((((de.refl (λx=>x=w.heap.size) a).sc).sc).sc).sc) λx g=>gz
def HN(r:Rt):Int:=max 0 (r.scans - min r.longs r.shorts*r.rate)
def Jh(l:List Rt)(r:Rt):Bv (l++[r])=Bv l+HN r:=by unfold Bv HN;simp
def Rt.prod{r:Rt}(h:r.Bd 16):0<=min r.longs r.shorts*r.rate/\min r.longs r.shorts*r.rate<=1600000000000000/\0<=r.scans/\r.scans<=1600000000000000:=by
 obtain⟨i,f,k,g,j,d,c,e⟩:=h;have l:=E3 (a:=min r.longs r.shorts) (b:=r.rate) (A:=160000000) (B:=10000000) qZ qZ;have m:0<=min r.longs r.shorts*r.rate:=lU qZ c;omega
def Ik{l:List Rt}(h:∀r∈l,r.Bd 16):0<=Bv l/\Bv l<=l.length*1600000000000000:=by
 have:=vu (l:=l.map HN) (B:=1600000000000000) λx b=>by
  obtain⟨r,a,rfl⟩:=cF.1 b;have:=Rt.prod (h r a);unfold HN;omega
 rw[cz]at this;exact this
def D4{k:Int}(d:0<=k){c:List Rt}{x:Lg}(h:∀r∈c,r.Bd k)(l:A2 x=true):∀r∈pV c x,r.Bd (k+1):=by
 have a:∀r:Rt,r.Bd k->r.Bd (k+1):=λr b=>by
  obtain⟨e,m,j,n,g,o,f,i⟩:=b;exact⟨e,qZ,j,qZ,g,qZ,f,i⟩
 intro r b;unfold pV at b;split at b
 ·exact a r (h r b)
 ·split at b
  ·next r0 h0=>
   rcases gG b with b|rfl
   ·exact a r (h r b)
   ·exact QY (h r0 (dL h0)) d l
  ·exact a r (h r b)
def L5{K:cG}{s:Vt_}{l:List Lg}(h:Rd w 26 s l.length (l.flatMap wX))(hn:l.length<=100000)(hl:∀x∈l,x.spec.Fit/\jl x.q)
  (hK:∀w',M0 w w' ->K (.tuple #[.int .i64 (ng l).1,gI (ng l).2]) w'):Ca pQ 60 #[s] w K:=by
 apply au2;obtain⟨a,c,hs⟩:=h.isSl;have f:∀{W:Wt_},(builtin .len #[146] 3 #[false] #[s]).run pQ W=.ok (.value (gI (l.length:Int))) W:=λ{W}=>by rw[hs];simp[go_sem]
 have fin:∀x e W,ng l=(x,e)->M0 w W->K (.tuple #[.int .i64 x,gI e]) W:=λx e W he m=>by
  have hk:=hK W m;rw[he]at hk;exact hk
 apply mB f;by_cases A:16<l.length
 ·have g:(16:Int)<(l.length:Int):=qZ;refine qSt1 g ?_;exact fin 0 3 w (by unfold ng;rw[bZ A]) lX
 have g:¬(16:Int)<(l.length:Int):=qZ;refine qSf1 g ?_;apply rg ag9;obtain⟨b,hb0⟩:=dW w.heap.size;have m1:M0 w (w.alloc (.cells (lT pQ Fw).toArray Fw)):=lm;have r1:vE (w.alloc (.cells (lT pQ Fw).toArray Fw)) b (List.replicate 9 S7):=⟨by rw[hb0,<-av3];simp[go_sem],by simp⟩
 rw[<-hb0];generalize w.alloc (.cells (lT pQ Fw).toArray Fw)=P at m1 r1|-;obtain⟨m,J⟩:=dW P.heap.size;have hbm:b<m:=by rw[J];exact cB r1.1
 have m2:M0 P (P.alloc (.map #[] 0)):=lm;have N:fB iI Gq (P.alloc (.map #[] 0)) m ([]:List (Int×Int)):=by rw[J];exact fB.new P
 apply cx (.map (some m)) (P.alloc (.map #[] 0)) (by rw[J];simp[go_sem]);have r2:=r1.mod m2 id;generalize P.alloc (.map #[] 0)=w2 at m2 N r2|-;apply mB f;have hml:=N.lt;have hs1:=m1.size
 refine eS (λst W=>∃(i:Nat) (x y:Vt_),i<=l.length/\st=(x,y,gI i,())/\vE W b ((l.take i).foldl pV (List.replicate 9 S7))/\(∀r∈(l.take i).foldl pV (List.replicate 9 S7),r.Bd i)/\(l.take i).all A2=true/\fB iI Gq W m ([]:List (Int×Int))/\M0 w W/\m<W.heap.size)
  (λst _=>match st.2.2.1 with| .int _ i=>l.length - i.toNat|_=>0) ⟨0,_,_,qZ,rfl,r2,λr G=>?_,rfl,N,m1.trans m2,hml⟩ ?_
 ·have:r=S7:=lg G;rw[this];exact⟨by decide,by decide,by decide,by decide,by decide,by decide,by decide,by decide⟩
 rintro⟨s1,s2,_,_⟩ W ⟨i,x0,y0,hi,⟨⟩,q1,q2,q3,q4,q5,q6⟩ KN hKN;unfold U9;intro _;by_cases j:i<l.length
 ·have t:(i:Int)<(l.length:Int):=qZ;refine qSt1 t ?_;obtain⟨p,e1,e2⟩:=ac0 (h.mod q5 eQ) j;refine cI e1 (iW e2 ?_);obtain⟨x,X⟩:=dW (l[i]);rw[<-X];have O:=hl x (by grind);refine Vd λw3 D B=>?_;obtain⟨q,hq⟩:=dW W.heap.size;rw[<-hq]at D|-;have htk:l.take (i+1)=l.take i++[x]:=by rw[X];exact eA j
  refine dK.at (λst W' =>st=(.bool (!A2 x),())/\M0 w3 W') ?_ ?_
  ·refine qS0 ?_
   have hA:At w3 q 0 (jA x.spec):=by
    have:=(At.all D).sub 0 25 (by rw[kZ];omega);rw[iw,wX,dh (by rw[dP];omega),cT (by rw[dP];omega)]at this;exact this
   apply jq (jA x.spec) 24 DW Cc (dP _) hA;refine vP O.1 λo d=>?_;have T:=d.hpk D id;cases F:x.spec.may with
   |false=>
    refine qSt0 ?_;exact⟨by simp[A2,F],d⟩
   |true=>
    refine qSf0 ?_;refine qS0 ?_;refine qS2 T QU ?_;apply lH O.2 qZ;refine qS0 ?_;exact⟨by simp[A2,F],d⟩
  rintro _ o ⟨rfl,d⟩;cases I:A2 x with
  |false=>
   unfold Li;intro _;rw[cy,bZ (show(!false)=true from rfl)];refine fin 0 2 o ?_ ((q5.trans B).trans d);unfold ng;rw[aZ A];exact bZ (nI.2 ⟨x,by grind,by rw[I];simp⟩)
  |true=>
   have M4:=(q5.trans B).trans d;have r4:=(q1.mod B id).mod d id;have T:=d.hpk D id;refine On (k:=(i:Int)) r4 T qZ qZ qZ q2 I O.1 λW' rW mW=>?_;have hsz:=mW.size;have hb4:=cB T;have hs34:=d.size;have hs3:=B.size;refine hKN _ _ ⟨i+1,_,_,qZ,rfl,?_,?_,?_,((q4.mod B id).mod d id).mod mW qZ,M4.on mW λy hy=>gz,qZ⟩ (by grind)
   ·grind
   ·rw[htk,kH];have:=D4 (k:=(i:Int)) qZ q2 I;rw[iT];exact this
   ·grind
 ·obtain rfl:i=l.length:=qZ;refine qSf0 ?_;rw[cN]at q1 q2 q3;obtain⟨u,hrs⟩:=dW (l.foldl pV (List.replicate 9 S7));rw[<-hrs]at q1 q2;apply mB f
  refine eS (λst W2=>∃(i:Nat) (x y:Vt_) (L:List (Int×Int)) (seen:List Int),i<=l.length/\st=(x,y,gI i,())/\vE W2 b u/\fB iI Gq W2 m L/\(∀n,lk L n=if n∈seen then some 1 else none)/\CE [] l=CE seen (l.drop i)/\M0 w W2)
   (λst _=>match st.2.2.1 with| .int _ i=>l.length - i.toNat|_=>0) ⟨0,_,_,[],[],qZ,rfl,q1,q4,λn=>by simp[lk],rfl,q5⟩ ?_
  rintro⟨_,_,_,_⟩ W2 ⟨i,x0,y0,L,seen,hi,⟨⟩,t1,t2,t3,t4,t5⟩ KM hKM;unfold UY;intro _;by_cases j:i<l.length
  ·have t:(i:Int)<(l.length:Int):=qZ;refine qSt1 t ?_;obtain⟨p,e1,e2⟩:=ac0 (h.mod t5 eQ) j;refine cI e1 (iW e2 ?_);obtain⟨x,X⟩:=dW (l[i]);rw[<-X];refine Vd λw3 D B=>?_;obtain⟨q,hq⟩:=dW W2.heap.size;rw[<-hq]at D|-;have Q:l.drop i=x::l.drop (i+1):=by rw[X];exact(gK j).symm
   rw[Q,CE]at t4;have hml:=t2.lt;have Z:=t2.mod B id;refine qS0 ?_;refine qS0 ?_;refine qS3 D lgT Qa ?_;apply vr (enc:=iI) (ev:=Gq) (x:=x.spec.num) (gI 0) Pd rP TK (.inr ⟨m,rfl,Z⟩);obtain⟨v,S⟩:=dW (if x.spec.num∈seen then 1 else 0:Int)
   have hlk:(lk L x.spec.num).elim (gI 0) Gq=gI v:=by
    rw[t3,S];split<;>rfl
   rw[hlk];have hvb:0<=v/\v<=1:=by grind
   apply cx (Gq (v+1)) w3 (by simp[go_sem,Gq];rw[wI_]);refine kV (enc:=iI) (ev:=Gq) (x:=x.spec.num) (v:=v+1) Pd rP Z λo U d hs4=>?_;have T:=d.hpk D qZ;refine qS0 ?_;refine qS0 ?_;refine qS3 T lgT Qa ?_;apply vr (enc:=iI) (ev:=Gq) (x:=x.spec.num) (gI 0) Pd rP TK (.inr ⟨m,rfl,U⟩)
   have V:(lk (put L x.spec.num (v+1)) x.spec.num).elim (gI 0) Gq=gI (v+1):=by
    rw[sn,bZ rfl];rfl
   rw[V];have M4:M0 w o:=(t5.trans B).on d λy hy=>gz;by_cases C:x.spec.num∈seen
   ·rw[bZ C]at S;refine qSt1 S ?_;refine fin 0 8 o ?_ M4;have ht:CE [] l=true:=by rw[t4];simp[C]
    unfold ng;rw[aZ A,aZ (by rw[q3];simp),bZ ht]
   ·rw[aZ C]at S;refine qSf1 S ?_;apply cx (gI ((i+1:Nat):Int)) o (by simp[go_sem];rw[wI_]);refine hKM _ _ ⟨i+1,_,_,_,x.spec.num::seen,qZ,rfl,(t1.mod B id).mod d qZ,U,λn=>?_,?_,M4⟩ (by grind)
    ·rw[sn,t3,S];by_cases hno:x.spec.num=n
     ·subst hno;simp
     ·grind
    ·rw[t4];simp[C]
  ·obtain rfl:i=l.length:=qZ;refine qSf0 ?_;rw[fg (cJ _),CE]at t4
   have hmr:ng l=(Bv u,0):=by
    unfold ng;rw[aZ A,aZ (by rw[q3];simp),aZ (by rw[t4];simp),<-hrs]
   have Y:∀r∈u,r.Bd 16:=λr G=>by
    obtain⟨h1,h2,h3,h4,h5,h6,h7,h8⟩:=q2 r G;exact⟨h1,qZ,h3,qZ,h5,qZ,h7,h8⟩
   have hr9:=t1.2
   refine eS (λst H=>∃i:Nat,i<=9/\st=(gI (Bv (u.take i)),gI i,())/\vE H b u/\M0 w H)
    (λst _=>match st.2.1 with| .int _ i=>9 - i.toNat|_=>0) ⟨0,qZ,rfl,t1,t5⟩ ?_
   rintro⟨_,_,_⟩ H ⟨i,hi9,⟨⟩,u1,u2⟩ KP hKP;unfold Vo;intro _;by_cases E:i<9
   ·have M:(i:Int)<9:=qZ;refine qSt1 M ?_;refine cI (vE.ix E .i64 H) (cI (u1.ld4 E) ?_);obtain⟨r,G⟩:=dW (u[i]'qZ);rw[<-G];obtain⟨wv,o,v1,v2,R,v4⟩:=aj8 r H;obtain⟨q,hq⟩:=dW H.heap.size;rw[<-hq]at v1 v2 R;refine cI v1 (ir v2 ?_);unfold I7 at R;have hrb:=Y r (by grind);have hp:=Rt.prod hrb;obtain⟨z,hz⟩:=dW (min r.longs r.shorts*r.rate);rw[<-hz]at hp;refine qS0 ?_;refine qS1 R ?_;refine qS0 ?_;refine qS1 R ?_;refine qS0 ?_;refine qS1 R ?_;refine qN0 ?_;refine qS0 ?_;refine qS1 R ?_;apply cx (gI z) o (by simp only[go_sem];simp;rw[<-hz,wI_]);apply cI (DD (W:=o) ⟨qZ,qZ⟩);refine qN0 ?_;have hsb:=Ik (l:=u.take i) λr G=>Y r (ek G);have htl:(u.take i).length<=9:=by grind
    apply cI (Aa (W:=o) ⟨qZ,qZ⟩);apply cx (gI ((i+1:Nat):Int)) o (by simp[go_sem];rw[wI_]);refine hKP _ _ ⟨i+1,qZ,?_,u1.mod v4 id,u2.trans v4⟩ (by grind);have e:u.take (i+1)=u.take i++[r]:=by rw[G];exact eA qZ
    rw[e,Jh];unfold HN;rw[<-hz]
   ·obtain rfl:i=9:=qZ;refine qSf0 ?_;rw[cT qZ];exact fin _ 0 H hmr u2
end Go.Proofs
namespace Go.Proofs
open Go Go.Vc
structure Cm where
 kind:Int
 acct:Int
 ct:Int
 num:Int
 amt:Int
 spec:Sp
 on:Bool
 buy:Bool
 ty:Int
 price:Int
 qty:Int
 deriving DecidableEq
def Cm.Fit(c:Cm):Prop:=(0<=c.kind/\c.kind<256)/\pL c.acct/\pL c.ct/\P6 c.num/\jl c.amt/\c.spec.Fit/\(0<=c.ty/\c.ty<256)/\jl c.price/\jl c.qty
def zCm:Cm:=⟨0,0,0,0,0,II,false,false,0,0,0⟩
def cmC(c:Cm):List Value:=[.int .u8 c.kind,gU c.acct,gU c.ct,gQ c.num,gI c.amt]++(jA c.spec++[.bool c.on,.bool c.buy,gB c.ty,gI c.price,gI c.qty])
def Cm.bare(c:Cm):Cm:=
 let b:Cm:={zCm with kind:=c.kind}
 if c.kind=1\/c.kind=2 then{b with acct:=c.acct,amt:=c.amt}
 else if c.kind=3 then{b with spec:=c.spec}
 else if c.kind=4 then{b with ct:=c.ct,on:=c.on}
 else if c.kind=5 then{c with num:=0,amt:=0,spec:=II,on:=false}
 else if c.kind=6 then{b with acct:=c.acct,num:=c.num}
 else if c.kind=7 then{b with acct:=c.acct,num:=c.num,price:=c.price,qty:=c.qty}
 else if c.kind=8 then{b with acct:=c.acct,ct:=c.ct}
 else if c.kind=9 then{b with acct:=c.acct,ct:=c.ct,buy:=c.buy,price:=c.price,qty:=c.qty}
 else if c.kind=10 then{b with acct:=c.acct,on:=c.on}
 else if c.kind=11 then{b with ct:=c.ct,price:=c.price}
 else if c.kind=13 then{b with acct:=c.acct}
 else if c.kind=14 then{b with ct:=c.ct}
 else b
def Cm.may(c:Cm):Bool:=decide (1<=c.kind/\c.kind<=14)&& decide (c=c.bare)&& (decide (c.kind≠3)||c.spec.may)
structure Rp where
 err:Int
 num:Int
 filled:Int
 left:Int
 trades:List Td
 gone:List Int
 accts:List Int
 deriving DecidableEq
def zRp:Rp:=⟨0,0,0,0,[],[],[]⟩
def failR(e:Int):Rp:={zRp with err:=e}
structure Stk where
 leg:Lg
 basis:Int
 price:Int
 ords:List Od
structure Nd where
 m:Int
 w:Int
 u:Int
 deriving DecidableEq
def Stk.ok(s:Stk):Bool:=
 amongB s.basis (-1000000000000000) 1000000000000000&& amongB s.leg.q (-10000000) 10000000&& s.leg.spec.isPrice s.price&& decide (s.ords.length<=250)&& s.ords.all (·.may)
def sumB(l:List Od)(buy:Bool):Int:=((l.filter λo=>o.buy==buy).map (·.left)).sum
def wOne(price:Int)(o:Od):Int:=if o.buy then max 0 (o.price - price)*o.left else max 0 (price - o.price)*o.left
def Stk.at(s:Stk)(q:Int):Int:=(yx s.leg.spec.shifts q).1
def Stk.worst(s:Stk):Int:=
 (s.ords.map (wOne s.price)).sum+max 0 (max (s.at (s.leg.q+sumB s.ords true)) (s.at (s.leg.q - sumB s.ords false)) - s.at s.leg.q)
def Stk.u(s:Stk):Int:=s.basis - s.leg.q*s.price
def needR(l:List Stk):Nd×Int:=
 if 16<l.length then(⟨0,0,0⟩,3)
 else if l.all Stk.ok=false then(⟨0,0,0⟩,2)
 else if(ng (l.map (·.leg))).2≠0 then(⟨0,0,0⟩,(ng (l.map (·.leg))).2)
 else(⟨(ng (l.map (·.leg))).1,(l.map Stk.worst).sum,max 0 (l.map Stk.u).sum⟩,0)
def Nd.total(n:Nd):Int:=n.m+n.w+n.u
structure Ven where
 cal:sE
 led:Led
 bk:Int->Bk
 bd:Int->List Od
 next:Int
def Ven.empty:Ven:=⟨⟨0,[]⟩,⟨0,[],[]⟩,λ_=>Bk.empty,λ_=>[],1⟩
def upd{α:Type}(f:Int->α)(n:Int)(x:α):Int->α:=λm=>if m=n then x else f m
def upd_self{α:Type}(f:Int->α)(n:Int)(x:α):upd f n x n=x:=bZ rfl
def upd_ne{α:Type}(f:Int->α)(n:Int)(x:α){m:Int}(h:m≠n):upd f n x m=f m:=aZ h
def Ven.nums(S:Ven):List Int:=S.cal.l.map (·.spec.num)
def ofA(a:Int)(o:Od):Bool:=decide (o.acct=a)
def clr1(a:Int)(x:List Int×Ven)(n:Int):List Int×Ven:=
 ((x.1++(qi (x.2.bk n) a).2.map (·.num))++((x.2.bd n).filter (ofA a)).map (·.num),
 {x.2 with bk:=upd x.2.bk n (qi (x.2.bk n) a).1,bd:=upd x.2.bd n ((x.2.bd n).filter λo=> !ofA a o)})
def Ven.clear(S:Ven)(a k:Int):List Int×Ven:=(S.nums.filter λn=>decide (k=0\/k=n)).foldl (clr1 a) ([],S)
def Ven.opn(S:Ven)(n a:Int):Int×Int:=((xd (S.bk n) a).1+oM (S.bd n) a true,(xd (S.bk n) a).2+oM (S.bd n) a false)
def Ven.stake(S:Ven)(a:Int)(k:Ct):Stk:=
 ⟨⟨k.spec,(S.led.position k.spec.num a).q⟩,(S.led.position k.spec.num a).b,k.price,(S.bk k.spec.num).all.filter (ofA a)++(S.bd k.spec.num).filter (ofA a)⟩
def Ven.stakes(S:Ven)(a:Int):List Stk:=(S.cal.l.filter λk=>decide (k.st≠3)).map (S.stake a)
def Ven.need(S:Ven)(a:Int):Nd×Int:=if S.led.getO a=none\/a=0 then(⟨0,0,0⟩,7)else needR (S.stakes a)
def Ven.acc(S:Ven)(a:Int):Ac:=(S.led.getO a).getD ⟨0,0,false,false⟩
def Ven.bears(S:Ven)(a:Int):Int:=
 if(S.need a).2≠0 then(S.need a).2 else if(S.acc a).cash<(S.need a).1.total then 161 else 0
def Ven.pass(S:Ven)(a n:Int)(buy:Bool)(price qty:Int)(w:Od):Int:=
 if S.led.getO a=none then 7
 else if(iU S.cal.l n).2≠0 then(iU S.cal.l n).2
 else Gt.check ⟨(iU S.cal.l n).1,S.acc a,(S.led.position n a).q,(S.opn n a).1 - (if w.buy then w.left else 0),(S.opn n a).2 - (if w.buy then 0 else w.left),buy,price,qty⟩
def tradeL(n:Int)(o:Od):List Td->Led->Int×Led
 | [],L=>(0,L)
 |t::l,L=>
  let x:=L.trade n (if o.buy then o.acct else t.acct) (if o.buy then t.acct else o.acct) t.price t.qty
  if x.1≠0 then x else tradeL n o l x.2
def Ven.traded(S:Ven)(n:Int)(o:Od)(p:Pm):Int×Rp×Ven:=
 let x:=tradeL n o p.trades S.led;let S' :={S with led:=x.2}
 if x.1≠0 then(x.1,zRp,S')else(S'.bears o.acct,⟨0,o.num,p.filled,p.left,p.trades,p.gone,[]⟩,S')
def Cm.od(c:Cm)(n:Int):Od:=⟨n,c.acct,c.buy,c.price,c.qty⟩
def maxNum:Int:=4611686018427387904
def Ven.order(S:Ven)(c:Cm):Int×Od×Ven:=
 let e:=S.pass c.acct c.ct c.buy c.price c.qty pC
 if e≠0 then(e,pC,S)else if maxNum<S.next then(6,c.od 0,S)else(0,c.od S.next,{S with next:=S.next+1})
def Ven.place(S:Ven)(c:Cm):Int×Rp×Ven:=
 let x:=S.order c
 if x.1≠0 then(x.1,zRp,x.2.2)
 else
  let p:=gD (x.2.2.bk c.ct) x.2.1 c.ty;let S' :={x.2.2 with bk:=upd x.2.2.bk c.ct p.2.1}
  if p.1≠0 then(p.1,zRp,S')else S'.traded c.ct x.2.1 p.2.2
def Ven.bid(S:Ven)(c:Cm):Int×Rp×Ven:=
 let x:=S.order c
 if x.1≠0 then(x.1,zRp,x.2.2)
 else if 50<=(x.2.2.bd c.ct).length then(9,zRp,x.2.2)
 else
  let S' :={x.2.2 with bd:=upd x.2.2.bd c.ct (x.2.2.bd c.ct++[x.2.1])}
  (S'.bears c.acct,⟨0,x.2.1.num,0,x.2.1.left,[],[],[]⟩,S')
def findIn(bk:Int->Bk)(a num n:Int):Option (Od×Int):=
 match (bk n).find num with
 |some (o,_)=>if o.acct=a then some (o,n)else none
 |none=>none
def Ven.find(S:Ven)(a num:Int):Option (Od×Int):=S.nums.findSome? (findIn S.bk a num)
def isBid(a num:Int)(o:Od):Bool:=decide (o.num=num)&& decide (o.acct=a)
def bidIn(bd:Int->List Od)(a num n:Int):Option (Nat×Int):=((bd n).findIdx? (isBid a num)).map λi=>(i,n)
def Ven.cancel(S:Ven)(c:Cm):Int×Rp×Ven:=
 match S.find c.acct c.num with
 |some (o,n)=>((jX (S.bk n) c.num).1,{zRp with num:=c.num,left:=o.left},{S with bk:=upd S.bk n (jX (S.bk n) c.num).2.1})
 |none=>
  match S.nums.findSome? (bidIn S.bd c.acct c.num)with
  |some (i,n)=>(0,{zRp with num:=c.num,left:=((S.bd n).getD i pC).left},{S with bd:=upd S.bd n ((S.bd n).eraseIdx i)})
  |none=>(7,zRp,S)
def Ven.replace(S:Ven)(c:Cm):Int×Rp×Ven:=
 match S.find c.acct c.num with
 |none=>(7,zRp,S)
 |some (o,n)=>
  let e:=S.pass c.acct n o.buy c.price c.qty o
  if e≠0 then(e,zRp,S)
  else
   let p:=fX (S.bk n) c.num c.price c.qty;let S' :={S with bk:=upd S.bk n p.2.1}
   if p.1≠0 then(p.1,zRp,S')else S'.traded n o p.2.2
def wonAdd(won:Int->Int)(l:List (Int×Int)):Int->Int:=l.foldl (λf x=>upd f x.1 (f x.1+x.2)) won
def payL:List Sd->Rp->Ven->Int×Rp×Ven
 | [],r,S=>(0,r,S)
 |s::l,r,S=>
  let g:=S.clear s.acct 0;let r' :Rp:=if s.dfl then{r with accts:=r.accts++[s.acct],gone:=r.gone++g.1}else r
  let S1:=if s.dfl then g.2 else S
  let x:=S1.led.set {S.acc s.acct with cash:=s.cash,dfl:=(S.acc s.acct).dfl||s.dfl}
  if x.1≠0 then(x.1,r',{S1 with led:=x.2})else payL l r' {S1 with led:=x.2}
def Ven.dues(S:Ven)(won:Int->Int):List Du:=S.led.all.map λa=>⟨a.num,a.cash,won a.num⟩
def Ven.pay(S:Ven)(won:Int->Int):Int×Rp×Ven:=
 let x:=lP S.led.fund (S.dues won)
 if x.2.2≠0 then(x.2.2,zRp,S)
 else
  let y:=payL x.1 zRp S
  if y.1≠0 then y
  else
   let z:=y.2.2.led.set ⟨0,x.2.1,false,false⟩
   (z.1,y.2.1,{y.2.2 with led:=z.2})
def markL:List Ct->Led->(Int->Int)->Int×Led×(Int->Int)
 | [],L,won=>(0,L,won)
 |k::l,L,won=>
  if k.st=3 then markL l L won
  else
   let x:=L.mark k.spec.num k.price false
   if x.1≠0 then(x.1,x.2.2,wonAdd won x.2.1)else markL l x.2.2 (wonAdd won x.2.1)
def freeL(accts:List Int):List Ac->Int->Led->Int×Led
 | [],e,L=>(e,L)
 |a::l,e,L=>
  if a.dfl=true/\(L.ofA a.num).isEmpty=true/\accts.contains a.num=false then
   freeL accts l (L.set {a with dfl:=false}).1 (L.set {a with dfl:=false}).2
  else freeL accts l e L
def noWon:Int->Int:=λ_=>0
def Ven.settle(S:Ven):Int×Rp×Ven:=
 let c:=eD S.cal;let S0:={S with cal:=c.2}
 if c.1≠0 then(c.1,zRp,S0)
 else
  let m:=markL c.2.l S.led noWon;let S1:={S0 with led:=m.2.1}
  if m.1≠0 then(m.1,zRp,S1)
  else
   let p:=S1.pay m.2.2
   if p.1≠0 then p
   else
    let f:=freeL p.2.1.accts p.2.2.led.all 0 p.2.2.led
    (f.1,p.2.1,{p.2.2 with led:=f.2})
def Ven.expire(S:Ven)(n:Int):Int×Rp×Ven:=
 let c:=jy S.cal n;let S0:={S with cal:=c.2}
 if c.1≠0 then(c.1,zRp,S0)
 else
  let m:=S.led.mark (iU S.cal.l n).1.spec.num (iU S.cal.l n).1.price true;let S1:={S0 with led:=m.2.2}
  if m.1≠0 then(m.1,zRp,S1)
  else
   let p:=S1.pay (wonAdd noWon m.2.1)
   if p.1≠0 then p
   else
    let b:=qi (p.2.2.bk n) 0
    (0,{p.2.1 with gone:=(p.2.1.gone++b.2.map (·.num))++(p.2.2.bd n).map (·.num)},{p.2.2 with bk:=upd p.2.2.bk n b.1,bd:=upd p.2.2.bd n []})
def swapL(L:Led)(n from_ to:Int)(long:Bool)(price qty:Int):Int×Led:=if long then L.trade n to from_ price qty else L.trade n from_ to price qty
def bidFill(l:List Od)(num qty:Int):List Od:=
 match l.findIdx? λo=>decide (o.num=num)with
 |none=>l
 |some i=>
  let o:=l.getD i pC
  if o.left - qty=0 then l.eraseIdx i else l.set i {o with left:=o.left - qty}
def fillsL(n a:Int)(long:Bool)(price:Int):List Fl->Int->Rp->Ven->Int×Int×Rp×Ven
 | [],left,r,S=>(0,left,r,S)
 |f::l,left,r,S=>
  let x:=swapL S.led n a f.acct long price f.qty
  if x.1≠0 then(x.1,left,r,{S with led:=x.2})
  else fillsL n a long price l (left - f.qty) {r with filled:=r.filled+f.qty,trades:=r.trades++[⟨price,f.qty,f.num,f.acct⟩]}
   {S with led:=x.2,bd:=upd S.bd n (bidFill (S.bd n) f.num f.qty)}
def partsL(n a:Int)(long:Bool)(price:Int):List Hd->Rp->Ven->Int×Rp×Ven
 | [],r,S=>(0,r,S)
 |h::l,r,S=>
  let x:=swapL S.led n a h.acct long price h.q
  if x.1≠0 then(x.1,r,{S with led:=x.2})
  else partsL n a long price l {r with left:=r.left+h.q,trades:=r.trades++[⟨price,h.q,0,h.acct⟩]} {S with led:=x.2}
def Ven.sell(S:Ven)(k:Ct)(a q:Int)(r:Rp):Int×Rp×Ven:=
 let n:=k.spec.num;let long:Bool:=decide (0<q);let c:=pG long (max q (-q)) ((S.bd n).filter λo=>o.buy==long)
 if c.2.2≠0 then(c.2.2,r,S)
 else
  let f:=fillsL n a long c.1 c.2.1 (max q (-q)) r S
  if f.1≠0 then(f.1,f.2.2.1,f.2.2.2)
  else if f.2.1=0 then(0,f.2.2.1,f.2.2.2)
  else
   let p:=qT (if long then f.2.1 else -f.2.1) (((f.2.2.2.led.holders n).filter λp=>decide (p.a≠a)).map λp=>⟨p.a,p.q⟩)
   if p.2≠0 then(p.2,f.2.2.1,f.2.2.2)
   else partsL n a long k.price p.1 f.2.2.1 f.2.2.2
def sellL(a:Int):List Ct->Rp->Ven->Int×Rp×Ven
 | [],r,S=>(0,r,S)
 |k::l,r,S=>
  let q:=(S.led.position k.spec.num a).q
  if q=0 then sellL a l r S
  else
   let x:=S.sell k a q r
   if x.1≠0 then x else sellL a l x.2.1 x.2.2
def Ven.liquidate(S:Ven)(a:Ac):Int×Rp×Ven:=if a.dfl=false then(162,zRp,S)else sellL a.num S.cal.l zRp S
def Ven.done(S:Ven)(c:Cm):Int×Rp×Ven:=
 if c.kind=1 then((S.led.deposit c.acct c.amt).1,zRp,{S with led:=(S.led.deposit c.acct c.amt).2})
 else if c.kind=2 then
  let x:=S.led.withdraw c.acct c.amt;let S' :={S with led:=x.2}
  (if x.1≠0 then x.1 else if(S'.acc c.acct).dfl=true then 120 else S'.bears c.acct,zRp,S')
 else if c.kind=3 then
  let x:=kC S.cal c.spec
  (x.1,zRp,if x.1=0 then{S with cal:=x.2,bk:=upd S.bk c.spec.num Bk.empty}else{S with cal:=x.2})
 else if c.kind=4 then((nz S.cal c.ct c.on).1,zRp,{S with cal:=(nz S.cal c.ct c.on).2})
 else if c.kind=11 then((jJ S.cal c.ct c.price).1,zRp,{S with cal:=(jJ S.cal c.ct c.price).2})
 else if c.kind=12 then S.settle
 else if c.kind=14 then S.expire c.ct
 else if c.acct=0 then(2,zRp,S)
 else if c.kind=6 then S.cancel c
 else if c.kind=7 then S.replace c
 else if S.led.getO c.acct=none then(7,zRp,S)
 else if c.kind=5 then S.place c
 else if c.kind=9 then S.bid c
 else if c.kind=8 then
  if c.ct≠0/\(iU S.cal.l c.ct).2≠0 then((iU S.cal.l c.ct).2,zRp,S)
  else(0,{zRp with gone:=(S.clear c.acct c.ct).1},(S.clear c.acct c.ct).2)
 else if c.kind=10 then
  let g:=S.clear c.acct 0;let S' :=if c.on then g.2 else S
  let x:=S'.led.set {S.acc c.acct with kil:=c.on}
  (x.1,if c.on then{zRp with gone:=g.1}else zRp,{S' with led:=x.2})
 else if c.kind=13 then S.liquidate (S.acc c.acct)
 else(0,zRp,S)
def Ven.apply(S:Ven)(c:Cm):Rp×Ven:=
 if c.may=false then(failR 160,S)
 else
  let x:=S.done c
  if x.1≠0 then(failR x.1,S)else(x.2.1,x.2.2)
end Go.Proofs
namespace Go.Proofs
open Go Go.Vc
attribute [local congr] cR
inductive Pt where
 |v
 |cal
 |led
 |mb
 |md
 |bk (n:Int)
 |bd (n:Int)
 deriving DecidableEq
def eY(v:Nat):Value:=pt v 0
def yh(x:Vt_):Value:=x
abbrev vy:TypeId:=38
def rz(D:List (Int×Value))(n:Int):Value:=(lk D n).getD dv
structure rO(w:Wt_)(v c l mb md:Nat)(A:List (Int×Nat))(D:List (Int×Value))(fp:Pt->Nat->Prop)(S:Ven):Prop where
 blk:hC w v #[iZ c,iG l,.map (some mb),.map (some md),gQ S.next] vy
 cal:pN w c (fp .cal) S.cal
 led:lA w l (fp .led) S.led
 mbk:fB iI jY w mb A
 mbd:fB iI yh w md D
 bk:∀n b,lk A n=some b->kK w b (fp (.bk n)) (S.bk n)
 nbk:∀n,lk A n=none->S.bk n=Bk.empty/\∀x,¬fp (.bk n) x
 bd:∀n,qR w (rz D n) (S.bd n)
 fv:∀x,fp .v x↔x=v
 fmb:∀x,fp .mb x↔x=mb
 fmd:∀x,fp .md x↔x=md
 fbd:∀n x,fp (.bd n) x↔cK (rz D n) x
 dj:∀p q x,fp p x->fp q x->p=q
structure ik(w:Wt_)(v c l mb md:Nat)(A:List (Int×Nat))(D:List (Int×Value))(fp:Pt->Nat->Prop)(S:Ven):Prop extends rO w v c l mb md A D fp S where
 dom:∀n,(lk A n).isSome=(eR S.cal.l n).isSome
 dod:∀n,(lk D n).isSome=true->(eR S.cal.l n).isSome=true
def lw(w:Wt_)(v:Nat)(F:NP_)(S:Ven):Prop:=∃c l mb md A D fp,ik w v c l mb md A D fp S/\∀x,F x↔∃p,fp p x
def dY(fp:Pt->Nat->Prop):Nat->Prop:=λx=>∃p,fp p x
def mj(fp:Pt->Nat->Prop)(p:Pt)(G:NP_):Pt->Nat->Prop:=λq=>if q=p then G else fp q
def ip(fp:Pt->Nat->Prop)(p:Pt)(G:NP_):mj fp p G p=G:=bZ rfl
def eH{fp:Pt->Nat->Prop}{p q:Pt}{G:NP_}(h:q≠p):mj fp p G q=fp q:=aZ h
section
variable{w w' :Wt_}{v c l mb md:Nat}{A:List (Int×Nat)}{D:List (Int×Value)}{fp:Pt->Nat->Prop}{S:Ven}
def ik.q(h:ik w v c l mb md A D fp S):lw w v (dY fp) S:=⟨c,l,mb,md,A,D,fp,h,λ_=>fd⟩
def rO.lt(h:rO w v c l mb md A D fp S){p:Pt}{x:Nat}(a:fp p x):x<w.heap.size:=by
 cases p with
 |v=>rw[(h.fv x).1 a];exact cB h.blk
 |cal=>exact h.cal.lt a
 |led=>exact h.led.lt a
 |mb=>rw[(h.fmb x).1 a];exact h.mbk.lt
 |md=>rw[(h.fmd x).1 a];exact h.mbd.lt
 |bk n=>
  cases d:lk A n with
  |none=>exact absurd a ((h.nbk n d).2 x)
  |some b=>exact(h.bk n b d).lt a
 |bd n=>exact(h.bd n).lt ((h.fbd n x).1 a)
def lw.lt{F:NP_}(h:lw w v F S){x:Nat}(d:F x):x<w.heap.size:=by
 obtain⟨c,l,mb,md,A,D,fp,a,b⟩:=h;obtain⟨p,hp⟩:=(b x).1 d;exact a.lt hp
def rO.self(h:rO w v c l mb md A D fp S):fp .v v:=(h.fv v).2 rfl
def lw.self{F:NP_}(h:lw w v F S):F v:=by
 obtain⟨c,l,mb,md,A,D,fp,a,b⟩:=h;exact(b v).2 ⟨.v,a.self⟩
def rO.mod{G:NP_}(h:rO w v c l mb md A D fp S)(d:de G w w')(a:∀p x,fp p x->¬G x):rO w' v c l mb md A D fp S where
 blk:=d.hpk h.blk (a .v v h.self)
 cal:=h.cal.mod d (a .cal)
 led:=h.led.mod d (a .led)
 mbk:=h.mbk.mod d (a .mb mb ((h.fmb mb).2 rfl))
 mbd:=h.mbd.mod d (a .md md ((h.fmd md).2 rfl))
 bk n b hl:=(h.bk n b hl).mod d (a (.bk n))
 nbk:=h.nbk
 bd n:=(h.bd n).mod d λx e=>a (.bd n) x ((h.fbd n x).2 e)
 fv:=h.fv
 fmb:=h.fmb
 fmd:=h.fmd
 fbd:=h.fbd
 dj:=h.dj
def ik.mod{G:NP_}(h:ik w v c l mb md A D fp S)(b:de G w w')(a:∀p x,fp p x->¬G x):ik w' v c l mb md A D fp S:=⟨h.torO.mod b a,h.dom,h.dod⟩
def lw.mod{F G:NP_}(h:lw w v F S)(d:de G w w')(b:∀x,F x->¬G x):lw w' v F S:=by
 obtain⟨c,l,mb,md,A,D,fp,e,a⟩:=h;exact⟨c,l,mb,md,A,D,fp,e.mod d λp x f=>b x ((a x).2 ⟨p,f⟩),a⟩
def ik.md0(h:ik w v c l mb md A D fp S)(a:M0 w w'):ik w' v c l mb md A D fp S:=h.mod a λ_ _ _ h=>h
def lw.md0{F:NP_}(h:lw w v F S)(a:M0 w w'):lw w' v F S:=h.mod a eQ
def rO.djU(h:rO w v c l mb md A D fp S){p:Pt}{G:NP_}(i:∀x,G x->fp p x\/w.heap.size<=x):∀q r x,mj fp p G q x->mj fp p G r x->q=r:=by
 have key:∀q x,q≠p->fp q x->¬G x:=λq x a f g=>by
  rcases i x g with b|b
  ·exact a (h.dj _ _ _ f b)
  ·have:=h.lt f;omega
 intro q r x a e;by_cases b:q=p
 ·by_cases d:r=p
  ·rw[b,d]
  ·subst b;rw[ip]at a;rw[eH d]at e;exact absurd a (key r x d e)
 ·rw[eH b]at a;by_cases d:r=p
  ·subst d;rw[ip]at e;exact absurd e (key q x b a)
  ·rw[eH d]at e;exact h.dj _ _ _ a e
def rO.ap(h:rO w v c l mb md A D fp S){p q:Pt}(a:q≠p):∀x,fp q x->¬fp p x:=λx d b=>a (h.dj _ _ _ d b)
def zX{fp:Pt->Nat->Prop}{p:Pt}{G:NP_}{n:Nat}(d:∀x,G x->fp p x\/n<=x):∀x,dY (mj fp p G) x->dY fp x\/n<=x:=by
 rintro x ⟨q,a⟩;by_cases b:q=p
 ·subst b;rw[ip]at a;exact(d x a).imp (λh=>⟨_,h⟩) id
 ·rw[eH b]at a;exact .inl ⟨_,a⟩
def ik.setCal(h:ik w v c l mb md A D fp S){G:NP_}{C:sE}(a:de (fp .cal) w w')(f:pN w' c G C)(d:∀x,G x->fp .cal x\/w.heap.size<=x)
  (e:∀n,(eR C.l n).isSome=(eR S.cal.l n).isSome):ik w' v c l mb md A D (mj fp .cal G) {S with cal:=C} where
 blk:=a.hpk h.blk (h.ap (by simp) _ h.self)
 cal:=by rw[ip];exact f
 led:=by rw[eH (by simp)];exact h.led.mod a (h.ap (by simp))
 mbk:=h.mbk.mod a (h.ap (by simp) _ ((h.fmb mb).2 rfl))
 mbd:=h.mbd.mod a (h.ap (by simp) _ ((h.fmd md).2 rfl))
 dom n:=by rw[h.dom n];exact(e n).symm
 dod n d:=by rw[e n];exact h.dod n d
 bk n b hl:=by rw[eH (by simp)];exact(h.bk n b hl).mod a (h.ap (by simp))
 nbk n hl:=by rw[eH (by simp)];exact h.nbk n hl
 bd n:=(h.bd n).mod a λx g=>h.ap (by simp) x ((h.fbd n x).2 g)
 fv:=by rw[eH (by simp)];exact h.fv
 fmb:=by rw[eH (by simp)];exact h.fmb
 fmd:=by rw[eH (by simp)];exact h.fmd
 fbd n:=by rw[eH (by simp)];exact h.fbd n
 dj:=h.djU d
def ik.setLed(h:ik w v c l mb md A D fp S){L:Led}(a:de (fp .led) w w')(d:lA w' l (fp .led) L):ik w' v c l mb md A D fp {S with led:=L} where
 blk:=a.hpk h.blk (h.ap (by simp) _ h.self)
 cal:=h.cal.mod a (h.ap (by simp))
 led:=d
 mbk:=h.mbk.mod a (h.ap (by simp) _ ((h.fmb mb).2 rfl))
 mbd:=h.mbd.mod a (h.ap (by simp) _ ((h.fmd md).2 rfl))
 dom:=h.dom
 dod:=h.dod
 bk n b hl:=(h.bk n b hl).mod a (h.ap (by simp))
 nbk:=h.nbk
 bd n:=(h.bd n).mod a λx e=>h.ap (by simp) x ((h.fbd n x).2 e)
 fv:=h.fv
 fmb:=h.fmb
 fmd:=h.fmd
 fbd:=h.fbd
 dj:=h.dj
def ik.setBk(h:ik w v c l mb md A D fp S){n:Int}{b:Nat}{G:NP_}{B:Bk}(g:lk A n=some b)(f:de (fp (.bk n)) w w')(i:kK w' b G B)(k:∀x,G x->fp (.bk n) x\/w.heap.size<=x):
  ik w' v c l mb md A D (mj fp (.bk n) G) {S with bk:=upd S.bk n B} where
 blk:=f.hpk h.blk (h.ap (by simp) _ h.self)
 cal:=by rw[eH (by simp)];exact h.cal.mod f (h.ap (by simp))
 led:=by rw[eH (by simp)];exact h.led.mod f (h.ap (by simp))
 mbk:=h.mbk.mod f (h.ap (by simp) _ ((h.fmb mb).2 rfl))
 mbd:=h.mbd.mod f (h.ap (by simp) _ ((h.fmd md).2 rfl))
 dom:=h.dom
 dod:=h.dod
 bk m b' hl:=by
  by_cases a:m=n
  ·subst a;rw[g]at hl;cases hl;show kK w' b _ (upd S.bk m B m);rw[ip,upd_self];exact i
  ·have d:Pt.bk m≠Pt.bk n:=by simpa using a
   show kK w' b' _ (upd S.bk n B m);rw[eH d,upd_ne _ _ _ a];exact(h.bk m b' hl).mod f (h.ap d)
 nbk m hl:=by
  have a:m≠n:=λe=>by grind
  have d:Pt.bk m≠Pt.bk n:=by simpa using a
  show upd S.bk n B m=_/\_;rw[eH d,upd_ne _ _ _ a];exact h.nbk m hl
 bd m:=(h.bd m).mod f λx j=>h.ap (by simp) x ((h.fbd m x).2 j)
 fv:=by rw[eH (by simp)];exact h.fv
 fmb:=by rw[eH (by simp)];exact h.fmb
 fmd:=by rw[eH (by simp)];exact h.fmd
 fbd m:=by rw[eH (by simp)];exact h.fbd m
 dj:=h.djU k
def ik.setNext(h:ik w v c l mb md A D fp S){n:Int}(a:de (fp .v) w w')(d:hC w' v #[iZ c,iG l,.map (some mb),.map (some md),gQ n] vy):
  ik w' v c l mb md A D fp {S with next:=n} where
 blk:=d
 cal:=h.cal.mod a (h.ap (by simp))
 led:=h.led.mod a (h.ap (by simp))
 mbk:=h.mbk.mod a (h.ap (by simp) _ ((h.fmb mb).2 rfl))
 mbd:=h.mbd.mod a (h.ap (by simp) _ ((h.fmd md).2 rfl))
 dom:=h.dom
 dod:=h.dod
 bk m b hl:=(h.bk m b hl).mod a (h.ap (by simp))
 nbk:=h.nbk
 bd m:=(h.bd m).mod a λx e=>h.ap (by simp) x ((h.fbd m x).2 e)
 fv:=h.fv
 fmb:=h.fmb
 fmd:=h.fmd
 fbd:=h.fbd
 dj:=h.dj
def ik.bdIn(h:ik w v c l mb md A D fp S){n:Int}{L:List Od}(a:de (fp (.bd n)) w w')(f:qR w' (rz D n) L):
  ik w' v c l mb md A D fp {S with bd:=upd S.bd n L} where
 blk:=a.hpk h.blk (h.ap (by simp) _ h.self)
 cal:=h.cal.mod a (h.ap (by simp))
 led:=h.led.mod a (h.ap (by simp))
 mbk:=h.mbk.mod a (h.ap (by simp) _ ((h.fmb mb).2 rfl))
 mbd:=h.mbd.mod a (h.ap (by simp) _ ((h.fmd md).2 rfl))
 dom:=h.dom
 dod:=h.dod
 bk m b hl:=(h.bk m b hl).mod a (h.ap (by simp))
 nbk:=h.nbk
 bd m:=by
  by_cases d:m=n
  ·subst d;show qR w' _ (upd S.bd m L m);rw[upd_self];exact f
  ·have e:Pt.bd m≠Pt.bd n:=by simpa using d
   show qR w' _ (upd S.bd n L m);rw[upd_ne _ _ _ d];exact(h.bd m).mod a λx g=>h.ap e x ((h.fbd m x).2 g)
 fv:=h.fv
 fmb:=h.fmb
 fmd:=h.fmd
 fbd:=h.fbd
 dj:=h.dj
def Hk(D:List (Int×Value))(n m:Int)(x:Vt_):rz (put D n x) m=if m=n then x else rz D m:=by
 unfold rz;rw[sn];by_cases a:m=n
 ·subst a;simp
 ·grind
def rO.setBdG(h:rO w v c l mb md A D fp S){w1:Wt_}{n:Int}{L:List Od}{sl:Vt_}{E:NP_}(s:de E w w1)(u:∀p x,p≠ .bd n->fp p x->¬E x)(g:qR w1 sl L)(r:∀x,cK sl x->fp (.bd n) x\/w.heap.size<=x)
  (k:fB iI yh w' md (put D n sl))(q:de (λx=>x=md) w1 w'):rO w' v c l mb md A (put D n sl) (mj fp (.bd n) (cK sl)) {S with bd:=upd S.bd n L}:=by
 have y:=h.lt (p:=.md) ((h.fmd md).2 rfl);have t:=s.size;have i:de (λx=>E x\/x=md) w w' :=(s.mono λx _ e=>.inl e).on q λx e=>.inl (.inr e)
 have d:∀p,p≠ .bd n->p≠ .md->∀x,fp p x->¬(E x\/x=md):=λp j k x e g=>by
  rcases g with g|g
  ·exact u p x j e g
  ·exact k (h.dj _ _ _ e ((h.fmd x).2 g))
 exact{
  blk:=i.hpk h.blk (d .v (by simp) (by simp) _ h.self)
  cal:=by rw[eH (by simp)];exact h.cal.mod i (d .cal (by simp) (by simp))
  led:=by rw[eH (by simp)];exact h.led.mod i (d .led (by simp) (by simp))
  mbk:=h.mbk.mod i (d .mb (by simp) (by simp) _ ((h.fmb mb).2 rfl))
  mbd:=k
  bk:=λm b o=>by rw[eH (by simp)];exact(h.bk m b o).mod i (d (.bk m) (by simp) (by simp))
  nbk:=λm o=>by rw[eH (by simp)];exact h.nbk m o
  bd:=λm=>by
   show qR w' _ (upd S.bd n L m);rw[Hk];by_cases a:m=n
   ·subst a;rw[bZ rfl,upd_self];refine g.mod q λx e z=>?_;rcases r x e with j|j
    ·exact absurd (h.dj _ _ _ j ((h.fmd x).2 z)) (by simp)
    ·omega
   ·have f:Pt.bd m≠Pt.bd n:=by simpa using a
    rw[aZ a,upd_ne _ _ _ a];exact(h.bd m).mod i λx e=>d (.bd m) f (by simp) x ((h.fbd m x).2 e)
  fv:=by rw[eH (by simp)];exact h.fv
  fmb:=by rw[eH (by simp)];exact h.fmb
  fmd:=by rw[eH (by simp)];exact h.fmd
  fbd:=λm x=>by
   rw[Hk];by_cases a:m=n
   ·subst a;rw[bZ rfl,ip]
   ·have f:Pt.bd m≠Pt.bd n:=by simpa using a
    rw[aZ a,eH f];exact h.fbd m x
  dj:=h.djU r}
def rO.setBd(h:rO w v c l mb md A D fp S){w1:Wt_}{n:Int}{L:List Od}{sl:Vt_}(a:de (fp (.bd n)) w w1)(e:qR w1 sl L)(f:∀x,cK sl x->fp (.bd n) x\/w.heap.size<=x)
  (d:fB iI yh w' md (put D n sl))(b:de (λx=>x=md) w1 w'):rO w' v c l mb md A (put D n sl) (mj fp (.bd n) (cK sl)) {S with bd:=upd S.bd n L}:=
 h.setBdG a (λp x hp=>h.ap hp x) e f d b
def ik.setBdG(h:ik w v c l mb md A D fp S){w1:Wt_}{n:Int}{L:List Od}{sl:Vt_}(g:(eR S.cal.l n).isSome=true){E:NP_}(k:de E w w1)(i:∀p x,p≠ .bd n->fp p x->¬E x)(o:qR w1 sl L)(j:∀x,cK sl x->fp (.bd n) x\/w.heap.size<=x)
  (f:fB iI yh w' md (put D n sl))(d:de (λx=>x=md) w1 w'):ik w' v c l mb md A (put D n sl) (mj fp (.bd n) (cK sl)) {S with bd:=upd S.bd n L}:=
 ⟨h.torO.setBdG k i o j f d,h.dom,λm a=>by
  by_cases b:m=n
  ·subst b;exact g
  ·rw[sn,aZ λe=>b e.symm]at a;exact h.dod m a⟩
def ik.setBd(h:ik w v c l mb md A D fp S){w1:Wt_}{n:Int}{L:List Od}{sl:Vt_}(d:(eR S.cal.l n).isSome=true)(f:de (fp (.bd n)) w w1)(j:qR w1 sl L)(k:∀x,cK sl x->fp (.bd n) x\/w.heap.size<=x)
  (g:fB iI yh w' md (put D n sl))(i:de (λx=>x=md) w1 w'):ik w' v c l mb md A (put D n sl) (mj fp (.bd n) (cK sl)) {S with bd:=upd S.bd n L}:=
 ⟨h.torO.setBd f j k g i,h.dom,λm a=>by
  by_cases b:m=n
  ·subst b;exact d
  ·rw[sn,aZ λe=>b e.symm]at a;exact h.dod m a⟩
def rO.addBk(h:rO w v c l mb md A D fp S){w1:Wt_}{n:Int}{b:Nat}{G:NP_}{B:Bk}(C:lk A n=none)(s:M0 w w1)(o:kK w1 b G B)(z:∀x,G x->w.heap.size<=x)
  (k:fB iI jY w' mb (put A n b))(q:de (λx=>x=mb) w1 w'):rO w' v c l mb md (put A n b) D (mj fp (.bk n) G) {S with bk:=upd S.bk n B}:=by
 have u:=h.lt (p:=.mb) ((h.fmb mb).2 rfl);have t:=s.size;have i:de (λx=>x=mb) w w' :=(s.to).trans q;have d:∀p,p≠ .mb->∀x,fp p x->¬x=mb:=λp k x j o=>k (h.dj _ _ _ j ((h.fmb x).2 o));have y:∀x,G x->¬x=mb:=λx j e=>by grind
 exact{
  blk:=i.hpk h.blk (d .v (by simp) _ h.self)
  cal:=by rw[eH (by simp)];exact h.cal.mod i (d .cal (by simp))
  led:=by rw[eH (by simp)];exact h.led.mod i (d .led (by simp))
  mbk:=k
  mbd:=h.mbd.mod i (d .md (by simp) _ ((h.fmd md).2 rfl))
  bk:=λm r f=>by
   rw[sn]at f;show kK w' r _ (upd S.bk n B m);by_cases a:m=n
   ·subst a;rw[bZ rfl]at f;cases f;rw[ip,upd_self];exact o.mod q y
   ·have g:Pt.bk m≠Pt.bk n:=by simpa using a
    rw[aZ λe=>a e.symm]at f;rw[eH g,upd_ne _ _ _ a];exact(h.bk m r f).mod i (d (.bk m) (by simp))
  nbk:=λm f=>by
   rw[sn]at f;show upd S.bk n B m=_/\_;by_cases a:m=n
   ·grind
   ·have g:Pt.bk m≠Pt.bk n:=by simpa using a
    rw[aZ λe=>a e.symm]at f;rw[eH g,upd_ne _ _ _ a];exact h.nbk m f
  bd:=λm=>(h.bd m).mod i λx j=>d (.bd m) (by simp) x ((h.fbd m x).2 j)
  fv:=by rw[eH (by simp)];exact h.fv
  fmb:=by rw[eH (by simp)];exact h.fmb
  fmd:=by rw[eH (by simp)];exact h.fmd
  fbd:=λm x=>by rw[eH (by simp)];exact h.fbd m x
  dj:=h.djU (p:=.bk n) λx j=>.inr (z x j)}
def ik.delBd(h:ik w v c l mb md A D fp S){n:Int}(o:fB iI yh w' md (DF D n))(f:de (λx=>x=md) w w'):ik w' v c l mb md A (DF D n) (mj fp (.bd n) (λ_=>False)) {S with bd:=upd S.bd n []}:=by
 have d:∀p,p≠ .md->∀x,fp p x->¬x=md:=λp o x j r=>o (h.dj _ _ _ j ((h.fmd x).2 r));have i:∀m,lk (DF D n) m=if n=m then none else lk D m:=λm=>Xo h.mbd.1 n m
 have g:∀m,rz (DF D n) m=if m=n then dv else rz D m:=λm=>by
  unfold rz;rw[i];by_cases a:m=n
  ·subst a;simp
  ·grind
 exact{
  blk:=f.hpk h.blk (d .v (by simp) _ h.self)
  cal:=by rw[eH (by simp)];exact h.cal.mod f (d .cal (by simp))
  led:=by rw[eH (by simp)];exact h.led.mod f (d .led (by simp))
  mbk:=h.mbk.mod f (d .mb (by simp) _ ((h.fmb mb).2 rfl))
  mbd:=o
  dom:=h.dom
  dod:=λm e=>by
   rw[i]at e;by_cases a:n=m
   ·grind
   ·rw[aZ a]at e;exact h.dod m e
  bk:=λm b q=>by rw[eH (by simp)];exact(h.bk m b q).mod f (d (.bk m) (by simp))
  nbk:=λm q=>by rw[eH (by simp)];exact h.nbk m q
  bd:=λm=>by
   show qR w' _ (upd S.bd n [] m);rw[g];by_cases a:m=n
   ·subst a;rw[bZ rfl,upd_self];exact jo.nil _ _ _
   ·rw[aZ a,upd_ne _ _ _ a];exact(h.bd m).mod f λx j=>d (.bd m) (by simp) x ((h.fbd m x).2 j)
  fv:=by rw[eH (by simp)];exact h.fv
  fmb:=by rw[eH (by simp)];exact h.fmb
  fmd:=by rw[eH (by simp)];exact h.fmd
  fbd:=λm x=>by
   rw[g];by_cases a:m=n
   ·subst a;rw[bZ rfl,ip];exact⟨λh=>h.elim,λh=>by cases h⟩
   ·have k:Pt.bd m≠Pt.bd n:=by simpa using a
    rw[aZ a,eH k];exact h.fbd m x
  dj:=h.djU (p:=.bd n) λx j=>j.elim}
end
end Go.Proofs
namespace Go.Proofs
open Go Go.Vc
variable {B:Bk}{cl:Bool}{n c b s p price a:Int}{S' :Led}{l l' :List Od}{o o' :Od}{x:Po}{g f:Po->Int}{S:Ven}{C:sE}
def Od.key(o:Od):Int×Int×Bool×Int:=(o.num,o.acct,o.buy,o.price)
def key_num(h:o.key=o'.key):o.num=o'.num:=fC (·.1) h
def key_acct(h:o.key=o'.key):o.acct=o'.acct:=fC (·.2.1) h
def key_buy(h:o.key=o'.key):o.buy=o'.buy:=fC (·.2.2.1) h
def key_price(h:o.key=o'.key):o.price=o'.price:=fC (·.2.2.2) h
structure SubL(l' l:List Od):Prop where
 sub:(l'.map Od.key).Sublist (l.map Od.key)
 left:∀o∈l',1<=o.left/\o.left<=1000000
def may_left(h:o.may=true):1<=o.left/\o.left<=1000000:=Od.left_bd h
def may_key(h:o.key=o'.key)(a:o.may=true)(b:1<=o'.left/\o'.left<=1000000):o'.may=true:=by
 unfold Od.may at*;rw[<-key_num h,<-key_acct h,<-key_price h];simp only[cL]at a|-;exact⟨a.1,db b⟩
def SubL.refl(h:∀o∈l,o.may=true):SubL l l:=⟨kJ _,λo a=>may_left (h o a)⟩
def SubL.mem(h:SubL l' l){o:Od}(b:o∈l'):∃a∈l,a.key=o.key:=by
 have:=h.sub.mem (dn (f:=Od.key) b);obtain⟨a,d,c⟩:=cF.1 this;exact⟨a,d,c⟩
def K9(l:List Od):l.map (·.num)=(l.map Od.key).map (·.1):=by rw[dQ];rfl
def SubL.nums(h:SubL l' l):(l'.map (·.num)).Sublist (l.map (·.num)):=by
 rw[K9,K9];exact h.sub.map _
def SubL.len(h:SubL l' l):l'.length<=l.length:=by
 have:=h.sub.length_le
 rwa[cz,cz]at this
def SubL.of_sub(h:l'.Sublist l)(b:∀o∈l,o.may=true):SubL l' l:=⟨h.map _,λo a=>may_left (b o (h.mem a))⟩
def SubL.filter(a:∀o∈l,o.may=true)(p:Od->Bool):SubL (l.filter p) l:=SubL.of_sub jv a
def SubL.set(b:∀o∈l,o.may=true){i:Nat}(hi:i<l.length){x:Int}(c:1<=x/\x<=1000000):SubL (l.set i {l[i]with left:=x}) l:=by
 refine⟨?_,λo a=>?_⟩
 ·rw[lY]
  have e:(l.map Od.key).set i (Od.key {l[i]with left:=x})=l.map Od.key:=by
   have:Od.key {l[i]with left:=x}=(l.map Od.key)[i]'(by simpa using hi):=by rw[eL];rfl
   rw[this,nS]
  rw[e];exact kJ _
 ·rcases gG a with a|rfl
  ·exact may_left (b o a)
  ·exact c
structure YD(o:Od)(left:Int)(L:List Od)(x:Int×List Od×List Td×List Int×Int):Prop where
 sub:SubL x.2.1 L
 rest:0<=x.1/\x.1<=left
 fill:x.2.2.2.2+x.1=left
 qty:(x.2.2.1.map (·.qty)).sum=x.2.2.2.2
 tr:∀t∈x.2.2.1,1<=t.qty/\t.qty<=1000000/\t.acct≠o.acct/\∃b∈L,b.num=t.num/\b.acct=t.acct/\b.price=t.price/\t.qty<=b.left/\nf o b.price=true
 gone:∀g∈x.2.2.2.1,∃b∈L,b.num=g/\b.acct=o.acct
def Fp{o:Od}:∀{L:List Od} {left:Int},0<=left->(∀b∈L,b.may=true)->YD o left L (iV o left L)
 | [],left,l,m=>⟨⟨kJ _,by simp[iV]⟩,by simp[iV];omega,by simp[iV],by simp[iV],by simp[iV],by simp[iV]⟩
 |b::r,left,l,m=>by
  have B:=may_left (m b cw);have v:∀x∈r,x.may=true:=λx A=>m x (cu _ A);by_cases k:left<=0\/nf o b.price=false
  ·have e:iV o left (b::r)=(left,b::r,[],[],0):=by unfold iV;rw[bZ k]
   rw[e];exact⟨SubL.refl m,⟨l,io _⟩,by simp,by simp,by simp,by simp⟩
  ·have D:nf o b.price=true:=by
    cases h:nf o b.price with
    |true=>rfl
    |false=>exact absurd (.inr h) k
   by_cases q:b.acct=o.acct
   ·have c:=Fp (o:=o) (L:=r) l v
    have e:iV o left (b::r)=((iV o left r).1,(iV o left r).2.1,(iV o left r).2.2.1,b.num::(iV o left r).2.2.2.1,(iV o left r).2.2.2.2):=by
     conv=>lhs;unfold iV
     rw[aZ k,bZ q]
    rw[e];refine⟨⟨c.sub.sub.trans (List.sublist_cons_self _ _),c.sub.left⟩,c.rest,c.fill,c.qty,λt i=>?_,λg j=>?_⟩
    ·obtain⟨u,n,p,d,a,f⟩:=c.tr t i;exact⟨u,n,p,d,cu _ a,f⟩
    ·rcases cH.1 j with rfl|j
     ·grind
     ·obtain⟨d,a,f⟩:=c.gone g j;exact⟨d,cu _ a,f⟩
   ·by_cases w:left<b.left
    ·have e:iV o left (b::r)=(0,{b with left:=b.left - left}::r,[⟨b.price,left,b.num,b.acct⟩],[],left):=by unfold iV;rw[aZ k,aZ q,bZ w]
     rw[e];refine⟨⟨kJ _,λz s=>?_⟩,⟨io _,l⟩,by simp,by simp,λt i=>?_,by simp⟩
     ·rcases cH.1 s with rfl|s
      ·grind
      ·exact may_left (v z s)
     ·grind
    ·have c:=Fp (o:=o) (L:=r) (left:=left - b.left) qZ v
     have e:iV o left (b::r)=((iV o (left - b.left) r).1,(iV o (left - b.left) r).2.1,⟨b.price,b.left,b.num,b.acct⟩::(iV o (left - b.left) r).2.2.1,(iV o (left - b.left) r).2.2.2.1,b.left+(iV o (left - b.left) r).2.2.2.2):=by
      conv=>lhs;unfold iV
      rw[aZ k,aZ q,aZ w]
     rw[e];have y:=c.rest;have C:=c.fill;refine⟨⟨c.sub.sub.trans (List.sublist_cons_self _ _),c.sub.left⟩,⟨y.1,by grind⟩,by grind,?_,λt i=>?_,λg j=>?_⟩
     ·show(List.map _ (_::_)).sum=_;rw[cM,di,c.qty]
     ·rcases cH.1 i with rfl|i
      ·grind
      ·obtain⟨u,n,p,d,a,f⟩:=c.tr t i;exact⟨u,n,p,d,cu _ a,f⟩
     ·obtain⟨d,a,f⟩:=c.gone g j;exact⟨d,cu _ a,f⟩
def BkMay(B:Bk):Prop:=∀d,∀o∈B d,o.may=true/\o.buy=d
def wx(buy:Bool)(l:List Od)(o:Od):(tK buy l o).Perm (o::l):=by
 unfold tK;apply qL.trans;rw[fP]
def Ha{buy:Bool}(b:o.may=true)(e:o.buy=buy):
  ((rX buy l o).2=l/\(rX buy l o).1≠0)\/((rX buy l o).2.Perm (o::l)/\l.length<100/\(∀x∈l,x.num≠o.num)/\(rX buy l o).2=tK buy l o):=by
 unfold rX;rw[aZ (by simp[b,e])];by_cases a:(l.any λx=>decide (x.num=o.num))=true
 ·grind
 ·rw[aZ a];by_cases d:100<=l.length
  ·grind
  ·rw[aZ d];refine .inr ⟨wx _ _ _,qZ,λx f c=>a ?_,rfl⟩;rw[gA];exact⟨x,f,db c⟩
structure X7(B:Bk)(o:Od)(x:Bk×Pm):Prop where
 opp:SubL (x.1 (!o.buy)) (B !o.buy)
 own:x.1 o.buy=B o.buy\/(0<x.2.left/\x.1 o.buy=tK o.buy (B o.buy) {o with left:=x.2.left}/\(B o.buy).length<100/\∀y∈B o.buy,y.num≠o.num)
 fill:0<=x.2.left/\0<=x.2.filled/\x.2.filled+x.2.left<=o.left
 qty:(x.2.trades.map (·.qty)).sum=x.2.filled
 tr:∀t∈x.2.trades,1<=t.qty/\t.qty<=1000000/\t.acct≠o.acct/\∃b∈B !o.buy,b.num=t.num/\b.acct=t.acct/\b.price=t.price/\t.qty<=b.left/\nf o b.price=true
def Bk.set_ne(B:Bk){d e:Bool}(l:List Od)(h:e≠d):B.set d l e=B e:=aZ h
def Gg{rests:Bool}(j:BkMay B)(e:o.may=true):X7 B o (ko B o rests):=by
 have r:=may_left e;have a:=Fp (o:=o) (L:=B !o.buy) (left:=o.left) qZ λb h=>(j _ b h).1;obtain⟨x,g⟩:=dW (iV o o.left (B !o.buy));rw[<-g]at a;have k:=a.rest;have m:=a.fill;have n:0<=x.2.2.2.2:=qZ;have c:o.buy≠ !o.buy:=by grind
 unfold ko;simp only[<-g];by_cases f:rests=true/\0<x.1
 ·rw[bZ f];have i:=may_key (o:=o) (o' :={o with left:=x.1}) rfl e (by grind);refine⟨?_,?_,by grind,a.qty,a.tr⟩
  ·show SubL (Bk.set _ _ _ _) _;rw[Bk.set_other,Bk.set_self];exact a.sub
  ·show Bk.set _ _ _ _=_\/(0<x.1/\Bk.set _ _ _ _=tK _ _ {o with left:=x.1}/\_);rw[Bk.set_self,Bk.set_ne _ _ c];rcases Ha (l:=B o.buy) (buy:=o.buy) i rfl with⟨d,-⟩|⟨d,s,p,q⟩
   ·exact .inl d
   ·grind
 ·rw[aZ f];refine⟨?_,.inl ?_,by grind,a.qty,a.tr⟩
  ·show SubL (Bk.set _ _ _ _) _;rw[Bk.set_self];exact a.sub
  ·show Bk.set _ _ _ _=_;rw[Bk.set_ne _ _ c]
def IW(h:∀o∈l,o.num≠n):pI l n=none:=by
 unfold pI;rw[fW];exact λx a=>by simpa using h x a
def sdGet_some(d:(l.map (·.num)).Nodup){o:Od}(b:o∈l):pI l o.num=some o:=by
 induction l with
 |nil=>cases b
 |cons a l g=>
  rw[cM,dA]at d;unfold pI;rw[jL];rcases cH.1 b with rfl|b
  ·simp
  ·have c:a.num≠o.num:=λe=>d.1 (e▸dn (f:=(·.num)) b);rw[ej c];exact g d.2 b
def Ez(h:pI l n=some o):o∈l/\o.num=n:=by
 unfold pI at h;exact⟨fl h,by grind⟩
def Fy(b:(l.map (·.num)).Nodup)(n:Int):tD l n=l.filter λo=>decide (o.num≠n):=by
 unfold tD;induction l with
 |nil=>rfl
 |cons a l d=>
  rw[cM,dA]at b;by_cases h:a.num=n
  ·rw[List.eraseP_cons_of_pos (by simpa using h),cY (by simpa using h),fi.2 λx c=>?_];have:x.num≠a.num:=λe=>b.1 (e▸dn (f:=(·.num)) c);rw[db];omega
  ·grind
def BkNd(B:Bk):Prop:=(B.all.map (·.num)).Nodup
def BkNd.side(h:BkNd B)(d:Bool):((B d).map (·.num)).Nodup:=by
 unfold BkNd Bk.all at h;rw[dy,jI]at h;cases d
 ·exact h.2.1
 ·exact h.1
def BkNd.ne(h:BkNd B){d e:Bool}{x y:Od}(i:x∈B d)(g:y∈B e)(c:x.num=y.num):d=e/\x=y:=by
 unfold BkNd Bk.all at h;rw[dy,jI]at h
 have m:∀(l:List Od),(l.map (·.num)).Nodup->x∈l->y∈l->x=y:=λl f k j=>by
  have a:=sdGet_some f k;have b:=sdGet_some f j;rw[c,b]at a;exact(dB a).symm
 cases d<;>cases e
 ·grind
 ·exact absurd c.symm (h.2.2 _ (dn g) _ (dn i))
 ·exact absurd c (h.2.2 _ (dn i) _ (dn g))
 ·grind
def Ln(h:BkNd B){d:Bool}{o:Od}(a:o∈B d):B.find o.num=some (o,d):=by
 unfold Bk.find;cases d
 ·rw[IW λx c b=>by have:=(h.ne c a b).1;cases this];simp only;rw[sdGet_some (h.side false) a]
 ·rw[sdGet_some (h.side true) a]
def find_mem{d:Bool}(h:B.find n=some (o,d)):o∈B d/\o.num=n:=by
 unfold Bk.find at h;cases b:pI (B true) n with
 |some x=>
  rw[b]at h;cases h;exact Ez b
 |none=>
  rw[b]at h;simp only at h;cases a:pI (B false) n with
  |some x=>
   rw[a]at h;cases h;exact Ez a
  |none=>rw[a]at h;cases h
def Bk.flt(B:Bk)(p:Od->Bool):Bk:=λd=>(B d).filter p
def yS(h:BkNd B){n:Int}{o:Od}{d:Bool}(c:B.find n=some (o,d)):(jX B n).2.1=B.flt λo=>decide (o.num≠n):=by
 unfold jX;rw[c];funext e;have b:=find_mem c;show Bk.set _ _ _ _=_;unfold Bk.flt;by_cases a:e=d
 ·subst a;rw[Bk.set_self,Fy (h.side e)]
 ·rw[Bk.set_ne _ _ a,fi.2 λx f=>?_];rw[db];intro g;exact a (h.ne f b.1 (g.trans b.2.symm)).1
def SI(B:Bk)(p q:Od->Bool):(B.flt p).flt q=B.flt λo=>q o&& p o:=by
 funext d;unfold Bk.flt;rw[lF]
def Kq(B:Bk)(p:Od->Bool):(B.flt p).all=B.all.filter p:=by
 unfold Bk.all Bk.flt;rw[dJ]
def BkNd.flt(h:BkNd B)(p:Od->Bool):BkNd (B.flt p):=by
 unfold BkNd;rw[Kq];exact h.sublist (jv.map _)
def mem_all:o∈B.all↔∃d,o∈B d:=by
 unfold Bk.all;rw[dg];constructor
 ·rintro(h|h)
  ·exact⟨true,h⟩
  ·exact⟨false,h⟩
 ·rintro⟨d,h⟩;cases d
  ·exact .inr h
  ·exact .inl h
def AH{a:Int}:∀(l:List Od) (B:Bk),BkNd B->(l.map (·.num)).Nodup->(∀o∈l,o∈B.all)->yr a B l=B.flt λo=> !(l.any λx=>decide (x.num=o.num)&& pA a x)
 | [],B,_,_,_=>by
  funext d;unfold yr Bk.flt;exact(fi.2 λx k=>rfl).symm
 |x::l,B,h,c,i=>by
  rw[cM,dA]at c;have k:=i x cw;obtain⟨d,n⟩:=mem_all.1 k;have p:yr a B (x::l)=yr a (if pA a x then(jX B x.num).2.1 else B) l:=rfl;rw[p];by_cases g:pA a x=true
  ·rw[bZ g,yS h (Ln h n)];rw[AH l _ (h.flt _) c.2 λo b=>?_,SI]
   ·funext e;unfold Bk.flt;refine gF λo b=>?_;rw[kQ,g,Bool.and_true,Bool.not_or];by_cases m:x.num=o.num
    ·grind
    ·grind
   ·rw[Kq,cO];refine⟨i o (cu _ b),?_⟩;rw[db];exact λm=>c.1 (m▸dn (f:=(·.num)) b)
  ·rw[aZ g,AH l _ h c.2 λo b=>i o (cu _ b)];funext e;unfold Bk.flt;refine gF λo b=>?_;have j:pA a x=false:=by simpa using g
   rw[kQ,j,sj,jz]
def mass_flt(h:BkNd B)(a:Int):(qi B a).1=B.flt λo=> !pA a o:=by
 unfold qi;simp only;rw[AH _ _ h h λo c=>c];funext d;unfold Bk.flt;refine gF λo c=>?_;congr 1;rw[iC,gA];constructor
 ·rintro⟨x,i,b⟩;rw[cL,dN]at b;obtain⟨e,f⟩:=mem_all.1 i;rw[<-(h.ne f c b.1).2];exact b.2
 ·intro g;exact⟨o,mem_all.2 ⟨d,c⟩,by simp[g]⟩
def find_unique{l:List Po}(h:SortP l){p:Po}(hp:p∈l):l.find? (λx=>decide (x.key=p.key))=some p:=Led.pos_some (S:=⟨0,[],l⟩) h hp
def Led.pos_putP{S:Led}(h:SortP S.held)(p:Po)(k:Int×Int):(S.putP p).pos? k=if k=p.key then(if p.isZ then none else some p)else S.pos? k:=by
 have i:=qn h p;by_cases c:k=p.key
 ·subst c;rw[bZ rfl];cases g:p.isZ with
  |true=>
   simp only[fh];unfold Led.pos? Led.putP;rw[fW];intro x f;rcases mem_insP.1 f with⟨_,a⟩|⟨_,a⟩
   ·simpa using a
   ·rw[g]at a;cases a
  |false=>
   exact Led.pos_some (S:=S.putP p) i (mem_insP.2 (.inr ⟨rfl,g⟩))
 ·rw[aZ c];cases b:S.pos? k with
  |some x=>
   obtain⟨d,a⟩:=Led.pos_mem b;have:=Led.pos_some (S:=S.putP p) i (mem_insP.2 (.inl ⟨d,λe=>c (a▸e)⟩))
   rwa[a]at this
  |none=>
   unfold Led.pos? at b|-;rw[fW]at b|-;intro x f;rcases mem_insP.1 f with⟨d,_⟩|⟨rfl,_⟩
   ·exact b x d
   ·grind
def Led.position_putP{S:Led}(h:SortP S.held)(p:Po)(c a:Int):(S.putP p).position c a=if c=p.c/\a=p.a then p else S.position c a:=by
 unfold Led.position;rw[Led.pos_putP h];by_cases d:c=p.c/\a=p.a
 ·obtain⟨rfl,rfl⟩:=d;rw[bZ (show(p.c,p.a)=p.key from rfl),bZ (show p.c=p.c/\p.a=p.a from sI)];cases b:p.isZ with
  |false=>rfl
  |true=>
   unfold Po.isZ at b;simp only[dN]at b;obtain⟨g,f,j,i⟩:=p;simp only at b;simp[b.1,b.2]
 ·rw[aZ (λe=>d (by simpa [Po.key]using e)),aZ d]
def Led.trade_ok{S:Led}(h:(S.trade c b s p n).1=0):b≠s/\
  (S.trade c b s p n).2=(S.putP ⟨c,b,(S.position c b).q+n,(S.position c b).b+p*n⟩).putP ⟨c,s,(S.position c s).q - n,(S.position c s).b - p*n⟩:=by
 unfold Led.trade at h|-;by_cases a:c=0\/b=0\/s=0\/b=s\/amongB p 1 MP=false\/amongB n 1 MP=false
 ·grind
 ·rw[aZ a]at h|-;by_cases d:S.find b=none\/S.find s=none
  ·grind
  ·rw[aZ d]at h|-;simp only at h|-;refine⟨λe=>a (.inr (.inr (.inr (.inl e)))),?_⟩;split at h
   ·cases h
   ·grind
def Led.trade_all{S:Led}:(S.trade c b s p n).2.all=S.all/\(S.trade c b s p n).2.fund=S.fund:=by
 unfold Led.trade;split
 ·exact sI
 ·split
  ·exact sI
  ·simp only;split<;>exact sI
def kB(g:Po->Int)(l:List Po):Int:=(l.map g).sum
def Eu{l l' :List Po}(h:l.Perm l'):kB g l=kB g l' :=perm_sum (h.map g)
def Bg{l l' :List Po}:kB g (l++l')=kB g l+kB g l' :=by simp[kB]
def MS{l:List Po}(a:SortP l)(k:Int×Int):l.Perm ((l.find? λx=>decide (x.key=k)).toList++l.filter λx=>decide (x.key≠k)):=by
 induction l with
 |nil=>exact fw _
 |cons p l d=>
  have b:SortP l:=(fO.1 a).2;have hp:=(fO.1 a).1;by_cases h:p.key=k
  ·rw[lD (by simpa using h),cY (by simpa using h)];simp only[Option.toList_some,List.singleton_append];refine List.Perm.cons _ (lI ?_);symm;refine fi.2 λx c=>?_;have:=vC (hp x c);simpa using λe:x.key=k=>this (h.trans e.symm)
  ·grind
def wl{S:Led}(e:SortP S.held){g:Po->Int}(c:∀p,p.isZ=true->g p=0)(p:Po):kB g (S.putP p).held=kB g S.held+g p - g (S.position p.c p.a):=by
 have b:=Eu (g:=g) (AW S.held p);have a:=Eu (g:=g) (MS e p.key);rw[Bg]at b a
 have d:kB g (if p.isZ=true then []else [p])=g p:=by
  cases h:p.isZ with
  |true=>simp[kB,c p h]
  |false=>simp[kB]
 have f:kB g (S.held.find? λx=>decide (x.key=p.key)).toList=g (S.position p.c p.a):=by
  unfold Led.position Led.pos?;show _=g ((S.held.find? λx=>decide (x.key=p.key)).getD _);cases S.held.find? λx=>decide (x.key=p.key)with
  |none=>simp[kB,c ⟨p.c,p.a,0,0⟩ (by simp[Po.isZ])]
  |some x=>simp[kB]
 rw[d]at b;rw[f]at a;show kB g (G0 S.held p)=_;omega
def zgq(c:Int)(p:Po):Int:=if p.c=c then p.q else 0
def fJ(c:Int)(p:Po):Int:=if p.c=c then p.b else 0
def TB(c:Int):∀p,p.isZ=true->zgq c p=0:=λp h=>by
 unfold Po.isZ at h;simp only[dN]at h;unfold zgq;split<;>simp[h]
def Tx(c:Int):∀p,p.isZ=true->fJ c p=0:=λp h=>by
 unfold Po.isZ at h;simp only[dN]at h;unfold fJ;split<;>simp[h]
def Be(S:Led)(c:Int)(f:Po->Int):kB f (S.holders c)=kB (λp=>if p.c=c then f p else 0) S.held:=by
 unfold Led.holders kB;induction S.held with
 |nil=>rfl
 |cons p l a=>
  by_cases h:p.c=c
  ·grind
  ·grind
def Led.trade_sum{S:Led}(a:S.Ok){c b s p n:Int}(k:Int):
  kB (zgq k) (S.trade c b s p n).2.held=kB (zgq k) S.held/\kB (fJ k) (S.trade c b s p n).2.held=kB (fJ k) S.held:=by
 by_cases g:(S.trade c b s p n).1=0
 ·obtain⟨e,m⟩:=Led.trade_ok g;rw[m];have d:=qn a.sp ⟨c,b,(S.position c b).q+n,(S.position c b).b+p*n⟩;obtain⟨l,o,-⟩:=a.position c b;obtain⟨i,q,-⟩:=a.position c s
  have j:(S.putP ⟨c,b,(S.position c b).q+n,(S.position c b).b+p*n⟩).position c s=S.position c s:=by
   rw[Led.position_putP a.sp];rw[aZ (λh=>e h.2.symm)]
  constructor
  ·rw[wl d (TB k),wl a.sp (TB k)];simp only[j];unfold zgq;rw[l,i];by_cases f:c=k<;>simp[f]<;>omega
  ·rw[wl d (Tx k),wl a.sp (Tx k)];simp only[j];unfold fJ;rw[l,i];by_cases f:c=k<;>simp[f]<;>omega
 ·have:(S.trade c b s p n).2=S:=by
   unfold Led.trade at g|-;split
   ·rfl
   ·split
    ·rfl
    ·simp only at g|-;split
     ·rfl
     ·grind
  rw[this];exact sI
def mark_c(p:Po)(price:Int)(cl:Bool):(p.mark price cl).c=p.c/\(p.mark price cl).a=p.a:=by
 unfold Po.mark;cases cl<;>exact sI
def Je:∀{l:List Po} {S:Led},SortP S.held->SortP l->∀c a,(S.marked l price cl).position c a=match l.find? (λx=>decide (x.key=(c,a)))with|some p=>p.mark price cl|none=>S.position c a:=by
 intro l;induction l with
 |nil=>intro S b f c a;rfl
 |cons p l i=>
  intro S b f c a;have hp:=(fO.1 f).1;show((S.putP (p.mark price cl)).marked l price cl).position c a=_;rw[i (qn b _) (fO.1 f).2];by_cases h:p.key=(c,a)
  ·rw[lD (by simpa using h)]
   have d:l.find? (λx=>decide (x.key=(c,a)))=none:=by
    rw[fW];intro x g;have:=vC (hp x g);simpa using λe:x.key=(c,a)=>this (h.trans e.symm)
   rw[d];simp only;rw[Led.position_putP b];simp only[Po.key,ou]at h;rw[bZ ⟨by rw[(mark_c p price cl).1];exact h.1.symm,by rw[(mark_c p price cl).2];exact h.2.symm⟩]
  ·rw[lE (by simpa using h)];cases l.find? λx=>decide (x.key=(c,a))with
   |some x=>rfl
   |none=>
    simp only;rw[Led.position_putP b,(mark_c p price cl).1,(mark_c p price cl).2,aZ];intro e;exact h (by simp[Po.key,e.1,e.2])
def ur{S:Led}(h:SortP S.held)(c:Int):SortP (S.holders c):=h.filter _
def FG(S:Led)(c a k:Int):(S.holders c).find? (λx=>decide (x.key=(k,a)))=if k=c then S.pos? (c,a)else none:=by
 unfold Led.holders Led.pos?;by_cases b:k=c
 ·subst b;rw[bZ rfl];induction S.held with
  |nil=>rfl
  |cons p l d=>
   by_cases h:p.c=k
   ·grind
   ·rw[cY (by simpa using h),d,lE];simp[Po.key];intro e;exact absurd e h
 ·rw[aZ b,fW];intro x f;have:x.c=c:=by grind
  simp[Po.key];intro e;exact absurd (e.symm.trans this) b
def Led.mark_pos{S:Led}(b:SortP S.held)(c price:Int)(cl:Bool)(k a:Int):(S.marked (S.holders c) price cl).position k a=if k=c then(S.position c a).mark price cl else S.position k a:=by
 rw[Je b (ur b c),FG];by_cases d:k=c
 ·subst d;rw[bZ rfl,bZ rfl];unfold Led.position;cases S.pos? (k,a)with
  |some p=>rfl
  |none=>
   simp only[Option.getD_none];unfold Po.mark;cases cl<;>simp
 ·grind
def wM(f:∀p,p.isZ=true->g p=0){price:Int}{cl:Bool}:∀{l:List Po} {S:Led},SortP S.held->SortP l->(∀p∈l,S.position p.c p.a=p)->
  kB g (S.marked l price cl).held=kB g S.held+kB (λp=>g (p.mark price cl) - g p) l:=by
 intro l;induction l with
 |nil=>intro S _ _ _;simp[kB,Led.marked]
 |cons p l h=>
  intro S b c hp;have a:=(fO.1 c).1;show kB g ((S.putP (p.mark price cl)).marked l price cl).held=_;rw[h (qn b _) (fO.1 c).2 ?_,wl b f,(mark_c p price cl).1,(mark_c p price cl).2,hp p cw]
  ·simp only[kB,cM,di];omega
  ·intro x d;rw[Led.position_putP b,(mark_c p price cl).1,(mark_c p price cl).2,aZ,hp x (cu _ d)];intro e;have:=vC (a x d);exact this (by grind)
def uS{l:List Po}(h:∀p∈l,f p=g p):kB f l=kB g l:=by
 unfold kB;rw[dt h]
def xJ(l:List Po):kB (λ_=>0) l=0:=by
 unfold kB;induction l with
 |nil=>rfl
 |cons p l a=>simp[a]
def CV{l:List Po}(x:Int):kB (λp=>f p*x) l=kB f l*x:=by
 unfold kB;induction l with
 |nil=>simp
 |cons p l a=>simp[a,Int.add_mul]
def zN{l:List Po}:kB (λp=>f p - g p) l=kB f l - kB g l:=by
 unfold kB;induction l with
 |nil=>simp
 |cons p l a=>simp[a];omega
def Led.Zero(S:Led):Prop:=∀c,kB (zgq c) S.held=0/\kB (fJ c) S.held=0
def Led.Zero.holders{S:Led}(h:S.Zero)(c:Int):kB (·.q) (S.holders c)=0/\kB (·.b) (S.holders c)=0:=by
 rw[Be,Be];exact h c
def Led.holders_self{S:Led}(d:SortP S.held){c:Int}{p:Po}(hp:p∈S.holders c):S.position p.c p.a=p/\p.c=c:=by
 obtain⟨b,a⟩:=cO.1 hp;refine⟨?_,by simpa using a⟩;unfold Led.position;rw[show(p.c,p.a)=p.key from rfl,Led.pos_some d b];rfl
def Led.Zero.mark{S:Led}(a:S.Ok)(h:S.Zero)(c price:Int)(cl:Bool):(S.marked (S.holders c) price cl).Zero:=by
 intro k;have j:=ur a.sp c;have b:=λp (hp:p∈S.holders c)=>(Led.holders_self a.sp hp).1;obtain⟨l,n⟩:=h.holders c;by_cases m:k=c
 ·subst m;constructor
  ·rw[wM (TB k) a.sp j b,(h k).1]
   have:kB (λp=>zgq k (p.mark price cl) - zgq k p) (S.holders k)=kB (λp=>(if cl then 0 else p.q) - p.q) (S.holders k):=uS λp hp=>by
    have i:=(Led.holders_self a.sp hp).2;unfold zgq Po.mark;cases cl<;>simp[i]
   rw[this,zN,l];cases cl with
   |true=>simp only[fh];rw[xJ];rfl
   |false=>simp only[dE,eW];rw[l];rfl
  ·rw[wM (Tx k) a.sp j b,(h k).2]
   have:kB (λp=>fJ k (p.mark price cl) - fJ k p) (S.holders k)=kB (λp=>(if cl then 0 else p.q*price) - p.b) (S.holders k):=uS λp hp=>by
    have i:=(Led.holders_self a.sp hp).2;unfold fJ Po.mark;cases cl<;>simp[i]
   rw[this,zN,n];cases cl with
   |true=>simp only[fh];rw[xJ];rfl
   |false=>
    simp only[dE,eW];rw[CV (f:=λp=>p.q),l];simp
 ·have e:∀(g:Int->Po->Int),(g=zgq\/g=fJ)->kB (λp=>g k (p.mark price cl) - g k p) (S.holders c)=0:=λg o=>by
   have:kB (λp=>g k (p.mark price cl) - g k p) (S.holders c)=kB (λ_=>0) (S.holders c):=uS λp hp=>by
    have i:=(Led.holders_self a.sp hp).2;have d:¬p.c=k:=λe=>m (e.symm.trans i);rcases o with rfl|rfl
    ·unfold zgq;rw[(mark_c p price cl).1,aZ d,aZ d];rfl
    ·unfold fJ;rw[(mark_c p price cl).1,aZ d,aZ d];rfl
   rw[this];exact xJ _
  constructor
  ·rw[wM (TB k) a.sp j b,(h k).1,e zgq (.inl rfl)];rfl
  ·rw[wM (Tx k) a.sp j b,(h k).2,e fJ (.inr rfl)];rfl
def NP{l:List Ac}(a:SortA l)(n:Int):l.Perm ((l.find? λx=>decide (x.num=n)).toList++l.filter λx=>decide (x.num≠n)):=by
 induction l with
 |nil=>exact fw _
 |cons p l d=>
  have b:SortA l:=(fO.1 a).2;have hp:=(fO.1 a).1;by_cases h:p.num=n
  ·rw[lD (by simpa using h),cY (by simpa using h)];simp only[Option.toList_some,List.singleton_append];refine List.Perm.cons _ (lI ?_);symm;refine fi.2 λx c=>?_;have:=hp x c;simp;omega
  ·grind
def Led.funds_putA{S:Led}(f:SortA S.all)(a:Ac):(S.putA a).funds=S.funds+a.cash - ((S.getO a.num).getD ⟨0,0,false,false⟩).cash:=by
 unfold Led.putA;by_cases b:a.num=0
 ·rw[bZ b,b];simp[Led.funds,Led.getO,fundAc];omega
 ·rw[aZ b];simp only[Led.funds,Led.getO,aZ b,Led.find];have d:=perm_sum ((xR S.all a).map (·.cash));have c:=perm_sum ((NP f a.num).map (·.cash));rw[dy,g9]at c;simp only[cM,di]at d
  have e:((S.all.find? λx=>decide (x.num=a.num)).toList.map (·.cash)).sum=((S.all.find? λx=>decide (x.num=a.num)).getD ⟨0,0,false,false⟩).cash:=by
   cases S.all.find? λx=>decide (x.num=a.num)<;>simp
  omega
def Led.deposit_funds{S:Led}(a:SortA S.all)(n m:Int):(S.deposit n m).2.funds=S.funds+if(S.deposit n m).1=0 then m else 0:=by
 unfold Led.deposit;split
 ·split
  ·simp
  ·split
   ·simp
   ·rw[bZ rfl];simp only;rw[Led.funds_putA a];simp only;omega
 ·simp
def Led.withdraw_funds{S:Led}(g:SortA S.all)(n m:Int):(S.withdraw n m).2.funds=S.funds+if(S.withdraw n m).1=0 then -m else 0:=by
 unfold Led.withdraw;split
 ·simp
 ·rename_i f
  cases d:S.find n with
  |none=>simp
  |some a=>
   simp only;split
   ·simp
   ·rw[bZ rfl];simp only;obtain⟨h,b⟩:=Led.find_mem d;have c:n≠0:=λe=>f (.inl e);rw[Led.funds_putA g];simp only[Led.getO,b,aZ c,d,fT];omega
def Led.funds_of{S:Led}(h:S'.all=S.all/\S'.fund=S.fund):S'.funds=S.funds:=by unfold Led.funds;rw[h.1,h.2]
def Led.putA_held(S:Led)(a:Ac):(S.putA a).held=S.held:=by unfold Led.putA;split<;>rfl
def Led.deposit_held(S:Led)(n m:Int):(S.deposit n m).2.held=S.held:=by
 unfold Led.deposit;split
 ·split
  ·rfl
  ·split
   ·rfl
   ·exact Led.putA_held _ _
 ·rfl
def Led.withdraw_held(S:Led)(n m:Int):(S.withdraw n m).2.held=S.held:=by
 unfold Led.withdraw;split
 ·rfl
 ·split
  ·rfl
  ·split
   ·rfl
   ·exact Led.putA_held _ _
def Led.empty_zero:Led.Zero ⟨0,[],[]⟩:=λc=>⟨rfl,rfl⟩
structure sE.Ok(C:sE):Prop where
 len:C.l.length<=16
 day:pL C.day
 ok:∀k∈C.l,k.Ok
 srt:qO C.l
def Ven.ords(S:Ven)(n:Int):List Od:=(S.bk n).all++S.bd n
def Led.Stands(L:Led)(a:Int):Prop:=∃x,L.find a=some x/\x.kil=false/\x.dfl=false
structure Ven.Std(S:Ven)(o:Od):Prop where
 may:o.may=true
 fit:o.Fit
 num:o.num<S.next
 acc:S.led.Stands o.acct
structure vg(S:Ven):Prop where
 out:∀n,ex S.cal.l n≠0->S.ords n=[]
 side:∀n d,(S.bk n d).length<=100/\∀o∈S.bk n d,o.buy=d
 std:∀n,∀o∈S.ords n,S.Std o
 nd:∀n,((S.ords n).map (·.num)).Nodup
 apart:∀n m o o',o∈S.ords n->o' ∈S.ords m->o.num=o'.num->n=m
 bdl:∀n,(S.bd n).length<=50
structure Cb(C:sE)(L:Led):Prop where
 led:L.Ok
 held:∀p∈L.held,ex C.l p.c=0
 zero:L.Zero
structure Ven.Ok(S:Ven):Prop where
 cal:S.cal.Ok
 led:Cb S.cal S.led
 ord:vg S
 next:1<=S.next/\S.next<=maxNum+1
 fnd:S.led.funds<=MF
def rC{d:Bool}(h:o∈S.bk n d):o∈S.ords n:=fk _ (mem_all.2 ⟨d,h⟩)
def vk(h:o∈S.bd n):o∈S.ords n:=gg _ h
def vN(h:o∈S.ords n):(∃d,o∈S.bk n d)\/o∈S.bd n:=(dg.1 h).imp mem_all.1 id
def vg.bkMay(h:vg S)(n:Int):BkMay (S.bk n):=λd o a=>⟨(h.std n o (rC a)).may,(h.side n d).2 o a⟩
def vg.bkNd(h:vg S)(n:Int):BkNd (S.bk n):=by
 have:=h.nd n;unfold Ven.ords at this;rw[dy,jI]at this;exact this.1
def vg.bdMay(h:vg S)(n:Int):∀o∈S.bd n,o.may=true:=λo a=>(h.std n o (vk a)).may
def vg.bdNd(h:vg S)(n:Int):((S.bd n).map (·.num)).Nodup:=by
 have:=h.nd n;unfold Ven.ords at this;rw[dy,jI]at this;exact this.2.1
def I8{a d b e c c' :List Int}(f:d.Sublist a)(g:e.Sublist b)(i:c'.Sublist c)(h:(a++b++c).Nodup):(d++e++c').Nodup:=h.sublist ((f.append g).append i)
def Cv(S:Ven)(n:Int):(S.ords n).map (·.num)=(S.bk n true).map (·.num)++(S.bk n false).map (·.num)++(S.bd n).map (·.num):=by
 unfold Ven.ords Bk.all;rw[dy,dy]
def K3(h:o.key=o'.key)(a:o.Fit)(b:1<=o'.left/\o'.left<=1000000):o'.Fit:=by
 unfold Od.Fit at*;rw[<-key_num h,<-key_acct h,<-key_price h];exact⟨a.1,a.2.1,a.2.2.1,by grind⟩
def zQ{S' :Ven}(f:∀n d,SubL (S'.bk n d) (S.bk n d))(g:∀n,SubL (S'.bd n) (S.bd n)){n:Int}{o:Od}(h:o∈S'.ords n):∃a∈S.ords n,a.key=o.key/\1<=o.left/\o.left<=1000000:=by
 rcases vN h with⟨d,b⟩|b
 ·obtain⟨a,c,e⟩:=(f n d).mem b;exact⟨a,rC c,e,(f n d).left o b⟩
 ·obtain⟨a,c,e⟩:=(g n).mem b;exact⟨a,vk c,e,(g n).left o b⟩
def vg.mono{S' :Ven}(h:vg S)(s:∀n,ex S'.cal.l n≠0->ex S.cal.l n≠0\/S'.ords n=[])(f:∀n d,SubL (S'.bk n d) (S.bk n d))(i:∀n,SubL (S'.bd n) (S.bd n))
  (u:∀n o,o∈S'.ords n->S.led.Stands o.acct->S'.led.Stands o.acct)(q:S.next<=S'.next):vg S' where
 out n q:=by
  rcases s n q with e|e
  ·have c:=h.out n e;cases r:S'.ords n with
   |nil=>rfl
   |cons x l=>
    obtain⟨p,g,-⟩:=zQ (S:=S) (S' :=S') f i (n:=n) (o:=x) (by grind);rw[c]at g;cases g
  ·exact e
 side n d:=⟨dD (f n d).len (h.side n d).1,λo j=>by
  obtain⟨p,e,c⟩:=(f n d).mem j;rw[<-key_buy c];exact(h.side n d).2 p e⟩
 std n o j:=by
  obtain⟨p,e,c,g⟩:=zQ f i j;have k:=h.std n p e;exact⟨may_key c k.may g,K3 c k.fit g,by rw[<-key_num c];exact oZ k.num q,u n o j (by rw[<-key_acct c];exact k.acc)⟩
 nd n:=by
  have:=h.nd n;rw[Cv]at this|-;exact I8 (f n true).nums (f n false).nums (i n).nums this
 apart n m o o' j ho' r:=by
  obtain⟨a,e,c,-⟩:=zQ f i j;obtain⟨b,g,t,-⟩:=zQ f i ho';exact h.apart n m a b e g (by rw[key_num c,key_num t];exact r)
 bdl n:=dD (i n).len (h.bdl n)
def vg.addBk(h:vg S){n:Int}{x:Od}{B:Bk}{nx:Int}(H:ex S.cal.l n=0)(P:x.may=true)(N:x.Fit)(C:x.num<nx)(D:S.led.Stands x.acct)(r:∀m,∀o∈S.ords m,o.num≠x.num)
  (opp:SubL (B !x.buy) (S.bk n !x.buy))(own:B x.buy=S.bk n x.buy\/((B x.buy).Perm (x::S.bk n x.buy)/\(S.bk n x.buy).length<100))(G:S.next<=nx):vg {S with bk:=upd S.bk n B,next:=nx}:=by
 have q:=h.bkMay;have v:=h.bdMay
 have i:∀m,∀o∈({S with bk:=upd S.bk n B,next:=nx}:Ven).ords m,(∃s∈S.ords m,s.key=o.key/\1<=o.left/\o.left<=1000000)\/(o=x/\m=n):=by
  intro m o l;by_cases c:m=n
  ·subst c;rcases vN l with⟨d,j⟩|j
   ·replace j:o∈upd S.bk m B m d:=j;rw[upd_self]at j;by_cases t:d=x.buy
    ·subst t;rcases own with f|⟨f,-⟩
     ·rw[f]at j;exact .inl ⟨o,rC j,rfl,may_left (q m _ o j).1⟩
     ·rcases cH.1 (f.mem_iff.1 j)with rfl|g
      ·grind
      ·exact .inl ⟨o,rC g,rfl,may_left (q m _ o g).1⟩
    ·obtain rfl:d= !x.buy:=by cases d<;>cases C:x.buy<;>simp_all
     obtain⟨s,g,k⟩:=opp.mem j;exact .inl ⟨s,rC g,k,opp.left o j⟩
   ·exact .inl ⟨o,vk j,rfl,may_left (v m o j)⟩
  ·have:o∈S.ords m:=by
    have e:({S with bk:=upd S.bk n B,next:=nx}:Ven).ords m=S.ords m:=by
     show(upd S.bk n B m).all++S.bd m=_;rw[upd_ne _ _ _ c];rfl
    rwa[e]at l
   exact .inl ⟨o,this,rfl,may_left (h.std m o this).may⟩
 have p:∀d,((B d).map (·.num)).Sublist ((S.bk n d).map (·.num))\/(d=x.buy/\((B d).map (·.num)).Perm (x.num::(S.bk n d).map (·.num))):=λd=>by
  by_cases t:d=x.buy
  ·subst t;rcases own with f|⟨f,-⟩
   ·grind
   ·grind
  ·obtain rfl:d= !x.buy:=by cases d<;>cases C:x.buy<;>simp_all
   exact .inl opp.nums
 refine⟨λm u=>?_,λm d=>?_,λm o l=>?_,λm=>?_,λO I o K l w y=>?_,h.bdl⟩
 ·have c:m≠n:=λe=>by subst e;exact u H
  show(upd S.bk n B m).all++S.bd m=[]
  rw[upd_ne _ _ _ c];exact h.out m u
 ·show(upd S.bk n B m d).length<=100/\∀o∈upd S.bk n B m d,_;by_cases c:m=n
  ·subst c;rw[upd_self];by_cases t:d=x.buy
   ·subst t;rcases own with f|⟨f,g⟩
    ·rw[f];exact h.side m _
    ·refine⟨by have:=f.length_eq;rw[dc]at this;omega,λo l=>?_⟩;rcases cH.1 (f.mem_iff.1 l)with rfl|k
     ·rfl
     ·exact(h.side m _).2 o k
   ·obtain rfl:d= !x.buy:=by cases d<;>cases C:x.buy<;>simp_all
    refine⟨dD opp.len (h.side m _).1,λo l=>?_⟩;obtain⟨s,g,k⟩:=opp.mem l;rw[<-key_buy k];exact(h.side m _).2 s g
  ·rw[upd_ne _ _ _ c];exact h.side m d
 ·rcases i m o l with⟨s,f,g,k⟩|⟨rfl,rfl⟩
  ·have A:=h.std m s f;exact⟨may_key g A.may k,K3 g A.fit k,by rw[<-key_num g];exact oZ A.num G,by rw[<-key_acct g];exact A.acc⟩
  ·exact⟨P,N,C,D⟩
 ·by_cases c:m=n
  ·subst c;rw[Cv];show(List.map _ (upd S.bk m B m true)++List.map _ (upd S.bk m B m false)++List.map _ (S.bd m)).Nodup;rw[upd_self];have J:=h.nd m
   have z:x.num ∉ (S.ords m).map (·.num):=λQ=>by
    obtain⟨o,l,y⟩:=cF.1 Q;exact r m o l y
   rw[Cv]at J z;have j:(x.num::((S.bk m true).map (·.num)++(S.bk m false).map (·.num)++(S.bd m).map (·.num))).Nodup:=dA.2 ⟨z,J⟩;rcases p true with M|⟨R,M⟩
   ·rcases p false with F|⟨L,F⟩
    ·grind
    ·grind
   ·rcases p false with F|⟨L,F⟩
    ·grind
    ·grind
  ·show(((upd S.bk n B m).all++S.bd m).map (·.num)).Nodup;rw[upd_ne _ _ _ c];exact h.nd m
 ·rcases i O o l with⟨a,f,g,-⟩|⟨rfl,rfl⟩
  ·rcases i I K w with⟨b,k,E,-⟩|⟨rfl,rfl⟩
   ·exact h.apart _ _ a b f k (by rw[key_num g,key_num E];exact y)
   ·exact absurd ((key_num g).trans y) (r _ a f)
  ·rcases i I K w with⟨b,k,E,-⟩|⟨rfl,rfl⟩
   ·exact absurd ((key_num E).trans y.symm) (r _ b k)
   ·rfl
def vg.addBd(h:vg S){n:Int}{x:Od}{nx:Int}(u:ex S.cal.l n=0)(C:x.may=true)(z:x.Fit)(B:x.num<nx)(r:S.led.Stands x.acct)(q:∀m,∀o∈S.ords m,o.num≠x.num)
  (F:(S.bd n).length<50)(s:S.next<=nx):vg {S with bd:=upd S.bd n (S.bd n++[x]),next:=nx}:=by
 have f:∀m,∀o∈({S with bd:=upd S.bd n (S.bd n++[x]),next:=nx}:Ven).ords m,o∈S.ords m\/(o=x/\m=n):=by
  intro m o g;by_cases c:m=n
  ·subst c;rcases vN g with⟨d,j⟩|j
   ·exact .inl (rC j)
   ·replace j:o∈upd S.bd m (S.bd m++[x]) m:=j;rw[upd_self]at j;rcases dg.1 j with i|i
    ·exact .inl (vk i)
    ·grind
  ·left
   have e:({S with bd:=upd S.bd n (S.bd n++[x]),next:=nx}:Ven).ords m=S.ords m:=by
    show(S.bk m).all++upd S.bd n _ m=_;rw[upd_ne _ _ _ c];rfl
   rwa[e]at g
 refine⟨λm k=>?_,h.side,λm o g=>?_,λm=>?_,λA v o t g l D=>?_,λm=>?_⟩
 ·have c:m≠n:=λe=>by subst e;exact k u
  show(S.bk m).all++upd S.bd n _ m=[]
  rw[upd_ne _ _ _ c];exact h.out m k
 ·rcases f m o g with i|⟨rfl,rfl⟩
  ·have p:=h.std m o i;exact⟨p.may,p.fit,oZ p.num s,p.acc⟩
  ·exact⟨C,z,B,r⟩
 ·by_cases c:m=n
  ·subst c;show(((S.bk m).all++upd S.bd m _ m).map (·.num)).Nodup;rw[upd_self,<-df,dy,jI];refine⟨h.nd m,by simp,λa E b w=>?_⟩;obtain⟨o,g,rfl⟩:=cF.1 E;rw[cM,List.map_nil,eK]at w;rw[w];exact q m o g
  ·show(((S.bk m).all++upd S.bd n _ m).map (·.num)).Nodup;rw[upd_ne _ _ _ c];exact h.nd m
 ·rcases f A o g with i|⟨rfl,rfl⟩
  ·rcases f v t l with y|⟨rfl,rfl⟩
   ·exact h.apart _ _ o t i y D
   ·grind
  ·rcases f v t l with y|⟨rfl,rfl⟩
   ·grind
   ·rfl
 ·show(upd S.bd n _ m).length<=50;by_cases c:m=n
  ·subst c;rw[upd_self,cD];show(S.bd m).length+1<=50;omega
  ·rw[upd_ne _ _ _ c];exact h.bdl m
def JC(b:a≠0)(o:Od):pA a o=ofA a o:=by unfold pA ofA;rw[ej b,jz]
def BZ(a:Int)(ns:List Int)(n:Int)(o:Od):Bool:= !(ns.contains n&& ofA a o)
def CL{a:Int}(h:a≠0):∀(c:List Int) (S:Ven) (g:List Int),(∀n,BkNd (S.bk n))->
  (c.foldl (clr1 a) (g,S)).2={S with bk:=λn=>(S.bk n).flt (BZ a c n),bd:=λn=>(S.bd n).filter (BZ a c n)}
 | [],S,g,_=>by
  have p:(λn=>(S.bk n).flt (BZ a [] n))=S.bk:=by
   funext n d;unfold Bk.flt;exact fi.2 λo _=>rfl
  have l:(λn=>(S.bd n).filter (BZ a [] n))=S.bd:=by
   funext n;exact fi.2 λo _=>rfl
  rw[p,l];rfl
 |m::c,S,g,f=>by
  rw[ig];obtain⟨k,e⟩:=dW ((clr1 a (g,S) m).1)
  have i:clr1 a (g,S) m=(k,{S with bk:=upd S.bk m ((S.bk m).flt λo=> !ofA a o),bd:=upd S.bd m ((S.bd m).filter λo=> !ofA a o)}):=by
   rw[e];unfold clr1;simp only;rw[mass_flt (f m)];congr 3;funext d;unfold Bk.flt;exact gF λo _=>by rw[JC h]
  rw[i,CL h c]
  ·congr 1
   ·funext n d;show List.filter _ (upd S.bk m _ n d)=List.filter _ (S.bk n d);by_cases b:n=m
    ·subst b;rw[upd_self];unfold Bk.flt;rw[lF];refine gF λo _=>?_;unfold BZ;cases j:ofA a o<;>simp
    ·rw[upd_ne _ _ _ b];refine gF λo _=>?_;unfold BZ;rw[pf];have:(n==m)=false:=by simpa using b
     rw[this,jz]
   ·funext n;show List.filter _ (upd S.bd m _ n)=List.filter _ (S.bd n);by_cases b:n=m
    ·subst b;rw[upd_self,lF];refine gF λo _=>?_;unfold BZ;cases j:ofA a o<;>simp
    ·rw[upd_ne _ _ _ b];refine gF λo _=>?_;unfold BZ;rw[pf];have:(n==m)=false:=by simpa using b
     rw[this,jz]
  ·intro n;show BkNd (upd S.bk m _ n);by_cases b:n=m
   ·subst b;rw[upd_self];exact(f n).flt _
   ·rw[upd_ne _ _ _ b];exact f n
def C8(h:vg S){a k:Int}(b:a≠0):(S.clear a k).2={S with bk:=λn=>(S.bk n).flt (BZ a (S.nums.filter λn=>decide (k=0\/k=n)) n),bd:=λn=>(S.bd n).filter (BZ a (S.nums.filter λn=>decide (k=0\/k=n)) n)}:=
 CL b _ _ _ h.bkNd
def wH(h:vg S){a k:Int}(b:a≠0):(S.clear a k).2.cal=S.cal/\(S.clear a k).2.led=S.led/\(S.clear a k).2.next=S.next:=by
 rw[C8 h b];exact⟨rfl,rfl,rfl⟩
def AT(h:vg S){a k:Int}(c:a≠0):vg (S.clear a k).2:=by
 rw[C8 h c];exact h.mono (λn f=>.inl f) (λn d=>SubL.filter (λo b=>(h.bkMay n d o b).1) _) (λn=>SubL.filter (h.bdMay n) _) (λn o b e=>e) (io _)
def zn(h:ex S.cal.l n=0):n∈S.nums:=by
 unfold ex at h;unfold Ven.nums;cases a:eR S.cal.l n with
 |none=>rw[a]at h;cases h
 |some k=>
  have b:=jw a;exact cF.2 ⟨k,ry a,by simpa using b⟩
def vg.alive(h:vg S){n:Int}{o:Od}(a:o∈S.ords n):ex S.cal.l n=0:=by
 apply dU;intro b;rw[h.out n b]at a;cases a
def CY(h:vg S){a:Int}(f:a≠0){n:Int}{o:Od}(c:o∈(S.clear a 0).2.ords n):o.acct≠a/\o∈S.ords n:=by
 have g:ex S.cal.l n=0:=by
  have:=(AT h (k:=0) f).alive c
  rwa[(wH h f).1]at this
 rw[C8 h f]at c
 have j:(S.nums.filter λm=>decide ((0:Int)=0\/0=m)).contains n=true:=by
  rw[List.contains_eq_mem,dN,cO];exact⟨zn g,by simp⟩
 have key:∀{l:List Od},o∈l.filter (BZ a (S.nums.filter λm=>decide ((0:Int)=0\/0=m)) n)->o∈l/\o.acct≠a:=λ{l} b=>by
  rw[cO]at b;refine⟨b.1,λe=>?_⟩;have:=b.2;unfold BZ ofA at this;rw[j,db e]at this;cases this
 rcases vN c with⟨d,i⟩|i
 ·have:=key (l:=S.bk n d) i;exact⟨this.2,rC this.1⟩
 ·have:=key (l:=S.bd n) i;exact⟨this.2,vk this.1⟩
def uN{l:List Ac}(h:SortA l){a:Ac}(b:a∈l):l.find? (λx=>decide (x.num=a.num))=some a:=by
 induction l with
 |nil=>cases b
 |cons x l d=>
  obtain⟨e,c⟩:=fO.1 h;rcases cH.1 b with rfl|b
  ·grind
  ·have:=e a b;rw[lE (by simp;omega)];exact d c b
def MJ{l:List Ac}(h:SortA l)(a:Ac)(n:Int):(insA l a).find? (λx=>decide (x.num=n))=if n=a.num then some a else l.find? λx=>decide (x.num=n):=by
 by_cases d:n=a.num
 ·subst d;rw[bZ rfl];exact uN (insA_sort h a) (mem_insA.2 (.inr rfl))
 ·rw[aZ d];cases b:l.find? λx=>decide (x.num=n)with
  |some x=>
   have c:=fl b;have e:x.num=n:=by grind
   have:=uN (insA_sort h a) (mem_insA.2 (.inl ⟨c,qZ⟩));rw[e]at this;exact this
  |none=>
   rw[fW]at b|-;intro x c;rcases mem_insA.1 c with⟨f,-⟩|rfl
   ·exact b x f
   ·simp;omega
def Led.find_putA{S:Led}(h:SortA S.all){a:Ac}(b:a.num≠0)(n:Int):(S.putA a).find n=if n=a.num then some a else S.find n:=by
 unfold Led.putA Led.find;rw[aZ b];exact MJ h a n
def Led.find_putA0{S:Led}{a:Ac}(b:a.num=0)(n:Int):(S.putA a).find n=S.find n:=by
 unfold Led.putA Led.find;rw[bZ b]
def Led.find_ok{S:Led}(h:S.Ok){n:Int}{a:Ac}(c:S.find n=some a):a∈S.all/\a.num=n/\n≠0:=by
 obtain⟨b,d⟩:=Led.find_mem c;have:=(h.acc a b).1;exact⟨b,d,qZ⟩
def jV{S:Led}(h:n≠0):S.getO n=S.find n:=by unfold Led.getO;rw[aZ h]
def Led.mem_find{S:Led}(h:S.Ok){a:Ac}(b:a∈S.all):S.find a.num=some a:=uN h.sa b
def Led.trade_Ok{S:Led}(h:S.Ok){c b s p n:Int}(j:pL c):(S.trade c b s p n).2.Ok:=by
 unfold Led.trade;split
 ·exact h
 ·rename_i i
  split
  ·exact h
  ·rename_i d
   simp only;split
   ·exact h
   ·rename_i r
    obtain⟨G,A,w,z,y,B⟩:=h.position c b;obtain⟨D,I,E,H,F,C⟩:=h.position c s;simp only[mO]at i d r;obtain⟨l,q,m,k,hp,u⟩:=i;have g:amongB p 1 MP=true:=by simpa using hp
    have e:amongB n 1 MP=true:=by simpa using u
    rw[amongB_iff]at g e;have v:0<=p*n:=lU qZ qZ
    have fnd:∀x,S.find x≠none->∃a∈S.all,a.num=x:=λx t=>by
     cases f:S.find x with
     |none=>exact absurd f t
     |some a=>exact⟨a,(Led.find_mem f).1,(Led.find_mem f).2⟩
    have o:=h.putP (p:=⟨c,b,(S.position c b).q+n,(S.position c b).b+p*n⟩) ⟨by show 0<c;omega,j.2⟩ ⟨by grind,by grind⟩ ⟨by grind,by grind⟩ (fnd b d.1);exact o.putP (p:=⟨c,s,(S.position c s).q - n,(S.position c s).b - p*n⟩) ⟨by show 0<c;omega,j.2⟩ ⟨by grind,by grind⟩ ⟨by grind,by grind⟩ (fnd s d.2)
def Led.set_cases(S:Led)(a:Ac):(S.set a).2=S/\(S.set a).1≠0\/((S.set a)=(0,S.putA a)/\0<=a.cash/\a.cash<=MF/\S.getO a.num≠none/\(a.num=0->a.kil=false/\a.dfl=false)):=by
 unfold Led.set;split
 ·grind
 ·rename_i b
  split
  ·grind
  ·rename_i d
   simp only[mO,not_and]at b;have c:amongB a.cash 0 MF=true:=by simpa using b.1
   rw[amongB_iff]at c;refine .inr ⟨rfl,c.1,c.2,d,λe=>?_⟩;have:=b.2 e;exact⟨by simpa using this.1,by simpa using this.2⟩
def Led.set_Ok{S:Led}(h:S.Ok){a:Ac}(g:pL a.num):(S.set a).2.Ok:=by
 rcases Led.set_cases S a with⟨b,-⟩|⟨b,e,f,c,i⟩
 ·rw[b];exact h
 ·rw[b];apply h.putA g ⟨e,f⟩;by_cases d:a.num=0
  ·exact .inr (.inr d)
  ·rw[jV d]at c;exact .inl c
def Led.deposit_cases{S:Led}{m:Int}:(S.deposit n m).2=S/\(S.deposit n m).1≠0\/∃a:Ac,S.deposit n m=(0,S.putA a)/\a.num=n/\a={(S.getO n).getD ⟨0,0,false,false⟩with num:=n,cash:=((S.getO n).getD ⟨0,0,false,false⟩).cash+m}/\1<=m/\m<=MF/\S.funds+m<=MF/\¬(S.getO n=none/\64<=S.all.length):=by
 unfold Led.deposit;split
 ·rename_i b
  rw[amongB_iff]at b;split
  ·grind
  ·rename_i c
   split
   ·grind
   ·grind
 ·grind
def Led.deposit_Ok{S:Led}(h:S.Ok){n m:Int}(j:pL n):(S.deposit n m).2.Ok:=by
 rcases Led.deposit_cases (S:=S) (n:=n) (m:=m)with⟨e,-⟩|⟨a,e,f,d,k,l,r,i⟩
 ·rw[e];exact h
 ·rw[e]
  have b:0<=a.cash/\a.cash<=MF:=by
   cases c:S.getO n with
   |none=>
    rw[c]at d;rw[d];show 0<=0+m/\0+m<=MF;omega
   |some x=>
    have o:=h.cash_le c;have p:=(h.getO c).2.2.2.1;rw[c]at d;rw[d];show 0<=x.cash+m/\x.cash+m<=MF;omega
  apply h.putA (by rw[f];exact j) b;by_cases g:n=0
  ·grind
  ·rw[jV g]at i;by_cases q:S.find n=none
   ·grind
   ·grind
def Led.withdraw_cases{S:Led}{m:Int}:(S.withdraw n m).2=S/\(S.withdraw n m).1≠0\/∃a,S.find n=some a/\S.withdraw n m=(0,S.putA {a with cash:=a.cash - m})/\n≠0/\1<=m/\m<=a.cash:=by
 unfold Led.withdraw;split
 ·grind
 ·rename_i b
  simp only[mO]at b;have c:amongB m 1 MF=true:=by simpa using b.2
  rw[amongB_iff]at c;cases d:S.find n with
  |none=>exact .inl ⟨rfl,by simp⟩
  |some a=>
   simp only;split
   ·grind
   ·grind
def Led.withdraw_Ok{S:Led}(h:S.Ok){n m:Int}:(S.withdraw n m).2.Ok:=by
 rcases Led.withdraw_cases (S:=S) (n:=n) (m:=m)with⟨b,-⟩|⟨a,b,d,i,f,g⟩
 ·rw[b];exact h
 ·rw[d];obtain⟨c,e,-⟩:=Led.find_ok h b;have:=h.acc a c;refine h.putA ⟨by grind,this.2.1⟩ ⟨by grind,by grind⟩ (.inl ?_);show S.find a.num≠none;rw[e,b];simp
def Led.mark_Ok{S:Led}(h:S.Ok){c price:Int}{cl:Bool}:(S.mark c price cl).2.2.Ok:=by
 unfold Led.mark;split
 ·exact h
 ·rename_i a
  simp only[mO]at a;have hp:amongB price 1 MP=true:=by simpa using a.2
  rw[amongB_iff]at hp;exact Nv h hp cl _ _ (λp hp=>(cO.1 hp).1) h rfl
def Led.mark_all{S:Led}:(S.mark c price cl).2.2.all=S.all/\(S.mark c price cl).2.2.fund=S.fund:=by
 unfold Led.mark;split
 ·exact⟨rfl,rfl⟩
 ·exact Cs
def sQ{S:Led}(h:S'.all=S.all)(n:Int):S'.Stands n↔S.Stands n:=by
 unfold Led.Stands Led.find;rw[h]
def yN{S:Led}(h:S.Ok){a:Ac}{n:Int}(d:S.Stands n)(i:a.num=n->a.kil=false/\a.dfl=false):(S.set a).2.Stands n:=by
 rcases Led.set_cases S a with⟨b,-⟩|⟨b,j,m,k,l⟩
 ·rw[b];exact d
 ·rw[b];obtain⟨x,g,f,e⟩:=d;by_cases c:a.num=0
  ·exact⟨x,by rw[Led.find_putA0 c];exact g,f,e⟩
  ·unfold Led.Stands;rw[Led.find_putA h.sa c];by_cases o:n=a.num
   ·grind
   ·grind
def BJ{S:Led}(h:S.Ok){a:Ac}{n:Int}(e:S.Stands n)(g:a.num=n->∃x,S.find n=some x/\a.kil=x.kil/\a.dfl=x.dfl):(S.putA a).Stands n:=by
 obtain⟨x,f,d,c⟩:=e;by_cases b:a.num=0
 ·exact⟨x,by rw[Led.find_putA0 b];exact f,d,c⟩
 ·unfold Led.Stands;rw[Led.find_putA h.sa b];by_cases i:n=a.num
  ·grind
  ·grind
def CP{S:Led}(h:S.Ok){n m k:Int}(e:S.Stands k):(S.deposit n m).2.Stands k:=by
 rcases Led.deposit_cases (S:=S) (n:=n) (m:=m)with⟨c,-⟩|⟨a,c,i,d,o,q,r,p⟩
 ·rw[c];exact e
 ·rw[c];refine BJ h e λl=>?_;obtain⟨x,g,-,-⟩:=e;have b:=(Led.find_ok h g).2.2;have f:n=k:=i.symm.trans l;have j:S.getO n=some x:=by rw[f,jV b,g]
  rw[j]at d;exact⟨x,g,by rw[d];rfl,by rw[d];rfl⟩
def B6{S:Led}(h:S.Ok){n m k:Int}(c:S.Stands k):(S.withdraw n m).2.Stands k:=by
 rcases Led.withdraw_cases (S:=S) (n:=n) (m:=m)with⟨b,-⟩|⟨a,b,e,j,g,i⟩
 ·rw[b];exact c
 ·rw[e];have f:=(Led.find_ok h b).2.1;refine BJ h c λd=>⟨a,?_,rfl,rfl⟩
  have:n=k:=f.symm.trans d;rw[<-this];exact b
def Ho{S:Led}{p:Po}(h:x∈(S.putP p).held):x∈S.held\/x=p:=by
 unfold Led.putP at h;exact(mem_insP.1 h).imp (·.1) (·.1)
def yF{S:Led}(h:x∈(S.trade c b s p n).2.held):x∈S.held\/(x.c=c/\(S.trade c b s p n).1=0):=by
 unfold Led.trade at h|-;split
 ·grind
 ·rename_i e
  rw[aZ e]at h;split
  ·grind
  ·rename_i a
   rw[aZ a]at h;simp only at h|-;split
   ·grind
   ·rename_i g
    rw[aZ g]at h;rcases Ho h with d|rfl
    ·rcases Ho d with f|rfl
     ·exact .inl f
     ·grind
    ·grind
def Bo{price:Int}{cl:Bool}:∀{l:List Po} {S:Led} {x:Po},x∈(S.marked l price cl).held->(x∈S.held/\∀p∈l,x.key≠p.key\/x.isZ=false)\/∃p∈l,x=p.mark price cl/\x.isZ=false
 | [],S,x,h=>.inl ⟨h,by simp⟩
 |p::l,S,x,h=>by
  have e:S.marked (p::l) price cl=(S.putP (p.mark price cl)).marked l price cl:=rfl;rw[e]at h;rcases Bo h with⟨d,c⟩|⟨q,a,c⟩
  ·unfold Led.putP at d;rcases mem_insP.1 d with⟨f,b⟩|⟨f,b⟩
   ·refine .inl ⟨f,λq a=>?_⟩;rcases cH.1 a with rfl|a
    ·rw[OV]at b;exact .inl b
    ·exact c q a
   ·grind
  ·grind
def rI{S:Led}(h:x∈(S.mark c price cl).2.2.held):∃p∈S.held,p.c=x.c:=by
 unfold Led.mark at h;split at h
 ·exact⟨x,h,rfl⟩
 ·rcases Bo h with⟨a,-⟩|⟨p,hp,a,-⟩
  ·exact⟨x,a,rfl⟩
  ·exact⟨p,(cO.1 hp).1,by rw[a];exact(mark_c p price cl).1.symm⟩
def yW{S:Led}(a:S.Ok)(h:S.Zero)(c b s p n:Int):(S.trade c b s p n).2.Zero:=by
 intro k;have:=Led.trade_sum a (c:=c) (b:=b) (s:=s) (p:=p) (n:=n) k;rw[this.1,this.2];exact h k
def sX{S:Led}(a:S.Ok)(h:S.Zero)(c price:Int)(cl:Bool):(S.mark c price cl).2.2.Zero:=by
 unfold Led.mark;split
 ·exact h
 ·exact h.mark a c price cl
def rZ(S:Led)(a:Ac):(S.set a).2.held=S.held:=by
 rcases Led.set_cases S a with⟨b,-⟩|⟨b,-⟩
 ·rw[b]
 ·rw[b];exact Led.putA_held _ _
def vS{S:Led}(h:S'.held=S.held)(a:S.Zero):S'.Zero:=λc=>by rw[h];exact a c
def upd_upd{α:Type}(f:Int->α)(n:Int)(x y:α):upd (upd f n x) n y=upd f n y:=by
 funext m;unfold upd;split<;>rfl
def Ven.Ok.setLed(h:S.Ok){L:Led}(f:L.Ok)(i:L.Zero)(e:∀n o,o∈S.ords n->S.led.Stands o.acct->L.Stands o.acct)(c:∀p∈L.held,ex S.cal.l p.c=0)(b:L.funds<=MF):({S with led:=L}:Ven).Ok:=
 ⟨h.cal,⟨f,c,i⟩,h.ord.mono (λn g=>.inl g) (λn d=>SubL.refl λo a=>(h.ord.bkMay n d o a).1) (λn=>SubL.refl (h.ord.bdMay n)) (λn o a=>e n o a) (io _),h.next,b⟩
def EX{n:Int}{o:Od}(f:pL n):∀(l:List Td) {L:Led},L.Ok->L.Zero->(tradeL n o l L).2.Ok/\(tradeL n o l L).2.Zero/\((tradeL n o l L).2.all=L.all/\(tradeL n o l L).2.fund=L.fund)/\∀p∈(tradeL n o l L).2.held,p∈L.held\/p.c=n
 | [],L,b,c=>⟨b,c,⟨rfl,rfl⟩,λp hp=>.inl hp⟩
 |t::l,L,b,c=>by
  unfold tradeL;simp only;obtain⟨X,a⟩:=dW (L.trade n (if o.buy=true then o.acct else t.acct) (if o.buy=true then t.acct else o.acct) t.price t.qty);have j:X.2.Ok:=by rw[a];exact Led.trade_Ok b f
  have g:X.2.Zero:=by rw[a];exact yW b c _ _ _ _ _
  have e:X.2.all=L.all/\X.2.fund=L.fund:=by rw[a];exact Led.trade_all
  have i:∀p∈X.2.held,p∈L.held\/p.c=n:=by rw[a];exact λp hp=>(yF hp).imp id (·.1)
  rw[<-a];split
  ·grind
  ·obtain⟨m,h,d,k⟩:=EX f l j g;exact⟨m,h,⟨d.1.trans e.1,d.2.trans e.2⟩,λp hp=>(k p hp).elim (i p) .inr⟩
def qg(S:Ven)(n:Int)(o:Od)(p:Pm):(S.traded n o p).2.2={S with led:=(tradeL n o p.trades S.led).2}:=by
 unfold Ven.traded;simp only;split<;>rfl
def traded_ok(h:S.Ok){n:Int}(j:pL n)(a:ex S.cal.l n=0)(o:Od)(p:Pm):(S.traded n o p).2.2.Ok:=by
 rw[qg];obtain⟨g,e,c,f⟩:=EX j (o:=o) p.trades h.led.led h.led.zero;refine h.setLed g e (λn o _ i=>(sQ c.1 _).2 i) (λq d=>?_) (by rw[Led.funds_of c];exact h.fnd);rcases f q d with b|b
 ·exact h.led.held q b
 ·rw[b];exact a
def alive_get{l:List Ct}(h:ex l n=0):∃k,eR l n=some k/\k.st≠3/\k.spec.num=n/\k∈l:=by
 unfold ex at h;cases a:eR l n with
 |none=>rw[a]at h;cases h
 |some k=>
  rw[a]at h;refine⟨k,rfl,λb=>?_,by simpa using jw a,ry a⟩;simp only at h;rw[bZ b]at h;cases h
def MX{l:List Ct}{k:Ct}(h:eR l n=some k)(a:k.st≠3):ex l n=0:=by
 unfold ex;rw[h];exact aZ a
def Nc{s:Sp}{q:Int}(h:s.isQty q=true):1<=q/\q<=1000000:=by
 unfold Sp.isQty at h;simp only[cL]at h;exact amongB_iff.1 h.2.1
structure Kj(S:Ven)(a n:Int)(buy:Bool)(price qty:Int)(w:Od):Prop where
 stands:S.led.Stands a
 alive:ex S.cal.l n=0
 opn:∃k,eR S.cal.l n=some k/\k.st=1/\k.spec.isPrice price=true/\(Gt.mk k (S.acc a) (S.led.position n a).q ((S.opn n a).1 - (if w.buy then w.left else 0)) ((S.opn n a).2 - (if w.buy then 0 else w.left)) buy price qty).far=false
 price:1<=price/\price<=10000000
 qty:1<=qty/\qty<=1000000
def pass_ok{buy:Bool}{qty:Int}{w:Od}(r:a≠0)(h:S.pass a n buy price qty w=0):Kj S a n buy price qty w:=by
 unfold Ven.pass at h;by_cases o:S.led.getO a=none
 ·grind
 rw[aZ o]at h;by_cases e:(iU S.cal.l n).2≠0
 ·grind
 rw[aZ e]at h;unfold iU at h e;cases f:eR S.cal.l n with
 |none=>rw[f]at e;exact absurd (by simp) e
 |some k=>
  rw[f]at h;simp only at h;obtain⟨g,b⟩:=dW (Gt.mk k (S.acc a) (S.led.position n a).q ((S.opn n a).1 - (if w.buy then w.left else 0)) ((S.opn n a).2 - (if w.buy then 0 else w.left)) buy price qty);rw[<-b]at h;have u:g.k=k:=by rw[b]
  have s:g.a=S.acc a:=by rw[b]
  have v:g.price=price:=by rw[b]
  have y:g.qty=qty:=by rw[b]
  unfold Gt.check at h;by_cases j:g.a.dfl=true
  ·grind
  rw[aZ j]at h;by_cases l:g.a.kil=true
  ·grind
  rw[aZ l]at h;by_cases q:g.k.st=3
  ·grind
  rw[aZ q]at h;by_cases z:g.k.st=2
  ·grind
  rw[aZ z]at h;split at h
  ·cases h
  rename_i t
  by_cases m:¬g.k.spec.isQty g.qty=true
  ·grind
  rw[aZ m]at h;by_cases i:¬g.k.spec.isPrice g.price=true
  ·grind
  rw[aZ i]at h;split at h
  ·cases h
  by_cases B:g.far=true
  ·grind
  have d:g.k.st=1:=by
   apply dU;intro A;exact t (.inl A)
  rw[u]at q d m i;rw[v]at i;rw[y]at m;rw[s]at j l;have c:k.spec.isPrice price=true:=by simpa using i
  refine⟨?_,MX f q,⟨k,f,d,c,by grind⟩,tS c,Nc (by simpa using m)⟩;rw[jV r]at o;cases p:S.led.find a with
  |none=>exact absurd p o
  |some x=>
   have:S.acc a=x:=by unfold Ven.acc;rw[jV r,p];rfl
   rw[this]at j l;exact⟨x,p,by simpa using l,by simpa using j⟩
def order_ok{c:Cm}(b:c.acct≠0)(h:(S.order c).1=0):Kj S c.acct c.ct c.buy c.price c.qty pC/\S.next<=maxNum/\S.order c=(0,c.od S.next,{S with next:=S.next+1}):=by
 unfold Ven.order at h|-;simp only at h|-;by_cases a:S.pass c.acct c.ct c.buy c.price c.qty pC≠0
 ·grind
 rw[aZ a]at h|-;by_cases d:maxNum<S.next
 ·grind
 rw[aZ d];exact⟨pass_ok b (by simpa using a),qZ,rfl⟩
def od_may{c:Cm}(b:c.acct≠0)(d:n≠0)(hp:1<=c.price/\c.price<=10000000)(a:1<=c.qty/\c.qty<=1000000):(c.od n).may=true:=by
 unfold Od.may Cm.od MP;simp only[cL,dN,amongB_iff];exact⟨⟨⟨d,b⟩,hp⟩,a⟩
def od_fit{c:Cm}(e:c.Fit){n:Int}(f:P6 n):(c.od n).Fit:=by
 obtain⟨i,d,l,h,k,g,j,b,a⟩:=e;exact⟨f,d,b,a⟩
def fresh_next(h:vg S):∀m,∀o∈S.ords m,o.num≠S.next:=λm o a b=>by
 have:=(h.std m o a).num;omega
def PM(h:o.Fit){x:Int}(a:0<=x/\x<=1000000):({o with left:=x}:Od).Fit:=⟨h.1,h.2.1,h.2.2.1,by grind⟩
def come_addBk(h:vg S){n:Int}{o:Od}{rests:Bool}{nx:Int}(d:ex S.cal.l n=0)(e:o.may=true)(i:o.Fit)(j:o.num<nx)(b:S.led.Stands o.acct)(a:∀m,∀y∈S.ords m,y.num≠o.num)(c:S.next<=nx):
  vg {S with bk:=upd S.bk n (ko (S.bk n) o rests).1,next:=nx}:=by
 have f:=Gg (B:=S.bk n) (o:=o) (rests:=rests) (h.bkMay n) e;have r:=may_left e;rcases f.own with g|⟨g,k,l,q⟩
 ·exact h.addBk d e i j b a f.opp (.inl g) c
 ·have p:=f.fill;refine h.addBk (x:={o with left:=(ko (S.bk n) o rests).2.left}) d (may_key (o:=o) rfl e ⟨g,?_⟩) (PM i ?_) j b a f.opp (.inr ⟨?_,l⟩) c
  ·grind
  ·omega
  ·show List.Perm ((ko (S.bk n) o rests).1 o.buy) _;rw[k];exact wx _ _ _
def place_0{k:Int}(h:(gD B o k).1=0):gD B o k=(0,ko B o (decide (k=1\/k=4)))/\o.may=true/\1<=k/\k<=4:=by
 unfold gD at h|-;split at h
 ·cases h
 ·rename_i c
  rw[aZ c];split at h
  ·cases h
  ·rename_i a
   rw[aZ a];split at h
   ·cases h
   ·rename_i d
    rw[aZ d];split at h
    ·cases h
    ·rename_i b
     rw[aZ b];split at h
     ·cases h
     ·grind
def alive_u32(h:S.cal.Ok){n:Int}(a:ex S.cal.l n=0):pL n:=by
 obtain⟨k,e,d,c,b⟩:=alive_get a;have:=(h.ok k b).1.1.1;rw[c]at this;exact this
def place_ok(h:S.Ok){c:Cm}(l:c.Fit)(d:c.acct≠0)(a:(S.place c).1=0):(S.place c).2.2.Ok:=by
 unfold Ven.place at a|-;simp only at a|-;by_cases f:(S.order c).1≠0
 ·grind
 rw[aZ f]at a|-;obtain⟨hp,m,g⟩:=order_ok d (by simpa using f);rw[g]at a|-;simp only at a|-;by_cases b:(gD (S.bk c.ct) (c.od S.next) c.ty).1≠0
 ·grind
 rw[aZ b]at a|-;obtain⟨e,-⟩:=place_0 (by simpa using b:(gD (S.bk c.ct) (c.od S.next) c.ty).1=0);have i:=h.next
 have k:=come_addBk h.ord (n:=c.ct) (o:=c.od S.next) (rests:=decide (c.ty=1\/c.ty=4)) (nx:=S.next+1) hp.alive (od_may d qZ hp.price hp.qty) (od_fit l ⟨qZ,by unfold maxNum at m;omega⟩)
  (by show S.next<_;omega) hp.stands (fresh_next h.ord) qZ
 have j:({S with bk:=upd S.bk c.ct (ko (S.bk c.ct) (c.od S.next) (decide (c.ty=1\/c.ty=4))).1,next:=S.next+1}:Ven).Ok:=⟨h.cal,h.led,k,⟨by grind,by grind⟩,h.fnd⟩
 rw[e]at a|-;exact traded_ok j (alive_u32 h.cal hp.alive) hp.alive _ _
def bid_ok(h:S.Ok){c:Cm}(j:c.Fit)(b:c.acct≠0)(a:(S.bid c).1=0):(S.bid c).2.2.Ok:=by
 unfold Ven.bid at a|-;simp only at a|-;by_cases d:(S.order c).1≠0
 ·grind
 rw[aZ d]at a|-;obtain⟨hp,k,e⟩:=order_ok b (by simpa using d);rw[e]at a|-;simp only at a|-;have f:=h.next;by_cases g:50<=(S.bd c.ct).length
 ·grind
 rw[aZ g]
 have i:=h.ord.addBd (n:=c.ct) (x:=c.od S.next) (nx:=S.next+1) hp.alive (od_may b qZ hp.price hp.qty) (od_fit j ⟨qZ,by unfold maxNum at k;omega⟩)
  (by show S.next<_;omega) hp.stands (fresh_next h.ord) qZ qZ
 exact⟨h.cal,h.led,i,⟨by grind,by grind⟩,h.fnd⟩
def find_spec{num:Int}(h:S.find a num=some (o,n)):n∈S.nums/\o.acct=a/\o.num=num/\∃d,o∈S.bk n d/\(S.bk n).find num=some (o,d):=by
 unfold Ven.find at h;obtain⟨m,e,b⟩:=List.exists_of_findSome?_eq_some h;unfold findIn at b;cases c:(S.bk m).find num with
 |none=>rw[c]at b;cases b
 |some x=>
  obtain⟨y,d⟩:=x;rw[c]at b;simp only at b;split at b
  ·rename_i f
   cases b;have:=find_mem c;exact⟨e,f,this.2,d,this.1,c⟩
  ·cases b
def YP(h:vg S){n:Int}{B:Bk}(c:∀d,SubL (B d) (S.bk n d)):vg {S with bk:=upd S.bk n B}:=by
 refine h.mono (λn f=>.inl f) (λm d=>?_) (λm=>SubL.refl (h.bdMay m)) (λ_ _ _ e=>e) (io _);show SubL (upd S.bk n B m d) _;by_cases a:m=n
 ·subst a;rw[upd_self];exact c d
 ·rw[upd_ne _ _ _ a];exact SubL.refl λo b=>(h.bkMay m d o b).1
def Yn(h:vg S){n:Int}{B:List Od}(c:SubL B (S.bd n)):vg {S with bd:=upd S.bd n B}:=by
 refine h.mono (λn f=>.inl f) (λm d=>SubL.refl λo b=>(h.bkMay m d o b).1) (λm=>?_) (λ_ _ _ e=>e) (io _);show SubL (upd S.bd n B m) _;by_cases a:m=n
 ·subst a;rw[upd_self];exact c
 ·rw[upd_ne _ _ _ a];exact SubL.refl (h.bdMay m)
def Ven.Ok.setBk(h:S.Ok){n:Int}{B:Bk}(a:∀d,SubL (B d) (S.bk n d)):({S with bk:=upd S.bk n B}:Ven).Ok:=⟨h.cal,h.led,YP h.ord a,h.next,h.fnd⟩
def Ven.Ok.setBd(h:S.Ok){n:Int}{B:List Od}(a:SubL B (S.bd n)):({S with bd:=upd S.bd n B}:Ven).Ok:=⟨h.cal,h.led,Yn h.ord a,h.next,h.fnd⟩
def Lx(h:BkMay B)(p:Od->Bool):∀d,SubL (B.flt p d) (B d):=λd=>SubL.filter (λo a=>(h d o a).1) p
def cancel_ok(h:S.Ok){c:Cm}:(S.cancel c).2.2.Ok:=by
 unfold Ven.cancel;cases a:S.find c.acct c.num with
 |some x=>
  obtain⟨o,n⟩:=x;obtain⟨g,e,j,d,f,b⟩:=find_spec a;simp only;rw[yS (h.ord.bkNd n) b];exact h.setBk (Lx (h.ord.bkMay n) _)
 |none=>
  simp only;cases k:S.nums.findSome? (bidIn S.bd c.acct c.num)with
  |none=>exact h
  |some x=>
   obtain⟨i,n⟩:=x;exact h.setBd (SubL.of_sub (jB _ _) (h.ord.bdMay n))
def replaced_ok(h:S.Ok){c:Cm}(P:c.Fit)(L:c.acct≠0){o:Od}{n:Int}(C:S.find c.acct c.num=some (o,n))(I:S.pass c.acct n o.buy c.price c.qty o=0)(b:(fX (S.bk n) c.num c.price c.qty).1=0):
  ({S with bk:=upd S.bk n (fX (S.bk n) c.num c.price c.qty).2.1}:Ven).Ok:=by
  obtain⟨N,M,F,d,t,u⟩:=find_spec C;have hp:=pass_ok L I;have g:=h.ord.std n o (rC t);unfold fX at b|-;rw[u]at b|-;simp only at b|-;obtain⟨O,E⟩:=dW ({o with price:=c.price,left:=c.qty}:Od);by_cases w:({o with price:=c.price,left:=c.qty}:Od).may=false
  ·grind
  rw[aZ w]at b|-;have s:({o with price:=c.price,left:=c.qty}:Od).may=true:=by simpa using w
  by_cases z:c.price=o.price/\c.qty<=o.left
  ·rw[bZ z]at b|-;refine h.setBk λe=>?_;show SubL (Bk.set _ _ _ e) _;by_cases r:e=d
   ·subst r;rw[Bk.set_self];unfold wZ at b|-;cases G:(S.bk n e).findIdx? λx=>decide (x.num=c.num)with
    |none=>exact SubL.refl λo p=>(h.ord.bkMay n e o p).1
    |some i=>
     obtain⟨q,-⟩:=eB.1 G;simp only;rw[cE q];simp only;split
     ·grind
     ·exact SubL.set (λo p=>(h.ord.bkMay n e o p).1) q hp.qty
   ·rw[Bk.set_ne _ _ r];exact SubL.refl λo p=>(h.ord.bkMay n e o p).1
  ·rw[aZ z]at b|-;simp only
   have J:(S.bk n).set d (tD (S.bk n d) c.num)=(S.bk n).flt λo=>decide (o.num≠c.num):=by
    have:=yS (h.ord.bkNd n) u;unfold jX at this;rw[u]at this;exact this
   rw[J];have D:=h.setBk (Lx (h.ord.bkMay n) λo=>decide (o.num≠c.num))
   have v:=come_addBk D.ord (n:=n) (o:={o with price:=c.price,left:=c.qty}) (rests:=true) (nx:=S.next) hp.alive s ⟨g.fit.1,g.fit.2.1,by constructor<;>show _<;>simp only<;>have:=hp.price<;>omega,by constructor<;>show _<;>simp only<;>have:=hp.qty<;>omega⟩
    (by show o.num<_;exact g.num) g.acc (λm y A H=>?_) (io _)
   ·have B:upd (upd S.bk n ((S.bk n).flt λo=>decide (o.num≠c.num))) n (ko (upd S.bk n ((S.bk n).flt λo=>decide (o.num≠c.num)) n) {o with price:=c.price,left:=c.qty} true).1=upd S.bk n (ko ((S.bk n).flt λo=>decide (o.num≠c.num)) {o with price:=c.price,left:=c.qty} true).1:=by
     rw[upd_self,upd_upd]
    simp only at v;rw[B]at v;exact⟨h.cal,h.led,v,h.next,h.fnd⟩
   ·have k:y.num=o.num:=H
    have l:y∈S.ords m/\(m=n->∀d,y∈S.bk n d->y.num≠c.num):=by
     by_cases j:m=n
     ·subst j;rcases vN A with⟨e,a⟩|a
      ·replace a:y∈upd S.bk m ((S.bk m).flt λo=>decide (o.num≠c.num)) m e:=a;rw[upd_self]at a;unfold Bk.flt at a;rw[cO,dN]at a;exact absurd (k.trans F) a.2
      ·refine⟨vk a,λ_ e K=>?_⟩;have f:=h.ord.nd m;unfold Ven.ords at f;rw[dy,jI]at f;exact absurd rfl (f.2.2 _ (dn (mem_all.2 ⟨e,K⟩)) _ (dn a))
     ·refine⟨?_,λh=>absurd h j⟩
      have:({S with bk:=upd S.bk n ((S.bk n).flt λo=>decide (o.num≠c.num))}:Ven).ords m=S.ords m:=by
       show(upd S.bk n _ m).all++_=_;rw[upd_ne _ _ _ j];rfl
      rwa[this]at A
    have j:=h.ord.apart m n y o l.1 (rC t) k;subst j;rcases vN l.1 with⟨e,a⟩|a
    ·grind
    ·have f:=h.ord.nd m;unfold Ven.ords at f;rw[dy,jI]at f;exact absurd k.symm (f.2.2 _ (dn (mem_all.2 ⟨d,t⟩)) _ (dn a))
def replace_ok(h:S.Ok){c:Cm}(j:c.Fit)(i:c.acct≠0)(a:(S.replace c).1=0):(S.replace c).2.2.Ok:=by
 unfold Ven.replace at a|-;cases b:S.find c.acct c.num with
 |none=>rw[b]at a;cases a
 |some x=>
  obtain⟨o,n⟩:=x;obtain⟨m,k,q,d,l,p⟩:=find_spec b;rw[b]at a;simp only at a|-;by_cases f:S.pass c.acct n o.buy c.price c.qty o≠0
  ·grind
  rw[aZ f]at a|-;have hp:=pass_ok i (by simpa using f:S.pass c.acct n o.buy c.price c.qty o=0);by_cases g:(fX (S.bk n) c.num c.price c.qty).1≠0
  ·grind
  rw[aZ g]at a|-;have e:(fX (S.bk n) c.num c.price c.qty).1=0:=by simpa using g
  exact traded_ok (replaced_ok h j i b (by simpa using f) e) (alive_u32 h.cal hp.alive) hp.alive _ _
def I5(h:S.Ok){n m:Int}(f:pL n):({S with led:=(S.led.deposit n m).2}:Ven).Ok:=by
 have b:=h.led.led;apply h.setLed (Led.deposit_Ok b f) (vS (Led.deposit_held _ _ _) h.led.zero) (λ_ o _ e=>CP b e) (λp hp=>h.led.held p (by rw[Led.deposit_held]at hp;exact hp));rw[Led.deposit_funds b.sa];rcases Led.deposit_cases (S:=S.led) (n:=n) (m:=m)with⟨d,c⟩|⟨a,d,c,k,g,j,l,i⟩
 ·rw[aZ c];have:=h.fnd;omega
 ·grind
def Bc(h:S.Ok){n m:Int}:({S with led:=(S.led.withdraw n m).2}:Ven).Ok:=by
 have b:=h.led.led;apply h.setLed (Led.withdraw_Ok b) (vS (Led.withdraw_held _ _ _) h.led.zero) (λ_ o _ e=>B6 b e) (λp hp=>h.led.held p (by rw[Led.withdraw_held]at hp;exact hp));rw[Led.withdraw_funds b.sa];have:=h.fnd;rcases Led.withdraw_cases (S:=S.led) (n:=n) (m:=m)with⟨d,c⟩|⟨a,d,c,i,f,g⟩
 ·rw[aZ c];omega
 ·grind
def vf{l:List Ct}{f:Ct->Ct}(b:∀k∈l,(f k).spec.num=k.spec.num)(m:Int):eR (lr l n f) m=(eR l m).map λk=>if k.spec.num=n then f k else k:=by
 unfold eR lr;induction l with
 |nil=>rfl
 |cons k l c=>
  have a:(if k.spec.num=n then f k else k).spec.num=k.spec.num:=by grind
  rw[cM,jL,jL,a];split
  ·rfl
  ·grind
def zO{l:List Ct}{f:Ct->Ct}(b:∀k∈l,(f k).spec.num=k.spec.num)(e:∀k∈l,k.spec.num=n->((f k).st=3↔k.st=3))(m:Int):ex (lr l n f) m=ex l m:=by
 unfold ex;rw[vf b];cases c:eR l m with
 |none=>rfl
 |some k=>
  have d:=ry c;show(if(if k.spec.num=n then f k else k).st=3 then(50:Int)else 0)=if k.st=3 then 50 else 0
  by_cases a:k.spec.num=n
  ·rw[bZ a];by_cases h:k.st=3
   ·grind
   ·grind
  ·rw[aZ a]
def Ven.Ok.setCal(h:S.Ok){C:sE}(hC:C.Ok)(b:∀n,ex C.l n=ex S.cal.l n):({S with cal:=C}:Ven).Ok:=
 ⟨hC,⟨h.led.led,λp hp=>by show ex C.l _=0;rw[b];exact h.led.held p hp,h.led.zero⟩,h.ord.mono (λn e=>.inl (by grind)) (λn d=>SubL.refl λo a=>(h.ord.bkMay n d o a).1) (λn=>SubL.refl (h.ord.bdMay n)) (λ_ _ _ c=>c) (io _),h.next,h.fnd⟩
def Tl(h:S.Ok)(n:Int)(on:Bool):({S with cal:=(nz S.cal n on).2}:Ven).Ok:=by
 unfold nz;by_cases c:ex S.cal.l n≠0
 ·rw[bZ c];exact h
 ·rw[aZ c];have e:ex S.cal.l n=0:=by simpa using c
  obtain⟨k,b,p,s,t⟩:=alive_get e;have a:=sM (l:=S.cal.l) (n:=n) (f:=λk=>{k with st:=if on then 2 else 1}) (λk b _=>⟨Ck (h.cal.ok k b) (by cases on<;>simp),rfl⟩) h.cal.ok h.cal.srt;refine h.setCal ⟨by show(lr _ _ _).length<=16;rw[a.2.2];exact h.cal.len,h.cal.day,a.1,a.2.1⟩ λm=>?_;refine zO (f:=λk=>{k with st:=if on then 2 else 1}) (λ_ _=>rfl) (λx q d=>?_) m
  have o:x.st≠3:=by
   have:eR S.cal.l n=some x:=by
    unfold eR;have:=h.cal.srt;rw[fV];obtain⟨i,g,rfl⟩:=cX q;refine⟨by simpa using d,i,g,rfl,λj r=>?_⟩;have:=eI.1 this j i qZ g r;simp;omega
   rw[b]at this;cases this;exact p
  constructor
  ·grind
  ·grind
def I3(h:S.Ok)(n price:Int):({S with cal:=(jJ S.cal n price).2}:Ven).Ok:=by
 unfold jJ;cases g:eR S.cal.l n with
 |none=>exact h
 |some k=>
  simp only;split
  ·exact h
  ·rename_i q
   split
   ·exact h
   ·rename_i hp
    have e:k.spec.isPrice price=true:=by simpa using hp
    have c:∀x∈S.cal.l,x.spec.num=n->x=k:=λx d b=>by
     have:eR S.cal.l n=some x:=by
      unfold eR;have:=h.cal.srt;rw[fV];obtain⟨i,o,rfl⟩:=cX d;refine⟨by simpa using b,i,o,rfl,λj p=>?_⟩;have:=eI.1 this j i qZ o p;simp;omega
     rw[g]at this;cases this;rfl
    have a:=sM (l:=S.cal.l) (n:=n) (f:=λk=>{k with price:=price}) (λx d b=>⟨by rw[c x d b];exact CZ (h.cal.ok k (ry g)) e,rfl⟩) h.cal.ok h.cal.srt;refine h.setCal ⟨by show(lr _ _ _).length<=16;rw[a.2.2];exact h.cal.len,h.cal.day,a.1,a.2.1⟩ λm=>?_;exact zO (f:=λk=>{k with price:=price}) (λ_ _=>rfl) (λx d b=>fd) m
def Jn{l:List Ct}{p:Ct->Bool}(i:Nat)(k:Ct)(a:l.find? p=none\/p k=false):(l.take i++k::l.drop i).find? p=if p k=true then some k else l.find? p:=by
 rw[List.find?_append,jL];cases hp:p k with
 |true=>
  rcases a with a|a
  ·grind
  ·rw[hp]at a;cases a
 |false=>
  simp only[dE,eW];rw[<-List.find?_append,fP]
def C6{l:List Ct}{k:Ct}(a:eR l k.spec.num=none)(i:Nat)(m:Int):eR (l.take i++k::l.drop i) m=if k.spec.num=m then some k else eR l m:=by
 unfold eR at*;rw[Jn]
 ·simp
 ·by_cases h:k.spec.num=m
  ·subst h;exact .inl a
  ·grind
def SO(h:S.Ok){s:Sp}(i:s.Fit)(c:(kC S.cal s).1=0):({S with cal:=(kC S.cal s).2,bk:=upd S.bk s.num Bk.empty}:Ven).Ok:=by
 unfold kC at c|-;by_cases t:s.may=false
 ·grind
 rw[aZ t]at c|-;by_cases j:(eR S.cal.l s.num).isSome=true
 ·grind
 rw[aZ j]at c|-;by_cases z:s.last<S.cal.day
 ·grind
 rw[aZ z]at c|-;by_cases w:16<=S.cal.l.length
 ·grind
 rw[aZ w];have a:s.may=true:=by simpa using t
 have q:eR S.cal.l s.num=none:=by
  cases A:eR S.cal.l s.num with
  |none=>rfl
  |some k=>rw[A]at j;exact absurd rfl j
 have v:(rJ s).Ok:=⟨⟨i,⟨by show(0:Int)<=1;omega,by show(1:Int)<256;omega⟩,i.2.2.2.2.2.2.2.2.2⟩,a,Sp.may_price a,by show(1:Int)<=1;omega,by show(1:Int)<=3;omega⟩
 obtain⟨C,u,F⟩:=EV (k:=rJ s) h.cal.srt h.cal.ok v q;have f:=C6 (k:=rJ s) q (lW S.cal.l s.num)
 have e:∀d,S.bk s.num d=[]:=λd=>by
  have:=h.ord.out s.num (by unfold ex;rw[q];simp);cases E:S.bk s.num d with
  |nil=>rfl
  |cons x l=>
   have b:x∈S.ords s.num:=rC (d:=d) (by grind);rw[this]at b;cases b
 have r:upd S.bk s.num Bk.empty=S.bk:=by
  funext m d;by_cases b:m=s.num
  ·subst b;rw[upd_self,e d];rfl
  ·rw[upd_ne _ _ _ b]
 rw[r]
 have g:∀m,ex S.cal.l m=0->ex (S.cal.l.take (lW S.cal.l s.num)++rJ s::S.cal.l.drop (lW S.cal.l s.num)) m=0:=λm b=>by
  unfold ex at b|-;rw[f];by_cases c:(rJ s).spec.num=m
  ·rw[bZ c];rfl
  ·grind
 refine⟨⟨?_,h.cal.day,C,u⟩,⟨h.led.led,λp hp=>g _ (h.led.held p hp),h.led.zero⟩,h.ord.mono (λn B=>.inl λD=>B (g n D)) (λn d=>SubL.refl λo y=>(h.ord.bkMay n d o y).1) (λn=>SubL.refl (h.ord.bdMay n)) (λ_ _ _ i=>i) (io _),h.next,h.fnd⟩;show(List.take _ _++_::List.drop _ _).length<=16;rw[cD,dc,cZ,dV];omega
def Ven.Ok.clear(h:S.Ok){a k:Int}(c:a≠0):(S.clear a k).2.Ok:=by
 obtain⟨b,d,e⟩:=wH h.ord (k:=k) c;exact⟨by rw[b];exact h.cal,by rw[b,d];exact h.led,AT h.ord c,by rw[e];exact h.next,by rw[d];exact h.fnd⟩
def Ae(h:S.led.Ok){a:Int}(c:S.led.getO a≠none):(S.acc a).num=a/\S.led.getO a=some (S.acc a):=by
 unfold Ven.acc;cases b:S.led.getO a with
 |none=>exact absurd b c
 |some x=>exact⟨(h.getO b).1,rfl⟩
def Led.set_ok1{S:Led}{a:Ac}(h:(S.set a).1=0):(S.set a).2=S.putA a:=by
 rcases Led.set_cases S a with⟨-,b⟩|⟨c,-⟩
 ·exact absurd h b
 ·rw[c]
def YV(h:S.Ok){a:Ac}(g:pL a.num)(f:∀n o,o∈S.ords n->S.led.Stands o.acct->o.acct=a.num->a.kil=false/\a.dfl=false)(c:(S.led.set a).2.funds<=MF):({S with led:=(S.led.set a).2}:Ven).Ok:=
 h.setLed (Led.set_Ok h.led.led g) (vS (rZ _ _) h.led.zero) (λn o d b=>yN h.led.led b λe=>f n o d b e.symm) (λp hp=>h.led.held p (by rw[rZ]at hp;exact hp)) c
def Ug(h:S.Ok){a:Int}(f:a≠0)(s:pL a)(m:S.led.getO a≠none)(on:Bool):({(if on then(S.clear a 0).2 else S)with led:=((if on then(S.clear a 0).2 else S).led.set {S.acc a with kil:=on}).2}:Ven).Ok:=by
 obtain⟨b,e⟩:=Ae h.led.led m
 have key:∀T:Ven,T.Ok->T.led=S.led->(∀n o,o∈T.ords n->T.led.Stands o.acct->o.acct=a->on=false)->({T with led:=(T.led.set {S.acc a with kil:=on}).2}:Ven).Ok:=λT p k q=>by
  refine YV p (a:={S.acc a with kil:=on}) (by grind) (λn o i c j=>?_) ?_
  ·have d:o.acct=a:=j.trans b;refine⟨q n o i c d,?_⟩;obtain⟨x,r,-,l⟩:=c
   have:S.acc a=x:=by
    unfold Ven.acc;rw[jV f,<-d,<-k,r];rfl
   show(S.acc a).dfl=false;rw[this];exact l
  ·rw[k];rcases Led.set_cases S.led {S.acc a with kil:=on}with⟨g,-⟩|⟨g,-⟩
   ·rw[g];exact h.fnd
   ·rw[g];show(S.led.putA {S.acc a with kil:=on}).funds<=MF;rw[Led.funds_putA h.led.led.sa];show S.led.funds+(S.acc a).cash - ((S.led.getO (S.acc a).num).getD _).cash<=MF;rw[b,e];have:=h.fnd;simp only[fT];omega
 cases on with
 |true=>exact key _ (h.clear f) (wH h.ord f).2.1 λn o i _ j=>absurd j (CY h.ord f i).1
 |false=>exact key S h rfl λ_ _ _ _ _=>rfl
def BB:∀(ix p:List Int),(∀i∈ix,0<=i/\i<p.length)->(∀x∈p,0<=x)->(ot ix p).sum=p.sum+ix.length/\∀x∈ot ix p,0<=x
 | [],p,_,hp=>⟨by simp[ot],hp⟩
 |i::ix,p,m,hp=>by
  have o:=m i cw;have b:i.toNat<p.length:=qZ;obtain⟨c,a⟩:=dW (p.set i.toNat (p.getD i.toNat 0+1));have d:p.getD i.toNat 0=p[i.toNat]:=by grind
  have q:c.length=p.length:=by grind
  have l:c.sum=p.sum+1:=by rw[a,d,Cq b];omega
  have n:∀x∈c,0<=x:=λx f=>by
   rw[a]at f;rcases gG f with h|rfl
   ·exact hp x h
   ·have:=hp _ (cC b);rw[d];omega
  obtain⟨k,g⟩:=BB ix c (λj r=>by grind) n;have e:ot (i::ix) p=ot ix c:=by rw[a];rfl
  rw[e];refine⟨?_,g⟩;rw[k,l,dc];omega
def splitR_sum{t:Int}{l:List Int}(h:(ib t l).2=0):0<=t/\(ib t l).1.sum=t/\(∀x∈(ib t l).1,0<=x)/\(ib t l).1.length=l.length:=by
 refine⟨?_,?_⟩
 ·unfold ib at h;split at h
  ·cases h
  ·split at h
   ·cases h
   ·rename_i u;omega
 have a:=yH h;unfold ib at h a|-;by_cases u:1000<l.length
 ·grind
 rw[aZ u]at h a|-;by_cases r:t<0\/(l.any λx=>decide (x<0))=true
 ·grind
 rw[aZ r]at h a|-;by_cases z:¬jl l.sum
 ·grind
 rw[aZ z]at h a|-;by_cases o:t=0
 ·rw[bZ o]at a|-;refine⟨?_,λx m=>by grind,a⟩;rw[o]
  have:∀n:Nat,(List.replicate n (0:Int)).sum=0:=λn=>by
   induction n with
   |zero=>rfl
   |succ n D=>rw[List.replicate_succ,di,D];rfl
  exact this _
 rw[aZ o]at h a|-;by_cases y:l.sum=0
 ·grind
 rw[aZ y]at a|-;simp only at a|-
 have E:∀x∈l,0<=x:=λx m=>by
  apply dU;intro F;exact r (.inr (gA.2 ⟨x,m,db qZ⟩))
 obtain⟨c,d⟩:=dW (l.map Int.toNat);rw[<-d]at a|-
 have s:(c.sum:Int)=l.sum:=by
  rw[<-ti,d,dQ];congr 1;have:l.map ((λx:Nat=>(x:Int))∘Int.toNat)=l.map id:=dt λx m=>by grind
  rw[this,iP]
 have f:0<c.sum:=by grind
 have v:=Gl f t.toNat (cJ c.sum);have e:=IB f t.toNat rfl;unfold tP;obtain⟨q,g⟩:=dW (pO t.toNat c.sum c);rw[<-g]at v e|-;have k:q.length=c.length:=by rw[g];unfold pO;rw[cz]
 have b:(sB (qQ t.toNat c.sum c)).Perm ((List.range (qQ t.toNat c.sum c).length).map λi:Nat=>(i:Int)):=Srt.stable_perm _ _;have p:(qQ t.toNat c.sum c).length=c.length:=by unfold qQ;rw[cz]
 rw[p]at b
 obtain⟨B,w⟩:=BB ((sB (qQ t.toNat c.sum c)).take (t.toNat - q.sum)) (q.map λx:Nat=>(x:Int)) (λi A=>by
  have:=b.mem_iff.1 (ek A);obtain⟨j,C,rfl⟩:=cF.1 this;rw[iQ]at C;rw[cz,k];omega) (λx m=>by grind)
 refine⟨?_,w,?_⟩
 ·rw[B,ti,cZ,b.length_eq,cz,List.length_range];omega
 ·rw[zd,cz,k,d,cz]
def zf:∀(ix:List Nat) (a:List Int) (o:List Sd),(kS ix a o).map (·.acct)=o.map (·.acct)/\(kS ix a o).map (·.dfl)=o.map (·.dfl)
 | [],a,o=>by cases a<;>exact⟨rfl,rfl⟩
 |i::ix,[],o=>⟨rfl,rfl⟩
 |i::ix,p::a,o=>by
  cases b:o[i]? with
  |none=>
   have e:kS (i::ix) (p::a) o=kS ix a o:=by
    conv=>lhs;unfold kS
    rw[b]
   rw[e];exact zf ix a o
  |some x=>
   obtain⟨c,d⟩:=cP.1 b
   have e:kS (i::ix) (p::a) o=kS ix a (o.set i {x with cut:=p,cash:=IntKind.i64.wrap (x.cash - p)}):=by
    conv=>lhs;unfold kS
    rw[b]
   rw[e];obtain⟨g,f⟩:=zf ix a (o.set i {x with cut:=p,cash:=IntKind.i64.wrap (x.cash - p)});rw[g,f,lY,lY];constructor
   ·have:x.acct=(o.map (·.acct))[i]'(by simpa using c):=by rw[eL,d]
    show(o.map _).set i x.acct=_;rw[this,nS]
   ·have:x.dfl=(o.map (·.dfl))[i]'(by simpa using c):=by rw[eL,d]
    show(o.map _).set i x.dfl=_;rw[this,nS]
def D3:∀(ix:List Nat) (a:List Int) (o:List Sd),ix.length=a.length->ix.Nodup->(∀i∈ix,i<o.length)->(∀p∈a,0<=p/\p<=7000000000000000000)->(∀s∈o,0<=s.cash/\s.cash<=1000000000000000000)->
  ((kS ix a o).map (·.cash)).sum=(o.map (·.cash)).sum - a.sum
 | [],[],o,_,_,_,_,_=>by simp[kS]
 | [],p::a,o,g,_,_,_,_=>by simp at g
 |i::ix,[],o,g,_,_,_,_=>by simp at g
 |i::ix,p::a,o,g,C,u,hp,t=>by
  have d:=u i cw;obtain⟨k,n⟩:=dA.1 C;have A:=hp p cw;have v:=t _ (cC d);have z:IntKind.i64.wrap (o[i].cash - p)=o[i].cash - p:=by rw[eF];omega
  have e:kS (i::ix) (p::a) o=kS ix a (o.set i {o[i]with cut:=p,cash:=o[i].cash - p}):=by
   conv=>lhs;unfold kS
   rw[cE d];simp only;rw[z]
  rw[e]
  have l:∀(ix:List Nat) (a:List Int) (o:List Sd) (y:Sd),i ∉ ix->kS ix a (o.set i y)=(kS ix a o).set i y:=by
   intro ix;induction ix with
   |nil=>intro a o y _;cases a<;>rfl
   |cons j ix f=>
    intro a o y b;rw[cH,mO]at b;cases a with
    |nil=>rfl
    |cons q a=>
     have B:(o.set i y)[j]? =o[j]? :=by grind
     unfold kS;rw[B];cases o[j]? with
     |none=>exact f a o y b.2
     |some x=>
      simp only;rw[List.set_comm _ _ b.1,f a _ y b.2]
  rw[l ix a o _ k];have f:=D3 ix a o (by simpa using g) n (λj b=>u j (cu _ b)) (λq w=>hp q (cu _ w)) t
  have c:∀(ix:List Nat) (a:List Int) (o:List Sd),i ∉ ix->(kS ix a o)[i]? =o[i]? :=by
   intro ix;induction ix with
   |nil=>intro a o _;cases a<;>rfl
   |cons j ix f=>
    intro a o b;rw[cH,mO]at b;cases a with
    |nil=>rfl
    |cons q a=>
     unfold kS;rw[f _ _ b.2];cases o[j]? with
     |none=>rfl
     |some x=>simp only;rw[List.getElem?_set_ne λh=>b.1 h.symm]
  have r:=c ix a o k;rw[cE d]at r;obtain⟨D,m⟩:=cP.1 r;rw[lY,Cq (by grind),eL,m,f,di];show _ - _+(o[i].cash - p)=_;omega
def QH(l:List Du):((l.map yp).map (·.cash)).sum=(l.map (·.cash)).sum+(l.map (·.v)).sum+(l.map iO).sum:=by
 induction l with
 |nil=>rfl
 |cons d l a=>
  rw[cM,cM,di,a,cM,cM,cM,di,di,di]
  have:(yp d).cash=d.cash+d.v+iO d:=by
   unfold yp iO;split<;>simp only<;>omega
  rw[this];omega
def uU:∀(l:List Du) (i:Nat),(mU i l).Nodup
 | [],i=>nB
 |d::l,i=>by
  rw[mU];split
  ·refine dA.2 ⟨λa=>?_,uU l (i+1)⟩;have:=zv l (i+1) i a;omega
  ·exact uU l (i+1)
structure SetOk(fund:Int)(l:List Du)(out:List Sd)(left:Int):Prop where
 acct:out.map (·.acct)=l.map (·.acct)
 dfl:out.map (·.dfl)=l.map λd=>decide (d.cash+d.v<0)
 sum:(out.map (·.cash)).sum+left=(l.map (·.cash)).sum+fund
 left:0<=left/\left<=fund
 v0:(l.map (·.v)).sum=0
def setl_ok{fund:Int}{l:List Du}(h:(lP fund l).2.2=0):SetOk fund l (lP fund l).1 (lP fund l).2.1:=by
 unfold lP at h|-;by_cases u:64<l.length
 ·grind
 rw[aZ u]at h|-;by_cases f:pJ fund l=false
 ·grind
 rw[aZ f]at h|-;by_cases b:(tN (l.map (·.v))).2≠0\/(tN (l.map (·.v))).1≠0
 ·grind
 rw[aZ b]at h|-;obtain⟨t,r⟩:=dW ((l.map iO).sum - min fund (l.map iO).sum);rw[<-r]at h|-;by_cases j:(ib t (gH l)).2≠0
 ·grind
 rw[aZ j];simp only;have a:pJ fund l=true:=by simpa using f
 unfold pJ at a;rw[cL]at a;have c:=Fz a.1;have e:0<=fund/\fund<=1000000000000000:=amongB_iff.1 a.2;have q:=LR c;obtain⟨s1,g,k,o⟩:=splitR_sum (by simpa using j:(ib t (gH l)).2=0)
 have m:(l.map (·.v)).sum=0:=by
  simp only[mO,ne_eq,Classical.not_not]at b;unfold tN at b;split at b
  ·exact b.2
  ·cases b.1
 obtain⟨v,w⟩:=zf (mU 0 l) (ib t (gH l)).1 (l.map yp);refine⟨?_,?_,?_,⟨qZ,qZ⟩,m⟩
 ·rw[v,dQ];exact dt λd _=>by show(yp d).acct=d.acct;unfold yp;split<;>rfl
 ·rw[w,dQ];refine dt λd _=>?_;show(yp d).dfl=_;unfold yp;split
  ·grind
  ·grind
 ·rw[D3 _ _ _ (by rw[vZ,o]) (uU l 0) (λi y=>by have:=zv l 0 i y;rw[cz];omega)
   (λp hp=>⟨k p hp,by have:=zz k p hp;rw[g]at this;omega⟩) (λs x=>?_),QH,g,m]
  ·omega
  ·obtain⟨d,n,rfl⟩:=cF.1 x;have:=Du.rng (c d n);unfold yp;split<;>simp only<;>omega
def uO{l:List Ac}(h:SortA l){a:Ac}(g:∃x∈l,x.num=a.num):insA l a=l.map λx=>if x.num=a.num then a else x:=by
 have b:∀x:Ac,(if x.num=a.num then a else x).num=x.num:=λx=>by grind
 have c:SortA (l.map λx=>if x.num=a.num then a else x):=by
  unfold SortA;rw[fD];exact h.imp λ{x y} d=>by grind
 apply OU (insA_sort h a) c;have nd:∀{l:List Ac},SortA l->l.Nodup:=λf=>f.imp λh e=>by rw[e]at h;omega
 rw[List.perm_ext_iff_of_nodup (nd (insA_sort h a)) (nd c)];intro x;rw[mem_insA,cF];constructor
 ·rintro(⟨k,i⟩|rfl)
  ·grind
  ·grind
 ·rintro⟨y,j,rfl⟩;split
  ·exact .inr rfl
  ·grind
def setAc(l:List Sd)(a:Ac):Ac:=match l.find? (λs=>decide (s.acct=a.num))with|some s=>{a with cash:=s.cash,dfl:=a.dfl||s.dfl}|none=>a
structure aa4(l:List Sd)(r:Rp)(S:Ven)(r' :Rp)(T:Ven):Prop where
 led:Cb T.cal T.led
 ord:vg T
 cal:T.cal=S.cal
 next:T.next=S.next
 held:T.led.held=S.led.held
 fund:T.led.fund=S.led.fund
 all:T.led.all=S.led.all.map (setAc l)
 sub:∀n o,o∈T.ords n->o∈S.ords n
 accts:r'.accts=r.accts++(l.filter (·.dfl)).map (·.acct)
def payL_ok:∀(l:List Sd) (r:Rp) (S:Ven),Cb S.cal S.led->vg S->(∀s∈l,S.led.find s.acct≠none)->(l.map (·.acct)).Nodup->(payL l r S).1=0->aa4 l r S (payL l r S).2.1 (payL l r S).2.2
 | [],r,S,f,E,_,_,_=>⟨f,E,rfl,rfl,rfl,rfl,by
   have:S.led.all.map (setAc [])=S.led.all.map id:=dt λ_ _=>rfl;rw[this,iP];rfl,eQ,by simp[payL]⟩
 |s::l,r,S,f,E,hf,Z,D=>by
  obtain⟨W,V⟩:=dA.1 Z;have T:=hf s cw
  obtain⟨x,M⟩:∃x,S.led.find s.acct=some x:=by
   cases h:S.led.find s.acct with
   |none=>exact absurd h T
   |some x=>exact⟨x,rfl⟩
  obtain⟨J,B,e⟩:=Led.find_ok f.led M;have G:S.acc s.acct=x:=by unfold Ven.acc;rw[jV e,M];rfl
  obtain⟨b,j⟩:=dW (if s.dfl=true then(S.clear s.acct 0).2 else S);have X:=wH E (a:=s.acct) (k:=0) e
  have K:b.cal=S.cal/\b.led=S.led/\b.next=S.next:=by
   rw[j];split
   ·exact X
   ·grind
  have w:vg b:=by
   rw[j];split
   ·exact AT E e
   ·exact E
  have g:∀n o,o∈b.ords n->o∈S.ords n/\(s.dfl=true->o.acct≠s.acct):=λn o q=>by
   rw[j]at q;split at q
   ·have:=CY E e q;exact⟨this.2,λ_=>this.1⟩
   ·grind
  obtain⟨a,N⟩:=dW ({x with cash:=s.cash,dfl:=x.dfl||s.dfl}:Ac);obtain⟨O,I⟩:=dW (if s.dfl=true then{r with accts:=r.accts++[s.acct],gone:=r.gone++(S.clear s.acct 0).1}else r:Rp)
  have P:payL (s::l) r S=if(b.led.set a).1≠0 then((b.led.set a).1,O,{b with led:=(b.led.set a).2})else payL l O {b with led:=(b.led.set a).2}:=by
   conv=>lhs;unfold payL
   simp only;rw[G,<-N,<-j,<-I]
  rw[P]at D|-;by_cases h1:(b.led.set a).1≠0
  ·grind
  rw[aZ h1]at D|-;have H:(b.led.set a).1=0:=by simpa using h1
  rw[K.2.1]at H D|-;have i:=Led.set_ok1 H;have c:a.num=s.acct:=by rw[N];exact B
  have C:a.num≠0:=by rw[c];exact e
  have hu:pL a.num:=by have:=f.led.acc x J;rw[c,<-B];exact⟨qZ,this.2.1⟩
  have A:∀n,(S.led.set a).2.find n=if n=a.num then some a else S.led.find n:=λn=>by rw[i];exact Led.find_putA f.led.sa C n
  have hL2:Cb b.cal (S.led.set a).2:=⟨Led.set_Ok f.led hu,λp hp=>by rw[rZ]at hp;rw[K.1];exact f.held p hp,vS (rZ _ _) f.zero⟩
  have Y:vg {b with led:=(S.led.set a).2}:=by
   refine w.mono (λn Z=>.inl Z) (λn d=>SubL.refl λo q=>(w.bkMay n d o q).1) (λn=>SubL.refl (w.bdMay n)) (λn o q z=>?_) (io _);have hd:=(g n o q).2;rw[K.2.1]at z;refine yN f.led z λD=>?_;have F:s.acct=o.acct:=c.symm.trans D;obtain⟨y,L,hk,R⟩:=z;rw[<-F,M]at L;cases L;rw[N];refine⟨hk,?_⟩;cases u:s.dfl with
   |true=>exact absurd F.symm (hd u)
   |false=>show(x.dfl||false)=false;rw[R];rfl
  have hnot:∀t∈l,t.acct≠s.acct:=λt Q D=>W (by grind)
  have v:=payL_ok l O {b with led:=(S.led.set a).2} hL2 Y (λt Q=>by
   show(S.led.set a).2.find t.acct≠none;rw[A,aZ (by grind)];exact hf t (cu _ Q)) V D
  refine⟨v.led,v.ord,v.cal.trans K.1,v.next.trans K.2.2,v.held.trans (rZ _ _),v.fund.trans ?_,?_,λn o q=>(g n o (v.sub n o q)).1,?_⟩
  ·show(S.led.set a).2.fund=_;rw[i];unfold Led.putA;rw[aZ C]
  ·rw[v.all];show(S.led.set a).2.all.map _=_
   have:(S.led.set a).2.all=S.led.all.map λy=>if y.num=a.num then a else y:=by
    rw[i];unfold Led.putA;rw[aZ C];exact uO f.led.sa ⟨x,J,B.trans c.symm⟩
   rw[this,dQ];refine dt λy L=>?_;show setAc l (if y.num=a.num then a else y)=setAc (s::l) y;by_cases m:y.num=a.num
   ·rw[bZ m]
    have U:y=x:=by
     have:=Led.mem_find f.led L;rw[m,c,M]at this;exact(dB this).symm
    have e2:setAc l a=a:=by
     unfold setAc
     have:l.find? (λs=>decide (s.acct=a.num))=none:=by
      rw[fW];exact λt Q=>by grind
     rw[this]
    rw[e2];unfold setAc;rw[lD (by rw[m,c];simp),U,N]
   ·rw[aZ m];unfold setAc;rw[lE (by grind)]
  ·rw[v.accts,I];cases u:s.dfl with
   |true=>
    rw[bZ rfl,dI (by exact u),cM];show(r.accts++[s.acct])++_=_;rw[df];rfl
   |false=>
    rw[aZ (by simp),cY (by rw[u];simp)]
def tj{l:List Sd}(b:(l.map (·.acct)).Nodup){i:Nat}(hi:i<l.length):l.find? (λs=>decide (s.acct=l[i].acct))=some l[i]:=by
 rw[fV];refine⟨by simp,i,hi,rfl,λj a=>?_⟩;have:=(eI.1 b) j i (by grind) (by grind) a;rw[eL,eL]at this;simpa using this
def Mx{A:List Ac}{l:List Sd}(h:l.map (·.acct)=A.map (·.num))(f:(A.map (·.num)).Nodup):(A.map (setAc l)).map (·.cash)=l.map (·.cash)/\∀i (hi:i<A.length) (a:i<l.length),setAc l A[i]={A[i]with cash:=l[i].cash,dfl:=A[i].dfl||l[i].dfl}:=by
 have b:l.length=A.length:=by have:=fC List.length h;rwa[cz,cz]at this
 have key:∀i (hi:i<A.length) (a:i<l.length),setAc l A[i]={A[i]with cash:=l[i].cash,dfl:=A[i].dfl||l[i].dfl}:=λi hi a=>by
  have e:l[i].acct=A[i].num:=by
   have:(l.map (·.acct))[i]? =(A.map (·.num))[i]? :=by rw[h]
   rw[dO,dO,cE a,cE hi]at this;exact dB this
  unfold setAc;have:=tj (l:=l) (by rw[h];exact f) a;rw[e]at this;rw[this]
 refine⟨List.ext_getElem (by simp[b]) λi d c=>?_,key⟩;rw[cz,cz]at d;rw[cz]at c;rw[eL,eL,eL,key i d c]
structure YT(S:Ven)(won:Int->Int)(T:Ven)(out:List Sd)(left:Int):Prop where
 set:SetOk S.led.fund (S.dues won) out left
 led:Cb T.cal T.led
 ord:vg T
 cal:T.cal=S.cal
 next:T.next=S.next
 held:T.led.held=S.led.held
 fund:T.led.fund=left
 all:T.led.all=S.led.all.map (setAc out)
 funds:T.led.funds=S.led.funds
 sub:∀n o,o∈T.ords n->o∈S.ords n
def wk(S:Ven)(won:Int->Int):(S.dues won).map (·.acct)=S.led.all.map (·.num)/\(S.dues won).map (·.cash)=S.led.all.map (·.cash)/\(S.dues won).map (·.v)=S.led.all.map λa=>won a.num:=by
 unfold Ven.dues;rw[dQ,dQ,dQ];exact⟨rfl,rfl,rfl⟩
def vA(k:Cb S.cal S.led)(v:vg S){won:Int->Int}(h:(S.pay won).1=0):
  YT S won (S.pay won).2.2 (lP S.led.fund (S.dues won)).1 (lP S.led.fund (S.dues won)).2.1/\(S.pay won).2.1.accts=((lP S.led.fund (S.dues won)).1.filter (·.dfl)).map (·.acct):=by
 unfold Ven.pay at h|-;simp only at h|-;obtain⟨x,r⟩:=dW (lP S.led.fund (S.dues won));rw[<-r]at h|-;by_cases u:x.2.2≠0
 ·grind
 rw[aZ u]at h|-;have m:SetOk S.led.fund (S.dues won) x.1 x.2.1:=by rw[r];exact setl_ok (by grind)
 by_cases q:(payL x.1 zRp S).1≠0
 ·grind
 rw[aZ q]at h|-;simp only at h|-;obtain⟨d1,d2,d3⟩:=wk S won;have c:x.1.map (·.acct)=S.led.all.map (·.num):=m.acct.trans d1;have f:(S.led.all.map (·.num)).Nodup:=k.led.sa.nodup
 have hp:=payL_ok x.1 zRp S k v (λs t=>by
  have:s.acct∈S.led.all.map (·.num):=by grind
  obtain⟨a,B,A⟩:=cF.1 this;rw[<-A,Led.mem_find k.led B];simp) (by rw[c];exact f) (by simpa using q)
 obtain⟨y,w⟩:=dW (payL x.1 zRp S);rw[<-w]at h hp|-;have b:=Led.set_ok1 h;have g:y.2.2.led.putA ⟨0,x.2.1,false,false⟩={y.2.2.led with fund:=x.2.1}:=by unfold Led.putA;rw[bZ rfl]
 rw[g]at b;have l:=Led.set_Ok hp.led.led (a:=⟨0,x.2.1,false,false⟩) ⟨by grind,by grind⟩;refine⟨⟨m,⟨l,λp e=>?_,?_⟩,?_,hp.cal,hp.next,?_,?_,?_,?_,λn o i=>hp.sub n o i⟩,by rw[hp.accts];rfl⟩
 ·rw[b]at e;exact hp.led.held p e
 ·rw[b];exact hp.led.zero
 ·refine hp.ord.mono (λn z=>.inl z) (λn d=>SubL.refl λo i=>(hp.ord.bkMay n d o i).1) (λn=>SubL.refl (hp.ord.bdMay n)) (λn o i j=>?_) (io _);show Led.Stands (y.2.2.led.set _).2 _;rw[b];exact j
 ·show(y.2.2.led.set _).2.held=_;rw[b];exact hp.held
 ·grind
 ·show(y.2.2.led.set _).2.all=_;rw[b];exact hp.all
 ·show(y.2.2.led.set _).2.funds=_;rw[b];unfold Led.funds;show x.2.1+(y.2.2.led.all.map (·.cash)).sum=_;rw[hp.all,(Mx c f).1];have:=m.sum;rw[d2]at this;omega
def qS{C:sE}(hC:C.Ok):∀(l:List Ct) (L:Led) (won:Int->Int),Cb C L->Cb C (markL l L won).2.1/\((markL l L won).2.1.all=L.all/\(markL l L won).2.1.fund=L.fund)/\∀p∈(markL l L won).2.1.held,∃q∈L.held,q.c=p.c
 | [],L,won,h=>⟨h,⟨rfl,rfl⟩,λp hp=>⟨p,hp,rfl⟩⟩
 |k::l,L,won,h=>by
  unfold markL;split
  ·exact qS hC l L won h
  ·simp only;obtain⟨x,a⟩:=dW (L.mark k.spec.num k.price false)
   have i:Cb C x.2.2:=by
    rw[a];refine⟨Led.mark_Ok h.led,λp hp=>?_,sX h.led h.zero _ _ _⟩;obtain⟨q,c,f⟩:=rI hp;rw[<-f];exact h.held q c
   have b:x.2.2.all=L.all/\x.2.2.fund=L.fund:=by rw[a];exact Led.mark_all
   have j:∀p∈x.2.2.held,∃q∈L.held,q.c=p.c:=by rw[a];exact λp hp=>rI hp
   rw[<-a];split
   ·exact⟨i,b,j⟩
   ·obtain⟨n,g,m⟩:=qS hC l x.2.2 (wonAdd won x.2.1) i;refine⟨n,⟨g.1.trans b.1,g.2.trans b.2⟩,λp hp=>?_⟩;obtain⟨q,c,f⟩:=m p hp;obtain⟨o,e,d⟩:=j q c;exact⟨o,e,d.trans f⟩
structure X4(C:sE)(L L' :Led):Prop where
 led:Cb C L'
 stands:∀n,L.Stands n->L'.Stands n
 funds:L'.funds=L.funds
 held:L'.held=L.held
 fund:L'.fund=L.fund
def zI{C:sE}{accts:List Int}:∀(l:List Ac) (e:Int) (L:Led),Cb C L->(∀a∈l,L.find a.num=some a)->(l.map (·.num)).Nodup->X4 C L (freeL accts l e L).2
 | [],e,L,h,_,_=>⟨h,λ_ h=>h,rfl,rfl,rfl⟩
 |a::l,e,L,h,t,E=>by
  obtain⟨o,j⟩:=dA.1 E;have f:=t a cw;unfold freeL;split
  ·rename_i G
   obtain⟨b,q⟩:=dW ({a with dfl:=false}:Ac);rw[<-q];obtain⟨r,F,m⟩:=Led.find_ok h.led f;have d:b.num=a.num:=by rw[q]
   have i:b.num≠0:=by rw[d];exact m
   have D:pL b.num:=by have:=h.led.acc a r;rw[d];exact⟨qZ,this.2.1⟩
   have s:∀n,n≠a.num->(L.set b).2.find n=L.find n:=λn g=>by
    rcases Led.set_cases L b with⟨c,-⟩|⟨c,-⟩
    ·rw[c]
    ·rw[c];show(L.putA b).find n=_;rw[Led.find_putA h.led.sa i,aZ (by rw[d];exact g)]
   have B:Cb C (L.set b).2:=⟨Led.set_Ok h.led D,λp hp=>by rw[rZ]at hp;exact h.held p hp,vS (rZ _ _) h.zero⟩
   have k:=zI (accts:=accts) l (L.set b).1 (L.set b).2 B (λx u=>by
    have g:x.num≠a.num:=λA=>o (by grind);rw[s _ g];exact t x (cu _ u)) j
   refine⟨k.led,λn z=>k.stands n (yN h.led z λA=>?_),k.funds.trans ?_,k.held.trans (rZ _ _),k.fund.trans ?_⟩
   ·obtain⟨y,w,H,v⟩:=z;rw[<-A,d,f]at w;cases w;rw[G.1]at v;cases v
   ·rcases Led.set_cases L b with⟨c,-⟩|⟨c,-⟩
    ·rw[c]
    ·rw[c];show(L.putA b).funds=_;rw[Led.funds_putA h.led.sa,d,jV m,f,q];show L.funds+a.cash - a.cash=_;omega
   ·rcases Led.set_cases L b with⟨c,-⟩|⟨c,-⟩
    ·rw[c]
    ·rw[c];show(L.putA b).fund=_;unfold Led.putA;rw[aZ i]
  ·exact zI l e L h (λx u=>t x (cu _ u)) j
def Ds(C:sE):(eD C).2.l=C.l:=by unfold eD;split<;>rfl
def Ut(h:C.Ok):(eD C).2.Ok:=by
 unfold eD;split
 ·exact h
 ·rename_i a
  have:=h.day;exact⟨h.len,⟨by grind,by grind⟩,h.ok,h.srt⟩
def Ven.Ok.day(h:S.Ok):({S with cal:=(eD S.cal).2}:Ven).Ok:=
 h.setCal (Ut h.cal) λn=>by rw[Ds]
structure L8(S:Ven)(S1:Ven)(won:Int->Int)(T:Ven)(r:Rp):Prop where
 s1:S1={S with cal:=(eD S.cal).2,led:=(markL (eD S.cal).2.l S.led noWon).2.1}
 hwon:won=(markL (eD S.cal).2.l S.led noWon).2.2
 day:(eD S.cal).1=0
 mark:(markL (eD S.cal).2.l S.led noWon).1=0
 pay:(S1.pay won).1=0
 res:r=(S1.pay won).2.1
 fin:T={(S1.pay won).2.2 with led:=(freeL r.accts (S1.pay won).2.2.led.all 0 (S1.pay won).2.2.led).2}
def wj(h:S.settle.1=0):L8 S {S with cal:=(eD S.cal).2,led:=(markL (eD S.cal).2.l S.led noWon).2.1} (markL (eD S.cal).2.l S.led noWon).2.2 S.settle.2.2 S.settle.2.1:=by
 unfold Ven.settle at h|-;simp only at h|-;by_cases b:(eD S.cal).1≠0
 ·grind
 rw[aZ b]at h|-;by_cases a:(markL (eD S.cal).2.l S.led noWon).1≠0
 ·grind
 rw[aZ a]at h|-;by_cases c:(({S with cal:=(eD S.cal).2,led:=(markL (eD S.cal).2.l S.led noWon).2.1}:Ven).pay (markL (eD S.cal).2.l S.led noWon).2.2).1≠0
 ·grind
 rw[aZ c]at h|-;exact⟨rfl,rfl,by simpa using b,by simpa using a,by simpa using c,rfl,rfl⟩
def nC(h:S.Ok):({S with cal:=(eD S.cal).2,led:=(markL (eD S.cal).2.l S.led noWon).2.1}:Ven).Ok:=by
 have a:=h.day;obtain⟨b,c,e⟩:=qS a.cal (eD S.cal).2.l S.led noWon a.led;exact a.setLed b.led b.zero (λn o _ d=>(sQ c.1 _).2 d) b.held (by rw[Led.funds_of c];exact h.fnd)
def Ee(h:S.Ok)(q:S.settle.1=0):S.settle.2.2.Ok/\S.settle.2.2.led.funds=S.led.funds:=by
 have e:=wj q;have c:=nC h;obtain⟨i,f⟩:=dW ({S with cal:=(eD S.cal).2,led:=(markL (eD S.cal).2.l S.led noWon).2.1}:Ven);rw[<-f]at e c;obtain⟨hp,-⟩:=vA c.led c.ord e.pay
 have b:=zI (C:=(i.pay (markL (eD S.cal).2.l S.led noWon).2.2).2.2.cal) (accts:=S.settle.2.1.accts) (i.pay (markL (eD S.cal).2.l S.led noWon).2.2).2.2.led.all 0 (i.pay (markL (eD S.cal).2.l S.led noWon).2.2).2.2.led hp.led
  (λa e=>Led.mem_find hp.led.led e) hp.led.led.sa.nodup
 have k:=(qS h.day.cal (eD S.cal).2.l S.led noWon h.day.led).2.1
 have j:S.settle.2.2.led.funds=S.led.funds:=by
  rw[e.fin];show(freeL _ _ _ _).2.funds=_;rw[b.funds,hp.funds,f];exact Led.funds_of k
 refine⟨?_,j⟩;have g:=e.fin;rw[g];refine⟨by show(i.pay _).2.2.cal.Ok;rw[hp.cal];exact c.cal,b.led,?_,by show 1<=(i.pay _).2.2.next/\_;rw[hp.next];exact c.next,by show(freeL _ _ _ _).2.funds<=_;rw[b.funds,hp.funds];exact c.fnd⟩;exact hp.ord.mono (λn p=>.inl p) (λn d=>SubL.refl λo l=>(hp.ord.bkMay n d o l).1) (λn=>SubL.refl (hp.ord.bdMay n)) (λn o _ m=>b.stands _ m) (io _)
def NG(h:C.l.map (·.spec.num)=S.cal.l.map (·.spec.num))(a k:Int):({S with cal:=C}:Ven).clear a k=((S.clear a k).1,{(S.clear a k).2 with cal:=C}):=by
 unfold Ven.clear;have e:({S with cal:=C}:Ven).nums=S.nums:=h;rw[e]
 have key:∀(b:List Int) (g:List Int) (T:Ven),b.foldl (clr1 a) (g,({T with cal:=C}:Ven))=((b.foldl (clr1 a) (g,T)).1,{(b.foldl (clr1 a) (g,T)).2 with cal:=C}):=by
  intro b;induction b with
  |nil=>intro g T;rfl
  |cons n b c=>
   intro g T;rw[ig,ig];exact c _ (clr1 a (g,T) n).2
 exact key _ [] S
def C9(a:Int):∀(b:List Int) (x:List Int×Ven),(b.foldl (clr1 a) x).2.cal=x.2.cal
 | [],x=>rfl
 |n::b,x=>by rw[ig,C9 a b];rfl
def rE(S:Ven)(a k:Int):(S.clear a k).2.cal=S.cal:=C9 _ _ _
def CH{C:sE}:∀(l:List Sd) (r:Rp) (S:Ven),C.l.map (·.spec.num)=S.cal.l.map (·.spec.num)->payL l r {S with cal:=C}=((payL l r S).1,(payL l r S).2.1,{(payL l r S).2.2 with cal:=C})
 | [],r,S,_=>rfl
 |s::l,r,S,h=>by
  unfold payL;simp only;rw[NG h];have a:({S with cal:=C}:Ven).acc s.acct=S.acc s.acct:=rfl;rw[a];cases b:s.dfl with
  |true=>
   simp only[fh];split
   ·rfl
   ·exact CH l _ {(S.clear s.acct 0).2 with led:=_} (by show _=(S.clear s.acct 0).2.cal.l.map _;rw[rE];exact h)
  |false=>
   simp only[dE,eW];split
   ·rfl
   ·exact CH l _ {S with led:=_} h
def Kp(won:Int->Int)(h:C.l.map (·.spec.num)=S.cal.l.map (·.spec.num)):({S with cal:=C}:Ven).pay won=((S.pay won).1,(S.pay won).2.1,{(S.pay won).2.2 with cal:=C}):=by
 unfold Ven.pay;simp only;have a:({S with cal:=C}:Ven).dues won=S.dues won:=rfl;rw[a];split
 ·rfl
 ·rw[CH _ _ _ h];simp only;split<;>rfl
def Bh{l:List Ct}{f:Ct->Ct}(b:∀k∈l,(f k).spec.num=k.spec.num):(lr l n f).map (·.spec.num)=l.map (·.spec.num):=by
 unfold lr;rw[dQ];refine dt λk a=>?_;show(if k.spec.num=n then f k else k).spec.num=_;split
 ·exact b k a
 ·rfl
structure L9(S:Ven)(n:Int)(S1:Ven)(won:Int->Int)(T:Ven)(r:Rp):Prop where
 due:qI S.cal n=0
 cal:(jy S.cal n)=(0,⟨S.cal.day,lr S.cal.l n λk=>{k with st:=3}⟩)
 s1:S1={S with led:=(S.led.mark n (iU S.cal.l n).1.price true).2.2}
 hwon:won=wonAdd noWon (S.led.mark n (iU S.cal.l n).1.price true).2.1
 mark:(S.led.mark n (iU S.cal.l n).1.price true).1=0
 pay:(S1.pay won).1=0
 fin:T={(S1.pay won).2.2 with cal:=(jy S.cal n).2,bk:=upd (S1.pay won).2.2.bk n (qi ((S1.pay won).2.2.bk n) 0).1,bd:=upd (S1.pay won).2.2.bd n []}
 acc:r.accts=(S1.pay won).2.1.accts
def uw(hC:S.cal.Ok){n:Int}(h:(S.expire n).1=0):L9 S n {S with led:=(S.led.mark n (iU S.cal.l n).1.price true).2.2} (wonAdd noWon (S.led.mark n (iU S.cal.l n).1.price true).2.1) (S.expire n).2.2 (S.expire n).2.1:=by
 unfold Ven.expire at h|-;simp only at h|-;by_cases j:(jy S.cal n).1≠0
 ·grind
 rw[aZ j]at h|-
 have c:qI S.cal n=0:=by
  apply dU;intro l;apply j;unfold jy;rw[bZ l];exact l
 have a:jy S.cal n=(0,⟨S.cal.day,lr S.cal.l n λk=>{k with st:=3}⟩):=by unfold jy;rw[aZ (by simp[c])]
 obtain⟨k,q,g,d,p⟩:=alive_get (zK c);have b:(iU S.cal.l n).1.spec.num=n:=by unfold iU;rw[q];exact d
 rw[b]at h|-;obtain⟨m,i⟩:=dW (S.led.mark n (iU S.cal.l n).1.price true);rw[<-i]at h|-;by_cases o:m.1≠0
 ·grind
 rw[aZ o]at h|-;have e:({S with cal:=(jy S.cal n).2,led:=m.2.2}:Ven).pay (wonAdd noWon m.2.1)=_:=Kp (S:={S with led:=m.2.2}) (C:=(jy S.cal n).2) (wonAdd noWon m.2.1) (by rw[a];exact Bh (f:=λk=>{k with st:=3}) λ_ _=>rfl);rw[e]at h|-;simp only at h|-;by_cases g:(({S with led:=m.2.2}:Ven).pay (wonAdd noWon m.2.1)).1≠0
 ·grind
 rw[aZ g]at h|-;exact⟨c,a,by rw[i],by rw[i],by grind,by simpa using g,rfl,rfl⟩
def al0(h:vg S)(n:Int):(qi (S.bk n) 0).1=λ_=>[]:=by
 rw[mass_flt (h.bkNd n)];funext d;unfold Bk.flt;rw[ii];intro o _;simp[pA]
def HG{L:Led}(h:L.Ok){n price:Int}(d:(L.mark n price true).1=0){p:Po}(hp:p∈(L.mark n price true).2.2.held):p.c≠n:=by
 intro f;have b:=Led.mark_Ok h (c:=n) (price:=price) (cl:=true);have e:=(b.pos p hp).2.2.1
 have a:(L.mark n price true).2.2.position p.c p.a=p:=by
  unfold Led.position;have:=find_unique b.sp hp;unfold Led.pos?;show(List.find? (λx=>decide (x.key=p.key)) _).getD _=p;rw[this];rfl
 have g:(L.mark n price true).2.2=L.marked (L.holders n) price true:=by
  unfold Led.mark at d|-;split at d
  ·cases d
  ·grind
 rw[g]at a;rw[Led.mark_pos h.sp,bZ f]at a;rw[<-a]at e;unfold Po.mark Po.isZ at e;simp at e
def EG(h:S.Ok){n:Int}(I:(S.expire n).1=0):(S.expire n).2.2.Ok/\(S.expire n).2.2.led.funds=S.led.funds:=by
 have t:=uw h.cal I;obtain⟨m,s⟩:=dW (S.led.mark n (iU S.cal.l n).1.price true);have A:=t.mark;rw[<-s]at t;have y:m.2.2.Ok:=by rw[s];exact Led.mark_Ok h.led.led
 have e:m.2.2.all=S.led.all/\m.2.2.fund=S.led.fund:=by rw[s];exact Led.mark_all
 have r:({S with led:=m.2.2}:Ven).Ok:=h.setLed y (by rw[s];exact sX h.led.led h.led.zero _ _ _) (λk o _ B=>(sQ e.1 _).2 B) (λp hp=>by
  rw[s]at hp;obtain⟨q,F,z⟩:=rI hp;rw[<-z];exact h.led.held q F) (by rw[Led.funds_of e];exact h.fnd)
 obtain⟨hp,-⟩:=vA r.led r.ord t.pay;obtain⟨T,G⟩:=dW ((({S with led:=m.2.2}:Ven).pay (wonAdd noWon m.2.1)).2.2);have i:=t.fin;rw[<-G]at hp i;have v:T.led.funds=S.led.funds:=by rw[hp.funds];exact Led.funds_of e
 rw[i,t.cal];have c:=sM (l:=S.cal.l) (n:=n) (f:=λk=>{k with st:=3}) (λk E _=>⟨Ck (h.cal.ok k E) qZ,rfl⟩) h.cal.ok h.cal.srt
 have u:∀x,x≠n->ex (lr S.cal.l n λk=>{k with st:=3}) x=ex S.cal.l x:=λx C=>by
  unfold ex;rw[vf (f:=λk=>{k with st:=3}) λ_ _=>rfl];cases D:eR S.cal.l x with
  |none=>rfl
  |some k=>
   have w:k.spec.num≠n:=by
    have:=jw D;simp only[dN]at this;omega
   show(if(if k.spec.num=n then _ else k).st=3 then(50:Int)else 0)=_;rw[aZ w]
 have j:∀p∈T.led.held,p.c≠n:=λp g=>by
  rw[hp.held]at g;have:p∈(S.led.mark n (iU S.cal.l n).1.price true).2.2.held:=by grind
  exact HG h.led.led A this
 refine⟨⟨⟨by show(lr _ _ _).length<=16;rw[c.2.2];exact h.cal.len,h.cal.day,c.1,c.2.1⟩,⟨hp.led.led,λp g=>?_,hp.led.zero⟩,?_,by show 1<=T.next/\_;rw[hp.next];exact h.next,by show T.led.funds<=_;rw[v];exact h.fnd⟩,v⟩
 ·show ex (lr _ _ _) _=0;rw[u _ (j p g)];have:=hp.led.held p g
  rwa[hp.cal]at this
 ·have b:∀d,upd T.bk n (qi (T.bk n) 0).1 n d=[]:=λd=>by rw[upd_self,al0 hp.ord]
  refine hp.ord.mono (λx C=>?_) (λx d=>?_) (λx=>?_) (λ_ _ _ B=>B) (io _)
  ·by_cases a:x=n
   ·subst a;right;show(upd T.bk x _ x).all++upd T.bd x [] x=[]
    unfold Bk.all;rw[b,b,upd_self];rfl
   ·left;rw[hp.cal];show ex S.cal.l x≠0;rw[<-u x a];exact C
  ·show SubL (upd T.bk n _ x d) _;by_cases a:x=n
   ·subst a;rw[b];exact⟨List.nil_sublist _,by simp⟩
   ·rw[upd_ne _ _ _ a];exact SubL.refl λo H=>(hp.ord.bkMay x d o H).1
  ·show SubL (upd T.bd n [] x) _;by_cases a:x=n
   ·subst a;rw[upd_self];exact⟨List.nil_sublist _,by simp⟩
   ·rw[upd_ne _ _ _ a];exact SubL.refl (hp.ord.bdMay x)
def Hx:∀(l:List Od) (qty a:Int),0<=qty->(∀o∈l,1<=o.left)->
  (∀f∈(pB qty l a).1,1<=f.qty/\∃b∈l,b.num=f.num/\b.acct=f.acct/\f.qty<=b.left)/\((pB qty l a).1.map (·.num)).Sublist (l.map (·.num))/\((pB qty l a).1.map (·.qty)).sum<=qty
 | [],qty,a,c,_=>⟨by simp[pB],by simp[pB],by simp[pB];exact c⟩
 |b::l,qty,a,c,e=>by
  have j:=e b cw;unfold pB;split
  ·grind
  ·rename_i i
   obtain⟨k,h,m⟩:=Hx l (qty - min qty b.left) b.price qZ λo g=>e o (cu _ g);refine⟨λf d=>?_,?_,?_⟩
   ·rcases cH.1 d with rfl|d
    ·grind
    ·grind
   ·grind
   ·grind
def Cz{L:Led}(h:L.Ok)(a:L.Zero){n f t:Int}{long:Bool}{price qty:Int}(b:pL n):(swapL L n f t long price qty).2.Ok/\(swapL L n f t long price qty).2.Zero/\((swapL L n f t long price qty).2.all=L.all/\(swapL L n f t long price qty).2.fund=L.fund)/\
  ∀p∈(swapL L n f t long price qty).2.held,p∈L.held\/p.c=n:=by
 unfold swapL;split
 ·exact⟨Led.trade_Ok h b,yW h a _ _ _ _ _,Led.trade_all,λp hp=>(yF hp).imp id (·.1)⟩
 ·exact⟨Led.trade_Ok h b,yW h a _ _ _ _ _,Led.trade_all,λp hp=>(yF hp).imp id (·.1)⟩
def FK(h:S.Ok){n f t:Int}{long:Bool}{price qty:Int}(a:ex S.cal.l n=0):({S with led:=(swapL S.led n f t long price qty).2}:Ven).Ok:=by
 obtain⟨i,d,c,g⟩:=Cz h.led.led h.led.zero (f:=f) (t:=t) (long:=long) (price:=price) (qty:=qty) (alive_u32 h.cal a);refine h.setLed i d (λn o _ j=>(sQ c.1 _).2 j) (λq e=>?_) (by rw[Led.funds_of c];exact h.fnd);rcases g q e with b|b
 ·exact h.led.held q b
 ·rw[b];exact a
def CM(d:∀o∈l,o.may=true){num qty:Int}(p:1<=qty)(j:∀o∈l,o.num=num->qty<=o.left):SubL (bidFill l num qty) l/\∀o∈bidFill l num qty,o.num≠num->o∈l:=by
 unfold bidFill;cases k:l.findIdx? λo=>decide (o.num=num)with
 |none=>exact⟨SubL.refl d,λo c _=>c⟩
 |some i=>
  obtain⟨b,f,-⟩:=eB.1 k;have a:l[i].num=num:=by simpa using f
  have g:l.getD i pC=l[i]:=by grind
  simp only;rw[g];have n:=may_left (d _ (cC b));have m:=j _ (cC b) a;split
  ·exact⟨SubL.of_sub (jB _ _) d,λo c _=>(jB _ _).mem c⟩
  ·refine⟨SubL.set d b qZ,λo c e=>?_⟩;rcases gG c with h|rfl
   ·exact h
   ·exact absurd a e
def Es{n a:Int}{long:Bool}{price:Int}:∀(l:List Fl) (left:Int) (r:Rp) (S:Ven),S.Ok->ex S.cal.l n=0->(∀f∈l,1<=f.qty/\∀o∈S.bd n,o.num=f.num->f.qty<=o.left)->(l.map (·.num)).Nodup->
  (fillsL n a long price l left r S).2.2.2.Ok/\(fillsL n a long price l left r S).2.2.2.cal=S.cal/\(fillsL n a long price l left r S).2.2.2.led.all=S.led.all/\(fillsL n a long price l left r S).2.2.2.led.fund=S.led.fund
 | [],left,r,S,h,_,_,_=>⟨h,rfl,rfl,rfl⟩
 |f::l,left,r,S,h,b,i,w=>by
  obtain⟨e,j⟩:=dA.1 w;obtain⟨q,x⟩:=i f cw;unfold fillsL;simp only;have v:=FK h (f:=a) (t:=f.acct) (long:=long) (price:=price) (qty:=f.qty) b;have u:=(Cz h.led.led h.led.zero (n:=n) (f:=a) (t:=f.acct) (long:=long) (price:=price) (qty:=f.qty) (alive_u32 h.cal b)).2.2.1;split
  ·grind
  ·obtain⟨m,s⟩:=CM (h.ord.bdMay n) q x;have p:=v.setBd (n:=n) (B:=bidFill (S.bd n) f.num f.qty) m;have z:=Es (n:=n) (a:=a) (long:=long) (price:=price) l (left - f.qty) {r with filled:=r.filled+f.qty,trades:=r.trades++[⟨price,f.qty,f.num,f.acct⟩]} _ p b (λg k=>⟨(i g (cu _ k)).1,λo c y=>?_⟩) j
   ·grind
   ·replace c:o∈upd S.bd n (bidFill (S.bd n) f.num f.qty) n:=c;rw[upd_self]at c;have d:o.num≠f.num:=λA=>e (by grind);exact(i g (cu _ k)).2 o (s o c d) y
def Ev{n a:Int}{long:Bool}{price:Int}:∀(l:List Hd) (r:Rp) (S:Ven),S.Ok->ex S.cal.l n=0->(partsL n a long price l r S).2.2.Ok/\(partsL n a long price l r S).2.2.cal=S.cal/\(partsL n a long price l r S).2.2.led.all=S.led.all/\(partsL n a long price l r S).2.2.led.fund=S.led.fund
 | [],r,S,h,_=>⟨h,rfl,rfl,rfl⟩
 |x::l,r,S,h,b=>by
  unfold partsL;simp only;have e:=FK h (f:=a) (t:=x.acct) (long:=long) (price:=price) (qty:=x.q) b;have c:=(Cz h.led.led h.led.zero (n:=n) (f:=a) (t:=x.acct) (long:=long) (price:=price) (qty:=x.q) (alive_u32 h.cal b)).2.2.1;split
  ·grind
  ·have d:=Ev (n:=n) (a:=a) (long:=long) (price:=price) l {r with left:=r.left+x.q,trades:=r.trades++[⟨price,x.q,0,x.acct⟩]} _ e b;exact⟨d.1,d.2.1,d.2.2.1.trans c.1,d.2.2.2.trans c.2⟩
def Dn{sells:Bool}{qty:Int}(a:∀o∈l,o.may=true)(d:0<=qty):(∀f∈(pG sells qty l).2.1,1<=f.qty/\∃b∈l,b.num=f.num/\b.acct=f.acct/\f.qty<=b.left)/\((l.map (·.num)).Nodup->((pG sells qty l).2.1.map (·.num)).Nodup)/\((pG sells qty l).2.1.map (·.qty)).sum<=qty:=by
 unfold pG;split
 ·grind
 ·split
  ·grind
  ·have hp:=Srt.stable_perm (TM (sC sells)) l;obtain⟨i,h,e⟩:=Hx (Srt.stable (TM (sC sells)) l) qty 0 d λo c=>(may_left (a o (hp.mem_iff.1 c))).1;refine⟨λf g=>?_,λj=>?_,e⟩
   ·grind
   ·grind
def LD(h:S.Ok){k:Ct}{a q:Int}{r:Rp}(y:ex S.cal.l k.spec.num=0):(S.sell k a q r).2.2.Ok/\(S.sell k a q r).2.2.cal=S.cal/\(S.sell k a q r).2.2.led.all=S.led.all/\(S.sell k a q r).2.2.led.fund=S.led.fund:=by
 unfold Ven.sell;simp only;obtain⟨c,e⟩:=dW (decide (0<q):Bool);rw[<-e];obtain⟨l,u⟩:=dW ((S.bd k.spec.num).filter λo=>o.buy==c);rw[<-u];split
 ·grind
 ·have i:∀o∈l,o∈S.bd k.spec.num:=λo g=>by rw[u]at g;exact(cO.1 g).1
  obtain⟨z,E,I⟩:=Dn (sells:=c) (qty:=max q (-q)) (l:=l) (λo g=>h.ord.bdMay _ o (i o g)) qZ;have v:(l.map (·.num)).Nodup:=(h.ord.bdNd k.spec.num).sublist (by rw[u];exact jv.map _);have d:=Es (n:=k.spec.num) (a:=a) (long:=c) (price:=(pG c (max q (-q)) l).1) (pG c (max q (-q)) l).2.1 (max q (-q)) r S h y (λf B=>⟨(z f B).1,λo g G=>?_⟩) (E v)
  ·obtain⟨F,t⟩:=dW (fillsL k.spec.num a c (pG c (max q (-q)) l).1 (pG c (max q (-q)) l).2.1 (max q (-q)) r S);rw[<-t]at d|-;obtain⟨H,w⟩:=dW (if c=true then F.2.1 else -F.2.1);rw[<-w];split
   ·exact d
   ·split
    ·exact d
    ·split
     ·exact d
     ·have j:=Ev (n:=k.spec.num) (a:=a) (long:=c) (price:=k.price) (qT H (((F.2.2.2.led.holders k.spec.num).filter λp=>decide (p.a≠a)).map λp=>⟨p.a,p.q⟩)).1 F.2.2.1 F.2.2.2 d.1 (by grind);exact⟨j.1,j.2.1.trans d.2.1,j.2.2.1.trans d.2.2.1,j.2.2.2.trans d.2.2.2⟩
  ·obtain⟨-,b,D,x,-,m⟩:=z f B
   have s:o=b:=by
    have A:=sdGet_some (h.ord.bdNd _) g;have C:=sdGet_some (h.ord.bdNd _) (i b D);rw[G,<-x,C]at A;exact(dB A).symm
   rw[s];exact m
def EW(h:S.Ok){n a:Int}(b:(S.led.position n a).q≠0):ex S.cal.l n=0:=by
 unfold Led.position at b;cases hp:S.led.pos? (n,a)with
 |none=>rw[hp]at b;exact absurd rfl b
 |some p=>
  obtain⟨d,c⟩:=Led.pos_mem hp;have:=h.led.held p d;have e:p.c=n:=fC (·.1) c
  rwa[e]at this
def xf{a:Int}:∀(l:List Ct) (r:Rp) (S:Ven),S.Ok->(sellL a l r S).2.2.Ok/\(sellL a l r S).2.2.cal=S.cal/\(sellL a l r S).2.2.led.all=S.led.all/\(sellL a l r S).2.2.led.fund=S.led.fund
 | [],r,S,h=>⟨h,rfl,rfl,rfl⟩
 |k::l,r,S,h=>by
  unfold sellL;simp only;split
  ·exact xf l r S h
  ·rename_i d
   have b:=LD h (k:=k) (a:=a) (q:=(S.led.position k.spec.num a).q) (r:=r) (EW h d);split
   ·exact b
   ·have c:=xf (a:=a) l (S.sell k a (S.led.position k.spec.num a).q r).2.1 _ b.1;exact⟨c.1,c.2.1.trans b.2.1,c.2.2.1.trans b.2.2.1,c.2.2.2.trans b.2.2.2⟩
def Fk(h:S.Ok)(a:Ac):(S.liquidate a).2.2.Ok/\(S.liquidate a).2.2.led.all=S.led.all/\(S.liquidate a).2.2.led.fund=S.led.fund:=by
 unfold Ven.liquidate;split
 ·exact⟨h,rfl,rfl⟩
 ·have:=xf (a:=a.num) S.cal.l zRp S h;exact⟨this.1,this.2.2⟩
def TV(h:S.Ok){c:Cm}(d:c.Fit)(a:(S.done c).1=0):(S.done c).2.2.Ok:=by
 unfold Ven.done at a|-;by_cases k1:c.kind=1
 ·rw[bZ k1];exact I5 h d.2.1
 rw[aZ k1]at a|-;by_cases k2:c.kind=2
 ·rw[bZ k2];exact Bc h
 rw[aZ k2]at a|-;by_cases k3:c.kind=3
 ·rw[bZ k3]at a|-;simp only at a|-;rw[bZ a];exact SO h d.2.2.2.2.2.1 a
 rw[aZ k3]at a|-;by_cases k4:c.kind=4
 ·rw[bZ k4];exact Tl h _ _
 rw[aZ k4]at a|-;by_cases k11:c.kind=11
 ·rw[bZ k11];exact I3 h _ _
 rw[aZ k11]at a|-;by_cases k12:c.kind=12
 ·rw[bZ k12]at a|-;exact(Ee h a).1
 rw[aZ k12]at a|-;by_cases k14:c.kind=14
 ·rw[bZ k14]at a|-;exact(EG h a).1
 rw[aZ k14]at a|-;by_cases b:c.acct=0
 ·grind
 rw[aZ b]at a|-;by_cases k6:c.kind=6
 ·rw[bZ k6];exact cancel_ok h
 rw[aZ k6]at a|-;by_cases k7:c.kind=7
 ·rw[bZ k7]at a|-;exact replace_ok h d b a
 rw[aZ k7]at a|-;by_cases e:S.led.getO c.acct=none
 ·grind
 rw[aZ e]at a|-;by_cases k5:c.kind=5
 ·rw[bZ k5]at a|-;exact place_ok h d b a
 rw[aZ k5]at a|-;by_cases k9:c.kind=9
 ·rw[bZ k9]at a|-;exact bid_ok h d b a
 rw[aZ k9]at a|-;by_cases k8:c.kind=8
 ·rw[bZ k8]at a|-;split
  ·exact h
  ·exact h.clear b
 rw[aZ k8]at a|-;by_cases k10:c.kind=10
 ·rw[bZ k10];exact Ug h b d.2.1 e c.on
 rw[aZ k10]at a|-;by_cases k13:c.kind=13
 ·rw[bZ k13];exact(Fk h _).1
 rw[aZ k13];exact h
def mV(h:S.Ok){c:Cm}(b:c.Fit):(S.apply c).2.Ok:=by
 unfold Ven.apply;split
 ·exact h
 ·simp only;split
  ·exact h
  ·rename_i a
   exact TV h b (by simpa using a)
def qX:Ven.empty.Ok:=by
 refine⟨⟨by show(0:Nat)<=16;omega,⟨by show(0:Int)<=0;omega,by show(0:Int)<4294967296;omega⟩,λk c=>(by cases c),List.Pairwise.nil⟩,⟨⟨⟨by show(0:Int)<=0;omega,by show(0:Int)<=MF;unfold MF;omega⟩,List.Pairwise.nil,List.Pairwise.nil,by show(0:Nat)<=64;omega,λa e=>(by cases e),λp hp=>(by cases hp)⟩,λp hp=>(by cases hp),Led.empty_zero⟩,
  ⟨λn _=>rfl,λn d=>⟨by show(0:Nat)<=100;omega,λo b=>(by cases b)⟩,λn o b=>(by cases b),λn=>nB,λn m o f b=>(by cases b),λn=>(by show(0:Nat)<=50;omega)⟩,⟨by show(1:Int)<=1;omega,by show(1:Int)<=maxNum+1;unfold maxNum;omega⟩,by show(0+(0:Int))<=MF;unfold MF;omega⟩
end Go.Proofs
namespace Go.Proofs
open Go Go.Vc
attribute [local congr] cR
variable {q:Int}{s:Stk}{x:Stk×Value}{T:TypeId}{w:Wt_}{K:cG}
abbrev zg:TypeId:=97
def uh(x:Stk×Value):List Value:=wX x.1.leg++[.int .i64 x.1.basis,gI x.1.price,x.2]
def tq(x:Stk×Value):(uh x).length=29:=by simp[uh,kZ]
def K1(x:Stk×Value)(h:∃a n c,x.2=.slice a n c):(uh x).all (·.oneCell')=true:=by
 obtain⟨a,n,c,h⟩:=h;rw[uh,gj,FT,h];rfl
def skT(x:Stk×Value)(i:Nat)(h:i<26):(uh x)[i]? =(wX x.1.leg)[i]? :=by rw[uh,dC (by rw[kZ];omega)]
def R0(x:Stk×Value):(uh x)[25]? =some (gI x.1.leg.q):=by rw[skT x 25 qZ,QU]
def Wf(x:Stk×Value):(uh x)[26]? =some (gI x.1.basis):=by rw[uh,cQ (by rw[kZ];omega),kZ];rfl
def KO(x:Stk×Value):(uh x)[27]? =some (gI x.1.price):=by rw[uh,cQ (by rw[kZ];omega),kZ];rfl
def En(x:Stk×Value):(uh x)[28]? =some x.2:=by rw[uh,cQ (by rw[kZ];omega),kZ];rfl
def Zk:Tryz.prog.cellsOf zg=28+1:=cU
def aSk:pY pQ zg=true:=cU
def zSk:se pQ zg=true:=cU
def aD0:(lT pQ zg).length=28+1:=cU
def aj6:Tryz.prog.underlying 88=some (.slice zg):=cU
def eSk:lN pQ zg 29 240=true:=cU
def PI{b:Nat}(h:hC w b (uh x).toArray T):At w b 0 (jA x.1.leg.spec):=by
 have:=(At.all h).sub 0 25 (by rw[tq];omega);rw[iw,uh,wX,df,dh (by rw[dP];omega),cT (by rw[dP];omega)]at this;exact this
def Tb{b:Nat}(h:hC w b (uh x).toArray T):At w b 6 (xD x.1.leg.spec.shifts):=by
 have:=(PI h).sub 6 16 (by rw[dP];omega);rw[xK]at this;simpa using this
def Stk.Fit(s:Stk):Prop:=s.leg.spec.Fit/\jl s.leg.q/\jl s.basis/\jl s.price/\∀o∈s.ords,o.Fit
def Uh(s:Rd w 5 x.2 x.1.ords.length (x.1.ords.flatMap fL))(hn:x.1.ords.length<=1000000)(T:x.1.Fit)
  (n:∀M,M0 w M->K (.bool x.1.ok) M):Ca pQ 59 #[.agg (uh x).toArray] w K:=by
 obtain⟨Y,Q,f3,f4,f5⟩:=T;apply aB4;have J:M0 w (w.alloc (.cells (uh x).toArray zg)):=lm;have e:hC (w.alloc (.cells (uh x).toArray zg)) w.heap.size (uh x).toArray zg:=by simp[go_sem]
 apply cx (pt w.heap.size 0) (w.alloc (.cells (uh x).toArray zg)) rfl;obtain⟨p,E⟩:=dW w.heap.size;rw[<-E]at e|-;generalize w.alloc (.cells (uh x).toArray zg)=w1 at J e|-;obtain⟨sa,sc,k⟩:=s.isSl;have a:∀{W:Wt_},(builtin .len #[95] 3 #[false] #[x.2]).run pQ W=.ok (.value (gI (x.1.ords.length:Int))) W:=λ{W}=>by rw[k];simp[go_sem]
 obtain⟨P,B⟩:=dW ((amongB x.1.basis (-1000000000000000) 1000000000000000&& amongB x.1.leg.q (-10000000) 10000000&& x.1.leg.spec.isPrice x.1.price&& decide (x.1.ords.length<=250)):Bool);refine dK.at (λst W=>st=(.bool (!P),())/\M0 w1 W) ?_ ?_
 ·refine qS0 ?_;refine qS2 e Wf ?_;apply lH f3 qZ;refine qS0 ?_;rw[cy];cases h1:amongB x.1.basis (-1000000000000000) 1000000000000000 with
  |false=>
   rw[bZ (by simp)];exact⟨by rw[B,h1];rfl,lX⟩
  |true=>
  rw[aZ (by simp)];refine qS0 ?_;refine qS0 ?_;refine qS2 e R0 ?_;apply lH Q qZ;refine qS0 ?_;rw[cy];cases h2:amongB x.1.leg.q (-10000000) 10000000 with
  |false=>
   rw[bZ (by simp)];exact⟨by grind,lX⟩
  |true=>
  rw[aZ (by simp)];refine qS0 ?_;refine qS0 ?_;apply jq (jA x.1.leg.spec) 24 DW Cc (dP _) (PI e);refine qS0 ?_;refine qS2 e KO ?_;refine wL Y λr g=>?_;have D:=g.hpk e id;refine qS0 ?_;rw[cy];cases h3:x.1.leg.spec.isPrice x.1.price with
  |false=>
   rw[bZ (by simp)];exact⟨by grind,g⟩
  |true=>
  rw[aZ (by simp)];refine qS0 ?_;apply cx x.2 r (by rw[k];simp[go_sem,D,En,k]);apply mB a
  refine cx (.bool (!decide (x.1.ords.length<=250))) r (by
   by_cases h:x.1.ords.length<=250
   ·have A:¬(250:Int)<(x.1.ords.length:Int):=qZ;simp[go_sem,h,A]
   ·have A:(250:Int)<(x.1.ords.length:Int):=qZ;simp[go_sem,h,A]) ?_
  exact⟨by grind,g⟩
 rintro _ r ⟨rfl,g⟩;unfold VN;intro _;rw[cy];have L:=J.trans g;cases j:P with
 |false=>
  rw[bZ (by simp)];have f:=n r L
  have:x.1.ok=false:=by
   unfold Stk.ok;rw[<-B,j];rfl
  rw[this]at f;exact f
 |true=>
 rw[aZ (by simp)];have t:x.1.ok=x.1.ords.all (·.may):=by unfold Stk.ok;rw[<-B,j];rfl
 rw[t]at n;have D:=g.hpk e id;refine qS0 ?_;apply cx x.2 r (by rw[k];simp[go_sem,D,En,k]);apply mB a;obtain⟨l,Z⟩:=dW x.1.ords;rw[<-Z]at s hn f5 n a|-
 refine eS (λst W=>∃(i:Nat) (y:Vt_),i<=l.length/\st=(y,gI i,())/\M0 w W/\(l.take i).all (·.may)=true)
  (λst _=>match st.2.1 with| .int _ i=>l.length - i.toNat|_=>0) ⟨0,_,qZ,rfl,L,rfl⟩ ?_
 rintro⟨_,_,_⟩ W ⟨i,y,hi,⟨⟩,z,c⟩ KN u;unfold WL;intro _;by_cases d:i<l.length
 ·have m:(i:Int)<(l.length:Int):=qZ;refine qSt1 m ?_;obtain⟨b,v,cap,C,G,S⟩:=(s.mod z eQ).item gM d rfl;apply cx (pt b (v+i*5)) W (by rw[C];simp[go_sem,d,cS,mH]);apply cI (lM (o:=l[i]) S);obtain⟨w3,e3,F,X⟩:=kD W;apply cI e3;obtain⟨q,hq⟩:=dW W.heap.size;rw[<-hq]at F|-;obtain⟨V,e4,b4,R⟩:=jK (o' :=l[i]) F;apply ir e4;apply cI (lM (o:=l[i]) (At.all b4));have U:M0 W V:=X.on R λb hb=>gz;refine Ab λN O=>?_;have I:=(z.trans U).trans O;refine qS0 ?_;rw[cy];cases H:l[i].may with
  |false=>
   rw[bZ (by simp)];have f:=n N I;have:l.all (·.may)=false:=nI.2 ⟨l[i],cC d,by rw[H];simp⟩;rw[this]at f;exact f
  |true=>
   rw[aZ (by simp)];apply cx (gI ((i+1:Nat):Int)) N (by simp[go_sem];rw[wI_]);refine u _ _ ⟨i+1,_,qZ,rfl,I,?_⟩ (by grind);rw[eA d,gj,c,qq,H];rfl
 ·obtain rfl:i=l.length:=qZ;refine qSf0 ?_;rw[cN]at c;have f:=n W z;rw[c]at f;exact f
def IT{p:Nat}(h:hC w p (uh x).toArray T)(c:x.1.leg.spec.Fit)(b:jl q)
  (d:∀a,M0 w a->K (gI (x.1.at q)) a):Ca pQ 112 #[.int .i64 q,.pointer (some ⟨p,0,none⟩)] w K:=by
 apply am2;refine qS0 ?_;refine qS0 ?_;refine qS0 ?_;apply jq (xD x.1.leg.spec.shifts) 15 Y2 Y4 (rh _) (Tb h);refine Uj c.2.2.2.2.2.2.1 b λa e=>?_;refine qS0 ?_;refine qS0 ?_;exact d a e
def MA(l:List Od)(o:Od)(buy:Bool):sumB (l++[o]) buy=sumB l buy+(if o.buy=buy then o.left else 0):=by
 unfold sumB;rw[dJ,dy,g9];congr 1;by_cases h:o.buy=buy
 ·grind
 ·grind
def Ci{l:List Od}{buy:Bool}(h:∀o∈l,o.may=true):0<=sumB l buy/\sumB l buy<=l.length*1000000:=by
 have d:=vu (l:=(l.filter λo=>o.buy==buy).map (·.left)) (B:=1000000) λx b=>by
  obtain⟨o,a,rfl⟩:=cF.1 b;have:=Od.left_bd (h o (cO.1 a).1);omega
 have c:((l.filter λo=>o.buy==buy).map (·.left)).length<=l.length:=by grind
 unfold sumB;have e:(((l.filter λo=>o.buy==buy).map (·.left)).length:Int)*1000000<=l.length*1000000:=qZ;omega
def LA{price:Int}(hp:1<=price/\price<=10000000){o:Od}(h:o.may=true):0<=wOne price o/\wOne price o<=10000000000000:=by
 have e:=Od.left_bd h;have d:=Od.price_bd h;unfold wOne
 have key:∀a:Int,0<=a->a<=10000000->0<=a*o.left/\a*o.left<=10000000000000:=λa c f=>by
  have:=E3 (a:=a) (b:=o.left) (A:=10000000) (B:=1000000) qZ qZ;have g:0<=a*o.left:=lU c qZ;omega
 split
 ·exact key _ qZ qZ
 ·exact key _ qZ qZ
def Kr{price:Int}(hp:1<=price/\price<=10000000){l:List Od}(h:∀o∈l,o.may=true):0<=(l.map (wOne price)).sum/\(l.map (wOne price)).sum<=l.length*10000000000000:=by
 have:=vu (l:=l.map (wOne price)) (B:=10000000000000) λx b=>by
  obtain⟨o,a,rfl⟩:=cF.1 b;exact LA hp (h o a)
 rwa[cz]at this
def Jc{B:Int}(i: -B<=q/\q<=B)(f:0<=B):∀{l:List Int},(∀x∈l,-10000000<=x/\x<=10000000)->0<=oQ l q/\oQ l q<=B*10000000:=by
 intro l
 have key:∀(l:List Int) (m:Int),(∀x∈l,-10000000<=x/\x<=10000000)->0<=m/\m<=B*10000000->0<=l.foldl (λm s=>max m (-q*s)) m/\l.foldl (λm s=>max m (-q*s)) m<=B*10000000:=by
  intro l;induction l with
  |nil=>intro m _ h;exact h
  |cons x l e=>
   intro m c j;rw[ig];have g:=E3 (a:= -q) (b:=x) (A:=B) (B:=10000000) qZ (c x (by simp));exact e _ (λy d=>c y (by simp[d])) qZ
 exact λh=>key l 0 h ⟨qZ,lU f qZ⟩
def EC(a:s.leg.spec.may=true)(b: -1000000000<=q/\q<=1000000000):0<=s.at q/\s.at q<=10000000000000000:=by
 unfold Stk.at yx;split
 ·grind
 ·exact Jc (B:=1000000000) b qZ (A3 a).1
def Ih{s:Sp}{p:Int}(h:s.isPrice p=true):s.may=true:=by
 unfold Sp.isPrice at h;rw[cL]at h;exact h.1
structure Stk.OkF(s:Stk):Prop where
 basis: -1000000000000000<=s.basis/\s.basis<=1000000000000000
 q: -10000000<=s.leg.q/\s.leg.q<=10000000
 may:s.leg.spec.may=true
 price:1<=s.price/\s.price<=10000000
 len:s.ords.length<=250
 ords:∀o∈s.ords,o.may=true
def Stk.okF(h:s.ok=true):s.OkF:=by
 unfold Stk.ok at h;simp only[cL]at h;obtain⟨⟨⟨⟨e,c⟩,a⟩,d⟩,f⟩:=h;exact⟨amongB_iff.1 e,amongB_iff.1 c,Ih a,tS a,dR d,λo b=>dF.1 f o b⟩
def Stk.worst_bd(h:s.ok=true):0<=s.worst/\s.worst<=12500000000000000:=by
 obtain⟨n,m,j,k,o,i⟩:=Stk.okF h;have a:=Kr k i;have b:=Ci (buy:=true) i;have c:=Ci (buy:=false) i;have l:(s.ords.length:Int)<=250:=qZ;have d:=EC (q:=s.leg.q+sumB s.ords true) j qZ;have e:=EC (q:=s.leg.q - sumB s.ords false) j qZ;have f:=EC (q:=s.leg.q) j qZ;unfold Stk.worst;have g:(s.ords.length:Int)*10000000000000<=250*10000000000000:=qZ;omega
def Ny(H:Rd w 5 x.2 x.1.ords.length (x.1.ords.flatMap fL))(hf:x.1.Fit)(J:x.1.ok=true)
  (hK:∀w',M0 w w' ->K (gI x.1.worst) w'):Ca pQ 61 #[.agg (uh x).toArray] w K:=by
 obtain⟨S,f2,f3,f4,f5⟩:=hf;obtain⟨k1,k2,k3,k4,k5,k6⟩:=Stk.okF J;apply aw4;have m1:M0 w (w.alloc (.cells (uh x).toArray zg)):=lm;have E:hC (w.alloc (.cells (uh x).toArray zg)) w.heap.size (uh x).toArray zg:=by simp[go_sem]
 apply cx (pt w.heap.size 0) (w.alloc (.cells (uh x).toArray zg)) rfl;obtain⟨p,V⟩:=dW w.heap.size;rw[<-V]at E|-;generalize w.alloc (.cells (uh x).toArray zg)=w1 at m1 E|-;obtain⟨sa,sc,P⟩:=H.isSl;refine qS0 ?_;apply cx x.2 w1 (by rw[P];simp[go_sem,E,En,P]);apply jm (gI (x.1.ords.length:Int)) w1 (by rw[P];simp[go_sem]);obtain⟨l,hl⟩:=dW x.1.ords;have g:x.1.worst=(l.map (wOne x.1.price)).sum+max 0 (max (x.1.at (x.1.leg.q+sumB l true)) (x.1.at (x.1.leg.q - sumB l false)) - x.1.at x.1.leg.q):=by rw[hl];rfl
 rw[<-hl]at H f5 k5 k6|-;obtain⟨a,z⟩:=dW x.1.price;rw[<-z]at k4 g
 refine eS (λst W=>∃i:Nat,i<=l.length/\st=(gI ((l.take i).map (wOne a)).sum,gI (sumB (l.take i) true),gI (sumB (l.take i) false),gI i,())/\M0 w W/\hC W p (uh x).toArray zg)
  (λst _=>match st.2.2.2.1 with| .int _ i=>l.length - i.toNat|_=>0) ⟨0,qZ,rfl,m1,E⟩ ?_
 rintro⟨_,_,_,_,_⟩ W ⟨i,hi,⟨⟩,Q,D⟩ KN N;unfold VZ;intro _;have G:∀o∈l.take i,o.may=true:=λo h=>k6 o (ek h);have tl:((l.take i).length:Int)<=250:=by grind
 have s1:=Kr k4 G;have s2:=Ci (buy:=true) G;have s3:=Ci (buy:=false) G;by_cases v:i<l.length
 ·have C:(i:Int)<(l.length:Int):=qZ;refine qSt1 C ?_;obtain⟨b,O,cap,U,Z,hA⟩:=(H.mod Q eQ).item gM v rfl;apply cx (pt b (O+i*5)) W (by rw[U];simp[go_sem,v,cS,mH]);apply cI (lM (o:=l[i]) hA);obtain⟨w3,e3,Y,F⟩:=kD W;apply cI e3;obtain⟨q,hq⟩:=dW W.heap.size;rw[<-hq]at Y|-;obtain⟨c,e4,r,L⟩:=jK (o' :=l[i]) Y;apply ir e4;have M4:M0 W c:=F.on L λb X=>gz;have y:=M4.hpk D id;have B:=eA v;obtain⟨o,M⟩:=dW (l[i]);rw[<-M]at r B;have u:o.may=true:=k6 o (by grind);have ol:=Od.left_bd u;have op:=Od.price_bd u;have ow:=LA k4 u;unfold fL at r
  have k:∀b s:Int,b=sumB (l.take (i+1)) true->s=sumB (l.take (i+1)) false->KN (gI (((l.take (i+1)).map (wOne a)).sum),gI b,gI s,gI ((i+1:Nat):Int),()) c:=λb s X R=>by
   subst X R;exact N _ _ ⟨i+1,qZ,rfl,Q.trans M4,y⟩ (by grind)
  have I:((l.take (i+1)).map (wOne a)).sum=((l.take i).map (wOne a)).sum+wOne a o:=by grind
  have A:∀d,sumB (l.take (i+1)) d=sumB (l.take i) d+(if o.buy=d then o.left else 0):=λd=>by rw[B,MA]
  have n:=A true;have m:=A false;rw[I]at k;refine qS0 ?_;refine qS1 r ?_;have j:wOne a o=if o.buy=true then max 0 (o.price - a)*o.left else max 0 (a - o.price)*o.left:=by unfold wOne;rfl
  cases t:o.buy with
  |true=>
   rw[t]at n m j;rw[bZ rfl]at j;rw[kx];refine qS0 ?_;refine qS1 r ?_;apply cx (gI (sumB (l.take i) true+o.left)) c (Aa ⟨qZ,qZ⟩);refine qS0 ?_;refine qS1 r ?_;refine qS0 ?_;refine qSv3 (gI a) y KO z ?_;apply cx (gI (o.price - a)) c (DD ⟨qZ,qZ⟩);refine qN0 ?_;refine qS0 ?_;refine qS1 r ?_;apply cx (gI (wOne a o)) c (by simp only[go_sem];simp;rw[<-j,wI_]);apply cx (gI (((l.take i).map (wOne a)).sum+wOne a o)) c (Aa ⟨qZ,qZ⟩);apply cx (gI ((i+1:Nat):Int)) c (by simp[go_sem];rw[wI_]);exact k _ _ (by rw[n];rfl) (by rw[m];simp)
  |false=>
   rw[t]at n m j;rw[aZ (by simp)]at j;rw[gP];refine qS0 ?_;refine qS1 r ?_;apply cx (gI (sumB (l.take i) false+o.left)) c (Aa ⟨qZ,qZ⟩);refine qS0 ?_;refine qSv3 (gI a) y KO z ?_;apply cI (by simp[-Int.natCast_add,go_sem]<;>first|exact sI|exact rfl);apply cI (by simp[-Int.natCast_add,go_sem,r]<;>first|exact sI|exact rfl);apply cx (gI (a - o.price)) c (DD ⟨qZ,qZ⟩);refine qN0 ?_;refine qS0 ?_;refine qS1 r ?_;apply cx (gI (wOne a o)) c (by simp only[go_sem];simp;rw[<-j,wI_]);apply cx (gI (((l.take i).map (wOne a)).sum+wOne a o)) c (Aa ⟨qZ,qZ⟩);apply cx (gI ((i+1:Nat):Int)) c (by simp[go_sem];rw[wI_]);exact k _ _ (by rw[n];simp) (by rw[m];rfl)
 ·obtain rfl:i=l.length:=qZ;refine qSf0 ?_;rw[cN]at s1 s2 s3|-;refine qS0 ?_;refine qS0 ?_;refine qS2 D R0 ?_;apply cx (gI (x.1.leg.q+sumB l true)) W (Aa ⟨qZ,qZ⟩);apply oe.2;show Ca pQ 112 #[.int .i64 (x.1.leg.q+sumB l true),.pointer (some ⟨p,0,none⟩)] W _;refine IT D S ⟨qZ,qZ⟩ λw2 T=>?_;apply cx (gI (x.1.leg.q - sumB l false)) w2 (DD ⟨qZ,qZ⟩);apply oe.2;show Ca pQ 112 #[.int .i64 (x.1.leg.q - sumB l false),.pointer (some ⟨p,0,none⟩)] w2 _;refine IT (T.hpk D id) S ⟨qZ,qZ⟩ λw3 F=>?_;have d:=EC (s:=x.1) (q:=x.1.leg.q+sumB l true) k3 qZ;have e:=EC (s:=x.1) (q:=x.1.leg.q - sumB l false) k3 qZ;have f:=EC (s:=x.1) (q:=x.1.leg.q) k3 qZ;refine qN0 ?_;apply oe.2;show Ca pQ 112 #[.int .i64 x.1.leg.q,.pointer (some ⟨p,0,none⟩)] w3 _;refine IT (F.hpk (T.hpk D id) id) S f2 λc L=>?_;apply cx (gI (max (x.1.at (x.1.leg.q+sumB l true)) (x.1.at (x.1.leg.q - sumB l false)) - x.1.at x.1.leg.q)) c (DD ⟨qZ,qZ⟩);refine qN0 ?_;apply cx (gI x.1.worst) c (by rw[g];exact Aa ⟨qZ,qZ⟩);exact hK c (((Q.trans T).trans F).trans L)
end Go.Proofs
