/- Part of a proof. -/
import Derived.Test.YtekbnpagidkbbaaGreatQ15
set_option linter.all false
namespace Go.Proofs
open Go Go.Vc
attribute [local congr] aZ
variable {rs:List Rt}{b:Nat}{w:Wt_}
abbrev Dz:TypeId:=478
def ab7:Tryz.prog.underlying Dz=some (.array 9 477):=cy
def nRt:Tryz.prog.cellsOf 477=3+1:=cy
def rQ(w:Wt_)(b:Nat)(rs:List Rt):Prop:=hp w b=some (.cells (rs.flatMap HO).toArray Dz (0,0))/\rs.length=9
def rQ.mod{F:NP_}{w' :Wt_}(h:rQ w b rs)(a:aS F w w')(c:¬F b):rQ w' b rs:=⟨a.hpk h.1 c,h.2⟩
def rQ.ld(h:rQ w b rs){i:Nat}(hi:i<9){j:Nat}(a:j<4){x:Int}(c:(HO (rs[i]'(by rw[h.2];exact hi)))[j]? =some (gI x)):
  (iL 2 (bO b (i*4+j))).run pQ w=.ok (gI x) w:=by
 have:=rY td a rs i (by rw[h.2];exact hi);rw[c]at this;simp[go_sem,h.1,this]
def rQ.st(h:rQ w b rs){i:Nat}(hi:i<9){j:Nat}(f:j<4){x:Int}{r' :Rt}(k:(HO (rs[i]'(by rw[h.2];exact hi))).set j (gI x)=HO r'):
  ∃d,(iS 2 (bO b (i*4+j)) (gI x)).run pQ w=.ok () d/\rQ d b (rs.set i r')/\aS (λy=>y=b) w d:=by
 have e:i<rs.length:=by rw[h.2];exact hi
 have a:=CG td f rs i e k;have c:i*4+j<(rs.flatMap HO).length:=by rw[tN td,h.2];omega
 have g:(rs.flatMap HO)[i*4+j]? =some ((rs.flatMap HO)[i*4+j]):=aq c;refine⟨w.setCell ⟨b,i*4+j,none⟩ (gI x),by simp[go_sem,h.1,g],⟨?_,by rw[bK,h.2]⟩,(aS.refl (λy=>y=b) w).sc⟩;rw[jY,ae rfl,h.1,eM,bP,a]
def rQ.ix{i:Nat}(hi:i<9)(k:IntKind)(W:Wt_):(iX Dz (bO b 0) (.int k (i:Int))).run pQ W=.ok (bO b (i*4)) W:=by
 have a:¬(9:Int)<=(i:Int):=qZ;simp[go_sem,hi,a,bD,ab7,Program.elem,Go.Vc.kZ nRt]
def ur(b o j:Nat)(a:j<4)(W:Wt_):(iF 477 (bO b o) j).run pQ W=.ok (bO b (o+j)) W:=by
 rcases(show j=0\/j=1\/j=2\/j=3 by omega)with rfl|rfl|rfl|rfl<;>simp[go_sem,bD]
def za{x y:Int}{W:Wt_}(h:eP (x+y)):(gx .add 2 false (gI x) (gI y)).run pQ W=.ok (gI (x+y)) W:=by
 simp[go_sem];rw[fI h.1 h.2]
def Ny{W:Wt_}{q:Nat}{x:Lg}{k:Int}{R:Value×Value×Value×Unit->World->Prop}{K:aY}{s1 s2:Vt_}{i:Nat}(hR:rQ W b rs)(U:hp W q=some (.cells (tV x).toArray 412 (0,0)))(hbq:b≠q)(hi:i<=1000)(hk:0<=k/\k<=100)(hbd:∀r∈rs,r.Bd k)(hok:ye x=true)(hfit:x.spec.Fit)
  (hK:∀o,rQ o b (mh rs x)->aS (λy=>y=b) W o->R (s1,s2,gI ((i+1:Nat):Int),()) o):
  Q5 K (bO q 0) (s1,s2,gI (i:Int),()) R (bO b 0) (.bool false,()) W:=by
 have f:=hok;unfold ye at f;rw[ao]at f;obtain⟨p1,p2,p3,p4,p5⟩:=yf f.1;have Y:=bF f.2;unfold Q5;intro _;rw[ij];have t:∀W,hp W q=some (.cells (tV x).toArray 412 (0,0))->(iL 2 (bO q 25)).run pQ W=.ok (gI x.q) W:=λW h=>by simp[go_sem,h,PV]
 have H:∀W,hp W q=some (.cells (tV x).toArray 412 (0,0))->(iL 2 (bO q 22)).run pQ W=.ok (gI x.spec.credit) W:=λW h=>by simp[go_sem,h,ZT,XA]
 refine lY (bO q 25) (bh (t _ U) ?_);by_cases v:x.q=0
 ·refine dB v ?_;apply ax (gI ((i+1:Nat):Int)) W (by simp[go_sem];rw[lL]);have e:mh rs x=rs:=by unfold mh;rw[ae v]
  have Z:=hK W (by rw[e];exact hR) oU;exact Z
 refine ey v ?_;obtain⟨n,hn⟩:=df (x.spec.route.toNat:Nat);have hnr:x.spec.route=(n:Int):=qZ;have a:n<9:=qZ;have hnl:n<rs.length:=by rw[hR.2];exact a
 obtain⟨r,hr⟩:=df (rs[n]);have hrb:=hbd r (by grind);obtain⟨b1,b2,b3,b4,b5,b6,b7,b8⟩:=hrb;have hw:=Cr Y p1;refine dq ?_;refine dq ?_;apply ax (gB (n:Int)) W (by simp[go_sem,U,ZT,aa6,hnr]);apply bh (rQ.ix a .u8 W)
 have st:mh rs x=rs.set n (B7 r x):=by
  unfold mh;rw[aa v,<-hn,aq hnl,hr]
 obtain⟨p,c⟩:=df (if(r.longs=0/\r.shorts=0)\/x.spec.credit<r.rate then x.spec.credit else r.rate);have C:∀{W o:Wt_},aS (λy=>y=b) W o->hp W q=some (.cells (tV x).toArray 412 (0,0))->hp o q=some (.cells (tV x).toArray 412 (0,0)):=λm h=>m.hpk h (λe=>hbq e.symm);refine cG.at (λ_ o=>rQ o b (rs.set n ⟨r.scans+lr x.spec.shifts.toList x.q,r.longs,r.shorts,p⟩)/\aS (λy=>y=b) W o) ?_ ?_
 ·simp only[cj];have md:M0 W W.drew:=sK;have E:=hR.mod md id;have z:=md.hpk U id;generalize W.drew=w1 at md E z|-;apply bQ (λW=>ur b (n*4) 0 qZ W);have l0:∀w,rQ w b rs->(iL 2 (bO b (n*4+0))).run pQ w=.ok (gI r.scans) w:=λw h=>h.ld a (j:=0) qZ (by rw[hr];rfl);apply cK (l0 _ E);refine rD ?_;refine rD ?_
  have hA:At w1 q 6 (uy x.spec.shifts):=by
   have:=(At.all z).sub 6 16 (by rw[gM];omega);rw[tV,dc (by rw[bG];omega),aN (by rw[bq,bG];omega),uG]at this;simpa using this
  apply kI (uy x.spec.shifts) 15 Xf Xg (nG _) hA;refine Mg (bO q 25) (cK (t _ z) ?_);refine GI p1 qZ λw2 m2=>?_;have Q:=E.mod m2 id;have hq2:=m2.hpk z id;refine⟨l0 _ Q,?_⟩;apply bQ (λW=>za ⟨qZ,qZ⟩);apply bQ (λW=>ur b (n*4) 0 qZ W);obtain⟨J,e3,L,m3⟩:=Q.st a (j:=0) qZ (x:=r.scans+lr x.spec.shifts.toList x.q) (r' :=⟨r.scans+lr x.spec.shifts.toList x.q,r.longs,r.shorts,r.rate⟩) (by rw[<-hr];rfl);apply gg e3;have N:=C m3 hq2;have u:(rs.set n ⟨r.scans+lr x.spec.shifts.toList x.q,r.longs,r.shorts,r.rate⟩)[n]'(by grind)=⟨r.scans+lr x.spec.shifts.toList x.q,r.longs,r.shorts,r.rate⟩:=dY _;have M3:aS (λy=>y=b) W J:=((md.trans m2).to).trans m3;have s:M0 J J.drew:=sK;refine cG.at (λst o=>st=(.bool (decide ((r.longs=0/\r.shorts=0)\/x.spec.credit<r.rate)),())/\o=J.drew) ?_ ?_
  ·have d:=L.mod s id;have l:=s.hpk N id;generalize J.drew=w4 at d l|-;have l1:=d.ld a (j:=1) qZ (x:=r.longs) (by rw[u];rfl);have l2:=d.ld a (j:=2) qZ (x:=r.shorts) (by rw[u];rfl);have l3:=d.ld a (j:=3) qZ (x:=r.rate) (by rw[u];rfl);simp only[cj];refine bQ (λW=>ur b (n*4) 1 qZ W) (cK l1 ?_);by_cases h1:r.longs=0
   ·refine Ih h1 ?_;refine bQ (λW=>ur b (n*4) 2 qZ W) (cK l2 ?_);by_cases h2:r.shorts=0
    ·refine Ih h2 ?_;exact⟨by grind,by trivial⟩
    ·refine IR h2 ?_;refine rD ?_;refine Mg (bO q 22) (cK (H _ l) ?_);refine bQ (λW=>ur b (n*4) 3 qZ W) (cK l3 ?_);refine rD ?_;exact⟨by simp[h2],by trivial⟩
   ·refine IR h1 ?_;refine rD ?_;refine Mg (bO q 22) (cK (H _ l) ?_);refine bQ (λW=>ur b (n*4) 3 qZ W) (cK l3 ?_);refine rD ?_;exact⟨by simp[h1],by trivial⟩
  rintro _ o ⟨rfl,rfl⟩;have d:=L.mod s id;have l:=s.hpk N id;have M4:=M3.trans (s.to (G:=λy=>y=b));generalize J.drew=w4 at d l M4|-;unfold Rb;intro _;by_cases hc:(r.longs=0/\r.shorts=0)\/x.spec.credit<r.rate
  ·rw[mP hc];rw[ae hc]at c;refine dq ?_;refine lY (bO q 22) (bh (H _ l) ?_);simp only[cj];apply bh (ur b (n*4) 3 qZ _);obtain⟨V,e5,A,m5⟩:=d.st a (j:=3) qZ (x:=x.spec.credit) (r' :=⟨r.scans+lr x.spec.shifts.toList x.q,r.longs,r.shorts,x.spec.credit⟩) (by rw[u];rfl);apply gg e5;rw[jI]at A;exact⟨by grind,M4.trans m5⟩
  ·rw[aw,aa (by grind)];rw[aa hc]at c;exact⟨by grind,M4⟩
 rintro _ V ⟨A,M5⟩;unfold QV;intro _;obtain⟨F,g⟩:=df (⟨r.scans+lr x.spec.shifts.toList x.q,r.longs,r.shorts,p⟩:Rt);rw[<-g]at A;have O:(rs.set n F)[n]'(by grind)=F:=dY _;have hq5:=C M5 U;simp only[cj];have md:M0 V V.drew:=sK;have D:=A.mod md id;have I:=md.hpk hq5 id;have M6:=M5.trans (md.to (G:=λy=>y=b));generalize V.drew=w6 at D I M6|-;refine bQ (λW=>ur b (n*4) 1 qZ W) (cK (D.ld a (j:=1) qZ (x:=r.longs) (by rw[O,g];rfl)) ?_);refine Mg (bO q 25) (cK (t _ I) ?_);refine XD ?_;apply bQ (λW=>za ⟨qZ,qZ⟩);apply bQ (λW=>ur b (n*4) 1 qZ W);obtain⟨X,e7,T,m7⟩:=D.st a (j:=1) qZ (x:=r.longs+max x.q 0) (r' :={F with longs:=r.longs+max x.q 0}) (by rw[O,g];rfl);apply gg e7;rw[jI]at T;have hq7:=C m7 I;have M7:=M6.trans m7;have md:M0 X X.drew:=sK;have B:=T.mod md id;have M:=md.hpk hq7 id;have M8:=M7.trans (md.to (G:=λy=>y=b));generalize X.drew=w8 at B M M8|-;have S:(rs.set n {F with longs:=r.longs+max x.q 0})[n]'(by grind)={F with longs:=r.longs+max x.q 0}:=dY _;refine bQ (λW=>ur b (n*4) 2 qZ W) (cK (B.ld a (j:=2) qZ (x:=r.shorts) (by rw[S,g];rfl)) ?_);refine Mg (bO q 25) (cK (t _ M) ?_);apply cT (gI (-x.q)) (λ_=>by simp[go_sem];rw[lL]);refine XD ?_;apply bQ (λW=>za ⟨qZ,qZ⟩);apply bQ (λW=>ur b (n*4) 2 qZ W);obtain⟨w9,e9,P,m9⟩:=B.st a (j:=2) qZ (x:=r.shorts+max (-x.q) 0) (r' :={F with longs:=r.longs+max x.q 0,shorts:=r.shorts+max (-x.q) 0}) (by rw[S,g];rfl);apply gg e9;rw[jI]at P;apply ax (gI ((i+1:Nat):Int)) w9 (by simp[go_sem];rw[lL]);refine hK w9 ?_ (M8.trans m9);rw[st]
 have e:B7 r x={F with longs:=r.longs+max x.q 0,shorts:=r.shorts+max (-x.q) 0}:=by
  unfold B7;rw[g,c]
 rw[e];exact P
end Go.Proofs
set_option maxRecDepth 100000
set_option maxHeartbeats 1000000
namespace Go.Proofs
open Go Go.Vc
attribute [local congr] aZ
def Of:Tryz.prog.underlying 479=some (.map 45 3):=cy
def Z8(r:Rt):Value:=.agg (HO r).toArray
def rQ.ld4{w:Wt_}{b:Nat}{rs:List Rt}(h:rQ w b rs){i:Nat}(hi:i<9):
  (iL 477 (bO b (i*4))).run pQ w=.ok (Z8 (rs[i]'(by rw[h.2];exact hi))) w:=by
 have a:i<rs.length:=by rw[h.2];exact hi
 have c:=rY td (show 0<4 by omega) rs i a;have e:=rY td (show 1<4 by omega) rs i a;have d:=rY td (show 2<4 by omega) rs i a;have f:=rY td (show 3<4 by omega) rs i a;simp only[cx]at c;simp[go_sem,h.1,c,e,d,f,Z8,HO]
def Y1(d:Rt)(w:Wt_):∃a c,(iA 477 true (.tuple #[])).run pQ w=.ok (bO w.heap.size 0) a/\(iS 477 (bO w.heap.size 0) (Z8 d)).run pQ a=.ok () c/\hC c w.heap.size (HO d).toArray 477/\M0 w c:=by
 obtain⟨a,b⟩:=df (w.alloc (.cells #[.int .i64 0,gI 0,gI 0,gI 0] 477));have f:M0 w a:=by rw[b];exact(aS.refl _ w).alloc _
 have e:hC a w.heap.size #[.int .i64 0,gI 0,gI 0,gI 0] 477:=by rw[b];simp[go_sem]
 refine⟨a,(((a.setCell ⟨w.heap.size,0,none⟩ (gI d.scans)).setCell ⟨w.heap.size,1,none⟩ (gI d.longs)).setCell ⟨w.heap.size,2,none⟩ (gI d.shorts)).setCell ⟨w.heap.size,3,none⟩ (gI d.rate),by rw[b];simp[go_sem],by simp[go_sem,e,Z8,HO],by simp[go_sem,e,HO],?_⟩;exact f.on (((((aS.refl (λx=>x=w.heap.size) a).sc).sc).sc).sc) λx g=>fM
def FN(r:Rt):Int:=max 0 (r.scans - min r.longs r.shorts*r.rate)
def HY(l:List Rt)(r:Rt):yD (l++[r])=yD l+FN r:=by unfold yD FN;simp
def Rt.prod{r:Rt}(h:r.Bd 16):0<=min r.longs r.shorts*r.rate/\min r.longs r.shorts*r.rate<=1600000000000000/\0<=r.scans/\r.scans<=1600000000000000:=by
 obtain⟨h1,f,j,g,i,d,c,e⟩:=h;have k:=C8 (a:=min r.longs r.shorts) (b:=r.rate) (A:=160000000) (B:=10000000) qZ qZ;have l:0<=min r.longs r.shorts*r.rate:=iR qZ c;omega
def GG{l:List Rt}(h:∀r∈l,r.Bd 16):0<=yD l/\yD l<=l.length*1600000000000000:=by
 have:=rK (l:=l.map FN) (B:=1600000000000000) λx b=>by
  obtain⟨r,a,rfl⟩:=aL.1 b;have:=Rt.prod (h r a);unfold FN;omega
 rw[ah]at this;exact this
def BZ{k:Int}(c:0<=k){rs:List Rt}{x:Lg}(h:∀r∈rs,r.Bd k)(i:ye x=true):∀r∈mh rs x,r.Bd (k+1):=by
 have a:∀r:Rt,r.Bd k->r.Bd (k+1):=λr b=>by
  obtain⟨h1,j,g,l,e,m,d,f⟩:=b;exact⟨h1,qZ,g,qZ,e,qZ,d,f⟩
 intro r b;unfold mh at b;split at b
 ·exact a r (h r b)
 ·split at b
  ·next r0 h0=>
   rcases ep b with b|rfl
   ·exact a r (h r b)
   ·exact PY (h r0 (cX h0)) c i
  ·exact a r (h r b)
def KF{w:Wt_}{K:aY}{s:Vt_}{l:List Lg}(h:Rd w 26 s l.length (l.flatMap tV))(hn:l.length<=100000)(hl:∀x∈l,x.spec.Fit/\eP x.q)
  (hK:∀w',M0 w w' ->K (.tuple #[.int .i64 (jB l).1,gI (jB l).2]) w'):Ca pQ 348 #[s] w K:=by
 refine cN Tryz.func348 ?_;obtain⟨a,c,hs⟩:=h.isSl;have f:∀{W:Wt_},(builtin .len #[453] 3 #[false] #[s]).run pQ W=.ok (.value (gI (l.length:Int))) W:=λ{W}=>by rw[hs];simp[go_sem]
 have fin:∀x e W,jB l=(x,e)->M0 w W->K (.tuple #[.int .i64 x,gI e]) W:=λx e W he m=>by
  have hk:=hK W m;rw[he]at hk;exact hk
 apply sr f;by_cases u:16<l.length
 ·have g:(16:Int)<(l.length:Int):=qZ;refine dB g ?_;exact fin 0 3 w (by unfold jB;rw[ae u]) oU
 have g:¬(16:Int)<(l.length:Int):=qZ;refine ey g ?_;apply nE YI;obtain⟨b,Z⟩:=df w.heap.size;have m1:M0 w (w.alloc (.cells (iQ pQ Dz).toArray Dz)):=kU;have r1:rQ (w.alloc (.cells (iQ pQ Dz).toArray Dz)) b (List.replicate 9 RT):=⟨by rw[Z,<-aa5];simp[go_sem],by simp⟩
 rw[<-Z];generalize w.alloc (.cells (iQ pQ Dz).toArray Dz)=O at m1 r1|-;obtain⟨m,I⟩:=df O.heap.size;have hbm:b<m:=by rw[I];exact ay r1.1
 have m2:M0 O (O.alloc (.map #[] 0)):=kU;have M:eF eQ Er (O.alloc (.map #[] 0)) m ([]:List (Int×Int)):=by rw[I];exact eF.new O
 apply ax (.map (some m)) (O.alloc (.map #[] 0)) (by rw[I];simp[go_sem]);have r2:=r1.mod m2 id;generalize O.alloc (.map #[] 0)=w2 at m2 M r2|-;apply sr f;have hml:=M.lt;have hs1:=m1.size
 refine d8 (λst W=>∃(i:Nat) (x y:Vt_),i<=l.length/\st=(x,y,gI i,())/\rQ W b ((l.take i).foldl mh (List.replicate 9 RT))/\(∀r∈(l.take i).foldl mh (List.replicate 9 RT),r.Bd i)/\(l.take i).all ye=true/\eF eQ Er W m ([]:List (Int×Int))/\M0 w W/\m<W.heap.size)
  (λst _=>match st.2.2.1 with| .int _ i=>l.length - i.toNat|_=>0) ⟨0,_,_,qZ,rfl,r2,λr F=>?_,rfl,M,m1.trans m2,hml⟩ ?_
 ·have:r=RT:=lT F;rw[this];exact⟨by decide,by decide,by decide,by decide,by decide,by decide,by decide,by decide⟩
 rintro⟨s1,s2,_,_⟩ W ⟨i,x0,y0,hi,⟨⟩,q1,q2,q3,q4,q5,q6⟩ KN hKN;refine lE ?_;intro _;by_cases j:i<l.length
 ·have t:(i:Int)<(l.length:Int):=qZ;refine dB t ?_;obtain⟨p,e1,e2⟩:=Yf (h.mod q5 dS) j;refine bh e1 (jP e2 ?_);obtain⟨x,V⟩:=df (l[i]);rw[<-V];have N:=hl x (by grind);refine Un λw3 C A=>?_;obtain⟨q,hq⟩:=df W.heap.size;rw[<-hq]at C|-;have htk:l.take (i+1)=l.take i++[x]:=by rw[V];exact cq j
  refine cG.at (λst W' =>st=(.bool (!ye x),())/\M0 w3 W') ?_ ?_
  ·refine dq ?_
   have hA:At w3 q 0 (fC x.spec):=by
    have:=(At.all C).sub 0 25 (by rw[gM];omega);rw[eT,tV,aN (by rw[bG];omega),aC (by rw[bG];omega)]at this;exact this
   apply fX (fC x.spec) 24 zF xG (bG _) hA;refine sg N.1 λo d=>?_;have S:=d.hpk C id;cases E:x.spec.may with
   |false=>
    refine jZ ?_;exact⟨by simp[ye,E],d⟩
   |true=>
    refine eK ?_;refine dq ?_;refine mK S PV ?_;apply gF N.2 qZ;refine dq ?_;exact⟨by simp[ye,E],d⟩
  rintro _ o ⟨rfl,d⟩;cases H:ye x with
  |false=>
   refine jG ?_;intro _;rw[aw,ae (show(!false)=true from rfl)];refine fin 0 2 o ?_ ((q5.trans A).trans d);unfold jB;rw[aa u];exact ae (jS.2 ⟨x,by grind,by rw[H];simp⟩)
  |true=>
   have M4:=(q5.trans A).trans d;have r4:=(q1.mod A id).mod d id;have S:=d.hpk C id;refine Ny (k:=(i:Int)) r4 S qZ qZ qZ q2 H N.1 λW' rW mW=>?_;have hsz:=mW.size;have hb4:=ay S;have hs34:=d.size;have hs3:=A.size;refine hKN _ _ ⟨i+1,_,_,qZ,rfl,?_,?_,?_,((q4.mod A id).mod d id).mod mW qZ,M4.on mW λy hy=>fM,qZ⟩ (by grind)
   ·grind
   ·rw[htk,iD];have:=BZ (k:=(i:Int)) qZ q2 H;rw[jp];exact this
   ·grind
 ·obtain rfl:i=l.length:=qZ;refine eK ?_;rw[aV]at q1 q2 q3;obtain⟨rs,hrs⟩:=df (l.foldl mh (List.replicate 9 RT));rw[<-hrs]at q1 q2;apply sr f
  refine d8 (λst W2=>∃(i:Nat) (x y:Vt_) (L:List (Int×Int)) (seen:List Int),i<=l.length/\st=(x,y,gI i,())/\rQ W2 b rs/\eF eQ Er W2 m L/\(∀n,lk L n=if n∈seen then some 1 else none)/\zW [] l=zW seen (l.drop i)/\M0 w W2)
   (λst _=>match st.2.2.1 with| .int _ i=>l.length - i.toNat|_=>0) ⟨0,_,_,[],[],qZ,rfl,q1,q4,λn=>by simp[lk],rfl,q5⟩ ?_
  rintro⟨_,_,_,_⟩ W2 ⟨i,x0,y0,L,seen,hi,⟨⟩,t1,t2,t3,t4,t5⟩ KM hKM;refine lE ?_;intro _;by_cases j:i<l.length
  ·have t:(i:Int)<(l.length:Int):=qZ;refine dB t ?_;obtain⟨p,e1,e2⟩:=Yf (h.mod t5 dS) j;refine bh e1 (jP e2 ?_);obtain⟨x,V⟩:=df (l[i]);rw[<-V];refine Un λw3 C A=>?_;obtain⟨q,hq⟩:=df W2.heap.size;rw[<-hq]at C|-;have P:l.drop i=x::l.drop (i+1):=by rw[V];exact(ce j).symm
   rw[P,zW]at t4;have hml:=t2.lt;have Y:=t2.mod A id;refine dq ?_;refine dq ?_;refine qS3 C ZT O5 ?_;apply wo (enc:=eQ) (ev:=Er) (x:=x.spec.num) (gI 0) Of kM SZ (.inr ⟨m,rfl,Y⟩);obtain⟨v,R⟩:=df (if x.spec.num∈seen then 1 else 0:Int)
   have hlk:(lk L x.spec.num).elim (gI 0) Er=gI v:=by
    rw[t3,R];split<;>rfl
   rw[hlk];have hvb:0<=v/\v<=1:=by grind
   apply ax (Er (v+1)) w3 (by simp[go_sem,Er];rw[lL]);refine gL (enc:=eQ) (ev:=Er) (x:=x.spec.num) (v:=v+1) Of kM Y λo T d hs4=>?_;have S:=d.hpk C qZ;refine dq ?_;refine dq ?_;refine qS3 S ZT O5 ?_;apply wo (enc:=eQ) (ev:=Er) (x:=x.spec.num) (gI 0) Of kM SZ (.inr ⟨m,rfl,T⟩)
   have U:(lk (put L x.spec.num (v+1)) x.spec.num).elim (gI 0) Er=gI (v+1):=by
    rw[kJ,ae rfl];rfl
   rw[U];have M4:M0 w o:=(t5.trans A).on d λy hy=>fM;by_cases B:x.spec.num∈seen
   ·rw[ae B]at R;refine dB R ?_;refine fin 0 8 o ?_ M4;have ht:zW [] l=true:=by rw[t4];simp[B]
    unfold jB;rw[aa u,aa (by rw[q3];simp),ae ht]
   ·rw[aa B]at R;refine ey R ?_;apply ax (gI ((i+1:Nat):Int)) o (by simp[go_sem];rw[lL]);refine hKM _ _ ⟨i+1,_,_,_,x.spec.num::seen,qZ,rfl,(t1.mod A id).mod d qZ,T,λn=>?_,?_,M4⟩ (by grind)
    ·rw[kJ,t3,R];by_cases hno:x.spec.num=n
     ·subst hno;simp
     ·grind
    ·rw[t4];simp[B]
  ·obtain rfl:i=l.length:=qZ;refine eK ?_;rw[ck (az _),zW]at t4
   have hmr:jB l=(yD rs,0):=by
    unfold jB;rw[aa u,aa (by rw[q3];simp),aa (by rw[t4];simp),<-hrs]
   have X:∀r∈rs,r.Bd 16:=λr F=>by
    obtain⟨h1,h2,h3,h4,h5,h6,h7,h8⟩:=q2 r F;exact⟨h1,qZ,h3,qZ,h5,qZ,h7,h8⟩
   have hr9:=t1.2
   refine d8 (λst G=>∃i:Nat,i<=9/\st=(gI (yD (rs.take i)),gI i,())/\rQ G b rs/\M0 w G)
    (λst _=>match st.2.1 with| .int _ i=>9 - i.toNat|_=>0) ⟨0,qZ,rfl,t1,t5⟩ ?_
   rintro⟨_,_,_⟩ G ⟨i,hi9,⟨⟩,u1,u2⟩ KP hKP;refine lE ?_;intro _;by_cases D:i<9
   ·have J:(i:Int)<9:=qZ;refine dB J ?_;refine bh (rQ.ix D .i64 G) (bh (u1.ld4 D) ?_);obtain⟨r,F⟩:=df (rs[i]'qZ);rw[<-F];obtain⟨wv,o,v1,v2,Q,v4⟩:=Y1 r G;obtain⟨q,hq⟩:=df G.heap.size;rw[<-hq]at v1 v2 Q;refine bh v1 (gg v2 ?_);unfold HO at Q;have hrb:=X r (by grind);have hp:=Rt.prod hrb;obtain⟨z,hz⟩:=df (min r.longs r.shorts*r.rate);rw[<-hz]at hp;refine dq ?_;refine dE Q ?_;refine dq ?_;refine dE Q ?_;refine dq ?_;refine dE Q ?_;refine Hn ?_;refine dq ?_;refine dE Q ?_;apply ax (gI z) o (by simp only[go_sem];simp;rw[<-hz,lL]);apply bh (En (W:=o) ⟨qZ,qZ⟩);refine Hn ?_;have hsb:=GG (l:=rs.take i) λr F=>X r (cE F);have htl:(rs.take i).length<=9:=by grind
    apply bh (za (W:=o) ⟨qZ,qZ⟩);apply ax (gI ((i+1:Nat):Int)) o (by simp[go_sem];rw[lL]);refine hKP _ _ ⟨i+1,qZ,?_,u1.mod v4 id,u2.trans v4⟩ (by grind);have e:rs.take (i+1)=rs.take i++[r]:=by rw[F];exact cq qZ
    rw[e,HY];unfold FN;rw[<-hz]
   ·obtain rfl:i=9:=qZ;refine eK ?_;rw[aC qZ];exact fin _ 0 G hmr u2
end Go.Proofs
namespace Go.Proofs
open Go Go.Vc
structure Cm where
 kind:Int
 acct:Int
 ct:Int
 num:Int
 amt:Int
 spec:Sp
 on:Bool
 buy:Bool
 ty:Int
 price:Int
 qty:Int
 deriving DecidableEq
def Cm.Fit(c:Cm):Prop:=(0<=c.kind/\c.kind<256)/\kV c.acct/\kV c.ct/\OY c.num/\eP c.amt/\c.spec.Fit/\(0<=c.ty/\c.ty<256)/\eP c.price/\eP c.qty
def kw:Cm:=⟨0,0,0,0,0,BI,false,false,0,0,0⟩
def jO(c:Cm):List Value:=[.int .u8 c.kind,gU c.acct,gU c.ct,gQ c.num,gI c.amt]++(fC c.spec++[.bool c.on,.bool c.buy,gB c.ty,gI c.price,gI c.qty])
def Cm.bare(c:Cm):Cm:=
 let b:Cm:={kw with kind:=c.kind}
 if c.kind=1\/c.kind=2 then{b with acct:=c.acct,amt:=c.amt}
 else if c.kind=3 then{b with spec:=c.spec}
 else if c.kind=4 then{b with ct:=c.ct,on:=c.on}
 else if c.kind=5 then{c with num:=0,amt:=0,spec:=BI,on:=false}
 else if c.kind=6 then{b with acct:=c.acct,num:=c.num}
 else if c.kind=7 then{b with acct:=c.acct,num:=c.num,price:=c.price,qty:=c.qty}
 else if c.kind=8 then{b with acct:=c.acct,ct:=c.ct}
 else if c.kind=9 then{b with acct:=c.acct,ct:=c.ct,buy:=c.buy,price:=c.price,qty:=c.qty}
 else if c.kind=10 then{b with acct:=c.acct,on:=c.on}
 else if c.kind=11 then{b with ct:=c.ct,price:=c.price}
 else if c.kind=13 then{b with acct:=c.acct}
 else if c.kind=14 then{b with ct:=c.ct}
 else b
def Cm.may(c:Cm):Bool:=decide (1<=c.kind/\c.kind<=14)&& decide (c=c.bare)&& (decide (c.kind≠3)||c.spec.may)
structure Rp where
 err:Int
 num:Int
 filled:Int
 left:Int
 trades:List Td
 gone:List Int
 accts:List Int
 deriving DecidableEq
def jw:Rp:=⟨0,0,0,0,[],[],[]⟩
def iZ(e:Int):Rp:={jw with err:=e}
structure kY where
 leg:Lg
 basis:Int
 price:Int
 ords:List Od
structure Nd where
 m:Int
 w:Int
 u:Int
 deriving DecidableEq
def kY.ok(s:kY):Bool:=
 aW s.basis (-1000000000000000) 1000000000000000&& aW s.leg.q (-10000000) 10000000&& s.leg.spec.isPrice s.price&& decide (s.ords.length<=250)&& s.ords.all (·.may)
def oS(l:List Od)(buy:Bool):Int:=((l.filter λo=>o.buy==buy).map (·.left)).sum
def rN(price:Int)(o:Od):Int:=if o.buy then max 0 (o.price - price)*o.left else max 0 (price - o.price)*o.left
def kY.at(s:kY)(q:Int):Int:=(vk s.leg.spec.shifts q).1
def kY.worst(s:kY):Int:=
 (s.ords.map (rN s.price)).sum+max 0 (max (s.at (s.leg.q+oS s.ords true)) (s.at (s.leg.q - oS s.ords false)) - s.at s.leg.q)
def kY.u(s:kY):Int:=s.basis - s.leg.q*s.price
def pg(l:List kY):Nd×Int:=
 if 16<l.length then(⟨0,0,0⟩,3)
 else if l.all kY.ok=false then(⟨0,0,0⟩,2)
 else if(jB (l.map (·.leg))).2≠0 then(⟨0,0,0⟩,(jB (l.map (·.leg))).2)
 else(⟨(jB (l.map (·.leg))).1,(l.map kY.worst).sum,max 0 (l.map kY.u).sum⟩,0)
def Nd.total(n:Nd):Int:=n.m+n.w+n.u
structure bo where
 cal:oe
 led:bE
 bk:Int->Bk
 bd:Int->List Od
 next:Int
def bo.empty:bo:=⟨⟨0,[]⟩,⟨0,[],[]⟩,λ_=>Bk.empty,λ_=>[],1⟩
def eL{α:Type}(f:Int->α)(n:Int)(x:α):Int->α:=λm=>if m=n then x else f m
def cO{α:Type}(f:Int->α)(n:Int)(x:α):eL f n x n=x:=ae rfl
def eJ{α:Type}(f:Int->α)(n:Int)(x:α){m:Int}(h:m≠n):eL f n x m=f m:=aa h
def bo.nums(S:bo):List Int:=S.cal.l.map (·.spec.num)
def kO(a:Int)(o:Od):Bool:=decide (o.acct=a)
def tY(a:Int)(x:List Int×bo)(n:Int):List Int×bo:=
 ((x.1++(iK (x.2.bk n) a).2.map (·.num))++((x.2.bd n).filter (kO a)).map (·.num),
 {x.2 with bk:=eL x.2.bk n (iK (x.2.bk n) a).1,bd:=eL x.2.bd n ((x.2.bd n).filter λo=> !kO a o)})
def bo.clear(S:bo)(a k:Int):List Int×bo:=(S.nums.filter λn=>decide (k=0\/k=n)).foldl (tY a) ([],S)
def bo.opn(S:bo)(n a:Int):Int×Int:=((uc (S.bk n) a).1+rV (S.bd n) a true,(uc (S.bk n) a).2+rV (S.bd n) a false)
def bo.stake(S:bo)(a:Int)(k:Ct):kY:=
 ⟨⟨k.spec,(S.led.position k.spec.num a).q⟩,(S.led.position k.spec.num a).b,k.price,(S.bk k.spec.num).all.filter (kO a)++(S.bd k.spec.num).filter (kO a)⟩
def bo.stakes(S:bo)(a:Int):List kY:=(S.cal.l.filter λk=>decide (k.st≠3)).map (S.stake a)
def bo.need(S:bo)(a:Int):Nd×Int:=if S.led.getO a=none\/a=0 then(⟨0,0,0⟩,7)else pg (S.stakes a)
def bo.acc(S:bo)(a:Int):Ac:=(S.led.getO a).getD ⟨0,0,false,false⟩
def bo.bears(S:bo)(a:Int):Int:=
 if(S.need a).2≠0 then(S.need a).2 else if(S.acc a).cash<(S.need a).1.total then 161 else 0
def bo.pass(S:bo)(a n:Int)(buy:Bool)(price qty:Int)(w:Od):Int:=
 if S.led.getO a=none then 7
 else if(dI S.cal.l n).2≠0 then(dI S.cal.l n).2
 else Gt.check ⟨(dI S.cal.l n).1,S.acc a,(S.led.position n a).q,(S.opn n a).1 - (if w.buy then w.left else 0),(S.opn n a).2 - (if w.buy then 0 else w.left),buy,price,qty⟩
def oG(n:Int)(o:Od):List Td->bE->Int×bE
 | [],L=>(0,L)
 |t::l,L=>
  let x:=L.trade n (if o.buy then o.acct else t.acct) (if o.buy then t.acct else o.acct) t.price t.qty
  if x.1≠0 then x else oG n o l x.2
def bo.traded(S:bo)(n:Int)(o:Od)(p:Pm):Int×Rp×bo:=
 let x:=oG n o p.trades S.led;let S' :={S with led:=x.2}
 if x.1≠0 then(x.1,jw,S')else(S'.bears o.acct,⟨0,o.num,p.filled,p.left,p.trades,p.gone,[]⟩,S')
def Cm.od(c:Cm)(n:Int):Od:=⟨n,c.acct,c.buy,c.price,c.qty⟩
def jH:Int:=4611686018427387904
def bo.order(S:bo)(c:Cm):Int×Od×bo:=
 let e:=S.pass c.acct c.ct c.buy c.price c.qty nZ
 if e≠0 then(e,nZ,S)else if jH<S.next then(6,c.od 0,S)else(0,c.od S.next,{S with next:=S.next+1})
def bo.place(S:bo)(c:Cm):Int×Rp×bo:=
 let x:=S.order c
 if x.1≠0 then(x.1,jw,x.2.2)
 else
  let p:=cV (x.2.2.bk c.ct) x.2.1 c.ty;let S' :={x.2.2 with bk:=eL x.2.2.bk c.ct p.2.1}
  if p.1≠0 then(p.1,jw,S')else S'.traded c.ct x.2.1 p.2.2
def bo.bid(S:bo)(c:Cm):Int×Rp×bo:=
 let x:=S.order c
 if x.1≠0 then(x.1,jw,x.2.2)
 else if 50<=(x.2.2.bd c.ct).length then(9,jw,x.2.2)
 else
  let S' :={x.2.2 with bd:=eL x.2.2.bd c.ct (x.2.2.bd c.ct++[x.2.1])}
  (S'.bears c.acct,⟨0,x.2.1.num,0,x.2.1.left,[],[],[]⟩,S')
def vF(bk:Int->Bk)(a num n:Int):Option (Od×Int):=
 match (bk n).find num with
 |some (o,_)=>if o.acct=a then some (o,n)else none
 |none=>none
def bo.find(S:bo)(a num:Int):Option (Od×Int):=S.nums.findSome? (vF S.bk a num)
def vh(a num:Int)(o:Od):Bool:=decide (o.num=num)&& decide (o.acct=a)
def uq(bd:Int->List Od)(a num n:Int):Option (Nat×Int):=((bd n).findIdx? (vh a num)).map λi=>(i,n)
def bo.cancel(S:bo)(c:Cm):Int×Rp×bo:=
 match S.find c.acct c.num with
 |some (o,n)=>((fh (S.bk n) c.num).1,{jw with num:=c.num,left:=o.left},{S with bk:=eL S.bk n (fh (S.bk n) c.num).2.1})
 |none=>
  match S.nums.findSome? (uq S.bd c.acct c.num)with
  |some (i,n)=>(0,{jw with num:=c.num,left:=((S.bd n).getD i nZ).left},{S with bd:=eL S.bd n ((S.bd n).eraseIdx i)})
  |none=>(7,jw,S)
def bo.replace(S:bo)(c:Cm):Int×Rp×bo:=
 match S.find c.acct c.num with
 |none=>(7,jw,S)
 |some (o,n)=>
  let e:=S.pass c.acct n o.buy c.price c.qty o
  if e≠0 then(e,jw,S)
  else
   let p:=cC (S.bk n) c.num c.price c.qty;let S' :={S with bk:=eL S.bk n p.2.1}
   if p.1≠0 then(p.1,jw,S')else S'.traded n o p.2.2
def ii(won:Int->Int)(l:List (Int×Int)):Int->Int:=l.foldl (λf x=>eL f x.1 (f x.1+x.2)) won
def mR:List Sd->Rp->bo->Int×Rp×bo
 | [],r,S=>(0,r,S)
 |s::l,r,S=>
  let g:=S.clear s.acct 0;let r' :Rp:=if s.dfl then{r with accts:=r.accts++[s.acct],gone:=r.gone++g.1}else r
  let S1:=if s.dfl then g.2 else S
  let x:=S1.led.set {S.acc s.acct with cash:=s.cash,dfl:=(S.acc s.acct).dfl||s.dfl}
  if x.1≠0 then(x.1,r',{S1 with led:=x.2})else mR l r' {S1 with led:=x.2}
def bo.dues(S:bo)(won:Int->Int):List Du:=S.led.all.map λa=>⟨a.num,a.cash,won a.num⟩
def bo.pay(S:bo)(won:Int->Int):Int×Rp×bo:=
 let x:=gR S.led.fund (S.dues won)
 if x.2.2≠0 then(x.2.2,jw,S)
 else
  let y:=mR x.1 jw S
  if y.1≠0 then y
  else
   let z:=y.2.2.led.set ⟨0,x.2.1,false,false⟩
   (z.1,y.2.1,{y.2.2 with led:=z.2})
def jj:List Ct->bE->(Int->Int)->Int×bE×(Int->Int)
 | [],L,won=>(0,L,won)
 |k::l,L,won=>
  if k.st=3 then jj l L won
  else
   let x:=L.mark k.spec.num k.price false
   if x.1≠0 then(x.1,x.2.2,ii won x.2.1)else jj l x.2.2 (ii won x.2.1)
def qf(accts:List Int):List Ac->Int->bE->Int×bE
 | [],e,L=>(e,L)
 |a::l,e,L=>
  if a.dfl=true/\(L.ofA a.num).isEmpty=true/\accts.contains a.num=false then
   qf accts l (L.set {a with dfl:=false}).1 (L.set {a with dfl:=false}).2
  else qf accts l e L
def jq:Int->Int:=λ_=>0
def bo.settle(S:bo):Int×Rp×bo:=
 let c:=eS S.cal;let S0:={S with cal:=c.2}
 if c.1≠0 then(c.1,jw,S0)
 else
  let m:=jj c.2.l S.led jq;let S1:={S0 with led:=m.2.1}
  if m.1≠0 then(m.1,jw,S1)
  else
   let p:=S1.pay m.2.2
   if p.1≠0 then p
   else
    let f:=qf p.2.1.accts p.2.2.led.all 0 p.2.2.led
    (f.1,p.2.1,{p.2.2 with led:=f.2})
def bo.expire(S:bo)(n:Int):Int×Rp×bo:=
 let c:=fq S.cal n;let S0:={S with cal:=c.2}
 if c.1≠0 then(c.1,jw,S0)
 else
  let m:=S.led.mark (dI S.cal.l n).1.spec.num (dI S.cal.l n).1.price true;let S1:={S0 with led:=m.2.2}
  if m.1≠0 then(m.1,jw,S1)
  else
   let p:=S1.pay (ii jq m.2.1)
   if p.1≠0 then p
   else
    let b:=iK (p.2.2.bk n) 0
    (0,{p.2.1 with gone:=(p.2.1.gone++b.2.map (·.num))++(p.2.2.bd n).map (·.num)},{p.2.2 with bk:=eL p.2.2.bk n b.1,bd:=eL p.2.2.bd n []})
def lO(L:bE)(n from_ to:Int)(long:Bool)(price qty:Int):Int×bE:=if long then L.trade n to from_ price qty else L.trade n from_ to price qty
def kz(l:List Od)(num qty:Int):List Od:=
 match l.findIdx? λo=>decide (o.num=num)with
 |none=>l
 |some i=>
  let o:=l.getD i nZ
  if o.left - qty=0 then l.eraseIdx i else l.set i {o with left:=o.left - qty}
def nr(n a:Int)(long:Bool)(price:Int):List Fl->Int->Rp->bo->Int×Int×Rp×bo
 | [],left,r,S=>(0,left,r,S)
 |f::l,left,r,S=>
  let x:=lO S.led n a f.acct long price f.qty
  if x.1≠0 then(x.1,left,r,{S with led:=x.2})
  else nr n a long price l (left - f.qty) {r with filled:=r.filled+f.qty,trades:=r.trades++[⟨price,f.qty,f.num,f.acct⟩]}
   {S with led:=x.2,bd:=eL S.bd n (kz (S.bd n) f.num f.qty)}
def mV(n a:Int)(long:Bool)(price:Int):List Hd->Rp->bo->Int×Rp×bo
 | [],r,S=>(0,r,S)
 |h::l,r,S=>
  let x:=lO S.led n a h.acct long price h.q
  if x.1≠0 then(x.1,r,{S with led:=x.2})
  else mV n a long price l {r with left:=r.left+h.q,trades:=r.trades++[⟨price,h.q,0,h.acct⟩]} {S with led:=x.2}
def bo.sell(S:bo)(k:Ct)(a q:Int)(r:Rp):Int×Rp×bo:=
 let n:=k.spec.num;let long:Bool:=decide (0<q);let c:=iJ long (max q (-q)) ((S.bd n).filter λo=>o.buy==long)
 if c.2.2≠0 then(c.2.2,r,S)
 else
  let f:=nr n a long c.1 c.2.1 (max q (-q)) r S
  if f.1≠0 then(f.1,f.2.2.1,f.2.2.2)
  else if f.2.1=0 then(0,f.2.2.1,f.2.2.2)
  else
   let p:=jR (if long then f.2.1 else -f.2.1) (((f.2.2.2.led.holders n).filter λp=>decide (p.a≠a)).map λp=>⟨p.a,p.q⟩)
   if p.2≠0 then(p.2,f.2.2.1,f.2.2.2)
   else mV n a long k.price p.1 f.2.2.1 f.2.2.2
def pf(a:Int):List Ct->Rp->bo->Int×Rp×bo
 | [],r,S=>(0,r,S)
 |k::l,r,S=>
  let q:=(S.led.position k.spec.num a).q
  if q=0 then pf a l r S
  else
   let x:=S.sell k a q r
   if x.1≠0 then x else pf a l x.2.1 x.2.2
def bo.liquidate(S:bo)(a:Ac):Int×Rp×bo:=if a.dfl=false then(162,jw,S)else pf a.num S.cal.l jw S
def bo.done(S:bo)(c:Cm):Int×Rp×bo:=
 if c.kind=1 then((S.led.deposit c.acct c.amt).1,jw,{S with led:=(S.led.deposit c.acct c.amt).2})
 else if c.kind=2 then
  let x:=S.led.withdraw c.acct c.amt;let S' :={S with led:=x.2}
  (if x.1≠0 then x.1 else if(S'.acc c.acct).dfl=true then 120 else S'.bears c.acct,jw,S')
 else if c.kind=3 then
  let x:=fD S.cal c.spec
  (x.1,jw,if x.1=0 then{S with cal:=x.2,bk:=eL S.bk c.spec.num Bk.empty}else{S with cal:=x.2})
 else if c.kind=4 then((jy S.cal c.ct c.on).1,jw,{S with cal:=(jy S.cal c.ct c.on).2})
 else if c.kind=11 then((fJ S.cal c.ct c.price).1,jw,{S with cal:=(fJ S.cal c.ct c.price).2})
 else if c.kind=12 then S.settle
 else if c.kind=14 then S.expire c.ct
 else if c.acct=0 then(2,jw,S)
 else if c.kind=6 then S.cancel c
 else if c.kind=7 then S.replace c
 else if S.led.getO c.acct=none then(7,jw,S)
 else if c.kind=5 then S.place c
 else if c.kind=9 then S.bid c
 else if c.kind=8 then
  if c.ct≠0/\(dI S.cal.l c.ct).2≠0 then((dI S.cal.l c.ct).2,jw,S)
  else(0,{jw with gone:=(S.clear c.acct c.ct).1},(S.clear c.acct c.ct).2)
 else if c.kind=10 then
  let g:=S.clear c.acct 0;let S' :=if c.on then g.2 else S
  let x:=S'.led.set {S.acc c.acct with kil:=c.on}
  (x.1,if c.on then{jw with gone:=g.1}else jw,{S' with led:=x.2})
 else if c.kind=13 then S.liquidate (S.acc c.acct)
 else(0,jw,S)
def bo.apply(S:bo)(c:Cm):Rp×bo:=
 if c.may=false then(iZ 160,S)
 else
  let x:=S.done c
  if x.1≠0 then(iZ x.1,S)else(x.2.1,x.2.2)
structure zg where
 day:Int
 next:Int
 fund:Int
 accts:List Ac
 cts:List Ct
 poss:List Po
 ords:List (Int×Od)
 bids:List (Int×Od)
def bo.state(S:bo):zg:=
 ⟨S.cal.day,S.next,S.led.fund,S.led.all,S.cal.l,S.nums.flatMap S.led.holders,S.nums.flatMap λn=>(S.bk n).all.map λo=>(n,o),S.nums.flatMap λn=>(S.bd n).map λo=>(n,o)⟩
end Go.Proofs
namespace Go.Proofs
open Go Go.Vc
attribute [local congr] aZ
inductive Pt where
 |v
 |cal
 |led
 |mb
 |md
 |bk (n:Int)
 |bd (n:Int)
 deriving DecidableEq
def dL(v:Nat):Value:=bO v 0
def xk(x:Vt_):Value:=x
abbrev zS:TypeId:=93
def kQ(D:List (Int×Value))(n:Int):Value:=(lk D n).getD dQ
structure qN(w:Wt_)(v c l mb md:Nat)(A:List (Int×Nat))(D:List (Int×Value))(fp:Pt->Nat->Prop)(S:bo):Prop where
 blk:hC w v #[fF c,eu l,.map (some mb),.map (some md),gQ S.next] zS
 cal:lW w c (fp .cal) S.cal
 led:ig w l (fp .led) S.led
 mbk:eF eQ fa w mb A
 mbd:eF eQ xk w md D
 bk:∀n b,lk A n=some b->fU w b (fp (.bk n)) (S.bk n)
 nbk:∀n,lk A n=none->S.bk n=Bk.empty/\∀x,¬fp (.bk n) x
 bd:∀n,qp w (kQ D n) (S.bd n)
 fv:∀x,fp .v x↔x=v
 fmb:∀x,fp .mb x↔x=mb
 fmd:∀x,fp .md x↔x=md
 fbd:∀n x,fp (.bd n) x↔aK (kQ D n) x
 dj:∀p q x,fp p x->fp q x->p=q
structure pO(w:Wt_)(v c l mb md:Nat)(A:List (Int×Nat))(D:List (Int×Value))(fp:Pt->Nat->Prop)(S:bo):Prop extends qN w v c l mb md A D fp S where
 dom:∀n,(lk A n).isSome=(cg S.cal.l n).isSome
 dod:∀n,(lk D n).isSome=true->(cg S.cal.l n).isSome=true
def oP(w:Wt_)(v:Nat)(F:NP_)(S:bo):Prop:=∃c l mb md A D fp,pO w v c l mb md A D fp S/\∀x,F x↔∃p,fp p x
def kK(fp:Pt->Nat->Prop):Nat->Prop:=λx=>∃p,fp p x
def xS(fp:Pt->Nat->Prop)(p:Pt)(G:NP_):Pt->Nat->Prop:=λq=>if q=p then G else fp q
def lF(fp:Pt->Nat->Prop)(p:Pt)(G:NP_):xS fp p G p=G:=ae rfl
def fk{fp:Pt->Nat->Prop}{p q:Pt}{G:NP_}(h:q≠p):xS fp p G q=fp q:=aa h
section
variable{w w' :Wt_}{v c l mb md:Nat}{A:List (Int×Nat)}{D:List (Int×Value)}{fp:Pt->Nat->Prop}{S:bo}
def pO.q(h:pO w v c l mb md A D fp S):oP w v (kK fp) S:=⟨c,l,mb,md,A,D,fp,h,λ_=>aG⟩
def qN.lt(h:qN w v c l mb md A D fp S){p:Pt}{x:Nat}(a:fp p x):x<w.heap.size:=by
 cases p with
 |v=>rw[(h.fv x).1 a];exact ay h.blk
 |cal=>exact h.cal.lt a
 |led=>exact h.led.lt a
 |mb=>rw[(h.fmb x).1 a];exact h.mbk.lt
 |md=>rw[(h.fmd x).1 a];exact h.mbd.lt
 |bk n=>
  cases d:lk A n with
  |none=>exact absurd a ((h.nbk n d).2 x)
  |some b=>exact(h.bk n b d).lt a
 |bd n=>exact(h.bd n).lt ((h.fbd n x).1 a)
def oP.lt{F:NP_}(h:oP w v F S){x:Nat}(d:F x):x<w.heap.size:=by
 obtain⟨c,l,mb,md,A,D,fp,a,b⟩:=h;obtain⟨p,hp⟩:=(b x).1 d;exact a.lt hp
def qN.self(h:qN w v c l mb md A D fp S):fp .v v:=(h.fv v).2 rfl
def qN.mod{G:NP_}(h:qN w v c l mb md A D fp S)(d:aS G w w')(a:∀p x,fp p x->¬G x):qN w' v c l mb md A D fp S where
 blk:=d.hpk h.blk (a .v v h.self)
 cal:=h.cal.mod d (a .cal)
 led:=h.led.mod d (a .led)
 mbk:=h.mbk.mod d (a .mb mb ((h.fmb mb).2 rfl))
 mbd:=h.mbd.mod d (a .md md ((h.fmd md).2 rfl))
 bk n b hl:=(h.bk n b hl).mod d (a (.bk n))
 nbk:=h.nbk
 bd n:=(h.bd n).mod d λx e=>a (.bd n) x ((h.fbd n x).2 e)
 fv:=h.fv
 fmb:=h.fmb
 fmd:=h.fmd
 fbd:=h.fbd
 dj:=h.dj
def pO.mod{G:NP_}(h:pO w v c l mb md A D fp S)(b:aS G w w')(a:∀p x,fp p x->¬G x):pO w' v c l mb md A D fp S:=⟨h.toqN.mod b a,h.dom,h.dod⟩
def oP.mod{F G:NP_}(h:oP w v F S)(d:aS G w w')(b:∀x,F x->¬G x):oP w' v F S:=by
 obtain⟨c,l,mb,md,A,D,fp,e,a⟩:=h;exact⟨c,l,mb,md,A,D,fp,e.mod d λp x f=>b x ((a x).2 ⟨p,f⟩),a⟩
def pO.md0(h:pO w v c l mb md A D fp S)(a:M0 w w'):pO w' v c l mb md A D fp S:=h.mod a λ_ _ _ h=>h
def oP.md0{F:NP_}(h:oP w v F S)(a:M0 w w'):oP w' v F S:=h.mod a dS
def qN.djU(h:qN w v c l mb md A D fp S){p:Pt}{G:NP_}(g:∀x,G x->fp p x\/w.heap.size<=x):∀q r x,xS fp p G q x->xS fp p G r x->q=r:=by
 have key:∀q x,q≠p->fp q x->¬G x:=λq x a e f=>by
  rcases g x f with h1|h1
  ·exact a (h.dj _ _ _ e h1)
  ·have:=h.lt e;omega
 intro q r x a d;by_cases h1:q=p
 ·by_cases b:r=p
  ·rw[h1,b]
  ·subst h1;rw[lF]at a;rw[fk b]at d;exact absurd a (key r x b d)
 ·rw[fk h1]at a;by_cases b:r=p
  ·subst b;rw[lF]at d;exact absurd d (key q x h1 a)
  ·rw[fk b]at d;exact h.dj _ _ _ a d
def qN.ap(h:qN w v c l mb md A D fp S){p q:Pt}(a:q≠p):∀x,fp q x->¬fp p x:=λx h1 b=>a (h.dj _ _ _ h1 b)
def pO.setBk(h:pO w v c l mb md A D fp S){n:Int}{b:Nat}{G:NP_}{B:Bk}(g:lk A n=some b)(f:aS (fp (.bk n)) w w')(i:fU w' b G B)(k:∀x,G x->fp (.bk n) x\/w.heap.size<=x):
  pO w' v c l mb md A D (xS fp (.bk n) G) {S with bk:=eL S.bk n B} where
 blk:=f.hpk h.blk (h.ap (by simp) _ h.self)
 cal:=by rw[fk (by simp)];exact h.cal.mod f (h.ap (by simp))
 led:=by rw[fk (by simp)];exact h.led.mod f (h.ap (by simp))
 mbk:=h.mbk.mod f (h.ap (by simp) _ ((h.fmb mb).2 rfl))
 mbd:=h.mbd.mod f (h.ap (by simp) _ ((h.fmd md).2 rfl))
 dom:=h.dom
 dod:=h.dod
 bk m b' hl:=by
  by_cases a:m=n
  ·subst a;rw[g]at hl;cases hl;show fU w' b _ (eL S.bk m B m);rw[lF,cO];exact i
  ·have d:Pt.bk m≠Pt.bk n:=by simpa using a
   show fU w' b' _ (eL S.bk n B m);rw[fk d,eJ _ _ _ a];exact(h.bk m b' hl).mod f (h.ap d)
 nbk m hl:=by
  have a:m≠n:=λe=>by grind
  have d:Pt.bk m≠Pt.bk n:=by simpa using a
  show eL S.bk n B m=_/\_;rw[fk d,eJ _ _ _ a];exact h.nbk m hl
 bd m:=(h.bd m).mod f λx j=>h.ap (by simp) x ((h.fbd m x).2 j)
 fv:=by rw[fk (by simp)];exact h.fv
 fmb:=by rw[fk (by simp)];exact h.fmb
 fmd:=by rw[fk (by simp)];exact h.fmd
 fbd m:=by rw[fk (by simp)];exact h.fbd m
 dj:=h.djU k
def qa(D:List (Int×Value))(n m:Int)(x:Vt_):kQ (put D n x) m=if m=n then x else kQ D m:=by
 unfold kQ;rw[kJ];by_cases a:m=n
 ·subst a;simp
 ·grind
def qN.setBdG(h:qN w v c l mb md A D fp S){w1:Wt_}{n:Int}{L:List Od}{sl:Vt_}{E:NP_}(r:aS E w w1)(t:∀p x,p≠ .bd n->fp p x->¬E x)(g:qp w1 sl L)(q:∀x,aK sl x->fp (.bd n) x\/w.heap.size<=x)
  (j:eF eQ xk w' md (put D n sl))(o:aS (λx=>x=md) w1 w'):qN w' v c l mb md A (put D n sl) (xS fp (.bd n) (aK sl)) {S with bd:=eL S.bd n L}:=by
 have u:=h.lt (p:=.md) ((h.fmd md).2 rfl);have s:=r.size;have i:aS (λx=>E x\/x=md) w w' :=(r.mono λx _ e=>.inl e).on o λx e=>.inl (.inr e)
 have d:∀p,p≠ .bd n->p≠ .md->∀x,fp p x->¬(E x\/x=md):=λp h1 j x e g=>by
  rcases g with g|g
  ·exact t p x h1 e g
  ·exact j (h.dj _ _ _ e ((h.fmd x).2 g))
 exact{
  blk:=i.hpk h.blk (d .v (by simp) (by simp) _ h.self)
  cal:=by rw[fk (by simp)];exact h.cal.mod i (d .cal (by simp) (by simp))
  led:=by rw[fk (by simp)];exact h.led.mod i (d .led (by simp) (by simp))
  mbk:=h.mbk.mod i (d .mb (by simp) (by simp) _ ((h.fmb mb).2 rfl))
  mbd:=j
  bk:=λm b k=>by rw[fk (by simp)];exact(h.bk m b k).mod i (d (.bk m) (by simp) (by simp))
  nbk:=λm k=>by rw[fk (by simp)];exact h.nbk m k
  bd:=λm=>by
   show qp w' _ (eL S.bd n L m);rw[qa];by_cases a:m=n
   ·subst a;rw[ae rfl,cO];refine g.mod o λx e y=>?_;rcases q x e with h1|h1
    ·exact absurd (h.dj _ _ _ h1 ((h.fmd x).2 y)) (by simp)
    ·omega
   ·have f:Pt.bd m≠Pt.bd n:=by simpa using a
    rw[aa a,eJ _ _ _ a];exact(h.bd m).mod i λx e=>d (.bd m) f (by simp) x ((h.fbd m x).2 e)
  fv:=by rw[fk (by simp)];exact h.fv
  fmb:=by rw[fk (by simp)];exact h.fmb
  fmd:=by rw[fk (by simp)];exact h.fmd
  fbd:=λm x=>by
   rw[qa];by_cases a:m=n
   ·subst a;rw[ae rfl,lF]
   ·have f:Pt.bd m≠Pt.bd n:=by simpa using a
    rw[aa a,fk f];exact h.fbd m x
  dj:=h.djU q}
def qN.setBd(h:qN w v c l mb md A D fp S){w1:Wt_}{n:Int}{L:List Od}{sl:Vt_}(a:aS (fp (.bd n)) w w1)(e:qp w1 sl L)(f:∀x,aK sl x->fp (.bd n) x\/w.heap.size<=x)
  (d:eF eQ xk w' md (put D n sl))(b:aS (λx=>x=md) w1 w'):qN w' v c l mb md A (put D n sl) (xS fp (.bd n) (aK sl)) {S with bd:=eL S.bd n L}:=
 h.setBdG a (λp x hp=>h.ap hp x) e f d b
def pO.setBd(h:pO w v c l mb md A D fp S){w1:Wt_}{n:Int}{L:List Od}{sl:Vt_}(d:(cg S.cal.l n).isSome=true)(f:aS (fp (.bd n)) w w1)(j:qp w1 sl L)(k:∀x,aK sl x->fp (.bd n) x\/w.heap.size<=x)
  (g:eF eQ xk w' md (put D n sl))(i:aS (λx=>x=md) w1 w'):pO w' v c l mb md A (put D n sl) (xS fp (.bd n) (aK sl)) {S with bd:=eL S.bd n L}:=
 ⟨h.toqN.setBd f j k g i,h.dom,λm a=>by
  by_cases b:m=n
  ·subst b;exact d
  ·rw[kJ,aa λe=>b e.symm]at a;exact h.dod m a⟩
def qN.addBk(h:qN w v c l mb md A D fp S){w1:Wt_}{n:Int}{b:Nat}{G:NP_}{B:Bk}(C:lk A n=none)(s:M0 w w1)(o:fU w1 b G B)(z:∀x,G x->w.heap.size<=x)
  (k:eF eQ fa w' mb (put A n b))(q:aS (λx=>x=mb) w1 w'):qN w' v c l mb md (put A n b) D (xS fp (.bk n) G) {S with bk:=eL S.bk n B}:=by
 have u:=h.lt (p:=.mb) ((h.fmb mb).2 rfl);have t:=s.size;have i:aS (λx=>x=mb) w w' :=(s.to).trans q;have d:∀p,p≠ .mb->∀x,fp p x->¬x=mb:=λp k x j o=>k (h.dj _ _ _ j ((h.fmb x).2 o));have y:∀x,G x->¬x=mb:=λx j e=>by grind
 exact{
  blk:=i.hpk h.blk (d .v (by simp) _ h.self)
  cal:=by rw[fk (by simp)];exact h.cal.mod i (d .cal (by simp))
  led:=by rw[fk (by simp)];exact h.led.mod i (d .led (by simp))
  mbk:=k
  mbd:=h.mbd.mod i (d .md (by simp) _ ((h.fmd md).2 rfl))
  bk:=λm r f=>by
   rw[kJ]at f;show fU w' r _ (eL S.bk n B m);by_cases a:m=n
   ·subst a;rw[ae rfl]at f;cases f;rw[lF,cO];exact o.mod q y
   ·have g:Pt.bk m≠Pt.bk n:=by simpa using a
    rw[aa λe=>a e.symm]at f;rw[fk g,eJ _ _ _ a];exact(h.bk m r f).mod i (d (.bk m) (by simp))
  nbk:=λm f=>by
   rw[kJ]at f;show eL S.bk n B m=_/\_;by_cases a:m=n
   ·grind
   ·have g:Pt.bk m≠Pt.bk n:=by simpa using a
    rw[aa λe=>a e.symm]at f;rw[fk g,eJ _ _ _ a];exact h.nbk m f
  bd:=λm=>(h.bd m).mod i λx j=>d (.bd m) (by simp) x ((h.fbd m x).2 j)
  fv:=by rw[fk (by simp)];exact h.fv
  fmb:=by rw[fk (by simp)];exact h.fmb
  fmd:=by rw[fk (by simp)];exact h.fmd
  fbd:=λm x=>by rw[fk (by simp)];exact h.fbd m x
  dj:=h.djU (p:=.bk n) λx j=>.inr (z x j)}
end
end Go.Proofs
namespace Go.Proofs
open Go Go.Vc
variable {B:Bk}{n:Int}{l a:List Od}{o o' :Od}{S:bE}
def Od.key(o:Od):Int×Int×Bool×Int:=(o.num,o.acct,o.buy,o.price)
def oE(h:o.key=o'.key):o.num=o'.num:=dW (·.1) h
def wg(h:o.key=o'.key):o.acct=o'.acct:=dW (·.2.1) h
def JN(h:o.key=o'.key):o.buy=o'.buy:=dW (·.2.2.1) h
def qR(h:o.key=o'.key):o.price=o'.price:=dW (·.2.2.2) h
structure gA(l' l:List Od):Prop where
 sub:(l'.map Od.key).Sublist (l.map Od.key)
 left:∀o∈l',1<=o.left/\o.left<=1000000
def ir(h:o.may=true):1<=o.left/\o.left<=1000000:=Od.left_bd h
def zf(h:o.key=o'.key)(a:o.may=true)(b:1<=o'.left/\o'.left<=1000000):o'.may=true:=by
 unfold Od.may at*;rw[<-oE h,<-wg h,<-qR h];simp only[ao]at a|-;exact⟨a.1,aQ b⟩
def gA.refl(h:∀o∈l,o.may=true):gA l l:=⟨bZ _,λo a=>ir (h o a)⟩
def gA.mem{b:List Od}(h:gA b l){o:Od}(c:o∈b):∃a∈l,a.key=o.key:=by
 have:=h.sub.mem (aR (f:=Od.key) c);obtain⟨a,e,d⟩:=aL.1 this;exact⟨a,e,d⟩
def JJ(l:List Od):l.map (·.num)=(l.map Od.key).map (·.1):=by rw[dK];rfl
def gA.nums(h:gA a l):(a.map (·.num)).Sublist (l.map (·.num)):=by
 rw[JJ,JJ];exact h.sub.map _
def gA.len(h:gA a l):a.length<=l.length:=by
 have:=h.sub.length_le
 rwa[ah,ah]at this
def gA.of_sub(h:a.Sublist l)(c:∀o∈l,o.may=true):gA a l:=⟨h.map _,λo b=>ir (c o (h.mem b))⟩
def gA.filter(a:∀o∈l,o.may=true)(p:Od->Bool):gA (l.filter p) l:=gA.of_sub ew a
def gA.set(b:∀o∈l,o.may=true){i:Nat}(hi:i<l.length){x:Int}(c:1<=x/\x<=1000000):gA (l.set i {l[i]with left:=x}) l:=by
 refine⟨?_,λo a=>?_⟩
 ·rw[gy]
  have e:(l.map Od.key).set i (Od.key {l[i]with left:=x})=l.map Od.key:=by
   have:Od.key {l[i]with left:=x}=(l.map Od.key)[i]'(by simpa using hi):=by rw[cD];rfl
   rw[this,gw]
  rw[e];exact bZ _
 ·rcases ep a with a|rfl
  ·exact ir (b o a)
  ·exact c
structure WE(o:Od)(left:Int)(L:List Od)(x:Int×List Od×List Td×List Int×Int):Prop where
 sub:gA x.2.1 L
 rest:0<=x.1/\x.1<=left
 fill:x.2.2.2.2+x.1=left
 qty:(x.2.2.1.map (·.qty)).sum=x.2.2.2.2
 tr:∀t∈x.2.2.1,1<=t.qty/\t.qty<=1000000/\t.acct≠o.acct/\∃b∈L,b.num=t.num/\b.acct=t.acct/\b.price=t.price/\t.qty<=b.left/\gt o b.price=true
 gone:∀g∈x.2.2.2.1,∃b∈L,b.num=g/\b.acct=o.acct
def Dr{o:Od}:∀{L:List Od} {left:Int},0<=left->(∀b∈L,b.may=true)->WE o left L (eN o left L)
 | [],left,k,l=>⟨⟨bZ _,by simp[eN]⟩,by simp[eN];omega,by simp[eN],by simp[eN],by simp[eN],by simp[eN]⟩
 |b::r,left,k,l=>by
  have A:=ir (l b ai);have u:∀x∈r,x.may=true:=λx z=>l x (af _ z);by_cases h1:left<=0\/gt o b.price=false
  ·have e:eN o left (b::r)=(left,b::r,[],[],0):=by unfold eN;rw[ae h1]
   rw[e];exact⟨gA.refl l,⟨k,ed _⟩,by simp,by simp,by simp,by simp⟩
  ·have C:gt o b.price=true:=by
    cases h:gt o b.price with
    |true=>rfl
    |false=>exact absurd (.inr h) h1
   by_cases p:b.acct=o.acct
   ·have c:=Dr (o:=o) (L:=r) k u
    have e:eN o left (b::r)=((eN o left r).1,(eN o left r).2.1,(eN o left r).2.2.1,b.num::(eN o left r).2.2.2.1,(eN o left r).2.2.2.2):=by
     conv=>lhs;unfold eN
     rw[aa h1,ae p]
    rw[e];refine⟨⟨c.sub.sub.trans (List.sublist_cons_self _ _),c.sub.left⟩,c.rest,c.fill,c.qty,λt i=>?_,λg j=>?_⟩
    ·obtain⟨s,m,n,d,a,f⟩:=c.tr t i;exact⟨s,m,n,d,af _ a,f⟩
    ·rcases ar.1 j with rfl|j
     ·grind
     ·obtain⟨d,a,f⟩:=c.gone g j;exact⟨d,af _ a,f⟩
   ·by_cases v:left<b.left
    ·have e:eN o left (b::r)=(0,{b with left:=b.left - left}::r,[⟨b.price,left,b.num,b.acct⟩],[],left):=by unfold eN;rw[aa h1,aa p,ae v]
     rw[e];refine⟨⟨bZ _,λy q=>?_⟩,⟨ed _,k⟩,by simp,by simp,λt i=>?_,by simp⟩
     ·rcases ar.1 q with rfl|q
      ·grind
      ·exact ir (u y q)
     ·grind
    ·have c:=Dr (o:=o) (L:=r) (left:=left - b.left) qZ u
     have e:eN o left (b::r)=((eN o (left - b.left) r).1,(eN o (left - b.left) r).2.1,⟨b.price,b.left,b.num,b.acct⟩::(eN o (left - b.left) r).2.2.1,(eN o (left - b.left) r).2.2.2.1,b.left+(eN o (left - b.left) r).2.2.2.2):=by
      conv=>lhs;unfold eN
      rw[aa h1,aa p,aa v]
     rw[e];have w:=c.rest;have B:=c.fill;refine⟨⟨c.sub.sub.trans (List.sublist_cons_self _ _),c.sub.left⟩,⟨w.1,by grind⟩,by grind,?_,λt i=>?_,λg j=>?_⟩
     ·show(List.map _ (_::_)).sum=_;rw[aD,bC,c.qty]
     ·rcases ar.1 i with rfl|i
      ·grind
      ·obtain⟨s,m,n,d,a,f⟩:=c.tr t i;exact⟨s,m,n,d,af _ a,f⟩
     ·obtain⟨d,a,f⟩:=c.gone g j;exact⟨d,af _ a,f⟩
def Bi(B:Bk):Prop:=∀d,∀o∈B d,o.may=true/\o.buy=d
def nM(buy:Bool)(l:List Od)(o:Od):(sk buy l o).Perm (o::l):=by
 unfold sk;apply nj.trans;rw[cH]
def E6{buy:Bool}(a:o.may=true)(d:o.buy=buy):
  ((oX buy l o).2=l/\(oX buy l o).1≠0)\/((oX buy l o).2.Perm (o::l)/\l.length<100/\(∀x∈l,x.num≠o.num)/\(oX buy l o).2=sk buy l o):=by
 unfold oX;rw[aa (by simp[a,d])];by_cases h1:(l.any λx=>decide (x.num=o.num))=true
 ·grind
 ·rw[aa h1];by_cases c:100<=l.length
  ·grind
  ·rw[aa c];refine .inr ⟨nM _ _ _,qZ,λx e b=>h1 ?_,rfl⟩;rw[g8];exact⟨x,e,aQ b⟩
structure VW(B:Bk)(o:Od)(x:Bk×Pm):Prop where
 opp:gA (x.1 (!o.buy)) (B !o.buy)
 own:x.1 o.buy=B o.buy\/(0<x.2.left/\x.1 o.buy=sk o.buy (B o.buy) {o with left:=x.2.left}/\(B o.buy).length<100/\∀y∈B o.buy,y.num≠o.num)
 fill:0<=x.2.left/\0<=x.2.filled/\x.2.filled+x.2.left<=o.left
 qty:(x.2.trades.map (·.qty)).sum=x.2.filled
 tr:∀t∈x.2.trades,1<=t.qty/\t.qty<=1000000/\t.acct≠o.acct/\∃b∈B !o.buy,b.num=t.num/\b.acct=t.acct/\b.price=t.price/\t.qty<=b.left/\gt o b.price=true
def Bk.set_ne(B:Bk){d e:Bool}(l:List Od)(h:e≠d):B.set d l e=B e:=aa h
def wV{rests:Bool}(i:Bi B)(e:o.may=true):VW B o (eW B o rests):=by
 have q:=ir e;have a:=Dr (o:=o) (L:=B !o.buy) (left:=o.left) qZ λb h=>(i _ b h).1;obtain⟨x,g⟩:=df (eN o o.left (B !o.buy));rw[<-g]at a;have j:=a.rest;have k:=a.fill;have m:0<=x.2.2.2.2:=qZ;have c:o.buy≠ !o.buy:=by grind
 unfold eW;simp only[<-g];by_cases f:rests=true/\0<x.1
 ·rw[ae f];have h1:=zf (o:=o) (o' :={o with left:=x.1}) rfl e (by grind);refine⟨?_,?_,by grind,a.qty,a.tr⟩
  ·show gA (Bk.set _ _ _ _) _;rw[Bk.set_other,Bk.set_self];exact a.sub
  ·show Bk.set _ _ _ _=_\/(0<x.1/\Bk.set _ _ _ _=sk _ _ {o with left:=x.1}/\_);rw[Bk.set_self,Bk.set_ne _ _ c];rcases E6 (l:=B o.buy) (buy:=o.buy) h1 rfl with⟨d,-⟩|⟨d,r,n,p⟩
   ·exact .inl d
   ·grind
 ·rw[aa f];refine⟨?_,.inl ?_,by grind,a.qty,a.tr⟩
  ·show gA (Bk.set _ _ _ _) _;rw[Bk.set_self];exact a.sub
  ·show Bk.set _ _ _ _=_;rw[Bk.set_ne _ _ c]
def vm(h:∀o∈l,o.num≠n):nz l n=none:=by
 unfold nz;rw[dU];exact λx a=>by simpa using h x a
def kq(d:(l.map (·.num)).Nodup){o:Od}(b:o∈l):nz l o.num=some o:=by
 induction l with
 |nil=>cases b
 |cons a l g=>
  rw[aD,bY]at d;unfold nz;rw[iz];rcases ar.1 b with rfl|b
  ·simp
  ·have c:a.num≠o.num:=λe=>d.1 (e▸aR (f:=(·.num)) b);rw[br c];exact g d.2 b
def Cz(h:nz l n=some o):o∈l/\o.num=n:=by
 unfold nz at h;exact⟨dz h,by grind⟩
def DB(b:(l.map (·.num)).Nodup)(n:Int):ot l n=l.filter λo=>decide (o.num≠n):=by
 unfold ot;induction l with
 |nil=>rfl
 |cons a l d=>
  rw[aD,bY]at b;by_cases h:a.num=n
  ·rw[List.eraseP_cons_of_pos (by simpa using h),aU (by simpa using h),cL.2 λx c=>?_];have:x.num≠a.num:=λe=>b.1 (e▸aR (f:=(·.num)) c);rw[aQ];omega
  ·grind
def tT(B:Bk):Prop:=(B.all.map (·.num)).Nodup
def tT.side(h:tT B)(d:Bool):((B d).map (·.num)).Nodup:=by
 unfold tT Bk.all at h;rw[aM,du]at h;cases d
 ·exact h.2.1
 ·exact h.1
def tT.ne(h:tT B){d e:Bool}{x y:Od}(i:x∈B d)(g:y∈B e)(c:x.num=y.num):d=e/\x=y:=by
 unfold tT Bk.all at h;rw[aM,du]at h
 have k:∀(l:List Od),(l.map (·.num)).Nodup->x∈l->y∈l->x=y:=λl f h1 j=>by
  have a:=kq f h1;have b:=kq f j;rw[c,b]at a;exact(cS a).symm
 cases d<;>cases e
 ·grind
 ·exact absurd c.symm (h.2.2 _ (aR g) _ (aR i))
 ·exact absurd c (h.2.2 _ (aR i) _ (aR g))
 ·grind
def Tj(h:tT B){d:Bool}{o:Od}(a:o∈B d):B.find o.num=some (o,d):=by
 unfold Bk.find;cases d
 ·rw[vm λx c b=>by have:=(h.ne c a b).1;cases this];simp only;rw[kq (h.side false) a]
 ·rw[kq (h.side true) a]
def AJ{d:Bool}(h:B.find n=some (o,d)):o∈B d/\o.num=n:=by
 unfold Bk.find at h;cases h1:nz (B true) n with
 |some x=>
  rw[h1]at h;cases h;exact Cz h1
 |none=>
  rw[h1]at h;simp only at h;cases a:nz (B false) n with
  |some x=>
   rw[a]at h;cases h;exact Cz a
  |none=>rw[a]at h;cases h
def Bk.flt(B:Bk)(p:Od->Bool):Bk:=λd=>(B d).filter p
def vM(h:tT B){n:Int}{o:Od}{d:Bool}(c:B.find n=some (o,d)):(fh B n).2.1=B.flt λo=>decide (o.num≠n):=by
 unfold fh;rw[c];funext e;have b:=AJ c;show Bk.set _ _ _ _=_;unfold Bk.flt;by_cases a:e=d
 ·subst a;rw[Bk.set_self,DB (h.side e)]
 ·rw[Bk.set_ne _ _ a,cL.2 λx f=>?_];rw[aQ];intro g;exact a (h.ne f b.1 (g.trans b.2.symm)).1
def Rr(B:Bk)(p q:Od->Bool):(B.flt p).flt q=B.flt λo=>q o&& p o:=by
 funext d;unfold Bk.flt;rw[gl]
def I4(B:Bk)(p:Od->Bool):(B.flt p).all=B.all.filter p:=by
 unfold Bk.all Bk.flt;rw[cw]
def tT.flt(h:tT B)(p:Od->Bool):tT (B.flt p):=by
 unfold tT;rw[I4];exact h.sublist (ew.map _)
def qJ:o∈B.all↔∃d,o∈B d:=by
 unfold Bk.all;rw[bm];constructor
 ·rintro(h|h)
  ·exact⟨true,h⟩
  ·exact⟨false,h⟩
 ·rintro⟨d,h⟩;cases d
  ·exact .inr h
  ·exact .inl h
def xJ{a:Int}:∀(l:List Od) (B:Bk),tT B->(l.map (·.num)).Nodup->(∀o∈l,o∈B.all)->tR a B l=B.flt λo=> !(l.any λx=>decide (x.num=o.num)&& ly a x)
 | [],B,_,_,_=>by
  funext d;unfold tR Bk.flt;exact(cL.2 λx k=>rfl).symm
 |x::l,B,h,c,i=>by
  rw[aD,bY]at c;have k:=i x ai;obtain⟨d,n⟩:=qJ.1 k;have p:tR a B (x::l)=tR a (if ly a x then(fh B x.num).2.1 else B) l:=rfl;rw[p];by_cases g:ly a x=true
  ·rw[ae g,vM h (Tj h n)];rw[xJ l _ (h.flt _) c.2 λo b=>?_,Rr]
   ·funext e;unfold Bk.flt;refine dH λo b=>?_;rw[List.any_cons,g,Bool.and_true,Bool.not_or];by_cases m:x.num=o.num
    ·grind
    ·grind
   ·rw[I4,aT];refine⟨i o (af _ b),?_⟩;rw[aQ];exact λm=>c.1 (m▸aR (f:=(·.num)) b)
  ·rw[aa g,xJ l _ h c.2 λo b=>i o (af _ b)];funext e;unfold Bk.flt;refine dH λo b=>?_;have j:ly a x=false:=by simpa using g
   rw[List.any_cons,j,oH,fG]
def Fm(h:tT B)(a:Int):(iK B a).1=B.flt λo=> !ly a o:=by
 unfold iK;simp only;rw[xJ _ _ h h λo c=>c];funext d;unfold Bk.flt;refine dH λo c=>?_;congr 1;rw[dr,g8];constructor
 ·rintro⟨x,i,b⟩;rw[ao,aX]at b;obtain⟨e,f⟩:=qJ.1 i;rw[<-(h.ne f c b.1).2];exact b.2
 ·intro g;exact⟨o,qJ.2 ⟨d,c⟩,by simp[g]⟩
def EA{l:List Po}(h:kr l){p:Po}(hp:p∈l):l.find? (λx=>decide (x.key=p.key))=some p:=bE.pos_some (S:=⟨0,[],l⟩) h hp
def bE.pos_putP(h:kr S.held)(p:Po)(k:Int×Int):(S.putP p).pos? k=if k=p.key then(if p.isZ then none else some p)else S.pos? k:=by
 have g:=rX h p;by_cases c:k=p.key
 ·subst c;rw[ae rfl];cases f:p.isZ with
  |true=>
   simp only[cZ];unfold bE.pos? bE.putP;rw[dU];intro x d;rcases rh.1 d with⟨_,a⟩|⟨_,a⟩
   ·simpa using a
   ·rw[f]at a;cases a
  |false=>
   exact bE.pos_some (S:=S.putP p) g (rh.2 (.inr ⟨rfl,f⟩))
 ·rw[aa c];cases b:S.pos? k with
  |some x=>
   obtain⟨h1,a⟩:=bE.pos_mem b;have:=bE.pos_some (S:=S.putP p) g (rh.2 (.inl ⟨h1,λe=>c (a▸e)⟩))
   rwa[a]at this
  |none=>
   unfold bE.pos? at b|-;rw[dU]at b|-;intro x d;rcases rh.1 d with⟨h1,_⟩|⟨rfl,_⟩
   ·exact b x h1
   ·grind
def bE.position_putP(h:kr S.held)(p:Po)(c a:Int):(S.putP p).position c a=if c=p.c/\a=p.a then p else S.position c a:=by
 unfold bE.position;rw[bE.pos_putP h];by_cases d:c=p.c/\a=p.a
 ·obtain⟨rfl,rfl⟩:=d;rw[ae (show(p.c,p.a)=p.key from rfl),ae (show p.c=p.c/\p.a=p.a from tF)];cases b:p.isZ with
  |false=>rfl
  |true=>
   unfold Po.isZ at b;simp only[aX]at b;obtain⟨f,pa,i,g⟩:=p;simp only at b;simp[b.1,b.2]
 ·rw[aa (λe=>d (by simpa [Po.key]using e)),aa d]
def bE.trade_ok{c b s p:Int}(h:(S.trade c b s p n).1=0):b≠s/\
  (S.trade c b s p n).2=(S.putP ⟨c,b,(S.position c b).q+n,(S.position c b).b+p*n⟩).putP ⟨c,s,(S.position c s).q - n,(S.position c s).b - p*n⟩:=by
 unfold bE.trade at h|-;by_cases h1:c=0\/b=0\/s=0\/b=s\/aW p 1 MP=false\/aW n 1 MP=false
 ·grind
 ·rw[aa h1]at h|-;by_cases a:S.find b=none\/S.find s=none
  ·grind
  ·rw[aa a]at h|-;simp only at h|-;refine⟨λe=>h1 (.inr (.inr (.inr (.inl e)))),?_⟩;split at h
   ·cases h
   ·grind
def bE.trade_all{c b s p:Int}:(S.trade c b s p n).2.all=S.all/\(S.trade c b s p n).2.fund=S.fund:=by
 unfold bE.trade;split
 ·exact tF
 ·split
  ·exact tF
  ·simp only;split<;>exact tF
end Go.Proofs
