/- Part of a proof. -/
import Derived.Test.YtekbnpagidkbbaaGreatR15
set_option linter.all false
set_option maxRecDepth 100000
set_option maxHeartbeats 4000000
namespace Go.Proofs
open Go Go.Vc
attribute [local congr] bj
variable {rs:List Rt}{b:Nat}{w:Wt_}
abbrev EK:TypeId:=478
def ah6:Tryz.prog.underlying EK=some (.array 9 477):=cV
def nRt:Tryz.prog.cellsOf 477=3+1:=cV
def sY(w:Wt_)(b:Nat)(rs:List Rt):Prop:=hp w b=some (.cells (rs.flatMap I7).toArray EK (0,0))/\rs.length=9
def sY.mod{F:NP_}{w' :Wt_}(h:sY w b rs)(a:aR F w w')(c:¬F b):sY w' b rs:=⟨a.hpk h.1 c,h.2⟩
def sY.ld(h:sY w b rs){i:Nat}(hi:i<9){j:Nat}(a:j<4){x:Int}(c:(I7 (rs[i]'(by rw[h.2];exact hi)))[j]? =some (gI x)):
  (iL 2 (bO b (i*4+j))).run pQ w=.ok (gI x) w:=by
 have:=tj ua a rs i (by rw[h.2];exact hi);rw[c]at this;simp[go_sem,h.1,this]
def sY.st(h:sY w b rs){i:Nat}(hi:i<9){j:Nat}(f:j<4){x:Int}{r' :Rt}(k:(I7 (rs[i]'(by rw[h.2];exact hi))).set j (gI x)=I7 r'):
  ∃d,(iS 2 (bO b (i*4+j)) (gI x)).run pQ w=.ok () d/\sY d b (rs.set i r')/\aR (λy=>y=b) w d:=by
 have e:i<rs.length:=by rw[h.2];exact hi
 have a:=DJ ua f rs i e k;have c:i*4+j<(rs.flatMap I7).length:=by rw[uB ua,h.2];omega
 have g:(rs.flatMap I7)[i*4+j]? =some ((rs.flatMap I7)[i*4+j]):=av c;refine⟨w.setCell ⟨b,i*4+j,none⟩ (gI x),by simp[go_sem,h.1,g],⟨?_,by rw[bN,h.2]⟩,(aR.refl (λy=>y=b) w).sc⟩;rw[Bp,ae rfl,h.1,jJ,ek,a]
def sY.ix{i:Nat}(hi:i<9)(k:IntKind)(W:Wt_):(iX EK (bO b 0) (.int k (i:Int))).run pQ W=.ok (bO b (i*4)) W:=by
 have a:¬(9:Int)<=(i:Int):=qZ;simp[go_sem,hi,a,bK,ah6,Program.elem,Go.Vc.lI nRt]
def vt(b o j:Nat)(a:j<4)(W:Wt_):(iF 477 (bO b o) j).run pQ W=.ok (bO b (o+j)) W:=by
 rcases(show j=0\/j=1\/j=2\/j=3 by omega)with rfl|rfl|rfl|rfl<;>simp[go_sem,bK]
def Ao{x y:Int}{W:Wt_}(h:ed (x+y)):(io .add 2 false (gI x) (gI y)).run pQ W=.ok (gI (x+y)) W:=by
 simp[go_sem];rw[ew h.1 h.2]
def O5{W:Wt_}{q:Nat}{x:Lg}{k:Int}{R:Value×Value×Value×Unit->World->Prop}{K:aZ}{s1 s2:Vt_}{i:Nat}(hR:sY W b rs)(U:hp W q=some (.cells (uJ x).toArray 412 (0,0)))(hbq:b≠q)(hi:i<=1000)(hk:0<=k/\k<=100)(hbd:∀r∈rs,r.Bd k)(hok:zj x=true)(hfit:x.spec.Fit)
  (hK:∀o,sY o b (mM rs x)->aR (λy=>y=b) W o->R (s1,s2,gI ((i+1:Nat):Int),()) o):
  SK K (bO q 0) (s1,s2,gI (i:Int),()) R (bO b 0) (.bool false,()) W:=by
 have f:=hok;unfold zj at f;rw[ai]at f;obtain⟨p1,p2,p3,p4,p5⟩:=zk f.1;have Y:=bE f.2;unfold SK;intro _;rw[jO];have t:∀W,hp W q=some (.cells (uJ x).toArray 412 (0,0))->(iL 2 (bO q 25)).run pQ W=.ok (gI x.q) W:=λW h=>by simp[go_sem,h,Rq]
 have H:∀W,hp W q=some (.cells (uJ x).toArray 412 (0,0))->(iL 2 (bO q 22)).run pQ W=.ok (gI x.spec.credit) W:=λW h=>by simp[go_sem,h,lgT,YS]
 refine Ka (bO q 25) (bo (t _ U) ?_);by_cases v:x.q=0
 ·refine dY v ?_;apply ao (gI ((i+1:Nat):Int)) W (by simp[go_sem];rw[mR]);have e:mM rs x=rs:=by unfold mM;rw[ae v]
  have Z:=hK W (by rw[e];exact hR) rZ;exact Z
 refine fF v ?_;obtain⟨n,hn⟩:=di (x.spec.route.toNat:Nat);have hnr:x.spec.route=(n:Int):=qZ;have a:n<9:=qZ;have hnl:n<rs.length:=by rw[hR.2];exact a
 obtain⟨r,hr⟩:=di (rs[n]);have hrb:=hbd r (by grind);obtain⟨b1,b2,b3,b4,b5,b6,b7,b8⟩:=hrb;have hw:=Dx Y p1;refine dI ?_;refine dI ?_;apply ao (gB (n:Int)) W (by simp[go_sem,U,lgT,ag8,hnr]);apply bo (sY.ix a .u8 W)
 have st:mM rs x=rs.set n (Db r x):=by
  unfold mM;rw[aa v,<-hn,av hnl,hr]
 obtain⟨p,c⟩:=di (if(r.longs=0/\r.shorts=0)\/x.spec.credit<r.rate then x.spec.credit else r.rate);have C:∀{W o:Wt_},aR (λy=>y=b) W o->hp W q=some (.cells (uJ x).toArray 412 (0,0))->hp o q=some (.cells (uJ x).toArray 412 (0,0)):=λm h=>m.hpk h (λe=>hbq e.symm);refine cT.at (λ_ o=>sY o b (rs.set n ⟨r.scans+lP x.spec.shifts.toList x.q,r.longs,r.shorts,p⟩)/\aR (λy=>y=b) W o) ?_ ?_
 ·simp only[bU];have md:M0 W W.drew:=vz;have E:=hR.mod md id;have z:=md.hpk U id;generalize W.drew=w1 at md E z|-;apply cx (λW=>vt b (n*4) 0 qZ W);have l0:∀w,sY w b rs->(iL 2 (bO b (n*4+0))).run pQ w=.ok (gI r.scans) w:=λw h=>h.ld a (j:=0) qZ (by rw[hr];rfl);apply cK (l0 _ E);refine sB ?_;refine sB ?_
  have hA:At w1 q 6 (vD x.spec.shifts):=by
   have:=(At.all z).sub 6 16 (by rw[g9];omega);rw[uJ,dq (by rw[br];omega),aO (by rw[bC,br];omega),ti]at this;simpa using this
  apply kA (vD x.spec.shifts) 15 WO Xf (nt _) hA;refine NT (bO q 25) (cK (t _ z) ?_);refine H8 p1 qZ λw2 m2=>?_;have Q:=E.mod m2 id;have hq2:=m2.hpk z id;refine⟨l0 _ Q,?_⟩;apply cx (λW=>Ao ⟨qZ,qZ⟩);apply cx (λW=>vt b (n*4) 0 qZ W);obtain⟨J,e3,L,m3⟩:=Q.st a (j:=0) qZ (x:=r.scans+lP x.spec.shifts.toList x.q) (r' :=⟨r.scans+lP x.spec.shifts.toList x.q,r.longs,r.shorts,r.rate⟩) (by rw[<-hr];rfl);apply iE e3;have N:=C m3 hq2;have u:(rs.set n ⟨r.scans+lP x.spec.shifts.toList x.q,r.longs,r.shorts,r.rate⟩)[n]'(by grind)=⟨r.scans+lP x.spec.shifts.toList x.q,r.longs,r.shorts,r.rate⟩:=eg _;have M3:aR (λy=>y=b) W J:=((md.trans m2).to).trans m3;have s:M0 J J.drew:=vz;refine cT.at (λst o=>st=(.bool (decide ((r.longs=0/\r.shorts=0)\/x.spec.credit<r.rate)),())/\o=J.drew) ?_ ?_
  ·have d:=L.mod s id;have l:=s.hpk N id;generalize J.drew=w4 at d l|-;have l1:=d.ld a (j:=1) qZ (x:=r.longs) (by rw[u];rfl);have l2:=d.ld a (j:=2) qZ (x:=r.shorts) (by rw[u];rfl);have l3:=d.ld a (j:=3) qZ (x:=r.rate) (by rw[u];rfl);simp only[bU];refine cx (λW=>vt b (n*4) 1 qZ W) (cK l1 ?_);by_cases h1:r.longs=0
   ·refine JC h1 ?_;refine cx (λW=>vt b (n*4) 2 qZ W) (cK l2 ?_);by_cases h2:r.shorts=0
    ·refine JC h2 ?_;exact⟨by grind,by trivial⟩
    ·refine Kf h2 ?_;refine sB ?_;refine NT (bO q 22) (cK (H _ l) ?_);refine cx (λW=>vt b (n*4) 3 qZ W) (cK l3 ?_);refine sB ?_;exact⟨by simp[h2],by trivial⟩
   ·refine Kf h1 ?_;refine sB ?_;refine NT (bO q 22) (cK (H _ l) ?_);refine cx (λW=>vt b (n*4) 3 qZ W) (cK l3 ?_);refine sB ?_;exact⟨by simp[h1],by trivial⟩
  rintro _ o ⟨rfl,rfl⟩;have d:=L.mod s id;have l:=s.hpk N id;have M4:=M3.trans (s.to (G:=λy=>y=b));generalize J.drew=w4 at d l M4|-;unfold SR;intro _;by_cases hc:(r.longs=0/\r.shorts=0)\/x.spec.credit<r.rate
  ·rw[oB hc];rw[ae hc]at c;refine dI ?_;refine Ka (bO q 22) (bo (H _ l) ?_);simp only[bU];apply bo (vt b (n*4) 3 qZ _);obtain⟨V,e5,A,m5⟩:=d.st a (j:=3) qZ (x:=x.spec.credit) (r' :=⟨r.scans+lP x.spec.shifts.toList x.q,r.longs,r.shorts,x.spec.credit⟩) (by rw[u];rfl);apply iE e5;rw[ke]at A;exact⟨by grind,M4.trans m5⟩
  ·rw[ay,aa (by grind)];rw[aa hc]at c;exact⟨by grind,M4⟩
 rintro _ V ⟨A,M5⟩;unfold SE;intro _;obtain⟨F,g⟩:=di (⟨r.scans+lP x.spec.shifts.toList x.q,r.longs,r.shorts,p⟩:Rt);rw[<-g]at A;have O:(rs.set n F)[n]'(by grind)=F:=eg _;have hq5:=C M5 U;simp only[bU];have md:M0 V V.drew:=vz;have D:=A.mod md id;have I:=md.hpk hq5 id;have M6:=M5.trans (md.to (G:=λy=>y=b));generalize V.drew=w6 at D I M6|-;refine cx (λW=>vt b (n*4) 1 qZ W) (cK (D.ld a (j:=1) qZ (x:=r.longs) (by rw[O,g];rfl)) ?_);refine NT (bO q 25) (cK (t _ I) ?_);refine qW0 ?_;apply cx (λW=>Ao ⟨qZ,qZ⟩);apply cx (λW=>vt b (n*4) 1 qZ W);obtain⟨X,e7,T,m7⟩:=D.st a (j:=1) qZ (x:=r.longs+max x.q 0) (r' :={F with longs:=r.longs+max x.q 0}) (by rw[O,g];rfl);apply iE e7;rw[ke]at T;have hq7:=C m7 I;have M7:=M6.trans m7;have md:M0 X X.drew:=vz;have B:=T.mod md id;have M:=md.hpk hq7 id;have M8:=M7.trans (md.to (G:=λy=>y=b));generalize X.drew=w8 at B M M8|-;have S:(rs.set n {F with longs:=r.longs+max x.q 0})[n]'(by grind)={F with longs:=r.longs+max x.q 0}:=eg _;refine cx (λW=>vt b (n*4) 2 qZ W) (cK (B.ld a (j:=2) qZ (x:=r.shorts) (by rw[S,g];rfl)) ?_);refine NT (bO q 25) (cK (t _ M) ?_);apply du (gI (-x.q)) (λ_=>by simp[go_sem];rw[mR]);refine qW0 ?_;apply cx (λW=>Ao ⟨qZ,qZ⟩);apply cx (λW=>vt b (n*4) 2 qZ W);obtain⟨w9,e9,P,m9⟩:=B.st a (j:=2) qZ (x:=r.shorts+max (-x.q) 0) (r' :={F with longs:=r.longs+max x.q 0,shorts:=r.shorts+max (-x.q) 0}) (by rw[S,g];rfl);apply iE e9;rw[ke]at P;apply ao (gI ((i+1:Nat):Int)) w9 (by simp[go_sem];rw[mR]);refine hK w9 ?_ (M8.trans m9);rw[st]
 have e:Db r x={F with longs:=r.longs+max x.q 0,shorts:=r.shorts+max (-x.q) 0}:=by
  unfold Db;rw[g,c]
 rw[e];exact P
end Go.Proofs
namespace Go.Proofs
open Go Go.Vc
attribute [local congr] bj
def PS:Tryz.prog.underlying 479=some (.map 45 3):=cV
def rtV(r:Rt):Value:=.agg (I7 r).toArray
def sY.ld4{w:Wt_}{b:Nat}{rs:List Rt}(h:sY w b rs){i:Nat}(hi:i<9):
  (iL 477 (bO b (i*4))).run pQ w=.ok (rtV (rs[i]'(by rw[h.2];exact hi))) w:=by
 have a:i<rs.length:=by rw[h.2];exact hi
 have c:=tj ua (show 0<4 by omega) rs i a;have e:=tj ua (show 1<4 by omega) rs i a;have d:=tj ua (show 2<4 by omega) rs i a;have f:=tj ua (show 3<4 by omega) rs i a;simp only[cB]at c;simp[go_sem,h.1,c,e,d,f,rtV,I7]
def aa9(d:Rt)(w:Wt_):∃a c,(iA 477 true (.tuple #[])).run pQ w=.ok (bO w.heap.size 0) a/\(iS 477 (bO w.heap.size 0) (rtV d)).run pQ a=.ok () c/\hC c w.heap.size (I7 d).toArray 477/\M0 w c:=by
 obtain⟨a,b⟩:=di (w.alloc (.cells #[.int .i64 0,gI 0,gI 0,gI 0] 477));have f:M0 w a:=by rw[b];exact(aR.refl _ w).alloc _
 have e:hC a w.heap.size #[.int .i64 0,gI 0,gI 0,gI 0] 477:=by rw[b];simp[go_sem]
 refine⟨a,(((a.setCell ⟨w.heap.size,0,none⟩ (gI d.scans)).setCell ⟨w.heap.size,1,none⟩ (gI d.longs)).setCell ⟨w.heap.size,2,none⟩ (gI d.shorts)).setCell ⟨w.heap.size,3,none⟩ (gI d.rate),by rw[b];simp[go_sem],by simp[go_sem,e,rtV,I7],by simp[go_sem,e,I7],?_⟩;exact f.on (((((aR.refl (λx=>x=w.heap.size) a).sc).sc).sc).sc) λx g=>gr
def Hx(r:Rt):Int:=max 0 (r.scans - min r.longs r.shorts*r.rate)
def Jj(l:List Rt)(r:Rt):zM (l++[r])=zM l+Hx r:=by unfold zM Hx;simp
def Rt.prod{r:Rt}(h:r.Bd 16):0<=min r.longs r.shorts*r.rate/\min r.longs r.shorts*r.rate<=1600000000000000/\0<=r.scans/\r.scans<=1600000000000000:=by
 obtain⟨h1,f,j,g,i,d,c,e⟩:=h;have k:=Eb (a:=min r.longs r.shorts) (b:=r.rate) (A:=160000000) (B:=10000000) qZ qZ;have l:0<=min r.longs r.shorts*r.rate:=jw qZ c;omega
def H6{l:List Rt}(h:∀r∈l,r.Bd 16):0<=zM l/\zM l<=l.length*1600000000000000:=by
 have:=sL (l:=l.map Hx) (B:=1600000000000000) λx b=>by
  obtain⟨r,a,rfl⟩:=aL.1 b;have:=Rt.prod (h r a);unfold Hx;omega
 rw[ah]at this;exact this
def C6{k:Int}(c:0<=k){rs:List Rt}{x:Lg}(h:∀r∈rs,r.Bd k)(i:zj x=true):∀r∈mM rs x,r.Bd (k+1):=by
 have a:∀r:Rt,r.Bd k->r.Bd (k+1):=λr b=>by
  obtain⟨h1,j,g,l,e,m,d,f⟩:=b;exact⟨h1,qZ,g,qZ,e,qZ,d,f⟩
 intro r b;unfold mM at b;split at b
 ·exact a r (h r b)
 ·split at b
  ·next r0 h0=>
   rcases eD b with b|rfl
   ·exact a r (h r b)
   ·exact Ru (h r0 (dc h0)) c i
  ·exact a r (h r b)
def Ml{w:Wt_}{K:aZ}{s:Vt_}{l:List Lg}(h:Rd w 26 s l.length (l.flatMap uJ))(hn:l.length<=100000)(hl:∀x∈l,x.spec.Fit/\ed x.q)
  (hK:∀w',M0 w w' ->K (.tuple #[.int .i64 (jU l).1,gI (jU l).2]) w'):Ca pQ 348 #[s] w K:=by
 refine cN Tryz.func348 ?_;obtain⟨a,c,hs⟩:=h.isSl;have f:∀{W:Wt_},(builtin .len #[453] 3 #[false] #[s]).run pQ W=.ok (.value (gI (l.length:Int))) W:=λ{W}=>by rw[hs];simp[go_sem]
 have fin:∀x e W,jU l=(x,e)->M0 w W->K (.tuple #[.int .i64 x,gI e]) W:=λx e W he m=>by
  have hk:=hK W m;rw[he]at hk;exact hk
 apply uz f;by_cases u:16<l.length
 ·have g:(16:Int)<(l.length:Int):=qZ;refine dY g ?_;exact fin 0 3 w (by unfold jU;rw[ae u]) rZ
 have g:¬(16:Int)<(l.length:Int):=qZ;refine fF g ?_;apply rC Z2;obtain⟨b,Z⟩:=di w.heap.size;have m1:M0 w (w.alloc (.cells (jf pQ EK).toArray EK)):=mG;have r1:sY (w.alloc (.cells (jf pQ EK).toArray EK)) b (List.replicate 9 Tz):=⟨by rw[Z,<-ag7];simp[go_sem],by simp⟩
 rw[<-Z];generalize w.alloc (.cells (jf pQ EK).toArray EK)=O at m1 r1|-;obtain⟨m,I⟩:=di O.heap.size;have hbm:b<m:=by rw[I];exact aB r1.1
 have m2:M0 O (O.alloc (.map #[] 0)):=mG;have M:eM eY FK (O.alloc (.map #[] 0)) m ([]:List (Int×Int)):=by rw[I];exact eM.new O
 apply ao (.map (some m)) (O.alloc (.map #[] 0)) (by rw[I];simp[go_sem]);have r2:=r1.mod m2 id;generalize O.alloc (.map #[] 0)=w2 at m2 M r2|-;apply uz f;have hml:=M.lt;have hs1:=m1.size
 refine d8 (λst W=>∃(i:Nat) (x y:Vt_),i<=l.length/\st=(x,y,gI i,())/\sY W b ((l.take i).foldl mM (List.replicate 9 Tz))/\(∀r∈(l.take i).foldl mM (List.replicate 9 Tz),r.Bd i)/\(l.take i).all zj=true/\eM eY FK W m ([]:List (Int×Int))/\M0 w W/\m<W.heap.size)
  (λst _=>match st.2.2.1 with| .int _ i=>l.length - i.toNat|_=>0) ⟨0,_,_,qZ,rfl,r2,λr F=>?_,rfl,M,m1.trans m2,hml⟩ ?_
 ·have:r=Tz:=mB F;rw[this];exact⟨by decide,by decide,by decide,by decide,by decide,by decide,by decide,by decide⟩
 rintro⟨s1,s2,_,_⟩ W ⟨i,x0,y0,hi,⟨⟩,q1,q2,q3,q4,q5,q6⟩ KN hKN;refine lV ?_;intro _;by_cases j:i<l.length
 ·have t:(i:Int)<(l.length:Int):=qZ;refine dY t ?_;obtain⟨p,e1,e2⟩:=Zx (h.mod q5 d9) j;refine bo e1 (kY e2 ?_);obtain⟨x,V⟩:=di (l[i]);rw[<-V];have N:=hl x (by grind);refine V1 λw3 C A=>?_;obtain⟨q,hq⟩:=di W.heap.size;rw[<-hq]at C|-;have htk:l.take (i+1)=l.take i++[x]:=by rw[V];exact bR j
  refine cT.at (λst W' =>st=(.bool (!zj x),())/\M0 w3 W') ?_ ?_
  ·refine dI ?_
   have hA:At w3 q 0 (eV x.spec):=by
    have:=(At.all C).sub 0 25 (by rw[g9];omega);rw[dW,uJ,aO (by rw[br];omega),aC (by rw[br];omega)]at this;exact this
   apply fH (eV x.spec) 24 zi we (br _) hA;refine qF N.1 λo d=>?_;have S:=d.hpk C id;cases E:x.spec.may with
   |false=>
    refine lh ?_;exact⟨by simp[zj,E],d⟩
   |true=>
    refine eU ?_;refine dI ?_;refine nS S Rq ?_;apply gM N.2 qZ;refine dI ?_;exact⟨by simp[zj,E],d⟩
  rintro _ o ⟨rfl,d⟩;cases H:zj x with
  |false=>
   refine kR ?_;intro _;rw[ay,ae (show(!false)=true from rfl)];refine fin 0 2 o ?_ ((q5.trans A).trans d);unfold jU;rw[aa u];exact ae (kz.2 ⟨x,by grind,by rw[H];simp⟩)
  |true=>
   have M4:=(q5.trans A).trans d;have r4:=(q1.mod A id).mod d id;have S:=d.hpk C id;refine O5 (k:=(i:Int)) r4 S qZ qZ qZ q2 H N.1 λW' rW mW=>?_;have hsz:=mW.size;have hb4:=aB S;have hs34:=d.size;have hs3:=A.size;refine hKN _ _ ⟨i+1,_,_,qZ,rfl,?_,?_,?_,((q4.mod A id).mod d id).mod mW qZ,M4.on mW λy hy=>gr,qZ⟩ (by grind)
   ·grind
   ·rw[htk,iV];have:=C6 (k:=(i:Int)) qZ q2 H;rw[jM];exact this
   ·grind
 ·obtain rfl:i=l.length:=qZ;refine eU ?_;rw[aK]at q1 q2 q3;obtain⟨rs,hrs⟩:=di (l.foldl mM (List.replicate 9 Tz));rw[<-hrs]at q1 q2;apply uz f
  refine d8 (λst W2=>∃(i:Nat) (x y:Vt_) (L:List (Int×Int)) (seen:List Int),i<=l.length/\st=(x,y,gI i,())/\sY W2 b rs/\eM eY FK W2 m L/\(∀n,lk L n=if n∈seen then some 1 else none)/\A9 [] l=A9 seen (l.drop i)/\M0 w W2)
   (λst _=>match st.2.2.1 with| .int _ i=>l.length - i.toNat|_=>0) ⟨0,_,_,[],[],qZ,rfl,q1,q4,λn=>by simp[lk],rfl,q5⟩ ?_
  rintro⟨_,_,_,_⟩ W2 ⟨i,x0,y0,L,seen,hi,⟨⟩,t1,t2,t3,t4,t5⟩ KM hKM;refine lV ?_;intro _;by_cases j:i<l.length
  ·have t:(i:Int)<(l.length:Int):=qZ;refine dY t ?_;obtain⟨p,e1,e2⟩:=Zx (h.mod t5 d9) j;refine bo e1 (kY e2 ?_);obtain⟨x,V⟩:=di (l[i]);rw[<-V];refine V1 λw3 C A=>?_;obtain⟨q,hq⟩:=di W2.heap.size;rw[<-hq]at C|-;have P:l.drop i=x::l.drop (i+1):=by rw[V];exact(ci j).symm
   rw[P,A9]at t4;have hml:=t2.lt;have Y:=t2.mod A id;refine dI ?_;refine dI ?_;refine qS3 C lgT QE ?_;apply xC (enc:=eY) (ev:=FK) (x:=x.spec.num) (gI 0) PS lu UE (.inr ⟨m,rfl,Y⟩);obtain⟨v,R⟩:=di (if x.spec.num∈seen then 1 else 0:Int)
   have hlk:(lk L x.spec.num).elim (gI 0) FK=gI v:=by
    rw[t3,R];split<;>rfl
   rw[hlk];have hvb:0<=v/\v<=1:=by grind
   apply ao (FK (v+1)) w3 (by simp[go_sem,FK];rw[mR]);refine gZ (enc:=eY) (ev:=FK) (x:=x.spec.num) (v:=v+1) PS lu Y λo T d hs4=>?_;have S:=d.hpk C qZ;refine dI ?_;refine dI ?_;refine qS3 S lgT QE ?_;apply xC (enc:=eY) (ev:=FK) (x:=x.spec.num) (gI 0) PS lu UE (.inr ⟨m,rfl,T⟩)
   have U:(lk (put L x.spec.num (v+1)) x.spec.num).elim (gI 0) FK=gI (v+1):=by
    rw[lm,ae rfl];rfl
   rw[U];have M4:M0 w o:=(t5.trans A).on d λy hy=>gr;by_cases B:x.spec.num∈seen
   ·rw[ae B]at R;refine dY R ?_;refine fin 0 8 o ?_ M4;have ht:A9 [] l=true:=by rw[t4];simp[B]
    unfold jU;rw[aa u,aa (by rw[q3];simp),ae ht]
   ·rw[aa B]at R;refine fF R ?_;apply ao (gI ((i+1:Nat):Int)) o (by simp[go_sem];rw[mR]);refine hKM _ _ ⟨i+1,_,_,_,x.spec.num::seen,qZ,rfl,(t1.mod A id).mod d qZ,T,λn=>?_,?_,M4⟩ (by grind)
    ·rw[lm,t3,R];by_cases hno:x.spec.num=n
     ·subst hno;simp
     ·grind
    ·rw[t4];simp[B]
  ·obtain rfl:i=l.length:=qZ;refine eU ?_;rw[cn (aD _),A9]at t4
   have hmr:jU l=(zM rs,0):=by
    unfold jU;rw[aa u,aa (by rw[q3];simp),aa (by rw[t4];simp),<-hrs]
   have X:∀r∈rs,r.Bd 16:=λr F=>by
    obtain⟨h1,h2,h3,h4,h5,h6,h7,h8⟩:=q2 r F;exact⟨h1,qZ,h3,qZ,h5,qZ,h7,h8⟩
   have hr9:=t1.2
   refine d8 (λst G=>∃i:Nat,i<=9/\st=(gI (zM (rs.take i)),gI i,())/\sY G b rs/\M0 w G)
    (λst _=>match st.2.1 with| .int _ i=>9 - i.toNat|_=>0) ⟨0,qZ,rfl,t1,t5⟩ ?_
   rintro⟨_,_,_⟩ G ⟨i,hi9,⟨⟩,u1,u2⟩ KP hKP;refine lV ?_;intro _;by_cases D:i<9
   ·have J:(i:Int)<9:=qZ;refine dY J ?_;refine bo (sY.ix D .i64 G) (bo (u1.ld4 D) ?_);obtain⟨r,F⟩:=di (rs[i]'qZ);rw[<-F];obtain⟨wv,o,v1,v2,Q,v4⟩:=aa9 r G;obtain⟨q,hq⟩:=di G.heap.size;rw[<-hq]at v1 v2 Q;refine bo v1 (iE v2 ?_);unfold I7 at Q;have hrb:=X r (by grind);have hp:=Rt.prod hrb;obtain⟨z,hz⟩:=di (min r.longs r.shorts*r.rate);rw[<-hz]at hp;refine dI ?_;refine dN Q ?_;refine dI ?_;refine dN Q ?_;refine dI ?_;refine dN Q ?_;refine IF ?_;refine dI ?_;refine dN Q ?_;apply ao (gI z) o (by simp only[go_sem];simp;rw[<-hz,mR]);apply bo (FG (W:=o) ⟨qZ,qZ⟩);refine IF ?_;have hsb:=H6 (l:=rs.take i) λr F=>X r (bF F);have htl:(rs.take i).length<=9:=by grind
    apply bo (Ao (W:=o) ⟨qZ,qZ⟩);apply ao (gI ((i+1:Nat):Int)) o (by simp[go_sem];rw[mR]);refine hKP _ _ ⟨i+1,qZ,?_,u1.mod v4 id,u2.trans v4⟩ (by grind);have e:rs.take (i+1)=rs.take i++[r]:=by rw[F];exact bR qZ
    rw[e,Jj];unfold Hx;rw[<-hz]
   ·obtain rfl:i=9:=qZ;refine eU ?_;rw[aC qZ];exact fin _ 0 G hmr u2
end Go.Proofs
namespace Go.Proofs
open Go Go.Vc
structure Cm where
 kind:Int
 acct:Int
 ct:Int
 num:Int
 amt:Int
 spec:Sp
 on:Bool
 buy:Bool
 ty:Int
 price:Int
 qty:Int
 deriving DecidableEq
def Cm.Fit(c:Cm):Prop:=(0<=c.kind/\c.kind<256)/\iU c.acct/\iU c.ct/\Np c.num/\ed c.amt/\c.spec.Fit/\(0<=c.ty/\c.ty<256)/\ed c.price/\ed c.qty
def LG:Cm:=⟨0,0,0,0,0,uv,false,false,0,0,0⟩
def ny(c:Cm):List Value:=[.int .u8 c.kind,gU c.acct,gU c.ct,gQ c.num,gI c.amt]++(eV c.spec++[.bool c.on,.bool c.buy,gB c.ty,gI c.price,gI c.qty])
def Cm.bare(c:Cm):Cm:=
 let b:Cm:={LG with kind:=c.kind}
 if c.kind=1\/c.kind=2 then{b with acct:=c.acct,amt:=c.amt}
 else if c.kind=3 then{b with spec:=c.spec}
 else if c.kind=4 then{b with ct:=c.ct,on:=c.on}
 else if c.kind=5 then{c with num:=0,amt:=0,spec:=uv,on:=false}
 else if c.kind=6 then{b with acct:=c.acct,num:=c.num}
 else if c.kind=7 then{b with acct:=c.acct,num:=c.num,price:=c.price,qty:=c.qty}
 else if c.kind=8 then{b with acct:=c.acct,ct:=c.ct}
 else if c.kind=9 then{b with acct:=c.acct,ct:=c.ct,buy:=c.buy,price:=c.price,qty:=c.qty}
 else if c.kind=10 then{b with acct:=c.acct,on:=c.on}
 else if c.kind=11 then{b with ct:=c.ct,price:=c.price}
 else if c.kind=13 then{b with acct:=c.acct}
 else if c.kind=14 then{b with ct:=c.ct}
 else b
def Cm.may(c:Cm):Bool:=decide (1<=c.kind/\c.kind<=14)&& decide (c=c.bare)&& (decide (c.kind≠3)||c.spec.may)
structure Rp where
 err:Int
 num:Int
 filled:Int
 left:Int
 trades:List Td
 gone:List Int
 accts:List Int
 deriving DecidableEq
def kI:Rp:=⟨0,0,0,0,[],[],[]⟩
def zJ(e:Int):Rp:={kI with err:=e}
structure lG where
 leg:Lg
 basis:Int
 price:Int
 ords:List Od
structure Nd where
 m:Int
 w:Int
 u:Int
 deriving DecidableEq
def lG.ok(s:lG):Bool:=
 aY s.basis (-1000000000000000) 1000000000000000&& aY s.leg.q (-10000000) 10000000&& s.leg.spec.isPrice s.price&& decide (s.ords.length<=250)&& s.ords.all (·.may)
def pL(l:List Od)(buy:Bool):Int:=((l.filter λo=>o.buy==buy).map (·.left)).sum
def sV(price:Int)(o:Od):Int:=if o.buy then max 0 (o.price - price)*o.left else max 0 (price - o.price)*o.left
def lG.at(s:lG)(q:Int):Int:=(ww s.leg.spec.shifts q).1
def lG.worst(s:lG):Int:=
 (s.ords.map (sV s.price)).sum+max 0 (max (s.at (s.leg.q+pL s.ords true)) (s.at (s.leg.q - pL s.ords false)) - s.at s.leg.q)
def lG.u(s:lG):Int:=s.basis - s.leg.q*s.price
def pR(l:List lG):Nd×Int:=
 if 16<l.length then(⟨0,0,0⟩,3)
 else if l.all lG.ok=false then(⟨0,0,0⟩,2)
 else if(jU (l.map (·.leg))).2≠0 then(⟨0,0,0⟩,(jU (l.map (·.leg))).2)
 else(⟨(jU (l.map (·.leg))).1,(l.map lG.worst).sum,max 0 (l.map lG.u).sum⟩,0)
def Nd.total(n:Nd):Int:=n.m+n.w+n.u
structure bt where
 cal:oR
 led:bJ
 bk:Int->Bk
 bd:Int->List Od
 next:Int
def bt.empty:bt:=⟨⟨0,[]⟩,⟨0,[],[]⟩,λ_=>Bk.empty,λ_=>[],1⟩
def eS{α:Type}(f:Int->α)(n:Int)(x:α):Int->α:=λm=>if m=n then x else f m
def cQ{α:Type}(f:Int->α)(n:Int)(x:α):eS f n x n=x:=ae rfl
def eR{α:Type}(f:Int->α)(n:Int)(x:α){m:Int}(h:m≠n):eS f n x m=f m:=aa h
def bt.nums(S:bt):List Int:=S.cal.l.map (·.spec.num)
def lw(a:Int)(o:Od):Bool:=decide (o.acct=a)
def uL(a:Int)(x:List Int×bt)(n:Int):List Int×bt:=
 ((x.1++(jk (x.2.bk n) a).2.map (·.num))++((x.2.bd n).filter (lw a)).map (·.num),
 {x.2 with bk:=eS x.2.bk n (jk (x.2.bk n) a).1,bd:=eS x.2.bd n ((x.2.bd n).filter λo=> !lw a o)})
def bt.clear(S:bt)(a k:Int):List Int×bt:=(S.nums.filter λn=>decide (k=0\/k=n)).foldl (uL a) ([],S)
def bt.opn(S:bt)(n a:Int):Int×Int:=((uT (S.bk n) a).1+tg (S.bd n) a true,(uT (S.bk n) a).2+tg (S.bd n) a false)
def bt.stake(S:bt)(a:Int)(k:Ct):lG:=
 ⟨⟨k.spec,(S.led.position k.spec.num a).q⟩,(S.led.position k.spec.num a).b,k.price,(S.bk k.spec.num).all.filter (lw a)++(S.bd k.spec.num).filter (lw a)⟩
def bt.stakes(S:bt)(a:Int):List lG:=(S.cal.l.filter λk=>decide (k.st≠3)).map (S.stake a)
def bt.need(S:bt)(a:Int):Nd×Int:=if S.led.getO a=none\/a=0 then(⟨0,0,0⟩,7)else pR (S.stakes a)
def bt.acc(S:bt)(a:Int):Ac:=(S.led.getO a).getD ⟨0,0,false,false⟩
def bt.bears(S:bt)(a:Int):Int:=
 if(S.need a).2≠0 then(S.need a).2 else if(S.acc a).cash<(S.need a).1.total then 161 else 0
def bt.pass(S:bt)(a n:Int)(buy:Bool)(price qty:Int)(w:Od):Int:=
 if S.led.getO a=none then 7
 else if(dO S.cal.l n).2≠0 then(dO S.cal.l n).2
 else Gt.check ⟨(dO S.cal.l n).1,S.acc a,(S.led.position n a).q,(S.opn n a).1 - (if w.buy then w.left else 0),(S.opn n a).2 - (if w.buy then 0 else w.left),buy,price,qty⟩
def pv(n:Int)(o:Od):List Td->bJ->Int×bJ
 | [],L=>(0,L)
 |t::l,L=>
  let x:=L.trade n (if o.buy then o.acct else t.acct) (if o.buy then t.acct else o.acct) t.price t.qty
  if x.1≠0 then x else pv n o l x.2
def bt.traded(S:bt)(n:Int)(o:Od)(p:Pm):Int×Rp×bt:=
 let x:=pv n o p.trades S.led;let S' :={S with led:=x.2}
 if x.1≠0 then(x.1,kI,S')else(S'.bears o.acct,⟨0,o.num,p.filled,p.left,p.trades,p.gone,[]⟩,S')
def Cm.od(c:Cm)(n:Int):Od:=⟨n,c.acct,c.buy,c.price,c.qty⟩
def jZ:Int:=4611686018427387904
def bt.order(S:bt)(c:Cm):Int×Od×bt:=
 let e:=S.pass c.acct c.ct c.buy c.price c.qty oQ
 if e≠0 then(e,oQ,S)else if jZ<S.next then(6,c.od 0,S)else(0,c.od S.next,{S with next:=S.next+1})
def bt.place(S:bt)(c:Cm):Int×Rp×bt:=
 let x:=S.order c
 if x.1≠0 then(x.1,kI,x.2.2)
 else
  let p:=db (x.2.2.bk c.ct) x.2.1 c.ty;let S' :={x.2.2 with bk:=eS x.2.2.bk c.ct p.2.1}
  if p.1≠0 then(p.1,kI,S')else S'.traded c.ct x.2.1 p.2.2
def bt.bid(S:bt)(c:Cm):Int×Rp×bt:=
 let x:=S.order c
 if x.1≠0 then(x.1,kI,x.2.2)
 else if 50<=(x.2.2.bd c.ct).length then(9,kI,x.2.2)
 else
  let S' :={x.2.2 with bd:=eS x.2.2.bd c.ct (x.2.2.bd c.ct++[x.2.1])}
  (S'.bears c.acct,⟨0,x.2.1.num,0,x.2.1.left,[],[],[]⟩,S')
def wN(bk:Int->Bk)(a num n:Int):Option (Od×Int):=
 match (bk n).find num with
 |some (o,_)=>if o.acct=a then some (o,n)else none
 |none=>none
def bt.find(S:bt)(a num:Int):Option (Od×Int):=S.nums.findSome? (wN S.bk a num)
def wo(a num:Int)(o:Od):Bool:=decide (o.num=num)&& decide (o.acct=a)
def vr(bd:Int->List Od)(a num n:Int):Option (Nat×Int):=((bd n).findIdx? (wo a num)).map λi=>(i,n)
def bt.cancel(S:bt)(c:Cm):Int×Rp×bt:=
 match S.find c.acct c.num with
 |some (o,n)=>((fq (S.bk n) c.num).1,{kI with num:=c.num,left:=o.left},{S with bk:=eS S.bk n (fq (S.bk n) c.num).2.1})
 |none=>
  match S.nums.findSome? (vr S.bd c.acct c.num)with
  |some (i,n)=>(0,{kI with num:=c.num,left:=((S.bd n).getD i oQ).left},{S with bd:=eS S.bd n ((S.bd n).eraseIdx i)})
  |none=>(7,kI,S)
def bt.replace(S:bt)(c:Cm):Int×Rp×bt:=
 match S.find c.acct c.num with
 |none=>(7,kI,S)
 |some (o,n)=>
  let e:=S.pass c.acct n o.buy c.price c.qty o
  if e≠0 then(e,kI,S)
  else
   let p:=cF (S.bk n) c.num c.price c.qty;let S' :={S with bk:=eS S.bk n p.2.1}
   if p.1≠0 then(p.1,kI,S')else S'.traded n o p.2.2
def iy(won:Int->Int)(l:List (Int×Int)):Int->Int:=l.foldl (λf x=>eS f x.1 (f x.1+x.2)) won
def nJ:List Sd->Rp->bt->Int×Rp×bt
 | [],r,S=>(0,r,S)
 |s::l,r,S=>
  let g:=S.clear s.acct 0;let r' :Rp:=if s.dfl then{r with accts:=r.accts++[s.acct],gone:=r.gone++g.1}else r
  let S1:=if s.dfl then g.2 else S
  let x:=S1.led.set {S.acc s.acct with cash:=s.cash,dfl:=(S.acc s.acct).dfl||s.dfl}
  if x.1≠0 then(x.1,r',{S1 with led:=x.2})else nJ l r' {S1 with led:=x.2}
def bt.dues(S:bt)(won:Int->Int):List Du:=S.led.all.map λa=>⟨a.num,a.cash,won a.num⟩
def bt.pay(S:bt)(won:Int->Int):Int×Rp×bt:=
 let x:=ie S.led.fund (S.dues won)
 if x.2.2≠0 then(x.2.2,kI,S)
 else
  let y:=nJ x.1 kI S
  if y.1≠0 then y
  else
   let z:=y.2.2.led.set ⟨0,x.2.1,false,false⟩
   (z.1,y.2.1,{y.2.2 with led:=z.2})
def jK:List Ct->bJ->(Int->Int)->Int×bJ×(Int->Int)
 | [],L,won=>(0,L,won)
 |k::l,L,won=>
  if k.st=3 then jK l L won
  else
   let x:=L.mark k.spec.num k.price false
   if x.1≠0 then(x.1,x.2.2,iy won x.2.1)else jK l x.2.2 (iy won x.2.1)
def qK(accts:List Int):List Ac->Int->bJ->Int×bJ
 | [],e,L=>(e,L)
 |a::l,e,L=>
  if a.dfl=true/\(L.ofA a.num).isEmpty=true/\accts.contains a.num=false then
   qK accts l (L.set {a with dfl:=false}).1 (L.set {a with dfl:=false}).2
  else qK accts l e L
def jN:Int->Int:=λ_=>0
def bt.settle(S:bt):Int×Rp×bt:=
 let c:=fa S.cal;let S0:={S with cal:=c.2}
 if c.1≠0 then(c.1,kI,S0)
 else
  let m:=jK c.2.l S.led jN;let S1:={S0 with led:=m.2.1}
  if m.1≠0 then(m.1,kI,S1)
  else
   let p:=S1.pay m.2.2
   if p.1≠0 then p
   else
    let f:=qK p.2.1.accts p.2.2.led.all 0 p.2.2.led
    (f.1,p.2.1,{p.2.2 with led:=f.2})
def bt.expire(S:bt)(n:Int):Int×Rp×bt:=
 let c:=fG S.cal n;let S0:={S with cal:=c.2}
 if c.1≠0 then(c.1,kI,S0)
 else
  let m:=S.led.mark (dO S.cal.l n).1.spec.num (dO S.cal.l n).1.price true;let S1:={S0 with led:=m.2.2}
  if m.1≠0 then(m.1,kI,S1)
  else
   let p:=S1.pay (iy jN m.2.1)
   if p.1≠0 then p
   else
    let b:=jk (p.2.2.bk n) 0
    (0,{p.2.1 with gone:=(p.2.1.gone++b.2.map (·.num))++(p.2.2.bd n).map (·.num)},{p.2.2 with bk:=eS p.2.2.bk n b.1,bd:=eS p.2.2.bd n []})
def mq(L:bJ)(n from_ to:Int)(long:Bool)(price qty:Int):Int×bJ:=if long then L.trade n to from_ price qty else L.trade n from_ to price qty
def kT(l:List Od)(num qty:Int):List Od:=
 match l.findIdx? λo=>decide (o.num=num)with
 |none=>l
 |some i=>
  let o:=l.getD i oQ
  if o.left - qty=0 then l.eraseIdx i else l.set i {o with left:=o.left - qty}
def nR(n a:Int)(long:Bool)(price:Int):List Fl->Int->Rp->bt->Int×Int×Rp×bt
 | [],left,r,S=>(0,left,r,S)
 |f::l,left,r,S=>
  let x:=mq S.led n a f.acct long price f.qty
  if x.1≠0 then(x.1,left,r,{S with led:=x.2})
  else nR n a long price l (left - f.qty) {r with filled:=r.filled+f.qty,trades:=r.trades++[⟨price,f.qty,f.num,f.acct⟩]}
   {S with led:=x.2,bd:=eS S.bd n (kT (S.bd n) f.num f.qty)}
def nL(n a:Int)(long:Bool)(price:Int):List Hd->Rp->bt->Int×Rp×bt
 | [],r,S=>(0,r,S)
 |h::l,r,S=>
  let x:=mq S.led n a h.acct long price h.q
  if x.1≠0 then(x.1,r,{S with led:=x.2})
  else nL n a long price l {r with left:=r.left+h.q,trades:=r.trades++[⟨price,h.q,0,h.acct⟩]} {S with led:=x.2}
def bt.sell(S:bt)(k:Ct)(a q:Int)(r:Rp):Int×Rp×bt:=
 let n:=k.spec.num;let long:Bool:=decide (0<q);let c:=jj long (max q (-q)) ((S.bd n).filter λo=>o.buy==long)
 if c.2.2≠0 then(c.2.2,r,S)
 else
  let f:=nR n a long c.1 c.2.1 (max q (-q)) r S
  if f.1≠0 then(f.1,f.2.2.1,f.2.2.2)
  else if f.2.1=0 then(0,f.2.2.1,f.2.2.2)
  else
   let p:=ky (if long then f.2.1 else -f.2.1) (((f.2.2.2.led.holders n).filter λp=>decide (p.a≠a)).map λp=>⟨p.a,p.q⟩)
   if p.2≠0 then(p.2,f.2.2.1,f.2.2.2)
   else nL n a long k.price p.1 f.2.2.1 f.2.2.2
def pP(a:Int):List Ct->Rp->bt->Int×Rp×bt
 | [],r,S=>(0,r,S)
 |k::l,r,S=>
  let q:=(S.led.position k.spec.num a).q
  if q=0 then pP a l r S
  else
   let x:=S.sell k a q r
   if x.1≠0 then x else pP a l x.2.1 x.2.2
def bt.liquidate(S:bt)(a:Ac):Int×Rp×bt:=if a.dfl=false then(162,kI,S)else pP a.num S.cal.l kI S
def bt.done(S:bt)(c:Cm):Int×Rp×bt:=
 if c.kind=1 then((S.led.deposit c.acct c.amt).1,kI,{S with led:=(S.led.deposit c.acct c.amt).2})
 else if c.kind=2 then
  let x:=S.led.withdraw c.acct c.amt;let S' :={S with led:=x.2}
  (if x.1≠0 then x.1 else if(S'.acc c.acct).dfl=true then 120 else S'.bears c.acct,kI,S')
 else if c.kind=3 then
  let x:=fM S.cal c.spec
  (x.1,kI,if x.1=0 then{S with cal:=x.2,bk:=eS S.bk c.spec.num Bk.empty}else{S with cal:=x.2})
 else if c.kind=4 then((jS S.cal c.ct c.on).1,kI,{S with cal:=(jS S.cal c.ct c.on).2})
 else if c.kind=11 then((fS S.cal c.ct c.price).1,kI,{S with cal:=(fS S.cal c.ct c.price).2})
 else if c.kind=12 then S.settle
 else if c.kind=14 then S.expire c.ct
 else if c.acct=0 then(2,kI,S)
 else if c.kind=6 then S.cancel c
 else if c.kind=7 then S.replace c
 else if S.led.getO c.acct=none then(7,kI,S)
 else if c.kind=5 then S.place c
 else if c.kind=9 then S.bid c
 else if c.kind=8 then
  if c.ct≠0/\(dO S.cal.l c.ct).2≠0 then((dO S.cal.l c.ct).2,kI,S)
  else(0,{kI with gone:=(S.clear c.acct c.ct).1},(S.clear c.acct c.ct).2)
 else if c.kind=10 then
  let g:=S.clear c.acct 0;let S' :=if c.on then g.2 else S
  let x:=S'.led.set {S.acc c.acct with kil:=c.on}
  (x.1,if c.on then{kI with gone:=g.1}else kI,{S' with led:=x.2})
 else if c.kind=13 then S.liquidate (S.acc c.acct)
 else(0,kI,S)
def bt.apply(S:bt)(c:Cm):Rp×bt:=
 if c.may=false then(zJ 160,S)
 else
  let x:=S.done c
  if x.1≠0 then(zJ x.1,S)else(x.2.1,x.2.2)
structure uR where
 day:Int
 next:Int
 fund:Int
 accts:List Ac
 cts:List Ct
 poss:List Po
 ords:List (Int×Od)
 bids:List (Int×Od)
def bt.state(S:bt):uR:=
 ⟨S.cal.day,S.next,S.led.fund,S.led.all,S.cal.l,S.nums.flatMap S.led.holders,S.nums.flatMap λn=>(S.bk n).all.map λo=>(n,o),S.nums.flatMap λn=>(S.bd n).map λo=>(n,o)⟩
end Go.Proofs
namespace Go.Proofs
open Go Go.Vc
attribute [local congr] bj
inductive Pt where
 |v
 |cal
 |led
 |mb
 |md
 |bk (n:Int)
 |bd (n:Int)
 deriving DecidableEq
def ec(v:Nat):Value:=bO v 0
def yr(x:Vt_):Value:=x
abbrev A6:TypeId:=93
def lx(D:List (Int×Value))(n:Int):Value:=(lk D n).getD gm
structure rF(w:Wt_)(v c l mb md:Nat)(A:List (Int×Nat))(D:List (Int×Value))(fp:Pt->Nat->Prop)(S:bt):Prop where
 blk:hC w v #[fO c,eP l,.map (some mb),.map (some md),gQ S.next] A6
 cal:mC w c (fp .cal) S.cal
 led:iw w l (fp .led) S.led
 mbk:eM eY fi w mb A
 mbd:eM eY yr w md D
 bk:∀n b,lk A n=some b->gg w b (fp (.bk n)) (S.bk n)
 nbk:∀n,lk A n=none->S.bk n=Bk.empty/\∀x,¬fp (.bk n) x
 bd:∀n,qT w (lx D n) (S.bd n)
 fv:∀x,fp .v x↔x=v
 fmb:∀x,fp .mb x↔x=mb
 fmd:∀x,fp .md x↔x=md
 fbd:∀n x,fp (.bd n) x↔aF (lx D n) x
 dj:∀p q x,fp p x->fp q x->p=q
structure qs(w:Wt_)(v c l mb md:Nat)(A:List (Int×Nat))(D:List (Int×Value))(fp:Pt->Nat->Prop)(S:bt):Prop extends rF w v c l mb md A D fp S where
 dom:∀n,(lk A n).isSome=(cj S.cal.l n).isSome
 dod:∀n,(lk D n).isSome=true->(cj S.cal.l n).isSome=true
def Ga(w:Wt_)(v:Nat)(F:NP_)(S:bt):Prop:=∃c l mb md A D fp,qs w v c l mb md A D fp S/\∀x,F x↔∃p,fp p x
def lq(fp:Pt->Nat->Prop):Nat->Prop:=λx=>∃p,fp p x
def yX(fp:Pt->Nat->Prop)(p:Pt)(G:NP_):Pt->Nat->Prop:=λq=>if q=p then G else fp q
def me(fp:Pt->Nat->Prop)(p:Pt)(G:NP_):yX fp p G p=G:=ae rfl
def fD{fp:Pt->Nat->Prop}{p q:Pt}{G:NP_}(h:q≠p):yX fp p G q=fp q:=aa h
section
variable{w w' :Wt_}{v c l mb md:Nat}{A:List (Int×Nat)}{D:List (Int×Value)}{fp:Pt->Nat->Prop}{S:bt}
def qs.q(h:qs w v c l mb md A D fp S):Ga w v (lq fp) S:=⟨c,l,mb,md,A,D,fp,h,λ_=>aG⟩
def rF.lt(h:rF w v c l mb md A D fp S){p:Pt}{x:Nat}(a:fp p x):x<w.heap.size:=by
 cases p with
 |v=>rw[(h.fv x).1 a];exact aB h.blk
 |cal=>exact h.cal.lt a
 |led=>exact h.led.lt a
 |mb=>rw[(h.fmb x).1 a];exact h.mbk.lt
 |md=>rw[(h.fmd x).1 a];exact h.mbd.lt
 |bk n=>
  cases d:lk A n with
  |none=>exact absurd a ((h.nbk n d).2 x)
  |some b=>exact(h.bk n b d).lt a
 |bd n=>exact(h.bd n).lt ((h.fbd n x).1 a)
def Ga.lt{F:NP_}(h:Ga w v F S){x:Nat}(d:F x):x<w.heap.size:=by
 obtain⟨c,l,mb,md,A,D,fp,a,b⟩:=h;obtain⟨p,hp⟩:=(b x).1 d;exact a.lt hp
def rF.self(h:rF w v c l mb md A D fp S):fp .v v:=(h.fv v).2 rfl
def rF.mod{G:NP_}(h:rF w v c l mb md A D fp S)(d:aR G w w')(a:∀p x,fp p x->¬G x):rF w' v c l mb md A D fp S where
 blk:=d.hpk h.blk (a .v v h.self)
 cal:=h.cal.mod d (a .cal)
 led:=h.led.mod d (a .led)
 mbk:=h.mbk.mod d (a .mb mb ((h.fmb mb).2 rfl))
 mbd:=h.mbd.mod d (a .md md ((h.fmd md).2 rfl))
 bk n b hl:=(h.bk n b hl).mod d (a (.bk n))
 nbk:=h.nbk
 bd n:=(h.bd n).mod d λx e=>a (.bd n) x ((h.fbd n x).2 e)
 fv:=h.fv
 fmb:=h.fmb
 fmd:=h.fmd
 fbd:=h.fbd
 dj:=h.dj
def qs.mod{G:NP_}(h:qs w v c l mb md A D fp S)(b:aR G w w')(a:∀p x,fp p x->¬G x):qs w' v c l mb md A D fp S:=⟨h.torF.mod b a,h.dom,h.dod⟩
def Ga.mod{F G:NP_}(h:Ga w v F S)(d:aR G w w')(b:∀x,F x->¬G x):Ga w' v F S:=by
 obtain⟨c,l,mb,md,A,D,fp,e,a⟩:=h;exact⟨c,l,mb,md,A,D,fp,e.mod d λp x f=>b x ((a x).2 ⟨p,f⟩),a⟩
def qs.md0(h:qs w v c l mb md A D fp S)(a:M0 w w'):qs w' v c l mb md A D fp S:=h.mod a λ_ _ _ h=>h
def rF.djU(h:rF w v c l mb md A D fp S){p:Pt}{G:NP_}(g:∀x,G x->fp p x\/w.heap.size<=x):∀q r x,yX fp p G q x->yX fp p G r x->q=r:=by
 have key:∀q x,q≠p->fp q x->¬G x:=λq x a e f=>by
  rcases g x f with h1|h1
  ·exact a (h.dj _ _ _ e h1)
  ·have:=h.lt e;omega
 intro q r x a d;by_cases h1:q=p
 ·by_cases b:r=p
  ·rw[h1,b]
  ·subst h1;rw[me]at a;rw[fD b]at d;exact absurd a (key r x b d)
 ·rw[fD h1]at a;by_cases b:r=p
  ·subst b;rw[me]at d;exact absurd d (key q x h1 a)
  ·rw[fD b]at d;exact h.dj _ _ _ a d
def rF.ap(h:rF w v c l mb md A D fp S){p q:Pt}(a:q≠p):∀x,fp q x->¬fp p x:=λx h1 b=>a (h.dj _ _ _ h1 b)
def qs.setBk(h:qs w v c l mb md A D fp S){n:Int}{b:Nat}{G:NP_}{B:Bk}(g:lk A n=some b)(f:aR (fp (.bk n)) w w')(i:gg w' b G B)(k:∀x,G x->fp (.bk n) x\/w.heap.size<=x):
  qs w' v c l mb md A D (yX fp (.bk n) G) {S with bk:=eS S.bk n B} where
 blk:=f.hpk h.blk (h.ap (by simp) _ h.self)
 cal:=by rw[fD (by simp)];exact h.cal.mod f (h.ap (by simp))
 led:=by rw[fD (by simp)];exact h.led.mod f (h.ap (by simp))
 mbk:=h.mbk.mod f (h.ap (by simp) _ ((h.fmb mb).2 rfl))
 mbd:=h.mbd.mod f (h.ap (by simp) _ ((h.fmd md).2 rfl))
 dom:=h.dom
 dod:=h.dod
 bk m b' hl:=by
  by_cases a:m=n
  ·subst a;rw[g]at hl;cases hl;show gg w' b _ (eS S.bk m B m);rw[me,cQ];exact i
  ·have d:Pt.bk m≠Pt.bk n:=by simpa using a
   show gg w' b' _ (eS S.bk n B m);rw[fD d,eR _ _ _ a];exact(h.bk m b' hl).mod f (h.ap d)
 nbk m hl:=by
  have a:m≠n:=λe=>by grind
  have d:Pt.bk m≠Pt.bk n:=by simpa using a
  show eS S.bk n B m=_/\_;rw[fD d,eR _ _ _ a];exact h.nbk m hl
 bd m:=(h.bd m).mod f λx j=>h.ap (by simp) x ((h.fbd m x).2 j)
 fv:=by rw[fD (by simp)];exact h.fv
 fmb:=by rw[fD (by simp)];exact h.fmb
 fmd:=by rw[fD (by simp)];exact h.fmd
 fbd m:=by rw[fD (by simp)];exact h.fbd m
 dj:=h.djU k
def qJ(D:List (Int×Value))(n m:Int)(x:Vt_):lx (put D n x) m=if m=n then x else lx D m:=by
 unfold lx;rw[lm];by_cases a:m=n
 ·subst a;simp
 ·grind
def rF.setBdG(h:rF w v c l mb md A D fp S){w1:Wt_}{n:Int}{L:List Od}{sl:Vt_}{E:NP_}(r:aR E w w1)(t:∀p x,p≠ .bd n->fp p x->¬E x)(g:qT w1 sl L)(q:∀x,aF sl x->fp (.bd n) x\/w.heap.size<=x)
  (j:eM eY yr w' md (put D n sl))(o:aR (λx=>x=md) w1 w'):rF w' v c l mb md A (put D n sl) (yX fp (.bd n) (aF sl)) {S with bd:=eS S.bd n L}:=by
 have u:=h.lt (p:=.md) ((h.fmd md).2 rfl);have s:=r.size;have i:aR (λx=>E x\/x=md) w w' :=(r.mono λx _ e=>.inl e).on o λx e=>.inl (.inr e)
 have d:∀p,p≠ .bd n->p≠ .md->∀x,fp p x->¬(E x\/x=md):=λp h1 j x e g=>by
  rcases g with g|g
  ·exact t p x h1 e g
  ·exact j (h.dj _ _ _ e ((h.fmd x).2 g))
 exact{
  blk:=i.hpk h.blk (d .v (by simp) (by simp) _ h.self)
  cal:=by rw[fD (by simp)];exact h.cal.mod i (d .cal (by simp) (by simp))
  led:=by rw[fD (by simp)];exact h.led.mod i (d .led (by simp) (by simp))
  mbk:=h.mbk.mod i (d .mb (by simp) (by simp) _ ((h.fmb mb).2 rfl))
  mbd:=j
  bk:=λm b k=>by rw[fD (by simp)];exact(h.bk m b k).mod i (d (.bk m) (by simp) (by simp))
  nbk:=λm k=>by rw[fD (by simp)];exact h.nbk m k
  bd:=λm=>by
   show qT w' _ (eS S.bd n L m);rw[qJ];by_cases a:m=n
   ·subst a;rw[ae rfl,cQ];refine g.mod o λx e y=>?_;rcases q x e with h1|h1
    ·exact absurd (h.dj _ _ _ h1 ((h.fmd x).2 y)) (by simp)
    ·omega
   ·have f:Pt.bd m≠Pt.bd n:=by simpa using a
    rw[aa a,eR _ _ _ a];exact(h.bd m).mod i λx e=>d (.bd m) f (by simp) x ((h.fbd m x).2 e)
  fv:=by rw[fD (by simp)];exact h.fv
  fmb:=by rw[fD (by simp)];exact h.fmb
  fmd:=by rw[fD (by simp)];exact h.fmd
  fbd:=λm x=>by
   rw[qJ];by_cases a:m=n
   ·subst a;rw[ae rfl,me]
   ·have f:Pt.bd m≠Pt.bd n:=by simpa using a
    rw[aa a,fD f];exact h.fbd m x
  dj:=h.djU q}
def rF.setBd(h:rF w v c l mb md A D fp S){w1:Wt_}{n:Int}{L:List Od}{sl:Vt_}(a:aR (fp (.bd n)) w w1)(e:qT w1 sl L)(f:∀x,aF sl x->fp (.bd n) x\/w.heap.size<=x)
  (d:eM eY yr w' md (put D n sl))(b:aR (λx=>x=md) w1 w'):rF w' v c l mb md A (put D n sl) (yX fp (.bd n) (aF sl)) {S with bd:=eS S.bd n L}:=
 h.setBdG a (λp x hp=>h.ap hp x) e f d b
def qs.setBd(h:qs w v c l mb md A D fp S){w1:Wt_}{n:Int}{L:List Od}{sl:Vt_}(d:(cj S.cal.l n).isSome=true)(f:aR (fp (.bd n)) w w1)(j:qT w1 sl L)(k:∀x,aF sl x->fp (.bd n) x\/w.heap.size<=x)
  (g:eM eY yr w' md (put D n sl))(i:aR (λx=>x=md) w1 w'):qs w' v c l mb md A (put D n sl) (yX fp (.bd n) (aF sl)) {S with bd:=eS S.bd n L}:=
 ⟨h.torF.setBd f j k g i,h.dom,λm a=>by
  by_cases b:m=n
  ·subst b;exact d
  ·rw[lm,aa λe=>b e.symm]at a;exact h.dod m a⟩
def rF.addBk(h:rF w v c l mb md A D fp S){w1:Wt_}{n:Int}{b:Nat}{G:NP_}{B:Bk}(C:lk A n=none)(s:M0 w w1)(o:gg w1 b G B)(z:∀x,G x->w.heap.size<=x)
  (k:eM eY fi w' mb (put A n b))(q:aR (λx=>x=mb) w1 w'):rF w' v c l mb md (put A n b) D (yX fp (.bk n) G) {S with bk:=eS S.bk n B}:=by
 have u:=h.lt (p:=.mb) ((h.fmb mb).2 rfl);have t:=s.size;have i:aR (λx=>x=mb) w w' :=(s.to).trans q;have d:∀p,p≠ .mb->∀x,fp p x->¬x=mb:=λp k x j o=>k (h.dj _ _ _ j ((h.fmb x).2 o));have y:∀x,G x->¬x=mb:=λx j e=>by grind
 exact{
  blk:=i.hpk h.blk (d .v (by simp) _ h.self)
  cal:=by rw[fD (by simp)];exact h.cal.mod i (d .cal (by simp))
  led:=by rw[fD (by simp)];exact h.led.mod i (d .led (by simp))
  mbk:=k
  mbd:=h.mbd.mod i (d .md (by simp) _ ((h.fmd md).2 rfl))
  bk:=λm r f=>by
   rw[lm]at f;show gg w' r _ (eS S.bk n B m);by_cases a:m=n
   ·subst a;rw[ae rfl]at f;cases f;rw[me,cQ];exact o.mod q y
   ·have g:Pt.bk m≠Pt.bk n:=by simpa using a
    rw[aa λe=>a e.symm]at f;rw[fD g,eR _ _ _ a];exact(h.bk m r f).mod i (d (.bk m) (by simp))
  nbk:=λm f=>by
   rw[lm]at f;show eS S.bk n B m=_/\_;by_cases a:m=n
   ·grind
   ·have g:Pt.bk m≠Pt.bk n:=by simpa using a
    rw[aa λe=>a e.symm]at f;rw[fD g,eR _ _ _ a];exact h.nbk m f
  bd:=λm=>(h.bd m).mod i λx j=>d (.bd m) (by simp) x ((h.fbd m x).2 j)
  fv:=by rw[fD (by simp)];exact h.fv
  fmb:=by rw[fD (by simp)];exact h.fmb
  fmd:=by rw[fD (by simp)];exact h.fmd
  fbd:=λm x=>by rw[fD (by simp)];exact h.fbd m x
  dj:=h.djU (p:=.bk n) λx j=>.inr (z x j)}
end
end Go.Proofs
namespace Go.Proofs
open Go Go.Vc
variable {B:Bk}{n:Int}{l a:List Od}{o o' :Od}{S:bJ}
def Od.key(o:Od):Int×Int×Bool×Int:=(o.num,o.acct,o.buy,o.price)
def pp(h:o.key=o'.key):o.num=o'.num:=ep (·.1) h
def xr(h:o.key=o'.key):o.acct=o'.acct:=ep (·.2.1) h
def Le(h:o.key=o'.key):o.buy=o'.buy:=ep (·.2.2.1) h
def rJ(h:o.key=o'.key):o.price=o'.price:=ep (·.2.2.2) h
structure gH(l' l:List Od):Prop where
 sub:(l'.map Od.key).Sublist (l.map Od.key)
 left:∀o∈l',1<=o.left/\o.left<=1000000
def jD(h:o.may=true):1<=o.left/\o.left<=1000000:=Od.left_bd h
def Av(h:o.key=o'.key)(a:o.may=true)(b:1<=o'.left/\o'.left<=1000000):o'.may=true:=by
 unfold Od.may at*;rw[<-pp h,<-xr h,<-rJ h];simp only[ai]at a|-;exact⟨a.1,aW b⟩
def gH.refl(h:∀o∈l,o.may=true):gH l l:=⟨cM _,λo a=>jD (h o a)⟩
def gH.mem{b:List Od}(h:gH b l){o:Od}(c:o∈b):∃a∈l,a.key=o.key:=by
 have:=h.sub.mem (aX (f:=Od.key) c);obtain⟨a,e,d⟩:=aL.1 this;exact⟨a,e,d⟩
def La(l:List Od):l.map (·.num)=(l.map Od.key).map (·.1):=by rw[dQ];rfl
def gH.nums(h:gH a l):(a.map (·.num)).Sublist (l.map (·.num)):=by
 rw[La,La];exact h.sub.map _
def gH.len(h:gH a l):a.length<=l.length:=by
 have:=h.sub.length_le
 rwa[ah,ah]at this
def gH.of_sub(h:a.Sublist l)(c:∀o∈l,o.may=true):gH a l:=⟨h.map _,λo b=>jD (c o (h.mem b))⟩
def gH.filter(a:∀o∈l,o.may=true)(p:Od->Bool):gH (l.filter p) l:=gH.of_sub eI a
def gH.set(b:∀o∈l,o.may=true){i:Nat}(hi:i<l.length){x:Int}(c:1<=x/\x<=1000000):gH (l.set i {l[i]with left:=x}) l:=by
 refine⟨?_,λo a=>?_⟩
 ·rw[gF]
  have e:(l.map Od.key).set i (Od.key {l[i]with left:=x})=l.map Od.key:=by
   have:Od.key {l[i]with left:=x}=(l.map Od.key)[i]'(by simpa using hi):=by rw[cG];rfl
   rw[this,gD]
  rw[e];exact cM _
 ·rcases eD a with a|rfl
  ·exact jD (b o a)
  ·exact c
structure Yi(o:Od)(left:Int)(L:List Od)(x:Int×List Od×List Td×List Int×Int):Prop where
 sub:gH x.2.1 L
 rest:0<=x.1/\x.1<=left
 fill:x.2.2.2.2+x.1=left
 qty:(x.2.2.1.map (·.qty)).sum=x.2.2.2.2
 tr:∀t∈x.2.2.1,1<=t.qty/\t.qty<=1000000/\t.acct≠o.acct/\∃b∈L,b.num=t.num/\b.acct=t.acct/\b.price=t.price/\t.qty<=b.left/\gz o b.price=true
 gone:∀g∈x.2.2.2.1,∃b∈L,b.num=g/\b.acct=o.acct
def ED{o:Od}:∀{L:List Od} {left:Int},0<=left->(∀b∈L,b.may=true)->Yi o left L (eT o left L)
 | [],left,k,l=>⟨⟨cM _,by simp[eT]⟩,by simp[eT];omega,by simp[eT],by simp[eT],by simp[eT],by simp[eT]⟩
 |b::r,left,k,l=>by
  have A:=jD (l b aw);have u:∀x∈r,x.may=true:=λx z=>l x (ag _ z);by_cases h1:left<=0\/gz o b.price=false
  ·have e:eT o left (b::r)=(left,b::r,[],[],0):=by unfold eT;rw[ae h1]
   rw[e];exact⟨gH.refl l,⟨k,eu _⟩,by simp,by simp,by simp,by simp⟩
  ·have C:gz o b.price=true:=by
    cases h:gz o b.price with
    |true=>rfl
    |false=>exact absurd (.inr h) h1
   by_cases p:b.acct=o.acct
   ·have c:=ED (o:=o) (L:=r) k u
    have e:eT o left (b::r)=((eT o left r).1,(eT o left r).2.1,(eT o left r).2.2.1,b.num::(eT o left r).2.2.2.1,(eT o left r).2.2.2.2):=by
     conv=>lhs;unfold eT
     rw[aa h1,ae p]
    rw[e];refine⟨⟨c.sub.sub.trans (List.sublist_cons_self _ _),c.sub.left⟩,c.rest,c.fill,c.qty,λt i=>?_,λg j=>?_⟩
    ·obtain⟨s,m,n,d,a,f⟩:=c.tr t i;exact⟨s,m,n,d,ag _ a,f⟩
    ·rcases ax.1 j with rfl|j
     ·grind
     ·obtain⟨d,a,f⟩:=c.gone g j;exact⟨d,ag _ a,f⟩
   ·by_cases v:left<b.left
    ·have e:eT o left (b::r)=(0,{b with left:=b.left - left}::r,[⟨b.price,left,b.num,b.acct⟩],[],left):=by unfold eT;rw[aa h1,aa p,ae v]
     rw[e];refine⟨⟨cM _,λy q=>?_⟩,⟨eu _,k⟩,by simp,by simp,λt i=>?_,by simp⟩
     ·rcases ax.1 q with rfl|q
      ·grind
      ·exact jD (u y q)
     ·grind
    ·have c:=ED (o:=o) (L:=r) (left:=left - b.left) qZ u
     have e:eT o left (b::r)=((eT o (left - b.left) r).1,(eT o (left - b.left) r).2.1,⟨b.price,b.left,b.num,b.acct⟩::(eT o (left - b.left) r).2.2.1,(eT o (left - b.left) r).2.2.2.1,b.left+(eT o (left - b.left) r).2.2.2.2):=by
      conv=>lhs;unfold eT
      rw[aa h1,aa p,aa v]
     rw[e];have w:=c.rest;have B:=c.fill;refine⟨⟨c.sub.sub.trans (List.sublist_cons_self _ _),c.sub.left⟩,⟨w.1,by grind⟩,by grind,?_,λt i=>?_,λg j=>?_⟩
     ·show(List.map _ (_::_)).sum=_;rw[aI,bH,c.qty]
     ·rcases ax.1 i with rfl|i
      ·grind
      ·obtain⟨s,m,n,d,a,f⟩:=c.tr t i;exact⟨s,m,n,d,ag _ a,f⟩
     ·obtain⟨d,a,f⟩:=c.gone g j;exact⟨d,ag _ a,f⟩
def Cl(B:Bk):Prop:=∀d,∀o∈B d,o.may=true/\o.buy=d
def oC(buy:Bool)(l:List Od)(o:Od):(tB buy l o).Perm (o::l):=by
 unfold tB;apply nO.trans;rw[cJ]
def GP{buy:Bool}(a:o.may=true)(d:o.buy=buy):
  ((pN buy l o).2=l/\(pN buy l o).1≠0)\/((pN buy l o).2.Perm (o::l)/\l.length<100/\(∀x∈l,x.num≠o.num)/\(pN buy l o).2=tB buy l o):=by
 unfold pN;rw[aa (by simp[a,d])];by_cases h1:(l.any λx=>decide (x.num=o.num))=true
 ·grind
 ·rw[aa h1];by_cases c:100<=l.length
  ·grind
  ·rw[aa c];refine .inr ⟨oC _ _ _,qZ,λx e b=>h1 ?_,rfl⟩;rw[im];exact⟨x,e,aW b⟩
structure XA(B:Bk)(o:Od)(x:Bk×Pm):Prop where
 opp:gH (x.1 (!o.buy)) (B !o.buy)
 own:x.1 o.buy=B o.buy\/(0<x.2.left/\x.1 o.buy=tB o.buy (B o.buy) {o with left:=x.2.left}/\(B o.buy).length<100/\∀y∈B o.buy,y.num≠o.num)
 fill:0<=x.2.left/\0<=x.2.filled/\x.2.filled+x.2.left<=o.left
 qty:(x.2.trades.map (·.qty)).sum=x.2.filled
 tr:∀t∈x.2.trades,1<=t.qty/\t.qty<=1000000/\t.acct≠o.acct/\∃b∈B !o.buy,b.num=t.num/\b.acct=t.acct/\b.price=t.price/\t.qty<=b.left/\gz o b.price=true
def Bk.set_ne(B:Bk){d e:Bool}(l:List Od)(h:e≠d):B.set d l e=B e:=aa h
def yg{rests:Bool}(i:Cl B)(e:o.may=true):XA B o (fC B o rests):=by
 have q:=jD e;have a:=ED (o:=o) (L:=B !o.buy) (left:=o.left) qZ λb h=>(i _ b h).1;obtain⟨x,g⟩:=di (eT o o.left (B !o.buy));rw[<-g]at a;have j:=a.rest;have k:=a.fill;have m:0<=x.2.2.2.2:=qZ;have c:o.buy≠ !o.buy:=by grind
 unfold fC;simp only[<-g];by_cases f:rests=true/\0<x.1
 ·rw[ae f];have h1:=Av (o:=o) (o' :={o with left:=x.1}) rfl e (by grind);refine⟨?_,?_,by grind,a.qty,a.tr⟩
  ·show gH (Bk.set _ _ _ _) _;rw[Bk.set_other,Bk.set_self];exact a.sub
  ·show Bk.set _ _ _ _=_\/(0<x.1/\Bk.set _ _ _ _=tB _ _ {o with left:=x.1}/\_);rw[Bk.set_self,Bk.set_ne _ _ c];rcases GP (l:=B o.buy) (buy:=o.buy) h1 rfl with⟨d,-⟩|⟨d,r,n,p⟩
   ·exact .inl d
   ·grind
 ·rw[aa f];refine⟨?_,.inl ?_,by grind,a.qty,a.tr⟩
  ·show gH (Bk.set _ _ _ _) _;rw[Bk.set_self];exact a.sub
  ·show Bk.set _ _ _ _=_;rw[Bk.set_ne _ _ c]
def wy(h:∀o∈l,o.num≠n):og l n=none:=by
 unfold og;rw[dZ];exact λx a=>by simpa using h x a
def kO(d:(l.map (·.num)).Nodup){o:Od}(b:o∈l):og l o.num=some o:=by
 induction l with
 |nil=>cases b
 |cons a l g=>
  rw[aI,ce]at d;unfold og;rw[iQ];rcases ax.1 b with rfl|b
  ·simp
  ·have c:a.num≠o.num:=λe=>d.1 (e▸aX (f:=(·.num)) b);rw[bD c];exact g d.2 b
def DD(h:og l n=some o):o∈l/\o.num=n:=by
 unfold og at h;exact⟨dG h,by grind⟩
def EM(b:(l.map (·.num)).Nodup)(n:Int):oX l n=l.filter λo=>decide (o.num≠n):=by
 unfold oX;induction l with
 |nil=>rfl
 |cons a l d=>
  rw[aI,ce]at b;by_cases h:a.num=n
  ·rw[List.eraseP_cons_of_pos (by simpa using h),aV (by simpa using h),cO.2 λx c=>?_];have:x.num≠a.num:=λe=>b.1 (e▸aX (f:=(·.num)) c);rw[aW];omega
  ·grind
def uH(B:Bk):Prop:=(B.all.map (·.num)).Nodup
def uH.side(h:uH B)(d:Bool):((B d).map (·.num)).Nodup:=by
 unfold uH Bk.all at h;rw[aM,dD]at h;cases d
 ·exact h.2.1
 ·exact h.1
def uH.ne(h:uH B){d e:Bool}{x y:Od}(i:x∈B d)(g:y∈B e)(c:x.num=y.num):d=e/\x=y:=by
 unfold uH Bk.all at h;rw[aM,dD]at h
 have k:∀(l:List Od),(l.map (·.num)).Nodup->x∈l->y∈l->x=y:=λl f h1 j=>by
  have a:=kO f h1;have b:=kO f j;rw[c,b]at a;exact(cZ a).symm
 cases d<;>cases e
 ·grind
 ·exact absurd c.symm (h.2.2 _ (aX g) _ (aX i))
 ·exact absurd c (h.2.2 _ (aX i) _ (aX g))
 ·grind
def UX(h:uH B){d:Bool}{o:Od}(a:o∈B d):B.find o.num=some (o,d):=by
 unfold Bk.find;cases d
 ·rw[wy λx c b=>by have:=(h.ne c a b).1;cases this];simp only;rw[kO (h.side false) a]
 ·rw[kO (h.side true) a]
def BI{d:Bool}(h:B.find n=some (o,d)):o∈B d/\o.num=n:=by
 unfold Bk.find at h;cases h1:og (B true) n with
 |some x=>
  rw[h1]at h;cases h;exact DD h1
 |none=>
  rw[h1]at h;simp only at h;cases a:og (B false) n with
  |some x=>
   rw[a]at h;cases h;exact DD a
  |none=>rw[a]at h;cases h
def Bk.flt(B:Bk)(p:Od->Bool):Bk:=λd=>(B d).filter p
def wV(h:uH B){n:Int}{o:Od}{d:Bool}(c:B.find n=some (o,d)):(fq B n).2.1=B.flt λo=>decide (o.num≠n):=by
 unfold fq;rw[c];funext e;have b:=BI c;show Bk.set _ _ _ _=_;unfold Bk.flt;by_cases a:e=d
 ·subst a;rw[Bk.set_self,EM (h.side e)]
 ·rw[Bk.set_ne _ _ a,cO.2 λx f=>?_];rw[aW];intro g;exact a (h.ne f b.1 (g.trans b.2.symm)).1
def S9(B:Bk)(p q:Od->Bool):(B.flt p).flt q=B.flt λo=>q o&& p o:=by
 funext d;unfold Bk.flt;rw[gt]
def Ks(B:Bk)(p:Od->Bool):(B.flt p).all=B.all.filter p:=by
 unfold Bk.all Bk.flt;rw[cy]
def uH.flt(h:uH B)(p:Od->Bool):uH (B.flt p):=by
 unfold uH;rw[Ks];exact h.sublist (eI.map _)
def rA:o∈B.all↔∃d,o∈B d:=by
 unfold Bk.all;rw[bf];constructor
 ·rintro(h|h)
  ·exact⟨true,h⟩
  ·exact⟨false,h⟩
 ·rintro⟨d,h⟩;cases d
  ·exact .inr h
  ·exact .inl h
def yP{a:Int}:∀(l:List Od) (B:Bk),uH B->(l.map (·.num)).Nodup->(∀o∈l,o∈B.all)->uF a B l=B.flt λo=> !(l.any λx=>decide (x.num=o.num)&& lW a x)
 | [],B,_,_,_=>by
  funext d;unfold uF Bk.flt;exact(cO.2 λx k=>rfl).symm
 |x::l,B,h,c,i=>by
  rw[aI,ce]at c;have k:=i x aw;obtain⟨d,n⟩:=rA.1 k;have p:uF a B (x::l)=uF a (if lW a x then(fq B x.num).2.1 else B) l:=rfl;rw[p];by_cases g:lW a x=true
  ·rw[ae g,wV h (UX h n)];rw[yP l _ (h.flt _) c.2 λo b=>?_,S9]
   ·funext e;unfold Bk.flt;refine dM λo b=>?_;rw[List.any_cons,g,Bool.and_true,Bool.not_or];by_cases m:x.num=o.num
    ·grind
    ·grind
   ·rw[Ks,aU];refine⟨i o (ag _ b),?_⟩;rw[aW];exact λm=>c.1 (m▸aX (f:=(·.num)) b)
  ·rw[aa g,yP l _ h c.2 λo b=>i o (ag _ b)];funext e;unfold Bk.flt;refine dM λo b=>?_;have j:lW a x=false:=by simpa using g
   rw[List.any_cons,j,pw,fP]
def G9(h:uH B)(a:Int):(jk B a).1=B.flt λo=> !lW a o:=by
 unfold jk;simp only;rw[yP _ _ h h λo c=>c];funext d;unfold Bk.flt;refine dM λo c=>?_;congr 1;rw[dh,im];constructor
 ·rintro⟨x,i,b⟩;rw[ai,aS]at b;obtain⟨e,f⟩:=rA.1 i;rw[<-(h.ne f c b.1).2];exact b.2
 ·intro g;exact⟨o,rA.2 ⟨d,c⟩,by simp[g]⟩
def FW{l:List Po}(h:kP l){p:Po}(hp:p∈l):l.find? (λx=>decide (x.key=p.key))=some p:=bJ.pos_some (S:=⟨0,[],l⟩) h hp
def bJ.pos_putP(h:kP S.held)(p:Po)(k:Int×Int):(S.putP p).pos? k=if k=p.key then(if p.isZ then none else some p)else S.pos? k:=by
 have g:=th h p;by_cases c:k=p.key
 ·subst c;rw[ae rfl];cases f:p.isZ with
  |true=>
   simp only[df];unfold bJ.pos? bJ.putP;rw[dZ];intro x d;rcases rR.1 d with⟨_,a⟩|⟨_,a⟩
   ·simpa using a
   ·rw[f]at a;cases a
  |false=>
   exact bJ.pos_some (S:=S.putP p) g (rR.2 (.inr ⟨rfl,f⟩))
 ·rw[aa c];cases b:S.pos? k with
  |some x=>
   obtain⟨h1,a⟩:=bJ.pos_mem b;have:=bJ.pos_some (S:=S.putP p) g (rR.2 (.inl ⟨h1,λe=>c (a▸e)⟩))
   rwa[a]at this
  |none=>
   unfold bJ.pos? at b|-;rw[dZ]at b|-;intro x d;rcases rR.1 d with⟨h1,_⟩|⟨rfl,_⟩
   ·exact b x h1
   ·grind
def bJ.position_putP(h:kP S.held)(p:Po)(c a:Int):(S.putP p).position c a=if c=p.c/\a=p.a then p else S.position c a:=by
 unfold bJ.position;rw[bJ.pos_putP h];by_cases d:c=p.c/\a=p.a
 ·obtain⟨rfl,rfl⟩:=d;rw[ae (show(p.c,p.a)=p.key from rfl),ae (show p.c=p.c/\p.a=p.a from xg)];cases b:p.isZ with
  |false=>rfl
  |true=>
   unfold Po.isZ at b;simp only[aS]at b;obtain⟨f,pa,i,g⟩:=p;simp only at b;simp[b.1,b.2]
 ·rw[aa (λe=>d (by simpa [Po.key]using e)),aa d]
def bJ.trade_ok{c b s p:Int}(h:(S.trade c b s p n).1=0):b≠s/\
  (S.trade c b s p n).2=(S.putP ⟨c,b,(S.position c b).q+n,(S.position c b).b+p*n⟩).putP ⟨c,s,(S.position c s).q - n,(S.position c s).b - p*n⟩:=by
 unfold bJ.trade at h|-;by_cases h1:c=0\/b=0\/s=0\/b=s\/aY p 1 MP=false\/aY n 1 MP=false
 ·grind
 ·rw[aa h1]at h|-;by_cases a:S.find b=none\/S.find s=none
  ·grind
  ·rw[aa a]at h|-;simp only at h|-;refine⟨λe=>h1 (.inr (.inr (.inr (.inl e)))),?_⟩;split at h
   ·cases h
   ·grind
def bJ.trade_all{c b s p:Int}:(S.trade c b s p n).2.all=S.all/\(S.trade c b s p n).2.fund=S.fund:=by
 unfold bJ.trade;split
 ·exact xg
 ·split
  ·exact xg
  ·simp only;split<;>exact xg
end Go.Proofs
