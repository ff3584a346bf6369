/- Part of a proof. -/
import Derived.Lib.Overlaps
import Derived.Test.YtekbnpagidkbbaaGreatR6
set_option linter.all false
set_option maxRecDepth 100000
set_option maxHeartbeats 4000000
namespace Go.Proofs
open Go Go.Vc
attribute [local congr] bj
variable {i:Nat}{w:Wt_}{K:aZ}
abbrev ed(n:Int):Prop:= -9223372036854775808<=n/\n<9223372036854775808
abbrev iU(n:Int):Prop:=0<=n/\n<4294967296
abbrev Np(n:Int):Prop:=0<=n/\n<18446744073709551616
structure Sp where
 num:Int
 route:Int
 tick:Int
 lot:Int
 band:Int
 limit:Int
 shifts:Vector Int 16
 credit:Int
 last:Int
 first:Int
 deriving DecidableEq
def Sp.Fit(s:Sp):Prop:=iU s.num/\(0<=s.route/\s.route<256)/\ed s.tick/\ed s.lot/\ed s.band/\ed s.limit/\(∀x∈s.shifts.toList,ed x)/\ed s.credit/\iU s.last/\ed s.first
def vD(s:Vector Int 16):List Value:=s.toList.map λn=>gI n
def eV(s:Sp):List Value:=[.int .u32 s.num,gB s.route,gI s.tick,gI s.lot,gI s.band,gI s.limit]++(vD s.shifts++[.int .i64 s.credit,gU s.last,gI s.first])
def nt(s:Vector Int 16):(vD s).length=16:=by simp[vD]
def br(s:Sp):(eV s).length=25:=by simp[eV,nt]
def qw(s:Sp):(eV s).all (·.oneCell')=true:=by simp[eV,vD,Value.oneCell']
def ti(s:Sp):((eV s).drop 6).take 16=vD s.shifts:=by
 simp only[eV];rw[dq (by simp)];simp only[List.drop_succ_cons,List.drop_nil,dW,dL];rw[aO (by rw[nt];omega),aC (by rw[nt];omega)]
def spG{s:Sp}{a:LV_}(hi:i<3):(eV s++a)[22+i]? =([.int .i64 s.credit,gU s.last,gI s.first]:LV_)[i]? :=by
 rw[cg (by rw[br];omega)];simp only[eV];rw[bp (by simp;omega)];rw[bp (by rw[nt];simp;omega)];congr 1;rw[nt];simp;omega
def ag3(s:Sp)(a:LV_):(eV s++a)[0]? =some (gU s.num):=rfl
def am1(s:Sp)(a:LV_):(eV s++a)[1]? =some (gB s.route):=rfl
def ai3(s:Sp)(a:LV_):(eV s++a)[2]? =some (gI s.tick):=rfl
def ai9(s:Sp)(a:LV_):(eV s++a)[3]? =some (gI s.lot):=rfl
def ah7(s:Sp)(a:LV_):(eV s++a)[4]? =some (gI s.band):=rfl
def ag9(s:Sp)(a:LV_):(eV s++a)[5]? =some (gI s.limit):=rfl
def R4(s:Sp)(a:LV_):(eV s++a)[22]? =some (gI s.credit):=spG (i:=0) qZ
def Wy(s:Sp)(a:LV_):(eV s++a)[23]? =some (gU s.last):=spG (i:=1) qZ
def SX(s:Sp)(a:LV_):(eV s++a)[24]? =some (gI s.first):=spG (i:=2) qZ
def wz(tick n:Int):Bool:=aY n 1 MP&& decide (n.tmod tick=0)
def vK(l:List Int):Bool:=l.all λx=>aY x (-MP) MP
def Sp.may(s:Sp):Bool:=
 vK s.shifts.toList&& s.shifts.toList.any (λx=>decide (0<x))&& s.shifts.toList.any (λx=>decide (x<0))&& decide (s.num≠0)&& aY s.route 1 8&& aY s.tick 1 MP&& aY s.lot 1 1000000&& aY s.band 0 MP&& aY s.limit 1 MP&& aY s.credit 0 MP&& wz s.tick s.first
def Sp.isPrice(s:Sp)(n:Int):Bool:=s.may&& wz s.tick n
def Sp.isQty(s:Sp)(n:Int):Bool:=s.may&& (aY n 1 1000000&& decide (n.tmod s.lot=0))
def Sp.inBand(s:Sp)(at_ n:Int):Bool:=s.may&& (decide (ed (n - at_))&& aY (n - at_) (-s.band) s.band)
def mH{n lo hi:Int}(a:K (.bool (aY n lo hi)) w):Ca pQ 195 #[.int .i64 n,gI lo,gI hi] w K:=by
 refine cN Tryz.func195 ?_;unfold aY at a;by_cases h:lo<=n
 ·simp[go_sem,h]at a|-;exact a
 ·simp[go_sem,h]at a|-;exact a
def Dl{tick n:Int}(d:0<tick)(a:K (.bool (wz tick n)) w):Ca pQ 196 #[.int .i64 tick,gI n] w K:=by
 refine cN Tryz.func196 ?_;apply mH;unfold wz MP at a;have b:¬tick=0:=qZ;cases h:aY n 1 10000000 with
 |false=>
  rw[h]at a;simpa using a
 |true=>
  rw[h]at a;have j:=bE h;simp[go_sem,b]at a|-
  have e:IntKind.i64.wrap (n.tmod tick)=n.tmod tick:=by
   have h1:=Int.emod_nonneg n b;have g:=Int.emod_lt_of_pos n d;have f:n.tmod tick=n%tick:=jm qZ
   have i:n%tick<=n:=by
    by_cases c:n<tick
    ·rw[Int.emod_eq_of_lt qZ c];omega
    ·omega
   rw[f,mR]
  first
   |exact a
   |(rw[e];exact a)
   |(simpa [e]using a)
def uSh:Tryz.prog.underlying 46=some (.array 16 2):=cV
def WO:mh pQ 46=true:=cV
def Xf:Tryz.prog.cellsOf 46=15+1:=cV
def U3:mh pQ 2=false:=cV
def Tg:(Tryz.prog.underlying 2).isSome=true:=cV
def U5:Tryz.prog.cellsOf 2=0+1:=cV
def zi:mh pQ 48=true:=cV
def we:Tryz.prog.cellsOf 48=24+1:=cV
def Au(s:Vector Int 16)(i:Nat)(h:i<16):(vD s).toArray[i]? =some (gI s.toList[i]!):=by
 have a:s.toList.length=16:=by simp
 simp[vD,av,a,h]
def Rv{l:List Int}{p:Int->Bool}(h:i<l.length):(l.take (i+1)).all p=((l.take i).all p&& p l[i]!):=by
 rw[fW,av h,eB];simp[h]
def FY{l:List Int}{p:Int->Bool}(h:i<l.length):(l.take (i+1)).any p=((l.take i).any p||p l[i]!):=by
 rw[fW,av h,List.any_append];simp[h]
def qF{s:Sp}(hf:s.Fit)(X:∀F,M0 w F->K (.bool s.may) F):Ca pQ 131 #[.agg (eV s).toArray] w K:=by
 refine cN Tryz.func131 ?_;obtain⟨p,o⟩:=di w.heap.size;have O:M0 w (w.alloc (.cells (eV s).toArray 48)):=mG;apply ao (bO p 0) (w.alloc (.cells (eV s).toArray 48)) (by rw[o];rfl);have d:hC (w.alloc (.cells (eV s).toArray 48)) p (eV s).toArray 48:=by rw[o];simp[go_sem]
 generalize w.alloc (.cells (eV s).toArray 48)=A at O d|-;refine dI ?_
 have Y:At A p 6 (vD s.shifts):=by
  have D:At A p 0 (eV s):=⟨_,_,_,d,by simp,by simp⟩
  have:=D.sub 6 16 (by rw[br];omega);rw[ti]at this;simpa using this
 apply fH (vD s.shifts) 15 WO Xf (nt _) Y;have hl:s.shifts.toList.length=16:=by simp
 obtain⟨f1,f2,f3,f4,f5,f6,V,f8,f9,U⟩:=hf;have a:∀i:Nat,(eV s)[i]? =(eV s++[])[i]? :=λi=>by grind
 refine d8 (λst W=>∃(i:Nat) (x:Vt_),i<=16/\st=(x,.bool ((s.shifts.toList.take i).any λx=>decide (0<x)),.bool ((s.shifts.toList.take i).any λx=>decide (x<0)),gI i,())/\W=A/\vK (s.shifts.toList.take i)=true)
  (λst _=>match st.2.2.2.1 with| .int _ i=>16 - i.toNat|_=>0) ⟨0,.bool false,qZ,rfl,rfl,rfl⟩ ?_
 rintro⟨_,_⟩ W ⟨i,x,hi,⟨⟩,rfl,g⟩ T C;refine lV ?_;intro _;by_cases k:i<16
 ·have l:(i:Int)<16:=qZ;have f:i<s.shifts.toList.length:=qZ
  have hx:ed s.shifts.toList[i]! :=by
   rw[fI s.shifts.toList i f];exact V _ (aq f)
  refine dY l ?_;apply ao (gI s.shifts.toList[i]!) W (qx uSh U3 Tg U5 k (Au _ i k));generalize N:s.shifts.toList[i]! =y at*;apply gM hx qZ;have Z:IntKind.i64.wrap ((i:Int)+1)=((i+1:Nat):Int):=by rw[mR];omega
  refine dI ?_;cases G:aY y (-10000000) 10000000 with
  |false=>
   rw[ay,ae (show(!false)=true from rfl)]
   have:s.may=false:=by
    have h1:vK s.shifts.toList=false:=by
     rw[eJ];intro hc;have:=(bg.1 hc) y (by grind);unfold MP at this;rw[G]at this;cases this
    unfold Sp.may;rw[h1];simp
   have e:=X _ O;rw[this]at e;exact e
  |true=>
   rw[ay,aa (by simp)]
   have j:vK (s.shifts.toList.take (i+1))=true:=by
    unfold vK;rw[Rv f,N];show(vK _&& _)=true;rw[g];simpa [MP]using G
   have nxt:∀(z:Vt_),T (z,.bool ((s.shifts.toList.take (i+1)).any λx=>decide (0<x)),.bool ((s.shifts.toList.take (i+1)).any λx=>decide (x<0)),gI ((i+1:Nat):Int),()) W:=λz=>
    C _ _ ⟨i+1,z,qZ,rfl,rfl,j⟩ (by grind)
   rw[FY f,FY f,N]at nxt;cases u:(s.shifts.toList.take i).any λx=>decide (0<x)<;>cases r:(s.shifts.toList.take i).any λx=>decide (x<0)
   all_goals
    rw[u,r]at nxt;simp only[ay,bi,dg,df];simp[-Int.natCast_add,go_sem,Z];simpa using nxt _
 ·obtain rfl:i=16:=qZ;rw[aC qZ]at g;rw[aC qZ];refine eU ?_;have c:∀b:Bool,b=s.may->K (.bool b) W:=λb h=>by grind
  unfold Sp.may at c;rw[g]at c;cases u:s.shifts.toList.any λx=>decide (0<x)with
  |false=>
   rw[jO];apply c _;rw[u];simp
  |true=>
   rw[u]at c;rw[kJ];cases r:s.shifts.toList.any λx=>decide (x<0)with
   |false=>
    rw[jO];apply c _;rw[r];simp
   |true=>
    rw[r]at c;rw[kJ];have I:(eV s).toArray[0]? =some (gU s.num):=by rw[cR,a];exact ag3 s []
    have M:(eV s).toArray[1]? =some (gB s.route):=by rw[cR,a];exact am1 s []
    have t:(eV s).toArray[2]? =some (gI s.tick):=by rw[cR,a];exact ai3 s []
    have S:(eV s).toArray[3]? =some (gI s.lot):=by rw[cR,a];exact ai9 s []
    have L:(eV s).toArray[4]? =some (gI s.band):=by rw[cR,a];exact ah7 s []
    have R:(eV s).toArray[5]? =some (gI s.limit):=by rw[cR,a];exact ag9 s []
    have q:(eV s).toArray[22]? =some (gI s.credit):=by rw[cR,a];exact R4 s []
    have m:(eV s).toArray[24]? =some (gI s.first):=by rw[cR,a];exact SX s []
    refine nS d I ?_;refine nS d I ?_;by_cases v:s.num=0
    ·refine fF v ?_;refine c _ (by simp[v])
    have E:decide (s.num≠0)=true:=by simpa using v
    rw[E]at c;refine dY v ?_;refine nS d M ?_;refine nS d M ?_;refine dN (ew (n:=s.route) qZ qZ) ?_;apply mH;cases h1:aY s.route 1 8 with
    |false=>rw[jO];exact c _ (by rw[h1];simp)
    |true=>
    rw[h1]at c;rw[kJ];refine nS d t ?_;refine nS d t ?_;apply mH;unfold MP at c;cases B:aY s.tick 1 10000000 with
    |false=>rw[jO];exact c _ (by rw[B];simp)
    |true=>
    rw[B]at c;rw[kJ];refine nS d S ?_;refine nS d S ?_;apply mH;cases P:aY s.lot 1 1000000 with
    |false=>rw[jO];exact c _ (by rw[P];simp)
    |true=>
    rw[P]at c;rw[kJ];refine nS d L ?_;refine nS d L ?_;apply mH;cases H:aY s.band 0 10000000 with
    |false=>rw[jO];exact c _ (by rw[H];simp)
    |true=>
    rw[H]at c;rw[kJ];refine nS d R ?_;refine nS d R ?_;apply mH;cases J:aY s.limit 1 10000000 with
    |false=>rw[jO];exact c _ (by rw[J];simp)
    |true=>
    rw[J]at c;rw[kJ];refine nS d q ?_;refine nS d q ?_;apply mH;cases Q:aY s.credit 0 10000000 with
    |false=>rw[jO];exact c _ (by rw[Q];simp)
    |true=>
    rw[Q]at c;rw[kJ];refine nS d t ?_;refine nS d t ?_;refine nS d m ?_;refine nS d m ?_;have ht:=bE B;apply Dl qZ;exact c _ (by simp)
end Go.Proofs
namespace Go.Proofs
open Go Go.Vc
attribute [local congr] bj
variable {n:Int}{s:Sp}{w:Wt_}{K:aZ}
def QE(s:Sp):(eV s)[0]? =some (gU s.num):=rfl
def ah1(s:Sp):(eV s)[2]? =some (gI s.tick):=rfl
def ak7(s:Sp):(eV s)[3]? =some (gI s.lot):=rfl
def ah9(s:Sp):(eV s)[4]? =some (gI s.band):=rfl
def DU(s:Sp)(w:Wt_):∃a,(Instr.box 48 (.agg (eV s).toArray)).run pQ w=.ok (bO w.heap.size 0) a/\hC a w.heap.size (eV s).toArray 48/\M0 w a:=
 ⟨w.alloc (.cells (eV s).toArray 48),rfl,by simp[go_sem],(aR.refl _ w).alloc _⟩
def At.all{b:Nat}{l:LV_}{T:TypeId}{a:Nat×Nat}(h:hp w b=some (.cells l.toArray T a)):At w b 0 l:=⟨_,_,_,h,by simp,by simp⟩
def Sp.may_tick(h:s.may=true):1<=s.tick/\1<=s.lot/\0<=s.band/\1<=s.limit/\s.limit<=10000000/\s.band<=10000000/\s.lot<=1000000/\s.tick<=10000000:=by
 unfold Sp.may aY MP at h;simp only[ai,aS]at h;omega
def qk(h:s.Fit)(a:∀e,M0 w e->K (.bool (s.isPrice n)) e):Ca pQ 147 #[.agg (eV s).toArray,gI n] w K:=by
 refine cN Tryz.func147 ?_;obtain⟨j,i,d,g⟩:=DU s w;apply bo i;apply fH (eV s) 24 zi we (br s) (At.all d);refine qF h λk c=>?_;have f:=c.hpk d id;unfold Sp.isPrice at a;cases b:s.may with
 |false=>
  rw[b]at a;rw[jO];exact a _ (g.trans c)
 |true=>
  rw[b]at a;rw[kJ];refine dN f ?_;refine nS f ah1 ?_;apply Dl (by have:=Sp.may_tick b;omega);exact a _ (g.trans c)
def HX(l:s.Fit)(a:∀i,M0 w i->K (.bool (s.isQty n)) i):Ca pQ 226 #[.agg (eV s).toArray,gI n] w K:=by
 refine cN Tryz.func226 ?_;obtain⟨r,o,g,c⟩:=DU s w;apply bo o;apply fH (eV s) 24 zi we (br s) (At.all g);refine qF l λq b=>?_;have k:=b.hpk g id;unfold Sp.isQty at a;cases f:s.may with
 |false=>
  rw[f]at a;rw[jO];exact a _ (c.trans b)
 |true=>
  rw[f]at a;rw[kJ];apply mH;have h:=Sp.may_tick f;have j:¬s.lot=0:=qZ;cases d:aY n 1 1000000 with
  |false=>
   rw[d]at a;rw[jO];exact a _ (c.trans b)
  |true=>
   rw[d]at a;have p:=bE d;rw[kJ];refine dN k ?_;refine nS k ak7 ?_
   have e:IntKind.i64.wrap (n.tmod s.lot)=n.tmod s.lot:=by
    have h1:=Int.emod_nonneg n j;have t:=Int.emod_lt_of_pos n (show 0<s.lot by omega);have m:n.tmod s.lot=n%s.lot:=jm qZ;rw[m,mR]
   refine nS j e ?_;apply ao (.bool (decide (n.tmod s.lot=0))) q (by simp[go_sem];rw[dh];simp);have:=a _ (c.trans b);simpa using this
def XJ{a b:Int}(l:ed a)(k:ed b)(h:K (.tuple #[.int .i64 (if ed (a - b)then a - b else 0),gI (if ed (a - b)then 0 else 6)]) w):Ca pQ 360 #[.int .i64 a,gI b] w K:=by
 refine cN Tryz.func360 ?_;obtain⟨c,i⟩:=di (IntKind.i64.wrap (a - b));apply ao (gI c) w (by rw[i];simp[go_sem]);rw[bV]at i;refine cT.at (λst W=>st=(.bool (decide (¬ed (a - b))),())/\W=w) ?_ ?_
 ·by_cases h1:0<=a
  ·refine dY h1 ?_;have d:¬a<0:=qZ;by_cases f:b<0
   ·refine dY f ?_;by_cases j:c<0
    ·refine dY j ?_;refine⟨?_,rfl⟩;rw[aW (by unfold ed;omega)]
    ·refine fF j ?_;refine fF d ?_;refine⟨?_,rfl⟩;rw[bD (by unfold ed;omega)]
   ·refine fF f ?_;refine fF d ?_;refine⟨?_,rfl⟩;rw[bD (by unfold ed;omega)]
  ·refine fF h1 ?_;have d:a<0:=qZ;refine dY d ?_;by_cases f:0<=b
   ·refine dY f ?_;refine dI ?_;refine⟨?_,rfl⟩;have e:decide (0<=c)=decide (¬ed (a - b)):=by grind
    rw[e]
   ·refine fF f ?_;refine⟨?_,rfl⟩;rw[bD (by unfold ed;omega)]
 rintro _ w ⟨rfl,rfl⟩;refine kR ?_;intro _;by_cases g:ed (a - b)
 ·rw[ae g,ae g]at h;rw[ay,aa (by simpa using g)];rw[i,show(a - b+9223372036854775808)%18446744073709551616 - 9223372036854775808=a - b by grind];exact h
 ·rw[aa g,aa g]at h;rw[ay,ae (by grind)];exact h
def NI{at_:Int}(i:s.Fit)(l:ed at_)(j:ed n)(a:∀g,M0 w g->K (.bool (s.inBand at_ n)) g):Ca pQ 313 #[.agg (eV s).toArray,gI at_,gI n] w K:=by
 refine cN Tryz.func313 ?_;obtain⟨m,k,f,d⟩:=DU s w;apply bo k;apply XJ j l;refine dI ?_;refine dI ?_;apply fH (eV s) 24 zi we (br s) (At.all f);refine qF i λp c=>?_;have h:=c.hpk f id;unfold Sp.inBand at a;cases e:s.may with
 |false=>
  rw[e]at a;rw[jO];exact a _ (d.trans c)
 |true=>
  rw[e]at a;rw[kJ];have o:=Sp.may_tick e;by_cases b:ed (n - at_)
  ·rw[aW b]at a;rw[ae b,ae b];refine lh ?_;refine dN h ?_;refine nS h ah9 ?_;apply gM b qZ;exact a _ (d.trans c)
  ·rw[bD b]at a;rw[aa b,aa b];refine eU ?_;exact a _ (d.trans c)
structure Ct where
 spec:Sp
 st:Int
 price:Int
 deriving DecidableEq
def Ct.Fit(k:Ct):Prop:=k.spec.Fit/\(0<=k.st/\k.st<256)/\ed k.price
def dA(k:Ct):List Value:=eV k.spec++[.int .u8 k.st,gI k.price]
def bM(k:Ct):(dA k).length=27:=by simp[dA,br]
def kH(k:Ct):(dA k).all (·.oneCell')=true:=by
 rw[dA,eB,qw];rfl
def WB(k:Ct)(a:LV_):(dA k++a)[25]? =some (gB k.st):=by
 rw[cg (by rw[bM];omega),dA,bp (by rw[br];omega),br];rfl
def Wc(k:Ct)(a:LV_):(dA k++a)[26]? =some (gI k.price):=by
 rw[cg (by rw[bM];omega),dA,bp (by rw[br];omega),br];rfl
structure Gt where
 k:Ct
 a:Ac
 q:Int
 buys:Int
 sells:Int
 buy:Bool
 price:Int
 qty:Int
def ze(g:Gt):List Value:=dA g.k++(cY g.a++[.int .i64 g.q,gI g.buys,gI g.sells,.bool g.buy,gI g.price,gI g.qty])
def xO(g:Gt):(ze g).length=37:=by simp[ze,bM,cY]
def VY(g:Gt)(i:Nat)(h:i<10):(ze g)[27+i]? =(cY g.a++[.int .i64 g.q,gI g.buys,gI g.sells,.bool g.buy,gI g.price,gI g.qty])[i]? :=by
 rw[ze,bp (by rw[bM];omega),bM,fZ]
def gt5(g:Gt):(ze g)[5]? =some (gI g.k.spec.limit):=rfl
def YC(g:Gt):(ze g)[25]? =some (gB g.k.st):=WB _ _
def ab3(g:Gt):(ze g)[26]? =some (gI g.k.price):=Wc _ _
def am0(g:Gt):(ze g)[29]? =some (.bool g.a.kil):=VY g 2 qZ
def ah8(g:Gt):(ze g)[30]? =some (.bool g.a.dfl):=VY g 3 qZ
def XI(g:Gt):(ze g)[31]? =some (gI g.q):=VY g 4 qZ
def Zd(g:Gt):(ze g)[32]? =some (gI g.buys):=VY g 5 qZ
def ab4(g:Gt):(ze g)[33]? =some (gI g.sells):=VY g 6 qZ
def ak2(g:Gt):(ze g)[34]? =some (.bool g.buy):=VY g 7 qZ
def ZS(g:Gt):(ze g)[35]? =some (gI g.price):=VY g 8 qZ
def XV(g:Gt):(ze g)[36]? =some (gI g.qty):=VY g 9 qZ
def Gt.far(g:Gt):Bool:=if g.buy then decide (g.k.spec.limit<g.q+g.buys+g.qty)else decide (g.q - g.sells - g.qty< -g.k.spec.limit)
def Gt.check(g:Gt):Int:=
 if g.a.dfl then 120 else if g.a.kil then 121 else if g.k.st=3 then 50 else if g.k.st=2 then 122
 else if g.k.st≠1\/¬g.k.spec.isPrice g.k.price\/¬aY g.buys 0 1000000000\/¬aY g.sells 0 1000000000\/¬aY g.q (-MP) MP then 2
 else if¬g.k.spec.isQty g.qty then 123 else if¬g.k.spec.isPrice g.price then 52 else if¬g.k.spec.inBand g.k.price g.price then 124 else if g.far then 125 else 0
def Gt.Fit(g:Gt):Prop:=g.k.Fit/\ed g.q/\ed g.buys/\ed g.sells/\ed g.price/\ed g.qty
def aGt:mh pQ 380=true:=cV
def nGt:Tryz.prog.cellsOf 380=36+1:=cV
def Wj(g:Gt)(w:Wt_):∃a,(Instr.box 380 (.agg (ze g).toArray)).run pQ w=.ok (bO w.heap.size 0) a/\hC a w.heap.size (ze g).toArray 380/\M0 w a:=
 ⟨w.alloc (.cells (ze g).toArray 380),rfl,by simp[go_sem],(aR.refl _ w).alloc _⟩
def Is(a:K (.bool (aY n 0 1000000000)) w):Ca pQ 312 #[.int .i64 n] w K:=by
 refine cN Tryz.func312 ?_;unfold aY at a;by_cases h:0<=n
 ·simp[go_sem,h]at a|-;exact a
 ·simp[go_sem,h]at a|-;exact a
def Tl{g:Gt}(h1:aY g.q (-MP) MP=true)(d:aY g.buys 0 1000000000=true)(f:aY g.sells 0 1000000000=true)(e:aY g.qty 1 1000000=true)(l:1<=g.k.spec.limit/\g.k.spec.limit<=10000000)
  (b:∀c,M0 w c->K (.bool g.far) c):Ca pQ 314 #[.agg (ze g).toArray] w K:=by
 refine cN Tryz.func314 ?_;have h1:=bE h1;have d:=bE d;have f:=bE f;have e:=bE e;unfold MP at h1;obtain⟨k,i,a,j⟩:=Wj g w;have b:=b _ j;unfold Gt.far at b;apply bo i;refine dN a ?_;refine nS a ak2 ?_;cases h:g.buy with
 |true=>
  rw[h,ae rfl]at b;rw[kJ];refine dN a ?_;refine nS a XI ?_;refine dN a ?_;refine nS a Zd ?_;refine dN (ew (n:=g.q+g.buys) qZ qZ) ?_;refine dN a ?_;refine nS a XV ?_;refine dN (ew (n:=g.q+g.buys+g.qty) qZ qZ) ?_;refine dN a ?_;refine dN a ?_;refine dN a ?_;refine nS a gt5 ?_;refine dI ?_;exact b
 |false=>
  rw[h,aa dp]at b;rw[jO];refine dN a ?_;refine nS a XI ?_;refine dN a ?_;refine nS a ab4 ?_;refine dN (ew (n:=g.q - g.sells) qZ qZ) ?_;refine dN a ?_;refine nS a XV ?_;refine dN (ew (n:=g.q - g.sells - g.qty) qZ qZ) ?_;refine dN a ?_;refine dN a ?_;refine dN a ?_;refine nS a gt5 ?_;refine dN (ew (n:= -g.k.spec.limit) qZ qZ) ?_;refine dI ?_;exact b
end Go.Proofs
namespace Go.Vc
open Go Go.Vc
end Go.Vc
namespace Go.Vc
open Go Go.Vc
variable {kh kl:IntKind}{sz b n cap hi lo:Nat}{P:Program}{t ty e:TypeId}{w:Wt_}{K:aZ}
def Fx{u s:TypeId}{off m:Nat}{C:Array Value}{T:TypeId}{x:Vt_}{a:LV_}
  (p:P.underlying t=some (.slice e))(v:P.underlying u=some (.slice s))(z:P.cellsOf e=sz+1)(q:w.heap[b]? =some (.cells C T (0,0)))(c:n+m<=cap)
  (j:Rd w (sz+1) x m a)(h1:a.all (·.oneCell')=true)(l:off+(n+m)*(sz+1)<=C.size)
  (r:K (.slice (some ⟨b,off,none⟩) (n+m) cap) (w.setRow b (jp C.toList (off+n*(sz+1)) a).toArray)):rx P (fb #[t,u] ty [.slice (some ⟨b,off,none⟩) n cap,x]) w K:=by
 obtain⟨i,y,g⟩:=qB (n:=sz) z;have k:a.length=m*(sz+1):=j.1;have h:=j.first (P:=P) (lZ _);have d:=run_storeCells_at P b (off+n*(sz+1)) T a 0 C w q (by grind) (qh h1);simp only[cB]at d;refine py (.slice (some ⟨b,off,none⟩) (n+m) cap) (w.setRow b (jp C.toList (off+n*(sz+1)) a).toArray) ?_ r;have o:(⟨b,off,none⟩:Addr).add (n*(sz+1))=⟨b,off+n*(sz+1),none⟩:=by rw[bK]
 unfold jp;simp[fb,Builtin.append_,aT p,sizeOf,typeInfo,y,g,aT v,j.lenOf,Result.andThen,h,c];rw[o,d];simp[ar]
def qH{C sT:TypeId}{g o j r d k:Nat}{q:Vt_}{all:LV_}{l:Array Value}
  (J:P.underlying C=some (.slice e))(hs:P.cellsOf e=sz+1)(E:w.heap[g]? =some (.cells l t (0,0)))(m:Rd w (sz+1) q d all)(A:k=Nat.min d j)
  (B:o+k*(sz+1)<=l.size)(h1:all.all (·.oneCell')=true)(G:K (gI k) (w.setRow g (jp l.toList o (all.take (k*(sz+1)))).toArray)):
  rx P (Lh #[C,sT] ty [.slice (some ⟨g,o,none⟩) j r,q]) w K:=by
 obtain⟨i,L,y⟩:=qB (n:=sz) hs;have O:all.length=d*(sz+1):=m.1;have u:k<=d:=by grind
 have D:k*(sz+1)<=d*(sz+1):=cH _ u;have s:(all.take (k*(sz+1))).length=k*(sz+1):=by grind
 have z:∀v∈all.take (k*(sz+1)),v.oneCell' =true:=λv M=>qh h1 v (bF M);have p:=run_storeCells_at P g o t (all.take (k*(sz+1))) 0 l w E (by grind) z;simp only[cB]at p
 have h:(Builtin.firstCells (sz+1) k q).run P w=.ok (all.take (k*(sz+1))).toArray w:=by
  obtain⟨_,⟨N,a,c,rfl⟩|⟨b,H,F,rfl,Q,I⟩⟩:=m
  ·have x:k=0:=qZ;subst x;cases a<;>simp[Builtin.firstCells,loadCells,loadCellsFrom]
  ·have:=(I.sub 0 (k*(sz+1)) qZ).loads (P:=P);simp only[dW,cB,s]at this;simpa [Builtin.firstCells]using this
 refine py (goInt (Nat.min d j)) (w.setRow g (jp l.toList o (all.take (k*(sz+1)))).toArray) ?_ (by rw[<-A];exact G);rw[A]at h p|-;simp[Lh,Builtin.copy_,aT J,m.lenOf,sizeOf,typeInfo,L,y,Result.andThen,h,p,jp]
def Dq{g o c:Nat}{a:Array Value}{T:TypeId}{by_:Nat}(l:P.underlying t=some (.slice e))(x:wq P e (sz+1) by_)
  (p:w.heap[g]? =some (.cells a T (0,0)))(r:o+n*(sz+1)<=a.size)
  (d:∀z:List Value,z.length=n*(sz+1)->z.all (·.oneCell')=true->K (.tuple #[]) (w.setRow g (jp a.toList o z).toArray)):
  rx P (A7 #[t] ty [.slice (some ⟨g,o,none⟩) n c]) w K:=by
 obtain⟨⟨i,z,B,v,u,y,k,h⟩,q,j⟩:=x;have s:(Builtin.zeroCells z.cells n).toList.length=n*(sz+1):=by rw[qy,k]
 have h1:=qu h (by grind) n;have d:=d _ s h1;have b:=run_storeCells_at P g o T (Builtin.zeroCells z.cells n).toList 0 a w p (by grind) (qh h1);simp only[cB]at b;refine py (.tuple #[]) (w.setRow g (jp a.toList o (Builtin.zeroCells z.cells n).toList).toArray) ?_ d;cases n with
 |zero=>
  have e:(Builtin.zeroCells z.cells 0).toList=[]:=kG (by rw[s];simp);rw[e];have A:=setRow_self w g a T (0,0) p;simp[A7,Builtin.clear_,aT l,Result.andThen,jp,A]
 |succ m=>simp[A7,Builtin.clear_,aT l,zeroValue,typeInfo,B,v,Result.andThen,b,jp]
def zL{u:TypeId}{ku:IntKind}{by_:Nat}{s:Vt_}{m:Nat}{cs:LV_}
  (U:P.underlying t=some (.slice e))(W:P.underlying u=some (.int ku))(hE:wq P e (sz+1) by_)
  (hs:ic w e (sz+1) s n cs)(A:(n+m)*by_<=140737488355328)
  (hK:∀Y R z,z.length=m*(sz+1)->z.all (·.oneCell')=true->ic R e (sz+1) Y (n+m) (cs++z)->aR (aF s) w R->(∀b,aF Y b->aF s b\/w.heap.size<=b)->(∀a c,s=.slice a n c->c<n+m->M0 w R/\∀b,aF Y b->w.heap.size<=b)->K Y R):
  rx P (fb #[t,u] ty [s,gI (m:Int)]) w K:=by
 obtain⟨⟨i,z,X,hz,p,N,I,T⟩,M,E⟩:=hE;have hneed:n+m<=140737488355328:=ck (mV _ E) A;have hmb:m*by_<=140737488355328:=ck (cH _ qZ) A;have l:cs.length=n*(sz+1):=hs.1;have O:(Builtin.zeroCells z.cells m).toList.length=m*(sz+1):=by rw[qy,I]
 have h1:=qu T (by grind) m;have k:IntKind.i64.wrap (m:Int)=(m:Int):=by rw[bV];omega
 have r:¬(m:Int)<0:=qZ
 have y:¬(281474976710656:Int)<(m:Int)*(i.bytes:Int):=by
  rw[N,<-eO];omega
 obtain⟨g,d,hsv,H,x⟩:∃g d,s=.slice g n d/\n<=d/\((g=none/\n=0/\d=0/\cs=[])\/∃b rest,g=some ⟨b,0,none⟩/\w.heap[b]? =some (.cells (cs++rest).toArray e (0,0))/\rest.length=(d - n)*(sz+1)/\rest.all (·.oneCell')=true):=by
  rcases hs.2 with⟨rfl,rfl⟩|⟨b,d,rest,rfl,hc,G,hr⟩
  ·grind
  ·grind
 subst hsv;obtain⟨L,V⟩:∃L:Int,(m:Int)=L:=⟨_,rfl⟩
 rw[V];rw[V]at k;have k:IntKind.i64.wrap L=(m:Int):=k.trans V.symm;clear V;generalize hZ:Builtin.zeroCells z.cells m=Z at O h1;by_cases h0:m=0
 ·subst h0;have hZ0:Z= #[]:=ib (by grind);refine py (.slice g n d) w ?_ (hK _ _ [] (by simp) rfl (by simpa using hs) rZ (λb A=>.inl A) λa c he J=>by grind);rcases x with⟨rfl,rfl,rfl,rfl⟩|⟨b,rest,rfl,G,B,hr1⟩
  ·simp[fb,Builtin.append_,aT U,sizeOf,typeInfo,X,p,aT W,Result.andThen,asInt,asIntOf,k]
  ·have j:=run_storeCells_at P b (n*(sz+1)) e [] 0 (cs++rest).toArray w G (by simp[l]) (by simp);simp only[cB]at j;have F:=setRow_self w b (cs++rest).toArray e (0,0) G;have e0:(⟨b,0,none⟩:Addr).add (n*(sz+1))=⟨b,n*(sz+1),none⟩:=by rw[bK];simp
   have hnc:¬d<n:=qZ;simp at j;simp[fb,Builtin.append_,aT U,sizeOf,typeInfo,X,p,aT W,Result.andThen,asInt,asIntOf,k,H,e0,j];simpa using F
 have Q:¬m*(sz+1)=0:=by
  rw[Nat.mul_eq_zero];omega
 by_cases h:n+m<=d
 ·rcases x with⟨rfl,rfl,rfl,rfl⟩|⟨b,rest,rfl,G,B,hr1⟩
  ·omega
  ·have j:=run_storeCells_at P b (n*(sz+1)) e Z.toList 0 (cs++rest).toArray w G (by
    simp only[dv,af,l,B,O];have:=cH (sz+1) h;rw[ej]at this;rw[mQ];omega) (qh h1)
   simp only[cB]at j
   have D:(cs++rest).take (n*(sz+1))++Z.toList++(cs++rest).drop (n*(sz+1)+Z.toList.length)=(cs++Z.toList)++rest.drop Z.toList.length:=by
    rw[<-l];simp[ar]
   refine py (.slice (some ⟨b,0,none⟩) (n+m) d) (w.setRow b ((cs++Z.toList)++rest.drop Z.toList.length).toArray) ?_ (hK _ _ Z.toList O h1 ⟨?_,.inr ⟨b,d,rest.drop Z.toList.length,rfl,h,?_,?_,?_⟩⟩ ?_ ?_ λa c he J=>by grind)
   ·simp only[D]at j;have e0:(⟨b,0,none⟩:Addr).add (n*(sz+1))=⟨b,n*(sz+1),none⟩:=by rw[bK];simp
    simp[fb,Builtin.append_,aT U,sizeOf,typeInfo,zeroValue,hz,X,p,aT W,Result.andThen,asInt,asIntOf,k,h,e0,r,y,h0,hZ,j];have q:=j;simp at q;rw[aa Q];simp only;rw[q]
   ·grind
   ·rw[eK,ae rfl,G]
   ·rw[bC,B,O,<-mQ];congr 1;omega
   ·grind
   ·exact(aR.refl (aF (.slice (some ⟨b,0,none⟩) n d)) w).setRow (.inl (show aF _ b from rfl)) _
   ·intro b' C;exact .inl C
 ·have hfit:=growslice_fits (old:=d) (need:=n+m) (bytes:=by_) qZ A;have h48:¬(281474976710656<Builtin.nextslicecap (n+m) d*i.bytes):=by rw[N];omega
  have h63:¬(9223372036854775807<((n:Int)+(m:Int))):=qZ;have o:n+m<=grownCap w (n+m) d e:=by simp[grownCap,Question.cut]
  have hrs:Rd w.drew (sz+1) (.slice g n d) n cs:=hs.rd.keep λ_ _=>rfl;have hf1:=hrs.first (P:=P) M
  refine kY (v:=.slice (some ⟨w.heap.size,0,none⟩) (n+m) (grownCap w (n+m) d e))
   (w' :=w.drew.alloc (.cells (cs.toArray++Z++Builtin.zeroCells z.cells (grownCap w (n+m) d e - (n+m))) e)) ?_ (hK _ _ Z.toList O h1 ⟨?_,.inr ⟨w.heap.size,_,(Builtin.zeroCells z.cells (grownCap w (n+m) d e - (n+m))).toList,rfl,o,?_,?_,?_⟩⟩ ?_ ?_ λa c he J=>⟨vz.alloc _,λb A=>by cases A;exact aD _⟩)
  ·simp[fb,Builtin.append_,aT U,sizeOf,typeInfo,zeroValue,X,hz,p,aT W,Result.andThen,asInt,asIntOf,k,r,y,h0,h,h63,h48,Question.forced,hf1,newRow,grownCap,hZ];rw[aa Q];rfl
  ·grind
  ·rw[er,ae (show w.heap.size=w.drew.heap.size from rfl)];simp
  ·rw[qy,I]
  ·exact qu T (by grind) _
  ·exact vz.alloc _
  ·rintro b' C;cases C;exact .inr (aD _)
section
variable{α:Type}{f:α->List Value}{S:Nat}
def Ta(a:∀x,(f x).length=S):∀(l:List α) (i:Nat),(l.flatMap f).take (i*S)=(l.take i).flatMap f
 | [],i=>by simp
 |x::l,0=>by simp
 |x::l,i+1=>by
  have e:(i+1)*S=(f x).length+i*S:=by grind
  rw[bm,ij,bm,e,iO,Ta a l i]
def V5(a:∀x,(f x).length=S):∀(l:List α) (i:Nat),(l.flatMap f).drop (i*S)=(l.drop i).flatMap f
 | [],i=>by simp
 |x::l,0=>by simp
 |x::l,i+1=>by
  have e:(i+1)*S=(f x).length+i*S:=by grind
  rw[bm,List.drop_succ_cons,e,<-cL,da,V5 a l i]
def uB(a:∀x,(f x).length=S)(l:List α):(l.flatMap f).length=l.length*S:=rM f S l λx _=>a x
def MS(a:∀x,(f x).all (·.oneCell')=true)(l:List α):(l.flatMap f).all (·.oneCell')=true:=by
 rw[List.all_flatMap,bg];exact λx _=>a x
def Rd.item{w:Wt_}{v:Vt_}{n:Nat}{l:List α}(d:∀x,(f x).length=S)(h:Rd w S v n (l.flatMap f)){i:Nat}(hi:i<l.length)(o:n=l.length):
  ∃b c a,v=.slice (some ⟨b,c,none⟩) n a/\n<=a/\At w b (c+i*S) (f l[i]):=by
 obtain⟨m,⟨k,_⟩|⟨b,c,a,rfl,j,e⟩⟩:=h
 ·omega
 ·refine⟨b,c,a,rfl,j,?_⟩;have g:(i+1)*S<=l.length*S:=cH S hi;rw[ej]at g;have:=e.sub (i*S) S (by rw[uB d];omega)
  rwa[lY f S l i (λx _=>d x) hi]at this
end
def ic.pos{v:Vt_}{cs:LV_}(h:ic w e sz v n cs)(d:0<n):
  ∃b a rest,v=.slice (some ⟨b,0,none⟩) n a/\n<=a/\w.heap[b]? =some (.cells (cs++rest).toArray e (0,0))/\rest.length=(a - n)*sz/\(rest.all (·.oneCell')=true):=by
 obtain⟨c,⟨rfl,rfl⟩|h⟩:=h
 ·omega
 ·exact h
def IN(d:P.underlying t=some (.slice e))(g:P.cellsOf e=sz+1)(h:hi<=cap)(i:0<cap)(W:Wt_):
  (Instr.sliceAt t (.slice (some ⟨b,0,none⟩) n cap) none (some (.int kh (hi:Int))) none).run P W=.ok (.slice (some ⟨b,0,none⟩) hi cap) W:=by
 obtain⟨a,c⟩:=qa d;rw[run_sliceAt_slice W t _ _ _ _ a,run_slice_h W t _ n cap a kh hi qZ qZ,c,lI g];simp only[Result.andThen,sliced,gV,kp,kq];rw[aa qZ,eQ,bK]
def Yu(c:P.underlying t=some (.slice e))(g:P.cellsOf e=sz+1)(h1:lo<=hi)(h:hi<=cap)(i:lo<cap)(W:Wt_):
  (Instr.sliceAt t (.slice (some ⟨b,0,none⟩) n cap) (some (.int kl (lo:Int))) (some (.int kh (hi:Int))) none).run P W=.ok (.slice (some ⟨b,lo*(sz+1),none⟩) (hi - lo) (cap - lo)) W:=by
 obtain⟨a,d⟩:=qa c;rw[run_sliceAt_slice W t _ _ _ _ a,run_slice_lh W t _ n cap a kl kh lo hi qZ qZ qZ,d,lI g];simp only[Result.andThen,sliced,gV];rw[aa qZ,eQ,bK,cX]
def wO(d:P.underlying t=some (.slice e))(g:P.cellsOf e=sz+1)(h1:lo<=n)(h:n<=cap)(i:lo<cap)(W:Wt_):
  (Instr.sliceAt t (.slice (some ⟨b,0,none⟩) n cap) (some (.int kl (lo:Int))) none none).run P W=.ok (.slice (some ⟨b,lo*(sz+1),none⟩) (n - lo) (cap - lo)) W:=by
 obtain⟨a,c⟩:=qa d;rw[run_sliceAt_slice W t _ _ _ _ a,run_slice_l W t _ n cap a kl lo qZ qZ,c,lI g];simp only[Result.andThen,sliced,gV];rw[aa qZ,eQ,bK,cX]
def Xm{a:Option Addr}{mx:Nat}{km:IntKind}(g:P.underlying t=some (.slice e))(d:P.cellsOf e=sz+1)(h1:lo<=hi)(i:hi<=mx)(j:mx<=cap)(W:Wt_):
  ∃v,(Instr.sliceAt t (.slice a n cap) (some (.int kl (lo:Int))) (some (.int kh (hi:Int))) (some (.int km (mx:Int)))).run P W=.ok v W:=by
 obtain⟨b,h⟩:=qa g;have c:=run_slice_lhm W t a n cap b kl kh km lo hi mx qZ qZ qZ qZ;rw[h,lI d]at c;exact⟨_,(run_sliceAt_slice W t _ _ _ _ b).trans c⟩
end Go.Vc
namespace Go.Proofs
open Go Go.Vc
attribute [local congr] bj
variable {s:Vt_}{w:Wt_}{K:aZ}
structure Od where
 num:Int
 acct:Int
 buy:Bool
 price:Int
 left:Int
 deriving DecidableEq
variable {l:List Od}
def dF(o:Od):List Value:=[.int .u64 o.num,gU o.acct,.bool o.buy,gI o.price,gI o.left]
def dV(o:Od):(dF o).length=5:=rfl
def mz(o:Od):(dF o).all (·.oneCell')=true:=rfl
def Od.Fit(o:Od):Prop:=Np o.num/\iU o.acct/\ed o.price/\ed o.left
abbrev jG:TypeId:=130
abbrev sC:TypeId:=146
def ik:Tryz.prog.underlying sC=some (.slice jG):=cV
def Ax:Tryz.prog.cellsOf jG=4+1:=cV
def MY:fY pQ jG 5 32=true:=cV
abbrev qT(w:Wt_)(s:Vt_)(l:List Od):Prop:=ic w jG 5 s l.length (l.flatMap dF)
def t6(h:Rd w 5 s l.length (l.flatMap dF))(q:l.length<=1000000)
  (i:∀d e,qT e d l->M0 w e->(∀b,aF d b->w.heap.size<=b)->K d e):Ca pQ 94 #[s] w K:=by
 refine cN Tryz.func94 ?_;obtain⟨a,c,f⟩:=h.isSl;by_cases g:a=none
 ·subst g;apply ao (.bool true) w (by rw[f];simp[go_sem]);rw[kJ]
  have o:l=[]:=by
   obtain⟨-,⟨p,_⟩|⟨b,n,m,j,_⟩⟩:=h
   ·grind
   ·rw[f]at j;cases j
  subst o;exact i _ _ (ic.nil _ _ _) rZ λb k=>by cases k
 ·apply ao (.bool false) w (by rw[f];cases a;exact absurd rfl g;simp[go_sem]);rw[jO];exact ZU ik (dB MY) h (MS mz l) qZ i
def u0{i j:Nat}(h:qT w s l)(G:i<j)(E:j<=l.length)(T:l.length<=1000000)
  (I:∀p r,qT r p (l.take i++l.drop j)->aR (aF s) w r->(∀b,aF p b->aF s b)->K p r):Ca pQ 215 #[s,gI (i:Int),gI (j:Int)] w K:=by
 obtain⟨b,c,rest,rfl,C,F,N,O⟩:=h.pos qZ;have D:=h.1;refine cN Tryz.func215 ?_;refine IF ?_;obtain⟨S,u⟩:=Xm (P:=pQ) (t:=sC) (a:=some ⟨b,0,none⟩) (n:=l.length) (cap:=c) (lo:=i) (hi:=j) (mx:=l.length) (kl:=.i64) (kh:=.i64) (km:=.i64) ik Ax qZ E C w;apply bo u;have q:¬(i:Int)=(j:Int):=qZ;refine fF q ?_;refine IF ?_;apply cx (λW=>IN ik Ax (show i<=c by omega) qZ W);have A:Rd w 5 (.slice (some ⟨b,0,none⟩) l.length c) l.length (l.flatMap dF):=h.rd;obtain⟨R,v,e,-⟩:=Rd.from_ (P:=pQ) (kl:=.i64) (lo:=j) ik Ax A E;apply cx (λW=>v W);simp only[Nat.reduceAdd]at e;rw[V5 dV]at e;have H:((l.drop j).flatMap dF).length=(l.length - j)*5:=by rw[uB dV,bC]
 have o:w.drew.heap[b]? =some (.cells (l.flatMap dF++rest).toArray jG (0,0)):=F;have L:(l.flatMap dF++rest).length=c*5:=by grind
 apply Fx (m:=l.length - j) ik ik Ax o qZ (e.keep λ_ _=>rfl) (MS mz _) (by grind);have B:aR (aF (.slice (some ⟨b,0,none⟩) l.length c)) w (w.drew.setRow b (jp (l.flatMap dF++rest) (0+i*5) ((l.drop j).flatMap dF)).toArray):=vz.setRow (.inl (show aF (.slice (some ⟨b,0,none⟩) l.length c) b from rfl)) _
 have k:jp (l.flatMap dF++rest) (0+i*5) ((l.drop j).flatMap dF)=(l.take i++l.drop j).flatMap dF++(l.flatMap dF++rest).drop ((i+(l.length - j))*5):=by
  unfold jp;rw[H,cX,aO (by rw[D];omega),Ta dV,cE,ar,ar,<-ej]
 have g:(w.drew.setRow b (jp (l.flatMap dF++rest) (0+i*5) ((l.drop j).flatMap dF)).toArray).heap[b]? =some (.cells ((l.take i++l.drop j).flatMap dF++(l.flatMap dF++rest).drop ((i+(l.length - j))*5)).toArray jG (0,0)):=by
  rw[eK,ae rfl,o,k]
 rw[show(l.flatMap dF++rest).toArray.toList=l.flatMap dF++rest from rfl];generalize w.drew.setRow b (jp (l.flatMap dF++rest) (0+i*5) ((l.drop j).flatMap dF)).toArray=W at B g|-;refine IF ?_;apply bo (Yu ik Ax (show i+(l.length - j)<=l.length by omega) C qZ W)
 have x:((l.take i++l.drop j).flatMap dF).length=(i+(l.length - j))*5:=by
  rw[uB dV,af,az,bC,dK qZ]
 refine Dq ik (dB MY) g (by grind) λz M J=>?_
 have f:jp ((l.take i++l.drop j).flatMap dF++(l.flatMap dF++rest).drop ((i+(l.length - j))*5)) ((i+(l.length - j))*5) z=(l.take i++l.drop j).flatMap dF++(z++rest):=by
  unfold jp;rw[M,aO (by grind),aC (by grind),<-cL,<-x,da,ar,cL,x];congr 2;rw[show(i+(l.length - j))*5+(l.length - (i+(l.length - j)))*5=(l.flatMap dF).length by rw[D];omega,da]
 have d:(l.take i++l.drop j).length=i+(l.length - j):=by grind
 refine I _ _ ⟨by rw[x,d],.inr ⟨b,c,z++rest,by rw[d],qZ,?_,?_,?_⟩⟩ (B.setRow (.inl (show aF (.slice (some ⟨b,0,none⟩) l.length c) b from rfl)) _) λQ y=>y
 ·show(W.setRow b (jp ((l.take i++l.drop j).flatMap dF++(l.flatMap dF++rest).drop ((i+(l.length - j))*5)) ((i+(l.length - j))*5) z).toArray).heap[b]? =_;rw[eK,ae rfl,g,f]
 ·grind
 ·grind
def shp{b:Nat}{C:Array Value}{T:TypeId}{a:Nat×Nat}(h:w.heap[b]? =some (.cells C T a)):w.shape? b=some (T,C.size):=by simp[World.shape?,h]
def KA{b:Nat}{C:Array Value}{T:TypeId}(h:w.heap[b]? =some (.cells C T (0,0)))(i:Nat):w.frozen? ⟨b,i,none⟩=false:=by simp[go_sem,bT h]
def sOd(w:Wt_):(Go.sizeOf jG).run pQ w=.ok 5 w:=Go.Vc.lI Ax w
def WY:Extern.find Tryz.f363=some (Extern.SlicesOverlaps.overlaps #[sC,sC] #[4]):=cV
def Gj{v:Vt_}{o:Od}{i:Nat}(h:qT w s l)(hv:qT w v [o])(hd:∀b,aF s b->¬aF v b)(hi:i<=l.length)(hn:l.length<=1000000)
  (hK:∀s' w',qT w' s' (l.take i++o::l.drop i)->aR (aF s) w w' ->(∀b,aF s' b->aF s b\/w.heap.size<=b)->K s' w'):Ca pQ 323 #[s,gI (i:Int),v] w K:=by
 obtain⟨L,g,vrest,rfl,hvc,J,hvl,hv1⟩:=hv.pos (by simp);simp only[ee]at hvc hvl
 have n:(l.take i++o::l.drop i).length=l.length+1:=by
  rw[af,az,be,bC,dK hi];omega
 have S:([o].flatMap dF)=dF o:=by simp
 refine cN Tryz.func323 ?_;obtain⟨v0,hv0,-,-⟩:=Rd.from_ (P:=pQ) (kl:=.i64) (lo:=i) ik Ax (h.rd:Rd w (4+1) s l.length (l.flatMap dF)) hi;apply bo (hv0 w);refine IF ?_;refine eU ?_;obtain⟨sa,sc,hs,-⟩:=h.isSl;apply iI (gI l.length) w (by rw[hs];simp[go_sem]);by_cases hil:i=l.length
 ·have r:(i:Int)=(l.length:Int):=qZ;refine dY r ?_;refine kg ik ik (dB MY) h hv.rd (MS mz _) (by grind) λs3 y o3 B n3=>?_;refine hK _ _ ?_ B n3;have:l.take i++o::l.drop i=l++[o]:=by grind
  rw[this];unfold qT;rw[cE,af];exact o3
 have r:¬(i:Int)=(l.length:Int):=qZ;refine fF r ?_;obtain⟨b,c,rest,hse,hc,M,hrl,N⟩:=h.pos qZ;clear hs;subst hse;have hne:L≠b:=λe=>hd b rfl (by rw[<-e];rfl);have X:=h.1;apply ao (gI ((l.length+1:Nat):Int)) w (by simp[go_sem];rw[mR]);refine qN1 ik ?_;have A:(l.flatMap dF++rest).length=c*5:=by grind
 by_cases hroom:c<l.length+1
 ·have f:(c:Int)<(l.length:Int)+1:=qZ;refine dY f ?_;apply bo (IN ik Ax (show i<=c by omega) qZ w);apply ao (gI ((l.length+1:Nat):Int)) w (by simp[go_sem];rw[mR]);apply ao (gI ((l.length+1 - i:Nat):Int)) w (by simp only[go_sem];simp;rw[mR];omega)
  have hOi:ic w jG (4+1) (.slice (some ⟨b,0,none⟩) i c) i ((l.take i).flatMap dF):=by
   refine⟨by rw[uB dV,az,dK hi],.inr ⟨b,c,(l.flatMap dF++rest).drop (i*5),rfl,qZ,?_,?_,?_⟩⟩
   ·rw[M];congr 2
    have:(l.take i).flatMap dF=(l.flatMap dF++rest).take (i*5):=by
     rw[aO (by rw[X];omega),Ta dV]
    rw[this,cJ]
   ·grind
   ·refine bg.2 λx D=>?_;have D:=gY D;rcases bf.1 D with h1|h1
    ·exact bg.1 (MS mz l) x h1
    ·grind
  refine zL ik Tryz.underlying3 (dB MY) hOi qZ λs2 C z hz hz1 o2 m2 n2 Y=>?_;obtain⟨mF,nF⟩:=Y _ _ rfl qZ;rw[show i+(l.length+1 - i)=l.length+1 by omega]at o2;obtain⟨m,xE,a,rfl,G,U,V,R⟩:=o2.pos qZ;have T:w.heap.size<=m:=nF m rfl;have hbb:b≠m:=by grind
  apply bo (wO ik Ax qZ G qZ C);have hA:((l.take i).flatMap dF).length=i*5:=by rw[uB dV,az,dK hi]
  have hsz2:((l.take i).flatMap dF++z++a).length=xE*5:=by grind
  have hv2:Rd C 5 (.slice (some ⟨L,0,none⟩) 1 g) 1 (dF o):=by
   have:=hv.rd.mod mF d9;rw[S]at this;exact this
  apply qH (sz:=4) (k:=1) ik Ax U hv2 (by grind) (by grind) (mz o);have B:aR (λb=>b=m) C (C.setRow m (jp ((l.take i).flatMap dF++z++a) (i*5) ((dF o).take 5)).toArray):=(aR.refl (λb=>b=m) C).setRow (.inl rfl) _;have e5:(dF o).take 5=dF o:=rfl
  have H:jp ((l.take i).flatMap dF++z++a) (i*5) (dF o)=(l.take i).flatMap dF++dF o++(z++a).drop 5:=by
   unfold jp;rw[ar ((l.take i).flatMap dF) z a,<-hA,dU,dV,<-cL,da]
  have j:(C.setRow m (jp ((l.take i).flatMap dF++z++a) (i*5) ((dF o).take 5)).toArray).heap[m]? =some (.cells ((l.take i).flatMap dF++dF o++(z++a).drop 5).toArray jG (0,0)):=by
   rw[eK,ae rfl,U,e5,H]
  show jC _ _ _;rw[show((l.take i).flatMap dF++z++a).toArray.toList=(l.take i).flatMap dF++z++a from rfl,show 1*(4+1)=5 from rfl];generalize C.setRow m (jp ((l.take i).flatMap dF++z++a) (i*5) ((dF o).take 5)).toArray=y at B j|-;apply du (gI ((i+1:Nat):Int)) (λW=>by simp[go_sem];rw[mR]);apply cx (λW=>wO ik Ax (show i+1<=l.length+1 by omega) G qZ W);apply cx (λW=>wO ik Ax (show i<=l.length by omega) hc qZ W);have mD:aR (λb=>b=m) C y.drew:=B.drew;have q:y.drew.heap[m]? =some (.cells ((l.take i).flatMap dF++dF o++(z++a).drop 5).toArray jG (0,0)):=j
  have t:Rd y.drew (4+1) (.slice (some ⟨b,i*(4+1),none⟩) (l.length - i) (c - i)) (l.length - i) ((l.drop i).flatMap dF):=by
   have F:At w b 0 (l.flatMap dF):=⟨_,_,_,M,by grind,by simp⟩
   have h1:=F.sub (i*5) ((l.length - i)*5) (by rw[X];omega);rw[V5 dV,aC (by rw[uB dV,bC];exact aD _),cX]at h1;refine⟨by rw[uB dV,bC],.inr ⟨b,i*(4+1),c - i,rfl,qZ,?_⟩⟩;exact(h1.mod mF id).mod mD λe=>hbb e
  have hsz3:((l.take i).flatMap dF++dF o++(z++a).drop 5).length=xE*5:=by
   rw[af,af,hA,dV,bC,af,hz,V];omega
  apply qH (sz:=4) (k:=l.length - i) ik Ax q t (by grind) (by grind) (MS mz _);have u:((l.drop i).flatMap dF).length=(l.length - i)*5:=by rw[uB dV,bC]
  have I:jp ((l.take i).flatMap dF++dF o++(z++a).drop 5) ((i+1)*(4+1)) (((l.drop i).flatMap dF).take ((l.length - i)*(4+1)))=(l.take i++o::l.drop i).flatMap dF++a:=by
   have hAo:((l.take i).flatMap dF++dF o).length=(i+1)*(4+1):=by grind
   have e2:((l.drop i).flatMap dF).take ((l.length - i)*(4+1))=(l.drop i).flatMap dF:=aC (by grind);rw[e2];unfold jp;rw[<-hAo,dU,u,<-cL,da,cL];rw[show 5+(l.length - i)*5=z.length by rw[hz];omega,da];simp[ar]
  refine hK _ _ ⟨by grind,.inr ⟨m,xE,a,by rw[n],by rw[n];exact G,?_,by grind,R⟩⟩ ?_ λZ p=>?_
  ·rw[eK,ae rfl,q];show some (Obj.cells (jp ((l.take i).flatMap dF++dF o++(z++a).drop 5) ((i+1)*(4+1)) (((l.drop i).flatMap dF).take ((l.length - i)*(4+1)))).toArray jG (0,0))=_;rw[I]
  ·exact((mF.to).on mD λZ p=>.inr (by grind)).setRow (.inr T) _
  ·grind
 ·have f:¬(c:Int)<(l.length:Int)+1:=qZ;refine fF f ?_;apply ao (gI ((l.length+1:Nat):Int)) w (by simp[go_sem];rw[mR]);apply bo (IN ik Ax (show l.length+1<=c by omega) qZ w);apply ao (gI ((i+1:Nat):Int)) w (by simp[go_sem];rw[mR]);apply bo (wO ik Ax (show i+1<=l.length+1 by omega) qZ qZ w)
  have hov:(callFunc 363 #[.slice (some ⟨L,0,none⟩) 1 g,.slice (some ⟨b,(i+1)*(4+1),none⟩) (l.length+1 - (i+1)) (c - (i+1))]).run pQ w=.ok (.value (.bool false)) w:=by
   rw[run_callFunc_extern Tryz.func363 cV cV cV WY];rw[Lib.run_overlaps_apart w sC 4 jG ik 5 sOd ⟨L,0,none⟩ ⟨b,(i+1)*(4+1),none⟩ 1 g _ _ hne jG jG _ _ (shp J) (shp M) (by grind) (KA J _) (KA J _)];rfl
  refine⟨?_⟩;show rn pQ (callFunc 363 #[.slice (some ⟨L,0,none⟩) 1 g,.slice (some ⟨b,(i+1)*(4+1),none⟩) (l.length+1 - (i+1)) (c - (i+1))]) w _;apply uz hov;refine lh ?_;apply du (gI ((i+1:Nat):Int)) (λW=>by simp[go_sem];rw[mR]);apply cx (λW=>wO ik Ax (show i+1<=l.length+1 by omega) qZ qZ W);apply cx (λW=>wO ik Ax (show i<=l.length+1 by omega) qZ qZ W);have q:w.drew.heap[b]? =some (.cells (l.flatMap dF++rest).toArray jG (0,0)):=M;have O:5<=rest.length:=by rw[hrl];omega
  have t:Rd w.drew (4+1) (.slice (some ⟨b,i*(4+1),none⟩) (l.length+1 - i) (c - i)) (l.length+1 - i) ((l.drop i).flatMap dF++rest.take 5):=by
   have F:At w b 0 (l.flatMap dF++rest):=At.all (bT M);have h1:=F.sub (i*5) ((l.length+1 - i)*5) (by rw[A];omega);rw[dq (by rw[X];omega),V5 dV,cX]at h1
   have e1:((l.drop i).flatMap dF++rest).take ((l.length+1 - i)*5)=(l.drop i).flatMap dF++rest.take 5:=by
    have hd:((l.drop i).flatMap dF).length=(l.length - i)*5:=by rw[uB dV,bC]
    rw[show(l.length+1 - i)*5=((l.drop i).flatMap dF).length+5 by rw[hd];omega,iO]
   rw[e1]at h1;refine⟨by rw[af,uB dV,bC,az,dK O];omega,.inr ⟨b,i*(4+1),c - i,rfl,qZ,h1.keep rfl⟩⟩
  have u:((l.drop i).flatMap dF).length=(l.length - i)*5:=by rw[uB dV,bC]
  apply qH (sz:=4) (k:=l.length - i) ik Ax q t (by grind) (by rw[dv,A];omega) (by rw[eB,MS mz];exact bg.2 λx D=>bg.1 N x (bF D));have hA:((l.take i).flatMap dF).length=i*5:=by rw[uB dV,az,dK hi]
  obtain⟨d,Q,E⟩:∃d:List Value,l.flatMap dF++rest=(l.take i).flatMap dF++(d++((l.flatMap dF++rest).drop ((i+1)*5)))/\d.length=5:=by
   refine⟨((l.flatMap dF++rest).drop (i*5)).take 5,?_,by grind⟩;have e1:(l.take i).flatMap dF=(l.flatMap dF++rest).take (i*5):=by rw[aO (by rw[X];omega),Ta dV]
   rw[e1,show(i+1)*5=i*5+5 by omega,<-cL,cJ,cJ]
  have H:jp (l.flatMap dF++rest) ((i+1)*(4+1)) (((l.drop i).flatMap dF++rest.take 5).take ((l.length - i)*(4+1)))=(l.take i).flatMap dF++d++((l.drop i).flatMap dF++rest.drop 5):=by
   have e2:((l.drop i).flatMap dF++rest.take 5).take ((l.length - i)*(4+1))=(l.drop i).flatMap dF:=by
    rw[show(l.length - i)*(4+1)=((l.drop i).flatMap dF).length by rw[u],dU]
   have e3:(l.flatMap dF++rest).take ((i+1)*(4+1))=(l.take i).flatMap dF++d:=by
    rw[Q,<-ar,show(i+1)*(4+1)=((l.take i).flatMap dF++d).length by grind,dU]
   have e4:(l.flatMap dF++rest).drop ((i+1)*(4+1)+(l.length - i)*5)=rest.drop 5:=by
    rw[show(i+1)*(4+1)+(l.length - i)*5=(l.flatMap dF).length+5 by rw[X];omega,<-cL,da]
   unfold jp;rw[e2,u,e3,e4];simp[ar]
  have B:aR (aF (.slice (some ⟨b,0,none⟩) l.length c)) w (w.drew.setRow b (jp (l.flatMap dF++rest) ((i+1)*(4+1)) (((l.drop i).flatMap dF++rest.take 5).take ((l.length - i)*(4+1)))).toArray):=vz.setRow (.inl (show aF (.slice (some ⟨b,0,none⟩) l.length c) b from rfl)) _
  have j:(w.drew.setRow b (jp (l.flatMap dF++rest) ((i+1)*(4+1)) (((l.drop i).flatMap dF++rest.take 5).take ((l.length - i)*(4+1)))).toArray).heap[b]? =some (.cells ((l.take i).flatMap dF++d++((l.drop i).flatMap dF++rest.drop 5)).toArray jG (0,0)):=by
   rw[eK,ae rfl,q,H]
  rw[show(l.flatMap dF++rest).toArray.toList=l.flatMap dF++rest from rfl];generalize w.drew.setRow b (jp (l.flatMap dF++rest) ((i+1)*(4+1)) (((l.drop i).flatMap dF++rest.take 5).take ((l.length - i)*(4+1)))).toArray=y at B j|-;apply bo (wO ik Ax (show i<=l.length+1 by omega) qZ qZ y)
  have hv3:Rd y 5 (.slice (some ⟨L,0,none⟩) 1 g) 1 (dF o):=by
   have:=hv.rd.mod B λZ p hs' =>hd Z hs' p.sl;rw[S]at this;exact this
  apply qH (sz:=4) (k:=1) ik Ax j hv3 (by grind) (by grind) (mz o)
  have I:jp ((l.take i).flatMap dF++d++((l.drop i).flatMap dF++rest.drop 5)) (i*(4+1)) ((dF o).take (1*(4+1)))=(l.take i++o::l.drop i).flatMap dF++rest.drop 5:=by
   have e5:(dF o).take (1*(4+1))=dF o:=rfl;rw[e5];unfold jp;rw[dV,show i*(4+1)=((l.take i).flatMap dF).length by rw[hA],ar ((l.take i).flatMap dF) d,dU,<-cL,da,<-E,da];simp[ar]
  refine hK _ _ ⟨by rw[uB dV,n],.inr ⟨b,c,rest.drop 5,by rw[n],by rw[n];omega,?_,by grind,bg.2 λx D=>bg.1 N x (gY D)⟩⟩ (B.setRow (.inl (show aF (.slice (some ⟨b,0,none⟩) l.length c) b from rfl)) _) λZ p=>.inl p;show(y.setRow b (jp ((l.take i).flatMap dF++d++((l.drop i).flatMap dF++rest.drop 5)) (i*(4+1)) ((dF o).take (1*(4+1)))).toArray).heap[b]? =_;rw[eK,ae rfl,j,I]
def Ey(w:Wt_)(fv:Vt_)(p:Od->Bool)(l:List Od):Prop:=
 ∃g cp,fv=.func (.func g) #[] cp/\∀x∈l,∀W,M0 w W->∀K:aZ,(∀W',M0 W W' ->K (.bool (p x)) W')->Ca pQ g ⟨[.agg (dF x).toArray]++cp.toList⟩ W K
def rz{α:Type}(l:List α)(p:α->Bool):Int:=match l.findIdx? p with|some i=>(i:Int)|none=> -1
def wE{fv:Vt_}{p:Od->Bool}(h:Rd w 5 s l.length (l.flatMap dF))(U:l.length<=1000000)(L:Ey w fv p l)
  (D:∀z,M0 w z->K (gI (rz l p)) z):Ca pQ 213 #[s,fv] w K:=by
 obtain⟨g,V,rfl,y⟩:=L;refine cN Tryz.func213 ?_;obtain⟨a,c,N⟩:=h.isSl;apply iI (gI (l.length:Int)) w (by rw[N];simp[go_sem])
 refine d8 (λst W=>∃(i:Nat) (x:Vt_),i<=l.length/\st=(x,gI i,())/\M0 w W/\∀j:Nat,∀f:j<l.length,j<i->p l[j]=false)
  (λst _=>match st.2.1 with| .int _ i=>l.length - i.toNat|_=>0) ⟨0,gI 0,qZ,rfl,rZ,λj _ h=>qZ⟩ ?_
 rintro⟨_,_⟩ W ⟨i,x,T,⟨⟩,m,k⟩ R u;refine lV ?_;intro _;by_cases d:i<l.length
 ·have o:(i:Int)<(l.length:Int):=qZ;refine dY o ?_;obtain⟨b,v,J,t,E,M⟩:=(h.mod m d9).item dV d rfl;obtain⟨C,e,S,hC,n⟩:=M.get;have B:=n 0 (gQ l[i].num) rfl;have G:=n 1 (gU l[i].acct) rfl;have A:=n 2 (.bool l[i].buy) rfl;have H:=n 3 (gI l[i].price) rfl;have F:=n 4 (gI l[i].left) rfl;simp only[ey,cB]at B G A H F;apply ao (bO b (v+i*5)) W (by rw[t];simp[go_sem,d,bK]);apply ao (.agg (dF l[i]).toArray) W (by simp[go_sem,bT hC,B,G,A,H,F,dF]);simp only[eX];refine y l[i] (aq d) W m _ λQ r=>?_;cases hp:p l[i]with
  |true=>
   rw[kJ]
   have:rz l p=(i:Int):=by
    unfold rz
    have:l.findIdx? p=some i:=by
     rw[bz];refine⟨d,hp,λj f=>?_⟩;rw[k j qZ f];simp
    rw[this]
   have q:=D _ (m.trans r);rw[this]at q;exact q
  |false=>
   rw[jO];apply ao (gI ((i+1:Nat):Int)) Q (by simp[go_sem];rw[mR]);refine u _ _ ⟨i+1,_,qZ,rfl,m.trans r,λj f I=>?_⟩ (by grind);by_cases P:j=i
   ·subst P;exact hp
   ·grind
 ·obtain rfl:i=l.length:=qZ;refine eU ?_
  have:rz l p= -1:=by
   unfold rz
   have:l.findIdx? p=none:=by
    rw[dH];intro x O;obtain⟨j,f,rfl⟩:=bQ O;exact k j f f
   rw[this]
  have q:=D _ m;rw[this]at q;exact q
end Go.Proofs
namespace Go.Proofs
open Go Go.Vc
attribute [local congr] bj
variable {buy:Bool}{l:List Od}{F:NP_}{s p:Nat}{o:Od}{w W:Wt_}{K:aZ}
def Od.may(o:Od):Bool:=decide (o.num≠0)&& decide (o.acct≠0)&& aY o.price 1 MP&& aY o.left 1 1000000
def kx(o:Od):Value:=.agg (dF o).toArray
def oQ:Od:=⟨0,0,false,0,0⟩
def iG(buy:Bool)(a b:Int):Bool:=if buy then decide (b<a)else decide (a<b)
def Fy(buy:Bool)(l:List Od)(price:Int):Nat:=(l.findIdx? λx=>iG buy price x.price).getD l.length
def tB(buy:Bool)(l:List Od)(o:Od):List Od:=l.take (Fy buy l o.price)++o::l.drop (Fy buy l o.price)
def pN(buy:Bool)(l:List Od)(o:Od):Int×List Od:=
 if¬o.may\/o.buy≠buy then(2,l)else if(l.any λx=>decide (x.num=o.num))then(8,l)else if 100<=l.length then(9,l)else(0,tB buy l o)
def og(l:List Od)(n:Int):Option Od:=l.find? λx=>decide (x.num=n)
def oX(l:List Od)(n:Int):List Od:=l.eraseP λx=>decide (x.num=n)
def rh(l:List Od)(n left:Int):Int×List Od:=
 match l.findIdx? λx=>decide (x.num=n)with
 |none=>(7,l)
 |some i=>match l[i]? with
  |none=>(7,l)
  |some o=>if left<1\/o.left<left then(2,l)else(0,l.set i {o with left:=left})
def kZ(l:List Od)(n:Int):List Od:=
 match l with
 | []=>[]
 |o::r=>if o.left - n=0 then r else{o with left:=o.left - n}::r
def jr(buy:Bool)(l:List Od)(price:Int)(acct:Int):Int:=
 (((l.takeWhile λo=> !iG buy price o.price).filter λo=>decide (o.acct≠acct)).map (·.left)).sum
def ux(o:Od)(w:Wt_):∃a,(Instr.box jG (kx o)).run pQ w=.ok (bO w.heap.size 0) a/\hC a w.heap.size (dF o).toArray jG/\M0 w a:=
 ⟨w.alloc (.cells (dF o).toArray jG),rfl,by simp[go_sem],(aR.refl _ w).alloc _⟩
def vS(b:∀g,M0 w g->K (.bool o.may) g):Ca pQ 225 #[kx o] w K:=by
 refine cN Tryz.func225 ?_;obtain⟨j,h,a,i⟩:=ux o w;have b:=b _ i;apply bo h;unfold Od.may aY MP at b;unfold dF at a;refine dN a ?_;refine dN a ?_;by_cases c:o.num=0
 ·refine fF c ?_;simpa [c]using b
 refine dY c ?_;refine dN a ?_;refine dN a ?_;by_cases h1:o.acct=0
 ·refine fF h1 ?_;simpa [h1]using b
 refine dY h1 ?_;refine dN a ?_;refine dN a ?_;by_cases d:1<=o.price
 ·refine dY d ?_;refine dN a ?_;refine dN a ?_;by_cases e:o.price<=10000000
  ·refine dY e ?_;refine dN a ?_;refine dN a ?_;by_cases f:1<=o.left
   ·refine dY f ?_;refine dN a ?_;refine dN a ?_;refine dI ?_;simpa [c,h1,d,e,f]using b
   ·refine fF f ?_;simpa [c,h1,d,e,f]using b
  ·refine fF e ?_;simpa [c,h1,d,e]using b
 ·refine fF d ?_;simpa [c,h1,d]using b
structure ig(w:Wt_)(s:Nat)(F:NP_)(buy:Bool)(l:List Od):Prop where
 out:∃sl,hC w s #[.bool true,.bool buy,sl] 331/\qT w sl l/\(∀b,F b↔b=s\/aF sl b)/\¬aF sl s
 len:l.length<=100
 may:∀o∈l,o.may=true/\o.buy=buy/\o.Fit
def ig.mod{G:NP_}{w' :Wt_}(h:ig w s F buy l)(d:aR G w w')(c:∀b,F b->¬G b):ig w' s F buy l:=by
 obtain⟨⟨sl,h1,e,a,g⟩,i,j⟩:=h;exact⟨⟨sl,d.hpk h1 (c s ((a s).2 (.inl rfl))),e.mod d λb f=>c b ((a b).2 (.inr f)),a,g⟩,i,j⟩
def ig.lt(h:ig w s F buy l){b:Nat}(a:F b):b<w.heap.size:=by
 obtain⟨⟨sl,h1,c,d,f⟩,g,e⟩:=h;rcases(d b).1 a with rfl|a
 ·exact aB h1
 ·exact c.lt a
def ig.self(h:ig w s F buy l):F s:=by
 obtain⟨⟨sl,h1,c,a,d⟩,e,b⟩:=h;exact(a s).2 (.inl rfl)
def dz(s:Nat):Value:=bO s 0
def GN(c:∀s F a,ig a s F buy []->M0 w a->(∀b,F b->w.heap.size<=b)->K (dz s) a):Ca pQ 153 #[.bool buy] w K:=by
 refine cN Tryz.func153 ?_;simp[go_sem];refine c _ (λb=>b=w.heap.size) _ ⟨⟨.slice none 0 0,by simp[go_sem],ic.nil _ _ _,λb=>⟨λh=>.inl h,λh=>by rcases h with h|h;exact h;cases h⟩,λh=>by cases h⟩,by simp,λo h=>by cases h⟩ mG λb d=>by grind
def pZ(h:ig w s F buy l)(a:K (.bool true) w):Ca pQ 240 #[dz s] w K:=by
 obtain⟨⟨sl,h1,c,f,d⟩,e,b⟩:=h;unfold dz;refine cN Tryz.func240 ?_;refine lh ?_;simp only[bU];refine dN h1 ?_;refine dN h1 ?_;exact a
def CC{x y:Int}(h:ig w s F buy l)(a:K (.bool (iG buy x y)) w):Ca pQ 280 #[dz s,gI x,gI y] w K:=by
 obtain⟨⟨sl,h1,b,e,c⟩,d,f⟩:=h;unfold dz;refine cN Tryz.func280 ?_;simp only[bU];refine dN h1 ?_;refine dN h1 ?_;unfold iG at a;cases buy with
 |true=>
  rw[kJ];refine dI ?_;simpa using a
 |false=>
  rw[jO];refine dI ?_;simpa using a
def RM{n:Int}(h:ig w s F buy l)
  (o:∀g,M0 w g->K (gI (rz l λx=>decide (x.num=n))) g):Ca pQ 321 #[dz s,gQ n] w K:=by
 obtain⟨⟨sl,h1,m,z,v⟩,y,B⟩:=h;unfold dz;refine cN Tryz.func321 ?_;have c:M0 w (w.alloc (.cells #[.int .u64 n] 37)):=mG;obtain⟨p,b⟩:=di w.heap.size;apply ao (bO p 0) (w.alloc (.cells #[.int .u64 n] 37)) (by rw[b];simp[go_sem]);have f:hC (w.alloc (.cells #[.int .u64 n] 37)) p #[.int .u64 n] 37:=by rw[b];simp[go_sem]
 generalize w.alloc (.cells #[.int .u64 n] 37)=u at c f|-;have a:=c.hpk h1 id;simp only[bU];refine dN a ?_;refine dN a ?_;refine wE (m.mod c d9).rd qZ ⟨_,_,rfl,λx A W j D e=>?_⟩ λC k=>o _ (c.trans k);refine cN Tryz.func362 ?_;obtain⟨q,t,d,i⟩:=ux x W;apply bo t;unfold dF at d;have r:=i.hpk (j.hpk f id) id;refine dN d ?_;refine dN d ?_;refine dN r ?_;apply ao (.bool (decide (x.num=n))) q (by simp[go_sem];rw[dh];simp);exact e _ i
def vk{α:Type}{l:List α}{p:α->Bool}{i:Nat}(h:l.findIdx? p=some i):∃a:i<l.length,p l[i]=true/\l.find? p=some l[i]/\rz l p=(i:Int):=by
 obtain⟨a,h1,c⟩:=bz.1 h;refine⟨a,h1,?_,by unfold rz;rw[h]⟩;rw[dP];exact⟨h1,i,a,rfl,λj b=>by simpa using c j b⟩
def xk{α:Type}{l:List α}{p:α->Bool}(h:l.findIdx? p=none):l.find? p=none/\rz l p= -1:=by
 refine⟨?_,by unfold rz;rw[h]⟩;rw[dH]at h;rw[dZ];exact λx a=>by rw[h x a];simp
def QB{n:Int}(h:ig w s F buy l)
  (a:∀c,M0 w c->K (.tuple #[.int .i64 ((l.findIdx? λx=>decide (x.num=n)).getD 0:Nat),gI (if(l.findIdx? λx=>decide (x.num=n)).isSome then 0 else 7)]) c):Ca pQ 310 #[dz s,gQ n] w K:=by
 unfold dz;refine cN Tryz.func310 ?_;apply pZ h;refine eU ?_;refine RM h λf d=>?_;have a:=a _ d;cases b:l.findIdx? λx=>decide (x.num=n)with
 |none=>
  rw[b]at a;rw[(xk b).2];refine eU ?_;simpa using a
 |some i=>
  rw[b]at a;obtain⟨_,_,_,e⟩:=vk b;rw[e];refine lh ?_;simpa using a
def Zg{off:Nat}{C:Array Value}{T:TypeId}(h:hC W p C T)(hs:off+5<=C.size):
  (iS jG (bO p off) (kx o)).run pQ W=.ok () (W.setRow p (jp C.toList off (dF o)).toArray):=by
 have h1:=vu (P:=pQ) (t:=jG) (w:=W) (b:=p) (off:=off) (cs:=dF o) (n:=4) Ax rfl h hs (mz o);exact h1
def lE{off:Nat}(h:At W p off (dF o)):(iL jG (bO p off)).run pQ W=.ok (kx o) W:=
 jh (P:=pQ) (t:=jG) cV Ax rfl h
def jY(w:Wt_):∃a,(iA jG true (.tuple #[])).run pQ w=.ok (bO w.heap.size 0) a/\hC a w.heap.size (dF oQ).toArray jG/\M0 w a:=
 ⟨w.alloc (.cells (dF oQ).toArray jG),by simp[go_sem,dF,oQ],by simp[go_sem],(aR.refl _ w).alloc _⟩
def jE{o' :Od}{T:TypeId}(h:hC W p (dF o).toArray T):
  ∃a,(iS jG (bO p 0) (kx o')).run pQ W=.ok () a/\hC a p (dF o').toArray T/\aR (λb=>b=p) W a:=by
 refine⟨_,Zg h (aD _),?_,(aR.refl (λb=>b=p) W).setRow (.inl rfl) _⟩;show(W.setRow p _).heap[p]? =_;have c:W.heap[p]? =some (.cells (dF o).toArray T (0,0)):=h;rw[eK,ae rfl,c,lF (by rfl)]
end Go.Proofs
