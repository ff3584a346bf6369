/- Part of a proof. -/
import Derived.Lib.Overlaps
import Derived.Test.YtekbnpagidkbbaaGreatQ6
set_option linter.all false
set_option maxRecDepth 100000
set_option maxHeartbeats 1000000
namespace Go.Proofs
open Go Go.Vc
attribute [local congr] aZ
variable {i:Nat}{w:Wt_}{K:aY}
abbrev eP(n:Int):Prop:= -9223372036854775808<=n/\n<9223372036854775808
abbrev kV(n:Int):Prop:=0<=n/\n<4294967296
abbrev OY(n:Int):Prop:=0<=n/\n<18446744073709551616
structure Sp where
 num:Int
 route:Int
 tick:Int
 lot:Int
 band:Int
 limit:Int
 shifts:Vector Int 16
 credit:Int
 last:Int
 first:Int
 deriving DecidableEq
def Sp.Fit(s:Sp):Prop:=kV s.num/\(0<=s.route/\s.route<256)/\eP s.tick/\eP s.lot/\eP s.band/\eP s.limit/\(∀x∈s.shifts.toList,eP x)/\eP s.credit/\kV s.last/\eP s.first
def uy(s:Vector Int 16):List Value:=s.toList.map λn=>gI n
def fC(s:Sp):List Value:=[.int .u32 s.num,gB s.route,gI s.tick,gI s.lot,gI s.band,gI s.limit]++(uy s.shifts++[.int .i64 s.credit,gU s.last,gI s.first])
def nG(s:Vector Int 16):(uy s).length=16:=by simp[uy]
def bG(s:Sp):(fC s).length=25:=by simp[fC,nG]
def tm(s:Sp):(fC s).all (·.oneCell')=true:=by simp[fC,uy,Value.oneCell']
def uG(s:Sp):((fC s).drop 6).take 16=uy s.shifts:=by
 simp only[fC];rw[dc (by simp)];simp only[List.drop_succ_cons,List.drop_nil,eT,eX];rw[aN (by rw[nG];omega),aC (by rw[nG];omega)]
def spG{s:Sp}{a:LV_}(hi:i<3):(fC s++a)[22+i]? =([.int .i64 s.credit,gU s.last,gI s.first]:LV_)[i]? :=by
 rw[cn (by rw[bG];omega)];simp only[fC];rw[bH (by simp;omega)];rw[bH (by rw[nG];simp;omega)];congr 1;rw[nG];simp;omega
def aa2(s:Sp)(a:LV_):(fC s++a)[0]? =some (gU s.num):=rfl
def ag6(s:Sp)(a:LV_):(fC s++a)[1]? =some (gB s.route):=rfl
def ac6(s:Sp)(a:LV_):(fC s++a)[2]? =some (gI s.tick):=rfl
def ad2(s:Sp)(a:LV_):(fC s++a)[3]? =some (gI s.lot):=rfl
def ab8(s:Sp)(a:LV_):(fC s++a)[4]? =some (gI s.band):=rfl
def aa8(s:Sp)(a:LV_):(fC s++a)[5]? =some (gI s.limit):=rfl
def UO(s:Sp)(a:LV_):(fC s++a)[22]? =some (gI s.credit):=spG (i:=0) qZ
def ZB(s:Sp)(a:LV_):(fC s++a)[23]? =some (gU s.last):=spG (i:=1) qZ
def U1(s:Sp)(a:LV_):(fC s++a)[24]? =some (gI s.first):=spG (i:=2) qZ
def zX(tick n:Int):Bool:=aW n 1 MP&& decide (n.tmod tick=0)
def uF(l:List Int):Bool:=l.all λx=>aW x (-MP) MP
def Sp.may(s:Sp):Bool:=
 uF s.shifts.toList&& s.shifts.toList.any (λx=>decide (0<x))&& s.shifts.toList.any (λx=>decide (x<0))&& decide (s.num≠0)&& aW s.route 1 8&& aW s.tick 1 MP&& aW s.lot 1 1000000&& aW s.band 0 MP&& aW s.limit 1 MP&& aW s.credit 0 MP&& zX s.tick s.first
def Sp.isPrice(s:Sp)(n:Int):Bool:=s.may&& zX s.tick n
def Sp.isQty(s:Sp)(n:Int):Bool:=s.may&& (aW n 1 1000000&& decide (n.tmod s.lot=0))
def Sp.inBand(s:Sp)(at_ n:Int):Bool:=s.may&& (decide (eP (n - at_))&& aW (n - at_) (-s.band) s.band)
def l9{n lo hi:Int}(a:K (.bool (aW n lo hi)) w):Ca pQ 195 #[.int .i64 n,gI lo,gI hi] w K:=by
 refine cN Tryz.func195 ?_;unfold aW at a;by_cases h:lo<=n
 ·simp[go_sem,h]at a|-;exact a
 ·simp[go_sem,h]at a|-;exact a
def Cg{tick n:Int}(d:0<tick)(a:K (.bool (zX tick n)) w):Ca pQ 196 #[.int .i64 tick,gI n] w K:=by
 refine cN Tryz.func196 ?_;apply l9;unfold zX MP at a;have b:¬tick=0:=qZ;cases h:aW n 1 10000000 with
 |false=>
  rw[h]at a;simpa using a
 |true=>
  rw[h]at a;have j:=bF h;simp[go_sem,b]at a|-
  have e:IntKind.i64.wrap (n.tmod tick)=n.tmod tick:=by
   have h1:=Int.emod_nonneg n b;have g:=Int.emod_lt_of_pos n d;have f:n.tmod tick=n%tick:=gj qZ
   have i:n%tick<=n:=by
    by_cases c:n<tick
    ·rw[Int.emod_eq_of_lt qZ c];omega
    ·omega
   rw[f,lL]
  first
   |exact a
   |(rw[e];exact a)
   |(simpa [e]using a)
def uSh:Tryz.prog.underlying 46=some (.array 16 2):=cy
def Xf:lI pQ 46=true:=cy
def Xg:Tryz.prog.cellsOf 46=15+1:=cy
def Wm:lI pQ 2=false:=cy
def Vd:(Tryz.prog.underlying 2).isSome=true:=cy
def Wn:Tryz.prog.cellsOf 2=0+1:=cy
def zF:lI pQ 48=true:=cy
def xG:Tryz.prog.cellsOf 48=24+1:=cy
def Dg(s:Vector Int 16)(i:Nat)(h:i<16):(uy s).toArray[i]? =some (gI s.toList[i]!):=by
 have a:s.toList.length=16:=by simp
 simp[uy,aq,a,h]
def PZ{l:List Int}{p:Int->Bool}(h:i<l.length):(l.take (i+1)).all p=((l.take i).all p&& p l[i]!):=by
 rw[fP,aq h,ek];simp[h]
def EC{l:List Int}{p:Int->Bool}(h:i<l.length):(l.take (i+1)).any p=((l.take i).any p||p l[i]!):=by
 rw[fP,aq h,List.any_append];simp[h]
def sg{s:Sp}(hf:s.Fit)(X:∀F,M0 w F->K (.bool s.may) F):Ca pQ 131 #[.agg (fC s).toArray] w K:=by
 refine cN Tryz.func131 ?_;obtain⟨p,o⟩:=df w.heap.size;have O:M0 w (w.alloc (.cells (fC s).toArray 48)):=kU;apply ax (bO p 0) (w.alloc (.cells (fC s).toArray 48)) (by rw[o];rfl);have d:hC (w.alloc (.cells (fC s).toArray 48)) p (fC s).toArray 48:=by rw[o];simp[go_sem]
 generalize w.alloc (.cells (fC s).toArray 48)=A at O d|-;refine dq ?_
 have Y:At A p 6 (uy s.shifts):=by
  have D:At A p 0 (fC s):=⟨_,_,_,d,by simp,by simp⟩
  have:=D.sub 6 16 (by rw[bG];omega);rw[uG]at this;simpa using this
 apply fX (uy s.shifts) 15 Xf Xg (nG _) Y;have hl:s.shifts.toList.length=16:=by simp
 obtain⟨f1,f2,f3,f4,f5,f6,V,f8,f9,U⟩:=hf;have a:∀i:Nat,(fC s)[i]? =(fC s++[])[i]? :=λi=>by grind
 refine d8 (λst W=>∃(i:Nat) (x:Vt_),i<=16/\st=(x,.bool ((s.shifts.toList.take i).any λx=>decide (0<x)),.bool ((s.shifts.toList.take i).any λx=>decide (x<0)),gI i,())/\W=A/\uF (s.shifts.toList.take i)=true)
  (λst _=>match st.2.2.2.1 with| .int _ i=>16 - i.toNat|_=>0) ⟨0,.bool false,qZ,rfl,rfl,rfl⟩ ?_
 rintro⟨_,_⟩ W ⟨i,x,hi,⟨⟩,rfl,g⟩ T C;refine lE ?_;intro _;by_cases k:i<16
 ·have l:(i:Int)<16:=qZ;have f:i<s.shifts.toList.length:=qZ
  have hx:eP s.shifts.toList[i]! :=by
   rw[fT s.shifts.toList i f];exact V _ (av f)
  refine dB l ?_;apply ax (gI s.shifts.toList[i]!) W (rP uSh Wm Vd Wn k (Dg _ i k));generalize N:s.shifts.toList[i]! =y at*;apply gF hx qZ;have Z:IntKind.i64.wrap ((i:Int)+1)=((i+1:Nat):Int):=by rw[lL];omega
  refine dq ?_;cases G:aW y (-10000000) 10000000 with
  |false=>
   rw[aw,ae (show(!false)=true from rfl)]
   have:s.may=false:=by
    have h1:uF s.shifts.toList=false:=by
     rw[ez];intro hc;have:=(bf.1 hc) y (by grind);unfold MP at this;rw[G]at this;cases this
    unfold Sp.may;rw[h1];simp
   have e:=X _ O;rw[this]at e;exact e
  |true=>
   rw[aw,aa (by simp)]
   have j:uF (s.shifts.toList.take (i+1))=true:=by
    unfold uF;rw[PZ f,N];show(uF _&& _)=true;rw[g];simpa [MP]using G
   have nxt:∀(z:Vt_),T (z,.bool ((s.shifts.toList.take (i+1)).any λx=>decide (0<x)),.bool ((s.shifts.toList.take (i+1)).any λx=>decide (x<0)),gI ((i+1:Nat):Int),()) W:=λz=>
    C _ _ ⟨i+1,z,qZ,rfl,rfl,j⟩ (by grind)
   rw[EC f,EC f,N]at nxt;cases u:(s.shifts.toList.take i).any λx=>decide (0<x)<;>cases r:(s.shifts.toList.take i).any λx=>decide (x<0)
   all_goals
    rw[u,r]at nxt;simp only[aw,bj,da,cZ];simp[-Int.natCast_add,go_sem,Z];simpa using nxt _
 ·obtain rfl:i=16:=qZ;rw[aC qZ]at g;rw[aC qZ];refine eK ?_;have c:∀b:Bool,b=s.may->K (.bool b) W:=λb h=>by grind
  unfold Sp.may at c;rw[g]at c;cases u:s.shifts.toList.any λx=>decide (0<x)with
  |false=>
   rw[ij];apply c _;rw[u];simp
  |true=>
   rw[u]at c;rw[jV];cases r:s.shifts.toList.any λx=>decide (x<0)with
   |false=>
    rw[ij];apply c _;rw[r];simp
   |true=>
    rw[r]at c;rw[jV];have I:(fC s).toArray[0]? =some (gU s.num):=by rw[cQ,a];exact aa2 s []
    have M:(fC s).toArray[1]? =some (gB s.route):=by rw[cQ,a];exact ag6 s []
    have t:(fC s).toArray[2]? =some (gI s.tick):=by rw[cQ,a];exact ac6 s []
    have S:(fC s).toArray[3]? =some (gI s.lot):=by rw[cQ,a];exact ad2 s []
    have L:(fC s).toArray[4]? =some (gI s.band):=by rw[cQ,a];exact ab8 s []
    have R:(fC s).toArray[5]? =some (gI s.limit):=by rw[cQ,a];exact aa8 s []
    have q:(fC s).toArray[22]? =some (gI s.credit):=by rw[cQ,a];exact UO s []
    have m:(fC s).toArray[24]? =some (gI s.first):=by rw[cQ,a];exact U1 s []
    refine mK d I ?_;refine mK d I ?_;by_cases v:s.num=0
    ·refine ey v ?_;refine c _ (by simp[v])
    have E:decide (s.num≠0)=true:=by simpa using v
    rw[E]at c;refine dB v ?_;refine mK d M ?_;refine mK d M ?_;refine dE (fI (n:=s.route) qZ qZ) ?_;apply l9;cases h1:aW s.route 1 8 with
    |false=>rw[ij];exact c _ (by rw[h1];simp)
    |true=>
    rw[h1]at c;rw[jV];refine mK d t ?_;refine mK d t ?_;apply l9;unfold MP at c;cases B:aW s.tick 1 10000000 with
    |false=>rw[ij];exact c _ (by rw[B];simp)
    |true=>
    rw[B]at c;rw[jV];refine mK d S ?_;refine mK d S ?_;apply l9;cases P:aW s.lot 1 1000000 with
    |false=>rw[ij];exact c _ (by rw[P];simp)
    |true=>
    rw[P]at c;rw[jV];refine mK d L ?_;refine mK d L ?_;apply l9;cases H:aW s.band 0 10000000 with
    |false=>rw[ij];exact c _ (by rw[H];simp)
    |true=>
    rw[H]at c;rw[jV];refine mK d R ?_;refine mK d R ?_;apply l9;cases J:aW s.limit 1 10000000 with
    |false=>rw[ij];exact c _ (by rw[J];simp)
    |true=>
    rw[J]at c;rw[jV];refine mK d q ?_;refine mK d q ?_;apply l9;cases Q:aW s.credit 0 10000000 with
    |false=>rw[ij];exact c _ (by rw[Q];simp)
    |true=>
    rw[Q]at c;rw[jV];refine mK d t ?_;refine mK d t ?_;refine mK d m ?_;refine mK d m ?_;have ht:=bF B;apply Cg qZ;exact c _ (by simp)
end Go.Proofs
set_option maxRecDepth 100000
set_option maxHeartbeats 1000000
namespace Go.Proofs
open Go Go.Vc
attribute [local congr] aZ
variable {n:Int}{s:Sp}{w:Wt_}{K:aY}
def O5(s:Sp):(fC s)[0]? =some (gU s.num):=rfl
def ab1(s:Sp):(fC s)[2]? =some (gI s.tick):=rfl
def af1(s:Sp):(fC s)[3]? =some (gI s.lot):=rfl
def ac2(s:Sp):(fC s)[4]? =some (gI s.band):=rfl
def CQ(s:Sp)(w:Wt_):∃a,(Instr.box 48 (.agg (fC s).toArray)).run pQ w=.ok (bO w.heap.size 0) a/\hC a w.heap.size (fC s).toArray 48/\M0 w a:=
 ⟨w.alloc (.cells (fC s).toArray 48),rfl,by simp[go_sem],(aS.refl _ w).alloc _⟩
def At.all{b:Nat}{l:LV_}{T:TypeId}{a:Nat×Nat}(h:hp w b=some (.cells l.toArray T a)):At w b 0 l:=⟨_,_,_,h,by simp,by simp⟩
def Sp.may_tick(h:s.may=true):1<=s.tick/\1<=s.lot/\0<=s.band/\1<=s.limit/\s.limit<=10000000/\s.band<=10000000/\s.lot<=1000000/\s.tick<=10000000:=by
 unfold Sp.may aW MP at h;simp only[ao,aX]at h;omega
def pH(h:s.Fit)(a:∀e,M0 w e->K (.bool (s.isPrice n)) e):Ca pQ 147 #[.agg (fC s).toArray,gI n] w K:=by
 refine cN Tryz.func147 ?_;obtain⟨j,i,d,g⟩:=CQ s w;apply bh i;apply fX (fC s) 24 zF xG (bG s) (At.all d);refine sg h λk c=>?_;have f:=c.hpk d id;unfold Sp.isPrice at a;cases b:s.may with
 |false=>
  rw[b]at a;rw[ij];exact a _ (g.trans c)
 |true=>
  rw[b]at a;rw[jV];refine dE f ?_;refine mK f ab1 ?_;apply Cg (by have:=Sp.may_tick b;omega);exact a _ (g.trans c)
def Gy(l:s.Fit)(a:∀i,M0 w i->K (.bool (s.isQty n)) i):Ca pQ 226 #[.agg (fC s).toArray,gI n] w K:=by
 refine cN Tryz.func226 ?_;obtain⟨r,o,g,c⟩:=CQ s w;apply bh o;apply fX (fC s) 24 zF xG (bG s) (At.all g);refine sg l λq b=>?_;have k:=b.hpk g id;unfold Sp.isQty at a;cases f:s.may with
 |false=>
  rw[f]at a;rw[ij];exact a _ (c.trans b)
 |true=>
  rw[f]at a;rw[jV];apply l9;have h:=Sp.may_tick f;have j:¬s.lot=0:=qZ;cases d:aW n 1 1000000 with
  |false=>
   rw[d]at a;rw[ij];exact a _ (c.trans b)
  |true=>
   rw[d]at a;have p:=bF d;rw[jV];refine dE k ?_;refine mK k af1 ?_
   have e:IntKind.i64.wrap (n.tmod s.lot)=n.tmod s.lot:=by
    have h1:=Int.emod_nonneg n j;have t:=Int.emod_lt_of_pos n (show 0<s.lot by omega);have m:n.tmod s.lot=n%s.lot:=gj qZ;rw[m,lL]
   refine mK j e ?_;apply ax (.bool (decide (n.tmod s.lot=0))) q (by simp[go_sem];rw[dr];simp);have:=a _ (c.trans b);simpa using this
def Wa{a b:Int}(l:eP a)(k:eP b)(h:K (.tuple #[.int .i64 (if eP (a - b)then a - b else 0),gI (if eP (a - b)then 0 else 6)]) w):Ca pQ 360 #[.int .i64 a,gI b] w K:=by
 refine cN Tryz.func360 ?_;obtain⟨c,i⟩:=df (IntKind.i64.wrap (a - b));apply ax (gI c) w (by rw[i];simp[go_sem]);rw[bU]at i;refine cG.at (λst W=>st=(.bool (decide (¬eP (a - b))),())/\W=w) ?_ ?_
 ·by_cases h1:0<=a
  ·refine dB h1 ?_;have d:¬a<0:=qZ;by_cases f:b<0
   ·refine dB f ?_;by_cases j:c<0
    ·refine dB j ?_;refine⟨?_,rfl⟩;rw[aQ (by unfold eP;omega)]
    ·refine ey j ?_;refine ey d ?_;refine⟨?_,rfl⟩;rw[br (by unfold eP;omega)]
   ·refine ey f ?_;refine ey d ?_;refine⟨?_,rfl⟩;rw[br (by unfold eP;omega)]
  ·refine ey h1 ?_;have d:a<0:=qZ;refine dB d ?_;by_cases f:0<=b
   ·refine dB f ?_;refine dq ?_;refine⟨?_,rfl⟩;have e:decide (0<=c)=decide (¬eP (a - b)):=by grind
    rw[e]
   ·refine ey f ?_;refine⟨?_,rfl⟩;rw[br (by unfold eP;omega)]
 rintro _ w ⟨rfl,rfl⟩;refine jG ?_;intro _;by_cases g:eP (a - b)
 ·rw[ae g,ae g]at h;rw[aw,aa (by simpa using g)];rw[i,show(a - b+9223372036854775808)%18446744073709551616 - 9223372036854775808=a - b by grind];exact h
 ·rw[aa g,aa g]at h;rw[aw,ae (by grind)];exact h
def L5{at_:Int}(i:s.Fit)(l:eP at_)(j:eP n)(a:∀g,M0 w g->K (.bool (s.inBand at_ n)) g):Ca pQ 313 #[.agg (fC s).toArray,gI at_,gI n] w K:=by
 refine cN Tryz.func313 ?_;obtain⟨m,k,f,d⟩:=CQ s w;apply bh k;apply Wa j l;refine dq ?_;refine dq ?_;apply fX (fC s) 24 zF xG (bG s) (At.all f);refine sg i λp c=>?_;have h:=c.hpk f id;unfold Sp.inBand at a;cases e:s.may with
 |false=>
  rw[e]at a;rw[ij];exact a _ (d.trans c)
 |true=>
  rw[e]at a;rw[jV];have o:=Sp.may_tick e;by_cases b:eP (n - at_)
  ·rw[aQ b]at a;rw[ae b,ae b];refine jZ ?_;refine dE h ?_;refine mK h ac2 ?_;apply gF b qZ;exact a _ (d.trans c)
  ·rw[br b]at a;rw[aa b,aa b];refine eK ?_;exact a _ (d.trans c)
structure Ct where
 spec:Sp
 st:Int
 price:Int
 deriving DecidableEq
def Ct.Fit(k:Ct):Prop:=k.spec.Fit/\(0<=k.st/\k.st<256)/\eP k.price
def dD(k:Ct):List Value:=fC k.spec++[.int .u8 k.st,gI k.price]
def bV(k:Ct):(dD k).length=27:=by simp[dD,bG]
def lV(k:Ct):(dD k).all (·.oneCell')=true:=by
 rw[dD,ek,tm];rfl
def UY(k:Ct)(a:LV_):(dD k++a)[25]? =some (gB k.st):=by
 rw[cn (by rw[bV];omega),dD,bH (by rw[bG];omega),bG];rfl
def Uz(k:Ct)(a:LV_):(dD k++a)[26]? =some (gI k.price):=by
 rw[cn (by rw[bV];omega),dD,bH (by rw[bG];omega),bG];rfl
structure Gt where
 k:Ct
 a:Ac
 q:Int
 buys:Int
 sells:Int
 buy:Bool
 price:Int
 qty:Int
def x9(g:Gt):List Value:=dD g.k++(db g.a++[.int .i64 g.q,gI g.buys,gI g.sells,.bool g.buy,gI g.price,gI g.qty])
def wB(g:Gt):(x9 g).length=37:=by simp[x9,bV,db]
def Uk(g:Gt)(i:Nat)(h:i<10):(x9 g)[27+i]? =(db g.a++[.int .i64 g.q,gI g.buys,gI g.sells,.bool g.buy,gI g.price,gI g.qty])[i]? :=by
 rw[x9,bH (by rw[bV];omega),bV,fS]
def gt5(g:Gt):(x9 g)[5]? =some (gI g.k.spec.limit):=rfl
def WZ(g:Gt):(x9 g)[25]? =some (gB g.k.st):=UY _ _
def Y5(g:Gt):(x9 g)[26]? =some (gI g.k.price):=Uz _ _
def ag5(g:Gt):(x9 g)[29]? =some (.bool g.a.kil):=Uk g 2 qZ
def ac0(g:Gt):(x9 g)[30]? =some (.bool g.a.dfl):=Uk g 3 qZ
def V8(g:Gt):(x9 g)[31]? =some (gI g.q):=Uk g 4 qZ
def XU(g:Gt):(x9 g)[32]? =some (gI g.buys):=Uk g 5 qZ
def Y7(g:Gt):(x9 g)[33]? =some (gI g.sells):=Uk g 6 qZ
def ae6(g:Gt):(x9 g)[34]? =some (.bool g.buy):=Uk g 7 qZ
def YA(g:Gt):(x9 g)[35]? =some (gI g.price):=Uk g 8 qZ
def Wo(g:Gt):(x9 g)[36]? =some (gI g.qty):=Uk g 9 qZ
def Gt.far(g:Gt):Bool:=if g.buy then decide (g.k.spec.limit<g.q+g.buys+g.qty)else decide (g.q - g.sells - g.qty< -g.k.spec.limit)
def Gt.check(g:Gt):Int:=
 if g.a.dfl then 120 else if g.a.kil then 121 else if g.k.st=3 then 50 else if g.k.st=2 then 122
 else if g.k.st≠1\/¬g.k.spec.isPrice g.k.price\/¬aW g.buys 0 1000000000\/¬aW g.sells 0 1000000000\/¬aW g.q (-MP) MP then 2
 else if¬g.k.spec.isQty g.qty then 123 else if¬g.k.spec.isPrice g.price then 52 else if¬g.k.spec.inBand g.k.price g.price then 124 else if g.far then 125 else 0
def Gt.Fit(g:Gt):Prop:=g.k.Fit/\eP g.q/\eP g.buys/\eP g.sells/\eP g.price/\eP g.qty
def aGt:lI pQ 380=true:=cy
def nGt:Tryz.prog.cellsOf 380=36+1:=cy
def UG(g:Gt)(w:Wt_):∃a,(Instr.box 380 (.agg (x9 g).toArray)).run pQ w=.ok (bO w.heap.size 0) a/\hC a w.heap.size (x9 g).toArray 380/\M0 w a:=
 ⟨w.alloc (.cells (x9 g).toArray 380),rfl,by simp[go_sem],(aS.refl _ w).alloc _⟩
def G8(a:K (.bool (aW n 0 1000000000)) w):Ca pQ 312 #[.int .i64 n] w K:=by
 refine cN Tryz.func312 ?_;unfold aW at a;by_cases h:0<=n
 ·simp[go_sem,h]at a|-;exact a
 ·simp[go_sem,h]at a|-;exact a
def RH{g:Gt}(h1:aW g.q (-MP) MP=true)(d:aW g.buys 0 1000000000=true)(f:aW g.sells 0 1000000000=true)(e:aW g.qty 1 1000000=true)(l:1<=g.k.spec.limit/\g.k.spec.limit<=10000000)
  (b:∀c,M0 w c->K (.bool g.far) c):Ca pQ 314 #[.agg (x9 g).toArray] w K:=by
 refine cN Tryz.func314 ?_;have h1:=bF h1;have d:=bF d;have f:=bF f;have e:=bF e;unfold MP at h1;obtain⟨k,i,a,j⟩:=UG g w;have b:=b _ j;unfold Gt.far at b;apply bh i;refine dE a ?_;refine mK a ae6 ?_;cases h:g.buy with
 |true=>
  rw[h,ae rfl]at b;rw[jV];refine dE a ?_;refine mK a V8 ?_;refine dE a ?_;refine mK a XU ?_;refine dE (fI (n:=g.q+g.buys) qZ qZ) ?_;refine dE a ?_;refine mK a Wo ?_;refine dE (fI (n:=g.q+g.buys+g.qty) qZ qZ) ?_;refine dE a ?_;refine dE a ?_;refine dE a ?_;refine mK a gt5 ?_;refine dq ?_;exact b
 |false=>
  rw[h,aa dw]at b;rw[ij];refine dE a ?_;refine mK a V8 ?_;refine dE a ?_;refine mK a Y7 ?_;refine dE (fI (n:=g.q - g.sells) qZ qZ) ?_;refine dE a ?_;refine mK a Wo ?_;refine dE (fI (n:=g.q - g.sells - g.qty) qZ qZ) ?_;refine dE a ?_;refine dE a ?_;refine dE a ?_;refine mK a gt5 ?_;refine dE (fI (n:= -g.k.spec.limit) qZ qZ) ?_;refine dq ?_;exact b
end Go.Proofs
namespace Go.Vc
open Go Go.Vc
end Go.Vc
namespace Go.Vc
open Go Go.Vc
variable {kh kl:IntKind}{sz b n cap hi lo:Nat}{P:Program}{t ty e:TypeId}{w:Wt_}{K:aY}
def Ed{u s:TypeId}{off m:Nat}{C:Array Value}{T:TypeId}{x:Vt_}{a:LV_}
  (p:P.underlying t=some (.slice e))(v:P.underlying u=some (.slice s))(z:P.cellsOf e=sz+1)(q:w.heap[b]? =some (.cells C T (0,0)))(c:n+m<=cap)
  (j:Rd w (sz+1) x m a)(h1:a.all (·.oneCell')=true)(l:off+(n+m)*(sz+1)<=C.size)
  (r:K (.slice (some ⟨b,off,none⟩) (n+m) cap) (w.setRow b (iC C.toList (off+n*(sz+1)) a).toArray)):rx P (eZ #[t,u] ty [.slice (some ⟨b,off,none⟩) n cap,x]) w K:=by
 obtain⟨i,y,g⟩:=pU (n:=sz) z;have k:a.length=m*(sz+1):=j.1;have h:=j.first (P:=P) (lB _);have d:=run_storeCells_at P b (off+n*(sz+1)) T a 0 C w q (by grind) (pE h1);simp only[cx]at d;refine oI (.slice (some ⟨b,off,none⟩) (n+m) cap) (w.setRow b (iC C.toList (off+n*(sz+1)) a).toArray) ?_ r;have o:(⟨b,off,none⟩:Addr).add (n*(sz+1))=⟨b,off+n*(sz+1),none⟩:=by rw[bD]
 unfold iC;simp[eZ,Builtin.append_,aO p,sizeOf,typeInfo,y,g,aO v,j.lenOf,Result.andThen,h,c];rw[o,d];simp[aH]
def pY{C sT:TypeId}{g o j r d k:Nat}{q:Vt_}{all:LV_}{l:Array Value}
  (J:P.underlying C=some (.slice e))(hs:P.cellsOf e=sz+1)(E:w.heap[g]? =some (.cells l t (0,0)))(m:Rd w (sz+1) q d all)(A:k=Nat.min d j)
  (B:o+k*(sz+1)<=l.size)(h1:all.all (·.oneCell')=true)(G:K (gI k) (w.setRow g (iC l.toList o (all.take (k*(sz+1)))).toArray)):
  rx P (JO #[C,sT] ty [.slice (some ⟨g,o,none⟩) j r,q]) w K:=by
 obtain⟨i,L,y⟩:=pU (n:=sz) hs;have O:all.length=d*(sz+1):=m.1;have u:k<=d:=by grind
 have D:k*(sz+1)<=d*(sz+1):=cF _ u;have s:(all.take (k*(sz+1))).length=k*(sz+1):=by grind
 have z:∀v∈all.take (k*(sz+1)),v.oneCell' =true:=λv M=>pE h1 v (cE M);have p:=run_storeCells_at P g o t (all.take (k*(sz+1))) 0 l w E (by grind) z;simp only[cx]at p
 have h:(Builtin.firstCells (sz+1) k q).run P w=.ok (all.take (k*(sz+1))).toArray w:=by
  obtain⟨_,⟨N,a,c,rfl⟩|⟨b,H,F,rfl,Q,I⟩⟩:=m
  ·have x:k=0:=qZ;subst x;cases a<;>simp[Builtin.firstCells,loadCells,loadCellsFrom]
  ·have:=(I.sub 0 (k*(sz+1)) qZ).loads (P:=P);simp only[eT,cx,s]at this;simpa [Builtin.firstCells]using this
 refine oI (goInt (Nat.min d j)) (w.setRow g (iC l.toList o (all.take (k*(sz+1)))).toArray) ?_ (by rw[<-A];exact G);rw[A]at h p|-;simp[JO,Builtin.copy_,aO J,m.lenOf,sizeOf,typeInfo,L,y,Result.andThen,h,p,iC]
def Ck{g o c:Nat}{a:Array Value}{T:TypeId}{by_:Nat}(l:P.underlying t=some (.slice e))(x:vi P e (sz+1) by_)
  (p:w.heap[g]? =some (.cells a T (0,0)))(r:o+n*(sz+1)<=a.size)
  (d:∀z:List Value,z.length=n*(sz+1)->z.all (·.oneCell')=true->K (.tuple #[]) (w.setRow g (iC a.toList o z).toArray)):
  rx P (zT #[t] ty [.slice (some ⟨g,o,none⟩) n c]) w K:=by
 obtain⟨⟨i,z,B,v,u,y,k,h⟩,q,j⟩:=x;have s:(Builtin.zeroCells z.cells n).toList.length=n*(sz+1):=by rw[pS,k]
 have h1:=pR h (by grind) n;have d:=d _ s h1;have b:=run_storeCells_at P g o T (Builtin.zeroCells z.cells n).toList 0 a w p (by grind) (pE h1);simp only[cx]at b;refine oI (.tuple #[]) (w.setRow g (iC a.toList o (Builtin.zeroCells z.cells n).toList).toArray) ?_ d;cases n with
 |zero=>
  have e:(Builtin.zeroCells z.cells 0).toList=[]:=gZ (by rw[s];simp);rw[e];have A:=setRow_self w g a T (0,0) p;simp[zT,Builtin.clear_,aO l,Result.andThen,iC,A]
 |succ m=>simp[zT,Builtin.clear_,aO l,zeroValue,typeInfo,B,v,Result.andThen,b,iC]
def yC{u:TypeId}{ku:IntKind}{by_:Nat}{s:Vt_}{m:Nat}{cs:LV_}
  (U:P.underlying t=some (.slice e))(W:P.underlying u=some (.int ku))(hE:vi P e (sz+1) by_)
  (hs:gD w e (sz+1) s n cs)(A:(n+m)*by_<=140737488355328)
  (hK:∀Y R z,z.length=m*(sz+1)->z.all (·.oneCell')=true->gD R e (sz+1) Y (n+m) (cs++z)->aS (aK s) w R->(∀b,aK Y b->aK s b\/w.heap.size<=b)->(∀a c,s=.slice a n c->c<n+m->M0 w R/\∀b,aK Y b->w.heap.size<=b)->K Y R):
  rx P (eZ #[t,u] ty [s,gI (m:Int)]) w K:=by
 obtain⟨⟨i,z,X,hz,p,N,I,T⟩,M,E⟩:=hE;have hneed:n+m<=140737488355328:=ci (mz _ E) A;have hmb:m*by_<=140737488355328:=ci (cF _ qZ) A;have l:cs.length=n*(sz+1):=hs.1;have O:(Builtin.zeroCells z.cells m).toList.length=m*(sz+1):=by rw[pS,I]
 have h1:=pR T (by grind) m;have k:IntKind.i64.wrap (m:Int)=(m:Int):=by rw[bU];omega
 have r:¬(m:Int)<0:=qZ
 have y:¬(281474976710656:Int)<(m:Int)*(i.bytes:Int):=by
  rw[N,<-eH];omega
 obtain⟨g,d,hsv,H,x⟩:∃g d,s=.slice g n d/\n<=d/\((g=none/\n=0/\d=0/\cs=[])\/∃b rest,g=some ⟨b,0,none⟩/\w.heap[b]? =some (.cells (cs++rest).toArray e (0,0))/\rest.length=(d - n)*(sz+1)/\rest.all (·.oneCell')=true):=by
  rcases hs.2 with⟨rfl,rfl⟩|⟨b,d,rest,rfl,hc,G,hr⟩
  ·grind
  ·grind
 subst hsv;obtain⟨L,V⟩:∃L:Int,(m:Int)=L:=⟨_,rfl⟩
 rw[V];rw[V]at k;have k:IntKind.i64.wrap L=(m:Int):=k.trans V.symm;clear V;generalize hZ:Builtin.zeroCells z.cells m=Z at O h1;by_cases h0:m=0
 ·subst h0;have hZ0:Z= #[]:=gO (by grind);refine oI (.slice g n d) w ?_ (hK _ _ [] (by simp) rfl (by simpa using hs) oU (λb A=>.inl A) λa c he J=>by grind);rcases x with⟨rfl,rfl,rfl,rfl⟩|⟨b,rest,rfl,G,B,hr1⟩
  ·simp[eZ,Builtin.append_,aO U,sizeOf,typeInfo,X,p,aO W,Result.andThen,asInt,asIntOf,k]
  ·have j:=run_storeCells_at P b (n*(sz+1)) e [] 0 (cs++rest).toArray w G (by simp[l]) (by simp);simp only[cx]at j;have F:=setRow_self w b (cs++rest).toArray e (0,0) G;have e0:(⟨b,0,none⟩:Addr).add (n*(sz+1))=⟨b,n*(sz+1),none⟩:=by rw[bD];simp
   have hnc:¬d<n:=qZ;simp at j;simp[eZ,Builtin.append_,aO U,sizeOf,typeInfo,X,p,aO W,Result.andThen,asInt,asIntOf,k,H,e0,j];simpa using F
 have Q:¬m*(sz+1)=0:=by
  rw[Nat.mul_eq_zero];omega
 by_cases h:n+m<=d
 ·rcases x with⟨rfl,rfl,rfl,rfl⟩|⟨b,rest,rfl,G,B,hr1⟩
  ·omega
  ·have j:=run_storeCells_at P b (n*(sz+1)) e Z.toList 0 (cs++rest).toArray w G (by
    simp only[cI,ag,l,B,O];have:=cF (sz+1) h;rw[er]at this;rw[mq];omega) (pE h1)
   simp only[cx]at j
   have D:(cs++rest).take (n*(sz+1))++Z.toList++(cs++rest).drop (n*(sz+1)+Z.toList.length)=(cs++Z.toList)++rest.drop Z.toList.length:=by
    rw[<-l];simp[aH]
   refine oI (.slice (some ⟨b,0,none⟩) (n+m) d) (w.setRow b ((cs++Z.toList)++rest.drop Z.toList.length).toArray) ?_ (hK _ _ Z.toList O h1 ⟨?_,.inr ⟨b,d,rest.drop Z.toList.length,rfl,h,?_,?_,?_⟩⟩ ?_ ?_ λa c he J=>by grind)
   ·simp only[D]at j;have e0:(⟨b,0,none⟩:Addr).add (n*(sz+1))=⟨b,n*(sz+1),none⟩:=by rw[bD];simp
    simp[eZ,Builtin.append_,aO U,sizeOf,typeInfo,zeroValue,hz,X,p,aO W,Result.andThen,asInt,asIntOf,k,h,e0,r,y,h0,hZ,j];have q:=j;simp at q;rw[aa Q];simp only;rw[q]
   ·grind
   ·rw[d9,ae rfl,G]
   ·rw[bq,B,O,<-mq];congr 1;omega
   ·grind
   ·exact(aS.refl (aK (.slice (some ⟨b,0,none⟩) n d)) w).setRow (.inl (show aK _ b from rfl)) _
   ·intro b' C;exact .inl C
 ·have hfit:=growslice_fits (old:=d) (need:=n+m) (bytes:=by_) qZ A;have h48:¬(281474976710656<Builtin.nextslicecap (n+m) d*i.bytes):=by rw[N];omega
  have h63:¬(9223372036854775807<((n:Int)+(m:Int))):=qZ;have o:n+m<=grownCap w (n+m) d e:=by simp[grownCap,Question.cut]
  have hrs:Rd w.drew (sz+1) (.slice g n d) n cs:=hs.rd.keep λ_ _=>rfl;have hf1:=hrs.first (P:=P) M
  refine jP (v:=.slice (some ⟨w.heap.size,0,none⟩) (n+m) (grownCap w (n+m) d e))
   (w' :=w.drew.alloc (.cells (cs.toArray++Z++Builtin.zeroCells z.cells (grownCap w (n+m) d e - (n+m))) e)) ?_ (hK _ _ Z.toList O h1 ⟨?_,.inr ⟨w.heap.size,_,(Builtin.zeroCells z.cells (grownCap w (n+m) d e - (n+m))).toList,rfl,o,?_,?_,?_⟩⟩ ?_ ?_ λa c he J=>⟨sK.alloc _,λb A=>by cases A;exact az _⟩)
  ·simp[eZ,Builtin.append_,aO U,sizeOf,typeInfo,zeroValue,X,hz,p,aO W,Result.andThen,asInt,asIntOf,k,r,y,h0,h,h63,h48,Question.forced,hf1,newRow,grownCap,hZ];rw[aa Q];rfl
  ·grind
  ·rw[ec,ae (show w.heap.size=w.drew.heap.size from rfl)];simp
  ·rw[pS,I]
  ·exact pR T (by grind) _
  ·exact sK.alloc _
  ·rintro b' C;cases C;exact .inr (az _)
section
variable{α:Type}{f:α->List Value}{S:Nat}
def Rv(a:∀x,(f x).length=S):∀(l:List α) (i:Nat),(l.flatMap f).take (i*S)=(l.take i).flatMap f
 | [],i=>by simp
 |x::l,0=>by simp
 |x::l,i+1=>by
  have e:(i+1)*S=(f x).length+i*S:=by grind
  rw[bR,gV,bR,e,iy,Rv a l i]
def Us(a:∀x,(f x).length=S):∀(l:List α) (i:Nat),(l.flatMap f).drop (i*S)=(l.drop i).flatMap f
 | [],i=>by simp
 |x::l,0=>by simp
 |x::l,i+1=>by
  have e:(i+1)*S=(f x).length+i*S:=by grind
  rw[bR,List.drop_succ_cons,e,<-cB,cU,Us a l i]
def tN(a:∀x,(f x).length=S)(l:List α):(l.flatMap f).length=l.length*S:=qU f S l λx _=>a x
def Lj(a:∀x,(f x).all (·.oneCell')=true)(l:List α):(l.flatMap f).all (·.oneCell')=true:=by
 rw[List.all_flatMap,bf];exact λx _=>a x
def Rd.item{w:Wt_}{v:Vt_}{n:Nat}{l:List α}(d:∀x,(f x).length=S)(h:Rd w S v n (l.flatMap f)){i:Nat}(hi:i<l.length)(o:n=l.length):
  ∃b c a,v=.slice (some ⟨b,c,none⟩) n a/\n<=a/\At w b (c+i*S) (f l[i]):=by
 obtain⟨m,⟨k,_⟩|⟨b,c,a,rfl,j,e⟩⟩:=h
 ·omega
 ·refine⟨b,c,a,rfl,j,?_⟩;have g:(i+1)*S<=l.length*S:=cF S hi;rw[er]at g;have:=e.sub (i*S) S (by rw[tN d];omega)
  rwa[lA f S l i (λx _=>d x) hi]at this
end
def gD.pos{v:Vt_}{cs:LV_}(h:gD w e sz v n cs)(d:0<n):
  ∃b a rest,v=.slice (some ⟨b,0,none⟩) n a/\n<=a/\w.heap[b]? =some (.cells (cs++rest).toArray e (0,0))/\rest.length=(a - n)*sz/\(rest.all (·.oneCell')=true):=by
 obtain⟨c,⟨rfl,rfl⟩|h⟩:=h
 ·omega
 ·exact h
def Hx(d:P.underlying t=some (.slice e))(g:P.cellsOf e=sz+1)(h:hi<=cap)(i:0<cap)(W:Wt_):
  (Instr.sliceAt t (.slice (some ⟨b,0,none⟩) n cap) none (some (.int kh (hi:Int))) none).run P W=.ok (.slice (some ⟨b,0,none⟩) hi cap) W:=by
 obtain⟨a,c⟩:=pC d;rw[run_sliceAt_slice W t _ _ _ _ a,run_slice_h W t _ n cap a kh hi qZ qZ,c,kZ g];simp only[Result.andThen,sliced,gH,jK,jL];rw[aa qZ,eI,bD]
def WT(c:P.underlying t=some (.slice e))(g:P.cellsOf e=sz+1)(h1:lo<=hi)(h:hi<=cap)(i:lo<cap)(W:Wt_):
  (Instr.sliceAt t (.slice (some ⟨b,0,none⟩) n cap) (some (.int kl (lo:Int))) (some (.int kh (hi:Int))) none).run P W=.ok (.slice (some ⟨b,lo*(sz+1),none⟩) (hi - lo) (cap - lo)) W:=by
 obtain⟨a,d⟩:=pC c;rw[run_sliceAt_slice W t _ _ _ _ a,run_slice_lh W t _ n cap a kl kh lo hi qZ qZ qZ,d,kZ g];simp only[Result.andThen,sliced,gH];rw[aa qZ,eI,bD,cM]
def vG(d:P.underlying t=some (.slice e))(g:P.cellsOf e=sz+1)(h1:lo<=n)(h:n<=cap)(i:lo<cap)(W:Wt_):
  (Instr.sliceAt t (.slice (some ⟨b,0,none⟩) n cap) (some (.int kl (lo:Int))) none none).run P W=.ok (.slice (some ⟨b,lo*(sz+1),none⟩) (n - lo) (cap - lo)) W:=by
 obtain⟨a,c⟩:=pC d;rw[run_sliceAt_slice W t _ _ _ _ a,run_slice_l W t _ n cap a kl lo qZ qZ,c,kZ g];simp only[Result.andThen,sliced,gH];rw[aa qZ,eI,bD,cM]
def VI{a:Option Addr}{mx:Nat}{km:IntKind}(g:P.underlying t=some (.slice e))(d:P.cellsOf e=sz+1)(h1:lo<=hi)(i:hi<=mx)(j:mx<=cap)(W:Wt_):
  ∃v,(Instr.sliceAt t (.slice a n cap) (some (.int kl (lo:Int))) (some (.int kh (hi:Int))) (some (.int km (mx:Int)))).run P W=.ok v W:=by
 obtain⟨b,h⟩:=pC g;have c:=run_slice_lhm W t a n cap b kl kh km lo hi mx qZ qZ qZ qZ;rw[h,kZ d]at c;exact⟨_,(run_sliceAt_slice W t _ _ _ _ b).trans c⟩
end Go.Vc
set_option maxRecDepth 100000
set_option maxHeartbeats 1000000
namespace Go.Proofs
open Go Go.Vc
attribute [local congr] aZ
variable {s:Vt_}{w:Wt_}{K:aY}
structure Od where
 num:Int
 acct:Int
 buy:Bool
 price:Int
 left:Int
 deriving DecidableEq
variable {l:List Od}
def dx(o:Od):List Value:=[.int .u64 o.num,gU o.acct,.bool o.buy,gI o.price,gI o.left]
def dP(o:Od):(dx o).length=5:=rfl
def lQ(o:Od):(dx o).all (·.oneCell')=true:=rfl
def Od.Fit(o:Od):Prop:=OY o.num/\kV o.acct/\eP o.price/\eP o.left
abbrev ji:TypeId:=130
abbrev rE:TypeId:=146
def gX:Tryz.prog.underlying rE=some (.slice ji):=cy
def zi:Tryz.prog.cellsOf ji=4+1:=cy
def Ln:gP pQ ji 5 32=true:=cy
abbrev qp(w:Wt_)(s:Vt_)(l:List Od):Prop:=gD w ji 5 s l.length (l.flatMap dx)
def sX(h:Rd w 5 s l.length (l.flatMap dx))(q:l.length<=1000000)
  (i:∀d e,qp e d l->M0 w e->(∀b,aK d b->w.heap.size<=b)->K d e):Ca pQ 94 #[s] w K:=by
 refine cN Tryz.func94 ?_;obtain⟨a,c,f⟩:=h.isSl;by_cases g:a=none
 ·subst g;apply ax (.bool true) w (by rw[f];simp[go_sem]);rw[jV]
  have o:l=[]:=by
   obtain⟨-,⟨p,_⟩|⟨b,n,m,j,_⟩⟩:=h
   ·grind
   ·rw[f]at j;cases j
  subst o;exact i _ _ (gD.nil _ _ _) oU λb k=>by cases k
 ·apply ax (.bool false) w (by rw[f];cases a;exact absurd rfl g;simp[go_sem]);rw[ij];exact YB gX (dp Ln) h (Lj lQ l) qZ i
set_option maxRecDepth 10000 in
def uh{i j:Nat}(h:qp w s l)(G:i<j)(E:j<=l.length)(T:l.length<=1000000)
  (I:∀p r,qp r p (l.take i++l.drop j)->aS (aK s) w r->(∀b,aK p b->aK s b)->K p r):Ca pQ 215 #[s,gI (i:Int),gI (j:Int)] w K:=by
 obtain⟨b,c,rest,rfl,C,F,N,O⟩:=h.pos qZ;have D:=h.1;refine cN Tryz.func215 ?_;refine Hn ?_;obtain⟨S,u⟩:=VI (P:=pQ) (t:=rE) (a:=some ⟨b,0,none⟩) (n:=l.length) (cap:=c) (lo:=i) (hi:=j) (mx:=l.length) (kl:=.i64) (kh:=.i64) (km:=.i64) gX zi qZ E C w;apply bh u;have q:¬(i:Int)=(j:Int):=qZ;refine ey q ?_;refine Hn ?_;apply bQ (λW=>Hx gX zi (show i<=c by omega) qZ W);have A:Rd w 5 (.slice (some ⟨b,0,none⟩) l.length c) l.length (l.flatMap dx):=h.rd;obtain⟨R,v,e,-⟩:=Rd.from_ (P:=pQ) (kl:=.i64) (lo:=j) gX zi A E;apply bQ (λW=>v W);simp only[Nat.reduceAdd]at e;rw[Us dP]at e;have H:((l.drop j).flatMap dx).length=(l.length - j)*5:=by rw[tN dP,bq]
 have o:w.drew.heap[b]? =some (.cells (l.flatMap dx++rest).toArray ji (0,0)):=F;have L:(l.flatMap dx++rest).length=c*5:=by grind
 apply Ed (m:=l.length - j) gX gX zi o qZ (e.keep λ_ _=>rfl) (Lj lQ _) (by grind);have B:aS (aK (.slice (some ⟨b,0,none⟩) l.length c)) w (w.drew.setRow b (iC (l.flatMap dx++rest) (0+i*5) ((l.drop j).flatMap dx)).toArray):=sK.setRow (.inl (show aK (.slice (some ⟨b,0,none⟩) l.length c) b from rfl)) _
 have k:iC (l.flatMap dx++rest) (0+i*5) ((l.drop j).flatMap dx)=(l.take i++l.drop j).flatMap dx++(l.flatMap dx++rest).drop ((i+(l.length - j))*5):=by
  unfold iC;rw[H,cM,aN (by rw[D];omega),Rv dP,cJ,aH,aH,<-er]
 have g:(w.drew.setRow b (iC (l.flatMap dx++rest) (0+i*5) ((l.drop j).flatMap dx)).toArray).heap[b]? =some (.cells ((l.take i++l.drop j).flatMap dx++(l.flatMap dx++rest).drop ((i+(l.length - j))*5)).toArray ji (0,0)):=by
  rw[d9,ae rfl,o,k]
 rw[show(l.flatMap dx++rest).toArray.toList=l.flatMap dx++rest from rfl];generalize w.drew.setRow b (iC (l.flatMap dx++rest) (0+i*5) ((l.drop j).flatMap dx)).toArray=W at B g|-;refine Hn ?_;apply bh (WT gX zi (show i+(l.length - j)<=l.length by omega) C qZ W)
 have x:((l.take i++l.drop j).flatMap dx).length=(i+(l.length - j))*5:=by
  rw[tN dP,ag,aB,bq,dF qZ]
 refine Ck gX (dp Ln) g (by grind) λz M J=>?_
 have f:iC ((l.take i++l.drop j).flatMap dx++(l.flatMap dx++rest).drop ((i+(l.length - j))*5)) ((i+(l.length - j))*5) z=(l.take i++l.drop j).flatMap dx++(z++rest):=by
  unfold iC;rw[M,aN (by grind),aC (by grind),<-cB,<-x,cU,aH,cB,x];congr 2;rw[show(i+(l.length - j))*5+(l.length - (i+(l.length - j)))*5=(l.flatMap dx).length by rw[D];omega,cU]
 have d:(l.take i++l.drop j).length=i+(l.length - j):=by grind
 refine I _ _ ⟨by rw[x,d],.inr ⟨b,c,z++rest,by rw[d],qZ,?_,?_,?_⟩⟩ (B.setRow (.inl (show aK (.slice (some ⟨b,0,none⟩) l.length c) b from rfl)) _) λQ y=>y
 ·show(W.setRow b (iC ((l.take i++l.drop j).flatMap dx++(l.flatMap dx++rest).drop ((i+(l.length - j))*5)) ((i+(l.length - j))*5) z).toArray).heap[b]? =_;rw[d9,ae rfl,g,f]
 ·grind
 ·grind
def Z1{b:Nat}{C:Array Value}{T:TypeId}{a:Nat×Nat}(h:w.heap[b]? =some (.cells C T a)):w.shape? b=some (T,C.size):=by simp[World.shape?,h]
def Jb{b:Nat}{C:Array Value}{T:TypeId}(h:w.heap[b]? =some (.cells C T (0,0)))(i:Nat):w.frozen? ⟨b,i,none⟩=false:=by simp[go_sem,bT h]
def sOd(w:Wt_):(Go.sizeOf ji).run pQ w=.ok 5 w:=Go.Vc.kZ zi w
def Vv:Extern.find Tryz.f363=some (Extern.SlicesOverlaps.overlaps #[rE,rE] #[4]):=cy
def EJ{v:Vt_}{o:Od}{i:Nat}(h:qp w s l)(hv:qp w v [o])(hd:∀b,aK s b->¬aK v b)(hi:i<=l.length)(hn:l.length<=1000000)
  (hK:∀s' w',qp w' s' (l.take i++o::l.drop i)->aS (aK s) w w' ->(∀b,aK s' b->aK s b\/w.heap.size<=b)->K s' w'):Ca pQ 323 #[s,gI (i:Int),v] w K:=by
 obtain⟨L,g,vrest,rfl,hvc,J,hvl,hv1⟩:=hv.pos (by simp);simp only[ke]at hvc hvl
 have n:(l.take i++o::l.drop i).length=l.length+1:=by
  rw[ag,aB,be,bq,dF hi];omega
 have S:([o].flatMap dx)=dx o:=by simp
 refine cN Tryz.func323 ?_;obtain⟨v0,hv0,-,-⟩:=Rd.from_ (P:=pQ) (kl:=.i64) (lo:=i) gX zi (h.rd:Rd w (4+1) s l.length (l.flatMap dx)) hi;apply bh (hv0 w);refine Hn ?_;refine eK ?_;obtain⟨sa,sc,hs,-⟩:=h.isSl;apply iq (gI l.length) w (by rw[hs];simp[go_sem]);by_cases hil:i=l.length
 ·have r:(i:Int)=(l.length:Int):=qZ;refine dB r ?_;refine jJ gX gX (dp Ln) h hv.rd (Lj lQ _) (by grind) λs3 y o3 B n3=>?_;refine hK _ _ ?_ B n3;have:l.take i++o::l.drop i=l++[o]:=by grind
  rw[this];unfold qp;rw[cJ,ag];exact o3
 have r:¬(i:Int)=(l.length:Int):=qZ;refine ey r ?_;obtain⟨b,c,rest,hse,hc,M,hrl,N⟩:=h.pos qZ;clear hs;subst hse;have hne:L≠b:=λe=>hd b rfl (by rw[<-e];rfl);have X:=h.1;apply ax (gI ((l.length+1:Nat):Int)) w (by simp[go_sem];rw[lL]);refine qN1 gX ?_;have A:(l.flatMap dx++rest).length=c*5:=by grind
 by_cases hroom:c<l.length+1
 ·have f:(c:Int)<(l.length:Int)+1:=qZ;refine dB f ?_;apply bh (Hx gX zi (show i<=c by omega) qZ w);apply ax (gI ((l.length+1:Nat):Int)) w (by simp[go_sem];rw[lL]);apply ax (gI ((l.length+1 - i:Nat):Int)) w (by simp only[go_sem];simp;rw[lL];omega)
  have hOi:gD w ji (4+1) (.slice (some ⟨b,0,none⟩) i c) i ((l.take i).flatMap dx):=by
   refine⟨by rw[tN dP,aB,dF hi],.inr ⟨b,c,(l.flatMap dx++rest).drop (i*5),rfl,qZ,?_,?_,?_⟩⟩
   ·rw[M];congr 2
    have:(l.take i).flatMap dx=(l.flatMap dx++rest).take (i*5):=by
     rw[aN (by rw[X];omega),Rv dP]
    rw[this,cH]
   ·grind
   ·refine bf.2 λx D=>?_;have D:=gK D;rcases bm.1 D with h1|h1
    ·exact bf.1 (Lj lQ l) x h1
    ·grind
  refine yC gX Tryz.underlying3 (dp Ln) hOi qZ λs2 C z hz hz1 o2 m2 n2 Y=>?_;obtain⟨mF,nF⟩:=Y _ _ rfl qZ;rw[show i+(l.length+1 - i)=l.length+1 by omega]at o2;obtain⟨m,wq,a,rfl,G,U,V,R⟩:=o2.pos qZ;have T:w.heap.size<=m:=nF m rfl;have hbb:b≠m:=by grind
  apply bh (vG gX zi qZ G qZ C);have hA:((l.take i).flatMap dx).length=i*5:=by rw[tN dP,aB,dF hi]
  have hsz2:((l.take i).flatMap dx++z++a).length=wq*5:=by grind
  have hv2:Rd C 5 (.slice (some ⟨L,0,none⟩) 1 g) 1 (dx o):=by
   have:=hv.rd.mod mF dS;rw[S]at this;exact this
  apply pY (sz:=4) (k:=1) gX zi U hv2 (by grind) (by grind) (lQ o);have B:aS (λb=>b=m) C (C.setRow m (iC ((l.take i).flatMap dx++z++a) (i*5) ((dx o).take 5)).toArray):=(aS.refl (λb=>b=m) C).setRow (.inl rfl) _;have e5:(dx o).take 5=dx o:=rfl
  have H:iC ((l.take i).flatMap dx++z++a) (i*5) (dx o)=(l.take i).flatMap dx++dx o++(z++a).drop 5:=by
   unfold iC;rw[aH ((l.take i).flatMap dx) z a,<-hA,dG,dP,<-cB,cU]
  have j:(C.setRow m (iC ((l.take i).flatMap dx++z++a) (i*5) ((dx o).take 5)).toArray).heap[m]? =some (.cells ((l.take i).flatMap dx++dx o++(z++a).drop 5).toArray ji (0,0)):=by
   rw[d9,ae rfl,U,e5,H]
  show g9 _ _ _;rw[show((l.take i).flatMap dx++z++a).toArray.toList=(l.take i).flatMap dx++z++a from rfl,show 1*(4+1)=5 from rfl];generalize C.setRow m (iC ((l.take i).flatMap dx++z++a) (i*5) ((dx o).take 5)).toArray=y at B j|-;apply cT (gI ((i+1:Nat):Int)) (λW=>by simp[go_sem];rw[lL]);apply bQ (λW=>vG gX zi (show i+1<=l.length+1 by omega) G qZ W);apply bQ (λW=>vG gX zi (show i<=l.length by omega) hc qZ W);have mD:aS (λb=>b=m) C y.drew:=B.drew;have q:y.drew.heap[m]? =some (.cells ((l.take i).flatMap dx++dx o++(z++a).drop 5).toArray ji (0,0)):=j
  have t:Rd y.drew (4+1) (.slice (some ⟨b,i*(4+1),none⟩) (l.length - i) (c - i)) (l.length - i) ((l.drop i).flatMap dx):=by
   have F:At w b 0 (l.flatMap dx):=⟨_,_,_,M,by grind,by simp⟩
   have h1:=F.sub (i*5) ((l.length - i)*5) (by rw[X];omega);rw[Us dP,aC (by rw[tN dP,bq];exact az _),cM]at h1;refine⟨by rw[tN dP,bq],.inr ⟨b,i*(4+1),c - i,rfl,qZ,?_⟩⟩;exact(h1.mod mF id).mod mD λe=>hbb e
  have hsz3:((l.take i).flatMap dx++dx o++(z++a).drop 5).length=wq*5:=by
   rw[ag,ag,hA,dP,bq,ag,hz,V];omega
  apply pY (sz:=4) (k:=l.length - i) gX zi q t (by grind) (by grind) (Lj lQ _);have u:((l.drop i).flatMap dx).length=(l.length - i)*5:=by rw[tN dP,bq]
  have I:iC ((l.take i).flatMap dx++dx o++(z++a).drop 5) ((i+1)*(4+1)) (((l.drop i).flatMap dx).take ((l.length - i)*(4+1)))=(l.take i++o::l.drop i).flatMap dx++a:=by
   have hAo:((l.take i).flatMap dx++dx o).length=(i+1)*(4+1):=by grind
   have e2:((l.drop i).flatMap dx).take ((l.length - i)*(4+1))=(l.drop i).flatMap dx:=aC (by grind);rw[e2];unfold iC;rw[<-hAo,dG,u,<-cB,cU,cB];rw[show 5+(l.length - i)*5=z.length by rw[hz];omega,cU];simp[aH]
  refine hK _ _ ⟨by grind,.inr ⟨m,wq,a,by rw[n],by rw[n];exact G,?_,by grind,R⟩⟩ ?_ λZ p=>?_
  ·rw[d9,ae rfl,q];show some (Obj.cells (iC ((l.take i).flatMap dx++dx o++(z++a).drop 5) ((i+1)*(4+1)) (((l.drop i).flatMap dx).take ((l.length - i)*(4+1)))).toArray ji (0,0))=_;rw[I]
  ·exact((mF.to).on mD λZ p=>.inr (by grind)).setRow (.inr T) _
  ·grind
 ·have f:¬(c:Int)<(l.length:Int)+1:=qZ;refine ey f ?_;apply ax (gI ((l.length+1:Nat):Int)) w (by simp[go_sem];rw[lL]);apply bh (Hx gX zi (show l.length+1<=c by omega) qZ w);apply ax (gI ((i+1:Nat):Int)) w (by simp[go_sem];rw[lL]);apply bh (vG gX zi (show i+1<=l.length+1 by omega) qZ qZ w)
  have hov:(callFunc 363 #[.slice (some ⟨L,0,none⟩) 1 g,.slice (some ⟨b,(i+1)*(4+1),none⟩) (l.length+1 - (i+1)) (c - (i+1))]).run pQ w=.ok (.value (.bool false)) w:=by
   rw[run_callFunc_extern Tryz.func363 cy cy cy Vv];rw[Lib.run_overlaps_apart w rE 4 ji gX 5 sOd ⟨L,0,none⟩ ⟨b,(i+1)*(4+1),none⟩ 1 g _ _ hne ji ji _ _ (Z1 J) (Z1 M) (by grind) (Jb J _) (Jb J _)];rfl
  refine⟨?_⟩;show rn pQ (callFunc 363 #[.slice (some ⟨L,0,none⟩) 1 g,.slice (some ⟨b,(i+1)*(4+1),none⟩) (l.length+1 - (i+1)) (c - (i+1))]) w _;apply sr hov;refine jZ ?_;apply cT (gI ((i+1:Nat):Int)) (λW=>by simp[go_sem];rw[lL]);apply bQ (λW=>vG gX zi (show i+1<=l.length+1 by omega) qZ qZ W);apply bQ (λW=>vG gX zi (show i<=l.length+1 by omega) qZ qZ W);have q:w.drew.heap[b]? =some (.cells (l.flatMap dx++rest).toArray ji (0,0)):=M;have O:5<=rest.length:=by rw[hrl];omega
  have t:Rd w.drew (4+1) (.slice (some ⟨b,i*(4+1),none⟩) (l.length+1 - i) (c - i)) (l.length+1 - i) ((l.drop i).flatMap dx++rest.take 5):=by
   have F:At w b 0 (l.flatMap dx++rest):=At.all (bT M);have h1:=F.sub (i*5) ((l.length+1 - i)*5) (by rw[A];omega);rw[dc (by rw[X];omega),Us dP,cM]at h1
   have e1:((l.drop i).flatMap dx++rest).take ((l.length+1 - i)*5)=(l.drop i).flatMap dx++rest.take 5:=by
    have hd:((l.drop i).flatMap dx).length=(l.length - i)*5:=by rw[tN dP,bq]
    rw[show(l.length+1 - i)*5=((l.drop i).flatMap dx).length+5 by rw[hd];omega,iy]
   rw[e1]at h1;refine⟨by rw[ag,tN dP,bq,aB,dF O];omega,.inr ⟨b,i*(4+1),c - i,rfl,qZ,h1.keep rfl⟩⟩
  have u:((l.drop i).flatMap dx).length=(l.length - i)*5:=by rw[tN dP,bq]
  apply pY (sz:=4) (k:=l.length - i) gX zi q t (by grind) (by rw[cI,A];omega) (by rw[ek,Lj lQ];exact bf.2 λx D=>bf.1 N x (cE D));have hA:((l.take i).flatMap dx).length=i*5:=by rw[tN dP,aB,dF hi]
  obtain⟨d,Q,E⟩:∃d:List Value,l.flatMap dx++rest=(l.take i).flatMap dx++(d++((l.flatMap dx++rest).drop ((i+1)*5)))/\d.length=5:=by
   refine⟨((l.flatMap dx++rest).drop (i*5)).take 5,?_,by grind⟩;have e1:(l.take i).flatMap dx=(l.flatMap dx++rest).take (i*5):=by rw[aN (by rw[X];omega),Rv dP]
   rw[e1,show(i+1)*5=i*5+5 by omega,<-cB,cH,cH]
  have H:iC (l.flatMap dx++rest) ((i+1)*(4+1)) (((l.drop i).flatMap dx++rest.take 5).take ((l.length - i)*(4+1)))=(l.take i).flatMap dx++d++((l.drop i).flatMap dx++rest.drop 5):=by
   have e2:((l.drop i).flatMap dx++rest.take 5).take ((l.length - i)*(4+1))=(l.drop i).flatMap dx:=by
    rw[show(l.length - i)*(4+1)=((l.drop i).flatMap dx).length by rw[u],dG]
   have e3:(l.flatMap dx++rest).take ((i+1)*(4+1))=(l.take i).flatMap dx++d:=by
    rw[Q,<-aH,show(i+1)*(4+1)=((l.take i).flatMap dx++d).length by grind,dG]
   have e4:(l.flatMap dx++rest).drop ((i+1)*(4+1)+(l.length - i)*5)=rest.drop 5:=by
    rw[show(i+1)*(4+1)+(l.length - i)*5=(l.flatMap dx).length+5 by rw[X];omega,<-cB,cU]
   unfold iC;rw[e2,u,e3,e4];simp[aH]
  have B:aS (aK (.slice (some ⟨b,0,none⟩) l.length c)) w (w.drew.setRow b (iC (l.flatMap dx++rest) ((i+1)*(4+1)) (((l.drop i).flatMap dx++rest.take 5).take ((l.length - i)*(4+1)))).toArray):=sK.setRow (.inl (show aK (.slice (some ⟨b,0,none⟩) l.length c) b from rfl)) _
  have j:(w.drew.setRow b (iC (l.flatMap dx++rest) ((i+1)*(4+1)) (((l.drop i).flatMap dx++rest.take 5).take ((l.length - i)*(4+1)))).toArray).heap[b]? =some (.cells ((l.take i).flatMap dx++d++((l.drop i).flatMap dx++rest.drop 5)).toArray ji (0,0)):=by
   rw[d9,ae rfl,q,H]
  rw[show(l.flatMap dx++rest).toArray.toList=l.flatMap dx++rest from rfl];generalize w.drew.setRow b (iC (l.flatMap dx++rest) ((i+1)*(4+1)) (((l.drop i).flatMap dx++rest.take 5).take ((l.length - i)*(4+1)))).toArray=y at B j|-;apply bh (vG gX zi (show i<=l.length+1 by omega) qZ qZ y)
  have hv3:Rd y 5 (.slice (some ⟨L,0,none⟩) 1 g) 1 (dx o):=by
   have:=hv.rd.mod B λZ p hs' =>hd Z hs' p.sl;rw[S]at this;exact this
  apply pY (sz:=4) (k:=1) gX zi j hv3 (by grind) (by grind) (lQ o)
  have I:iC ((l.take i).flatMap dx++d++((l.drop i).flatMap dx++rest.drop 5)) (i*(4+1)) ((dx o).take (1*(4+1)))=(l.take i++o::l.drop i).flatMap dx++rest.drop 5:=by
   have e5:(dx o).take (1*(4+1))=dx o:=rfl;rw[e5];unfold iC;rw[dP,show i*(4+1)=((l.take i).flatMap dx).length by rw[hA],aH ((l.take i).flatMap dx) d,dG,<-cB,cU,<-E,cU];simp[aH]
  refine hK _ _ ⟨by rw[tN dP,n],.inr ⟨b,c,rest.drop 5,by rw[n],by rw[n];omega,?_,by grind,bf.2 λx D=>bf.1 N x (gK D)⟩⟩ (B.setRow (.inl (show aK (.slice (some ⟨b,0,none⟩) l.length c) b from rfl)) _) λZ p=>.inl p;show(y.setRow b (iC ((l.take i).flatMap dx++d++((l.drop i).flatMap dx++rest.drop 5)) (i*(4+1)) ((dx o).take (1*(4+1)))).toArray).heap[b]? =_;rw[d9,ae rfl,j,I]
def Dm(w:Wt_)(fv:Vt_)(p:Od->Bool)(l:List Od):Prop:=
 ∃g cp,fv=.func (.func g) #[] cp/\∀x∈l,∀W,M0 w W->∀K:aY,(∀W',M0 W W' ->K (.bool (p x)) W')->Ca pQ g ⟨[.agg (dx x).toArray]++cp.toList⟩ W K
def qI{α:Type}(l:List α)(p:α->Bool):Int:=match l.findIdx? p with|some i=>(i:Int)|none=> -1
def vu{fv:Vt_}{p:Od->Bool}(h:Rd w 5 s l.length (l.flatMap dx))(U:l.length<=1000000)(L:Dm w fv p l)
  (D:∀z,M0 w z->K (gI (qI l p)) z):Ca pQ 213 #[s,fv] w K:=by
 obtain⟨g,V,rfl,y⟩:=L;refine cN Tryz.func213 ?_;obtain⟨a,c,N⟩:=h.isSl;apply iq (gI (l.length:Int)) w (by rw[N];simp[go_sem])
 refine d8 (λst W=>∃(i:Nat) (x:Vt_),i<=l.length/\st=(x,gI i,())/\M0 w W/\∀j:Nat,∀f:j<l.length,j<i->p l[j]=false)
  (λst _=>match st.2.1 with| .int _ i=>l.length - i.toNat|_=>0) ⟨0,gI 0,qZ,rfl,oU,λj _ h=>qZ⟩ ?_
 rintro⟨_,_⟩ W ⟨i,x,T,⟨⟩,m,k⟩ R u;refine lE ?_;intro _;by_cases d:i<l.length
 ·have o:(i:Int)<(l.length:Int):=qZ;refine dB o ?_;obtain⟨b,v,J,t,E,M⟩:=(h.mod m dS).item dP d rfl;obtain⟨C,e,S,hC,n⟩:=M.get;have B:=n 0 (gQ l[i].num) rfl;have G:=n 1 (gU l[i].acct) rfl;have A:=n 2 (.bool l[i].buy) rfl;have H:=n 3 (gI l[i].price) rfl;have F:=n 4 (gI l[i].left) rfl;simp only[eD,cx]at B G A H F;apply ax (bO b (v+i*5)) W (by rw[t];simp[go_sem,d,bD]);apply ax (.agg (dx l[i]).toArray) W (by simp[go_sem,bT hC,B,G,A,H,F,dx]);simp only[fR];refine y l[i] (av d) W m _ λQ r=>?_;cases hp:p l[i]with
  |true=>
   rw[jV]
   have:qI l p=(i:Int):=by
    unfold qI
    have:l.findIdx? p=some i:=by
     rw[bp];refine⟨d,hp,λj f=>?_⟩;rw[k j qZ f];simp
    rw[this]
   have q:=D _ (m.trans r);rw[this]at q;exact q
  |false=>
   rw[ij];apply ax (gI ((i+1:Nat):Int)) Q (by simp[go_sem];rw[lL]);refine u _ _ ⟨i+1,_,qZ,rfl,m.trans r,λj f I=>?_⟩ (by grind);by_cases P:j=i
   ·subst P;exact hp
   ·grind
 ·obtain rfl:i=l.length:=qZ;refine eK ?_
  have:qI l p= -1:=by
   unfold qI
   have:l.findIdx? p=none:=by
    rw[dC];intro x O;obtain⟨j,f,rfl⟩:=bM O;exact k j f f
   rw[this]
  have q:=D _ m;rw[this]at q;exact q
end Go.Proofs
set_option maxRecDepth 100000
set_option maxHeartbeats 1000000
namespace Go.Proofs
open Go Go.Vc
attribute [local congr] aZ
variable {buy:Bool}{l:List Od}{F:NP_}{s p:Nat}{o:Od}{w W:Wt_}{K:aY}
def Od.may(o:Od):Bool:=decide (o.num≠0)&& decide (o.acct≠0)&& aW o.price 1 MP&& aW o.left 1 1000000
def jQ(o:Od):Value:=.agg (dx o).toArray
def nZ:Od:=⟨0,0,false,0,0⟩
def ip(buy:Bool)(a b:Int):Bool:=if buy then decide (b<a)else decide (a<b)
def Ee(buy:Bool)(l:List Od)(price:Int):Nat:=(l.findIdx? λx=>ip buy price x.price).getD l.length
def sk(buy:Bool)(l:List Od)(o:Od):List Od:=l.take (Ee buy l o.price)++o::l.drop (Ee buy l o.price)
def oX(buy:Bool)(l:List Od)(o:Od):Int×List Od:=
 if¬o.may\/o.buy≠buy then(2,l)else if(l.any λx=>decide (x.num=o.num))then(8,l)else if 100<=l.length then(9,l)else(0,sk buy l o)
def nz(l:List Od)(n:Int):Option Od:=l.find? λx=>decide (x.num=n)
def ot(l:List Od)(n:Int):List Od:=l.eraseP λx=>decide (x.num=n)
def qz(l:List Od)(n left:Int):Int×List Od:=
 match l.findIdx? λx=>decide (x.num=n)with
 |none=>(7,l)
 |some i=>match l[i]? with
  |none=>(7,l)
  |some o=>if left<1\/o.left<left then(2,l)else(0,l.set i {o with left:=left})
def kG(l:List Od)(n:Int):List Od:=
 match l with
 | []=>[]
 |o::r=>if o.left - n=0 then r else{o with left:=o.left - n}::r
def iN(buy:Bool)(l:List Od)(price:Int)(acct:Int):Int:=
 (((l.takeWhile λo=> !ip buy price o.price).filter λo=>decide (o.acct≠acct)).map (·.left)).sum
def tK(o:Od)(w:Wt_):∃a,(Instr.box ji (jQ o)).run pQ w=.ok (bO w.heap.size 0) a/\hC a w.heap.size (dx o).toArray ji/\M0 w a:=
 ⟨w.alloc (.cells (dx o).toArray ji),rfl,by simp[go_sem],(aS.refl _ w).alloc _⟩
def uN(b:∀g,M0 w g->K (.bool o.may) g):Ca pQ 225 #[jQ o] w K:=by
 refine cN Tryz.func225 ?_;obtain⟨j,h,a,i⟩:=tK o w;have b:=b _ i;apply bh h;unfold Od.may aW MP at b;unfold dx at a;refine dE a ?_;refine dE a ?_;by_cases c:o.num=0
 ·refine ey c ?_;simpa [c]using b
 refine dB c ?_;refine dE a ?_;refine dE a ?_;by_cases h1:o.acct=0
 ·refine ey h1 ?_;simpa [h1]using b
 refine dB h1 ?_;refine dE a ?_;refine dE a ?_;by_cases d:1<=o.price
 ·refine dB d ?_;refine dE a ?_;refine dE a ?_;by_cases e:o.price<=10000000
  ·refine dB e ?_;refine dE a ?_;refine dE a ?_;by_cases f:1<=o.left
   ·refine dB f ?_;refine dE a ?_;refine dE a ?_;refine dq ?_;simpa [c,h1,d,e,f]using b
   ·refine ey f ?_;simpa [c,h1,d,e,f]using b
  ·refine ey e ?_;simpa [c,h1,d,e]using b
 ·refine ey d ?_;simpa [c,h1,d]using b
structure gT(w:Wt_)(s:Nat)(F:NP_)(buy:Bool)(l:List Od):Prop where
 out:∃sl,hC w s #[.bool true,.bool buy,sl] 331/\qp w sl l/\(∀b,F b↔b=s\/aK sl b)/\¬aK sl s
 len:l.length<=100
 may:∀o∈l,o.may=true/\o.buy=buy/\o.Fit
def gT.mod{G:NP_}{w' :Wt_}(h:gT w s F buy l)(d:aS G w w')(c:∀b,F b->¬G b):gT w' s F buy l:=by
 obtain⟨⟨sl,h1,e,a,g⟩,i,j⟩:=h;exact⟨⟨sl,d.hpk h1 (c s ((a s).2 (.inl rfl))),e.mod d λb f=>c b ((a b).2 (.inr f)),a,g⟩,i,j⟩
def gT.lt(h:gT w s F buy l){b:Nat}(a:F b):b<w.heap.size:=by
 obtain⟨⟨sl,h1,c,d,f⟩,g,e⟩:=h;rcases(d b).1 a with rfl|a
 ·exact ay h1
 ·exact c.lt a
def gT.self(h:gT w s F buy l):F s:=by
 obtain⟨⟨sl,h1,c,a,d⟩,e,b⟩:=h;exact(a s).2 (.inl rfl)
def dg(s:Nat):Value:=bO s 0
def E4(c:∀s F a,gT a s F buy []->M0 w a->(∀b,F b->w.heap.size<=b)->K (dg s) a):Ca pQ 153 #[.bool buy] w K:=by
 refine cN Tryz.func153 ?_;simp[go_sem];refine c _ (λb=>b=w.heap.size) _ ⟨⟨.slice none 0 0,by simp[go_sem],gD.nil _ _ _,λb=>⟨λh=>.inl h,λh=>by rcases h with h|h;exact h;cases h⟩,λh=>by cases h⟩,by simp,λo h=>by cases h⟩ kU λb d=>by grind
def pB(h:gT w s F buy l)(a:K (.bool true) w):Ca pQ 240 #[dg s] w K:=by
 obtain⟨⟨sl,h1,c,f,d⟩,e,b⟩:=h;unfold dg;refine cN Tryz.func240 ?_;refine jZ ?_;simp only[cj];refine dE h1 ?_;refine dE h1 ?_;exact a
def Bt{x y:Int}(h:gT w s F buy l)(a:K (.bool (ip buy x y)) w):Ca pQ 280 #[dg s,gI x,gI y] w K:=by
 obtain⟨⟨sl,h1,b,e,c⟩,d,f⟩:=h;unfold dg;refine cN Tryz.func280 ?_;simp only[cj];refine dE h1 ?_;refine dE h1 ?_;unfold ip at a;cases buy with
 |true=>
  rw[jV];refine dq ?_;simpa using a
 |false=>
  rw[ij];refine dq ?_;simpa using a
def Qg{n:Int}(h:gT w s F buy l)
  (o:∀g,M0 w g->K (gI (qI l λx=>decide (x.num=n))) g):Ca pQ 321 #[dg s,gQ n] w K:=by
 obtain⟨⟨sl,h1,m,z,v⟩,y,B⟩:=h;unfold dg;refine cN Tryz.func321 ?_;have c:M0 w (w.alloc (.cells #[.int .u64 n] 37)):=kU;obtain⟨p,b⟩:=df w.heap.size;apply ax (bO p 0) (w.alloc (.cells #[.int .u64 n] 37)) (by rw[b];simp[go_sem]);have f:hC (w.alloc (.cells #[.int .u64 n] 37)) p #[.int .u64 n] 37:=by rw[b];simp[go_sem]
 generalize w.alloc (.cells #[.int .u64 n] 37)=u at c f|-;have a:=c.hpk h1 id;simp only[cj];refine dE a ?_;refine dE a ?_;refine vu (m.mod c dS).rd qZ ⟨_,_,rfl,λx A W j D e=>?_⟩ λC k=>o _ (c.trans k);refine cN Tryz.func362 ?_;obtain⟨q,t,d,i⟩:=tK x W;apply bh t;unfold dx at d;have r:=i.hpk (j.hpk f id) id;refine dE d ?_;refine dE d ?_;refine dE r ?_;apply ax (.bool (decide (x.num=n))) q (by simp[go_sem];rw[dr];simp);exact e _ i
def un{α:Type}{l:List α}{p:α->Bool}{i:Nat}(h:l.findIdx? p=some i):∃a:i<l.length,p l[i]=true/\l.find? p=some l[i]/\qI l p=(i:Int):=by
 obtain⟨a,h1,c⟩:=bp.1 h;refine⟨a,h1,?_,by unfold qI;rw[h]⟩;rw[dJ];exact⟨h1,i,a,rfl,λj b=>by simpa using c j b⟩
def vW{α:Type}{l:List α}{p:α->Bool}(h:l.findIdx? p=none):l.find? p=none/\qI l p= -1:=by
 refine⟨?_,by unfold qI;rw[h]⟩;rw[dC]at h;rw[dU];exact λx a=>by rw[h x a];simp
def O2{n:Int}(h:gT w s F buy l)
  (a:∀c,M0 w c->K (.tuple #[.int .i64 ((l.findIdx? λx=>decide (x.num=n)).getD 0:Nat),gI (if(l.findIdx? λx=>decide (x.num=n)).isSome then 0 else 7)]) c):Ca pQ 310 #[dg s,gQ n] w K:=by
 unfold dg;refine cN Tryz.func310 ?_;apply pB h;refine eK ?_;refine Qg h λf d=>?_;have a:=a _ d;cases b:l.findIdx? λx=>decide (x.num=n)with
 |none=>
  rw[b]at a;rw[(vW b).2];refine eK ?_;simpa using a
 |some i=>
  rw[b]at a;obtain⟨_,_,_,e⟩:=un b;rw[e];refine jZ ?_;simpa using a
def XX{off:Nat}{C:Array Value}{T:TypeId}(h:hC W p C T)(hs:off+5<=C.size):
  (iS ji (bO p off) (jQ o)).run pQ W=.ok () (W.setRow p (iC C.toList off (dx o)).toArray):=by
 have h1:=sy (P:=pQ) (t:=ji) (w:=W) (b:=p) (off:=off) (cs:=dx o) (n:=4) zi rfl h hs (lQ o);exact h1
def kX{off:Nat}(h:At W p off (dx o)):(iL ji (bO p off)).run pQ W=.ok (jQ o) W:=
 fK (P:=pQ) (t:=ji) cy zi rfl h
def jE(w:Wt_):∃a,(iA ji true (.tuple #[])).run pQ w=.ok (bO w.heap.size 0) a/\hC a w.heap.size (dx nZ).toArray ji/\M0 w a:=
 ⟨w.alloc (.cells (dx nZ).toArray ji),by simp[go_sem,dx,nZ],by simp[go_sem],(aS.refl _ w).alloc _⟩
def jf{o' :Od}{T:TypeId}(h:hC W p (dx o).toArray T):
  ∃a,(iS ji (bO p 0) (jQ o')).run pQ W=.ok () a/\hC a p (dx o').toArray T/\aS (λb=>b=p) W a:=by
 refine⟨_,XX h (az _),?_,(aS.refl (λb=>b=p) W).setRow (.inl rfl) _⟩;show(W.setRow p _).heap[p]? =_;have c:W.heap[p]? =some (.cells (dx o).toArray T (0,0)):=h;rw[d9,ae rfl,c,lR (by rfl)]
end Go.Proofs
