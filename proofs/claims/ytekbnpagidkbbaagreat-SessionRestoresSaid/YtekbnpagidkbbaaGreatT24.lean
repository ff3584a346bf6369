/- Part of a proof. -/
import Derived.Laws.BitsAllLaws
import Derived.Laws.DeepNot64
import Derived.Test.YtekbnpagidkbbaaGreatT23
set_option linter.all false
set_option maxRecDepth 100000
set_option maxHeartbeats 4000000
namespace Go.Proofs
open Go Go.Vc
attribute [local congr] bj
variable {S:ba}
def CR(S:ba)(i:Nat):List Po:=(S.nums.take i).flatMap S.led.holders
def Co(S:ba)(i:Nat):List (Int×Od):=(S.nums.take i).flatMap λn=>(S.bk n).all.map λo=>(n,o)
def BL(S:ba)(i:Nat):List (Int×Od):=(S.nums.take i).flatMap λn=>(S.bd n).map λo=>(n,o)
def ao7{i:Nat}(hi:i<S.cal.l.length):S.nums.take (i+1)=S.nums.take i++[S.cal.l[i].spec.num]:=by
 have a:i<S.nums.length:=by unfold ba.nums;rw[af];exact hi
 rw[bV a];simp[ba.nums]
def Qp(h:S.led.Ok)(i:Nat):(CR S i).length<=64*i:=by
 unfold CR;induction i with
 |zero=>simp
 |succ i a=>
  by_cases b:i<S.nums.length
  ·rw[bV b,bD,ad];have:=qh h S.nums[i];simp only[aT,bo,aC];omega
  ·rw[ay qZ];rw[ay qZ]at a;omega
def Ii(h:rE S)(i:Nat):(Co S i).length<=200*i:=by
 unfold Co;induction i with
 |zero=>simp
 |succ i a=>
  by_cases b:i<S.nums.length
  ·rw[bV b,bD,ad];have e:=(h.side S.nums[i] true).1;have d:=(h.side S.nums[i] false).1
   have f:((S.bk S.nums[i]).all.map λo=>(S.nums[i],o)).length<=200:=by
    rw[af];unfold Bk.all;rw[ad];omega
   simp only[aT,bo,aC];omega
  ·rw[ay qZ];rw[ay qZ]at a;omega
def Hj(h:rE S)(i:Nat):(BL S i).length<=50*i:=by
 unfold BL;induction i with
 |zero=>simp
 |succ i a=>
  by_cases b:i<S.nums.length
  ·rw[bV b,bD,ad];have d:=h.bdl S.nums[i];simp only[aT,bo,aC,af];omega
  ·rw[ay qZ];rw[ay qZ]at a;omega
section
variable{w:Wt_}{K:be}{v c l mb md:Nat}{A:List (Int×Nat)}{D:List (Int×Value)}{fp:Pt->Nat->Prop}{S:ba}
end
end Go.Proofs
namespace Go.Proofs
open Go Go.Vc
attribute [local congr] bj
def Er{W:Wt_}{p off:Nat}{k:Ct}(h:At W p off (dh k)):At W p off (fk k.spec):=by
 have:=h.sub 0 25 (by rw[bC];omega)
 have e:((dh k).drop 0).take 25=fk k.spec:=by
  show(fk k.spec++_).take 25=_;rw[<-bb k.spec,df]
 rw[e]at this;exact this
def IN(n:Int)(k:Ct)(l:List Ct):vI n (k::l)=(decide (n<k.spec.num)&& (decide (1<=k.st)&& (decide (k.st<=3)&& (k.spec.isPrice k.price&& vI k.spec.num l)))):=rfl
end Go.Proofs
namespace Go.Proofs
open Go Go.Vc
attribute [local congr] bj
abbrev Ve:TypeId:=132
def yY(x:Int×Od):Value:=.agg (mH x).toArray
def Yq(L:bq)(a:Int):L.stB a=(decide ((L.getV a).2=0)&& (!(L.getV a).1.dfl&& !(L.getV a).1.kil)):=by
 unfold bq.stB bq.getV;cases L.getO a with
 |none=>simp
 |some x=>simp
end Go.Proofs
namespace Go.Proofs
open Go Go.Vc
attribute [local congr] bj
variable {W:Wt_}
def Yc:Tryz.prog.cellsOf Ve=5+1:=cH
def zV:Tryz.prog.underlying 56=some (.slice Ve):=cH
def JU{p off:Nat}{x:Int×Od}(h:At W p off (mH x)):(iL Ve (cU p off)).run pQ W=.ok (yY x) W:=
 ft (P:=pQ) (t:=Ve) cH Yc rfl h
def af9{s:Vt_}{L:List (Int×Od)}(h:Rd W 6 s L.length (L.flatMap mH)){i:Nat}(hi:i<L.length):
  ∃b a,(∀e k,(iX 56 s (.int k (i:Int))).run pQ e=.ok (cU b a) e)/\At W b a (mH L[i]):=by
 obtain⟨b,a,g,d,f,j⟩:=h.item (show∀x,(mH x).length=6 from λ_=>rfl) hi rfl;exact⟨b,a+i*6,λe k=>by rw[d];simp[go_sem,hi,bQ,zV],j⟩
def Z9{b off:Nat}{x:Int×Od}(h:At W b off (mH x)):(iL 45 (cU b off)).run pQ W=.ok (gU x.1) W:=by
 obtain⟨C,e,f,hC,d⟩:=h.get;have a:=d 0 (gU x.1) rfl;rw[bM]at a;simp[go_sem,cO hC,a]
def JB(x:Int×Od)(l:List (Int×Od))(U:List Int)(S:ba):oJ (x::l) U S=if S.stnd true U x=false then none
  else if(cE (S.bk x.1) x.2 4).1≠0\/(cE (S.bk x.1) x.2 4).2.2.gone≠ []then none
  else oJ l (x.2.num::U) {S with bk:=eR S.bk x.1 (cE (S.bk x.1) x.2 4).2.1}:=rfl
def JI(x:Int×Od)(l:List (Int×Od))(a:Option Int)(n:Int)(U:List Int)(S:ba):qR (x::l) a n U S=if S.stnd false U x=false then none
  else if x.2.num<=(if a≠none/\a≠some x.1 then 0 else n)then none
  else if 50<=(S.bd x.1).length then none
  else qR l (some x.1) x.2.num (x.2.num::U) {S with bd:=eR S.bd x.1 (S.bd x.1++[x.2])}:=rfl
def Ak(l:List (Int×Od))(i:Nat):Option Int:=if i=0 then none else l[i - 1]?.map (·.1)
def DV{l:List (Int×Od)}{i:Nat}(h:i<l.length):Ak l (i+1)=some l[i].1:=by
 unfold Ak;rw[aa qZ,gm,ao h];rfl
section
variable{w:Wt_}{K:be}{v c l mb md mn sb:Nat}{A:List (Int×Nat)}{D:List (Int×Value)}{fp:Pt->Nat->Prop}{S0:ba}{ss:Nat->Value}{s:zi}
end
end Go.Proofs
namespace Go.Proofs
open Go Go.Vc
attribute [local congr] bj
def sm{α:Type}{A:List α}{i:Nat}(hi:i<A.length):A.take (i+1)=A.take i++[A[i]]:=by
 rw[fN,ao hi];rfl
def MZ{A:List Ac}{i:Nat}(hi:i<A.length):((A.take (i+1)).map (·.cash)).sum=((A.take i).map (·.cash)).sum+A[i].cash:=by
 rw[sm hi,aK,fK];simp
def PA.sum{A:List Ac}(h:PA A)(hl:A.length<=64):0<=(A.map (·.cash)).sum/\(A.map (·.cash)).sum<=64000000000000000:=by
 have c:=E4 (l:=A.map (·.cash)) (B:=1000000000000000) λx d=>by
  obtain⟨a,b,rfl⟩:=aD.1 d;have:=fE.1 (h.num a b).2;simp only[MF]at this;omega
 rw[af]at c
 have i:0<=(A.map (·.cash)).sum:=by
  clear c hl
  have:∀x∈A.map (·.cash),0<=x:=λx d=>by
   obtain⟨a,b,rfl⟩:=aD.1 d;exact(fE.1 (h.num a b).2).1
  generalize A.map (·.cash)=l at this;induction l with
  |nil=>simp
  |cons x l f=>
   have c:=this x ai;have g:=f λy e=>this y (ae _ e);rw[bp];omega
 omega
end Go.Proofs
namespace Go.Proofs
open Go Go.Vc
attribute [local congr] bj
def xy{κ ν:Type} [DecidableEq κ]{L:List (κ×ν)}{k:κ}{v:ν}(h:∀p∈L,p.1≠k):put L k v=L++[(k,v)]:=by
 induction L with
 |nil=>rfl
 |cons p L c=>
  obtain⟨a,b⟩:=p;have d:a≠k:=h (a,b) ai;simp only[put,aa d,ej];rw[c λx e=>h x (ae _ e)]
def z5(f:Int)(A:List Ac):List (Int×Ac):=(0,jX f)::A.map λa=>(a.num,a)
def Kd(P:List Po):List ((Int×Int)×Po):=P.map λp=>(p.key,p)
def O2{f:Int}{A:List Ac}(h:PA A){i:Nat}(hi:i<A.length):put (z5 f (A.take i)) A[i].num A[i]=z5 f (A.take (i+1)):=by
 rw[xy,sm hi]
 ·simp only[z5,aK,ej,aH,ed]
 ·intro p hp;rcases aq.1 hp with rfl|hp
  ·have:=(h.num A[i] (ar hi)).1;simp only;omega
  ·obtain⟨a,b,rfl⟩:=aD.1 hp;have:a.num<A[i].num:=wY h.srt hi b;simp only;omega
def Nv{P:List Po}{i:Nat}(hi:i<P.length){c la q b:Int}(h:xx (P.take i) c la q b)(d:vD (c,la) P[i].key=true):put (Kd (P.take i)) P[i].key P[i]=Kd (P.take (i+1)):=by
 rw[xy,sm hi]
 ·simp only[Kd,aK,aH,ed]
 ·intro p hp;obtain⟨a,e,rfl⟩:=aD.1 hp;exact tG (yj (h.top a e) d)
def NZ{f:Int}{A:List Ac}{n:Int}(a:n≠0):(lk (z5 f A) n).isSome=true↔∃x∈A,x.num=n:=by
 have:lk (z5 f A) n=A.find? λx=>decide (x.num=n):=by
  rw[<-FE];simp only[z5,lk,aa (jW a)]
 rw[this,List.find?_isSome];simp
end Go.Proofs
namespace Go.Proofs
open Go Go.Vc
attribute [local congr] bj
section
variable{w:Wt_}{b:Nat}{d nx fu:Int}{ss:Nat->Value}
end
end Go.Proofs
namespace Go.Proofs
open Go Go.Vc
def yg(ss:Nat->Value)(s:zi):As:=⟨λw F=>(∀i,3<=i->i<=7->il w (stE i) (stK i) (ss i) (LN s.accts s.cts s.poss s.ords s.bids i) (LC s.accts s.cts s.poss s.ords s.bids i))/\∀b,F b↔∃i,3<=i/\i<=7/\aQ (ss i) b,λh hb=>by
  obtain⟨i,h1,h2,h3⟩:=(h.2 _).1 hb;exact(h.1 i h1 h2).lt h3,λh m hg=>⟨λi h1 h2=>(h.1 i h1 h2).mod m λb hb=>hg b ((h.2 b).2 ⟨i,h1,h2,hb⟩),h.2⟩⟩
def C1{S:ba}(h:S.Ok):(S.state.accts.length<=64/\S.state.cts.length<=16/\S.state.poss.length<=1024)/\S.state.ords.length<=3200/\S.state.bids.length<=800:=by
 have d:=h.cal.len;have c:=h.led.led.len;have b:=Ii h.ord S.nums.length;have a:=Hj h.ord S.nums.length;have e:S.nums.length=S.cal.l.length:=by unfold ba.nums;rw[af]
 unfold Co at b;unfold BL at a;rw[aL,e]at b a;exact⟨⟨c,d,by rw[nR h];exact sL h.cal h.led⟩,by show(S.nums.flatMap _).length<=_;omega,by show(S.nums.flatMap _).length<=_;omega⟩
section
variable{L L0 M M' :List As}{φ:WP}{K:Value->WP}{v:Nat}{S:ba}{ss tt:Nat->Value}{x:Cm}{w0:Wt_}
def RD(a:∀v,Gs (nB v ba.empty::L) (K (eE v))):Gs L (Cw pQ 8 #[] K):=Vm λv c l mb md=>pM (C:=ba.empty.cal) nQ.nil (a v)
def Xp(a:S.Ok)(c:x.Fit)(b:∀t g u,Yr (S.apply x).1->Gs (nB v (S.apply x).2::Ey (eM t (S.apply x).1.trades.length) (S.apply x).1.trades::tX (eM g (S.apply x).1.gone.length) (S.apply x).1.gone::CM (eM u (S.apply x).1.accts.length) (S.apply x).1.accts::L) (K (Ka (S.apply x).1 (eM t (S.apply x).1.trades.length) (eM g (S.apply x).1.gone.length) (eM u (S.apply x).1.accts.length))))(p:bL L0 (nB v S::L):=by exact gy):
  Gs L0 (Cw pQ 15 #[eE v,Aa x] K):=(OM a c b).pk p
def WN(p:bL L (uu w0 (λ_=>False)::M)):∀w,Ss w L->M0 w0 w:=λw y=>(fg p y).elim λF h=>h.2
end
end Go.Proofs
namespace Go.Proofs
open Go Go.Vc
end Go.Proofs
namespace Go.Vc
variable {l:List UInt8}{n:Nat}
def eF(n:Nat):List UInt8:=if n<128 then [UInt8.ofNat n]else UInt8.ofNat (n%128+128)::eF (n / 128)
 termination_by n
 decreasing_by omega
def mU(h:n<128):eF n=[UInt8.ofNat n]:=by rw[eF,ab h]
def xS(h:¬n<128):eF n=UInt8.ofNat (n%128+128)::eF (n / 128):=by rw[eF,aa h]
def Bx:∀(k n:Nat),n<128 ^ (k+1)->(eF n).length<=k+1
 |0,n,h=>by rw[mU (by simpa using h)];simp
 |k+1,n,h=>by
  by_cases a:n<128
  ·rw[mU a];simp
  ·rw[xS a];have:=Bx k (n / 128) (by grind);simp only[aR];omega
def Jt(h:n<18446744073709551616):(eF n).length<=10:=Bx 9 n (br h (by decide))
def DW(h:n<256):(UInt8.ofNat n).toNat=n:=by simp;omega
def CG:List UInt8->Nat->Nat->Except Nat (Nat×Nat)
 | [],_,_=>.error 4
 |x::r,k,acc=>
  if k=9/\1<x.toNat\/9<k then .error 5
  else if x.toNat<128 then(if x.toNat=0/\0<k then .error 5 else .ok (acc+x.toNat%128*128 ^ k,k+1))
  else CG r (k+1) (acc+x.toNat%128*128 ^ k)
def xd:∀(j n k acc:Nat) (r:List UInt8),n<128 ^ (j+1)->k+j=9->n*128 ^ k<18446744073709551616->(0<n\/k=0)->CG (eF n++r) k acc=.ok (acc+n*128 ^ k,k+(eF n).length)
 |j,n,k,acc,r,c,i,g,f=>by
  by_cases a:n<128
  ·rw[mU a];simp only[ej,cX,CG,DW (show n<256 by omega),dq]
   have b:¬(k=9/\1<n\/9<k):=by
    rintro(⟨rfl,h⟩|h)
    ·grind
    ·omega
   rw[aa b,ab a,aa (by omega),nj a]
  ·rw[xS a];cases j with
   |zero=>simp at c;omega
   |succ j=>
    have b:¬(k=9/\1<n%128+128\/9<k):=by omega
    have d:(n%128+128)%128=n%128:=by omega
    simp only[ej,CG,DW (show n%128+128<256 by omega),aR];rw[aa b,aa (by omega),d]
    have e:n%128*128 ^ k+n / 128*128 ^ (k+1)=n*128 ^ k:=by
     rw[nM,eb (128 ^ k) 128,<-gF,<-dY];congr 1;omega
    rw[xd j (n / 128) (k+1) _ r (by grind) (by omega) (by omega) (by omega),fd,e];congr 2;omega
def wy(r:List UInt8)(h:n<18446744073709551616):CG (eF n++r) 0 0=.ok (n,(eF n).length):=by
 have:=xd 9 n 0 0 r (br h (by decide)) rfl (by simpa using h) (.inr rfl);simpa using this
def wI:∀(l:List UInt8) (k acc n m:Nat),CG l k acc=.ok (n,m)->k<=9->
  ∃d,n=acc+d*128 ^ k/\m=k+(eF d).length/\(eF d).length<=l.length/\l.take (eF d).length=eF d/\(0<d\/k=0)/\d*128 ^ k<18446744073709551616
 | [],_,_,_,_,h,_=>by cases h
 |x::r,k,acc,n,m,h,H=>by
  have J:=x.toNat_lt;simp only[CG]at h;by_cases q:k=9/\1<x.toNat\/9<k
  ·grind
  rw[aa q]at h;have c:UInt8.ofNat x.toNat=x:=by simp
  have w:128 ^ k*128 ^ (9 - k)=9223372036854775808:=by
   rw[<-mC,show k+(9 - k)=9 by omega]
  by_cases a:x.toNat<128
  ·rw[ab a]at h;by_cases v:x.toNat=0/\0<k
   ·grind
   rw[aa v]at h;cases h;refine⟨x.toNat,by grind,?_,?_,?_,by omega,?_⟩
   ·rw[mU a];rfl
   ·rw[mU a];simp
   ·rw[mU a,c];simp
   ·by_cases A:k=9
    ·grind
    ·have D:128 ^ k<=128 ^ 8:=iZ (by decide) (by omega);have I:=gj (show x.toNat<=127 by omega) D;have e:(127:Nat)*128 ^ 8<18446744073709551616:=by decide
     omega
  ·rw[aa a]at h;have B:k≠9:=λe=>q (.inl ⟨e,by omega⟩);obtain⟨d,g,u,y,j,F,C⟩:=wI r (k+1) _ n m h (by omega);have t:0<d:=by omega
   have z:(x.toNat%128+d*128) / 128=d:=by omega
   have p:(x.toNat%128+d*128)%128+128=x.toNat:=by omega
   have o:eF (x.toNat%128+d*128)=x::eF d:=by rw[xS (by omega),z,p,c]
   have s:(x.toNat%128+d*128)*128 ^ k=x.toNat%128*128 ^ k+d*128 ^ (k+1):=by
    rw[dY,nM,eb (128 ^ k) 128,gF]
   refine⟨x.toNat%128+d*128,?_,?_,?_,?_,by omega,?_⟩
   ·rw[g,s];omega
   ·grind
   ·grind
   ·rw[o];simp[j]
   ·rw[s]
    have E:x.toNat%128*128 ^ k<128 ^ (k+1):=by
     rw[nM,eb];exact Nat.mul_lt_mul_of_pos_left (fV _ (by decide)) (Nat.pow_pos (by decide))
    have b:128 ^ (k+1)*128 ^ (8 - k)=9223372036854775808:=by
     rw[<-mC,show k+1+(8 - k)=9 by omega]
    have i:d<2*128 ^ (8 - k):=by
     apply aS;intro G;have:=cz (128 ^ (k+1)) (kA G);rw[gF,eb (128 ^ (8 - k)),b]at this;omega
    have f:=cz (128 ^ (k+1)) (show d+1<=2*128 ^ (8 - k)from i);rw[gF,eb (128 ^ (8 - k)),b,dY]at f;omega
def Th{m:Nat}(h:CG l 0 0=.ok (n,m)):m=(eF n).length/\m<=l.length/\l.take m=eF n/\n<18446744073709551616:=by
 obtain⟨d,c,b,f,e,_,a⟩:=wI l 0 0 n m h (by omega);simp only[Nat.pow_zero,mq,cI]at c b a;subst c;subst b;exact⟨rfl,f,e,a⟩
structure Rs where
 at_:Nat
 e:Nat
def ew(l:List UInt8)(most:Nat)(s:Rs):Nat×Rs:=
 if s.e≠0 then(0,s)else
 match CG (l.drop s.at_) 0 0 with
 | .error e=>(0,{s with e:=e})
 | .ok (n,k)=>if most<n then(0,{s with e:=5})else(n,{s with at_:=s.at_+k})
def wq(l:List UInt8)(most:Nat)(s:Rs):List UInt8×Rs:=
 if s.e≠0 then([],s)else
 match CG (l.drop s.at_) 0 0 with
 | .error e=>([],{s with e:=e})
 | .ok (n,k)=>if most<n then([],{s with e:=3})else if l.length - (s.at_+k)<n then([],{s with e:=4})else((l.drop (s.at_+k)).take n,{s with at_:=s.at_+k+n})
def kO(l:List UInt8)(s:Rs):Nat:=if s.e=0/\s.at_<l.length then 5 else s.e
def oP{most:Nat}{s:Rs}:(ew l most s).1<=most:=by
 unfold ew;split
 ·exact aw _
 ·split
  ·exact aw _
  ·split
   ·exact aw _
   ·grind
structure Tn where
 c:Nat
 q:Nat
 b:List UInt8
def Tn.May(o:Tn):Prop:=o.c<64/\o.q≠0/\o.b.length<=2000
instance(o:Tn):Decidable o.May:=by unfold Tn.May;infer_instance
def fT(b:List UInt8):List UInt8:=eF b.length++b
def fl(o:Tn):List UInt8:=eF o.c++eF o.q++fT o.b
def Na{s:Rs}{b a r:List UInt8}{most:Nat}(hl:l=a++(eF b.length++(b++r)))(g:s.at_=a.length)(d:s.e=0)(i:b.length<=most)(h:most<18446744073709551616):
  wq l most s=(b,⟨(a++eF b.length++b).length,0⟩):=by
 have e:l.drop s.at_=eF b.length++(b++r):=by grind
 have c:l.drop (s.at_+(eF b.length).length)=b++r:=by grind
 unfold wq;rw[aa (by simp[d]),e,wy _ (by omega)];simp only;have f:l.length=a.length+((eF b.length).length+(b.length+r.length)):=by rw[hl];simp
 rw[aa (by omega),aa (by omega),c,df,g,d];simp[fd]
end Go.Vc
namespace Go.Proofs
open Go Go.Vc
attribute [local congr] bj
variable {l:List UInt8}{r:Nat}{s:Rs}{v:Vt_}{w:Wt_}{K:be}
def O5:fj pQ 5 1 1=true:=cH
def u8C:Tryz.prog.cellsOf 5=0+1:=cH
abbrev ZP:TypeId:=28
def vE:Tryz.prog.underlying ZP=some (.slice 5):=Tryz.underlying28
def VK(n:Nat):bits .or .u8 (IntKind.u8.wrap (n:Int)) 128=((UInt8.ofNat (n%128+128)).toNat:Int):=by
 have a:IntKind.u8.wrap (n:Int)=((n%256:Nat):Int):=by rw[iC];omega
 have b:(UInt8.ofNat (n%128+128)).toNat=n%128+128:=DW qZ;rw[a,show(128:Int)=((128:Nat):Int)from rfl,u8_or_nat _ _ qZ qZ,b];congr 1;have h:∀m:Fin 256,m.val|||128=m.val%128+128:=by decide
 have:=h ⟨n%256,qZ⟩;simp only at this;rw[this];omega
def VC{s:Vt_}{k n:Nat}(h:il w 5 1 s k (bv l))(J:n<18446744073709551616)(O:k<=1000000000)
  (H:∀g u,il u 5 1 g (k+(eF n).length) (bv (l++eF n))->bn (aQ s) w u->(∀b,aQ g b->aQ s b\/w.heap.size<=b)->K g u):
  Ca pQ 72 #[s,gQ n] w K:=by
 refine cN Tryz.func72 ?_
 refine iz (λst W=>∃(m:Nat) (a:List UInt8) (g:Vt_),eF n=a++eF m/\m<=n/\st=(gQ (m:Int),g,())/\il W 5 1 g (k+a.length) (bv (l++a))/\bn (aQ s) w W/\(∀b,aQ g b->aQ s b\/w.heap.size<=b))
  (λst _=>match st.1 with| .int _ i=>i.toNat|_=>0) ⟨n,[],s,rfl,aB _,rfl,by simpa using h,bn.refl _ _,λb o=>.inl o⟩ ?_
 rintro⟨_,_⟩ W ⟨m,a,g,c,P,⟨⟩,C,t,f⟩ N z;refine rT ?_;intro _;have q:=Jt J;rw[c,ad]at q;by_cases F:128<=m
 ·have d:(128:Int)<=(m:Int):=qZ;refine az (.bool true) W (by simp[go_sem,d]) ?_;rw[nO];refine az (gB (IntKind.u8.wrap (m:Int))) W (by simp[go_sem]) ?_;refine az (gB (bits .or .u8 (IntKind.u8.wrap (m:Int)) 128)) W (by simp[go_sem]) ?_;rw[VK];refine Ye [UInt8.ofNat (m%128+128)] vE (dG O5) rfl rfl qZ λv I A j M=>?_;refine lA (m:=1) vE vE (dG O5) (C.mod j eI) A.rd (yI _) qZ λE D r x y=>?_;refine az (gQ ((m / 128:Nat):Int)) D (by simp[go_sem]) ?_;have B:eF m=UInt8.ofNat (m%128+128)::eF (m / 128):=xS qZ;refine z _ _ ⟨m / 128,a++[UInt8.ofNat (m%128+128)],E,by rw[c,B];simp,qZ,rfl,?_,?_,?_⟩ ?_
  ·rw[<-sX,ag]at r;have e:k+(a++[UInt8.ofNat (m%128+128)]).length=k+a.length+1:=by simp;omega
   rw[e];exact r
  ·exact(t.on j λ_ h=>h.elim).on x f
  ·intro b o;rcases y b o with p|p
   ·exact f b p
   ·have:=(t.on j (G:=λ_=>False) λ_ h=>h.elim).size;omega
  ·grind
 ·have d:¬(128:Int)<=(m:Int):=qZ;refine az (.bool false) W (by simp[go_sem,d]) ?_;rw[lW]
  have L:IntKind.u8.wrap (m:Int)=((UInt8.ofNat m).toNat:Int):=by
   rw[DW qZ,iC];omega
  refine az (gB (IntKind.u8.wrap (m:Int))) W (by simp[go_sem]) ?_;rw[L];refine Ye [UInt8.ofNat m] vE (dG O5) rfl rfl qZ λv I A j M=>?_;refine lA (m:=1) vE vE (dG O5) (C.mod j eI) A.rd (yI _) qZ λE D r x y=>?_;have B:eF m=[UInt8.ofNat m]:=mU qZ;refine H _ _ ?_ ((t.on j λ_ h=>h.elim).on x f) ?_
  ·rw[c,B];rw[<-sX,ag]at r;have e:k+(a++[UInt8.ofNat m]).length=k+a.length+1:=by simp;omega
   rw[e];exact r
  ·intro b o;rcases y b o with p|p
   ·exact f b p
   ·have:=(t.on j (G:=λ_=>False) λ_ h=>h.elim).size;omega
def fJ(r:Nat):Value:=cU r 0
structure gE(w:Wt_)(r:Nat)(v:Vt_)(l:List UInt8)(s:Rs):Prop where
 blk:hp w r=some (.cells #[v,gI s.at_,gI s.e] 260 (0,0))
 rd:Rd w 1 v l.length (bv l)
 le:s.at_<=l.length
 ne:¬vP v r
 len:l.length<=1000000000
def gE.mod{F:NP_}{w' :Wt_}(h:gE w r v l s)(a:bn F w w')(d:¬F r)(c:∀b,vP v b->¬F b):gE w' r v l s:=
 ⟨a.keep h.blk d,h.rd.mod a c,h.le,h.ne,h.len⟩
def gE.lt(h:gE w r v l s):r<w.heap.size:=aJ h.blk
def xk(h:Rd w 1 v l.length (bv l))(hl:l.length<=1000000000)
  (d:∀b,gE b w.heap.size v l ⟨0,0⟩->M0 w b->K (fJ w.heap.size) b):Ca pQ 65 #[v] w K:=by
 obtain⟨a,c,rfl⟩:=h.isSl;refine cN Tryz.func65 ?_;simp[go_sem];refine d _ ⟨?_,h.mod ((bn.refl _ w).alloc _) eI,aw _,λe=>Nat.lt_irrefl _ (h.lt e),hl⟩ ((bn.refl _ w).alloc _);simp[go_sem]
def EW(h:gE w r v l s)(a:K (.bool (decide (s.e≠0))) w):Ca pQ 168 #[fJ r] w K:=by
 unfold fJ;refine cN Tryz.func168 ?_;have c:=h.blk;simp[go_sem,fJ,c]
 have e:((s.e:Int) != 0)=decide (s.e≠0):=by
  by_cases b:s.e=0<;>simp[b]
 first
  |exact a
  |(rw[e];exact a)
  |(simpa using a)
def CH(l:List UInt8)(at_:Nat):Value:=
 match CG (l.drop at_) 0 0 with
 | .error e=>.tuple #[.int .u64 0,gI 0,gI e]
 | .ok (n,k)=>.tuple #[.int .u64 n,gI (at_+k:Nat),gI 0]
def ao9(k:Nat):(2:Int) ^ (7*k)=((128 ^ k:Nat):Int):=by
 rw[Int.pow_mul];simp
def QX(h:gE w r v l s)(G:∀w',M0 w w' ->K (CH l s.at_) w'):Ca pQ 169 #[fJ r] w K:=by
 have H:=h.blk;have hlen:=h.len;obtain⟨v',z,F,hin⟩:=h.rd.from_ (P:=pQ) vE u8C h.le .i64;simp only[cI,mq]at F;rw[L5]at F;unfold fJ;refine cN Tryz.func169 ?_;simp only[fJ,cJ];refine eQ (cU r 0) (λW=>by simp[go_sem]) ?_;refine mE v (by simp[go_sem,H]) ?_;refine eQ (cU r 1) (λW=>by simp[go_sem]) ?_;refine mE (gI s.at_) (by simp[go_sem,H]) ?_;refine eQ v' z ?_;obtain⟨a',c',X⟩:=F.isSl;refine mE (gI ((l.length - s.at_:Nat):Int)) (by rw[X];simp[go_sem]) ?_;have o:=F.mod (bn.refl (λ_=>False) w).drew eI;generalize I:w.drew=U at o|-;have j:M0 w U:=by subst I;exact(bn.refl _ w).drew
 have hb1:hp U r=some (.cells #[v,gI s.at_,gI s.e] 260 (0,0)):=j.keep H id;obtain⟨L,q⟩:=dW (l.drop s.at_);rw[<-q]at o;have hLl:L.length=l.length - s.at_:=by rw[q];simp
 refine iz (λst W=>∃(i acc:Nat),i<=L.length/\i<=9/\acc<128 ^ i/\CG L 0 0=CG (L.drop i) i acc/\(∃x1 x2:Value,st=(gQ (acc:Int),x1,x2,gI (i:Int),()))/\W=U)
  (λst _=>match st.2.2.2.1 with| .int _ i=>10 - i.toNat|_=>0) ⟨0,0,qZ,qZ,by decide,rfl,⟨_,_,rfl⟩,rfl⟩ ?_
 rintro⟨_,_⟩ W ⟨i,acc,hi,Q,hacc,B,⟨x1,x2,⟨⟩⟩,rfl⟩ KN M;refine rT ?_;intro _;by_cases u:i<L.length
 ·obtain⟨b,N,cap,C,e,fz,R,hcap,hC,S⟩:=o.byte (i:=i) qZ u;have hx:=(L[i]).toNat_lt;have Y:L.drop i=L[i]::L.drop (i+1):=bN u;have g:(i:Int)<((l.length - s.at_:Nat):Int):=qZ;refine az (.bool true) W (by simp[go_sem,g]) ?_;rw[bG,ab rfl,R];have D:i<l.length - s.at_:=qZ;refine az (cU b (N+i)) W (by simp[go_sem,D,bQ]) ?_;refine az (gB ((L[i]).toNat:Int)) W (by simp[go_sem,hC,S]) ?_;obtain⟨x,m⟩:=dW ((L[i]).toNat);rw[<-m];rw[<-m]at hx
  have a:CG L 0 0=if i=9/\1<x\/9<i then .error 5
    else if x<128 then(if x=0/\0<i then .error 5 else .ok (acc+x%128*128 ^ i,i+1))
    else CG (L.drop (i+1)) (i+1) (acc+x%128*128 ^ i):=by
   rw[B,Y];simp only[CG];rw[<-m]
  refine dU.at (λst T=>st=(.bool (decide (i=9/\1<x\/9<i)),())/\T=W) ?_ ?_
  ·by_cases Z:i=9
   ·subst Z;refine az (.bool true) W (by simp[go_sem]) ?_;rw[nO];by_cases h1:1<x
    ·have p:(1:Int)<(x:Int):=qZ;refine az (.bool true) W (by simp[go_sem,p]) ?_;rw[nO];exact⟨by simp[h1],rfl⟩
    ·have p:¬(1:Int)<(x:Int):=qZ;refine az (.bool false) W (by simp[go_sem,p]) ?_;rw[lW];refine az (.bool false) W (by simp[go_sem]) ?_;exact⟨by simp[h1],rfl⟩
   ·have J:¬(i:Int)=9:=qZ;have y:¬(9:Int)<(i:Int):=qZ;refine az (.bool false) W (by simp[go_sem,J]) ?_;rw[lW];refine az (.bool false) W (by simp[go_sem,y]) ?_;exact⟨by simp[Z];omega,rfl⟩
  rintro _ W ⟨rfl,rfl⟩;refine qk ?_;intro _;by_cases c:i=9/\1<x\/9<i
  ·rw[ab c]at a;simp only[c,decide_true,bG,de];have:=G _ j;unfold CH at this;rw[<-q,a]at this;exact this
  rw[aa c]at a;simp only[c,nG,bG,bE,dB]
  have ea:bits .and .u8 (x:Int) 127=((x%128:Nat):Int):=by
   rw[show(127:Int)=((127:Nat):Int)from rfl,u8_and_nat _ _ qZ qZ];congr 1;exact Nat.and_two_pow_sub_one_eq_mod x 7
  have hs:x%128*128 ^ i<18446744073709551616:=by
   by_cases Z:i=9
   ·grind
   ·have h8:128 ^ i<=128 ^ 8:=iZ (by decide) qZ;have h7:=gj (show x%128<=127 by omega) h8;have e8:(127:Nat)*128 ^ 8<18446744073709551616:=by decide
    omega
  have f:acc<18446744073709551616:=by
   have h8:128 ^ i<=128 ^ 9:=iZ (by decide) Q;have e9:(128:Nat) ^ 9=9223372036854775808:=by decide
   omega
  have eo:acc|||(x%128*128 ^ i)=acc+x%128*128 ^ i:=by
   have e1:(128:Nat) ^ i=2 ^ (7*i):=by rw[Nat.pow_mul]
   have:=Nat.two_pow_add_eq_or_of_lt (i:=7*i) (b:=acc) (by grind) (x%128);rw[<-e1,eb (128 ^ i)]at this;rw[Nat.or_comm,<-this,nK]
  have hsum:acc+x%128*128 ^ i<18446744073709551616:=by
   rw[<-eo];exact Nat.or_lt_two_pow (n:=64) f hs
  refine az (gB ((x%128:Nat):Int)) W (by simp only[go_sem];simp[-Int.natCast_emod,go_sem,ea]) ?_;refine az (gQ ((x%128:Nat):Int)) W (by simp[-Int.natCast_emod,go_sem,nr (n:=((x%128:Nat):Int)) qZ qZ]) ?_;refine az (gI ((7*i:Nat):Int)) W (by simp[go_sem];rw[ie qZ qZ]) ?_;refine az (gQ ((x%128*128 ^ i:Nat):Int)) W ?_ ?_
  ·have e7:((7*i:Nat):Int).toNat=7*i:=qZ;have e8:¬((7*i:Nat):Int)<0:=qZ;simp[-Int.natCast_mul,-Int.natCast_emod,go_sem,e7,e8];rw[ao9,<-d9,nr qZ qZ]
  refine az (gQ ((acc+x%128*128 ^ i:Nat):Int)) W ?_ ?_
  ·simp only[go_sem];simp[-Int.natCast_add,-Int.natCast_mul,-Int.natCast_emod,go_sem];rw[u64_or_nat _ _ f hs,eo]
  by_cases k:x<128
  ·have d:(x:Int)<128:=qZ;rw[ab k]at a;refine az (.bool true) W (by simp[go_sem,d]) ?_;rw[nO];refine dU.at (λst T=>st=(.bool (decide (x=0/\0<i)),())/\T=W) ?_ ?_
   ·by_cases V:x=0
    ·refine az (.bool true) W (by simp[go_sem,V]) ?_;rw[nO];refine az (.bool (decide ((0:Int)<(i:Int)))) W (by simp[go_sem]) ?_;refine⟨?_,rfl⟩;have e:decide ((0:Int)<(i:Int))=decide (x=0/\0<i):=by grind
     rw[e]
    ·have h0' :¬(x:Int)=0:=qZ;refine az (.bool false) W (by simp[go_sem,V]) ?_;rw[lW];exact⟨by simp[V],rfl⟩
   rintro _ W ⟨rfl,rfl⟩;refine qk ?_;intro _;by_cases E:x=0/\0<i
   ·rw[ab E]at a;simp only[E,and_self,decide_true,bG,de];have:=G _ j;unfold CH at this;rw[<-q,a]at this;exact this
   rw[aa E]at a;simp only[E,nG,bG,bE,dB];have hat:s.at_+i+1<9223372036854775808:=qZ;simp only[fJ,cJ];refine eQ (cU r 1) (λW=>by simp[go_sem]) ?_
   have t:∀A,A.heap=W.heap->(iL 3 (cU r 1)).run pQ A=.ok (gI s.at_) A:=λA e=>by
    have O:hp A r=some (.cells #[v,gI s.at_,gI s.e] 260 (0,0)):=by unfold hp;rw[e];exact hb1
    simp[go_sem,O]
   refine mE (gI s.at_) (t _ rfl) ?_;refine eQ (gI ((s.at_+i:Nat):Int)) (λW=>by simp[go_sem];rw[ie qZ qZ]) ?_;refine eQ (gI ((s.at_+(i+1):Nat):Int)) (λW=>by simp[go_sem];rw[ie qZ qZ];omega) ?_;refine⟨t _ rfl,?_⟩;have:=G _ j.drew;unfold CH at this;rw[<-q,a]at this;exact this
  ·have d:¬(x:Int)<128:=qZ;rw[aa k]at a;refine az (.bool false) W (by simp[go_sem,d]) ?_;rw[lW];refine az (gI ((i+1:Nat):Int)) W (by simp[go_sem];rw[ie qZ qZ]) ?_;have hi9' :i≠9:=λe=>c (.inl ⟨e,qZ⟩);refine M _ _ ⟨i+1,_,qZ,qZ,?_,a,⟨_,_,rfl⟩,rfl⟩ ?_
   ·rw[nM];have:x%128*128 ^ i<=127*128 ^ i:=cz _ qZ;omega
   ·grind
 ·have g:¬(i:Int)<((l.length - s.at_:Nat):Int):=qZ;refine az (.bool false) W (by simp[go_sem,g]) ?_;rw[lW]
  have a:CG L 0 0=.error 4:=by
   rw[B,List.drop_eq_nil_of_le qZ];rfl
  have:=G _ j;unfold CH at this;rw[<-q,a]at this;exact this
end Go.Proofs
namespace Go.Proofs
open Go Go.Vc
attribute [local congr] bj
variable {l:List UInt8}{r:Nat}{s:Rs}{v:Vt_}{w:Wt_}{K:be}
def UW:∀{k acc e:Nat},CG l k acc=.error e->e=4\/e=5:=by
 induction l with
 |nil=>intro k acc e h;cases h;exact .inl rfl
 |cons x r a=>
  intro k acc e h;simp only[CG]at h;split at h
  ·cases h;exact .inr rfl
  ·split at h
   ·split at h
    ·cases h;exact .inr rfl
    ·cases h
   ·exact a h
def gE.fault(h:gE w r v l s)(e:Nat):
  gE (w.setCell ⟨r,2,none⟩ (gI e)) r v l {s with e:=e}/\bn (λb=>b=r) w (w.setCell ⟨r,2,none⟩ (gI e)):=by
 have a:bn (λb=>b=r) w (w.setCell ⟨r,2,none⟩ (gI e)):=(bn.refl (λb=>b=r) w).setCell (.inl rfl) _ _;exact⟨⟨by simp[go_sem,h.blk],h.rd.mod a λb c e=>h.ne (by grind),h.le,h.ne,h.len⟩,a⟩
def gE.go(h:gE w r v l s)(a:Nat)(d:a<=l.length):
  gE (w.setCell ⟨r,1,none⟩ (gI a)) r v l {s with at_:=a}/\bn (λb=>b=r) w (w.setCell ⟨r,1,none⟩ (gI a)):=by
 have c:bn (λb=>b=r) w (w.setCell ⟨r,1,none⟩ (gI a)):=(bn.refl (λb=>b=r) w).setCell (.inl rfl) _ _;exact⟨⟨by simp[go_sem,h.blk],h.rd.mod c λb f e=>h.ne (by grind),d,h.ne,h.len⟩,c⟩
def A0{most:Nat}(h:gE w r v l s)(y:most<18446744073709551616)
  (i:∀x,gE x r v l (ew l most s).2->bn (λb=>b=r) w x->K (gQ (ew l most s).1) x):Ca pQ 67 #[fJ r,gQ most] w K:=by
 unfold fJ;refine cN Tryz.func67 ?_;refine EW h ?_;by_cases t:s.e≠0
 ·rw[bG,ab (by simpa using t)];have j:ew l most s=(0,s):=by unfold ew;rw[ab t]
  rw[j]at i;exact i _ h (bn.refl _ _)
 rw[bG,aa (by simpa using t)]
 have j:ew l most s=match CG (l.drop s.at_) 0 0 with
  | .error e=>(0,{s with e:=e})
  | .ok (n,k)=>if most<n then(0,{s with e:=5})else(n,{s with at_:=s.at_+k}):=by unfold ew;rw[aa t]<;>cases CG (l.drop s.at_) 0 0<;>rfl
 refine QX h λa q=>?_;have g:=h.mod q id eI
 have tail:∀(e n k:Nat) (a:Wt_),gE a r v l s->M0 w a->s.at_+k<=l.length->
   (if e≠0 then ew l most s=(0,{s with e:=e})else ew l most s=(n,{s with at_:=s.at_+k}))->
   WV (fJ r) K (gI (s.at_+k:Nat)) (gQ n) (gI e,()) a:=by
  intro e n k a g q D u;unfold WV;intro _;have B:∀z,bn (λb=>b=r) a z->bn (λb=>b=r) w z:=λz C=>(q.to).trans C;by_cases A:e≠0
  ·rw[ab A]at u;rw[u]at i;have f:¬(e:Int)=0:=qZ;refine az (.bool true) a (by simp[go_sem,f];omega) ?_;rw[nO];obtain⟨o,m⟩:=g.fault e;simp only[fJ,cJ];refine az (cU r 2) a (by simp[go_sem]) ?_;refine nz (a.setCell ⟨r,2,none⟩ (gI e)) (by simp[go_sem,g.blk]) ?_;exact i _ o (B _ m)
  ·rw[aa A]at u;rw[u]at i;have f:(e:Int)=0:=qZ;refine az (.bool false) a (by simp[go_sem,f]) ?_;rw[lW];obtain⟨o,m⟩:=g.go (s.at_+k) D;simp only[fJ,cJ];refine az (cU r 1) a (by simp[go_sem]) ?_;refine nz (a.setCell ⟨r,1,none⟩ (gI (s.at_+k:Nat))) (by simp[-Int.natCast_add,go_sem,g.blk]) ?_;exact i _ o (B _ m)
 cases d:CG (l.drop s.at_) 0 0 with
 |error e=>
  have E:=UW d;unfold CH;rw[d]at j|-;simp only at j|-;refine az (gQ 0) a (by simp[go_sem]) ?_;refine az (gI 0) a (by simp[go_sem]) ?_;refine az (gI e) a (by simp[go_sem]) ?_;refine dU.at (λst W=>st=(gI e,())/\W=a) ?_ ?_
  ·refine dU.at (λst W=>st=(.bool false,())/\W=a) ?_ ?_
   ·have f:¬(e:Int)=0:=qZ;refine az (.bool false) a (by simp[go_sem];omega) ?_;rw[lW];exact⟨rfl,rfl⟩
   ·rintro _ a ⟨rfl,rfl⟩;refine qk ?_;intro _;rw[lW];exact⟨rfl,rfl⟩
  ·rintro _ a ⟨rfl,rfl⟩;have H:e≠0:=qZ;refine qk ?_;intro _;rw[j]at i;refine az (.bool true) a (by simp[go_sem];omega) ?_;rw[nO];obtain⟨o,m⟩:=g.fault e;simp only[fJ,cJ];refine az (cU r 2) a (by simp[go_sem]) ?_;refine nz (a.setCell ⟨r,2,none⟩ (gI e)) (by simp[go_sem,g.blk]) ?_;exact i _ o ((q.to).trans m)
 |ok p=>
  obtain⟨n,k⟩:=p;have F:=Th d;have G:=h.le;rw[bi]at F;unfold CH;rw[d]at j|-;simp only at j|-;refine az (gQ n) a (by simp[go_sem]) ?_;refine az (gI (s.at_+k:Nat)) a (by simp[go_sem]) ?_;refine az (gI 0) a (by simp[go_sem]) ?_;refine dU.at (λst W=>st=(gI (if most<n then 5 else 0:Nat),())/\W=a) ?_ ?_
  ·refine dU.at (λst W=>st=(.bool (decide (most<n)),())/\W=a) ?_ ?_
   ·refine az (.bool true) a (by simp[go_sem]) ?_;rw[nO];refine az (.bool (decide (most<n))) a (by simp[go_sem]) ?_;exact⟨rfl,rfl⟩
   ·rintro _ a ⟨rfl,rfl⟩;refine qk ?_;intro _;by_cases c:most<n
    ·rw[bG,ab (by simpa using c),ab c];simp
    ·rw[bG,aa (by simpa using c),aa c];simp
  ·rintro _ a ⟨rfl,rfl⟩;refine tail (if most<n then 5 else 0) n k _ g q qZ ?_;by_cases c:most<n
   ·grind
   ·grind
def ER(h:gE w r v l s)
  (c:∀a,gE a r v l (ew l 18446744073709551615 s).2->bn (λb=>b=r) w a->K (gQ (ew l 18446744073709551615 s).1) a):Ca pQ 68 #[fJ r] w K:=by
 unfold fJ;refine cN Tryz.func68 ?_;exact A0 h (by decide) c
def Ly(h:gE w r v l s)
  (g:∀f,M0 w f->K (gI (kO l s)) f):Ca pQ 70 #[fJ r] w K:=by
 have b:=h.blk;obtain⟨a,c,rfl⟩:=h.rd.isSl;unfold fJ;refine cN Tryz.func70 ?_;refine az (.bool false) w (by simp[go_sem,fJ]) ?_;rw[lW];refine dU.at (λst W=>st=(.bool (decide (s.e=0/\s.at_<l.length)),())/\W=w.drew) ?_ ?_
 ·simp only[fJ,cJ];refine eQ (cU r 2) (λW=>by simp[go_sem]) ?_;refine mE (gI s.e) (by simp[go_sem,b]) ?_;by_cases e:s.e=0
  ·refine eQ (.bool true) (λW=>by simp[go_sem,e]) ?_;rw[nO];refine eQ (cU r 1) (λW=>by simp[go_sem]) ?_;refine mE (gI s.at_) (by simp[go_sem,b]) ?_;refine eQ (cU r 0) (λW=>by simp[go_sem]) ?_;refine mE (.slice a l.length c) (by simp[go_sem,b]) ?_;refine mE (gI l.length) (by simp[go_sem]) ?_;refine eQ (.bool (decide (s.at_<l.length))) (λW=>by simp[go_sem]) ?_;simp[e]
  ·refine eQ (.bool false) (λW=>by simp[go_sem];omega) ?_;rw[lW];simp[e]
 rintro _ _ ⟨rfl,rfl⟩;refine qk ?_;intro _;have i:M0 w w.drew:=(bn.refl _ w).drew;by_cases d:s.e=0/\s.at_<l.length
 ·rw[bG,ab (by simpa using d)];have:=g _ i;unfold kO at this;rw[ab d]at this;exact this
 ·rw[bG,aa (by simpa using d)];have:=g _ i;unfold kO at this;rw[aa d]at this;simp only[fJ,cJ];refine az (cU r 2) w.drew (by simp[go_sem]) ?_;refine az (gI s.e) w.drew (by simp[go_sem,b]) ?_;exact this
end Go.Proofs
namespace Go.Proofs
open Go Go.Vc
def PO(x:Int):Nat:=if 0<=x then 2*x.toNat else 2*(-x - 1).toNat+1
def WG(n:Nat):Int:=if n%2=0 then(n / 2:Nat)else -((n / 2:Nat):Int) - 1
def V8(x:Int):WG (PO x)=x:=by
 unfold PO;by_cases h:0<=x
 ·rw[ab h];unfold WG;rw[ab qZ];omega
 ·rw[aa h];unfold WG;rw[aa qZ];omega
def EI{x:Int}(h:dM x):PO x<18446744073709551616:=by
 unfold PO;split<;>omega
def Vz{n:Nat}(h:n<18446744073709551616):dM (WG n):=by
 unfold WG;split<;>(constructor<;>omega)
def dL(x:Int):List UInt8:=eF x.toNat
def oR(x:Int):List UInt8:=eF (PO x)
def qx(f:Bool):List UInt8:=[if f then 1 else 0]
def Qh(s:Sp):List UInt8:=
 if s.may then dL s.num++(dL s.route++(dL s.tick++(dL s.lot++(dL s.band++dL s.limit))))++s.shifts.toList.flatMap oR++(dL s.credit++(dL s.last++dL s.first))else []
def I5(a:Ac):List UInt8:=dL a.num++(oR a.cash++(qx a.kil++qx a.dfl))
def JX(k:Ct):List UInt8:=Qh k.spec++(dL k.st++oR k.price)
def Jn(p:Po):List UInt8:=dL p.c++(dL p.a++(oR p.q++oR p.b))
def FO(x:Int×Od):List UInt8:=dL x.1++(dL x.2.num++(dL x.2.acct++(qx x.2.buy++(oR x.2.price++oR x.2.left))))
def vy{α:Type}(f:α->List UInt8)(l:List α):List UInt8:=eF l.length++l.flatMap f
def lH(s:zi):List UInt8:=dL s.day++(dL s.next++(oR s.fund++(vy I5 s.accts++(vy JX s.cts++(vy Jn s.poss++(vy FO s.ords++vy FO s.bids))))))
def cL(l:List UInt8)(most:Nat)(s:Rs):Int×Rs:=((ew l most s).1,(ew l most s).2)
def iB(l:List UInt8)(s:Rs):Int×Rs:=(WG (ew l 18446744073709551615 s).1,(ew l 18446744073709551615 s).2)
def lG(l:List UInt8)(s:Rs):Bool×Rs:=
 if s.e≠0 then(false,s)else if s.at_=l.length then(false,{s with e:=4})
 else if 1<(l.getD s.at_ 0).toNat then(false,{s with e:=5})else(decide ((l.getD s.at_ 0).toNat=1),{s with at_:=s.at_+1})
def vT(e:Nat)(s:Rs):Rs:=if s.e≠0 then s else{s with e:=e}
def iD(l:List UInt8):Nat->Rs->List Int×Rs
 |0,s=>([],s)
 |n+1,s=>((iB l s).1::(iD l n (iB l s).2).1,(iD l n (iB l s).2).2)
def tO(l:List UInt8):∀(n:Nat) (s:Rs),(iD l n s).1.length=n
 |0,s=>rfl
 |n+1,s=>by simp only[iD,aR,tO l n]
def ue:Nat:=4294967295
def oS:Nat:=9223372036854775807
def Kr:Nat:=18446744073709551615
def tT(l:List UInt8)(s:Rs):Sp×Rs:=
 let a:=cL l ue s;let b:=cL l 255 a.2;let c:=cL l oS b.2;let d:=cL l oS c.2;let e:=cL l oS d.2;let f:=cL l oS e.2;let g:=iD l 16 f.2;let h:=cL l oS g.2;let i:=cL l ue h.2;let j:=cL l oS i.2
 (⟨a.1,b.1,c.1,d.1,e.1,f.1,⟨g.1.toArray,by simp[g,tO]⟩,h.1,i.1,j.1⟩,j.2)
def uh(l:List UInt8)(s:Rs):Sp×Rs:=if(tT l s).1.may then tT l s else(Ay,vT 5 (tT l s).2)
def Z3(l:List UInt8)(s:Rs):Ac×Rs:=
 let a:=cL l ue s;let b:=iB l a.2;let c:=lG l b.2;let d:=lG l c.2
 (⟨a.1,b.1,c.1,d.1⟩,d.2)
def ah5(l:List UInt8)(s:Rs):Ct×Rs:=
 let a:=uh l s;let b:=cL l 255 a.2;let c:=iB l b.2
 (⟨a.1,b.1,c.1⟩,c.2)
def ag3(l:List UInt8)(s:Rs):Po×Rs:=
 let a:=cL l ue s;let b:=cL l ue a.2;let c:=iB l b.2;let d:=iB l c.2
 (⟨a.1,b.1,c.1,d.1⟩,d.2)
def aa7(l:List UInt8)(s:Rs):(Int×Od)×Rs:=
 let a:=cL l ue s;let b:=cL l Kr a.2;let c:=cL l ue b.2;let d:=lG l c.2;let e:=iB l d.2;let f:=iB l e.2
 ((a.1,⟨b.1,c.1,d.1,e.1,f.1⟩),f.2)
def PE{α:Type}(l:List UInt8)(f:Rs->α×Rs):Nat->List α->Rs->List α×Rs
 |0,acc,s=>(acc,s)
 |n+1,acc,s=>if l.length - (f s).2.at_=0/\kO l (f s).2≠0 then([],(f s).2)else PE l f n (acc++[(f s).1]) (f s).2
def Jj{α:Type}(l:List UInt8)(f:Rs->α×Rs)(most:Nat)(s:Rs):List α×Rs:=PE l f (ew l most s).1 [] (ew l most s).2
attribute [local irreducible] cL iB lG iD
attribute [local irreducible] uh Z3 ah5 ag3 aa7 Jj
end Go.Proofs
namespace Go.Proofs
open Go Go.Vc
attribute [local congr] bj
variable {l:List UInt8}{r:Nat}{s:Rs}{v:Vt_}{w:Wt_}{K:be}
def QR(a:Nat)(c:a<9223372036854775808):bits .xor .i64 (a:Int) 0=(a:Int):=by
 show IntKind.i64.wrap ((BitVec.ofInt 64 (a:Int) ^^^ BitVec.ofInt 64 0).toNat:Int)=_;have b:BitVec.ofInt 64 0=0#64:=by decide
 rw[b,BitVec.xor_zero,ofInt_u64 a qZ];simp[IntKind.wrap,IntKind.bits,IntKind.signed];omega
def R2(a:Nat)(b:a<9223372036854775808):bits .xor .i64 (a:Int) (-1)= -1 - (a:Int):=by
 rw[<-i64_not a b];show IntKind.i64.wrap ((BitVec.ofInt 64 (a:Int) ^^^ BitVec.ofInt 64 (-1)).toNat:Int)=IntKind.i64.wrap ((BitVec.ofInt 64 (-1) ^^^ BitVec.ofInt 64 (a:Int)).toNat:Int);rw[BitVec.xor_comm]
def Q7(a:Nat)(c:a<18446744073709551616):bits .xor .u64 (a:Int) 18446744073709551615=((18446744073709551615 - a:Nat):Int):=by
 show IntKind.u64.wrap ((BitVec.ofInt 64 (a:Int) ^^^ BitVec.ofInt 64 18446744073709551615).toNat:Int)=_;have b:BitVec.ofInt 64 18446744073709551615=BitVec.allOnes 64:=by decide
 rw[b,BitVec.xor_allOnes,BitVec.toNat_not,ofInt_u64 a c,IntKind.wrap_u64];omega
def RV(a:Nat)(b:a<18446744073709551616):bits .xor .u64 (a:Int) 0=(a:Int):=by
 have:=u64_xor_nat a 0 b qZ;simpa using this
def LS(h:gE w r v l s)
  (g:∀d,gE d r v l (iB l s).2->bn (λb=>b=r) w d->K (gI (iB l s).1) d):Ca pQ 107 #[fJ r] w K:=by
 unfold fJ;refine cN Tryz.func107 ?_;refine ER h λa f i=>?_;have c:=g a f i;unfold iB at c;simp only at c;have j:(ew l 18446744073709551615 s).1<=18446744073709551615:=oP;generalize(ew l 18446744073709551615 s).1=n at c j|-;refine az (gQ ((n / 2:Nat):Int)) a (by simp[go_sem]) ?_;refine az (gI ((n / 2:Nat):Int)) a (by simp[-Int.natCast_ediv,go_sem];rw[ie qZ qZ]) ?_;refine az (gQ ((n%2:Nat):Int)) a (by simp only[go_sem];simp[-Int.natCast_emod,go_sem];rw[show(1:Int)=((1:Nat):Int)from rfl,u64_and_nat _ _ qZ qZ,nat_mask1]) ?_;refine az (gI ((n%2:Nat):Int)) a (by simp[-Int.natCast_emod,go_sem];rw[ie qZ qZ]) ?_;by_cases e:n%2=0
 ·rw[e];refine az (gI 0) a (by simp[go_sem];decide) ?_;refine az (gI ((n / 2:Nat):Int)) a (by simp only[go_sem];simp[-Int.natCast_ediv,go_sem];rw[QR _ qZ]) ?_;unfold WG at c;rw[ab e]at c;exact c
 ·rw[show n%2=1 by omega];refine az (gI (-1)) a (by simp[go_sem];decide) ?_;refine az (gI (-((n / 2:Nat):Int) - 1)) a (by simp only[go_sem];simp[-Int.natCast_ediv,go_sem];rw[R2 _ qZ];omega) ?_;unfold WG at c;rw[aa e]at c;exact c
def En(W:Wt_){r:Nat}{v:Vt_}{l:List UInt8}{s:Rs}(h:gE W r v l s):(iL 28 (cU r 0)).run pQ W=.ok v W/\(iL 3 (cU r 1)).run pQ W=.ok (gI s.at_) W:=by
 obtain⟨a,c,rfl⟩:=h.rd.isSl;have b:=h.blk;exact⟨by simp[go_sem,b],by simp[go_sem,b]⟩
def ze(i:Nat)(hi:i<3)(W:Wt_){r:Nat}:(iF 260 (cU r 0) i).run pQ W=.ok (cU r i) W:=by
 have:i=0\/i=1\/i=2:=qZ;rcases this with rfl|rfl|rfl<;>simp[go_sem]
def gE.drew(h:gE w r v l s):gE w.drew r v l s:=h.mod (bn.refl (λ_=>False) w).drew id eI
def Gb(h:gE w r v l s)
  (c:∀A,gE A r v l (lG l s).2->bn (λb=>b=r) w A->K (.bool (lG l s).1) A):Ca pQ 110 #[fJ r] w K:=by
 have N:=h.le;have G:=h.len;unfold fJ;refine cN Tryz.func110 ?_;refine EW h ?_;unfold lG at c;by_cases u:s.e≠0
 ·rw[bG,ab (by simpa using u)];rw[ab u]at c;exact c _ h (bn.refl _ _)
 rw[bG,aa (by simpa using u)];rw[aa u]at c;obtain⟨P,vc,M⟩:=h.rd.isSl;have o:=h.drew;have H:bn (λb=>b=r) w w.drew:=(bn.refl _ w).drew;simp only[fJ,cJ];refine gP (λW=>ze 1 qZ W) (gC (En _ o).2 ?_);refine gP (λW=>ze 0 qZ W) (gC (En _ o).1 ?_);refine mE (gI l.length) (by rw[M];simp[go_sem]) ?_;refine eQ (.bool (decide (s.at_=l.length))) (λW=>by simp[go_sem];rw[bT];simp;omega) ?_;by_cases a:s.at_=l.length
 ·rw[ab a]at c;rw[bG,ab (by simpa using a)];obtain⟨p,k⟩:=o.fault 4;refine dy (ze 2 qZ _) (nz (w.drew.setCell ⟨r,2,none⟩ (gI 4)) (by simp[go_sem,o.blk]) ?_);exact c _ p (H.trans k)
 rw[aa a]at c;rw[bG,aa (by simpa using a)];have d:s.at_<l.length:=qZ;have f:=o.drew;have z:bn (λb=>b=r) w w.drew.drew:=H.drew;generalize w.drew.drew=m at f z|-;obtain⟨b,q,J,C,L,I,j,F,hC,B⟩:=Rd.byte f.rd d d;have y:l.getD s.at_ 0=l[s.at_]:=by simp[d]
 rw[y]at c;generalize l[s.at_]=x at B c;refine gP (λW=>ze 0 qZ W) (gC (En _ f).1 ?_);refine gP (λW=>ze 1 qZ W) (gC (En _ f).2 ?_);have i:¬(l.length:Int)<=(s.at_:Int):=qZ;refine eQ (cU b (q+s.at_)) (λW=>by rw[j];simp[go_sem,i,d,bQ]) ?_;refine mE (gB (x.toNat:Int)) (by simp[go_sem,hC,B]) ?_;refine eQ (.bool (decide (1<x.toNat))) (λW=>by simp[go_sem];omega) ?_;by_cases g:1<x.toNat
 ·rw[ab g]at c;rw[bG,ab (by simpa using g)];obtain⟨p,k⟩:=f.fault 5;refine dy (ze 2 qZ _) (nz (m.setCell ⟨r,2,none⟩ (gI 5)) (by simp[go_sem,f.blk]) ?_);exact c _ p (z.trans k)
 rw[aa g]at c;rw[bG,aa (by simpa using g)];refine dy (ze 1 qZ _) (dy (En _ f).2 ?_);refine az (gI ((s.at_+1:Nat):Int)) m (by simp[go_sem];rw[ie qZ qZ]) ?_;obtain⟨p,k⟩:=f.go (s.at_+1) qZ;refine dy (ze 1 qZ _) (nz (m.setCell ⟨r,1,none⟩ (gI (s.at_+1:Nat))) (by simp[-Int.natCast_add,go_sem,f.blk]) ?_);have t:=p.drew;have E:bn (λb=>b=r) w (m.setCell ⟨r,1,none⟩ (gI (s.at_+1:Nat))).drew:=(z.trans k).drew;have D:b≠r:=λe=>f.ne (by rw[j,<-e];exact⟨_,_,_,rfl,qZ,rfl⟩);have n:hp (m.setCell ⟨r,1,none⟩ (gI (s.at_+1:Nat))).drew b=some (.cells C L I):=(k.drew).hpk hC D;generalize(m.setCell ⟨r,1,none⟩ (gI (s.at_+1:Nat))).drew=O at t E n|-;refine gP (λW=>ze 0 qZ W) (gC (En _ t).1 ?_);refine gP (λW=>ze 1 qZ W) (gC (En _ t).2 ?_);refine eQ (gI (s.at_:Int)) (λW=>by simp[go_sem];rw[ie qZ qZ]) ?_;refine eQ (cU b (q+s.at_)) (λW=>by rw[j];simp[go_sem,i,d,bQ]) ?_;refine mE (gB (x.toNat:Int)) (by simp[go_sem,n,B]) ?_;refine eQ (.bool (decide (x.toNat=1))) (λW=>by simp[go_sem];rw[bT];simp;omega) ?_;exact c _ t E
def QA(h:gE w r v l s)
  (f:∀a,M0 w a->K (gI ((l.length - s.at_:Nat):Int)) a):Ca pQ 193 #[fJ r] w K:=by
 have e:=h.le;have c:=h.len;unfold fJ;refine cN Tryz.func193 ?_;refine az (.bool false) w (by simp[go_sem,fJ]) ?_;rw[lW];simp only[fJ,cJ];have b:=h.drew;obtain⟨g,vc,d⟩:=h.rd.isSl;refine gP (λW=>ze 0 qZ W) (gC (En _ b).1 ?_);refine mE (gI l.length) (by rw[d];simp[go_sem]) ?_;refine gP (λW=>ze 1 qZ W) (gC (En _ b).2 ?_);refine eQ (gI ((l.length - s.at_:Nat):Int)) (λW=>by simp[go_sem];rw[ie qZ qZ];omega) ?_;exact f _ (bn.refl _ w).drew
def SE{e:Nat}(h:gE w r v l s)
  (a:∀d,gE d r v l (vT e s)->bn (λb=>b=r) w d->K (.tuple #[]) d):Ca pQ 69 #[fJ r,gI e] w K:=by
 unfold fJ;refine cN Tryz.func69 ?_;refine EW h ?_;refine az (.bool (decide (s.e=0))) w (by simp[go_sem]) ?_;unfold vT at a;by_cases c:s.e≠0
 ·rw[ab c]at a;rw[bG,aa (by simpa using c)];exact a _ h (bn.refl _ _)
 ·rw[aa c]at a;rw[bG,ab (by simpa using c)];simp only[fJ,cJ];obtain⟨g,f⟩:=h.fault e;refine dy (ze 2 qZ _) (nz (w.setCell ⟨r,2,none⟩ (gI e)) (by simp[go_sem,h.blk]) ?_);exact a _ g f
def OZ{x:Int}(h:dM x)(a:K (gQ (PO x:Int)) w):Ca pQ 192 #[.int .i64 x] w K:=by
 refine cN Tryz.func192 ?_;by_cases b:0<=x
 ·obtain⟨n,rfl⟩:=Int.eq_ofNat_of_zero_le b;have c:PO ((n:Nat):Int)=2*n:=by unfold PO;rw[ab b];simp
  rw[c]at a;refine az (gQ (n:Int)) w (by simp[go_sem];rw[nr qZ qZ]) ?_;refine az (gQ ((2*n:Nat):Int)) w (by simp[-Int.natCast_mul,go_sem];rw[nr qZ qZ];omega) ?_;refine az (gI 0) w (by simp[go_sem];omega) ?_;refine az (gQ 0) w (by simp[go_sem];decide) ?_;refine az (gQ ((2*n:Nat):Int)) w (by simp only[go_sem];simp[-Int.natCast_mul,go_sem];rw[RV _ qZ]) ?_;exact a
 ·have c:(PO x:Int)= -2*x - 1:=by unfold PO;rw[aa b];omega
  rw[c]at a;obtain⟨m,d⟩:∃m:Nat,(m:Int)=18446744073709551616+2*x:=⟨(18446744073709551616+2*x).toNat,qZ⟩
  refine az (gQ (18446744073709551616+x)) w (by simp[go_sem];rw[IntKind.wrap_u64];omega) ?_;refine az (gQ (m:Int)) w (by simp[go_sem];rw[IntKind.wrap_u64];omega) ?_;refine az (gI (-1)) w (by simp[go_sem];omega) ?_;refine az (gQ 18446744073709551615) w (by simp[go_sem];decide) ?_;refine az (gQ (-2*x - 1)) w (by simp only[go_sem];simp[go_sem];rw[Q7 _ qZ];omega) ?_;exact a
abbrev CU(w:Wt_)(s:Vt_)(l:List UInt8):Prop:=il w 5 1 s l.length (bv l)
def Ir{s:Vt_}{n:Nat}(h:CU w s l)(g:n<18446744073709551616)(e:l.length<=1000000000)
  (f:∀a c,CU c a (l++eF n)->bn (aQ s) w c->(∀b,aQ a b->aQ s b\/w.heap.size<=b)->K a c):Ca pQ 72 #[s,gQ n] w K:=
 VC h g e λa c o m d=>f a c (by grind) m d
def VQ{s:Vt_}{x:Int}(h:CU w s l)(d:dM x)(e:l.length<=1000000000)
  (f:∀a c,CU c a (l++oR x)->bn (aQ s) w c->(∀b,aQ a b->aQ s b\/w.heap.size<=b)->K a c):Ca pQ 95 #[s,gI x] w K:=by
 refine cN Tryz.func95 ?_;refine OZ d ?_;exact Ir h (EI d) e f
def RQ{s:Vt_}{f:Bool}(h:CU w s l)(x:l.length<=1000000000)
  (k:∀a d,CU d a (l++qx f)->bn (aQ s) w d->(∀b,aQ a b->aQ s b\/w.heap.size<=b)->K a d):Ca pQ 98 #[s,.bool f] w K:=by
 have push:∀u:UInt8,qx f=[u]->rx pQ (qL ZP 1 [(0,gB u.toNat)]) w λn t=>rx pQ (ff #[ZP,ZP] ZP [s,n]) t K:=λu q=>by
  refine Ye [u] vE (dG O5) rfl rfl qZ λv y o c z=>?_;refine lA (m:=1) vE vE (dG O5) (h.mod c eI) o.rd (yI _) qZ λr p e g j=>?_;refine k r p ?_ ((c.to).trans g) λb i=>(j b i).imp id λh=>by have:=c.size;omega
  rw[q];unfold CU;rw[<-sX]at e;rw[ad];exact e
 refine cN Tryz.func98 ?_;cases f with
 |true=>rw[nO];exact push 1 rfl
 |false=>rw[lW];exact push 0 rfl
end Go.Proofs
namespace Go.Proofs
open Go Go.Vc
def BM{α:Type}(f:List UInt8->Rs->α×Rs)(x:α)(b:List UInt8):Prop:=∀L a r,L=a++(b++r)->f L ⟨a.length,0⟩=(x,⟨(a++b).length,0⟩)
def jR{n most:Nat}(h:n<=most)(c:n<18446744073709551616):BM (λl=>ew l most) n (eF n):=λL a r b=>by
 show ew L most ⟨a.length,0⟩=_;unfold ew;rw[aa (by simp)];simp only;have e:L.drop a.length=eF n++r:=by rw[b,ck]
 rw[e,wy r c];simp only;rw[aa qZ,ad]
def mQ{x:Int}{most:Nat}(b:0<=x)(h:x<=most)(d:most<18446744073709551616):BM (λl=>cL l most) x (dL x):=λL a r c=>by
 have:=jR (n:=x.toNat) (most:=most) qZ qZ L a r c;simp only at this;show cL L most ⟨a.length,0⟩=_;unfold cL;rw[this];simp only;rw[Int.toNat_of_nonneg b];rfl
def Ee{x:Int}(h:dM x):BM iB x (oR x):=λL a r b=>by
 have:=jR (n:=PO x) (most:=18446744073709551615) (by have:=EI h;omega) (EI h) L a r b;simp only at this;unfold iB;rw[this];simp only;rw[V8];rfl
def Kt(f:Bool):BM lG f (qx f):=λL a r b=>by
 unfold lG;rw[aa (by simp)];have d:L.length=a.length+(1+r.length):=by rw[b];simp[qx];omega
 rw[aa (by simp only;omega)]
 have c:L.getD a.length 0=if f then 1 else 0:=by
  rw[b];simp[List.getD,qx]
 simp only;rw[c];cases f
 ·grind
 ·grind
def ra{a b c r:List UInt8}:a++(b++c++r)=(a++b)++(c++r):=by simp
def B8:∀v:List Int,(∀x∈v,dM x)->BM (λl=>iD l v.length) v (v.flatMap oR)
 | [],h=>λL a r b=>by simp[iD]
 |x::v,h=>λL a r b=>by
  have e:=Ee (h x (by simp)) L a (v.flatMap oR++r) (by rw[b];simp);have c:=B8 v (λy d=>h y (by simp[d])) L (a++oR x) r (by rw[b];simp);simp only at c;show((iB L ⟨a.length,0⟩).1::(iD L v.length (iB L ⟨a.length,0⟩).2).1,(iD L v.length (iB L ⟨a.length,0⟩).2).2)=_;rw[e];simp only;rw[c];simp
def aa8(x:Sp)(h:x.shifts.toList.toArray.size=16):(⟨x.num,x.route,x.tick,x.lot,x.band,x.limit,⟨x.shifts.toList.toArray,h⟩,x.credit,x.last,x.first⟩:Sp)=x:=by
 obtain⟨_,_,_,_,_,_,⟨⟨b⟩,a⟩,_,_,_⟩:=x;rfl
def PR{x:Sp}(B:x.Fit)(f:x.may=true):BM uh x (Qh x):=λL a r b=>by
 obtain⟨k,F,H,G,C,E,A,w,u,h⟩:=B;have c:=f;unfold Sp.may vL aY at c;simp only[ah,ax]at c;have J:0<=x.credit:=qZ;have i:0<=x.first:=qZ;unfold Qh at b|-;rw[ab f]at b|-;unfold dM at H G C E w h;have z:x.tick<=(oS:Nat):=by unfold oS;omega
 have D:x.lot<=(oS:Nat):=by unfold oS;omega
 have v:x.band<=(oS:Nat):=by unfold oS;omega
 have y:x.limit<=(oS:Nat):=by unfold oS;omega
 have I:x.credit<=(oS:Nat):=by unfold oS;omega
 have g:x.first<=(oS:Nat):=by unfold oS;omega
 have m:=mQ (x:=x.num) (most:=ue) k.1 (by have:=k.2;unfold ue;omega) (by decide) L a (dL x.route++(dL x.tick++(dL x.lot++(dL x.band++(dL x.limit++(x.shifts.toList.flatMap oR++(dL x.credit++(dL x.last++(dL x.first++r))))))))) (by rw[b];simp);have j:=mQ (x:=x.route) (most:=255) F.1 qZ (by decide) L (a++dL x.num) (dL x.tick++(dL x.lot++(dL x.band++(dL x.limit++(x.shifts.toList.flatMap oR++(dL x.credit++(dL x.last++(dL x.first++r)))))))) (by rw[b];simp);have q:=mQ (x:=x.tick) (most:=oS) qZ z (by decide) L (a++dL x.num++dL x.route) (dL x.lot++(dL x.band++(dL x.limit++(x.shifts.toList.flatMap oR++(dL x.credit++(dL x.last++(dL x.first++r))))))) (by rw[b];simp);have l:=mQ (x:=x.lot) (most:=oS) qZ D (by decide) L (a++dL x.num++dL x.route++dL x.tick) (dL x.band++(dL x.limit++(x.shifts.toList.flatMap oR++(dL x.credit++(dL x.last++(dL x.first++r)))))) (by rw[b];simp);have o:=mQ (x:=x.band) (most:=oS) qZ v (by decide) L (a++dL x.num++dL x.route++dL x.tick++dL x.lot) (dL x.limit++(x.shifts.toList.flatMap oR++(dL x.credit++(dL x.last++(dL x.first++r))))) (by rw[b];simp);have s:=mQ (x:=x.limit) (most:=oS) qZ y (by decide) L (a++dL x.num++dL x.route++dL x.tick++dL x.lot++dL x.band) (x.shifts.toList.flatMap oR++(dL x.credit++(dL x.last++(dL x.first++r)))) (by rw[b];simp);have n:=B8 x.shifts.toList A L (a++dL x.num++dL x.route++dL x.tick++dL x.lot++dL x.band++dL x.limit) (dL x.credit++(dL x.last++(dL x.first++r))) (by rw[b];simp);have p:=mQ (x:=x.credit) (most:=oS) J I (by decide) L (a++dL x.num++dL x.route++dL x.tick++dL x.lot++dL x.band++dL x.limit++x.shifts.toList.flatMap oR) (dL x.last++(dL x.first++r)) (by rw[b];simp);have t:=mQ (x:=x.last) (most:=ue) u.1 (by have:=u.2;unfold ue;omega) (by decide) L (a++dL x.num++dL x.route++dL x.tick++dL x.lot++dL x.band++dL x.limit++x.shifts.toList.flatMap oR++dL x.credit) (dL x.first++r) (by rw[b];simp);have d:=mQ (x:=x.first) (most:=oS) i g (by decide) L (a++dL x.num++dL x.route++dL x.tick++dL x.lot++dL x.band++dL x.limit++x.shifts.toList.flatMap oR++dL x.credit++dL x.last) r (by rw[b];simp);simp only[Vector.length_toList]at m j q l o s n p t d
 have e:tT L ⟨a.length,0⟩=(x,⟨(a++Qh x).length,0⟩):=by
  unfold tT;simp only[m,j,q,l,o,s,n,p,t,d];unfold Qh;rw[ab f];simp;exact aa8 x _
 unfold uh;rw[e];simp only;rw[ab f];unfold Qh;rw[ab f]
end Go.Proofs
namespace Go.Proofs
open Go Go.Vc
def qj(r:Nat)(s:Vt_)(l t:List UInt8):As:=⟨λw F=>CU w s l/\(∃a,l=a++t/\gE w r s l ⟨a.length,0⟩)/\¬aQ s r/\∀b,F b↔b=r\/aQ s b,
 λ⟨h,⟨a,_,h2⟩,_,h3⟩ hb=>((h3 _).1 hb).elim (λe=>e▸h2.lt) h.lt,
 λ⟨h,⟨a,e,h2⟩,hn,h3⟩ m hg=>⟨h.mod m λb hb=>hg b ((h3 b).2 (.inr hb)),⟨a,e,h2.mod m (hg _ ((h3 _).2 (.inl rfl))) λb hb=>hg b ((h3 b).2 (.inr hb.sl))⟩,hn,h3⟩⟩
abbrev wh(c r:Nat):As:=pt c [fJ r] 199
section
variable{L L0 M:List As}{K:Value->WP}{r c n most:Nat}{s val:Vt_}{l t b:List UInt8}{f:FuncId}{args:Array Value}{x m:Int}{g:Bool}
def wA(z:∀w a,gE w r s (a++(b++t)) ⟨a.length,0⟩->∀K:be,(∀d,gE d r s (a++(b++t)) ⟨(a++b).length,0⟩->bn (λy=>y=r) w d->K val d)->Ca pQ f args w K)
  (q:Gs (qj r s l t::M) (K val))(p:bL L (qj r s l (b++t)::M)):Gs L (Cw pQ f args K):=
 Gs.call (val:=λ_:Unit=>val) (p:=λ_=>True) (B:=λ_=>qj r s l t) p (λw F ⟨h,⟨a,e,o⟩,k,j⟩ K v=>by
  subst e;exact z w a o K λd u m=>v () d F trivial ⟨h.mod m λy i e=>k (e▸i),⟨a++b,by simp,u⟩,k,j⟩ (m.mono λy _ e=>(j y).2 (.inl e)) λy i=>.inl i) λ_ _=>q
def qO(i:m=most)(h:n<=most)(hl:most<18446744073709551616)(j:Gs (qj r s l t::M) (K (gQ (n:Int))))(p:bL L (qj r s l (eF n++t)::M):=by exact gy):Gs L (Cw pQ 67 #[fJ r,gQ m] K):=by
 subst i;refine wA (λw a o K q=>A0 o hl λk d m=>?_) j p;have e:=jR h qZ _ a t rfl;simp only at e;rw[e]at d|-;exact q k d m
def UB(h:n<18446744073709551616)(i:Gs (qj r s l t::M) (K (gQ (n:Int))))(p:bL L (qj r s l (eF n++t)::M):=by exact gy):Gs L (Cw pQ 68 #[fJ r] K):=by
 refine wA (λw a k K o=>ER k λj d m=>?_) i p;have e:=jR (most:=18446744073709551615) qZ h _ a t rfl;simp only at e;rw[e]at d|-;exact o j d m
def Mp(h:sB x)(a:Gs (qj r s l t::M) (K (gQ x)))(p:bL L (qj r s l (dL x++t)::M):=by exact gy):Gs L (Cw pQ 68 #[fJ r] K):=by
 unfold dL at p;refine UB (n:=x.toNat) (by have:=h.2;omega) ?_ p;rw[Int.toNat_of_nonneg h.1];exact a
def tf(h:dM x)(i:Gs (qj r s l t::M) (K (gI x)))(p:bL L (qj r s l (oR x++t)::M):=by exact gy):Gs L (Cw pQ 107 #[fJ r] K):=by
 refine wA (λw a k K o=>LS k λj d m=>?_) i p;have e:=Ee h _ a t rfl;rw[e]at d|-;exact o j d m
def Cj(h:Gs (qj r s l t::M) (K (.bool g)))(p:bL L (qj r s l (qx g++t)::M):=by exact gy):Gs L (Cw pQ 110 #[fJ r] K):=by
 refine wA (λw a j K k=>Gb j λi d m=>?_) h p;have e:=Kt g _ a t rfl;rw[e]at d|-;exact k i d m
def xM(i:Gs L (K (gI (t.length:Int))))(p:bL L (qj r s l t::M):=by exact gy):Gs L (Cw pQ 193 #[fJ r] K):=⟨λw y=>(fg p y).elim λF ⟨_,⟨a,e,h⟩,_⟩=>QA h λd m=>by
 have:l.length - a.length=t.length:=by rw[e,ad];omega
 show K (gI ((l.length - a.length:Nat):Int)) d;rw[this];exact i.go d (y.md0 m)⟩
def uL(d:Gs L (K (gI 0)))(p:bL L (qj r s l []::M):=by exact gy):Gs L (Cw pQ 70 #[fJ r] K):=⟨λw y=>(fg p y).elim λF ⟨_,⟨a,e,h⟩,_⟩=>Ly h λi m=>by
 have:kO l ⟨a.length,0⟩=0:=by unfold kO;rw[aa (by rw[e];simp)]
 rw[this];exact d.go i (y.md0 m)⟩
def Vq(hl:l.length<=1000000000)(d:∀r,Gs (qj r s l l::M) (K (fJ r)))(p:bL L (ow s 5 1 l.length (bv l)::M):=by exact gy):Gs L (Cw pQ 65 #[s] K):=
 Gs.call (val:=λr=>fJ r) (p:=λ_=>True) (B:=λr=>qj r s l l) p (λw F ⟨h,q⟩ K o=>xk h.rd hl λj i m=>o w.heap.size j (λy=>y=w.heap.size\/aQ s y) trivial ⟨h.mod m eI,⟨[],rfl,i⟩,λa=>Nat.lt_irrefl _ (h.lt a),λ_=>aI⟩ (m.to) λy k=>k.elim (λe=>.inr qZ) λa=>.inl ((q y).2 a)) λr _=>d r
def Gs.rdo{φ:WP}(h:Gs (ow s 5 1 l.length (bv l)::M) φ)(p:bL L (qj r s l t::M):=by exact gy):Gs L φ:=Gs.pk ⟨λw y=>by
 obtain⟨o,a,⟨i,_,_,e⟩,d,j⟩:=Ss.cons.1 y;exact h.go w (Ss.cons.2 ⟨_,a,⟨i,λ_=>aI⟩,d,λb k=>j b ((e b).2 (.inr k))⟩)⟩ p
def vj(h:gM x)(a:Gs (qj r s l t::M) (K (gU x)))(p:bL L (qj r s l (dL x++t)::M):=by exact gy):Gs L (Cw pQ 106 #[.agg #[fJ r]] K):=by
 unfold dL at p;refine Gs.pk ?_ p;refine sN Tryz.func106 ?_;refine au ?_;intro c;refine au ?_;refine qO (n:=x.toNat) (most:=4294967295) rfl (by have:=h.2;omega) (by decide) ?_;rw[Int.toNat_of_nonneg h.1];refine Gs.V (v:=gU x) (λw _=>by simp[go_sem];rw[IntKind.wrap_u32];exact Int.emod_eq_of_lt h.1 h.2) ?_;exact a.fin
end
end Go.Proofs
