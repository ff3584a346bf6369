/- The statement VenueWhole: for every input the law returns true; arguments stay. Conditions: none. -/
import Derived.Test.YtnfloameajanhaaGreatZ8
set_option linter.all false
namespace Go.Vc
open Go Go.ChangeShapes Go.WideShapes Go.ChangeAt Go.RowKit
section
variable{H:Type}{enc:TypeId×Value->H}{P:Program}{w:World}{base:Nat}{spare:Nat->Bool}{held:Bool}
def ff{e:TypeId}:∀{l:List (DataW H)} {d:DataW H},d∈l->∀m∈d.weights P e,m∈DataW.weightsAll P e l
 |a::l,d,b,m,c=>by
  simp only[DataW.weightsAll,dg];rcases cH.1 b with rfl|b
  ·exact .inl c
  ·exact .inr (ff b m c)
def Wt.slice{t e:TypeId}{B:Nat}{l r:List (DataW H)}(c:P.underlying t=some (.slice e))(h:Wt P B t (.slice l r)):(l.length+r.length)*P.bytesOf e<=B/\∀d∈l,Wt P B e d:=by
 unfold Wt at h;simp only[DataW.weights,c,cH,dg]at h;exact⟨h _ (.inl rfl),λd a m b=>h m (.inr (.inl (ff a m b)))⟩
def nJ{t e:TypeId}{sz:Nat}{o:Nat}{cs:List Value}{x:DataW H×List MemPlace}(I:P.underlying t=some (.slice e))(hc:P.cellsOf e=sz)(E:0<sz)
  {B:Nat}(O:DataW.trod enc P w base spare held o t cs=some x)(hB:Wt P B t x.1):
  ∃v,cs=[v]/\∃L:List (List Value),Rd w sz v L.length L.flatten/\L.length*P.bytesOf e<=B/\∀c∈L,c.length=sz/\∃X y,DataW.trod enc P w base spare held X e c=some y/\Wt P B e y.1:=by
 rcases DataW.trod_slice I O with⟨rfl,-⟩|⟨a,len,Q,A,rest,n,hf,rfl,rfl,hb,V,hm,N,C,Z,T⟩
 ·exact⟨_,rfl,[],⟨by simp,.inl ⟨rfl,_,_,rfl⟩⟩,by simp,by simp⟩
 ·obtain⟨z,F⟩:=hB.slice I
  have m:∀i,i<len->∃c,w.cells? base (a.add (i*sz)) sz=some c/\∃y,DataW.trod enc P w base spare held n e c=some y/\Wt P B e y.1:=by
   intro i b;have j:=C i b;rw[cE (by omega),hc,Option.bind_eq_some_iff]at j;obtain⟨c,g,r⟩:=j;exact⟨c,g,_,r,F _ (cF.2 ⟨_,cC _,rfl⟩)⟩
  have R:∀k,k<=len->∃L:List (List Value),L.length=k/\∀i (b:i<L.length),w.cells? base (a.add (i*sz)) sz=some L[i]/\∃y,DataW.trod enc P w base spare held n e L[i]=some y/\Wt P B e y.1:=by
   intro k;induction k with
   |zero=>exact λ_=>⟨[],rfl,λi b=>by simp at b⟩
   |succ k p=>
    intro hk;obtain⟨L,j,g⟩:=p (by omega);obtain⟨c,r,J⟩:=m k (by omega);refine⟨L++[c],by simp[j],λi b=>?_⟩;by_cases S:i<L.length
    ·grind
    ·grind
  obtain⟨L,j,g⟩:=R len (cJ _)
  have d:∀c∈L,c.length=sz:=by
   intro c f;obtain⟨i,b,rfl⟩:=cX f;exact(World.cells?_some (g i b).1).2.1
  have W:∀(M:List (List Value)),(∀c∈M,c.length=sz)->M.flatten.length=M.length*sz:=by
   intro M;induction M with
   |nil=>intro _;simp
   |cons c M p=>
    intro l;rw[List.flatten_cons,cD,p λc h=>l c (cu _ h),l c cw,dc,je,jf]
  have q:∀(M:List (List Value)),(∀c∈M,c.length=sz)->∀i v,M.flatten[i]? =some v->∃h:i / sz<M.length,M[i / sz][i%sz]? =some v:=by
   intro M;induction M with
   |nil=>intro _ i v h;simp at h
   |cons c M p=>
    intro l i v h;have G:=l c cw;rw[List.flatten_cons]at h;by_cases b:i<sz
    ·rw[dC (by omega)]at h;rw[Nat.div_eq_of_lt b,iM b];exact⟨by simp,by simpa using h⟩
    ·rw[cQ (by omega),G]at h;obtain⟨j,g⟩:=p (λc h=>l c (cu _ h)) (i - sz) v h
     have s:i / sz=(i - sz) / sz+1:=by
      rw[Nat.div_eq_sub_div E (by omega)]
     have D:i%sz=(i - sz)%sz:=by
      rw[Nat.mod_eq_sub_mod (by omega)]
     refine⟨by grind,?_⟩;simp only[s,D,fA];exact g
  refine⟨_,rfl,L,?_,dD (dM _ (by simp;omega)) z,λc f=>⟨d c f,?_⟩⟩
  ·rw[j];refine mJ V (by grind) (λi v b=>?_) E;obtain⟨r,J⟩:=q L d i v b;obtain⟨h5,Y⟩:=World.cells?_some (g _ r).1 |>.2
   have u:=gR i E;have K:=Y (i%sz) u
   have e:((a.add (i / sz*sz)).add (i%sz))=a.add i:=by
    have U:i / sz*sz+i%sz=i:=by rw[fe];exact ie i sz
    conv=>rhs;rw[<-U]
    simp only[Addr.add];by_cases s:i / sz*sz=0
    ·simp[s]
    ·by_cases D:i%sz=0
     ·simp[D,s]
     ·grind
   rw[e]at K;rw[K];exact J
  ·obtain⟨i,b,rfl⟩:=cX f;exact⟨n,(g i b).2⟩
end
end Go.Vc
namespace Go.Proofs
open Go Go.Vc
structure Sta where
 day:Int
 next:Int
 fund:Int
 accts:List Ac
 cts:List Ct
 poss:List Po
 ords:List (Int×Od)
 bids:List (Int×Od)
def Ven.state(S:Ven):Sta:=
 ⟨S.cal.day,S.next,S.led.fund,S.led.all,S.cal.l,S.nums.flatMap S.led.holders,S.nums.flatMap λn=>(S.bk n).all.map λo=>(n,o),S.nums.flatMap λn=>(S.bd n).map λo=>(n,o)⟩
end Go.Proofs
namespace Go.Proofs
open Go Go.Vc
variable {L:Led}{S:Ven}
def jj(S:Ven)(n:Int)(o:Od)(p:Pm):(S.traded n o p).2.1.err=0:=by
 unfold Ven.traded;simp only;split<;>rfl
def mM(S:Ven)(c:Cm):(S.place c).2.1.err=0:=by
 unfold Ven.place;simp only;split
 ·rfl
 ·split
  ·rfl
  ·exact jj _ _ _ _
def qx(S:Ven)(c:Cm):(S.bid c).2.1.err=0:=by
 unfold Ven.bid;simp only;split
 ·rfl
 ·split<;>rfl
def lK(S:Ven)(c:Cm):(S.cancel c).2.1.err=0:=by
 unfold Ven.cancel;split
 ·rfl
 ·split<;>rfl
def kR(S:Ven)(c:Cm):(S.replace c).2.1.err=0:=by
 unfold Ven.replace;split
 ·rfl
 ·simp only;split
  ·rfl
  ·split
   ·rfl
   ·exact jj _ _ _ _
def fM:∀(l:List Sd) (r:Rp) (S:Ven),r.err=0->(payL l r S).2.1.err=0
 | [],r,S,h=>h
 |s::l,r,S,h=>by
  unfold payL;simp only;cases s.dfl with
  |true=>
   simp only[fh];split
   ·exact h
   ·exact fM l _ _ h
  |false=>
   simp only[dE,eW];split
   ·exact h
   ·exact fM l _ _ h
def gX(S:Ven)(won:Int->Int):(S.pay won).2.1.err=0:=by
 unfold Ven.pay;simp only;split
 ·rfl
 ·split
  ·exact fM _ _ _ rfl
  ·exact fM _ _ _ rfl
def jM(S:Ven):S.settle.2.1.err=0:=by
 unfold Ven.settle;simp only;split
 ·rfl
 ·split
  ·rfl
  ·split
   ·exact gX _ _
   ·exact gX _ _
def expire_err(S:Ven)(n:Int):(S.expire n).2.1.err=0:=by
 unfold Ven.expire;simp only;split
 ·rfl
 ·split
  ·rfl
  ·split
   ·exact gX _ _
   ·exact gX _ _
def eh{n a:Int}{long:Bool}{price:Int}:∀(l:List Fl) (left:Int) (r:Rp) (S:Ven),r.err=0->(fillsL n a long price l left r S).2.2.1.err=0
 | [],left,r,S,h=>h
 |f::l,left,r,S,h=>by
  unfold fillsL;simp only;split
  ·exact h
  ·exact eh l _ _ _ h
def gO{n a:Int}{long:Bool}{price:Int}:∀(l:List Hd) (r:Rp) (S:Ven),r.err=0->(partsL n a long price l r S).2.1.err=0
 | [],r,S,h=>h
 |x::l,r,S,h=>by
  unfold partsL;simp only;split
  ·exact h
  ·exact gO l _ _ h
def kX(S:Ven)(k:Ct)(a q:Int){r:Rp}(h:r.err=0):(S.sell k a q r).2.1.err=0:=by
 unfold Ven.sell;simp only;split
 ·exact h
 ·split
  ·exact eh _ _ _ _ h
  ·split
   ·exact eh _ _ _ _ h
   ·split
    ·split
     ·exact eh _ _ _ _ h
     ·exact gO _ _ _ (eh _ _ _ _ h)
    ·split
     ·exact eh _ _ _ _ h
     ·exact gO _ _ _ (eh _ _ _ _ h)
def iu{a:Int}:∀(l:List Ct) (r:Rp) (S:Ven),r.err=0->(sellL a l r S).2.1.err=0
 | [],r,S,h=>h
 |k::l,r,S,h=>by
  unfold sellL;simp only;split
  ·exact iu l r S h
  ·split
   ·exact kX _ _ _ _ h
   ·exact iu l _ _ (kX _ _ _ _ h)
def qr(S:Ven)(a:Ac):(S.liquidate a).2.1.err=0:=by
 unfold Ven.liquidate;split
 ·rfl
 ·exact iu _ _ _ rfl
def oE(S:Ven)(c:Cm):(S.done c).2.1.err=0:=by
 unfold Ven.done;by_cases k1:c.kind=1
 ·rw[bZ k1];rfl
 rw[aZ k1];by_cases k2:c.kind=2
 ·rw[bZ k2];rfl
 rw[aZ k2];by_cases k3:c.kind=3
 ·rw[bZ k3];rfl
 rw[aZ k3];by_cases k4:c.kind=4
 ·rw[bZ k4];rfl
 rw[aZ k4];by_cases k11:c.kind=11
 ·rw[bZ k11];rfl
 rw[aZ k11];by_cases k12:c.kind=12
 ·rw[bZ k12];exact jM S
 rw[aZ k12];by_cases k14:c.kind=14
 ·rw[bZ k14];exact expire_err S _
 rw[aZ k14];by_cases a:c.acct=0
 ·rw[bZ a];rfl
 rw[aZ a];by_cases k6:c.kind=6
 ·rw[bZ k6];exact lK S c
 rw[aZ k6];by_cases k7:c.kind=7
 ·rw[bZ k7];exact kR S c
 rw[aZ k7];by_cases b:S.led.getO c.acct=none
 ·rw[bZ b];rfl
 rw[aZ b];by_cases k5:c.kind=5
 ·rw[bZ k5];exact mM S c
 rw[aZ k5];by_cases k9:c.kind=9
 ·rw[bZ k9];exact qx S c
 rw[aZ k9];by_cases k8:c.kind=8
 ·rw[bZ k8];split<;>rfl
 rw[aZ k8];by_cases k10:c.kind=10
 ·rw[bZ k10];simp only;split<;>rfl
 rw[aZ k10];by_cases k13:c.kind=13
 ·rw[bZ k13];exact qr S _
 rw[aZ k13];rfl
def apply_cases(S:Ven)(c:Cm):((S.apply c).1.err≠0/\S.apply c=(failR (S.apply c).1.err,S))\/((S.apply c).1.err=0/\c.may=true/\(S.done c).1=0/\S.apply c=(S.done c).2):=by
 unfold Ven.apply;by_cases b:c.may=false
 ·rw[bZ b];exact .inl ⟨by show(160:Int)≠0;omega,rfl⟩
 rw[aZ b];simp only;by_cases a:(S.done c).1≠0
 ·rw[bZ a];exact .inl ⟨a,rfl⟩
 ·rw[aZ a];exact .inr ⟨oE S c,by simpa using b,by simpa using a,rfl⟩
def Led.cash(L:Led):Int×List (Int×Int):=(L.fund,L.all.map λa=>(a.num,a.cash))
def uQ{a:Led}(h:a.all=L.all/\a.fund=L.fund):a.cash=L.cash:=by unfold Led.cash;rw[h.1,h.2]
def JP{b:Led}(h:b.cash=L.cash):b.funds=L.funds:=by
 unfold Led.cash at h;injection h with d c;unfold Led.funds;rw[d];have:∀l:List Ac,l.map (·.cash)=(l.map λa=>(a.num,a.cash)).map (·.2):=λl=>by rw[dQ];rfl
 rw[this,this,c]
def Da(h:L.Ok){a x:Ac}(d:L.find a.num=some x)(i:a.cash=x.cash):(L.set a).2.cash=L.cash:=by
 rcases Led.set_cases L a with⟨c,-⟩|⟨c,-⟩
 ·rw[c]
 ·rw[c];obtain⟨e,j,g⟩:=Led.find_ok h d;unfold Led.cash;show((L.putA a).fund,_)=_;unfold Led.putA;rw[aZ g];simp only;rw[uO h.sa ⟨x,e,j⟩,dQ];congr 1;refine dt λy f=>?_;show((if y.num=a.num then a else y).num,(if y.num=a.num then a else y).cash)=(y.num,y.cash)
  by_cases b:y.num=a.num
  ·have:y=x:=by
    have:=Led.mem_find h f;rw[b,d]at this;exact(dB this).symm
   rw[bZ b,i,<-b,this]
  ·rw[aZ b]
def AI(h:S.Ok){c:Cm}(A:c.Fit)(u:c.kind≠1)(s:c.kind≠2)(m:c.kind≠12)(i:c.kind≠14):(S.done c).2.2.led.cash=S.led.cash:=by
 have q:∀(T:Ven) (n:Int) (o:Od) (p:Pm),T.led=S.led->(∀L:Led,L=S.led->(tradeL n o p.trades L).2.cash=L.cash)->(T.traded n o p).2.2.led.cash=S.led.cash:=λT n o p d v=>by
  rw[qg];show(tradeL n o p.trades T.led).2.cash=_;rw[v T.led d,d]
 have k:∀(n:Int) (o:Od) (l:List Td) (L:Led),(tradeL n o l L).2.cash=L.cash:=by
  intro n o l;induction l with
  |nil=>intro L;rfl
  |cons t l w=>
   intro L;unfold tradeL;simp only;generalize(if o.buy=true then o.acct else t.acct)=z;generalize(if o.buy=true then t.acct else o.acct)=y;split
   ·exact uQ Led.trade_all
   ·rw[w];exact uQ Led.trade_all
 have b:∀(T:Ven) (n:Int) (o:Od) (p:Pm),T.led=S.led->(T.traded n o p).2.2.led.cash=S.led.cash:=λT n o p d=>q T n o p d λL _=>k _ _ _ _;unfold Ven.done;rw[aZ u,aZ s];by_cases k3:c.kind=3
 ·grind
 rw[aZ k3];by_cases k4:c.kind=4
 ·rw[bZ k4]
 rw[aZ k4];by_cases k11:c.kind=11
 ·rw[bZ k11]
 rw[aZ k11,aZ m,aZ i];by_cases r:c.acct=0
 ·rw[bZ r]
 rw[aZ r];by_cases k6:c.kind=6
 ·rw[bZ k6];unfold Ven.cancel;split
  ·rfl
  ·split<;>rfl
 rw[aZ k6];by_cases k7:c.kind=7
 ·rw[bZ k7];unfold Ven.replace;split
  ·rfl
  ·simp only;split
   ·rfl
   ·split
    ·rfl
    ·exact b _ _ _ _ rfl
 rw[aZ k7];by_cases j:S.led.getO c.acct=none
 ·rw[bZ j]
 rw[aZ j];have a:(S.order c).2.2.led=S.led:=by unfold Ven.order;simp only;split;rfl;split<;>rfl
 by_cases k5:c.kind=5
 ·rw[bZ k5];unfold Ven.place;simp only;split
  ·rw[a]
  ·split
   ·grind
   ·exact b _ _ _ _ a
 rw[aZ k5];by_cases k9:c.kind=9
 ·rw[bZ k9];unfold Ven.bid;simp only;split
  ·rw[a]
  ·split
   ·rw[a]
   ·grind
 rw[aZ k9];by_cases k8:c.kind=8
 ·rw[bZ k8];split
  ·rfl
  ·show(S.clear c.acct c.ct).2.led.cash=_;rw[clear_led]
 rw[aZ k8];by_cases k10:c.kind=10
 ·rw[bZ k10];simp only;obtain⟨f,g⟩:=Ae h.led.led j
  have e:∀T:Ven,T.led=S.led->(T.led.set {S.acc c.acct with kil:=c.on}).2.cash=S.led.cash:=λT d=>by
   rw[d];refine Da h.led.led (x:=S.acc c.acct) ?_ rfl;show S.led.find (S.acc c.acct).num=_;rw[f,<-jV r,g]
  apply e _;split
  ·exact clear_led _ _
  ·rfl
 rw[aZ k10];by_cases k13:c.kind=13
 ·rw[bZ k13];exact uQ (Fk h _).2
 rw[aZ k13]
def yK(h:S.Ok){c:Cm}(g:c.Fit)(f:c.kind≠1)(d:c.kind≠2)(a:c.kind≠12)(b:c.kind≠14):(S.apply c).2.led.cash=S.led.cash:=by
 rcases apply_cases S c with⟨-,e⟩|⟨-,-,-,e⟩
 ·rw[e]
 ·rw[e];exact AI h g f d a b
def flowR(c:Cm)(err:Int):Int:=if err≠0 then 0 else if c.kind=1 then c.amt else if c.kind=2 then -c.amt else 0
def Jv(h:S.Ok){c:Cm}(g:c.Fit):(S.apply c).2.led.funds=S.led.funds+flowR c (S.apply c).1.err:=by
 rcases apply_cases S c with⟨b,e⟩|⟨b,i,a,e⟩
 ·unfold flowR;rw[bZ b,e];show S.led.funds=_;omega
 ·unfold flowR;rw[aZ (by rw[b];simp)];by_cases k1:c.kind=1
  ·rw[bZ k1,e];unfold Ven.done at a|-;rw[bZ k1]at a|-;show(S.led.deposit c.acct c.amt).2.funds=_;rw[Led.deposit_funds h.led.led.sa,bZ a]
  rw[aZ k1];by_cases k2:c.kind=2
  ·rw[bZ k2,e];unfold Ven.done at a|-;rw[aZ k1,bZ k2]at a|-;simp only at a|-;rw[Led.withdraw_funds h.led.led.sa];by_cases f:(S.led.withdraw c.acct c.amt).1=0
   ·rw[bZ f]
   ·grind
  rw[aZ k2,ft];by_cases k12:c.kind=12
  ·rw[e];have d:S.done c=S.settle:=by unfold Ven.done;simp[k12]
   rw[d]at a|-;exact(Ee h a).2
  by_cases k14:c.kind=14
  ·rw[e];have d:S.done c=S.expire c.ct:=by unfold Ven.done;simp[k14]
   rw[d]at a|-;exact(EG h a).2
  exact JP (yK h g k1 k2 k12 k14)
end Go.Proofs
set_option maxRecDepth 100000
namespace Go.Proofs
open Go Go.Vc
section
variable{a b c:Vt_}{W:Wt_}{Z:cG}
def ca23(u:gq 30 a W λc d=>gq 52 b d λe f=>dz 52 e 0 43 f λg h=>gE g h λi j=>cV i (Z (gI 0) j) (dz 30 c 0 22 j λk l=>gC k 1 l λm n=>cV m (dz 30 c 4 2 n Z) (dz 30 c 0 22 n λo p=>gC o 2 p λq r=>cV q (dz 30 c 4 2 r λs t=>gr (Op.unary .neg s) t Z) (Z (gI 0) r)))):Ca pQ 23 #[a,b] W Z:=cj Tryz.func23 u
def J24_0(a:cG)(b:T2)(c:T2->Wp)(d:T1)(e:Wt_):=NV->cV d.1 (a bF e) (g1 b.2.1 e λf g=>c (b.1,f,()) g)
def U2(a b c:Vt_)(d:T4)(e:cG)(f:T2)(g:T2->Wp)(h:T2)(i:Wt_)(j:T2->Wp):=gc h.2.1 a i λk l=>cV k (gY 61 b 7 59 l.drew λm=>mf 59 m h.2.1 λn=>gY 76 n 0 23 l.drew λo=>kg 83 c 0 λp=>gY 27 p 0 23 l.drew λq=>my .eql 23 false o q λr=>cV r (g1 h.1 l.drew λs t=>g1 h.2.1 t λu v=>j (s,u,()) v) (g1 h.2.1 l.drew λw x=>j (h.1,w,()) x)) (jW (λy=>gb .neq 2 true d.1 (gI 0) l λz A=>cV z (y (bT,()) A) (gb .neq 2 true d.2.1 (gI 0) A λB C=>cV B (y (bT,()) C) (dz 83 c 1 81 C λD E=>gb .eql 81 true D (gB 3) E λF G=>cV F (gb .gtr 3 true h.1 (gI 0) G λH I=>y (H,()) I) (y (bF,()) G)))) (J24_0 e f g))
def Wj(a b c:Vt_)(d:T4)(e:cG)(f:T2)(g:T2->Wp)(h:T2)(i:Wt_)(j:T2->Wp):=gc h.2.1 a i λk l=>cV k (gY 61 b 6 59 l.drew λm=>mf 59 m h.2.1 λn=>gY 76 n 0 23 l.drew λo=>kg 83 c 0 λp=>gY 27 p 0 23 l.drew λq=>my .eql 23 false o q λr=>cV r (g1 h.1 l.drew λs t=>g1 h.2.1 t λu v=>j (s,u,()) v) (g1 h.2.1 l.drew λw x=>j (h.1,w,()) x)) (dz 61 b 7 59 l λy z=>gn 59 false y z λA B=>qB (U2 A b c d e f g) (h.1,(gI 0),()) B)
def Ve(a b c:Vt_)(d:cG)(e:T2)(f:T2->Wp)(g:T4)(h:Wt_)(i:T4->Wp):=gc g.2.2.2.1 a h λj k=>cV j (gY 61 b 5 58 k.drew λl=>mf 58 l g.2.2.2.1 λm=>gY 79 m 0 23 k.drew λn=>kg 83 c 0 λo=>gY 27 o 0 23 k.drew λp=>my .eql 23 false n p λq=>cV q (gf 61 b 5 k.drew λr s=>gl 58 r s λt u=>gi 58 t g.2.2.2.1 u λv w=>dz 79 v 2 2 w λx y=>gb .add 2 false g.1 x y λz A=>dz 61 b 5 58 A λB C=>gi 58 B g.2.2.2.1 C λD E=>dz 79 D 3 2 E λF G=>gb .add 2 false g.2.1 F G λH I=>g1 g.2.2.1 I λJ K=>g1 g.2.2.2.1 K λL M=>i (z,H,J,L,()) M) (g1 g.2.2.2.1 k.drew λN O=>i (g.1,g.2.1,g.2.2.1,N,()) O)) (dz 61 b 6 59 k λP Q=>gn 59 false P Q λR S=>qB (Wj R b c g d e f) (g.2.2.1,(gI 0),()) S)
def Vk(a b:Vt_)(c:cG)(d:T2)(e:Wt_)(f:T2->Wp):=gc d.2.1 a e λg h=>cV g (dz 61 b 4 57 h λi j=>gi 57 i d.2.1 j λk l=>gx (fH 83 k) l λm n=>gx (nE 83) n λo p=>nj pQ (jH 83 o m) p λq=>dz 61 b 5 58 q λr s=>gn 58 false r s λt u=>qD (Ve t b o c d f) ((gI 0),(gI 0),(gI 0),(gI 0),()) u) (c bT h)
def Xb(a:cG)(b:Vt_)(c:T3)(d:T1)(e:Wt_):=NV->cV d.1 (a bF e) (dz 61 b 4 57 e λf g=>gn 57 false f g λh i=>qB (Vk h b a) (c.1,(gI 0),()) i)
def UW(a b:Vt_)(c:cG)(d:Vt_)(e:T3)(f:Wt_)(g:T3->Wp):=gc e.2.2.1 a f λh i=>cV h (dz 61 b 3 56 i λj k=>gi 56 j e.2.2.1 k λl m=>dz 70 l 1 2 m λn o=>gb .lss 2 true n (gI 0) o λp q=>cV p (c bF q) (dz 61 b 3 56 q λr s=>gi 56 r e.2.2.1 s λt u=>dz 70 t 1 2 u λv w=>gb .add 2 false e.2.1 v w λx y=>g1 e.2.2.1 y λz A=>g (e.1,x,z,()) A)) (jW (λB=>gb .neq 2 false e.2.1 d i λC D=>cV C (B (bT,()) D) (dz 61 b 2 2 D λE F=>gb .lss 2 true E (gI 0) F λG H=>B (G,()) H)) (Xb c b e))
def az5(k:gq 61 a W λc d=>dz 61 c 2 2 d λe f=>dz 61 c 3 56 f λg h=>gn 56 false g h λi j=>qC (UW i c Z b) (bF,e,(gI 0),()) j):Ca pQ 24 #[a,b] W Z:=cj Tryz.func24 k
def ah4(a b c:Vt_)(d:cG)(e:T3)(f:Wt_)(g:T3->Wp):=gc e.2.2.1 a f λh i=>cV h (mf 65 b e.2.2.1 λj=>pS pQ (fH 30 j) i.drew λk=>mf 65 b e.2.2.1 λl=>pS pQ (fH 30 l) i.drew λm=>Ca pQ 18 #[c,m] i.drew λn o=>Sem.run pQ (fH 30 j) o=.ok k o/\(Ca pQ 23 #[k,n] o λp q=>my .add 2 false e.2.1 p λr=>Ca pQ 20 #[c] q λs t=>Ca pQ 24 #[s,r] t λu v=>gt u v λw x=>cV w (d bF x) (g1 e.2.2.1 x λy z=>g (e.1,r,y,()) z))) (Ca pQ 13 #[] i d)
def ar5(a:Vt_)(b:cG)(c:Vt_)(d:T1)(e:Wt_):=NV->cV d.1 (gb .neq 39 true a (.pointer none) e λf g=>cV f (Ca pQ 13 #[] g b) (b bF g)) (gn 65 false c e λh i=>qC (ah4 h c a b) (bF,(gI 0),(gI 0),()) i)
def ca4(k:Ca pQ 22 #[] W λb c=>jW (λd=>gb .eql 39 true b (.pointer none) c λe f=>cV e (d (bT,()) f) (gn 65 false a f λg h=>gb .gtr 3 true g (gI 150) h λi j=>d (i,()) j)) (ar5 b Z a)):Ca pQ 4 #[a] W Z:=cj Tryz.func4 k
end
end Go.Proofs
namespace Go.Proofs
open Go Go.Vc
attribute [local congr] cR
def Uk{w:Wt_}{K:cG}{c:Cm}{r:Rp}{sT sG sA:Vt_}(s:c.Fit)(u:r.err=0->c.kind=2->0<=c.amt)(g:∀k,M0 w k->K (gI (flowR c r.err)) k):Ca pQ 23 #[vI c,ud r sT sG sA] w K:=by
 apply ca23;obtain⟨i,o,b,n⟩:=uT c w;apply cI o;generalize w.heap.size=p at b|-;obtain⟨d,m,l,j⟩:=boxRp r sT sG sA i;apply cI m;generalize i.heap.size=q at l|-;have M:=n.trans j;have b:=j.hpk b id;refine qS0 ?_;apply cx (gI r.err) d (by simp[go_sem,l,mC]);by_cases h:r.err=0
 ·refine qSf1 h ?_;refine qS0 ?_;refine qS2 b ZV ?_;by_cases f:c.kind=1
  ·refine qSt1 f ?_;refine cI (JB _) (cI (Nx b) ?_);have a:=g d M;rw[flowR,aZ qZ,bZ f]at a;exact a
  refine qSf1 f ?_;refine qS0 ?_;refine qS2 b ZV ?_;have a:=g d M;rw[flowR,aZ qZ,aZ f]at a;by_cases e:c.kind=2
  ·refine qSt1 e ?_;refine cI (JB _) (cI (Nx b) ?_);rw[bZ e]at a;have t:=s.2.2.2.2.1.2;apply cx (gI (-c.amt)) d (by simp[go_sem];rw[wI_]);exact a
  refine qSf1 e ?_;rw[aZ e]at a;exact a
 ·refine qSt1 h ?_;have a:=g d M;rw[flowR,bZ h]at a;exact a
end Go.Proofs
namespace Go.Proofs.YtnfloameajanhaaGreat
open Go Go.Vc Go.Proofs Go.ChangeShapes Go.WideShapes Go.ChangeAt Go.RowKit
set_option maxRecDepth 100000 in
def open_cms{H:Type}{enc:TypeId×Value->H}{w:World}{v0:Value}{j:DataW H}{q:List MemPlace}{d:Nat}(a:Value.okWide Tryz.prog w .any d 65 v0)(g:∃b,DataW.trod enc Tryz.prog w 0 (λ_=>true) true b 65 v0.cells.toList=some (j,q))
  (r:Wt Tryz.prog reachBytes 65 j):∃l:List Cm,Rd w 35 v0 l.length (l.flatMap cmC)/\∀x∈l,x.Fit:=by
 have h:v0.cells.toList=[v0]:=by
  unfold Value.okWide at a;rw[Tryz.underlying65]at a;simp only[Cell.okWide,Tryz.underlying65]at a;unfold Cell.ok at a;rw[Tryz.underlying65]at a;cases v0<;>first|rfl|exact a.elim
 obtain⟨b,g⟩:=g;rw[h]at g;obtain⟨v,e,L,k,-,o⟩:=nJ (sz:=35) Tryz.underlying65 cU qZ g r;cases e
 obtain⟨l,rfl,i⟩:=list_choose (f:=cmC) (Q:=Cm.Fit) λc s=>by
  obtain⟨n,t,y,m,p⟩:=o c s;exact open_cm n m p
 rw[List.length_map,<-List.flatMap_def]at k;exact⟨l,k,i⟩
end Go.Proofs.YtnfloameajanhaaGreat
namespace Go.Proofs
open Go Go.Vc
attribute [local congr] cR
variable {x:Int×Od}{S:Ven}
def Ven.oL(S:Ven):List (Int×Od):=S.nums.flatMap λn=>(S.bk n).all.map λo=>(n,o)
def Ven.bL(S:Ven):List (Int×Od):=S.nums.flatMap λn=>(S.bd n).map λo=>(n,o)
def yT(h:x∈S.oL):x.1∈S.nums/\x.2∈(S.bk x.1).all:=by
 obtain⟨n,b,h⟩:=List.mem_flatMap.1 h;obtain⟨o,a,rfl⟩:=cF.1 h;exact⟨b,a⟩
def yD(h:x∈S.bL):x.1∈S.nums/\x.2∈S.bd x.1:=by
 obtain⟨n,b,h⟩:=List.mem_flatMap.1 h;obtain⟨o,a,rfl⟩:=cF.1 h;exact⟨b,a⟩
def tM(h:x∈S.oL++S.bL):x.2∈S.ords x.1:=by
 rcases dg.1 h with h|h
 ·exact fk _ (yT h).2
 ·exact gg _ (yD h).2
def pK(h:S.Ok):S.oL.length<=3200/\S.bL.length<=800:=by
 have b:=tX h.ord S.nums.length;have a:=tO h.ord S.nums.length;unfold wi at b;unfold vV at a;rw[cN]at b a;have d:=h.cal.len;have c:S.nums.length=S.cal.l.length:=by unfold Ven.nums;rw[cz]
 exact⟨by show(S.nums.flatMap _).length<=_;omega,by show(S.nums.flatMap _).length<=_;omega⟩
def jZ(x:Int×Od):(ju x).length=6:=rfl
abbrev kU:TypeId:=59
def xC:Tryz.prog.underlying kU=some (.slice 76):=cU
end Go.Proofs
namespace Go.Proofs
open Go Go.Vc
attribute [local congr] cR
abbrev StR(w:Wt_)(ss:Nat->Value)(A:List Ac)(C:List Ct)(P:List Po)(O B:List (Int×Od)):Prop:=∀i,3<=i->i<=7->Rd w (MN i) (ss i) (LN A C P O B i) (LC A C P O B i)
def wW(d nx b:Int)(ss:Nat->Value)(w:Wt_):∃a,(Instr.box sV (As d nx b ss)).run pQ w=.ok (pt w.heap.size 0) a/\hC a w.heap.size (rN d nx b ss).toArray sV/\M0 w a:=
 ⟨w.alloc (.cells (rN d nx b ss).toArray sV),rfl,by show hp _ _=_;simp[go_sem],(de.refl _ w).alloc _⟩
def yo{w:Wt_}{b:Nat}{d nx g:Int}{ss:Nat->Value}(h:hC w b (rN d nx g ss).toArray sV)(j:∀i,3<=i->i<=7->∃a n c,ss i=.slice a n c)(i:Nat)(hi:3<=i)(f:i<=7):(iL (xL i) (pt b i)).run pQ w=.ok (ss i) w:=by
 obtain⟨a,n,c,e⟩:=j i hi f;have:i=3\/i=4\/i=5\/i=6\/i=7:=qZ;rcases this with rfl|rfl|rfl|rfl|rfl<;>(simp only[xL];rw[e];simp only[rN]at h;rw[e]at h;simp[go_sem,h])
def yB:Tryz.prog.underlying 58=some (.slice 79):=cU
def SB.str{w:Wt_}{b lo:Nat}{d nx e:Int}{ss:Nat->Value}{A:List Ac}{C:List Ct}{P:List Po}{O B:List (Int×Od)}(h:SB w b d nx e ss A C P O B lo):StR w ss A C P O B:=λi c a=>(h.own i c a).rd
def ut{S:Ven}(h:S.Ok):S.led.all.length<=100000/\S.cal.l.length<=100000/\(S.nums.flatMap S.led.holders).length<=100000/\S.oL.length<=100000/\S.bL.length<=100000:=by
 have d:=h.led.led.len;have b:=h.cal.len;have a:=uM h.led.led S.nums.length;unfold wP at a;rw[cN]at a;have c:S.nums.length=S.cal.l.length:=by unfold Ven.nums;rw[cz]
 have e:=pK h;exact⟨qZ,qZ,qZ,qZ,qZ⟩
section
variable{w:Wt_}{b off:Nat}{a:Ac}{k:Ct}
def HT(h:At w b off (fI k)):(iL 23 (pt b off)).run pQ w=.ok (gU k.spec.num) w:=by
 obtain⟨C,e,fz,g,f⟩:=h.get;have c:=f 0 (gU k.spec.num) rfl;rw[dS]at c;simp[go_sem,g,c]
def Kk(h:At w b off (fI k)):(iL 81 (pt b (off+25))).run pQ w=.ok (gB k.st) w:=by
 obtain⟨C,e,fz,f,c⟩:=h.get;have i:(fI k)[25]? =some (gB k.st):=by unfold fI;rw[cQ (by rw[dP];omega),dP];rfl
 have g:=c 25 _ i;simp[go_sem,f,g]
end
def yc(t:TypeId)(q:IntKind)(x y:Int)(c:Bool)(f:Tryz.prog.underlying t=some (.int q))(W:Wt_):(qE .eql t c (.int q x) (.int q y)).run pQ W=.ok (.bool (decide (x=y))) W:=by
 have e:(x==y)=decide (x=y):=rfl;simp[go_sem,e]
end Go.Proofs
namespace Go.Proofs
open Go Go.Vc
variable {S:Ven}
def EL{f:Po->Int}{n:Int}{l:List Po}(h:∀p∈l,p.c≠n):kB (λp=>if p.c=n then f p else 0) l=0:=
 (uS λp hp=>aZ (h p hp)).trans (xJ _)
def holders_c{L:Led}{n:Int}{p:Po}(h:p∈L.holders n):p.c=n:=by simpa using(cO.1 h).2
def Dg{f:Po->Int}{L:Led}{n:Int}:∀(a:List Int),a.Nodup->n∈a->kB (λp=>if p.c=n then f p else 0) (a.flatMap L.holders)=kB f (L.holders n)
 | [],_,h=>by cases h
 |m::a,b,h=>by
  rw[eu,Bg];rw[dA]at b;by_cases e:m=n
  ·subst e
   have c:kB (λp=>if p.c=m then f p else 0) (a.flatMap L.holders)=0:=EL λp hp=>by
    obtain⟨x,g,hp⟩:=List.mem_flatMap.1 hp;rw[holders_c hp];rintro rfl;exact b.1 g
   rw[c,ft];exact uS λp hp=>bZ (holders_c hp)
  ·have d:kB (λp=>if p.c=n then f p else 0) (L.holders m)=0:=EL λp hp=>by
    rw[holders_c hp];exact e
   rw[d,Int.zero_add];exact Dg a b.2 ((cH.1 h).resolve_left (kG e))
def rj(h:S.Ok):S.nums.Nodup:=by
 have:=h.cal.srt;unfold qO at this;unfold Ven.nums;rw[List.Nodup,fD];exact this.imp λh e=>by omega
def Nr(h:S.Ok){k:Ct}(b:k∈S.cal.l):kB (zgq k.spec.num) S.state.poss=0/\kB (fJ k.spec.num) S.state.poss=0:=by
 have a:k.spec.num∈S.nums:=dn b;obtain⟨d,c⟩:=h.led.zero.holders k.spec.num;exact⟨(Dg S.nums (rj h) a).trans d,(Dg S.nums (rj h) a).trans c⟩
def CD(h:S.Ok){k:Ct}(a:k∈S.cal.l)(b:k.st=3):ex S.cal.l k.spec.num≠0:=by
 unfold ex;rw[calGet_of h.cal a];simp[b]
def Sc(h:S.Ok){k:Ct}(a:k∈S.cal.l)(b:k.st=3){p:Po}(hp:p∈S.state.poss):p.c≠k.spec.num:=λe=>by
 obtain⟨n,-,hp⟩:=List.mem_flatMap.1 hp;have:=h.led.held p (cO.1 hp).1;rw[e]at this;exact CD h a b this
def Ip(h:S.Ok){k:Ct}(a:k∈S.cal.l)(c:k.st=3){n:Int}{o:Od}(b:o∈S.ords n):n≠k.spec.num:=λe=>by
 have:=h.ord.alive b;rw[e]at this;exact CD h a c this
end Go.Proofs
namespace Go.Proofs
open Go Go.Vc
attribute [local congr] cR
variable {b:Nat}{w:Wt_}{K:cG}
section
variable{α:Type}{f:α->Int}{l:List α}
def yj(f:α->Int){i:Nat}(hi:i<l.length):((l.take (i+1)).map f).sum=((l.take i).map f).sum+f l[i]:=by
 rw[eA hi,dy,g9];simp
def Dm{B:Int}(h:∀x∈l,-B<=f x/\f x<=B):∀i,i<=l.length-> -(i*B)<=((l.take i).map f).sum/\((l.take i).map f).sum<=i*B
 |0,_=>by simp
 |i+1,a=>by
  have d:=Dm h i qZ;have c:=h _ (cC a);rw[yj f a,iT,Int.add_mul];omega
end
section
variable{w:Wt_}{b off:Nat}{p:Po}{s:Vt_}
def Rb(h:At w b off (ec p)):(iL 23 (pt b off)).run pQ w=.ok (gU p.c) w:=by
 obtain⟨C,e,fz,d,c⟩:=h.get;have a:=c 0 _ rfl;rw[dS]at a;simp[go_sem,d,a]
def PV(h:At w b off (ec p)):(iL 2 (pt b (off+2))).run pQ w=.ok (gI p.q) w:=by
 obtain⟨C,e,fz,c,a⟩:=h.get;have d:=a 2 _ rfl;simp[go_sem,c,d]
def af5(h:At w b off (ec p)):(iL 2 (pt b (off+3))).run pQ w=.ok (gI p.b) w:=by
 obtain⟨C,e,fz,c,a⟩:=h.get;have d:=a 3 _ rfl;simp[go_sem,c,d]
def K6{x:Int×Od}(h:At w b off (ju x)):(iL 23 (pt b off)).run pQ w=.ok (gU x.1) w:=by
 obtain⟨C,e,fz,d,c⟩:=h.get;have a:=c 0 (gU x.1) rfl;rw[dS]at a;simp[go_sem,d,a]
def av2{A:List Ac}(h:Rd w 4 s A.length (A.flatMap dH)){i:Nat}(hi:i<A.length):
  ∃a off,(∀W,(iX 56 s (gI (i:Int))).run pQ W=.ok (pt a off) W)/\At w a off (dH A[i]):=by
 obtain⟨b,off,e,c,d,g⟩:=h.item (f:=dH) (λx=>by simp[dH]) hi rfl;exact⟨b,off+i*4,λW=>by rw[c];simp[go_sem,hi,cS],g⟩
def ax6{A:List Ct}(h:Rd w 27 s A.length (A.flatMap fI)){i:Nat}(hi:i<A.length):
  ∃a off,(∀W,(iX 57 s (gI (i:Int))).run pQ W=.ok (pt a off) W)/\At w a off (fI A[i]):=by
 obtain⟨b,off,e,c,d,g⟩:=h.item (f:=fI) eE hi rfl;exact⟨b,off+i*27,λW=>by rw[c];simp[go_sem,hi,cS],g⟩
def Ml{A:List Po}(h:Rd w 4 s A.length (A.flatMap ec)){i:Nat}(hi:i<A.length):
  ∃a off,(∀W,(iX 58 s (gI (i:Int))).run pQ W=.ok (pt a off) W)/\At w a off (ec A[i]):=by
 obtain⟨b,off,e,c,d,g⟩:=h.item (f:=ec) (λx=>by simp[ec]) hi rfl;exact⟨b,off+i*4,λW=>by rw[c];simp[go_sem,hi,cS],g⟩
def am1{A:List (Int×Od)}(h:Rd w 6 s A.length (A.flatMap ju)){i:Nat}(hi:i<A.length):
  ∃a off,(∀W,(iX kU s (gI (i:Int))).run pQ W=.ok (pt a off) W)/\At w a off (ju A[i]):=by
 obtain⟨b,off,e,c,d,g⟩:=h.item (f:=ju) jZ hi rfl;exact⟨b,off+i*6,λW=>by rw[c];simp[go_sem,hi,cS],g⟩
end
def Hn{x y:Int}(h: -9223372036854775808<=x+y/\x+y<9223372036854775808)(W:Wt_):(qE .add 2 false (gI x) (gI y)).run pQ W=.ok (gI (x+y)) W:=by
 simp[go_sem];rw[uP h.1 h.2]
def Mg{off:Nat}(W:Wt_):(iF 83 (pt b off) 0).run pQ W=.ok (pt b off) W:=by simp[go_sem,cS]
def HS{off:Nat}(W:Wt_):(iF 27 (pt b off) 0).run pQ W=.ok (pt b off) W:=by simp[go_sem,cS]
def yd(n:Int)(l:List (Int×Od)):Nat:=(l.filter λx=>decide (x.1=n)).length
def BR(n:Int)(l:List Po):Nat:=(l.filter λx=>decide (x.c=n)).length
def FX{n:Int}{l:List (Int×Od)}{i:Nat}(hi:i<l.length):yd n (l.take (i+1))=yd n (l.take i)+(if l[i].1=n then 1 else 0):=by
 unfold yd;rw[eA hi,dJ,cD];congr 1;by_cases h:l[i].1=n<;>simp[h]
def RY{n:Int}{l:List Po}{i:Nat}(hi:i<l.length):BR n (l.take (i+1))=BR n (l.take i)+(if l[i].c=n then 1 else 0):=by
 unfold BR;rw[eA hi,dJ,cD];congr 1;by_cases h:l[i].c=n<;>simp[h]
def FP(n:Int)(l:List (Int×Od))(i:Nat):yd n (l.take i)<=i:=by
 unfold yd;exact dD (dm _ _) (by grind)
def Le(n:Int)(l:List Po)(i:Nat):BR n (l.take i)<=i:=by
 unfold BR;exact dD (dm _ _) (by grind)
set_option maxRecDepth 10000 in
def Qt{d nx G fs:Int}{ss:Nat->Value}{A:List Ac}{C:List Ct}{P:List Po}{O B:List (Int×Od)}(N:StR w ss A C P O B)
  (hl:A.length<=64/\C.length<=16/\P.length<=100000/\O.length<=100000/\B.length<=100000)(hpl:P.length<=1024)
  (hA:∀a∈A,0<=a.cash/\a.cash<=1000000000000000)(hf:0<=G/\G<=1000000000000000)(Z:G+(A.map (·.cash)).sum=fs)
  (hP:∀p∈P,(-10000000<=p.q/\p.q<=10000000)/\ -1000000000000000<=p.b/\p.b<=1000000000000000)
  (hz:∀k∈C,kB (zgq k.spec.num) P=0/\kB (fJ k.spec.num) P=0)
  (H:∀k∈C,k.st=3->BR k.spec.num P+yd k.spec.num O+yd k.spec.num B=0)
  (hK:∀w',M0 w w' ->K (.bool true) w'):Ca pQ 24 #[As d nx G ss,gI fs] w K:=by
 apply az5;obtain⟨w1,e1,b1,R⟩:=wW d nx G ss w;apply cI e1;generalize w.heap.size=p at b1|-;have M:∀i,3<=i->i<=7->∃a c,ss i=.slice a (LN A C P O B i) c:=λi S Q=>(N i S Q).isSl;have u:∀W,M0 w1 W->∀i,3<=i->i<=7->(iL (xL i) (pt p i)).run pQ W=.ok (ss i) W:=λW m i S Q=>yo (m.hpk b1 id) (λi S Q=>by obtain⟨a,c,e⟩:=M i S Q;exact⟨a,_,c,e⟩) i S Q
 have n3:∀W,(builtin .len #[56] 3 #[false] #[ss 3]).run pQ W=.ok (.value (gI (A.length:Int))) W:=λW=>by
  obtain⟨a,c,e⟩:=M 3 qZ qZ;rw[e];exact lenV ya _ _ _ _
 have n4:∀W,(builtin .len #[57] 3 #[false] #[ss 4]).run pQ W=.ok (.value (gI (C.length:Int))) W:=λW=>by
  obtain⟨a,c,e⟩:=M 4 qZ qZ;rw[e];exact lenV qU _ _ _ _
 have n5:∀W,(builtin .len #[58] 3 #[false] #[ss 5]).run pQ W=.ok (.value (gI (P.length:Int))) W:=λW=>by
  obtain⟨a,c,e⟩:=M 5 qZ qZ;rw[e];exact lenV yB _ _ _ _
 have n6:∀W,(builtin .len #[59] 3 #[false] #[ss 6]).run pQ W=.ok (.value (gI (O.length:Int))) W:=λW=>by
  obtain⟨a,c,e⟩:=M 6 qZ qZ;rw[e];exact lenV xC _ _ _ _
 have n7:∀W,(builtin .len #[59] 3 #[false] #[ss 7]).run pQ W=.ok (.value (gI (B.length:Int))) W:=λW=>by
  obtain⟨a,c,e⟩:=M 7 qZ qZ;rw[e];exact lenV xC _ _ _ _
 have fuL:∀W,M0 w1 W->(iL 2 (pt p 2)).run pQ W=.ok (gI G) W:=λW m=>by
  have:=m.hpk b1 id;simp only[rN]at this;simp[go_sem,this]
 refine cI (dZ _ 2 qZ) (cI (fuL _ lX) ?_);refine cI (dZ _ 3 qZ) (cI (u w1 lX 3 qZ qZ) (mB (n3 _) ?_))
 refine eS (λst W=>∃(x:Vt_) (i:Nat),st=(x,gI (G+((A.take i).map (·.cash)).sum),gI i,())/\i<=A.length/\M0 w1 W)
  (λst _=>match st.2.2.1 with| .int _ i=>A.length - i.toNat|_=>0) ⟨.bool false,0,by simp,qZ,lX⟩ ?_
 rintro⟨_,_,_⟩ W ⟨x,i,⟨⟩,y,m⟩ KN hKN;unfold UW;intro _;apply cI (ltV _ _ _);by_cases g:i<A.length
 ·rw[qo g];obtain⟨a,o,ix,h⟩:=av2 ((N 3 qZ qZ).mod (R.trans m) eQ) g;have hc:=hA _ (cC g);have hb:=Dm (f:=(·.cash)) (l:=A) (B:=1000000000000000) (λx H=>by have:=hA x H;omega) i y;refine cI (dZ _ 3 qZ) (cI (u W m 3 qZ qZ) (cI (ix _) ?_));refine qSv0 (pt a (o+1)) (cI (qV h) ?_);apply cx (.bool false) W (by simp[go_sem];omega);rw[gP];refine cI (dZ _ 3 qZ) (cI (u W m 3 qZ qZ) (cI (ix _) ?_));refine qSv0 (pt a (o+1)) (cI (qV h) ?_);apply cI (Hn qZ _);apply cI (addV qZ _);exact hKN _ _ ⟨_,i+1,by rw[yj _ g,oD],qZ,m⟩ (by show A.length - (i+1)<A.length - i;omega)
 rw[DN g];have r:i=A.length:=qZ;subst r;rw[cN,Z];refine dK.at (λst W' =>st=(.bool false,())/\W' =W) ?_ ?_
 ·refine qSf0 ?_;refine cI (dZ _ 2 qZ) (cI (fuL _ m) ?_);apply cx (.bool false) W (by simp[go_sem];omega);exact sI
 rintro _ W' ⟨rfl,rfl⟩;unfold Xb;intro _;rw[gP];refine cI (dZ _ 4 qZ) (cI (u _ m 4 qZ qZ) (mB (n4 _) ?_))
 refine eS (λst W=>∃(x:Vt_) (i:Nat),st=(x,gI i,())/\i<=C.length/\M0 w1 W)
  (λst _=>match st.2.1 with| .int _ i=>C.length - i.toNat|_=>0) ⟨_,0,rfl,qZ,m⟩ ?_
 rintro⟨_,_⟩ W2 ⟨x,j,⟨⟩,hj,m2⟩ KN2 hKN2;unfold Vk;intro _;apply cI (ltV _ _ _);by_cases F:¬j<C.length
 ·rw[DN F];exact hK _ (R.trans m2)
 have t:=Classical.not_not.1 F;rw[qo t];obtain⟨a,o,ix,h⟩:=ax6 ((N 4 qZ qZ).mod (R.trans m2) eQ) t;refine cI (dZ _ 4 qZ) (cI (u W2 m2 4 qZ qZ) (cI (ix _) ?_));apply iW (gm ME yV (eE _) h);have J:=hz _ (cC t);have V:=H _ (cC t);generalize C[j]=k at J V|-;refine Ep λY b3 m3=>?_;generalize W2.heap.size=q at b3|-;have L:=m2.trans m3
 have kN:∀W,M0 Y W->(iL 23 (pt q 0)).run pQ W=.ok (gU k.spec.num) W:=λW m=>by
  have:=HT (At.all (m.hpk b3 id));exact this
 refine cI (dZ _ 5 qZ) (cI (u Y L 5 qZ qZ) (mB (n5 _) ?_));have bq:=λi y=>Dm (f:=zgq k.spec.num) (l:=P) (B:=10000000) (λx H=>by have:=hP x H;unfold zgq;split<;>omega) i y;have bb:=λi y=>Dm (f:=fJ k.spec.num) (l:=P) (B:=1000000000000000) (λx H=>by have:=hP x H;unfold fJ;split<;>omega) i y
 refine eS (λst W=>∃(i:Nat),st=(gI ((P.take i).map (zgq k.spec.num)).sum,gI ((P.take i).map (fJ k.spec.num)).sum,gI (BR k.spec.num (P.take i):Nat),gI i,())/\i<=P.length/\M0 Y W)
  (λst _=>match st.2.2.2.1 with| .int _ i=>P.length - i.toNat|_=>0) ⟨0,by simp[BR],qZ,lX⟩ ?_
 rintro⟨_,_,_,_⟩ W3 ⟨i,⟨⟩,y,m4⟩ KN3 D;unfold Ve;intro _;apply cI (ltV _ _ _);by_cases g:i<P.length
 ·rw[qo g];have X:=m4.trans mP
  try dsimp only
  generalize W3.drew=W4 at X|-;have M5:=L.trans X;obtain⟨a,o,ix,h⟩:=Ml ((N 5 qZ qZ).mod (R.trans M5) eQ) g;have S:=bq i y;have Q:=bb i y;have h3:=hP _ (cC g);refine dw (λ_=>dZ _ 5 qZ) (dp (u _ M5 5 qZ qZ) (dw ix ?_));refine qPv1 (pt a o) cS (dp (Rb h) ?_);refine dw Mg (dw HS (dp (kN _ X) (dw (λW=>yc 23 .u32 _ _ _ Tryz.underlying23 W) ?_)));by_cases n:P[i].c=k.spec.num
  ·rw[qo n];refine cI (dZ _ 5 qZ) (cI (u _ M5 5 qZ qZ) (cI (ix _) ?_));refine qSv0 (pt a (o+2)) (cI (PV h) (cI (Hn qZ _) ?_));refine cI (dZ _ 5 qZ) (cI (u _ M5 5 qZ qZ) (cI (ix _) ?_));refine qSv0 (pt a (o+3)) (cI (af5 h) (cI (Hn qZ _) ?_));have T:=Le k.spec.num P i;refine cI (addV qZ _) (cI (addV qZ _) ?_);exact D _ _ ⟨i+1,by rw[yj _ g,yj _ g,RY g,bZ n,zgq,fJ,bZ n,bZ n],qZ,X⟩ (by show P.length - (i+1)<P.length - i;omega)
  ·rw[DN n];apply cI (addV qZ _);exact D _ _ ⟨i+1,by rw[yj _ g,yj _ g,RY g,aZ n,zgq,fJ,aZ n,aZ n,ft,ft];rfl,qZ,X⟩ (by show P.length - (i+1)<P.length - i;omega)
 rw[DN g];have r:i=P.length:=qZ;subst r;rw[cN];have M4:=L.trans m4;refine cI (dZ _ 6 qZ) (cI (u _ M4 6 qZ qZ) (mB (n6 _) ?_))
 refine eS (λst W=>∃(i:Nat),st=(gI ((BR k.spec.num P+yd k.spec.num (O.take i):Nat):Int),gI i,())/\i<=O.length/\M0 Y W)
  (λst _=>match st.2.1 with| .int _ i=>O.length - i.toNat|_=>0) ⟨0,by simp[yd],qZ,m4⟩ ?_
 rintro⟨_,_⟩ W5 ⟨i,⟨⟩,y,m6⟩ KN4 E;unfold Wj;intro _;have hcp:=Le k.spec.num P P.length;rw[cN]at hcp;apply cI (ltV _ _ _);by_cases g:i<O.length
 ·rw[qo g];have v:=m6.trans mP
  try dsimp only
  generalize W5.drew=W6 at v|-;have U:=L.trans v;obtain⟨a,o,ix,h⟩:=am1 ((N 6 qZ qZ).mod (R.trans U) eQ) g;refine dw (λ_=>dZ _ 6 qZ) (dp (u _ U 6 qZ qZ) (dw ix ?_));refine qPv1 (pt a o) cS (dp (K6 h) ?_);refine dw Mg (dw HS (dp (kN _ v) (dw (λW=>yc 23 .u32 _ _ _ Tryz.underlying23 W) ?_)));by_cases n:O[i].1=k.spec.num
  ·rw[qo n];have T:=FP k.spec.num O i;refine cI (addV qZ _) (cI (addV qZ _) ?_);exact E _ _ ⟨i+1,by rw[FX g,bZ n];rfl,qZ,v⟩ (by show O.length - (i+1)<O.length - i;omega)
  ·rw[DN n];apply cI (addV qZ _);exact E _ _ ⟨i+1,by rw[FX g,aZ n];rfl,qZ,v⟩ (by show O.length - (i+1)<O.length - i;omega)
 rw[DN g];have r:i=O.length:=qZ;subst r;rw[cN];have M6:=L.trans m6;have hco:=FP k.spec.num O O.length;rw[cN]at hco;refine cI (dZ _ 7 qZ) (cI (u _ M6 7 qZ qZ) (mB (n7 _) ?_))
 refine eS (λst W=>∃(i:Nat),st=(gI ((BR k.spec.num P+yd k.spec.num O+yd k.spec.num (B.take i):Nat):Int),gI i,())/\i<=B.length/\M0 Y W)
  (λst _=>match st.2.1 with| .int _ i=>B.length - i.toNat|_=>0) ⟨0,by simp[yd],qZ,m6⟩ ?_
 rintro⟨_,_⟩ W7 ⟨i,⟨⟩,y,m8⟩ KN5 z;unfold U2;intro _;apply cI (ltV _ _ _);by_cases g:i<B.length
 ·rw[qo g];have v:=m8.trans mP
  try dsimp only
  generalize W7.drew=W6 at v|-;have U:=L.trans v;obtain⟨a,o,ix,h⟩:=am1 ((N 7 qZ qZ).mod (R.trans U) eQ) g;refine dw (λ_=>dZ _ 7 qZ) (dp (u _ U 7 qZ qZ) (dw ix ?_));refine qPv1 (pt a o) cS (dp (K6 h) ?_);refine dw Mg (dw HS (dp (kN _ v) (dw (λW=>yc 23 .u32 _ _ _ Tryz.underlying23 W) ?_)));by_cases n:B[i].1=k.spec.num
  ·rw[qo n];have T:=FP k.spec.num B i;refine cI (addV qZ _) (cI (addV qZ _) ?_);exact z _ _ ⟨i+1,by rw[FX g,bZ n];rfl,qZ,v⟩ (by show B.length - (i+1)<B.length - i;omega)
  ·rw[DN n];apply cI (addV qZ _);exact z _ _ ⟨i+1,by rw[FX g,aZ n];rfl,qZ,v⟩ (by show B.length - (i+1)<B.length - i;omega)
 rw[DN g];have r:i=B.length:=qZ;subst r;rw[cN];have z1:(P.map (zgq k.spec.num)).sum=0:=J.1;have z2:(P.map (fJ k.spec.num)).sum=0:=J.2;rw[z1,z2];refine dK.at (λst W=>st=(.bool false,())/\W=W7) ?_ ?_
 ·refine qSf0 ?_;refine qSf0 ?_;refine qSv0 (pt q (0+25)) (cI (Kk (At.all (m8.hpk b3 id))) ?_);apply cI (yc 81 .u8 _ _ _ cU _);by_cases I:k.st=3
  ·rw[qo I];rw[V I];refine qS0 ?_;exact sI
  ·rw[DN I];exact sI
 rintro _ W8 ⟨rfl,rfl⟩;unfold J24_0;intro _;rw[gP];apply cI (addV qZ _);exact hKN2 _ _ ⟨_,j+1,rfl,qZ,L.trans m8⟩ (by show C.length - (j+1)<C.length - j;omega)
def NK{S:Ven}{ss:Nat->Value}{lo:Nat}{d nx:Int}(ok:S.Ok)(h:SB w b d nx S.led.fund ss S.led.all S.cal.l (S.nums.flatMap S.led.holders) (S.nums.flatMap λn=>(S.bk n).all.map λo=>(n,o)) (S.nums.flatMap λn=>(S.bd n).map λo=>(n,o)) lo)
  (u:∀j,M0 w j->K (.bool true) j):Ca pQ 24 #[As d nx S.led.fund ss,gI S.led.funds] w K:=by
 obtain⟨C,D,v,y,r⟩:=ut ok;have hp:=uM ok.led.led S.nums.length;unfold wP at hp;rw[cN]at hp;have B:=ok.cal.len;have z:S.nums.length=S.cal.l.length:=by unfold Ven.nums;rw[cz]
 have g:∀p∈S.nums.flatMap S.led.holders,p∈S.led.held:=λp hp=>by
  obtain⟨n,-,hp⟩:=List.mem_flatMap.1 hp;exact(cO.1 hp).1
 refine Qt h.str ⟨ok.led.led.len,B,v,y,r⟩ qZ (λa A=>?_) ok.led.led.fund rfl (λp hp=>?_) (λk e=>Nr ok e) (λk e c=>?_) u
 ·exact(ok.led.led.acc a A).2.2
 ·have:=ok.led.led.pos p (g p hp);unfold MP MF at this;omega
 ·have t:BR k.spec.num (S.nums.flatMap S.led.holders)=0:=by
   unfold BR;rw[ii.2 λp hp=>by simpa using Sc ok e c hp];rfl
  have m:yd k.spec.num S.oL=0:=by
   unfold yd;rw[ii.2 λx i=>by simpa using Ip ok e c (tM (fk _ i))];rfl
  have q:yd k.spec.num S.bL=0:=by
   unfold yd;rw[ii.2 λx i=>by simpa using Ip ok e c (tM (gg _ i))];rfl
  unfold Ven.oL at m;unfold Ven.bL at q;rw[t,m,q]
set_option maxRecDepth 10000 in
def ca_lawWhole{s:Vt_}{L:List Cm}(h:Rd w 35 s L.length (L.flatMap cmC))(hf:∀c∈L,c.Fit)(hK:∀w',M0 w w' ->K (.bool true) w'):Ca pQ 4 #[s] w K:=by
 apply ca4;refine tB λv F0 Y q1 m1 n1=>?_;obtain⟨sa,sc,hs⟩:=h.isSl;have o:∀W,(builtin .len #[65] 3 #[false] #[s]).run pQ W=.ok (.value (gI (L.length:Int))) W:=λW=>by rw[hs];exact lenV BU _ _ _ _
 refine dK.at (λst W=>st=(.bool (decide (150<L.length)),())/\W=Y) ?_ ?_
 ·apply cx (.bool false) Y (by simp[eY,go_sem]);rw[gP];apply mB (o _);apply cx (.bool (decide (150<L.length))) Y (by simp[go_sem];omega);exact sI
 rintro _ W ⟨rfl,rfl⟩;unfold ar5;intro _;by_cases hb:150<L.length
 ·rw[qo hb];apply cx (.bool true) W (by simp[eY,go_sem]);rw[kx];exact kf λw2 M=>hK _ (m1.trans M)
 rw[cy,aZ (by grind)];apply mB (o _)
 refine eS (λst t=>∃(x:Vt_) (i:Nat) (F:NP_) (S:Ven),st=(x,gI S.led.funds,gI i,())/\i<=L.length/\lw t v F S/\S.Ok/\M0 w t/\∀y,F y->w.heap.size<=y)
  (λst _=>match st.2.2.1 with| .int _ i=>L.length - i.toNat|_=>0) ⟨_,0,F0,Ven.empty,rfl,qZ,q1,qX,m1,n1⟩ ?_
 rintro⟨_,_,_⟩ t ⟨x,i,F,S,⟨⟩,hi,q2,r,M,n2⟩ KN Q;unfold ah4;intro _;apply cI (ltV _ _ _);by_cases k:i<L.length
 ·rw[qo k];have E:M0 t t.drew:=mP;have q3:=q2.md0 E
  try dsimp only
  generalize t.drew=P at E q3|-;have Z:=M.trans E;obtain⟨cb,co,G,H⟩:=zH (h.mod Z eQ) k;have e:=hf _ (cC k);refine dw G (li (vx H) (dw G (li (vx H) ?_)));refine kW q3 r e λsT sG sA F5 w5 q5 r5 m5 n5 _=>?_;have d:=mV r e;have g:=Jv r e
  have C:(S.apply L[i]).1.err=0->L[i].kind=2->0<=L[i].amt:=λG hk=>by
   rcases apply_cases S L[i]with⟨N,-⟩|⟨-,-,V,-⟩
   ·exact absurd G N
   ·unfold Ven.done at V;rw[aZ qZ,bZ hk]at V;simp only at V;rcases Led.withdraw_cases (S:=S.led) (n:=L[i].acct) (m:=L[i].amt)with⟨-,J⟩|⟨a,-,-,-,h3,-⟩
    ·grind
    ·omega
  have hfb:=d.fnd
  have j: -9223372036854775808<=(S.apply L[i]).2.led.funds/\(S.apply L[i]).2.led.funds<9223372036854775808:=by
   have N:=d.led.led.fund
   have J:=Ka (p:=(S.apply L[i]).2.led.all.map (·.cash)) λy B=>by
    obtain⟨u,hu,rfl⟩:=cF.1 B;exact(d.led.led.acc u hu).2.2.1
   unfold Led.funds MF at*;omega
  generalize hX:S.apply L[i]=X at q5 r5 d g C j|-;have M5:=Z.on m5 λy B=>.inr (n2 y B)
  have N5:∀y,F5 y->w.heap.size<=y:=λy B=>by
   rcases n5 y B with h|h
   ·exact n2 y h
   ·have:=Z.size;omega
  obtain⟨T,U,he5,q⟩:=zH (h.mod M5 eQ) k
  have I:T=cb/\U=co:=by
   have N:=G P;have J:=he5 P;rw[N]at J;simpa using J.symm
  rw[I.1,I.2]at q;refine⟨vx q,?_⟩;refine Uk e C λw6 m6=>?_;apply dX (gI X.2.led.funds) (λW=>by rw[g]at j|-;exact Hn j W);have q6:=q5.md0 m6;have O:=q6;obtain⟨c,l,mb,md,A,D,fp,R,hF6⟩:=q6;refine mK R d λtt b2 lo2 w7 s7 hlo7 m7 hb7=>?_;refine NK d s7 λw8 m8=>?_;refine qSf0 ?_;apply cI (addV qZ _);have z:=m7.trans m8;exact Q _ _ ⟨_,i+1,F5,X.2,rfl,qZ,O.md0 z,d,(M5.trans m6).trans z,N5⟩ (by grind)
 ·rw[cy,aZ (by grind)];exact kf λP E=>hK _ (M.trans E)
end Go.Proofs
namespace Go.Proofs.YtnfloameajanhaaGreat.venueWhole
open Go Go.Vc Go.Proofs Go.ChangeShapes Go.WideShapes Go.ChangeAt Go.RowKit
set_option maxRecDepth 100000 in
def lifted(os:Os)(b:os.Started)(H:Type)(enc:TypeId×Value->H):
  ReturnsInHanded {} Tryz.checked os 4 .any (Rows.venueWholeSpec.pre6 enc Tryz.prog Tryz.f4 Rows.venueWholeRow.domain false) (Rows.venueWholeSpec.post enc Tryz.prog Tryz.f4 false true false false):=by
 refine returnsInHanded_of_change_sized (C:=Tryz.checked) own b cU Tryz.func4
  (ChangeSpec.witness6 (enc:=enc) (C:=Tryz.checked) false ⟨#[],#[.slice none 0 0],[]⟩ 8 cU cU cU cU) ?_
 intro W h a ds gs n c x z l _;have d:∀(j:Nat) t v,Tryz.f4.params[j]? =some t->a[j]? =some v->Value.okWide Tryz.prog W .any h t v:=c;have k:(DataW.weightsEach Tryz.prog (Tryz.f4.params.toList++[]) (ds++gs)).all (·<=reachBytes)=true:=l;have s:=x;obtain⟨p,q,i,J,rfl,I,F⟩:=x;have y:DataW.TrodAll enc Tryz.prog W 0 (λ_=>true) true Tryz.f4.params.toList a.toList ds p:=i;rw[Tryz.params4]at y d k;obtain⟨v0,G,E,B,N,L,r,rfl,rfl,A,D⟩:=trodAll_cons y;obtain⟨rfl,rfl,rfl⟩:=trodAll_nil D;obtain rfl:a= #[v0]:=by cases a;simp_all
 obtain⟨rfl,rfl⟩:=trodVars_none J
 have u:Wt Tryz.prog reachBytes 65 E:=by
  intro m f;have:=List.all_eq_true.1 k m (by simp only[List.append_nil,List.cons_append,List.nil_append,DataW.weightsEach,List.mem_append];first|exact f|exact .inl f);simpa using this
 obtain⟨M,o,g⟩:=open_cms (d 0 65 v0 rfl rfl) A u;clear i c;refine Calls.mono (ca_lawWhole (K:=λv w=>v=.bool true/\M0 W w) o g λw f=>⟨rfl,f⟩).out ?_;rintro e O ⟨v,rfl,rfl,f⟩;exact⟨_,rfl,post_of_mod laidOut cU rfl s f cU Tryz.underlying4 rfl⟩
abbrev zRw:=Rows.venueWholeRow
abbrev II:=Rows.venueWholeSpec
noncomputable abbrev zVt:=Tryz.f4.params.toList++II.plain.varTypes pQ
def k0:zRw.wf (OpenSpec.ofChange II):=cU
def k1:laidOutB pQ:=cU
def k2:mapsRowed pQ:=cU
def k3:Tryz.f4.params.all (pQ.readableRec ·):=cU
def k4:namedTie pQ zRw.named II.vars:=cU
def k5:zRw.stops== []:=cU
def k6:pQ.stops== []:=cU
def k7:zRw.knobs== []:=cU
def k8:pQ.stopKnobs== []:=cU
def k9:zRw.inPlace==pQ.inPlace 4:=cU
def k10:zRw.unfollowed==pQ.unfollowed 4:=cU
def k11:zRw.recurses==pQ.recurses 4:=cU
def k12:zRw.named==pQ.varsNamed 4:=cU
def k13:zRw.maps==zVt.any (pQ.mapsRec ·):=cU
def k14:zRw.ifaces==zVt.any (pQ.ifacesRec ·):=cU
def k15:zRw.mapsOut==pQ.mapsAmong Tryz.f4.resultTypes.toList:=cU
def k16:zRw.loops==zVt.any (pQ.loopsFrom ·):=cU
def k17:zRw.wideKeys==(zVt++Tryz.f4.resultTypes.toList).any (pQ.wideKeysFrom ·):=cU
def k18:II.vars.all (pQ.varReadable ·):=cU
def k19:Tryz.f4.resultTypes.all (λt=>pQ.readableRec t&& decide (t<pQ.types.size)):=cU
def k20:zRw.ifacesOut==Tryz.f4.resultTypes.toList.any (pQ.ifacesRec ·):=cU
def k21:zRw.loopsOut==Tryz.f4.resultTypes.toList.any (pQ.loopsFrom ·):=cU
def k22:zRw.plainKeys==pQ.plainKeys:=cU
def k23:zRw.shortTexts.isNone:=cU
def k24:pQ.stopsHeard:=cU
def k25:pQ.mayEnter:=cU
def k26:zRw.lifted==pQ.liftsFinal:=cU
def k27:pQ.make==some zRw.make:=cU
def k28:zRw.kinds==(if zRw.domain.isEmpty then []else Tryz.f4.params.toList.map λt=>match pQ.underlying t with|some (.int k)=>some k|_=>none):=cU
def k29:zRw.pinned==zRw.pinnedBy:=cU
def k30:zRw.veiled==(zVt++Tryz.f4.resultTypes.toList).any (pQ.veiledRec ·):=cU
def k31:zRw.veiledFits pQ Tryz.f4.params.toList (zVt++Tryz.f4.resultTypes.toList):=cU
set_option maxRecDepth 100000 in
def closed:joinedFacts Tryz.prog 4 Tryz.f4 Rows.venueWholeSpec Rows.venueWholeRow=true:=by
 unfold joinedFacts;simp only[Bool.and_eq_true];exact⟨⟨⟨⟨⟨⟨⟨⟨⟨⟨⟨⟨⟨⟨⟨⟨⟨⟨⟨⟨⟨⟨⟨⟨⟨⟨⟨⟨⟨⟨⟨k0,k1⟩,k2⟩,k3⟩,k4⟩,k5⟩,k6⟩,k7⟩,k8⟩,k9⟩,k10⟩,k11⟩,k12⟩,k13⟩,k14⟩,k15⟩,k16⟩,k17⟩,k18⟩,k19⟩,k20⟩,k21⟩,k22⟩,k23⟩,k24⟩,k25⟩,k26⟩,k27⟩,k28⟩,k29⟩,k30⟩,k31⟩
theorem holds:Rows.VenueWholeSaid:=
 OpenClaim.holds_of_wide 4 Tryz.f4 rfl rfl rfl rfl rfl rfl rfl ⟨rfl,rfl,rfl,rfl,rfl⟩ rfl rfl rfl rfl rfl cU Tryz.func4 closed
  (of_decide_eq_true cU) (by unfold Func.isWrapper;first|(rw[if_pos (by decide+kernel)];kernel_rfl)|(rw[if_neg (by decide+kernel)];exact⟨rfl,rfl⟩))
  (λos a H b _=>lifted os a H b)
end Go.Proofs.YtnfloameajanhaaGreat.venueWhole
