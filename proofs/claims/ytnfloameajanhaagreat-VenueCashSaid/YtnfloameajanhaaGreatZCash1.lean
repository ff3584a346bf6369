/- The statement VenueCash: for every input the law returns true; arguments stay. Conditions: none. -/
import Derived.Test.YtnfloameajanhaaGreatZ8
set_option linter.all false
namespace Go.Vc
open Go Go.ChangeShapes Go.WideShapes Go.ChangeAt Go.RowKit
section
variable{H:Type}{enc:TypeId×Value->H}{P:Program}{w:World}{base:Nat}{spare:Nat->Bool}{held:Bool}
def ff{e:TypeId}:∀{l:List (DataW H)} {d:DataW H},d∈l->∀m∈d.weights P e,m∈DataW.weightsAll P e l
 |a::l,d,b,m,c=>by
  simp only[DataW.weightsAll,dg];rcases cH.1 b with rfl|b
  ·exact .inl c
  ·exact .inr (ff b m c)
def Wt.slice{t e:TypeId}{B:Nat}{l r:List (DataW H)}(c:P.underlying t=some (.slice e))(h:Wt P B t (.slice l r)):(l.length+r.length)*P.bytesOf e<=B/\∀d∈l,Wt P B e d:=by
 unfold Wt at h;simp only[DataW.weights,c,cH,dg]at h;exact⟨h _ (.inl rfl),λd a m b=>h m (.inr (.inl (ff a m b)))⟩
def nJ{t e:TypeId}{sz:Nat}{o:Nat}{cs:List Value}{x:DataW H×List MemPlace}(I:P.underlying t=some (.slice e))(hc:P.cellsOf e=sz)(E:0<sz)
  {B:Nat}(O:DataW.trod enc P w base spare held o t cs=some x)(hB:Wt P B t x.1):
  ∃v,cs=[v]/\∃L:List (List Value),Rd w sz v L.length L.flatten/\L.length*P.bytesOf e<=B/\∀c∈L,c.length=sz/\∃X y,DataW.trod enc P w base spare held X e c=some y/\Wt P B e y.1:=by
 rcases DataW.trod_slice I O with⟨rfl,-⟩|⟨a,len,Q,A,rest,n,hf,rfl,rfl,hb,V,hm,N,C,Z,T⟩
 ·exact⟨_,rfl,[],⟨by simp,.inl ⟨rfl,_,_,rfl⟩⟩,by simp,by simp⟩
 ·obtain⟨z,F⟩:=hB.slice I
  have m:∀i,i<len->∃c,w.cells? base (a.add (i*sz)) sz=some c/\∃y,DataW.trod enc P w base spare held n e c=some y/\Wt P B e y.1:=by
   intro i b;have j:=C i b;rw[cE (by omega),hc,Option.bind_eq_some_iff]at j;obtain⟨c,g,r⟩:=j;exact⟨c,g,_,r,F _ (cF.2 ⟨_,cC _,rfl⟩)⟩
  have R:∀k,k<=len->∃L:List (List Value),L.length=k/\∀i (b:i<L.length),w.cells? base (a.add (i*sz)) sz=some L[i]/\∃y,DataW.trod enc P w base spare held n e L[i]=some y/\Wt P B e y.1:=by
   intro k;induction k with
   |zero=>exact λ_=>⟨[],rfl,λi b=>by simp at b⟩
   |succ k p=>
    intro hk;obtain⟨L,j,g⟩:=p (by omega);obtain⟨c,r,J⟩:=m k (by omega);refine⟨L++[c],by simp[j],λi b=>?_⟩;by_cases S:i<L.length
    ·grind
    ·grind
  obtain⟨L,j,g⟩:=R len (cJ _)
  have d:∀c∈L,c.length=sz:=by
   intro c f;obtain⟨i,b,rfl⟩:=cX f;exact(World.cells?_some (g i b).1).2.1
  have W:∀(M:List (List Value)),(∀c∈M,c.length=sz)->M.flatten.length=M.length*sz:=by
   intro M;induction M with
   |nil=>intro _;simp
   |cons c M p=>
    intro l;rw[List.flatten_cons,cD,p λc h=>l c (cu _ h),l c cw,dc,je,jf]
  have q:∀(M:List (List Value)),(∀c∈M,c.length=sz)->∀i v,M.flatten[i]? =some v->∃h:i / sz<M.length,M[i / sz][i%sz]? =some v:=by
   intro M;induction M with
   |nil=>intro _ i v h;simp at h
   |cons c M p=>
    intro l i v h;have G:=l c cw;rw[List.flatten_cons]at h;by_cases b:i<sz
    ·rw[dC (by omega)]at h;rw[Nat.div_eq_of_lt b,iM b];exact⟨by simp,by simpa using h⟩
    ·rw[cQ (by omega),G]at h;obtain⟨j,g⟩:=p (λc h=>l c (cu _ h)) (i - sz) v h
     have s:i / sz=(i - sz) / sz+1:=by
      rw[Nat.div_eq_sub_div E (by omega)]
     have D:i%sz=(i - sz)%sz:=by
      rw[Nat.mod_eq_sub_mod (by omega)]
     refine⟨by grind,?_⟩;simp only[s,D,fA];exact g
  refine⟨_,rfl,L,?_,dD (dM _ (by simp;omega)) z,λc f=>⟨d c f,?_⟩⟩
  ·rw[j];refine mJ V (by grind) (λi v b=>?_) E;obtain⟨r,J⟩:=q L d i v b;obtain⟨h5,Y⟩:=World.cells?_some (g _ r).1 |>.2
   have u:=gR i E;have K:=Y (i%sz) u
   have e:((a.add (i / sz*sz)).add (i%sz))=a.add i:=by
    have U:i / sz*sz+i%sz=i:=by rw[fe];exact ie i sz
    conv=>rhs;rw[<-U]
    simp only[Addr.add];by_cases s:i / sz*sz=0
    ·simp[s]
    ·by_cases D:i%sz=0
     ·simp[D,s]
     ·grind
   rw[e]at K;rw[K];exact J
  ·obtain⟨i,b,rfl⟩:=cX f;exact⟨n,(g i b).2⟩
end
end Go.Vc
namespace Go.Proofs
open Go Go.Vc
def jj(S:Ven)(n:Int)(o:Od)(p:Pm):(S.traded n o p).2.1.err=0:=by
 unfold Ven.traded;simp only;split<;>rfl
def mM(S:Ven)(c:Cm):(S.place c).2.1.err=0:=by
 unfold Ven.place;simp only;split
 ·rfl
 ·split
  ·rfl
  ·exact jj _ _ _ _
def qx(S:Ven)(c:Cm):(S.bid c).2.1.err=0:=by
 unfold Ven.bid;simp only;split
 ·rfl
 ·split<;>rfl
def lK(S:Ven)(c:Cm):(S.cancel c).2.1.err=0:=by
 unfold Ven.cancel;split
 ·rfl
 ·split<;>rfl
def kR(S:Ven)(c:Cm):(S.replace c).2.1.err=0:=by
 unfold Ven.replace;split
 ·rfl
 ·simp only;split
  ·rfl
  ·split
   ·rfl
   ·exact jj _ _ _ _
def fM:∀(l:List Sd) (r:Rp) (S:Ven),r.err=0->(payL l r S).2.1.err=0
 | [],r,S,h=>h
 |s::l,r,S,h=>by
  unfold payL;simp only;cases s.dfl with
  |true=>
   simp only[fh];split
   ·exact h
   ·exact fM l _ _ h
  |false=>
   simp only[dE,eW];split
   ·exact h
   ·exact fM l _ _ h
def gX(S:Ven)(won:Int->Int):(S.pay won).2.1.err=0:=by
 unfold Ven.pay;simp only;split
 ·rfl
 ·split
  ·exact fM _ _ _ rfl
  ·exact fM _ _ _ rfl
def jM(S:Ven):S.settle.2.1.err=0:=by
 unfold Ven.settle;simp only;split
 ·rfl
 ·split
  ·rfl
  ·split
   ·exact gX _ _
   ·exact gX _ _
def expire_err(S:Ven)(n:Int):(S.expire n).2.1.err=0:=by
 unfold Ven.expire;simp only;split
 ·rfl
 ·split
  ·rfl
  ·split
   ·exact gX _ _
   ·exact gX _ _
def eh{n a:Int}{long:Bool}{price:Int}:∀(l:List Fl) (left:Int) (r:Rp) (S:Ven),r.err=0->(fillsL n a long price l left r S).2.2.1.err=0
 | [],left,r,S,h=>h
 |f::l,left,r,S,h=>by
  unfold fillsL;simp only;split
  ·exact h
  ·exact eh l _ _ _ h
def gO{n a:Int}{long:Bool}{price:Int}:∀(l:List Hd) (r:Rp) (S:Ven),r.err=0->(partsL n a long price l r S).2.1.err=0
 | [],r,S,h=>h
 |x::l,r,S,h=>by
  unfold partsL;simp only;split
  ·exact h
  ·exact gO l _ _ h
def kX(S:Ven)(k:Ct)(a q:Int){r:Rp}(h:r.err=0):(S.sell k a q r).2.1.err=0:=by
 unfold Ven.sell;simp only;split
 ·exact h
 ·split
  ·exact eh _ _ _ _ h
  ·split
   ·exact eh _ _ _ _ h
   ·split
    ·split
     ·exact eh _ _ _ _ h
     ·exact gO _ _ _ (eh _ _ _ _ h)
    ·split
     ·exact eh _ _ _ _ h
     ·exact gO _ _ _ (eh _ _ _ _ h)
def iu{a:Int}:∀(l:List Ct) (r:Rp) (S:Ven),r.err=0->(sellL a l r S).2.1.err=0
 | [],r,S,h=>h
 |k::l,r,S,h=>by
  unfold sellL;simp only;split
  ·exact iu l r S h
  ·split
   ·exact kX _ _ _ _ h
   ·exact iu l _ _ (kX _ _ _ _ h)
def qr(S:Ven)(a:Ac):(S.liquidate a).2.1.err=0:=by
 unfold Ven.liquidate;split
 ·rfl
 ·exact iu _ _ _ rfl
def oE(S:Ven)(c:Cm):(S.done c).2.1.err=0:=by
 unfold Ven.done;by_cases k1:c.kind=1
 ·rw[bZ k1];rfl
 rw[aZ k1];by_cases k2:c.kind=2
 ·rw[bZ k2];rfl
 rw[aZ k2];by_cases k3:c.kind=3
 ·rw[bZ k3];rfl
 rw[aZ k3];by_cases k4:c.kind=4
 ·rw[bZ k4];rfl
 rw[aZ k4];by_cases k11:c.kind=11
 ·rw[bZ k11];rfl
 rw[aZ k11];by_cases k12:c.kind=12
 ·rw[bZ k12];exact jM S
 rw[aZ k12];by_cases k14:c.kind=14
 ·rw[bZ k14];exact expire_err S _
 rw[aZ k14];by_cases a:c.acct=0
 ·rw[bZ a];rfl
 rw[aZ a];by_cases k6:c.kind=6
 ·rw[bZ k6];exact lK S c
 rw[aZ k6];by_cases k7:c.kind=7
 ·rw[bZ k7];exact kR S c
 rw[aZ k7];by_cases b:S.led.getO c.acct=none
 ·rw[bZ b];rfl
 rw[aZ b];by_cases k5:c.kind=5
 ·rw[bZ k5];exact mM S c
 rw[aZ k5];by_cases k9:c.kind=9
 ·rw[bZ k9];exact qx S c
 rw[aZ k9];by_cases k8:c.kind=8
 ·rw[bZ k8];split<;>rfl
 rw[aZ k8];by_cases k10:c.kind=10
 ·rw[bZ k10];simp only;split<;>rfl
 rw[aZ k10];by_cases k13:c.kind=13
 ·rw[bZ k13];exact qr S _
 rw[aZ k13];rfl
def apply_cases(S:Ven)(c:Cm):((S.apply c).1.err≠0/\S.apply c=(failR (S.apply c).1.err,S))\/((S.apply c).1.err=0/\c.may=true/\(S.done c).1=0/\S.apply c=(S.done c).2):=by
 unfold Ven.apply;by_cases b:c.may=false
 ·rw[bZ b];exact .inl ⟨by show(160:Int)≠0;omega,rfl⟩
 rw[aZ b];simp only;by_cases a:(S.done c).1≠0
 ·rw[bZ a];exact .inl ⟨a,rfl⟩
 ·rw[aZ a];exact .inr ⟨oE S c,by simpa using b,by simpa using a,rfl⟩
def Led.cash(L:Led):Int×List (Int×Int):=(L.fund,L.all.map λa=>(a.num,a.cash))
def uQ{L a:Led}(h:a.all=L.all/\a.fund=L.fund):a.cash=L.cash:=by unfold Led.cash;rw[h.1,h.2]
def Da{L:Led}(h:L.Ok){a x:Ac}(d:L.find a.num=some x)(i:a.cash=x.cash):(L.set a).2.cash=L.cash:=by
 rcases Led.set_cases L a with⟨c,-⟩|⟨c,-⟩
 ·rw[c]
 ·rw[c];obtain⟨e,j,g⟩:=Led.find_ok h d;unfold Led.cash;show((L.putA a).fund,_)=_;unfold Led.putA;rw[aZ g];simp only;rw[uO h.sa ⟨x,e,j⟩,dQ];congr 1;refine dt λy f=>?_;show((if y.num=a.num then a else y).num,(if y.num=a.num then a else y).cash)=(y.num,y.cash)
  by_cases b:y.num=a.num
  ·have:y=x:=by
    have:=Led.mem_find h f;rw[b,d]at this;exact(dB this).symm
   rw[bZ b,i,<-b,this]
  ·rw[aZ b]
def AI{S:Ven}(h:S.Ok){c:Cm}(A:c.Fit)(u:c.kind≠1)(s:c.kind≠2)(m:c.kind≠12)(i:c.kind≠14):(S.done c).2.2.led.cash=S.led.cash:=by
 have q:∀(T:Ven) (n:Int) (o:Od) (p:Pm),T.led=S.led->(∀L:Led,L=S.led->(tradeL n o p.trades L).2.cash=L.cash)->(T.traded n o p).2.2.led.cash=S.led.cash:=λT n o p d v=>by
  rw[qg];show(tradeL n o p.trades T.led).2.cash=_;rw[v T.led d,d]
 have k:∀(n:Int) (o:Od) (l:List Td) (L:Led),(tradeL n o l L).2.cash=L.cash:=by
  intro n o l;induction l with
  |nil=>intro L;rfl
  |cons t l w=>
   intro L;unfold tradeL;simp only;generalize(if o.buy=true then o.acct else t.acct)=z;generalize(if o.buy=true then t.acct else o.acct)=y;split
   ·exact uQ Led.trade_all
   ·rw[w];exact uQ Led.trade_all
 have b:∀(T:Ven) (n:Int) (o:Od) (p:Pm),T.led=S.led->(T.traded n o p).2.2.led.cash=S.led.cash:=λT n o p d=>q T n o p d λL _=>k _ _ _ _;unfold Ven.done;rw[aZ u,aZ s];by_cases k3:c.kind=3
 ·grind
 rw[aZ k3];by_cases k4:c.kind=4
 ·rw[bZ k4]
 rw[aZ k4];by_cases k11:c.kind=11
 ·rw[bZ k11]
 rw[aZ k11,aZ m,aZ i];by_cases r:c.acct=0
 ·rw[bZ r]
 rw[aZ r];by_cases k6:c.kind=6
 ·rw[bZ k6];unfold Ven.cancel;split
  ·rfl
  ·split<;>rfl
 rw[aZ k6];by_cases k7:c.kind=7
 ·rw[bZ k7];unfold Ven.replace;split
  ·rfl
  ·simp only;split
   ·rfl
   ·split
    ·rfl
    ·exact b _ _ _ _ rfl
 rw[aZ k7];by_cases j:S.led.getO c.acct=none
 ·rw[bZ j]
 rw[aZ j];have a:(S.order c).2.2.led=S.led:=by unfold Ven.order;simp only;split;rfl;split<;>rfl
 by_cases k5:c.kind=5
 ·rw[bZ k5];unfold Ven.place;simp only;split
  ·rw[a]
  ·split
   ·grind
   ·exact b _ _ _ _ a
 rw[aZ k5];by_cases k9:c.kind=9
 ·rw[bZ k9];unfold Ven.bid;simp only;split
  ·rw[a]
  ·split
   ·rw[a]
   ·grind
 rw[aZ k9];by_cases k8:c.kind=8
 ·rw[bZ k8];split
  ·rfl
  ·show(S.clear c.acct c.ct).2.led.cash=_;rw[clear_led]
 rw[aZ k8];by_cases k10:c.kind=10
 ·rw[bZ k10];simp only;obtain⟨f,g⟩:=Ae h.led.led j
  have e:∀T:Ven,T.led=S.led->(T.led.set {S.acc c.acct with kil:=c.on}).2.cash=S.led.cash:=λT d=>by
   rw[d];refine Da h.led.led (x:=S.acc c.acct) ?_ rfl;show S.led.find (S.acc c.acct).num=_;rw[f,<-jV r,g]
  apply e _;split
  ·exact clear_led _ _
  ·rfl
 rw[aZ k10];by_cases k13:c.kind=13
 ·rw[bZ k13];exact uQ (Fk h _).2
 rw[aZ k13]
def yK{S:Ven}(h:S.Ok){c:Cm}(g:c.Fit)(f:c.kind≠1)(d:c.kind≠2)(a:c.kind≠12)(b:c.kind≠14):(S.apply c).2.led.cash=S.led.cash:=by
 rcases apply_cases S c with⟨-,e⟩|⟨-,-,-,e⟩
 ·rw[e]
 ·rw[e];exact AI h g f d a b
end Go.Proofs
set_option maxRecDepth 100000
namespace Go.Proofs
open Go Go.Vc
section
variable{a b c:Vt_}{W:Wt_}{Z:cG}
def ai6(a b c:Vt_)(d:cG)(e:T2)(f:T2->Wp)(g:T2)(h:Wt_)(i:T2->Wp):=gc g.2.1 a h λj k=>cV j (gY 61 b 3 56 k.drew λl=>mf 56 l g.2.1 λm=>gY 70 m 1 2 k.drew λn=>gY 61 c 3 56 k.drew λo=>mf 56 o g.2.1 λp=>gY 70 p 1 2 k.drew λq=>my .neq 2 false n q λr=>cV r (d bF k.drew) (g1 g.2.1 k.drew λs t=>i (g.1,s,()) t)) (g1 e.2.1 k λu v=>f (g.1,u,()) v)
def aq5(a:cG)(b c:Vt_)(d:T2)(e:T2->Wp)(f:T1)(g:Wt_):=NV->cV f.1 (a bF g) (dz 61 b 3 56 g λh i=>gn 56 false h i λj k=>qB (ai6 j b c a d e) (d.1,(gI 0),()) k)
def ag7(a:T2)(b:T2->Wp)(c d:Vt_)(e:cG)(f:T1)(g:Wt_):=NV->cV f.1 (g1 a.2.1 g λh i=>b (a.1,h,()) i) (Ca pQ 20 #[c] g λj k=>gv 61 j k λl m=>jW (λn=>dz 61 l 2 2 m λo p=>dz 61 d 2 2 p λq r=>gb .neq 2 false o q r λs t=>cV s (n (bT,()) t) (dz 61 l 3 56 t λu v=>gn 56 false u v λw x=>dz 61 d 3 56 x λy z=>gn 56 false y z λA B=>gb .neq 3 false w A B λC D=>n (C,()) D)) (aq5 e l d a b))
def aj1(a b c:Vt_)(d:cG)(e:T2)(f:Wt_)(g:T2->Wp):=gc e.2.1 a f λh i=>cV h (Ca pQ 20 #[b] i λj k=>gv 61 j k λl m=>gi 65 c e.2.1 m λn o=>gx (fH 30 n) o λp q=>Ca pQ 18 #[b,p] q λr s=>gi 65 c e.2.1 s λt u=>dz 30 t 0 22 u λv w=>jW (λx=>gC v 1 w λy z=>cV y (x (y,()) z) (gC v 2 z λA B=>cV A (x (A,()) B) (gC v 12 B λC D=>cV C (x (C,()) D) (gC v 14 D λE F=>x (E,()) F)))) (ag7 e g b l d)) (Ca pQ 13 #[] i d)
def ZX(a:Vt_)(b:cG)(c:Vt_)(d:T1)(e:Wt_):=NV->cV d.1 (gb .neq 39 true a (.pointer none) e λf g=>cV f (Ca pQ 13 #[] g b) (b bF g)) (gn 65 false c e λh i=>qB (aj1 h a c b) (bF,(gI 0),()) i)
def ca9(k:Ca pQ 22 #[] W λb c=>jW (λd=>gb .eql 39 true b (.pointer none) c λe f=>cV e (d (bT,()) f) (gn 65 false a f λg h=>gb .gtr 3 true g (gI 120) h λi j=>d (i,()) j)) (ZX b Z a)):Ca pQ 9 #[a] W Z:=cj Tryz.func9 k
end
end Go.Proofs
namespace Go.Proofs
open Go Go.Vc
attribute [local congr] cR
section
variable{w:Wt_}{b lo:Nat}{d nx fu:Int}{ss:Nat->Value}{A:List Ac}{C:List Ct}{P:List Po}{O B:List (Int×Od)}
def SB.keepF{F:NP_}{w' :Wt_}{n:Nat}(h:SB w b d nx fu ss A C P O B lo)(c:de F w w')(k:∀y,F y->y<n)(f:n<=lo)(l:n<=b):SB w' b d nx fu ss A C P O B lo:=
 SB.modX h c λy a g=>by
  have:=k y g;rcases a with rfl|⟨i,j,e,a⟩
  ·omega
  ·have:=(h.nw i y j e a).1;omega
def SB.md0{w' :Wt_}(h:SB w b d nx fu ss A C P O B lo)(a:M0 w w'):SB w' b d nx fu ss A C P O B lo:=SB.modX h a eQ
def SB.fund(h:SB w b d nx fu ss A C P O B lo):(iL 2 (pt b 2)).run pQ w=.ok (gI fu) w:=by
 have:=h.at_;simp only[rN]at this;simp[go_sem,this]
def SB.len(h:SB w b d nx fu ss A C P O B lo)(i:Nat)(hi:3<=i)(e:i<=7):∃a c,ss i=.slice a (LN A C P O B i) c:=by
 obtain⟨a,c,f,_⟩:=(h.own i hi e).isSl;exact⟨a,c,f⟩
end
def XH{w:Wt_}{b off:Nat}{c:Cm}(h:At w b off (cmC c)):(iL 22 (pt b off)).run pQ w=.ok (gB c.kind) w:=by
 have:=h.cell 0 (gB c.kind) rfl;obtain⟨C,e,fz,g,f⟩:=h.get;have a:=f 0 _ rfl;rw[dS]at a;simp[go_sem,g,a]
def ca_lawCash{w:Wt_}{K:cG}{s:Vt_}{L:List Cm}(h:Rd w 35 s L.length (L.flatMap cmC))(hf:∀c∈L,c.Fit)(hK:∀w',M0 w w' ->K (.bool true) w'):Ca pQ 9 #[s] w K:=by
 apply ca9;refine tB λv F0 w1 q1 m1 n1=>?_;obtain⟨sa,sc,hs⟩:=h.isSl;refine dK.at (λst W=>st=(.bool (decide (120<L.length)),())/\W=w1) ?_ ?_
 ·apply cx (.bool false) w1 (by simp[eY,go_sem]);rw[gP];rw[hs];apply mB (lenV BU _ _ _ _);apply cx (.bool (decide (120<L.length))) w1 (by simp[go_sem];omega);exact sI
 rintro _ W ⟨rfl,rfl⟩;unfold ZX;intro _;by_cases hb:120<L.length
 ·rw[qo hb];apply cx (.bool true) W (by simp[eY,go_sem]);rw[kx];exact kf λw2 t=>hK _ (m1.trans t)
 rw[cy,aZ (by grind)];have u:(builtin .len #[65] 3 #[false] #[s]).run pQ W=.ok (.value (gI (L.length:Int))) W:=by rw[hs];exact lenV BU _ _ _ _
 apply mB u
 refine eS (λst Y=>∃(x:Vt_) (i:Nat) (F:NP_) (S:Ven),st=(x,gI i,())/\i<=L.length/\lw Y v F S/\S.Ok/\M0 w Y/\∀y,F y->w.heap.size<=y)
  (λst _=>match st.2.1 with| .int _ i=>L.length - i.toNat|_=>0) ⟨_,0,F0,Ven.empty,rfl,qZ,q1,qX,m1,n1⟩ ?_
 rintro⟨_,_⟩ Y ⟨x,i,F,S,⟨⟩,hi,q2,n,t,n2⟩ KN hKN;unfold aj1;intro _;apply cI (ltV _ _ _);by_cases j:i<L.length
 ·rw[qo j];have hQ:=q2;obtain⟨c,l,mb,md,A,D,fp,hr,hF⟩:=q2;refine mK hr n λss b lo w3 s3 hlo U hb=>?_;refine pZ s3 λp w4 s4 m4 hp4=>?_;have T:=U.trans m4;obtain⟨cb,co,he,hat⟩:=zH (h.mod (t.trans T) eQ) j;refine cI (he w4) (iW (vx hat) ?_);have e:=hf _ (cC j);refine kW (hQ.md0 T) n e λsT sG sA F5 w5 q5 r5 m5 n5 _=>?_;have hFl:∀y,F y->y<Y.heap.size:=λy H=>hQ.lt H;have hz3:=U.size;have s5:=SB.keepF s4 m5 hFl hlo qZ;have o:=mV n e;have f:=λZ h2 h3 h4=>yK n e Z h2 h3 h4;generalize hX:S.apply L[i]=X at q5 r5 o f;have M5:=(t.trans T).on m5 λy H=>.inr (n2 y H)
  have N5:∀y,F5 y->w.heap.size<=y:=λy H=>by
   rcases n5 y H with h|h
   ·exact n2 y h
   ·have:=(t.trans T).size;omega
  obtain⟨cb5,co5,he5,J⟩:=zH (h.mod M5 eQ) j;apply cI (he5 w5);apply qSv1 (pt cb5 co5) cS;apply cx (gB L[i].kind) w5 (XH J)
  have next:∀x W,M0 w5 W->KN (x,gI ((i+1:Nat):Int),()) W:=λx W m=>
   hKN _ W ⟨x,i+1,F5,X.2,rfl,qZ,q5.md0 m,o,M5.trans m,N5⟩ (by grind)
  refine dK.at (λst W=>st=(.bool (decide (L[i].kind=1\/L[i].kind=2\/L[i].kind=12\/L[i].kind=14)),())/\W=w5) ?_ ?_
  ·by_cases k1:L[i].kind=1
   ·simp[go_sem,k1]
   by_cases k2:L[i].kind=2
   ·simp[go_sem,k2]
   by_cases k3:L[i].kind=12
   ·simp[go_sem,k3]
   by_cases k4:L[i].kind=14
   ·simp[go_sem,k4]
   simp[go_sem,k1,k2,k3,k4]
  rintro _ W5 ⟨rfl,rfl⟩;unfold ag7;intro _;by_cases E:L[i].kind=1\/L[i].kind=2\/L[i].kind=12\/L[i].kind=14
  ·rw[qo E];apply cI (addV qZ _);exact next _ W5 lX
  rw[cy,aZ (by grind)];have I:=f (λh=>E (.inl h)) (λh=>E (.inr (.inl h))) (λh=>E (.inr (.inr (.inl h)))) (λh=>E (.inr (.inr (.inr h))));have r:X.2.led.fund=S.led.fund:=fC (·.1) I;have q:(X.2.led.all.map λa=>(a.num,a.cash))=S.led.all.map λa=>(a.num,a.cash):=fC (·.2) I;have hll:X.2.led.all.length=S.led.all.length:=by have:=fC List.length q;simpa using this
  have hle:∀(k:Nat) (Z:k<X.2.led.all.length) (h2:k<S.led.all.length),X.2.led.all[k].cash=S.led.all[k].cash:=λk Z h2=>by
   have:=List.getElem_of_eq q (i:=k) (by simpa using Z);simp only[eL,ou]at this;exact this.2
  obtain⟨c,l,mb,md,A,D,fp,hr5,hF5⟩:=q5;refine mK hr5 o λss6 b6 lo6 w6 s6 hlo6 m6 hb6=>?_;refine pZ s6 λp7 w7 G m7 hp7=>?_;have M7:=m6.trans m7;have N:=SB.md0 s5 M7;obtain⟨a1,c1,R⟩:=G.len 3 qZ qZ;obtain⟨a2,c2,e2⟩:=N.len 3 qZ qZ;have R:ss6 3=.slice a1 X.2.led.all.length c1:=R;have e2:ss 3=.slice a2 S.led.all.length c2:=e2;refine dK.at (λst W=>st=(.bool false,())/\W=w7) ?_ ?_
  ·refine cI (dZ _ 2 qZ) (cI G.fund (cI (dZ _ 2 qZ) (cI N.fund ?_)));apply qSv1 (.bool false) r;rw[gP];refine cI (dZ _ 3 qZ) (cI (G.ld 3 qZ qZ) ?_);rw[R];apply mB (lenV ya _ _ _ _);refine cI (dZ _ 3 qZ) (cI (N.ld 3 qZ qZ) ?_);rw[e2];apply mB (lenV ya _ _ _ _);apply qSv1 (.bool false) hll;exact sI
  rintro _ W7 ⟨rfl,rfl⟩;unfold aq5;intro _;rw[gP];refine cI (dZ _ 3 qZ) (cI (G.ld 3 qZ qZ) ?_);rw[R];apply mB (lenV ya _ _ _ _);have Q:X.2.led.all.length<=64:=o.led.led.len
  refine eS (λst W=>∃(x:Vt_) (k:Nat),st=(x,gI k,())/\k<=X.2.led.all.length/\M0 W7 W)
   (λst _=>match st.2.1 with| .int _ k=>X.2.led.all.length - k.toNat|_=>0) ⟨_,0,rfl,qZ,lX⟩ ?_
  rintro⟨_,_⟩ V ⟨x,k,⟨⟩,hk8,m8⟩ KM hKM;unfold ai6;intro _;apply cI (ltV _ _ _);by_cases g:k<X.2.led.all.length
  ·rw[qo g];have md:M0 V V.drew:=mP;have u8:=SB.md0 G (m8.trans md);have v8:=SB.md0 N (m8.trans md);obtain⟨b1,o1,i1,M,-⟩:=uj u8 (i:=k) g;obtain⟨b2,o2,i2,z,-⟩:=uj v8 (i:=k) qZ
   try dsimp only
   generalize V.drew=W9 at md u8 v8 M z|-;refine dw (λ_=>dZ _ 3 qZ) (dp (u8.ld 3 qZ qZ) (dw i1 ?_));refine qPv0 (pt b1 (o1+1)) (dp (qV M) ?_);refine dw (λ_=>dZ _ 3 qZ) (dp (v8.ld 3 qZ qZ) (dw i2 ?_));refine qPv0 (pt b2 (o2+1)) (dp (qV z) ?_);apply qPv1 (.bool false) (hle k g qZ);rw[gP];apply cI (addV qZ _);exact hKM _ _ ⟨_,k+1,rfl,qZ,m8.trans md⟩ (by grind)
  ·rw[cy,aZ (by grind)];apply cI (addV qZ _);exact next _ V (M7.trans m8)
 ·rw[cy,aZ (by grind)];exact kf λw3 U=>hK _ (t.trans U)
end Go.Proofs
namespace Go.Proofs.YtnfloameajanhaaGreat
open Go Go.Vc Go.Proofs Go.ChangeShapes Go.WideShapes Go.ChangeAt Go.RowKit
set_option maxRecDepth 100000 in
def open_cms{H:Type}{enc:TypeId×Value->H}{w:World}{v0:Value}{j:DataW H}{q:List MemPlace}{d:Nat}(a:Value.okWide Tryz.prog w .any d 65 v0)(g:∃b,DataW.trod enc Tryz.prog w 0 (λ_=>true) true b 65 v0.cells.toList=some (j,q))
  (r:Wt Tryz.prog reachBytes 65 j):∃l:List Cm,Rd w 35 v0 l.length (l.flatMap cmC)/\∀x∈l,x.Fit:=by
 have h:v0.cells.toList=[v0]:=by
  unfold Value.okWide at a;rw[Tryz.underlying65]at a;simp only[Cell.okWide,Tryz.underlying65]at a;unfold Cell.ok at a;rw[Tryz.underlying65]at a;cases v0<;>first|rfl|exact a.elim
 obtain⟨b,g⟩:=g;rw[h]at g;obtain⟨v,e,L,k,-,o⟩:=nJ (sz:=35) Tryz.underlying65 cU qZ g r;cases e
 obtain⟨l,rfl,i⟩:=list_choose (f:=cmC) (Q:=Cm.Fit) λc s=>by
  obtain⟨n,t,y,m,p⟩:=o c s;exact open_cm n m p
 rw[List.length_map,<-List.flatMap_def]at k;exact⟨l,k,i⟩
end Go.Proofs.YtnfloameajanhaaGreat
namespace Go.Proofs.YtnfloameajanhaaGreat.venueCash
open Go Go.Vc Go.Proofs Go.ChangeShapes Go.WideShapes Go.ChangeAt Go.RowKit
set_option maxRecDepth 100000 in
def lifted(os:Os)(b:os.Started)(H:Type)(enc:TypeId×Value->H):
  ReturnsInHanded {} Tryz.checked os 9 .any (Rows.venueCashSpec.pre6 enc Tryz.prog Tryz.f9 Rows.venueCashRow.domain false) (Rows.venueCashSpec.post enc Tryz.prog Tryz.f9 false true false false):=by
 refine returnsInHanded_of_change_sized (C:=Tryz.checked) own b cU Tryz.func9
  (ChangeSpec.witness6 (enc:=enc) (C:=Tryz.checked) false ⟨#[],#[.slice none 0 0],[]⟩ 8 cU cU cU cU) ?_
 intro W h a ds gs n c x z l _;have d:∀(j:Nat) t v,Tryz.f9.params[j]? =some t->a[j]? =some v->Value.okWide Tryz.prog W .any h t v:=c;have k:(DataW.weightsEach Tryz.prog (Tryz.f9.params.toList++[]) (ds++gs)).all (·<=reachBytes)=true:=l;have s:=x;obtain⟨p,q,i,J,rfl,I,F⟩:=x;have y:DataW.TrodAll enc Tryz.prog W 0 (λ_=>true) true Tryz.f9.params.toList a.toList ds p:=i;rw[Tryz.params9]at y d k;obtain⟨v0,G,E,B,N,L,r,rfl,rfl,A,D⟩:=trodAll_cons y;obtain⟨rfl,rfl,rfl⟩:=trodAll_nil D;obtain rfl:a= #[v0]:=by cases a;simp_all
 obtain⟨rfl,rfl⟩:=trodVars_none J
 have u:Wt Tryz.prog reachBytes 65 E:=by
  intro m f;have:=List.all_eq_true.1 k m (by simp only[List.append_nil,List.cons_append,List.nil_append,DataW.weightsEach,List.mem_append];first|exact f|exact .inl f);simpa using this
 obtain⟨M,o,g⟩:=open_cms (d 0 65 v0 rfl rfl) A u;clear i c;refine Calls.mono (ca_lawCash (K:=λv w=>v=.bool true/\M0 W w) o g λw f=>⟨rfl,f⟩).out ?_;rintro e O ⟨v,rfl,rfl,f⟩;exact⟨_,rfl,post_of_mod laidOut cU rfl s f cU Tryz.underlying4 rfl⟩
abbrev zRw:=Rows.venueCashRow
abbrev II:=Rows.venueCashSpec
noncomputable abbrev zVt:=Tryz.f9.params.toList++II.plain.varTypes pQ
def k0:zRw.wf (OpenSpec.ofChange II):=cU
def k1:laidOutB pQ:=cU
def k2:mapsRowed pQ:=cU
def k3:Tryz.f9.params.all (pQ.readableRec ·):=cU
def k4:namedTie pQ zRw.named II.vars:=cU
def k5:zRw.stops== []:=cU
def k6:pQ.stops== []:=cU
def k7:zRw.knobs== []:=cU
def k8:pQ.stopKnobs== []:=cU
def k9:zRw.inPlace==pQ.inPlace 9:=cU
def k10:zRw.unfollowed==pQ.unfollowed 9:=cU
def k11:zRw.recurses==pQ.recurses 9:=cU
def k12:zRw.named==pQ.varsNamed 9:=cU
def k13:zRw.maps==zVt.any (pQ.mapsRec ·):=cU
def k14:zRw.ifaces==zVt.any (pQ.ifacesRec ·):=cU
def k15:zRw.mapsOut==pQ.mapsAmong Tryz.f9.resultTypes.toList:=cU
def k16:zRw.loops==zVt.any (pQ.loopsFrom ·):=cU
def k17:zRw.wideKeys==(zVt++Tryz.f9.resultTypes.toList).any (pQ.wideKeysFrom ·):=cU
def k18:II.vars.all (pQ.varReadable ·):=cU
def k19:Tryz.f9.resultTypes.all (λt=>pQ.readableRec t&& decide (t<pQ.types.size)):=cU
def k20:zRw.ifacesOut==Tryz.f9.resultTypes.toList.any (pQ.ifacesRec ·):=cU
def k21:zRw.loopsOut==Tryz.f9.resultTypes.toList.any (pQ.loopsFrom ·):=cU
def k22:zRw.plainKeys==pQ.plainKeys:=cU
def k23:zRw.shortTexts.isNone:=cU
def k24:pQ.stopsHeard:=cU
def k25:pQ.mayEnter:=cU
def k26:zRw.lifted==pQ.liftsFinal:=cU
def k27:pQ.make==some zRw.make:=cU
def k28:zRw.kinds==(if zRw.domain.isEmpty then []else Tryz.f9.params.toList.map λt=>match pQ.underlying t with|some (.int k)=>some k|_=>none):=cU
def k29:zRw.pinned==zRw.pinnedBy:=cU
def k30:zRw.veiled==(zVt++Tryz.f9.resultTypes.toList).any (pQ.veiledRec ·):=cU
def k31:zRw.veiledFits pQ Tryz.f9.params.toList (zVt++Tryz.f9.resultTypes.toList):=cU
set_option maxRecDepth 100000 in
def closed:joinedFacts Tryz.prog 9 Tryz.f9 Rows.venueCashSpec Rows.venueCashRow=true:=by
 unfold joinedFacts;simp only[Bool.and_eq_true];exact⟨⟨⟨⟨⟨⟨⟨⟨⟨⟨⟨⟨⟨⟨⟨⟨⟨⟨⟨⟨⟨⟨⟨⟨⟨⟨⟨⟨⟨⟨⟨k0,k1⟩,k2⟩,k3⟩,k4⟩,k5⟩,k6⟩,k7⟩,k8⟩,k9⟩,k10⟩,k11⟩,k12⟩,k13⟩,k14⟩,k15⟩,k16⟩,k17⟩,k18⟩,k19⟩,k20⟩,k21⟩,k22⟩,k23⟩,k24⟩,k25⟩,k26⟩,k27⟩,k28⟩,k29⟩,k30⟩,k31⟩
theorem holds:Rows.VenueCashSaid:=
 OpenClaim.holds_of_wide 9 Tryz.f9 rfl rfl rfl rfl rfl rfl rfl ⟨rfl,rfl,rfl,rfl,rfl⟩ rfl rfl rfl rfl rfl cU Tryz.func9 closed
  (of_decide_eq_true cU) (by unfold Func.isWrapper;first|(rw[if_pos (by decide+kernel)];kernel_rfl)|(rw[if_neg (by decide+kernel)];exact⟨rfl,rfl⟩))
  (λos a H b _=>lifted os a H b)
end Go.Proofs.YtnfloameajanhaaGreat.venueCash
