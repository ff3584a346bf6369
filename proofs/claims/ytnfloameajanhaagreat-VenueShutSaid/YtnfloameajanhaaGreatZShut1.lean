/- The statement VenueShut: for every input the law returns true; arguments stay. Conditions: none. -/
import Derived.Test.YtnfloameajanhaaGreatZ8
set_option linter.all false
namespace Go.Vc
open Go Go.ChangeShapes Go.WideShapes Go.ChangeAt Go.RowKit
section
variable{H:Type}{enc:TypeId×Value->H}{P:Program}{w:World}{base:Nat}{spare:Nat->Bool}{held:Bool}
def ff{e:TypeId}:∀{l:List (DataW H)} {d:DataW H},d∈l->∀m∈d.weights P e,m∈DataW.weightsAll P e l
 |a::l,d,b,m,c=>by
  simp only[DataW.weightsAll,dg];rcases cH.1 b with rfl|b
  ·exact .inl c
  ·exact .inr (ff b m c)
def Wt.slice{t e:TypeId}{B:Nat}{l r:List (DataW H)}(c:P.underlying t=some (.slice e))(h:Wt P B t (.slice l r)):(l.length+r.length)*P.bytesOf e<=B/\∀d∈l,Wt P B e d:=by
 unfold Wt at h;simp only[DataW.weights,c,cH,dg]at h;exact⟨h _ (.inl rfl),λd a m b=>h m (.inr (.inl (ff a m b)))⟩
def nJ{t e:TypeId}{sz:Nat}{o:Nat}{cs:List Value}{x:DataW H×List MemPlace}(I:P.underlying t=some (.slice e))(hc:P.cellsOf e=sz)(E:0<sz)
  {B:Nat}(O:DataW.trod enc P w base spare held o t cs=some x)(hB:Wt P B t x.1):
  ∃v,cs=[v]/\∃L:List (List Value),Rd w sz v L.length L.flatten/\L.length*P.bytesOf e<=B/\∀c∈L,c.length=sz/\∃X y,DataW.trod enc P w base spare held X e c=some y/\Wt P B e y.1:=by
 rcases DataW.trod_slice I O with⟨rfl,-⟩|⟨a,len,Q,A,rest,n,hf,rfl,rfl,hb,V,hm,N,C,Z,T⟩
 ·exact⟨_,rfl,[],⟨by simp,.inl ⟨rfl,_,_,rfl⟩⟩,by simp,by simp⟩
 ·obtain⟨z,F⟩:=hB.slice I
  have m:∀i,i<len->∃c,w.cells? base (a.add (i*sz)) sz=some c/\∃y,DataW.trod enc P w base spare held n e c=some y/\Wt P B e y.1:=by
   intro i b;have j:=C i b;rw[cE (by omega),hc,Option.bind_eq_some_iff]at j;obtain⟨c,g,r⟩:=j;exact⟨c,g,_,r,F _ (cF.2 ⟨_,cC _,rfl⟩)⟩
  have R:∀k,k<=len->∃L:List (List Value),L.length=k/\∀i (b:i<L.length),w.cells? base (a.add (i*sz)) sz=some L[i]/\∃y,DataW.trod enc P w base spare held n e L[i]=some y/\Wt P B e y.1:=by
   intro k;induction k with
   |zero=>exact λ_=>⟨[],rfl,λi b=>by simp at b⟩
   |succ k p=>
    intro hk;obtain⟨L,j,g⟩:=p (by omega);obtain⟨c,r,J⟩:=m k (by omega);refine⟨L++[c],by simp[j],λi b=>?_⟩;by_cases S:i<L.length
    ·grind
    ·grind
  obtain⟨L,j,g⟩:=R len (cJ _)
  have d:∀c∈L,c.length=sz:=by
   intro c f;obtain⟨i,b,rfl⟩:=cX f;exact(World.cells?_some (g i b).1).2.1
  have W:∀(M:List (List Value)),(∀c∈M,c.length=sz)->M.flatten.length=M.length*sz:=by
   intro M;induction M with
   |nil=>intro _;simp
   |cons c M p=>
    intro l;rw[List.flatten_cons,cD,p λc h=>l c (cu _ h),l c cw,dc,je,jf]
  have q:∀(M:List (List Value)),(∀c∈M,c.length=sz)->∀i v,M.flatten[i]? =some v->∃h:i / sz<M.length,M[i / sz][i%sz]? =some v:=by
   intro M;induction M with
   |nil=>intro _ i v h;simp at h
   |cons c M p=>
    intro l i v h;have G:=l c cw;rw[List.flatten_cons]at h;by_cases b:i<sz
    ·rw[dC (by omega)]at h;rw[Nat.div_eq_of_lt b,iM b];exact⟨by simp,by simpa using h⟩
    ·rw[cQ (by omega),G]at h;obtain⟨j,g⟩:=p (λc h=>l c (cu _ h)) (i - sz) v h
     have s:i / sz=(i - sz) / sz+1:=by
      rw[Nat.div_eq_sub_div E (by omega)]
     have D:i%sz=(i - sz)%sz:=by
      rw[Nat.mod_eq_sub_mod (by omega)]
     refine⟨by grind,?_⟩;simp only[s,D,fA];exact g
  refine⟨_,rfl,L,?_,dD (dM _ (by simp;omega)) z,λc f=>⟨d c f,?_⟩⟩
  ·rw[j];refine mJ V (by grind) (λi v b=>?_) E;obtain⟨r,J⟩:=q L d i v b;obtain⟨h5,Y⟩:=World.cells?_some (g _ r).1 |>.2
   have u:=gR i E;have K:=Y (i%sz) u
   have e:((a.add (i / sz*sz)).add (i%sz))=a.add i:=by
    have U:i / sz*sz+i%sz=i:=by rw[fe];exact ie i sz
    conv=>rhs;rw[<-U]
    simp only[Addr.add];by_cases s:i / sz*sz=0
    ·simp[s]
    ·by_cases D:i%sz=0
     ·simp[D,s]
     ·grind
   rw[e]at K;rw[K];exact J
  ·obtain⟨i,b,rfl⟩:=cX f;exact⟨n,(g i b).2⟩
end
end Go.Vc
namespace Go.Proofs
open Go Go.Vc
def jj(S:Ven)(n:Int)(o:Od)(p:Pm):(S.traded n o p).2.1.err=0:=by
 unfold Ven.traded;simp only;split<;>rfl
def mM(S:Ven)(c:Cm):(S.place c).2.1.err=0:=by
 unfold Ven.place;simp only;split
 ·rfl
 ·split
  ·rfl
  ·exact jj _ _ _ _
def qx(S:Ven)(c:Cm):(S.bid c).2.1.err=0:=by
 unfold Ven.bid;simp only;split
 ·rfl
 ·split<;>rfl
def lK(S:Ven)(c:Cm):(S.cancel c).2.1.err=0:=by
 unfold Ven.cancel;split
 ·rfl
 ·split<;>rfl
def kR(S:Ven)(c:Cm):(S.replace c).2.1.err=0:=by
 unfold Ven.replace;split
 ·rfl
 ·simp only;split
  ·rfl
  ·split
   ·rfl
   ·exact jj _ _ _ _
def fM:∀(l:List Sd) (r:Rp) (S:Ven),r.err=0->(payL l r S).2.1.err=0
 | [],r,S,h=>h
 |s::l,r,S,h=>by
  unfold payL;simp only;cases s.dfl with
  |true=>
   simp only[fh];split
   ·exact h
   ·exact fM l _ _ h
  |false=>
   simp only[dE,eW];split
   ·exact h
   ·exact fM l _ _ h
def gX(S:Ven)(won:Int->Int):(S.pay won).2.1.err=0:=by
 unfold Ven.pay;simp only;split
 ·rfl
 ·split
  ·exact fM _ _ _ rfl
  ·exact fM _ _ _ rfl
def jM(S:Ven):S.settle.2.1.err=0:=by
 unfold Ven.settle;simp only;split
 ·rfl
 ·split
  ·rfl
  ·split
   ·exact gX _ _
   ·exact gX _ _
def expire_err(S:Ven)(n:Int):(S.expire n).2.1.err=0:=by
 unfold Ven.expire;simp only;split
 ·rfl
 ·split
  ·rfl
  ·split
   ·exact gX _ _
   ·exact gX _ _
def eh{n a:Int}{long:Bool}{price:Int}:∀(l:List Fl) (left:Int) (r:Rp) (S:Ven),r.err=0->(fillsL n a long price l left r S).2.2.1.err=0
 | [],left,r,S,h=>h
 |f::l,left,r,S,h=>by
  unfold fillsL;simp only;split
  ·exact h
  ·exact eh l _ _ _ h
def gO{n a:Int}{long:Bool}{price:Int}:∀(l:List Hd) (r:Rp) (S:Ven),r.err=0->(partsL n a long price l r S).2.1.err=0
 | [],r,S,h=>h
 |x::l,r,S,h=>by
  unfold partsL;simp only;split
  ·exact h
  ·exact gO l _ _ h
def kX(S:Ven)(k:Ct)(a q:Int){r:Rp}(h:r.err=0):(S.sell k a q r).2.1.err=0:=by
 unfold Ven.sell;simp only;split
 ·exact h
 ·split
  ·exact eh _ _ _ _ h
  ·split
   ·exact eh _ _ _ _ h
   ·split
    ·split
     ·exact eh _ _ _ _ h
     ·exact gO _ _ _ (eh _ _ _ _ h)
    ·split
     ·exact eh _ _ _ _ h
     ·exact gO _ _ _ (eh _ _ _ _ h)
def iu{a:Int}:∀(l:List Ct) (r:Rp) (S:Ven),r.err=0->(sellL a l r S).2.1.err=0
 | [],r,S,h=>h
 |k::l,r,S,h=>by
  unfold sellL;simp only;split
  ·exact iu l r S h
  ·split
   ·exact kX _ _ _ _ h
   ·exact iu l _ _ (kX _ _ _ _ h)
def qr(S:Ven)(a:Ac):(S.liquidate a).2.1.err=0:=by
 unfold Ven.liquidate;split
 ·rfl
 ·exact iu _ _ _ rfl
def oE(S:Ven)(c:Cm):(S.done c).2.1.err=0:=by
 unfold Ven.done;by_cases k1:c.kind=1
 ·rw[bZ k1];rfl
 rw[aZ k1];by_cases k2:c.kind=2
 ·rw[bZ k2];rfl
 rw[aZ k2];by_cases k3:c.kind=3
 ·rw[bZ k3];rfl
 rw[aZ k3];by_cases k4:c.kind=4
 ·rw[bZ k4];rfl
 rw[aZ k4];by_cases k11:c.kind=11
 ·rw[bZ k11];rfl
 rw[aZ k11];by_cases k12:c.kind=12
 ·rw[bZ k12];exact jM S
 rw[aZ k12];by_cases k14:c.kind=14
 ·rw[bZ k14];exact expire_err S _
 rw[aZ k14];by_cases a:c.acct=0
 ·rw[bZ a];rfl
 rw[aZ a];by_cases k6:c.kind=6
 ·rw[bZ k6];exact lK S c
 rw[aZ k6];by_cases k7:c.kind=7
 ·rw[bZ k7];exact kR S c
 rw[aZ k7];by_cases b:S.led.getO c.acct=none
 ·rw[bZ b];rfl
 rw[aZ b];by_cases k5:c.kind=5
 ·rw[bZ k5];exact mM S c
 rw[aZ k5];by_cases k9:c.kind=9
 ·rw[bZ k9];exact qx S c
 rw[aZ k9];by_cases k8:c.kind=8
 ·rw[bZ k8];split<;>rfl
 rw[aZ k8];by_cases k10:c.kind=10
 ·rw[bZ k10];simp only;split<;>rfl
 rw[aZ k10];by_cases k13:c.kind=13
 ·rw[bZ k13];exact qr S _
 rw[aZ k13];rfl
def apply_cases(S:Ven)(c:Cm):((S.apply c).1.err≠0/\S.apply c=(failR (S.apply c).1.err,S))\/((S.apply c).1.err=0/\c.may=true/\(S.done c).1=0/\S.apply c=(S.done c).2):=by
 unfold Ven.apply;by_cases b:c.may=false
 ·rw[bZ b];exact .inl ⟨by show(160:Int)≠0;omega,rfl⟩
 rw[aZ b];simp only;by_cases a:(S.done c).1≠0
 ·rw[bZ a];exact .inl ⟨a,rfl⟩
 ·rw[aZ a];exact .inr ⟨oE S c,by simpa using b,by simpa using a,rfl⟩
end Go.Proofs
namespace Go.Proofs
open Go Go.Vc
variable {c:Cm}{S:Ven}
def xN{a n:Int}{buy:Bool}{price qty:Int}{w:Od}(e:a≠0){x:Ac}(f:S.led.find a=some x)(d:x.dfl=true):S.pass a n buy price qty w≠0:=λh=>by
 obtain⟨y,c,-,b⟩:=(pass_ok e h).stands;rw[f]at c;cases c;rw[d]at b;cases b
def Br{a n:Int}{buy:Bool}{price qty:Int}{w:Od}(e:a≠0){k:Ct}(d:eR S.cal.l n=some k)(f:k.st=2):S.pass a n buy price qty w≠0:=λh=>by
 obtain⟨g,b,c,-⟩:=(pass_ok e h).opn;rw[d]at b;cases b;omega
def xX(h:S.pass c.acct c.ct c.buy c.price c.qty pC≠0):(S.order c).1≠0:=by
 unfold Ven.order;simp only;rw[bZ h];exact h
def C4(h:(S.order c).1≠0):(S.place c).1≠0:=by
 unfold Ven.place;simp only;rw[bZ h];exact h
def HQ(h:(S.order c).1≠0):(S.bid c).1≠0:=by
 unfold Ven.bid;simp only;rw[bZ h];exact h
def JR(h:S.Ok){c:Cm}(f:c.kind=5\/c.kind=9\/c.kind=7\/c.kind=2){x:Ac}(q:x∈S.led.all)(o:x.num=c.acct)(i:x.dfl=true):(S.apply c).1.err≠0:=by
 have l:=h.led.led;have g:S.led.find c.acct=some x:=by rw[<-o];exact Led.mem_find l q
 have d:c.acct≠0:=(Led.find_ok l g).2.2;intro r;rcases apply_cases S c with⟨k,e⟩|⟨-,-,b,e⟩
 ·exact k r
 unfold Ven.done at b;rcases f with f|f|f|f<;>simp only[f]at b<;>simp at b
 ·rw[aZ d]at b;split at b
  ·cases b
  ·exact C4 (xX (xN d g i)) b
 ·rw[aZ d]at b;split at b
  ·cases b
  ·exact HQ (xX (xN d g i)) b
 ·rw[aZ d]at b;unfold Ven.replace at b;split at b
  ·cases b
  ·simp only at b;rw[bZ (xN d g i)]at b;exact xN d g i b
 ·by_cases k:(S.led.withdraw c.acct c.amt).1=0
  ·rw[bZ k]at b;rcases Led.withdraw_cases (S:=S.led) (n:=c.acct) (m:=c.amt)with⟨-,j⟩|⟨a,j,p,-⟩
   ·exact j k
   ·rw[g]at j;cases j
    have:({S with led:=(S.led.withdraw c.acct c.amt).2}:Ven).acc c.acct={x with cash:=x.cash - c.amt}:=by
     unfold Ven.acc;show((S.led.withdraw c.acct c.amt).2.getO c.acct).getD _=_;rw[jV d,p];show((S.led.putA _).find c.acct).getD _=_;rw[Led.find_putA l.sa (by grind),bZ o.symm];rfl
    rw[this]at b;simp[i]at b
  ·grind
def FB(h:S.Ok){c:Cm}(b:c.kind=5\/c.kind=9){k:Ct}(f:k∈S.cal.l)(m:k.spec.num=c.ct)(g:k.st=2):(S.apply c).1.err≠0:=by
 intro j;rcases apply_cases S c with⟨l,e⟩|⟨-,-,a,e⟩
 ·exact l j
 have i:eR S.cal.l c.ct=some k:=by rw[<-m];exact calGet_of h.cal f
 unfold Ven.done at a;by_cases d:c.acct=0
 ·grind
 rcases b with b|b<;>simp only[b]at a<;>simp at a
 ·rw[aZ d]at a;split at a
  ·cases a
  ·exact C4 (xX (Br d i g)) a
 ·rw[aZ d]at a;split at a
  ·cases a
  ·exact HQ (xX (Br d i g)) a
def J4(h:S.Ok){m:Int}{o:Od}(c:o∈S.ords m){x:Ac}(e:x∈S.led.all)(f:x.num=o.acct):x.dfl=false/\x.kil=false:=by
 obtain⟨y,d,b,a⟩:=(h.ord.std m o c).acc;have:=Led.mem_find h.led.led e;rw[f,d]at this;cases this;exact⟨a,b⟩
end Go.Proofs
set_option maxRecDepth 100000
namespace Go.Proofs
open Go Go.Vc
section
variable{a b c:Vt_}{W:Wt_}{Z:cG}
def J24_0(a:cG)(b:T2)(c:T2->Wp)(d:T1)(e:Wt_):=NV->cV d.1 (a bF e) (g1 b.2.1 e λf g=>c (b.1,f,()) g)
def Vl(a b c:Vt_)(d:T2)(e:cG)(f:T2->Wp)(g:T2)(h:Wt_)(i:T2->Wp):=gc g.2.1 a h λj k=>cV j (jW (λl=>gY 61 b 3 56 k.drew λm=>mf 56 m g.2.1 λn=>gY 70 n 0 23 k.drew λo=>mf 59 c d.2.1 λp=>kg 76 p 1 λq=>gY 74 q 1 23 k.drew λr=>my .eql 23 false o r λs=>cV s (gY 61 b 3 56 k.drew λt=>mf 56 t g.2.1 λu=>gY 70 u 3 4 k.drew λv=>cV v (l (bT,()) k.drew) (gY 61 b 3 56 k.drew λw=>mf 56 w g.2.1 λx=>gY 70 x 2 4 k.drew λy=>l (y,()) k.drew)) (l (bF,()) k.drew)) (J24_0 e g i)) (g1 d.2.1 k λz A=>f (g.1,z,()) A)
def Vq(a b c:Vt_)(d:cG)(e:T2)(f:T2->Wp)(g:T2)(h:Wt_)(i:T2->Wp):=gc g.2.1 a h λj k=>cV j (dz 61 b 3 56 k λl m=>gn 56 false l m λn o=>qB (Vl n b c g d i) (g.1,(gI 0),()) o) (g1 e.2.1 k λp q=>f (g.1,p,()) q)
def WS(a b c d:Vt_)(e:cG)(f:Vt_)(g:T2)(h:T2->Wp)(i:T2)(j:Wt_)(k:T2->Wp):=gc i.2.1 a j λl m=>cV l (dz 61 b 4 57 m λn o=>gi 57 n i.2.1 o λp q=>gf 83 p 0 q λr s=>dz 27 r 0 23 s λt u=>jW (λv=>dz 61 b 4 57 u λw x=>gi 57 w i.2.1 x λy z=>dz 83 y 1 81 z λA B=>gb .eql 81 true A (gB 2) B λC D=>cV C (dz 30 c 2 23 D λE F=>gb .eql 23 false t E F λG H=>cV G (dz 30 c 0 22 H λI J=>gC I 5 J λK L=>cV K (dz 52 d 0 43 L λM N=>gb .eql 43 true M (gI 0) N λO P=>v (O,()) P) (dz 30 c 0 22 L λQ R=>gC Q 9 R λS T=>cV S (dz 52 d 0 43 T λU V=>gb .eql 43 true U (gI 0) V λX Y=>v (X,()) Y) (v (bF,()) T))) (v (bF,()) H)) (v (bF,()) D)) (J24_0 e i k)) (Ca pQ 20 #[f] m λaa ab=>gv 61 aa ab λac ad=>kg 61 ac 6 λae=>eP 59 ae ad.drew λaf=>kg 61 ac 7 λag=>eP 59 ag ad.drew λah=>gx (jQ 59 0 []) ad.drew λai aj=>gk 59 ag ah aj/\gk 59 ae af aj/\(gx (eg #[59,59] 59 [ai,af]) aj λak al=>gk 59 ag ah al/\(gx (eg #[59,59] 59 [ak,ah]) al λam an=>gn 59 false am an λao ap=>qB (Vq ao ac am e g h) (i.1,(gI 0),()) ap)))
def UA(a:cG)(b c d e:Vt_)(f:T2)(g:T2->Wp)(h:T1)(i:Wt_):=NV->cV h.1 (a bF i) (dz 61 b 4 57 i λj k=>gn 57 false j k λl m=>qB (WS l b c d a e f g) (f.1,(gI 0),()) m)
def WK(a:T2)(b:Vt_)(c:cG)(d e f:Vt_)(g:T2)(h:T2->Wp)(i:T1)(j:Wt_):=NV->jW (λk=>cV a.1 (cV i.1 (dz 52 b 0 43 j λl m=>gb .eql 43 true l (gI 0) m λn o=>k (n,()) o) (k (bF,()) j)) (k (bF,()) j)) (UA c d e b f g h)
def WH(a b c d:Vt_)(e:cG)(f:Vt_)(g:T2)(h:T2->Wp)(i:T2)(j:Wt_)(k:T2->Wp):=gc i.2.1 a j λl m=>cV l (cV i.1 (g1 i.2.1 m.drew λn o=>k (bT,n,()) o) (gY 61 b 3 56 m.drew λp=>mf 56 p i.2.1 λq=>gY 70 q 0 23 m.drew λr=>gY 30 c 1 23 m.drew λs=>my .eql 23 false r s λt=>cV t (gY 61 b 3 56 m.drew λu=>mf 56 u i.2.1 λv=>gY 70 v 3 4 m.drew λw=>g1 i.2.1 m.drew λx y=>k (w,x,()) y) (g1 i.2.1 m.drew λz A=>k (bF,z,()) A))) (jW (λB=>dz 30 c 0 22 m λC D=>gC C 5 D λE F=>cV E (B (bT,()) F) (dz 30 c 0 22 F λG H=>gC G 9 H λI J=>cV I (B (bT,()) J) (dz 30 c 0 22 J λK L=>gC K 7 L λM N=>cV M (B (bT,()) N) (dz 30 c 0 22 N λO P=>gC O 2 P λQ R=>B (Q,()) R)))) (WK i d e b c f g h))
def VT(a b c:Vt_)(d:cG)(e:T2)(f:Wt_)(g:T2->Wp):=gc e.2.1 a f λh i=>cV h (gi 65 b e.2.1 i λj k=>gx (fH 30 j) k λl m=>gx (nE 30) m λn o=>nj pQ (jH 30 n l) o λp=>Ca pQ 20 #[c] p λq r=>gv 61 q r λs t=>gx (fH 30 n) t λu v=>Ca pQ 18 #[c,u] v λw x=>gv 52 w x λy z=>dz 61 s 3 56 z λA B=>gn 56 false A B λC D=>qB (WH C s n y d c e g) (bF,(gI 0),()) D) (Ca pQ 13 #[] i d)
def Vz(a:Vt_)(b:cG)(c:Vt_)(d:T1)(e:Wt_):=NV->cV d.1 (gb .neq 39 true a (.pointer none) e λf g=>cV f (Ca pQ 13 #[] g b) (b bF g)) (gn 65 false c e λh i=>qB (VT h c a b) (bF,(gI 0),()) i)
def aE2(k:Ca pQ 22 #[] W λb c=>jW (λd=>gb .eql 39 true b (.pointer none) c λe f=>cV e (d (bT,()) f) (gn 65 false a f λg h=>gb .gtr 3 true g (gI 120) h λi j=>d (i,()) j)) (Vz b Z a)):Ca pQ 12 #[a] W Z:=cj Tryz.func12 k
end
end Go.Proofs
namespace Go.Proofs
open Go Go.Vc
attribute [local congr] cR
section
variable{w:Wt_}{b lo:Nat}{d nx fu:Int}{ss:Nat->Value}{A:List Ac}{C:List Ct}{P:List Po}{O B:List (Int×Od)}
def SB.keepF{F:NP_}{w' :Wt_}{n:Nat}(h:SB w b d nx fu ss A C P O B lo)(c:de F w w')(k:∀y,F y->y<n)(f:n<=lo)(l:n<=b):SB w' b d nx fu ss A C P O B lo:=
 SB.modX h c λy a g=>by
  have:=k y g;rcases a with rfl|⟨i,j,e,a⟩
  ·omega
  ·have:=(h.nw i y j e a).1;omega
def SB.md0{w' :Wt_}(h:SB w b d nx fu ss A C P O B lo)(a:M0 w w'):SB w' b d nx fu ss A C P O B lo:=SB.modX h a eQ
def SB.len(h:SB w b d nx fu ss A C P O B lo)(i:Nat)(hi:3<=i)(e:i<=7):∃a c,ss i=.slice a (LN A C P O B i) c:=by
 obtain⟨a,c,f,_⟩:=(h.own i hi e).isSl;exact⟨a,c,f⟩
end
end Go.Proofs
namespace Go.Proofs.YtnfloameajanhaaGreat
open Go Go.Vc Go.Proofs Go.ChangeShapes Go.WideShapes Go.ChangeAt Go.RowKit
set_option maxRecDepth 100000 in
def open_cms{H:Type}{enc:TypeId×Value->H}{w:World}{v0:Value}{j:DataW H}{q:List MemPlace}{d:Nat}(a:Value.okWide Tryz.prog w .any d 65 v0)(g:∃b,DataW.trod enc Tryz.prog w 0 (λ_=>true) true b 65 v0.cells.toList=some (j,q))
  (r:Wt Tryz.prog reachBytes 65 j):∃l:List Cm,Rd w 35 v0 l.length (l.flatMap cmC)/\∀x∈l,x.Fit:=by
 have h:v0.cells.toList=[v0]:=by
  unfold Value.okWide at a;rw[Tryz.underlying65]at a;simp only[Cell.okWide,Tryz.underlying65]at a;unfold Cell.ok at a;rw[Tryz.underlying65]at a;cases v0<;>first|rfl|exact a.elim
 obtain⟨b,g⟩:=g;rw[h]at g;obtain⟨v,e,L,k,-,o⟩:=nJ (sz:=35) Tryz.underlying65 cU qZ g r;cases e
 obtain⟨l,rfl,i⟩:=list_choose (f:=cmC) (Q:=Cm.Fit) λc s=>by
  obtain⟨n,t,y,m,p⟩:=o c s;exact open_cm n m p
 rw[List.length_map,<-List.flatMap_def]at k;exact⟨l,k,i⟩
end Go.Proofs.YtnfloameajanhaaGreat
namespace Go.Proofs
open Go Go.Vc
attribute [local congr] cR
variable {x:Int×Od}{b:Nat}{S:Ven}{w:Wt_}
def Ven.oL(S:Ven):List (Int×Od):=S.nums.flatMap λn=>(S.bk n).all.map λo=>(n,o)
def Ven.bL(S:Ven):List (Int×Od):=S.nums.flatMap λn=>(S.bd n).map λo=>(n,o)
def yT(h:x∈S.oL):x.1∈S.nums/\x.2∈(S.bk x.1).all:=by
 obtain⟨n,b,h⟩:=List.mem_flatMap.1 h;obtain⟨o,a,rfl⟩:=cF.1 h;exact⟨b,a⟩
def yD(h:x∈S.bL):x.1∈S.nums/\x.2∈S.bd x.1:=by
 obtain⟨n,b,h⟩:=List.mem_flatMap.1 h;obtain⟨o,a,rfl⟩:=cF.1 h;exact⟨b,a⟩
def tM(h:x∈S.oL++S.bL):x.2∈S.ords x.1:=by
 rcases dg.1 h with h|h
 ·exact fk _ (yT h).2
 ·exact gg _ (yD h).2
def pK(h:S.Ok):S.oL.length<=3200/\S.bL.length<=800:=by
 have b:=tX h.ord S.nums.length;have a:=tO h.ord S.nums.length;unfold wi at b;unfold vV at a;rw[cN]at b a;have d:=h.cal.len;have c:S.nums.length=S.cal.l.length:=by unfold Ven.nums;rw[cz]
 exact⟨by show(S.nums.flatMap _).length<=_;omega,by show(S.nums.flatMap _).length<=_;omega⟩
def jZ(x:Int×Od):(ju x).length=6:=rfl
def tL(l:List (Int×Od)):(l.flatMap ju).all (·.oneCell')=true:=by
 induction l with
 |nil=>rfl
 |cons x l a=>rw[eu,gj,a];rfl
abbrev kU:TypeId:=59
def xC:Tryz.prog.underlying kU=some (.slice 76):=cU
def tE{lo:Nat}{d nx a:Int}{ss:Nat->Value}{A:List Ac}{C:List Ct}{P:List Po}{O B:List (Int×Od)}(h:SB w b d nx a ss A C P O B lo)(i:Nat)(hi:i=6\/i=7):(iL kU (pt b i)).run pQ w=.ok (ss i) w:=by
 have e:kU=xL i:=by rcases hi with rfl|rfl<;>rfl
 rw[e];exact h.ld i qZ qZ
def CF{lo:Nat}{d nx R:Int}{ss:Nat->Value}{A:List Ac}{C:List Ct}{P:List Po}{O B:List (Int×Od)}{K:cG}(h:SB w b d nx R ss A C P O B lo)(Z:O.length<=10000)(hB:B.length<=10000)
  (S:∀s p,jo p 76 6 s (O++B).length ((O++B).flatMap ju)->M0 w p->K s p):
  wS pQ (iF sV (pt b 0) 6) λj=>
  uc pQ (iL kU j) w.drew λk=>
  wS pQ (iF sV (pt b 0) 7) λi=>
  uc pQ (iL kU i) w.drew λg=>
  rx pQ (jQ kU 0 []) w.drew λu a=>
  Sem.run pQ (iL kU i) a=.ok g a/\Sem.run pQ (iL kU j) a=.ok k a/\
  (rx pQ (eg #[kU,kU] kU [u,k]) a λo f=>
  Sem.run pQ (iL kU i) f=.ok g f/\
  (rx pQ (eg #[kU,kU] kU [o,g]) f λv x=>K v x)):=by
 have md:M0 w w.drew:=mP;have l:=SB.md0 h md;refine dw (λ_=>dZ _ 6 qZ) (dp (tE l 6 (.inl rfl)) ?_);refine dw (λ_=>dZ _ 7 qZ) (dp (tE l 7 (.inr rfl)) ?_)
 try dsimp only
 generalize w.drew=c at md l|-;have t:wd pQ 76 6 40:=eO (Qg 6);have m:Tryz.prog.underlying kU=some (.slice 76):=Zb 6;refine oJ [] m t rfl rfl (by simp) qZ ?_;have n:M0 c (c.alloc (.cells ([]:LV_).toArray 76)):=lm
 have E:jo (c.alloc (.cells ([]:LV_).toArray 76)) 76 6 (.slice (some ⟨c.heap.size,0,none⟩) 0 0) 0 []:=
  ⟨by simp,.inr ⟨c.heap.size,0,[],rfl,cJ _,by rw[gy,bZ rfl];simp,by simp⟩⟩
 have I:(([]:LV_).flatMap (·.cells.toList)).toArray=([]:LV_).toArray:=rfl;rw[I]
 have F:∀y,cK (.slice (some ⟨c.heap.size,0,none⟩) 0 0) y->c.heap.size<=y:=λy e=>by
  simp only[cK,It]at e;have:=dB e;omega
 generalize c.alloc (.cells ([]:LV_).toArray 76)=X at n E|-;have q:=SB.md0 l n;refine⟨tE q 7 (.inr rfl),tE q 6 (.inl rfl),?_⟩;have N:Rd X 6 (ss 6) O.length (O.flatMap ju):=(q.own 6 qZ qZ).rd;refine jR m m t E N (tL O) qZ λV z T L M=>?_;have D:M0 c z:=n.on L λy e=>.inr (F y e);have G:=SB.md0 l D;refine⟨tE G 7 (.inr rfl),?_⟩;have Q:Rd z 6 (ss 7) B.length (B.flatMap ju):=(G.own 7 qZ qZ).rd
 have r:∀y,cK V y->c.heap.size<=y:=λy e=>by
  rcases M y e with h|h
  ·exact F y h
  ·have:=n.size;omega
 refine jR m m t T Q (tL B) qZ λJ H U W Y=>?_;refine S J H ?_ ((md.trans D).on W λy e=>.inr (by have:=r y e;have:=md.size;omega));rw[eJ,cD];simpa using U
def Rv{s:Vt_}{L:List (Int×Od)}(h:jo w 76 6 s L.length (L.flatMap ju)){i:Nat}(hi:i<L.length):
  ∃b a,(∀W,(iX kU s (gI (i:Int))).run pQ W=.ok (pt b a) W)/\At w b a (ju L[i]):=by
 obtain⟨b,a,e,c,d,g⟩:=h.rd.item (f:=ju) jZ hi rfl;exact⟨b,a+i*6,λW=>by rw[c];simp[go_sem,hi,cS],g⟩
def Cx{off:Nat}(h:At w b off (ju x)):(iL 23 (pt b (off+1+1))).run pQ w=.ok (gU x.2.acct) w:=by
 have:=h.cell 2 (gU x.2.acct) rfl;obtain⟨C,e,fz,d,c⟩:=h.get;have a:=c 2 _ rfl;rw[show off+2=off+1+1 by omega]at a;simp[go_sem,d,a]
end Go.Proofs
namespace Go.Proofs
open Go Go.Vc
attribute [local congr] cR
def tQ{W:Wt_}{p:Nat}{r:Rp}{sT sG sA:Vt_}(h:hC W p (mC r sT sG sA).toArray lx):(iL 43 (pt p 0)).run pQ W=.ok (gI r.err) W:=by
 simp[go_sem,h,mC]
def ye(W:Wt_){p:Nat}:(iF lx (pt p 0) 0).run pQ W=.ok (pt p 0) W:=by simp[go_sem]
section
variable{w:Wt_}{b off:Nat}{a:Ac}{k:Ct}
def EO(h:At w b off (dH a)):(iL 23 (pt b off)).run pQ w=.ok (gU a.num) w:=by
 obtain⟨C,e,fz,g,f⟩:=h.get;have c:=f 0 _ rfl;rw[dS]at c;simp[go_sem,g,c]
def ar9(h:At w b off (dH a)):(iL 4 (pt b (off+2))).run pQ w=.ok (.bool a.kil) w:=by
 obtain⟨C,e,fz,f,c⟩:=h.get;have g:=c 2 _ rfl;simp[go_sem,f,g]
def EU(h:At w b off (dH a)):(iL 4 (pt b (off+3))).run pQ w=.ok (.bool a.dfl) w:=by
 obtain⟨C,e,fz,f,c⟩:=h.get;have g:=c 3 _ rfl;simp[go_sem,f,g]
def HT(h:At w b off (fI k)):(iL 23 (pt b off)).run pQ w=.ok (gU k.spec.num) w:=by
 obtain⟨C,e,fz,g,f⟩:=h.get;have c:=f 0 (gU k.spec.num) rfl;rw[dS]at c;simp[go_sem,g,c]
def Kk(h:At w b off (fI k)):(iL 81 (pt b (off+25))).run pQ w=.ok (gB k.st) w:=by
 obtain⟨C,e,fz,f,c⟩:=h.get;have i:(fI k)[25]? =some (gB k.st):=by unfold fI;rw[cQ (by rw[dP];omega),dP];rfl
 have g:=c 25 _ i;simp[go_sem,f,g]
end
section
variable{w:Wt_}{b lo:Nat}{d nx fu:Int}{ss:Nat->Value}{A:List Ac}{C:List Ct}{P:List Po}{O B:List (Int×Od)}
def Xw(h:SB w b d nx fu ss A C P O B lo){i:Nat}(hi:i<C.length):
  ∃a off,(∀W,(iX 57 (ss 4) (gI (i:Int))).run pQ W=.ok (pt a off) W)/\At w a off (fI C[i]):=by
 have j:Rd w 27 (ss 4) C.length (C.flatMap fI):=(h.own 4 qZ qZ).rd;obtain⟨b,off,g,c,e,l⟩:=j.item (f:=fI) eE hi rfl;exact⟨b,off+i*27,λW=>by rw[c];simp[go_sem,hi,cS],l⟩
end
def yc(t:TypeId)(q:IntKind)(x y:Int)(c:Bool)(f:Tryz.prog.underlying t=some (.int q))(W:Wt_):(qE .eql t c (.int q x) (.int q y)).run pQ W=.ok (.bool (decide (x=y))) W:=by
 have e:(x==y)=decide (x=y):=rfl;simp[go_sem,e]
def wO(a:Int)(l:List Ac):Bool:=l.any λx=>decide (x.num=a)&& x.dfl
set_option maxRecDepth 10000 in
def ca_lawShut{w:Wt_}{K:cG}{s:Vt_}{L:List Cm}(h:Rd w 35 s L.length (L.flatMap cmC))(hf:∀c∈L,c.Fit)(hK:∀w',M0 w w' ->K (.bool true) w'):Ca pQ 12 #[s] w K:=by
 apply aE2;refine tB λv F0 w1 q1 m1 n1=>?_;obtain⟨sa,sc,hs⟩:=h.isSl;have U:∀W,(builtin .len #[65] 3 #[false] #[s]).run pQ W=.ok (.value (gI (L.length:Int))) W:=λW=>by rw[hs];exact lenV BU _ _ _ _
 refine dK.at (λst W=>st=(.bool (decide (120<L.length)),())/\W=w1) ?_ ?_
 ·apply cx (.bool false) w1 (by simp[eY,go_sem]);rw[gP];apply mB (U _);apply cx (.bool (decide (120<L.length))) w1 (by simp[go_sem];omega);exact sI
 rintro _ W ⟨rfl,rfl⟩;unfold Vz;intro _;by_cases hb:120<L.length
 ·rw[qo hb];apply cx (.bool true) W (by simp[eY,go_sem]);rw[kx];exact kf λw2 m2=>hK _ (m1.trans m2)
 rw[cy,aZ (by grind)];apply mB (U _)
 refine eS (λst I=>∃(x:Vt_) (i:Nat) (F:NP_) (S:Ven),st=(x,gI i,())/\i<=L.length/\lw I v F S/\S.Ok/\M0 w I/\∀y,F y->w.heap.size<=y)
  (λst _=>match st.2.1 with| .int _ i=>L.length - i.toNat|_=>0) ⟨_,0,F0,Ven.empty,rfl,qZ,q1,qX,m1,n1⟩ ?_
 rintro⟨_,_⟩ I ⟨x,i,F,S,⟨⟩,hi,q2,g,m2,n2⟩ KN hKN;unfold VT;intro _;apply cI (ltV _ _ _);by_cases hlt:i<L.length
 ·rw[qo hlt];obtain⟨cb,co,he,hat⟩:=zH (h.mod m2 eQ) hlt;refine cI (he I) (iW (vx hat) ?_);have t:=hf _ (cC hlt);generalize hc:L[i]=c at t;apply rg NT;rw[yA];obtain⟨z,hz⟩:=dW I.heap.size;have ma:M0 I (I.alloc (.cells (cmC zCm).toArray om)):=lm;have za:iy (I.alloc (.cells (cmC zCm).toArray om)) z zCm:=by show hp _ _=_;rw[hz];simp[go_sem]
  rw[<-hz];generalize I.alloc (.cells (cmC zCm).toArray om)=wa at ma za|-;refine GX (b:=c) za λwb zb mb' =>?_;have Mb:=ma.on mb' λy N=>gz;have hQ:=q2.md0 Mb;obtain⟨c',l,mb,md,A,D,fp,hr,hF⟩:=hQ;refine mK hr g λss b lo w3 s3 hlo m3 hb=>?_;refine pZ s3 λp w4 s4 m4 hp4=>?_;have M4:=(Mb.trans m3).trans m4;have z4:=(m3.trans m4).hpk zb id;apply iW (vm z4);refine kW (q2.md0 M4) g t λsT sG sA F5 w5 q5 r5 m5 n5 _=>?_;have hFl:∀y,F y->y<I.heap.size:=λy N=>q2.lt N;have hsb:=Mb.size;have hs3:=m3.size;have s5:=SB.keepF s4 m5 hFl qZ qZ;have z5:=m5.hpk z4 λhc=>by grind
  have n:=mV g t;have poor:=λ(Y:c.kind=5\/c.kind=9\/c.kind=7\/c.kind=2) {x:Ac} (V:x∈S.led.all) (o:x.num=c.acct) (hd:x.dfl=true)=>JR g Y V o hd;have e:=λ(Y:c.kind=5\/c.kind=9) {k:Ct} (hkm:k∈S.cal.l) (o:k.spec.num=c.ct) (hs:k.st=2)=>FB g Y hkm o hs;generalize S.apply c=X at q5 r5 n poor e|-;have M5:=(m2.trans M4).on m5 λy N=>.inr (n2 y N)
  have N5:∀y,F5 y->w.heap.size<=y:=λy N=>by
   rcases n5 y N with h|h
   ·exact n2 y h
   ·have:=(m2.trans M4).size;omega
  obtain⟨w6,e6,b6,m6⟩:=qy w5;apply cI e6;obtain⟨r,hr0⟩:=dW w5.heap.size;rw[<-hr0]at b6|-;obtain⟨w7,e7,b7,m7⟩:=pl (r:=X.1) (sT:=sT) (sG:=sG) (sA:=sA) b6 rfl r5.isSl;apply ir e7;have R:=m6.on m7 λy N=>gz;have s7:=SB.md0 s5 R;have z7:=R.hpk z5 id;have q7:=q5.md0 R;have M7:=M5.trans R;obtain⟨a3,c3,e3⟩:=s7.len 3 qZ qZ;have e3:=e3;have n3:∀W,(builtin .len #[56] 3 #[false] #[ss 3]).run pQ W=.ok (.value (gI (S.led.all.length:Int))) W:=λW=>by rw[e3];exact lenV ya _ _ _ _
  have h64:=g.led.led.len;refine cI (dZ _ 3 qZ) (cI (s7.ld 3 qZ qZ) (mB (n3 _) ?_))
  refine eS (λst W=>∃(k:Nat),st=(.bool (wO c.acct (S.led.all.take k)),gI k,())/\k<=S.led.all.length/\M0 w7 W)
   (λst _=>match st.2.1 with| .int _ k=>S.led.all.length - k.toNat|_=>0) ⟨0,rfl,qZ,lX⟩ ?_
  rintro⟨_,_⟩ W8 ⟨k,⟨⟩,hk8,m8⟩ KM hKM;unfold WH;intro _;apply cI (ltV _ _ _);by_cases H:k<S.led.all.length
  ·rw[qo H];have E:=m8.trans mP;have u9:=SB.md0 s7 E;have z9:=E.hpk z7 id
   try dsimp only
   generalize W8.drew=W9 at E u9 z9|-;obtain⟨J,M,Q,f,-⟩:=uj u9 (i:=k) H
   have T:wO c.acct (S.led.all.take (k+1))=(wO c.acct (S.led.all.take k)||(decide (S.led.all[k].num=c.acct)&& S.led.all[k].dfl)):=by
    unfold wO;rw[eA H,List.any_append];simp
   have go:∀bb,bb=wO c.acct (S.led.all.take (k+1))->rv pQ (qE .add 3 true (gI (k:Int)) (gI 1)) W9 λv w=>KM (.bool bb,v,()) w:=by
    intro bb hbb;apply cI (addV qZ _);rw[hbb];exact hKM _ _ ⟨k+1,rfl,qZ,E⟩ (by grind)
   cases hp:wO c.acct (S.led.all.take k)with
   |true=>
    rw[kx];exact go true (by rw[T,hp];rfl)
   |false=>
    rw[gP];rw[hp,jz]at T;refine dw (λ_=>dZ _ 3 qZ) (dp (u9.ld 3 qZ qZ) (dw Q ?_));refine qPv1 (pt J M) cS (dp (EO f) ?_);refine dw pM (dp (rk z9) ?_);apply dw (λW=>yc 23 .u32 _ _ _ Tryz.underlying23 W);by_cases o:S.led.all[k].num=c.acct
    ·rw[qo o];refine dw (λ_=>dZ _ 3 qZ) (dp (u9.ld 3 qZ qZ) (dw Q ?_));refine qPv1 (pt J (M+3)) cS (dp (EU f) ?_);exact go _ (by rw[T,o];simp)
    ·rw[cy,aZ (by grind)];exact go false (by rw[T];simp[o])
  ·rw[cy,aZ (by grind)];have hke:k=S.led.all.length:=qZ;subst hke;rw[cN];have z8:=m8.hpk z7 id;have b8:=m8.hpk b7 id;have u8:=SB.md0 s7 m8;refine dK.at (λst W=>st=(.bool (decide (c.kind=5\/c.kind=9\/c.kind=7\/c.kind=2)),())/\W=W8) ?_ ?_
   ·refine cI (td _) (cI (sH z8) (cI (yc 22 .u8 _ _ _ cU _) ?_));by_cases k1:c.kind=5
    ·rw[qo k1];exact⟨by simp[k1],rfl⟩
    rw[cy,aZ (by grind)];refine cI (td _) (cI (sH z8) (cI (yc 22 .u8 _ _ _ cU _) ?_));by_cases k2:c.kind=9
    ·rw[qo k2];exact⟨by simp[k2],rfl⟩
    rw[cy,aZ (by grind)];refine cI (td _) (cI (sH z8) (cI (yc 22 .u8 _ _ _ cU _) ?_));by_cases k3:c.kind=7
    ·rw[qo k3];exact⟨by simp[k3],rfl⟩
    rw[cy,aZ (by grind)];refine cI (td _) (cI (sH z8) (cI (yc 22 .u8 _ _ _ cU _) ?_));exact⟨by simp[k1,k2,k3],rfl⟩
   rintro _ Wx ⟨rfl,rfl⟩;unfold WK;intro _
   have hpoor:wO c.acct S.led.all=true->(c.kind=5\/c.kind=9\/c.kind=7\/c.kind=2)->X.1.err≠0:=by
    intro hp Y;unfold wO at hp;obtain⟨x,V,hx2⟩:=gA.1 hp;rw[cL,dN]at hx2;exact poor Y V hx2.1 hx2.2
   refine dK.at (λst W=>st=(.bool false,())/\W=Wx) ?_ ?_
   ·cases hp:wO c.acct S.led.all with
    |false=>rw[gP];exact sI
    |true=>
     rw[kx];by_cases Y:c.kind=5\/c.kind=9\/c.kind=7\/c.kind=2
     ·rw[qo Y];refine cI (ye _) (cI (tQ b8) (cI (yc 43 .i64 _ _ _ cU _) ?_));rw[ej (hpoor hp Y)];exact sI
     ·rw[cy,aZ (by grind)];exact sI
   rintro _ Wy ⟨rfl,rfl⟩;unfold UA;intro _;rw[gP];obtain⟨a4,c4,e4⟩:=u8.len 4 qZ qZ;have e4:=e4;refine cI (dZ _ 4 qZ) (cI (u8.ld 4 qZ qZ) ?_);apply jm (gI (S.cal.l.length:Int)) Wy (by rw[e4];exact lenV qU _ _ _ _);have h16:=g.cal.len
   refine eS (λst W=>∃(x:Vt_) (j:Nat),st=(x,gI j,())/\j<=S.cal.l.length/\M0 Wy W)
    (λst _=>match st.2.1 with| .int _ j=>S.cal.l.length - j.toNat|_=>0) ⟨_,0,rfl,qZ,lX⟩ ?_
   rintro⟨_,_⟩ W9 ⟨x,j,⟨⟩,hj,E⟩ KC hKC;unfold WS;intro _;have u9:=SB.md0 u8 E;have z9:=E.hpk z8 id;have b9:=E.hpk b8 id;apply cI (ltV _ _ _);by_cases m:j<S.cal.l.length
   ·rw[qo m];obtain⟨J,M,Q,f⟩:=Xw u9 (i:=j) m;refine cI (dZ _ 4 qZ) (cI (u9.ld 4 qZ qZ) (cI (Q _) ?_));refine qS1 cS ?_;refine qSv1 (pt J M) cS (cI (HT f) ?_);refine dK.at (λst W=>st=(.bool false,())/\W=W9) ?_ ?_
    ·refine cI (dZ _ 4 qZ) (cI (u9.ld 4 qZ qZ) (cI (Q _) ?_));refine qSv1 (pt J (M+25)) cS (cI (Kk f) ?_);apply cI (yc 81 .u8 _ _ _ cU _);by_cases hst:S.cal.l[j].st=2
     ·rw[qo hst];refine cI (tZ _) (cI (sD z9) (cI (yc 23 .u32 _ _ _ Tryz.underlying23 _) ?_));by_cases hnc:S.cal.l[j].spec.num=c.ct
      ·rw[qo hnc];refine cI (td _) (cI (sH z9) (cI (yc 22 .u8 _ _ _ cU _) ?_));by_cases k1:c.kind=5
       ·rw[qo k1];refine cI (ye _) (cI (tQ b9) (cI (yc 43 .i64 _ _ _ cU _) ?_));rw[ej (e (.inl k1) (cC m) hnc hst)];exact sI
       rw[cy,aZ (by grind)];refine cI (td _) (cI (sH z9) (cI (yc 22 .u8 _ _ _ cU _) ?_));by_cases k2:c.kind=9
       ·rw[qo k2];refine cI (ye _) (cI (tQ b9) (cI (yc 43 .i64 _ _ _ cU _) ?_));rw[ej (e (.inr k2) (cC m) hnc hst)];exact sI
       rw[cy,aZ (by grind)];exact sI
      ·rw[cy,aZ (by grind)];exact sI
     ·rw[cy,aZ (by grind)];exact sI
    rintro _ Wz ⟨rfl,rfl⟩;unfold J24_0;intro _;rw[gP];apply cI (addV qZ _);exact hKC _ _ ⟨_,j+1,rfl,qZ,E⟩ (by grind)
   ·rw[cy,aZ (by grind)];have q9:=(q7.md0 m8).md0 E;have hQ9:=q9;obtain⟨c',l,mb,md,A,D,fp,hr9,hF9⟩:=q9;refine mK hr9 n λtt b2 lo2 wa sa' hlo2 ma2 hb2=>?_;refine pZ sa' λp2 wb' sb' mb2 hp2=>?_;have hln:=pK n;refine CF sb' (by show X.2.oL.length<=_;omega) (by show X.2.bL.length<=_;omega) λsl wc oc mc=>?_;have oc:jo wc 76 6 sl (X.2.oL++X.2.bL).length ((X.2.oL++X.2.bL).flatMap ju):=oc;have sc' :=SB.md0 sb' mc;have Mc:=(((M7.trans m8).trans E).trans ((ma2.trans mb2).trans mc))
    have qc:=hQ9.md0 ((ma2.trans mb2).trans mc);have V:∀x∈X.2.oL++X.2.bL,∀y∈X.2.led.all,y.num=x.2.acct->y.dfl=false/\y.kil=false:=λx V y N o=>J4 n (tM V) N o;have hl9:(X.2.oL++X.2.bL).length<=4000:=by grind
    generalize X.2.oL++X.2.bL=Z at oc V hl9;obtain⟨za',zc',hz'⟩:=oc.rd.isSl;apply jm (gI (Z.length:Int)) wc (by rw[hz'];exact lenV xC _ _ _ _)
    refine eS (λst W=>∃(x:Vt_) (k:Nat),st=(x,gI k,())/\k<=Z.length/\M0 wc W)
     (λst _=>match st.2.1 with| .int _ k=>Z.length - k.toNat|_=>0) ⟨_,0,rfl,qZ,lX⟩ ?_
    rintro⟨_,_⟩ Wz ⟨x,k,⟨⟩,hkz,mz⟩ KZ hKZ;unfold Vq;intro _;apply cI (ltV _ _ _);by_cases u:k<Z.length
    ·rw[qo u];have tz:=SB.md0 sc' mz;obtain⟨a5,c5,e5⟩:=tz.len 3 qZ qZ;have e5:tt 3=.slice a5 X.2.led.all.length c5:=e5;have h64' :=n.led.led.len;refine cI (dZ _ 3 qZ) (cI (tz.ld 3 qZ qZ) ?_);apply jm (gI (X.2.led.all.length:Int)) Wz (by rw[e5];exact lenV ya _ _ _ _)
     refine eS (λst W=>∃(x:Vt_) (a:Nat),st=(x,gI a,())/\a<=X.2.led.all.length/\M0 Wz W)
      (λst _=>match st.2.1 with| .int _ a=>X.2.led.all.length - a.toNat|_=>0) ⟨_,0,rfl,qZ,lX⟩ ?_
     rintro⟨_,_⟩ Wq ⟨x,a,⟨⟩,haq,mq⟩ KQ hKQ;unfold Vl;intro _;apply cI (ltV _ _ _);by_cases q:a<X.2.led.all.length
     ·rw[qo q];refine dK.at (λst W=>st=(.bool false,())/\M0 Wz W) ?_ ?_
      ·have G:=mq.trans mP
       try dsimp only
       generalize Wq.drew=Wr at G|-;have tr:=SB.md0 tz G;obtain⟨J,M,Q,f,-⟩:=uj tr (i:=a) q;obtain⟨zb,zo,hie,hia⟩:=Rv (oc.mod (mz.trans G) eQ) u;refine dw (λ_=>dZ _ 3 qZ) (dp (tr.ld 3 qZ qZ) (dw Q ?_));refine qPv1 (pt J M) cS (dp (EO f) (dw hie ?_));refine qP1 cS ?_;refine qPv1 (pt zb (zo+1+1)) cS (dp (Cx hia) ?_);apply dw (λW=>yc 23 .u32 _ _ _ Tryz.underlying23 W);by_cases o:X.2.led.all[a].num=Z[k].2.acct
       ·rw[qo o];obtain⟨g1,g2⟩:=V _ (cC u) _ (cC q) o;refine dw (λ_=>dZ _ 3 qZ) (dp (tr.ld 3 qZ qZ) (dw Q ?_));refine qPv1 (pt J (M+3)) cS (dp (EU f) ?_);rw[g1,cy,aZ gL];refine dw (λ_=>dZ _ 3 qZ) (dp (tr.ld 3 qZ qZ) (dw Q ?_));refine qPv1 (pt J (M+2)) cS (dp (ar9 f) ?_);rw[g2];exact⟨rfl,G⟩
       ·rw[cy,aZ (by grind)];exact⟨rfl,G⟩
      rintro _ Wr ⟨rfl,mr⟩;unfold J24_0;intro _;rw[gP];apply cI (addV qZ _);exact hKQ _ _ ⟨_,a+1,rfl,qZ,mr⟩ (by grind)
     ·rw[cy,aZ (by grind)];apply cI (addV qZ _);exact hKZ _ _ ⟨_,k+1,rfl,qZ,mz.trans mq⟩ (by grind)
    ·rw[cy,aZ (by grind)];apply cI (addV qZ _);exact hKN _ Wz ⟨_,i+1,F5,X.2,rfl,qZ,qc.md0 mz,n,Mc.trans mz,N5⟩ (by grind)
 ·rw[cy,aZ (by grind)];exact kf λw3 m3=>hK _ (m2.trans m3)
end Go.Proofs
namespace Go.Proofs.YtnfloameajanhaaGreat.venueShut
open Go Go.Vc Go.Proofs Go.ChangeShapes Go.WideShapes Go.ChangeAt Go.RowKit
set_option maxRecDepth 100000 in
def lifted(os:Os)(b:os.Started)(H:Type)(enc:TypeId×Value->H):
  ReturnsInHanded {} Tryz.checked os 12 .any (Rows.venueShutSpec.pre6 enc Tryz.prog Tryz.f12 Rows.venueShutRow.domain false) (Rows.venueShutSpec.post enc Tryz.prog Tryz.f12 false true false false):=by
 refine returnsInHanded_of_change_sized (C:=Tryz.checked) own b cU Tryz.func12
  (ChangeSpec.witness6 (enc:=enc) (C:=Tryz.checked) false ⟨#[],#[.slice none 0 0],[]⟩ 8 cU cU cU cU) ?_
 intro W h a ds gs n c x z l _;have d:∀(j:Nat) t v,Tryz.f12.params[j]? =some t->a[j]? =some v->Value.okWide Tryz.prog W .any h t v:=c;have k:(DataW.weightsEach Tryz.prog (Tryz.f12.params.toList++[]) (ds++gs)).all (·<=reachBytes)=true:=l;have s:=x;obtain⟨p,q,i,J,rfl,I,F⟩:=x;have y:DataW.TrodAll enc Tryz.prog W 0 (λ_=>true) true Tryz.f12.params.toList a.toList ds p:=i;rw[Tryz.params12]at y d k;obtain⟨v0,G,E,B,N,L,r,rfl,rfl,A,D⟩:=trodAll_cons y;obtain⟨rfl,rfl,rfl⟩:=trodAll_nil D;obtain rfl:a= #[v0]:=by cases a;simp_all
 obtain⟨rfl,rfl⟩:=trodVars_none J
 have u:Wt Tryz.prog reachBytes 65 E:=by
  intro m f;have:=List.all_eq_true.1 k m (by simp only[List.append_nil,List.cons_append,List.nil_append,DataW.weightsEach,List.mem_append];first|exact f|exact .inl f);simpa using this
 obtain⟨M,o,g⟩:=open_cms (d 0 65 v0 rfl rfl) A u;clear i c;refine Calls.mono (ca_lawShut (K:=λv w=>v=.bool true/\M0 W w) o g λw f=>⟨rfl,f⟩).out ?_;rintro e O ⟨v,rfl,rfl,f⟩;exact⟨_,rfl,post_of_mod laidOut cU rfl s f cU Tryz.underlying4 rfl⟩
abbrev zRw:=Rows.venueShutRow
abbrev II:=Rows.venueShutSpec
noncomputable abbrev zVt:=Tryz.f12.params.toList++II.plain.varTypes pQ
def k0:zRw.wf (OpenSpec.ofChange II):=cU
def k1:laidOutB pQ:=cU
def k2:mapsRowed pQ:=cU
def k3:Tryz.f12.params.all (pQ.readableRec ·):=cU
def k4:namedTie pQ zRw.named II.vars:=cU
def k5:zRw.stops== []:=cU
def k6:pQ.stops== []:=cU
def k7:zRw.knobs== []:=cU
def k8:pQ.stopKnobs== []:=cU
def k9:zRw.inPlace==pQ.inPlace 12:=cU
def k10:zRw.unfollowed==pQ.unfollowed 12:=cU
def k11:zRw.recurses==pQ.recurses 12:=cU
def k12:zRw.named==pQ.varsNamed 12:=cU
def k13:zRw.maps==zVt.any (pQ.mapsRec ·):=cU
def k14:zRw.ifaces==zVt.any (pQ.ifacesRec ·):=cU
def k15:zRw.mapsOut==pQ.mapsAmong Tryz.f12.resultTypes.toList:=cU
def k16:zRw.loops==zVt.any (pQ.loopsFrom ·):=cU
def k17:zRw.wideKeys==(zVt++Tryz.f12.resultTypes.toList).any (pQ.wideKeysFrom ·):=cU
def k18:II.vars.all (pQ.varReadable ·):=cU
def k19:Tryz.f12.resultTypes.all (λt=>pQ.readableRec t&& decide (t<pQ.types.size)):=cU
def k20:zRw.ifacesOut==Tryz.f12.resultTypes.toList.any (pQ.ifacesRec ·):=cU
def k21:zRw.loopsOut==Tryz.f12.resultTypes.toList.any (pQ.loopsFrom ·):=cU
def k22:zRw.plainKeys==pQ.plainKeys:=cU
def k23:zRw.shortTexts.isNone:=cU
def k24:pQ.stopsHeard:=cU
def k25:pQ.mayEnter:=cU
def k26:zRw.lifted==pQ.liftsFinal:=cU
def k27:pQ.make==some zRw.make:=cU
def k28:zRw.kinds==(if zRw.domain.isEmpty then []else Tryz.f12.params.toList.map λt=>match pQ.underlying t with|some (.int k)=>some k|_=>none):=cU
def k29:zRw.pinned==zRw.pinnedBy:=cU
def k30:zRw.veiled==(zVt++Tryz.f12.resultTypes.toList).any (pQ.veiledRec ·):=cU
def k31:zRw.veiledFits pQ Tryz.f12.params.toList (zVt++Tryz.f12.resultTypes.toList):=cU
set_option maxRecDepth 100000 in
def closed:joinedFacts Tryz.prog 12 Tryz.f12 Rows.venueShutSpec Rows.venueShutRow=true:=by
 unfold joinedFacts;simp only[Bool.and_eq_true];exact⟨⟨⟨⟨⟨⟨⟨⟨⟨⟨⟨⟨⟨⟨⟨⟨⟨⟨⟨⟨⟨⟨⟨⟨⟨⟨⟨⟨⟨⟨⟨k0,k1⟩,k2⟩,k3⟩,k4⟩,k5⟩,k6⟩,k7⟩,k8⟩,k9⟩,k10⟩,k11⟩,k12⟩,k13⟩,k14⟩,k15⟩,k16⟩,k17⟩,k18⟩,k19⟩,k20⟩,k21⟩,k22⟩,k23⟩,k24⟩,k25⟩,k26⟩,k27⟩,k28⟩,k29⟩,k30⟩,k31⟩
theorem holds:Rows.VenueShutSaid:=
 OpenClaim.holds_of_wide 12 Tryz.f12 rfl rfl rfl rfl rfl rfl rfl ⟨rfl,rfl,rfl,rfl,rfl⟩ rfl rfl rfl rfl rfl cU Tryz.func12 closed
  (of_decide_eq_true cU) (by unfold Func.isWrapper;first|(rw[if_pos (by decide+kernel)];kernel_rfl)|(rw[if_neg (by decide+kernel)];exact⟨rfl,rfl⟩))
  (λos a H b _=>lifted os a H b)
end Go.Proofs.YtnfloameajanhaaGreat.venueShut
