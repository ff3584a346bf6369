/- The statement VenueKill: for every input the law returns true; arguments stay. Conditions: none. -/
import Derived.Test.YtnfloameajanhaaGreatZ8
set_option linter.all false
namespace Go.Vc
open Go Go.ChangeShapes Go.WideShapes Go.ChangeAt Go.RowKit
section
variable{H:Type}{enc:TypeId×Value->H}{P:Program}{w:World}{base:Nat}{spare:Nat->Bool}{held:Bool}
def ff{e:TypeId}:∀{l:List (DataW H)} {d:DataW H},d∈l->∀m∈d.weights P e,m∈DataW.weightsAll P e l
 |a::l,d,b,m,c=>by
  simp only[DataW.weightsAll,dg];rcases cH.1 b with rfl|b
  ·exact .inl c
  ·exact .inr (ff b m c)
def Wt.slice{t e:TypeId}{B:Nat}{l r:List (DataW H)}(c:P.underlying t=some (.slice e))(h:Wt P B t (.slice l r)):(l.length+r.length)*P.bytesOf e<=B/\∀d∈l,Wt P B e d:=by
 unfold Wt at h;simp only[DataW.weights,c,cH,dg]at h;exact⟨h _ (.inl rfl),λd a m b=>h m (.inr (.inl (ff a m b)))⟩
def nJ{t e:TypeId}{sz:Nat}{o:Nat}{cs:List Value}{x:DataW H×List MemPlace}(I:P.underlying t=some (.slice e))(hc:P.cellsOf e=sz)(E:0<sz)
  {B:Nat}(O:DataW.trod enc P w base spare held o t cs=some x)(hB:Wt P B t x.1):
  ∃v,cs=[v]/\∃L:List (List Value),Rd w sz v L.length L.flatten/\L.length*P.bytesOf e<=B/\∀c∈L,c.length=sz/\∃X y,DataW.trod enc P w base spare held X e c=some y/\Wt P B e y.1:=by
 rcases DataW.trod_slice I O with⟨rfl,-⟩|⟨a,len,Q,A,rest,n,hf,rfl,rfl,hb,V,hm,N,C,Z,T⟩
 ·exact⟨_,rfl,[],⟨by simp,.inl ⟨rfl,_,_,rfl⟩⟩,by simp,by simp⟩
 ·obtain⟨z,F⟩:=hB.slice I
  have m:∀i,i<len->∃c,w.cells? base (a.add (i*sz)) sz=some c/\∃y,DataW.trod enc P w base spare held n e c=some y/\Wt P B e y.1:=by
   intro i b;have j:=C i b;rw[cE (by omega),hc,Option.bind_eq_some_iff]at j;obtain⟨c,g,r⟩:=j;exact⟨c,g,_,r,F _ (cF.2 ⟨_,cC _,rfl⟩)⟩
  have R:∀k,k<=len->∃L:List (List Value),L.length=k/\∀i (b:i<L.length),w.cells? base (a.add (i*sz)) sz=some L[i]/\∃y,DataW.trod enc P w base spare held n e L[i]=some y/\Wt P B e y.1:=by
   intro k;induction k with
   |zero=>exact λ_=>⟨[],rfl,λi b=>by simp at b⟩
   |succ k p=>
    intro hk;obtain⟨L,j,g⟩:=p (by omega);obtain⟨c,r,J⟩:=m k (by omega);refine⟨L++[c],by simp[j],λi b=>?_⟩;by_cases S:i<L.length
    ·grind
    ·grind
  obtain⟨L,j,g⟩:=R len (cJ _)
  have d:∀c∈L,c.length=sz:=by
   intro c f;obtain⟨i,b,rfl⟩:=cX f;exact(World.cells?_some (g i b).1).2.1
  have W:∀(M:List (List Value)),(∀c∈M,c.length=sz)->M.flatten.length=M.length*sz:=by
   intro M;induction M with
   |nil=>intro _;simp
   |cons c M p=>
    intro l;rw[List.flatten_cons,cD,p λc h=>l c (cu _ h),l c cw,dc,je,jf]
  have q:∀(M:List (List Value)),(∀c∈M,c.length=sz)->∀i v,M.flatten[i]? =some v->∃h:i / sz<M.length,M[i / sz][i%sz]? =some v:=by
   intro M;induction M with
   |nil=>intro _ i v h;simp at h
   |cons c M p=>
    intro l i v h;have G:=l c cw;rw[List.flatten_cons]at h;by_cases b:i<sz
    ·rw[dC (by omega)]at h;rw[Nat.div_eq_of_lt b,iM b];exact⟨by simp,by simpa using h⟩
    ·rw[cQ (by omega),G]at h;obtain⟨j,g⟩:=p (λc h=>l c (cu _ h)) (i - sz) v h
     have s:i / sz=(i - sz) / sz+1:=by
      rw[Nat.div_eq_sub_div E (by omega)]
     have D:i%sz=(i - sz)%sz:=by
      rw[Nat.mod_eq_sub_mod (by omega)]
     refine⟨by grind,?_⟩;simp only[s,D,fA];exact g
  refine⟨_,rfl,L,?_,dD (dM _ (by simp;omega)) z,λc f=>⟨d c f,?_⟩⟩
  ·rw[j];refine mJ V (by grind) (λi v b=>?_) E;obtain⟨r,J⟩:=q L d i v b;obtain⟨h5,Y⟩:=World.cells?_some (g _ r).1 |>.2
   have u:=gR i E;have K:=Y (i%sz) u
   have e:((a.add (i / sz*sz)).add (i%sz))=a.add i:=by
    have U:i / sz*sz+i%sz=i:=by rw[fe];exact ie i sz
    conv=>rhs;rw[<-U]
    simp only[Addr.add];by_cases s:i / sz*sz=0
    ·simp[s]
    ·by_cases D:i%sz=0
     ·simp[D,s]
     ·grind
   rw[e]at K;rw[K];exact J
  ·obtain⟨i,b,rfl⟩:=cX f;exact⟨n,(g i b).2⟩
end
end Go.Vc
namespace Go.Proofs
open Go Go.Vc
def sL(l:List Sd)(a:Ac):(setAc l a).num=a.num/\(setAc l a).kil=a.kil:=by unfold setAc;split<;>exact⟨rfl,rfl⟩
end Go.Proofs
namespace Go.Proofs
open Go Go.Vc
variable {L:Led}{S:Ven}
def jj(S:Ven)(n:Int)(o:Od)(p:Pm):(S.traded n o p).2.1.err=0:=by
 unfold Ven.traded;simp only;split<;>rfl
def mM(S:Ven)(c:Cm):(S.place c).2.1.err=0:=by
 unfold Ven.place;simp only;split
 ·rfl
 ·split
  ·rfl
  ·exact jj _ _ _ _
def qx(S:Ven)(c:Cm):(S.bid c).2.1.err=0:=by
 unfold Ven.bid;simp only;split
 ·rfl
 ·split<;>rfl
def lK(S:Ven)(c:Cm):(S.cancel c).2.1.err=0:=by
 unfold Ven.cancel;split
 ·rfl
 ·split<;>rfl
def kR(S:Ven)(c:Cm):(S.replace c).2.1.err=0:=by
 unfold Ven.replace;split
 ·rfl
 ·simp only;split
  ·rfl
  ·split
   ·rfl
   ·exact jj _ _ _ _
def fM:∀(l:List Sd) (r:Rp) (S:Ven),r.err=0->(payL l r S).2.1.err=0
 | [],r,S,h=>h
 |s::l,r,S,h=>by
  unfold payL;simp only;cases s.dfl with
  |true=>
   simp only[fh];split
   ·exact h
   ·exact fM l _ _ h
  |false=>
   simp only[dE,eW];split
   ·exact h
   ·exact fM l _ _ h
def gX(S:Ven)(won:Int->Int):(S.pay won).2.1.err=0:=by
 unfold Ven.pay;simp only;split
 ·rfl
 ·split
  ·exact fM _ _ _ rfl
  ·exact fM _ _ _ rfl
def jM(S:Ven):S.settle.2.1.err=0:=by
 unfold Ven.settle;simp only;split
 ·rfl
 ·split
  ·rfl
  ·split
   ·exact gX _ _
   ·exact gX _ _
def expire_err(S:Ven)(n:Int):(S.expire n).2.1.err=0:=by
 unfold Ven.expire;simp only;split
 ·rfl
 ·split
  ·rfl
  ·split
   ·exact gX _ _
   ·exact gX _ _
def eh{n a:Int}{long:Bool}{price:Int}:∀(l:List Fl) (left:Int) (r:Rp) (S:Ven),r.err=0->(fillsL n a long price l left r S).2.2.1.err=0
 | [],left,r,S,h=>h
 |f::l,left,r,S,h=>by
  unfold fillsL;simp only;split
  ·exact h
  ·exact eh l _ _ _ h
def gO{n a:Int}{long:Bool}{price:Int}:∀(l:List Hd) (r:Rp) (S:Ven),r.err=0->(partsL n a long price l r S).2.1.err=0
 | [],r,S,h=>h
 |x::l,r,S,h=>by
  unfold partsL;simp only;split
  ·exact h
  ·exact gO l _ _ h
def kX(S:Ven)(k:Ct)(a q:Int){r:Rp}(h:r.err=0):(S.sell k a q r).2.1.err=0:=by
 unfold Ven.sell;simp only;split
 ·exact h
 ·split
  ·exact eh _ _ _ _ h
  ·split
   ·exact eh _ _ _ _ h
   ·split
    ·split
     ·exact eh _ _ _ _ h
     ·exact gO _ _ _ (eh _ _ _ _ h)
    ·split
     ·exact eh _ _ _ _ h
     ·exact gO _ _ _ (eh _ _ _ _ h)
def iu{a:Int}:∀(l:List Ct) (r:Rp) (S:Ven),r.err=0->(sellL a l r S).2.1.err=0
 | [],r,S,h=>h
 |k::l,r,S,h=>by
  unfold sellL;simp only;split
  ·exact iu l r S h
  ·split
   ·exact kX _ _ _ _ h
   ·exact iu l _ _ (kX _ _ _ _ h)
def qr(S:Ven)(a:Ac):(S.liquidate a).2.1.err=0:=by
 unfold Ven.liquidate;split
 ·rfl
 ·exact iu _ _ _ rfl
def oE(S:Ven)(c:Cm):(S.done c).2.1.err=0:=by
 unfold Ven.done;by_cases k1:c.kind=1
 ·rw[bZ k1];rfl
 rw[aZ k1];by_cases k2:c.kind=2
 ·rw[bZ k2];rfl
 rw[aZ k2];by_cases k3:c.kind=3
 ·rw[bZ k3];rfl
 rw[aZ k3];by_cases k4:c.kind=4
 ·rw[bZ k4];rfl
 rw[aZ k4];by_cases k11:c.kind=11
 ·rw[bZ k11];rfl
 rw[aZ k11];by_cases k12:c.kind=12
 ·rw[bZ k12];exact jM S
 rw[aZ k12];by_cases k14:c.kind=14
 ·rw[bZ k14];exact expire_err S _
 rw[aZ k14];by_cases a:c.acct=0
 ·rw[bZ a];rfl
 rw[aZ a];by_cases k6:c.kind=6
 ·rw[bZ k6];exact lK S c
 rw[aZ k6];by_cases k7:c.kind=7
 ·rw[bZ k7];exact kR S c
 rw[aZ k7];by_cases b:S.led.getO c.acct=none
 ·rw[bZ b];rfl
 rw[aZ b];by_cases k5:c.kind=5
 ·rw[bZ k5];exact mM S c
 rw[aZ k5];by_cases k9:c.kind=9
 ·rw[bZ k9];exact qx S c
 rw[aZ k9];by_cases k8:c.kind=8
 ·rw[bZ k8];split<;>rfl
 rw[aZ k8];by_cases k10:c.kind=10
 ·rw[bZ k10];simp only;split<;>rfl
 rw[aZ k10];by_cases k13:c.kind=13
 ·rw[bZ k13];exact qr S _
 rw[aZ k13];rfl
def apply_cases(S:Ven)(c:Cm):((S.apply c).1.err≠0/\S.apply c=(failR (S.apply c).1.err,S))\/((S.apply c).1.err=0/\c.may=true/\(S.done c).1=0/\S.apply c=(S.done c).2):=by
 unfold Ven.apply;by_cases b:c.may=false
 ·rw[bZ b];exact .inl ⟨by show(160:Int)≠0;omega,rfl⟩
 rw[aZ b];simp only;by_cases a:(S.done c).1≠0
 ·rw[bZ a];exact .inl ⟨a,rfl⟩
 ·rw[aZ a];exact .inr ⟨oE S c,by simpa using b,by simpa using a,rfl⟩
def NB{f:Ac->Ac}(b:∀a,(f a).num=a.num)(l:List Ac)(n:Int):(l.map f).find? (λx=>decide (x.num=n))=(l.find? λx=>decide (x.num=n)).map f:=by
 induction l with
 |nil=>rfl
 |cons a l c=>
  rw[cM,jL,jL,b];split
  ·rfl
  ·exact c
def Led.Killed(L:Led)(n:Int):Prop:=∃x,L.find n=some x/\x.kil=true
def wN{a:Led}(h:a.all=L.all){n:Int}:a.Killed n↔L.Killed n:=by unfold Led.Killed Led.find;rw[h]
def Di{b:Led}{f:Ac->Ac}(d:∀a,(f a).num=a.num/\(f a).kil=a.kil)(h:b.all=L.all.map f){n:Int}(e:L.Killed n):b.Killed n:=by
 obtain⟨x,c,g⟩:=e;refine⟨f x,?_,by grind⟩;unfold Led.find at c|-;rw[h,NB λa=>(d a).1,c];rfl
def xB(h:L.Ok){a:Ac}{n:Int}(d:L.Killed n)(f:a.num=n->a.kil=true):(L.putA a).Killed n:=by
 obtain⟨x,e,b⟩:=d;by_cases c:a.num=0
 ·exact⟨x,by rw[Led.find_putA0 c];exact e,b⟩
 ·unfold Led.Killed;rw[Led.find_putA h.sa c];by_cases g:n=a.num
  ·grind
  ·grind
def JX(h:L.Ok){a:Ac}{n:Int}(c:L.Killed n)(d:a.num=n->a.kil=true):(L.set a).2.Killed n:=by
 rcases Led.set_cases L a with⟨b,-⟩|⟨b,-⟩
 ·rw[b];exact c
 ·rw[b];exact xB h c d
def Gy(h:L.Ok){n:Int}(c:L.Killed n):∃x,L.getO n=some x/\x.kil=true/\n≠0:=by
 obtain⟨x,b,a⟩:=c;have:=(Led.find_ok h b).2.2;exact⟨x,by rw[jV this];exact b,a,this⟩
def gN(accts:List Int)(L:Led)(a:Ac):Ac:=if a.dfl=true/\(L.ofA a.num).isEmpty=true/\accts.contains a.num=false then {a with dfl:=false}else a
def rD(accts:List Int)(L:Led)(a:Ac):(gN accts L a).num=a.num/\(gN accts L a).kil=a.kil/\(gN accts L a).cash=a.cash:=by unfold gN;split<;>exact⟨rfl,rfl,rfl⟩
def nu{accts:List Int}:∀(l:List Ac) (e:Int) (L:Led),L.Ok->(∀a∈l,L.find a.num=some a)->(l.map (·.num)).Nodup->
  (freeL accts l e L).2.all=L.all.map (λa=>if l.any (λb=>decide (b.num=a.num))then gN accts L a else a)/\(freeL accts l e L).2.held=L.held/\(freeL accts l e L).2.fund=L.fund/\(e=0->(freeL accts l e L).1=0)
 | [],e,L,h,_,_=>⟨by
   have:L.all.map (λa=>if([]:List Ac).any (λb=>decide (b.num=a.num))then gN accts L a else a)=L.all.map id:=dt λa _=>rfl;rw[this,iP];rfl,rfl,rfl,λh=>h⟩
 |a::l,e,L,h,B,J=>by
  obtain⟨w,o⟩:=dA.1 J;have i:=B a cw;obtain⟨n,-,g⟩:=Led.find_ok h i;have s:=h.acc a n;have K:∀x∈l,x.num≠a.num:=λx p M=>w (by grind);unfold freeL;by_cases r:a.dfl=true/\(L.ofA a.num).isEmpty=true/\accts.contains a.num=false
  ·rw[bZ r];obtain⟨b,A⟩:=dW ({a with dfl:=false}:Ac);rw[<-A];have d:b.num=a.num:=by rw[A]
   have k:L.set b=(0,L.putA b):=by
    rcases Led.set_cases L b with⟨-,H⟩|⟨I,-⟩
    ·refine absurd ?_ H;unfold Led.set;rw[aZ,aZ]
     ·rw[d,jV g,i];simp
     ·rw[d];have:amongB b.cash 0 MF=true:=amongB_iff.2 (by grind);rw[this];simp[g]
    ·exact I
   rw[k];simp only
   have q:(L.putA b).all=L.all.map λy=>if y.num=b.num then b else y:=by
    unfold Led.putA;rw[aZ (by rw[d];exact g)];exact uO h.sa ⟨a,n,d.symm⟩
   have f:(L.putA b).held=L.held:=Led.putA_held _ _
   have t:(L.putA b).Ok:=by
    have:=Led.set_Ok h (a:=b) (by grind)
    rwa[k]at this
   obtain⟨F,v,D,E⟩:=nu l 0 (L.putA b) t (λx p=>by
    rw[Led.find_putA h.sa (by rw[d];exact g),aZ (by grind)];exact B x (cu _ p)) o
   refine⟨?_,v.trans f,D.trans ?_,λ_=>E rfl⟩
   ·rw[F,q,dQ];refine dt λy C=>?_
    have G:∀z,gN accts (L.putA b) z=gN accts L z:=λz=>by
     unfold gN Led.ofA;rw[f]
    show(if l.any (λc=>decide (c.num=(if y.num=b.num then b else y).num))then gN accts (L.putA b) (if y.num=b.num then b else y)else(if y.num=b.num then b else y))=_;by_cases j:y.num=b.num
    ·have m:y=a:=by
      have:=Led.mem_find h C;rw[j,d,i]at this;exact(dB this).symm
     rw[bZ j]
     have u:l.any (λc=>decide (c.num=b.num))=false:=by
      rw[nH];exact λx p=>by grind
     rw[u,m,kQ];simp only[qb,Bool.true_or,fh];unfold gN;rw[bZ r,A];simp
    ·grind
   ·unfold Led.putA;rw[aZ (by rw[d];exact g)]
  ·rw[aZ r];obtain⟨F,v,D,E⟩:=nu l e L h (λx p=>B x (cu _ p)) o;refine⟨?_,v,D,E⟩;rw[F];refine dt λy C=>?_;rw[kQ];by_cases j:a.num=y.num
   ·have m:y=a:=by
     have:=Led.mem_find h C;rw[<-j,i]at this;exact(dB this).symm
    rw[m];have:gN accts L a=a:=by unfold gN;rw[aZ r]
    simp[this]
   ·grind
def oH{accts:List Int}(h:L.Ok):(freeL accts L.all 0 L).2.all=L.all.map (gN accts L)/\(freeL accts L.all 0 L).1=0:=by
 obtain⟨d,-,-,c⟩:=nu (accts:=accts) L.all 0 L h (λa b=>Led.mem_find h b) h.sa.nodup;refine⟨?_,c rfl⟩;rw[d];refine dt λa b=>?_;rw[bZ (gA.2 ⟨a,b,by simp⟩)]
def Dh(d:Cb S.cal S.led)(c:vg S){won:Int->Int}(h:(S.pay won).1=0){n:Int}(b:S.led.Killed n):(S.pay won).2.2.led.Killed n:=by
 obtain⟨hp,-⟩:=vA d c h;exact Di (λa=>sL _ a) hp.all b
def Hp(h:S.Ok){c:Cm}(R:c.Fit)(d:(S.done c).1=0){n:Int}(b:S.led.Killed n)(B:¬(c.kind=10/\c.acct=n)):(S.done c).2.2.led.Killed n:=by
 have j:=h.led.led
 have D:∀(m:Int) (o:Od) (l:List Td) (L:Led),(tradeL m o l L).2.all=L.all:=by
  intro m o l;induction l with
  |nil=>intro L;rfl
  |cons t l O=>
   intro L;unfold tradeL;simp only;generalize(if o.buy=true then o.acct else t.acct)=Q;generalize(if o.buy=true then t.acct else o.acct)=P;split
   ·exact Led.trade_all.1
   ·rw[O];exact Led.trade_all.1
 have s:∀(T:Ven) (m:Int) (o:Od) (p:Pm),T.led=S.led->(T.traded m o p).2.2.led.Killed n:=λT m o p E=>by
  rw[qg];show(tradeL m o p.trades T.led).2.Killed n;rw[wN (D _ _ _ _),E];exact b
 unfold Ven.done at d|-;by_cases k1:c.kind=1
 ·rw[bZ k1];show(S.led.deposit c.acct c.amt).2.Killed n;rcases Led.deposit_cases (S:=S.led) (n:=c.acct) (m:=c.amt)with⟨i,-⟩|⟨a,i,C,z,-⟩
  ·rw[i];exact b
  ·rw[i];refine xB j b λw=>?_;obtain⟨x,H,u,N⟩:=Gy j b;have:c.acct=n:=C.symm.trans w;rw[this,H]at z;rw[z];exact u
 rw[aZ k1]at d|-;by_cases k2:c.kind=2
 ·rw[bZ k2];show(S.led.withdraw c.acct c.amt).2.Killed n;rcases Led.withdraw_cases (S:=S.led) (n:=c.acct) (m:=c.amt)with⟨i,-⟩|⟨a,i,C,-⟩
  ·rw[i];exact b
  ·rw[C];refine xB j b λw=>?_;obtain⟨x,H,u⟩:=b;have z:=(Led.find_ok j i).2.1;have:c.acct=n:=z.symm.trans w;rw[this,H]at i;rw[<-dB i];exact u
 rw[aZ k2]at d|-;by_cases k3:c.kind=3
 ·grind
 rw[aZ k3]at d|-;by_cases k4:c.kind=4
 ·grind
 rw[aZ k4]at d|-;by_cases k11:c.kind=11
 ·grind
 rw[aZ k11]at d|-;by_cases k12:c.kind=12
 ·rw[bZ k12]at d|-;have r:=wj d;have A:=nC h;have G:({S with cal:=(eD S.cal).2,led:=(markL (eD S.cal).2.l S.led noWon).2.1}:Ven).led.Killed n:=(wN (qS h.day.cal (eD S.cal).2.l S.led noWon h.day.led).2.1.1).2 b;have hpk:=Dh A.led A.ord r.pay G;obtain⟨hp,-⟩:=vA A.led A.ord r.pay;rw[r.fin];exact Di (λa=>⟨(rD _ _ a).1,(rD _ _ a).2.1⟩) (oH hp.led.led).1 hpk
 rw[aZ k12]at d|-;by_cases k14:c.kind=14
 ·rw[bZ k14]at d|-;have r:=uw h.cal d;have g:(S.led.mark c.ct (iU S.cal.l c.ct).1.price true).2.2.all=S.led.all/\(S.led.mark c.ct (iU S.cal.l c.ct).1.price true).2.2.fund=S.led.fund:=Led.mark_all
  have v:({S with led:=(S.led.mark c.ct (iU S.cal.l c.ct).1.price true).2.2}:Ven).Ok:=h.setLed (Led.mark_Ok j) (sX j h.led.zero _ _ _) (λk o _ M=>(sQ g.1 _).2 M) (λp hp=>by
   obtain⟨q,K,F⟩:=rI hp;rw[<-F];exact h.led.held q K) (by rw[Led.funds_of g];exact h.fnd)
  rw[r.fin];exact Dh v.led v.ord r.pay ((wN g.1).2 b)
 rw[aZ k14]at d|-;by_cases r:c.acct=0
 ·grind
 rw[aZ r]at d|-;by_cases k6:c.kind=6
 ·rw[bZ k6];unfold Ven.cancel;split
  ·exact b
  ·split<;>exact b
 rw[aZ k6]at d|-;by_cases k7:c.kind=7
 ·rw[bZ k7];unfold Ven.replace;split
  ·exact b
  ·simp only;split
   ·exact b
   ·split
    ·exact b
    ·exact s _ _ _ _ rfl
 rw[aZ k7]at d|-;by_cases I:S.led.getO c.acct=none
 ·grind
 rw[aZ I]at d|-;have f:(S.order c).2.2.led=S.led:=by unfold Ven.order;simp only;split;rfl;split<;>rfl
 by_cases k5:c.kind=5
 ·rw[bZ k5];unfold Ven.place;simp only;split
  ·rw[f];exact b
  ·split
   ·grind
   ·exact s _ _ _ _ f
 rw[aZ k5]at d|-;by_cases k9:c.kind=9
 ·rw[bZ k9];unfold Ven.bid;simp only;split
  ·rw[f];exact b
  ·split
   ·rw[f];exact b
   ·grind
 rw[aZ k9]at d|-;by_cases k8:c.kind=8
 ·rw[bZ k8];split
  ·exact b
  ·show(S.clear c.acct c.ct).2.led.Killed n;rw[clear_led];exact b
 rw[aZ k8]at d|-;by_cases k10:c.kind=10
 ·rw[bZ k10];simp only;obtain⟨y,J⟩:=Ae j I
  have e:∀T:Ven,T.led=S.led->(T.led.set {S.acc c.acct with kil:=c.on}).2.Killed n:=λT E=>by
   rw[E];refine JX j b λw=>?_;exact absurd ⟨k10,y.symm.trans w⟩ B
  apply e _;split
  ·exact clear_led _ _
  ·rfl
 rw[aZ k10]at d|-;by_cases k13:c.kind=13
 ·rw[bZ k13,wN (Fk h _).2.1];exact b
 rw[aZ k13];exact b
def Fm(h:S.Ok){c:Cm}(f:c.Fit){n:Int}(b:S.led.Killed n)(a:¬(c.kind=10/\c.acct=n)):(S.apply c).2.led.Killed n:=by
 rcases apply_cases S c with⟨-,e⟩|⟨-,-,d,e⟩
 ·rw[e];exact b
 ·rw[e];exact Hp h f d b a
def HB(h:S.Ok){n:Int}(d:S.led.Killed n){m:Int}{o:Od}(e:o∈S.ords m):o.acct≠n:=λf=>by
 obtain⟨x,c,a,-⟩:=(h.ord.std m o e).acc;obtain⟨y,g,b⟩:=d;rw[f,g]at c;cases c;rw[b]at a;cases a
def IA(h:S.Ok){c:Cm}(j:c.kind=10)(d:c.on=true)(l:(S.apply c).1.err=0):(S.apply c).2.led.Killed c.acct:=by
 rcases apply_cases S c with⟨m,e⟩|⟨-,-,a,e⟩
 ·exact absurd l m
 ·rw[e];have i:=h.led.led;unfold Ven.done at a|-;simp only[j]at a|-;simp only[show¬(10:Int)=1 by omega,show¬(10:Int)=2 by omega,show¬(10:Int)=3 by omega,show¬(10:Int)=4 by omega,show¬(10:Int)=11 by omega,show¬(10:Int)=12 by omega,show¬(10:Int)=14 by omega,show¬(10:Int)=6 by omega,show¬(10:Int)=7 by omega,show¬(10:Int)=5 by omega,show¬(10:Int)=9 by omega,show¬(10:Int)=8 by omega,eW,fh]at a|-;by_cases k:c.acct=0
  ·grind
  rw[aZ k]at a|-;by_cases f:S.led.getO c.acct=none
  ·grind
  rw[aZ f]at a|-;obtain⟨b,g⟩:=Ae i f;rw[d]at a|-;simp only[fh]at a|-;rw[clear_led]at a|-;have:=Led.set_ok1 a;rw[this];refine⟨{S.acc c.acct with kil:=true},?_,rfl⟩;rw[Led.find_putA i.sa (by grind),bZ b.symm]
end Go.Proofs
set_option maxRecDepth 100000
namespace Go.Proofs
open Go Go.Vc
section
variable{a b c:Vt_}{W:Wt_}{Z:cG}
def ar7(a b c:Vt_)(d:cG)(e:T2)(f:T2->Wp)(g:T2)(h:Wt_)(i:T2->Wp):=gc g.2.1 a h λj k=>cV j (gi 59 b g.2.1 k λl m=>gf 76 l 1 m λn o=>dz 74 n 1 23 o λp q=>gb .eql 23 false p c q λr s=>cV r (d bF s) (g1 g.2.1 s λt u=>i (g.1,t,()) u)) (g1 e.2.1 k λv w=>f (g.1,v,()) w)
def an4(a:T2)(b:T2->Wp)(c d e:Vt_)(f:cG)(g:T1)(h:Wt_):=NV->cV g.1 (g1 a.2.1 h λi j=>b (a.1,i,()) j) (gi 65 c a.2.1 h λk l=>gx (fH 30 k) l λm n=>Ca pQ 18 #[d,m] n λo p=>Ca pQ 20 #[d] p λq r=>gv 61 q r λs t=>kg 61 s 6 λu=>eP 59 u t.drew λv=>kg 61 s 7 λw=>eP 59 w t.drew λx=>gx (jQ 59 0 []) t.drew λy z=>gk 59 w x z/\gk 59 u v z/\(gx (eg #[59,59] 59 [y,v]) z λA B=>gk 59 w x B/\(gx (eg #[59,59] 59 [A,x]) B λC D=>gn 59 false C D λE F=>qB (ar7 E C e f a b) (a.1,(gI 0),()) F)))
def ag4(a b c d:Vt_)(e:cG)(f:T2)(g:Wt_)(h:T2->Wp):=gc f.2.1 a g λi j=>cV i (jW (λk=>gi 65 b f.2.1 j λl m=>dz 30 l 0 22 m λn o=>gC n 10 o λp q=>cV p (gi 65 b f.2.1 q λr s=>dz 30 r 1 23 s λt u=>gb .eql 23 false t c u λv w=>k (v,()) w) (k (bF,()) q)) (an4 f h b d c e)) (Ca pQ 13 #[] j e)
def aq0(a b c d:Vt_)(e:cG)(f:Vt_)(g:T1)(h:Wt_)(i:T1->Wp):=gc g.1 a h λj k=>cV j (gi 65 b g.1 k λl m=>gx (fH 30 l) m λn o=>Ca pQ 18 #[c,n] o λp q=>g1 g.1 q λr s=>i (r,()) s) (gx (rB 30 #[(0,(gB 10)),(1,d),(6,bT)]) k λt u=>Ca pQ 18 #[c,t] u λv w=>gr (Instr.field 52 v 0) w λx y=>gE x y λz A=>cV z (Ca pQ 13 #[] A e) (gn 65 false f A λB C=>qB (ag4 B f d c e) (bF,(gI 0),()) C))
def ZF(a:Vt_)(b:cG)(c d e:Vt_)(f:T1)(g:Wt_):=NV->cV f.1 (gb .neq 39 true a (.pointer none) g λh i=>cV h (Ca pQ 13 #[] i b) (b bF i)) (gn 65 false c g λj k=>qA (aq0 j c a d b e) ((gI 0),()) k)
def ca8(q:Ca pQ 22 #[] W λd e=>jW (λf=>gb .eql 39 true d (.pointer none) e λg h=>cV g (f (bT,()) h) (gn 65 false a h λi j=>gb .gtr 3 true i (gI 80) j λk l=>cV k (f (bT,()) l) (gn 65 false b l λm n=>gb .gtr 3 true m (gI 40) n λo p=>f (o,()) p))) (ZF d Z a c b)):Ca pQ 8 #[a,b,c] W Z:=cj Tryz.func8 q
end
end Go.Proofs
namespace Go.Proofs
open Go Go.Vc
attribute [local congr] cR
section
variable{w:Wt_}{b lo:Nat}{d nx fu:Int}{ss:Nat->Value}{A:List Ac}{C:List Ct}{P:List Po}{O B:List (Int×Od)}
def SB.md0{w' :Wt_}(h:SB w b d nx fu ss A C P O B lo)(a:M0 w w'):SB w' b d nx fu ss A C P O B lo:=SB.modX h a eQ
end
def XH{w:Wt_}{b off:Nat}{c:Cm}(h:At w b off (cmC c)):(iL 22 (pt b off)).run pQ w=.ok (gB c.kind) w:=by
 have:=h.cell 0 (gB c.kind) rfl;obtain⟨C,e,fz,g,f⟩:=h.get;have a:=f 0 _ rfl;rw[dS]at a;simp[go_sem,g,a]
end Go.Proofs
namespace Go.Proofs.YtnfloameajanhaaGreat
open Go Go.Vc Go.Proofs Go.ChangeShapes Go.WideShapes Go.ChangeAt Go.RowKit
set_option maxRecDepth 100000 in
def open_cms{H:Type}{enc:TypeId×Value->H}{w:World}{v0:Value}{j:DataW H}{q:List MemPlace}{d:Nat}(a:Value.okWide Tryz.prog w .any d 65 v0)(g:∃b,DataW.trod enc Tryz.prog w 0 (λ_=>true) true b 65 v0.cells.toList=some (j,q))
  (r:Wt Tryz.prog reachBytes 65 j):∃l:List Cm,Rd w 35 v0 l.length (l.flatMap cmC)/\∀x∈l,x.Fit:=by
 have h:v0.cells.toList=[v0]:=by
  unfold Value.okWide at a;rw[Tryz.underlying65]at a;simp only[Cell.okWide,Tryz.underlying65]at a;unfold Cell.ok at a;rw[Tryz.underlying65]at a;cases v0<;>first|rfl|exact a.elim
 obtain⟨b,g⟩:=g;rw[h]at g;obtain⟨v,e,L,k,-,o⟩:=nJ (sz:=35) Tryz.underlying65 cU qZ g r;cases e
 obtain⟨l,rfl,i⟩:=list_choose (f:=cmC) (Q:=Cm.Fit) λc s=>by
  obtain⟨n,t,y,m,p⟩:=o c s;exact open_cm n m p
 rw[List.length_map,<-List.flatMap_def]at k;exact⟨l,k,i⟩
end Go.Proofs.YtnfloameajanhaaGreat
namespace Go.Proofs
open Go Go.Vc
attribute [local congr] cR
variable {a:Int}{x:Int×Od}{b:Nat}{S:Ven}{w:Wt_}
def Ven.oL(S:Ven):List (Int×Od):=S.nums.flatMap λn=>(S.bk n).all.map λo=>(n,o)
def Ven.bL(S:Ven):List (Int×Od):=S.nums.flatMap λn=>(S.bd n).map λo=>(n,o)
def yT(h:x∈S.oL):x.1∈S.nums/\x.2∈(S.bk x.1).all:=by
 obtain⟨n,b,h⟩:=List.mem_flatMap.1 h;obtain⟨o,a,rfl⟩:=cF.1 h;exact⟨b,a⟩
def yD(h:x∈S.bL):x.1∈S.nums/\x.2∈S.bd x.1:=by
 obtain⟨n,b,h⟩:=List.mem_flatMap.1 h;obtain⟨o,a,rfl⟩:=cF.1 h;exact⟨b,a⟩
def tM(h:x∈S.oL++S.bL):x.2∈S.ords x.1:=by
 rcases dg.1 h with h|h
 ·exact fk _ (yT h).2
 ·exact gg _ (yD h).2
def pK(h:S.Ok):S.oL.length<=3200/\S.bL.length<=800:=by
 have b:=tX h.ord S.nums.length;have a:=tO h.ord S.nums.length;unfold wi at b;unfold vV at a;rw[cN]at b a;have d:=h.cal.len;have c:S.nums.length=S.cal.l.length:=by unfold Ven.nums;rw[cz]
 exact⟨by show(S.nums.flatMap _).length<=_;omega,by show(S.nums.flatMap _).length<=_;omega⟩
def jZ(x:Int×Od):(ju x).length=6:=rfl
def tL(l:List (Int×Od)):(l.flatMap ju).all (·.oneCell')=true:=by
 induction l with
 |nil=>rfl
 |cons x l a=>rw[eu,gj,a];rfl
abbrev kU:TypeId:=59
def xC:Tryz.prog.underlying kU=some (.slice 76):=cU
def tE{lo:Nat}{d nx:Int}{ss:Nat->Value}{A:List Ac}{C:List Ct}{P:List Po}{O B:List (Int×Od)}(h:SB w b d nx a ss A C P O B lo)(i:Nat)(hi:i=6\/i=7):(iL kU (pt b i)).run pQ w=.ok (ss i) w:=by
 have e:kU=xL i:=by rcases hi with rfl|rfl<;>rfl
 rw[e];exact h.ld i qZ qZ
def CF{lo:Nat}{d nx R:Int}{ss:Nat->Value}{A:List Ac}{C:List Ct}{P:List Po}{O B:List (Int×Od)}{K:cG}(h:SB w b d nx R ss A C P O B lo)(Z:O.length<=10000)(hB:B.length<=10000)
  (S:∀s p,jo p 76 6 s (O++B).length ((O++B).flatMap ju)->M0 w p->K s p):
  wS pQ (iF sV (pt b 0) 6) λj=>
  uc pQ (iL kU j) w.drew λk=>
  wS pQ (iF sV (pt b 0) 7) λi=>
  uc pQ (iL kU i) w.drew λg=>
  rx pQ (jQ kU 0 []) w.drew λu a=>
  Sem.run pQ (iL kU i) a=.ok g a/\Sem.run pQ (iL kU j) a=.ok k a/\
  (rx pQ (eg #[kU,kU] kU [u,k]) a λo f=>
  Sem.run pQ (iL kU i) f=.ok g f/\
  (rx pQ (eg #[kU,kU] kU [o,g]) f λv x=>K v x)):=by
 have md:M0 w w.drew:=mP;have l:=SB.md0 h md;refine dw (λ_=>dZ _ 6 qZ) (dp (tE l 6 (.inl rfl)) ?_);refine dw (λ_=>dZ _ 7 qZ) (dp (tE l 7 (.inr rfl)) ?_)
 try dsimp only
 generalize w.drew=c at md l|-;have t:wd pQ 76 6 40:=eO (Qg 6);have m:Tryz.prog.underlying kU=some (.slice 76):=Zb 6;refine oJ [] m t rfl rfl (by simp) qZ ?_;have n:M0 c (c.alloc (.cells ([]:LV_).toArray 76)):=lm
 have E:jo (c.alloc (.cells ([]:LV_).toArray 76)) 76 6 (.slice (some ⟨c.heap.size,0,none⟩) 0 0) 0 []:=
  ⟨by simp,.inr ⟨c.heap.size,0,[],rfl,cJ _,by rw[gy,bZ rfl];simp,by simp⟩⟩
 have I:(([]:LV_).flatMap (·.cells.toList)).toArray=([]:LV_).toArray:=rfl;rw[I]
 have F:∀y,cK (.slice (some ⟨c.heap.size,0,none⟩) 0 0) y->c.heap.size<=y:=λy e=>by
  simp only[cK,It]at e;have:=dB e;omega
 generalize c.alloc (.cells ([]:LV_).toArray 76)=X at n E|-;have q:=SB.md0 l n;refine⟨tE q 7 (.inr rfl),tE q 6 (.inl rfl),?_⟩;have N:Rd X 6 (ss 6) O.length (O.flatMap ju):=(q.own 6 qZ qZ).rd;refine jR m m t E N (tL O) qZ λV z T L M=>?_;have D:M0 c z:=n.on L λy e=>.inr (F y e);have G:=SB.md0 l D;refine⟨tE G 7 (.inr rfl),?_⟩;have Q:Rd z 6 (ss 7) B.length (B.flatMap ju):=(G.own 7 qZ qZ).rd
 have r:∀y,cK V y->c.heap.size<=y:=λy e=>by
  rcases M y e with h|h
  ·exact F y h
  ·have:=n.size;omega
 refine jR m m t T Q (tL B) qZ λJ H U W Y=>?_;refine S J H ?_ ((md.trans D).on W λy e=>.inr (by have:=r y e;have:=md.size;omega));rw[eJ,cD];simpa using U
def Rv{s:Vt_}{L:List (Int×Od)}(h:jo w 76 6 s L.length (L.flatMap ju)){i:Nat}(hi:i<L.length):
  ∃b a,(∀W,(iX kU s (gI (i:Int))).run pQ W=.ok (pt b a) W)/\At w b a (ju L[i]):=by
 obtain⟨b,a,e,c,d,g⟩:=h.rd.item (f:=ju) jZ hi rfl;exact⟨b,a+i*6,λW=>by rw[c];simp[go_sem,hi,cS],g⟩
def Cx{off:Nat}(h:At w b off (ju x)):(iL 23 (pt b (off+1+1))).run pQ w=.ok (gU x.2.acct) w:=by
 have:=h.cell 2 (gU x.2.acct) rfl;obtain⟨C,e,fz,d,c⟩:=h.get;have a:=c 2 _ rfl;rw[show off+2=off+1+1 by omega]at a;simp[go_sem,d,a]
def Z0{off:Nat}{c:Cm}(h:At w b off (cmC c)):(iL 23 (pt b (off+1))).run pQ w=.ok (gU c.acct) w:=by
 have:=h.cell 1 (gU c.acct) rfl;obtain⟨C,e,fz,d,a⟩:=h.get;have f:=a 1 _ rfl;simp[go_sem,d,f]
def GY(a:Int):Cm:={zCm with kind:=10,acct:=a,on:=true}
def Yr(a:Int):Tryz.prog.built om [(0,gB 10),(1,gU a),(6,.bool true)]=some (cmC (GY a)).toArray:=cU
def EF(h:pL a):(GY a).Fit:=⟨⟨by show(0:Int)<=10;omega,by show(10:Int)<256;omega⟩,h,ls.2.2.1,ls.2.2.2.1,ls.2.2.2.2.1,ls.2.2.2.2.2.1,ls.2.2.2.2.2.2.1,ls.2.2.2.2.2.2.2.1,ls.2.2.2.2.2.2.2.2⟩
set_option maxRecDepth 10000 in
theorem ca_lawKill{K:cG}{s t:Vt_}{L M:List Cm}(h:Rd w 35 s L.length (L.flatMap cmC))(hf:∀c∈L,c.Fit)(g:Rd w 35 t M.length (M.flatMap cmC))(gf:∀c∈M,c.Fit)(ha:pL a)
  (hK:∀w',M0 w w' ->K (.bool true) w'):Ca pQ 8 #[s,t,gU a] w K:=by
 apply ca8;refine tB λv F0 w1 q1 m1 n1=>?_;obtain⟨sa,sc,hs⟩:=h.isSl;obtain⟨ta,tc,ht⟩:=g.isSl;have O:∀W,(builtin .len #[65] 3 #[false] #[s]).run pQ W=.ok (.value (gI (L.length:Int))) W:=λW=>by rw[hs];exact lenV BU _ _ _ _
 have R:∀W,(builtin .len #[65] 3 #[false] #[t]).run pQ W=.ok (.value (gI (M.length:Int))) W:=λW=>by rw[ht];exact lenV BU _ _ _ _
 refine dK.at (λst W=>st=(.bool (decide (80<L.length\/40<M.length)),())/\W=w1) ?_ ?_
 ·apply cx (.bool false) w1 (by simp[eY,go_sem]);rw[gP];apply mB (O _);apply cx (.bool (decide (80<L.length))) w1 (by simp[go_sem];omega);by_cases h1:80<L.length
  ·rw[qo h1];exact⟨by simp[h1],rfl⟩
  rw[cy,aZ (by grind)];apply mB (R _);apply cx (.bool (decide (40<M.length))) w1 (by simp[go_sem];omega);exact⟨by simp[h1],rfl⟩
 rintro _ W ⟨rfl,rfl⟩;unfold ZF;intro _;by_cases hb:80<L.length\/40<M.length
 ·rw[qo hb];apply cx (.bool true) W (by simp[eY,go_sem]);rw[kx];exact kf λw2 H=>hK _ (m1.trans H)
 rw[cy,aZ (by grind)];apply mB (O _)
 refine eS (λst W2=>∃(i:Nat) (F:NP_) (S:Ven),st=(gI i,())/\i<=L.length/\lw W2 v F S/\S.Ok/\M0 w W2/\∀y,F y->w.heap.size<=y)
  (λst _=>match st.1 with| .int _ i=>L.length - i.toNat|_=>0) ⟨0,F0,Ven.empty,rfl,qZ,q1,qX,m1,n1⟩ ?_
 rintro⟨_,_⟩ W2 ⟨i,F,S,⟨⟩,hi,q2,o,H,n2⟩ KN hKN;unfold aq0;intro _;apply cI (ltV _ _ _);by_cases C:i<L.length
 ·rw[qo C];obtain⟨cb,co,P,n⟩:=zH (h.mod H eQ) C;refine cI (P W2) (iW (vx n) ?_);have d:=hf _ (cC C);refine kW q2 o d λsT sG sA F5 w5 q5 r5 m5 n5 _=>?_;apply cI (addV qZ _);refine hKN _ w5 ⟨i+1,F5,_,rfl,qZ,q5,mV o d,H.on m5 λy f=>.inr (n2 y f),λy f=>?_⟩ (by grind);rcases n5 y f with h|h
  ·exact n2 y h
  ·have:=H.size;omega
 rw[cy,aZ (by grind)];apply lL (Yr a);refine kW q2 o (EF ha) λsT sG sA F3 w3 q3 r3 m3 n3 _=>?_;apply cI (BG (S.apply (GY a)).1 sT sG sA w3);have I:=mV o (EF ha);have z:=IA o (c:=GY a) rfl rfl;generalize hX:S.apply (GY a)=X at q3 r3 I z|-;have M3:=H.on m3 λy f=>.inr (n2 y f)
 have N3:∀y,F3 y->w.heap.size<=y:=λy f=>by
  rcases n3 y f with h|h
  ·exact n2 y h
  ·have:=H.size;omega
 by_cases u:X.1.err≠0
 ·refine qSt1 u ?_;exact kf λw4 B=>hK _ (M3.trans B)
 apply cx (.bool false) w3 (by simp only[ne_eq,Decidable.not_not]at u;simp[go_sem,u]);rw[gP];have z:=z (by simpa using u);apply mB (R _)
 refine eS (λst G=>∃(x:Vt_) (i:Nat) (F:NP_) (T:Ven),st=(x,gI i,())/\i<=M.length/\lw G v F T/\T.Ok/\T.led.Killed a/\M0 w G/\∀y,F y->w.heap.size<=y)
  (λst _=>match st.2.1 with| .int _ i=>M.length - i.toNat|_=>0) ⟨_,0,F3,X.2,rfl,qZ,q3,I,z,M3,N3⟩ ?_
 rintro⟨_,_⟩ G ⟨x,j,F4,T,⟨⟩,hj,q4,r,J,B,n4⟩ KM Q;unfold ag4;intro _;apply cI (ltV _ _ _);by_cases e:j<M.length
 ·rw[qo e];obtain⟨cb,co,P,n⟩:=zH (g.mod B eQ) e;refine dK.at (λst W=>st=(.bool (decide (M[j].kind=10/\M[j].acct=a)),())/\W=G) ?_ ?_
  ·apply cI (P G);refine qSv1 (pt cb co) cS (cI (XH n) ?_);by_cases k1:M[j].kind=10
   ·refine qSt1 k1 ?_;apply cI (P G);refine qSv1 (pt cb (co+1)) cS (cI (Z0 n) ?_);apply cx (.bool (decide (M[j].acct=a))) G (by simp[go_sem];rfl);exact⟨by simp[k1],rfl⟩
   ·refine qSf1 k1 ?_;exact⟨by simp[k1],rfl⟩
  rintro _ W5 ⟨rfl,rfl⟩;unfold an4;intro _;by_cases hk:M[j].kind=10/\M[j].acct=a
  ·rw[qo hk];apply cI (addV qZ _);exact Q _ W5 ⟨_,j+1,F4,T,rfl,qZ,q4,r,J,B,n4⟩ (by grind)
  rw[cy,aZ (by grind)];refine cI (P W5) (iW (vx n) ?_);have d:=gf _ (cC e);refine kW q4 r d λsT sG sA F6 w6 q6 r6 m6 n6 _=>?_;have q:=mV r d;have E:=Fm r d J hk;generalize T.apply M[j]=Y at q6 r6 q E;have M6:=B.on m6 λy f=>.inr (n4 y f)
  have N6:∀y,F6 y->w.heap.size<=y:=λy f=>by
   rcases n6 y f with h|h
   ·exact n4 y h
   ·have:=B.size;omega
  have hQ6:=q6;obtain⟨c,l,mb,md,A,D,fp,hr6,hF6⟩:=q6;refine mK hr6 q λss b lo w7 s7 hlo m7 hb=>?_;refine pZ s7 λp w8 s8 m8 hp8=>?_;have hln:=pK q;refine CF s8 (by show Y.2.oL.length<=_;omega) (by show Y.2.bL.length<=_;omega) λsl w9 N m9=>?_;have N:jo w9 76 6 sl (Y.2.oL++Y.2.bL).length ((Y.2.oL++Y.2.bL).flatMap ju):=N;have M9:=(m7.trans m8).trans m9;have U:∀x∈Y.2.oL++Y.2.bL,x.2.acct≠a:=λx U=>HB q E (tM U);have hl9:(Y.2.oL++Y.2.bL).length<=4000:=by grind
  generalize Y.2.oL++Y.2.bL=Z at N U hl9;obtain⟨za,zc,hz⟩:=N.rd.isSl;apply jm (gI (Z.length:Int)) w9 (by rw[hz];exact lenV xC _ _ _ _)
  refine eS (λst W=>∃(x:Vt_) (k:Nat),st=(x,gI k,())/\k<=Z.length/\M0 w9 W)
   (λst _=>match st.2.1 with| .int _ k=>Z.length - k.toNat|_=>0) ⟨_,0,rfl,qZ,lX⟩ ?_
  rintro⟨_,_⟩ Wz ⟨x,k,⟨⟩,hkz,V⟩ KZ hKZ;unfold ar7;intro _;apply cI (ltV _ _ _);by_cases m:k<Z.length
  ·rw[qo m];obtain⟨zb,zo,hie,hia⟩:=Rv (N.mod V eQ) m;apply cI (hie Wz);refine qS1 cS ?_;refine qSv1 (pt zb (zo+1+1)) cS (cI (Cx hia) ?_);have hne:=U _ (cC m);refine qSf1 hne ?_;apply cI (addV qZ _);exact hKZ _ _ ⟨_,k+1,rfl,qZ,V⟩ (by grind)
  ·rw[cy,aZ (by grind)];apply cI (addV qZ _);exact Q _ Wz ⟨_,j+1,F6,Y.2,rfl,qZ,hQ6.md0 (M9.trans V),q,E,(M6.trans M9).trans V,N6⟩ (by grind)
 ·rw[cy,aZ (by grind)];exact kf λw5 m5=>hK _ (B.trans m5)
end Go.Proofs
namespace Go.Proofs.YtnfloameajanhaaGreat.venueKill
open Go Go.Vc Go.Proofs Go.ChangeShapes Go.WideShapes Go.ChangeAt Go.RowKit
set_option maxRecDepth 100000 in
def lifted(os:Os)(c:os.Started)(H:Type)(enc:TypeId×Value->H):
  ReturnsInHanded {} Tryz.checked os 8 .any (Rows.venueKillSpec.pre6 enc Tryz.prog Tryz.f8 Rows.venueKillRow.domain false) (Rows.venueKillSpec.post enc Tryz.prog Tryz.f8 false true false false):=by
 refine returnsInHanded_of_change_sized (C:=Tryz.checked) own c cU Tryz.func8
  (ChangeSpec.witness6 (enc:=enc) (C:=Tryz.checked) false ⟨#[],#[.slice none 0 0,.slice none 0 0,.int .u32 0],[]⟩ 8 cU cU cU cU) ?_
 intro W i a ds gs o d A F l _;have b:∀(j:Nat) t v,Tryz.f8.params[j]? =some t->a[j]? =some v->Value.okWide Tryz.prog W .any i t v:=d;have g:(DataW.weightsEach Tryz.prog (Tryz.f8.params.toList++[]) (ds++gs)).all (·<=reachBytes)=true:=l;have w:=A;obtain⟨p,q,k,Z,rfl,Y,S⟩:=A;have D:DataW.TrodAll enc Tryz.prog W 0 (λ_=>true) true Tryz.f8.params.toList a.toList ds p:=k;rw[Tryz.params8]at D b g;obtain⟨v0,U,Q,M,p0,q0,u,rfl,rfl,L,O⟩:=trodAll_cons D;obtain⟨B,J,d1,R,p1,q1,rfl,rfl,rfl,P,I⟩:=trodAll_cons O;obtain⟨E,N,d2,V,p2,q2,rfl,rfl,rfl,G,T⟩:=trodAll_cons I;obtain⟨rfl,rfl,rfl⟩:=trodAll_nil T;obtain rfl:a= #[v0,B,E]:=by cases a;simp_all
 obtain⟨rfl,rfl⟩:=trodVars_none Z
 have x:Wt Tryz.prog reachBytes 65 Q:=by
  intro m f;have:=List.all_eq_true.1 g m (by simp only[List.append_nil,List.cons_append,List.nil_append,DataW.weightsEach,List.mem_append];first|exact .inl f|exact .inl f);simpa using this
 have s:Wt Tryz.prog reachBytes 65 d1:=by
  intro m f;have:=List.all_eq_true.1 g m (by simp only[List.append_nil,List.cons_append,List.nil_append,DataW.weightsEach,List.mem_append];first|exact .inr (.inl f)|exact .inr (.inl f));simpa using this
 obtain⟨l0,r,h⟩:=open_cms (b 0 65 v0 rfl rfl) L x;obtain⟨l1,y,n⟩:=open_cms (b 1 65 B rfl rfl) P s;obtain⟨a2,rfl,rfl,rfl,X⟩:=open_int Tryz.underlying23 (b 2 23 E rfl rfl) G;clear k d;refine Calls.mono (ca_lawKill (K:=λv z=>v=.bool true/\M0 W z) r h y n (wfU X) λz f=>⟨rfl,f⟩).out ?_;rintro e W' ⟨v,rfl,rfl,f⟩;exact⟨_,rfl,post_of_mod laidOut cU rfl w f cU Tryz.underlying4 rfl⟩
abbrev zRw:=Rows.venueKillRow
abbrev II:=Rows.venueKillSpec
noncomputable abbrev zVt:=Tryz.f8.params.toList++II.plain.varTypes pQ
def k0:zRw.wf (OpenSpec.ofChange II):=cU
def k1:laidOutB pQ:=cU
def k2:mapsRowed pQ:=cU
def k3:Tryz.f8.params.all (pQ.readableRec ·):=cU
def k4:namedTie pQ zRw.named II.vars:=cU
def k5:zRw.stops== []:=cU
def k6:pQ.stops== []:=cU
def k7:zRw.knobs== []:=cU
def k8:pQ.stopKnobs== []:=cU
def k9:zRw.inPlace==pQ.inPlace 8:=cU
def k10:zRw.unfollowed==pQ.unfollowed 8:=cU
def k11:zRw.recurses==pQ.recurses 8:=cU
def k12:zRw.named==pQ.varsNamed 8:=cU
def k13:zRw.maps==zVt.any (pQ.mapsRec ·):=cU
def k14:zRw.ifaces==zVt.any (pQ.ifacesRec ·):=cU
def k15:zRw.mapsOut==pQ.mapsAmong Tryz.f8.resultTypes.toList:=cU
def k16:zRw.loops==zVt.any (pQ.loopsFrom ·):=cU
def k17:zRw.wideKeys==(zVt++Tryz.f8.resultTypes.toList).any (pQ.wideKeysFrom ·):=cU
def k18:II.vars.all (pQ.varReadable ·):=cU
def k19:Tryz.f8.resultTypes.all (λt=>pQ.readableRec t&& decide (t<pQ.types.size)):=cU
def k20:zRw.ifacesOut==Tryz.f8.resultTypes.toList.any (pQ.ifacesRec ·):=cU
def k21:zRw.loopsOut==Tryz.f8.resultTypes.toList.any (pQ.loopsFrom ·):=cU
def k22:zRw.plainKeys==pQ.plainKeys:=cU
def k23:zRw.shortTexts.isNone:=cU
def k24:pQ.stopsHeard:=cU
def k25:pQ.mayEnter:=cU
def k26:zRw.lifted==pQ.liftsFinal:=cU
def k27:pQ.make==some zRw.make:=cU
def k28:zRw.kinds==(if zRw.domain.isEmpty then []else Tryz.f8.params.toList.map λt=>match pQ.underlying t with|some (.int k)=>some k|_=>none):=cU
def k29:zRw.pinned==zRw.pinnedBy:=cU
def k30:zRw.veiled==(zVt++Tryz.f8.resultTypes.toList).any (pQ.veiledRec ·):=cU
def k31:zRw.veiledFits pQ Tryz.f8.params.toList (zVt++Tryz.f8.resultTypes.toList):=cU
set_option maxRecDepth 100000 in
def closed:joinedFacts Tryz.prog 8 Tryz.f8 Rows.venueKillSpec Rows.venueKillRow=true:=by
 unfold joinedFacts;simp only[Bool.and_eq_true];exact⟨⟨⟨⟨⟨⟨⟨⟨⟨⟨⟨⟨⟨⟨⟨⟨⟨⟨⟨⟨⟨⟨⟨⟨⟨⟨⟨⟨⟨⟨⟨k0,k1⟩,k2⟩,k3⟩,k4⟩,k5⟩,k6⟩,k7⟩,k8⟩,k9⟩,k10⟩,k11⟩,k12⟩,k13⟩,k14⟩,k15⟩,k16⟩,k17⟩,k18⟩,k19⟩,k20⟩,k21⟩,k22⟩,k23⟩,k24⟩,k25⟩,k26⟩,k27⟩,k28⟩,k29⟩,k30⟩,k31⟩
theorem holds:Rows.VenueKillSaid:=
 OpenClaim.holds_of_wide 8 Tryz.f8 rfl rfl rfl rfl rfl rfl rfl ⟨rfl,rfl,rfl,rfl,rfl⟩ rfl rfl rfl rfl rfl cU Tryz.func8 closed
  (of_decide_eq_true cU) (by unfold Func.isWrapper;first|(rw[if_pos (by decide+kernel)];kernel_rfl)|(rw[if_neg (by decide+kernel)];exact⟨rfl,rfl⟩))
  (λos a H b _=>lifted os a H b)
end Go.Proofs.YtnfloameajanhaaGreat.venueKill
