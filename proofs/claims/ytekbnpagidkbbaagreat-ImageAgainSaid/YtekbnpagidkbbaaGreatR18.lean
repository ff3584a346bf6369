/- Part of a proof. -/
import Derived.Test.YtekbnpagidkbbaaGreatR17
set_option linter.all false
set_option maxRecDepth 100000
set_option maxHeartbeats 4000000
namespace Go.Proofs
open Go Go.Vc
variable {S:bt}{C:oR}
def zS:∀(ix p:List Int),(∀i∈ix,0<=i/\i<p.length)->(∀x∈p,0<=x)->(qV ix p).sum=p.sum+ix.length/\∀x∈qV ix p,0<=x
 | [],p,_,hp=>⟨by simp[qV],hp⟩
 |i::ix,p,l,hp=>by
  have n:=l i aw;have b:i.toNat<p.length:=qZ;obtain⟨c,a⟩:=di (p.set i.toNat (p.getD i.toNat 0+1));have d:p.getD i.toNat 0=p[i.toNat]:=by grind
  have o:c.length=p.length:=by grind
  have k:c.sum=p.sum+1:=by rw[a,d,AP b];omega
  have m:∀x∈c,0<=x:=λx f=>by
   rw[a]at f;rcases eD f with h|rfl
   ·exact hp x h
   ·have:=hp _ (aq b);rw[d];omega
  obtain⟨h1,g⟩:=zS ix c (λj q=>by grind) m;have e:qV (i::ix) p=qV ix c:=by rw[a];rfl
  rw[e];refine⟨?_,g⟩;rw[h1,k,be];omega
def BT{t:Int}{l:List Int}(h:(fJ t l).2=0):0<=t/\(fJ t l).1.sum=t/\(∀x∈(fJ t l).1,0<=x)/\(fJ t l).1.length=l.length:=by
 refine⟨?_,?_⟩
 ·unfold fJ at h;split at h
  ·cases h
  ·split at h
   ·cases h
   ·rename_i h1;omega
 have a:=wM h;unfold fJ at h a|-;by_cases h1:1000<l.length
 ·grind
 rw[aa h1]at h a|-;by_cases r:t<0\/(l.any λx=>decide (x<0))=true
 ·grind
 rw[aa r]at h a|-;by_cases y:¬ed l.sum
 ·grind
 rw[aa y]at h a|-;by_cases o:t=0
 ·rw[ae o]at a|-;refine⟨?_,λx m=>by grind,a⟩;rw[o]
  have:∀n:Nat,(List.replicate n (0:Int)).sum=0:=λn=>by
   induction n with
   |zero=>rfl
   |succ n C=>rw[List.replicate_succ,bH,C];rfl
  exact this _
 rw[aa o]at h a|-;by_cases w:l.sum=0
 ·grind
 rw[aa w]at a|-;simp only at a|-
 have D:∀x∈l,0<=x:=λx m=>by
  apply aQ;intro E;exact r (.inr (im.2 ⟨x,m,aW qZ⟩))
 obtain⟨c,d⟩:=di (l.map Int.toNat);rw[<-d]at a|-
 have s:(c.sum:Int)=l.sum:=by
  rw[<-tN,d,dQ];congr 1;have:l.map ((λx:Nat=>(x:Int))∘Int.toNat)=l.map id:=eh λx m=>by grind
  rw[this,kX]
 have f:0<c.sum:=by grind
 have u:=FC f t.toNat (aD c.sum);have e:=Ir f t.toNat rfl;unfold tG;obtain⟨q,g⟩:=di (pK t.toNat c.sum c);rw[<-g]at u e|-;have k:q.length=c.length:=by rw[g];unfold pK;rw[ah]
 have b:(vH (rk t.toNat c.sum c)).Perm ((List.range (rk t.toNat c.sum c).length).map λi:Nat=>(i:Int)):=Srt.stable_perm _ _;have p:(rk t.toNat c.sum c).length=c.length:=by unfold rk;rw[ah]
 rw[p]at b
 obtain⟨A,v⟩:=zS ((vH (rk t.toNat c.sum c)).take (t.toNat - q.sum)) (q.map λx:Nat=>(x:Int)) (λi z=>by
  have:=b.mem_iff.1 (bF z);obtain⟨j,B,rfl⟩:=aL.1 this;rw[eZ]at B;rw[ah,k];omega) (λx m=>by grind)
 refine⟨?_,v,?_⟩
 ·rw[A,tN,az,b.length_eq,ah,List.length_range];omega
 ·rw[wX,ah,k,d,ah]
def xd:∀(ix:List Nat) (a:List Int) (o:List Sd),(lC ix a o).map (·.acct)=o.map (·.acct)/\(lC ix a o).map (·.dfl)=o.map (·.dfl)
 | [],a,o=>by cases a<;>exact⟨rfl,rfl⟩
 |i::ix,[],o=>⟨rfl,rfl⟩
 |i::ix,p::a,o=>by
  cases b:o[i]? with
  |none=>
   have e:lC (i::ix) (p::a) o=lC ix a o:=by
    conv=>lhs;unfold lC
    rw[b]
   rw[e];exact xd ix a o
  |some x=>
   obtain⟨c,d⟩:=aJ.1 b
   have e:lC (i::ix) (p::a) o=lC ix a (o.set i {x with cut:=p,cash:=IntKind.i64.wrap (x.cash - p)}):=by
    conv=>lhs;unfold lC
    rw[b]
   rw[e];obtain⟨h1,f⟩:=xd ix a (o.set i {x with cut:=p,cash:=IntKind.i64.wrap (x.cash - p)});rw[h1,f,gF,gF];constructor
   ·have:x.acct=(o.map (·.acct))[i]'(by simpa using c):=by rw[cG,d]
    show(o.map _).set i x.acct=_;rw[this,gD]
   ·have:x.dfl=(o.map (·.dfl))[i]'(by simpa using c):=by rw[cG,d]
    show(o.map _).set i x.dfl=_;rw[this,gD]
def C2:∀(ix:List Nat) (a:List Int) (o:List Sd),ix.length=a.length->ix.Nodup->(∀i∈ix,i<o.length)->(∀p∈a,0<=p/\p<=7000000000000000000)->(∀s∈o,0<=s.cash/\s.cash<=1000000000000000000)->
  ((lC ix a o).map (·.cash)).sum=(o.map (·.cash)).sum - a.sum
 | [],[],o,_,_,_,_,_=>by simp[lC]
 | [],p::a,o,g,_,_,_,_=>by simp at g
 |i::ix,[],o,g,_,_,_,_=>by simp at g
 |i::ix,p::a,o,g,C,u,hp,t=>by
  have d:=u i aw;obtain⟨k,n⟩:=ce.1 C;have A:=hp p aw;have v:=t _ (aq d);have z:IntKind.i64.wrap (o[i].cash - p)=o[i].cash - p:=by rw[bV];omega
  have e:lC (i::ix) (p::a) o=lC ix a (o.set i {o[i]with cut:=p,cash:=o[i].cash - p}):=by
   conv=>lhs;unfold lC
   rw[av d];simp only;rw[z]
  rw[e]
  have l:∀(ix:List Nat) (a:List Int) (o:List Sd) (y:Sd),i ∉ ix->lC ix a (o.set i y)=(lC ix a o).set i y:=by
   intro ix;induction ix with
   |nil=>intro a o y _;cases a<;>rfl
   |cons j ix f=>
    intro a o y b;rw[ax,l9]at b;cases a with
    |nil=>rfl
    |cons q a=>
     have B:(o.set i y)[j]? =o[j]? :=by grind
     unfold lC;rw[B];cases o[j]? with
     |none=>exact f a o y b.2
     |some x=>
      simp only;rw[List.set_comm _ _ b.1,f a _ y b.2]
  rw[l ix a o _ k];have f:=C2 ix a o (by simpa using g) n (λj b=>u j (ag _ b)) (λq w=>hp q (ag _ w)) t
  have c:∀(ix:List Nat) (a:List Int) (o:List Sd),i ∉ ix->(lC ix a o)[i]? =o[i]? :=by
   intro ix;induction ix with
   |nil=>intro a o _;cases a<;>rfl
   |cons j ix f=>
    intro a o b;rw[ax,l9]at b;cases a with
    |nil=>rfl
    |cons q a=>
     unfold lC;rw[f _ _ b.2];cases o[j]? with
     |none=>rfl
     |some x=>simp only;rw[List.getElem?_set_ne λh=>b.1 h.symm]
  have r:=c ix a o k;rw[av d]at r;obtain⟨D,m⟩:=aJ.1 r;rw[gF,AP (by grind),cG,m,f,bH];show _ - _+(o[i].cash - p)=_;omega
def Q8(l:List Du):((l.map AK).map (·.cash)).sum=(l.map (·.cash)).sum+(l.map (·.v)).sum+(l.map iY).sum:=by
 induction l with
 |nil=>rfl
 |cons d l a=>
  rw[aI,aI,bH,a,aI,aI,aI,bH,bH,bH]
  have:(AK d).cash=d.cash+d.v+iY d:=by
   unfold AK iY;split<;>simp only<;>omega
  rw[this];omega
def wR:∀(l:List Du) (i:Nat),(mj i l).Nodup
 | [],i=>ju
 |d::l,i=>by
  rw[mj];split
  ·refine ce.2 ⟨λa=>?_,wR l (i+1)⟩;have:=xw l (i+1) i a;omega
  ·exact wR l (i+1)
structure SF(fund:Int)(l:List Du)(out:List Sd)(left:Int):Prop where
 acct:out.map (·.acct)=l.map (·.acct)
 dfl:out.map (·.dfl)=l.map λd=>decide (d.cash+d.v<0)
 sum:(out.map (·.cash)).sum+left=(l.map (·.cash)).sum+fund
 left:0<=left/\left<=fund
 v0:(l.map (·.v)).sum=0
def Ln{fund:Int}{l:List Du}(h:(ie fund l).2.2=0):SF fund l (ie fund l).1 (ie fund l).2.1:=by
 unfold ie at h|-;by_cases h1:64<l.length
 ·grind
 rw[aa h1]at h|-;by_cases f:rG fund l=false
 ·grind
 rw[aa f]at h|-;by_cases b:(tC (l.map (·.v))).2≠0\/(tC (l.map (·.v))).1≠0
 ·grind
 rw[aa b]at h|-;obtain⟨t,r⟩:=di ((l.map iY).sum - min fund (l.map iY).sum);rw[<-r]at h|-;by_cases j:(fJ t (lB l)).2≠0
 ·grind
 rw[aa j];simp only;have a:rG fund l=true:=by simpa using f
 unfold rG at a;rw[ai]at a;have c:=EN a.1;have e:0<=fund/\fund<=1000000000000000:=fe.1 a.2;have q:=L3 c;obtain⟨s1,g,k,o⟩:=BT (by simpa using j:(fJ t (lB l)).2=0)
 have m:(l.map (·.v)).sum=0:=by
  simp only[l9,ne_eq,Classical.not_not]at b;unfold tC at b;split at b
  ·exact b.2
  ·cases b.1
 obtain⟨u,v⟩:=xd (mj 0 l) (fJ t (lB l)).1 (l.map AK);refine⟨?_,?_,?_,⟨qZ,qZ⟩,m⟩
 ·rw[u,dQ];exact eh λd _=>by show(AK d).acct=d.acct;unfold AK;split<;>rfl
 ·rw[v,dQ];refine eh λd _=>?_;show(AK d).dfl=_;unfold AK;split
  ·grind
  ·grind
 ·rw[C2 _ _ _ (by rw[xR,o]) (wR l 0) (λi x=>by have:=xw l 0 i x;rw[ah];omega)
   (λp hp=>⟨k p hp,by have:=EH k p hp;rw[g]at this;omega⟩) (λs w=>?_),Q8,g,m]
  ·omega
  ·obtain⟨d,n,rfl⟩:=aL.1 w;have:=Du.rng (c d n);unfold AK;split<;>simp only<;>omega
def Qq{l:List Ac}(h:mL l){a:Ac}(g:∃x∈l,x.num=a.num):CO l a=l.map λx=>if x.num=a.num then a else x:=by
 have b:∀x:Ac,(if x.num=a.num then a else x).num=x.num:=λx=>by grind
 have c:mL (l.map λx=>if x.num=a.num then a else x):=by
  unfold mL;rw[eL];exact h.imp λ{x y} d=>by grind
 apply PG (tm h a) c;have nd:∀{l:List Ac},mL l->l.Nodup:=λf=>f.imp λh e=>by rw[e]at h;omega
 rw[List.perm_ext_iff_of_nodup (nd (tm h a)) (nd c)];intro x;rw[sq,aL];constructor
 ·rintro(⟨h1,i⟩|rfl)
  ·grind
  ·grind
 ·rintro⟨y,j,rfl⟩;split
  ·exact .inr rfl
  ·grind
def tx(l:List Sd)(a:Ac):Ac:=match l.find? (λs=>decide (s.acct=a.num))with|some s=>{a with cash:=s.cash,dfl:=a.dfl||s.dfl}|none=>a
structure Zn(l:List Sd)(r:Rp)(S:bt)(r' :Rp)(T:bt):Prop where
 led:I3 T.cal T.led
 ord:sy T
 cal:T.cal=S.cal
 next:T.next=S.next
 held:T.led.held=S.led.held
 fund:T.led.fund=S.led.fund
 all:T.led.all=S.led.all.map (tx l)
 sub:∀n o,o∈T.ords n->o∈S.ords n
 accts:r'.accts=r.accts++(l.filter (·.dfl)).map (·.acct)
def K6:∀(l:List Sd) (r:Rp) (S:bt),I3 S.cal S.led->sy S->(∀s∈l,S.led.find s.acct≠none)->(l.map (·.acct)).Nodup->(nJ l r S).1=0->Zn l r S (nJ l r S).2.1 (nJ l r S).2.2
 | [],r,S,f,E,_,_,_=>⟨f,E,rfl,rfl,rfl,rfl,by
   have:S.led.all.map (tx [])=S.led.all.map id:=eh λ_ _=>rfl;rw[this,kX];rfl,d9,by simp[nJ]⟩
 |s::l,r,S,f,E,hf,Z,D=>by
  obtain⟨W,V⟩:=ce.1 Z;have T:=hf s aw
  obtain⟨x,M⟩:∃x,S.led.find s.acct=some x:=by
   cases h:S.led.find s.acct with
   |none=>exact absurd h T
   |some x=>exact⟨x,rfl⟩
  obtain⟨J,B,e⟩:=bJ.find_ok f.led M;have G:S.acc s.acct=x:=by unfold bt.acc;rw[oS e,M];rfl
  obtain⟨b,j⟩:=di (if s.dfl=true then(S.clear s.acct 0).2 else S);have X:=uh E (a:=s.acct) (k:=0) e
  have K:b.cal=S.cal/\b.led=S.led/\b.next=S.next:=by
   rw[j];split
   ·exact X
   ·grind
  have w:sy b:=by
   rw[j];split
   ·exact yZ E e
   ·exact E
  have g:∀n o,o∈b.ords n->o∈S.ords n/\(s.dfl=true->o.acct≠s.acct):=λn o q=>by
   rw[j]at q;split at q
   ·have:=BC E e q;exact⟨this.2,λ_=>this.1⟩
   ·grind
  obtain⟨a,N⟩:=di ({x with cash:=s.cash,dfl:=x.dfl||s.dfl}:Ac);obtain⟨O,I⟩:=di (if s.dfl=true then{r with accts:=r.accts++[s.acct],gone:=r.gone++(S.clear s.acct 0).1}else r:Rp)
  have P:nJ (s::l) r S=if(b.led.set a).1≠0 then((b.led.set a).1,O,{b with led:=(b.led.set a).2})else nJ l O {b with led:=(b.led.set a).2}:=by
   conv=>lhs;unfold nJ
   simp only;rw[G,<-N,<-j,<-I]
  rw[P]at D|-;by_cases h1:(b.led.set a).1≠0
  ·grind
  rw[aa h1]at D|-;have H:(b.led.set a).1=0:=by simpa using h1
  rw[K.2.1]at H D|-;have i:=bJ.set_ok1 H;have c:a.num=s.acct:=by rw[N];exact B
  have C:a.num≠0:=by rw[c];exact e
  have hu:iU a.num:=by have:=f.led.acc x J;rw[c,<-B];exact⟨qZ,this.2.1⟩
  have A:∀n,(S.led.set a).2.find n=if n=a.num then some a else S.led.find n:=λn=>by rw[i];exact bJ.find_putA f.led.sa C n
  have hL2:I3 b.cal (S.led.set a).2:=⟨bJ.set_Ok f.led hu,λp hp=>by rw[pf]at hp;rw[K.1];exact f.held p hp,tE (pf _ _) f.zero⟩
  have Y:sy {b with led:=(S.led.set a).2}:=by
   refine w.mono (λn Z=>.inl Z) (λn d=>gH.refl λo q=>(w.bkMay n d o q).1) (λn=>gH.refl (w.bdMay n)) (λn o q z=>?_) (eu _);have hd:=(g n o q).2;rw[K.2.1]at z;refine wT f.led z λD=>?_;have F:s.acct=o.acct:=c.symm.trans D;obtain⟨y,L,hk,R⟩:=z;rw[<-F,M]at L;cases L;rw[N];refine⟨hk,?_⟩;cases u:s.dfl with
   |true=>exact absurd F.symm (hd u)
   |false=>show(x.dfl||false)=false;rw[R];rfl
  have hnot:∀t∈l,t.acct≠s.acct:=λt Q D=>W (by grind)
  have v:=K6 l O {b with led:=(S.led.set a).2} hL2 Y (λt Q=>by
   show(S.led.set a).2.find t.acct≠none;rw[A,aa (by grind)];exact hf t (ag _ Q)) V D
  refine⟨v.led,v.ord,v.cal.trans K.1,v.next.trans K.2.2,v.held.trans (pf _ _),v.fund.trans ?_,?_,λn o q=>(g n o (v.sub n o q)).1,?_⟩
  ·show(S.led.set a).2.fund=_;rw[i];unfold bJ.putA;rw[aa C]
  ·rw[v.all];show(S.led.set a).2.all.map _=_
   have:(S.led.set a).2.all=S.led.all.map λy=>if y.num=a.num then a else y:=by
    rw[i];unfold bJ.putA;rw[aa C];exact Qq f.led.sa ⟨x,J,B.trans c.symm⟩
   rw[this,dQ];refine eh λy L=>?_;show tx l (if y.num=a.num then a else y)=tx (s::l) y;by_cases m:y.num=a.num
   ·rw[ae m]
    have U:y=x:=by
     have:=bJ.mem_find f.led L;rw[m,c,M]at this;exact(cZ this).symm
    have e2:tx l a=a:=by
     unfold tx
     have:l.find? (λs=>decide (s.acct=a.num))=none:=by
      rw[dZ];exact λt Q=>by grind
     rw[this]
    rw[e2];unfold tx;rw[iC (by rw[m,c];simp),U,N]
   ·rw[aa m];unfold tx;rw[iD (by grind)]
  ·rw[v.accts,I];cases u:s.dfl with
   |true=>
    rw[ae rfl,bL (by exact u),aI];show(r.accts++[s.acct])++_=_;rw[ar];rfl
   |false=>
    rw[aa (by simp),aV (by rw[u];simp)]
def Oy{l:List Sd}(b:(l.map (·.acct)).Nodup){i:Nat}(hi:i<l.length):l.find? (λs=>decide (s.acct=l[i].acct))=some l[i]:=by
 rw[dP];refine⟨by simp,i,hi,rfl,λj a=>?_⟩;have:=(bP.1 b) j i (by grind) (by grind) a;rw[cG,cG]at this;simpa using this
def MK{A:List Ac}{l:List Sd}(h:l.map (·.acct)=A.map (·.num))(e:(A.map (·.num)).Nodup):(A.map (tx l)).map (·.cash)=l.map (·.cash)/\∀i (hi:i<A.length) (a:i<l.length),tx l A[i]={A[i]with cash:=l[i].cash,dfl:=A[i].dfl||l[i].dfl}:=by
 have b:l.length=A.length:=by have:=ep List.length h;rwa[ah,ah]at this
 have key:∀i (hi:i<A.length) (a:i<l.length),tx l A[i]={A[i]with cash:=l[i].cash,dfl:=A[i].dfl||l[i].dfl}:=λi hi a=>by
  have d:l[i].acct=A[i].num:=by
   have:(l.map (·.acct))[i]? =(A.map (·.num))[i]? :=by rw[h]
   rw[cz,cz,av a,av hi]at this;exact cZ this
  unfold tx;have:=Oy (l:=l) (by rw[h];exact e) a;rw[d]at this;rw[this]
 refine⟨List.ext_getElem (by simp[b]) λi h1 c=>?_,key⟩;rw[ah,ah]at h1;rw[ah]at c;rw[cG,cG,cG,key i h1 c]
structure Yy(S:bt)(won:Int->Int)(T:bt)(out:List Sd)(left:Int):Prop where
 set:SF S.led.fund (S.dues won) out left
 led:I3 T.cal T.led
 ord:sy T
 cal:T.cal=S.cal
 next:T.next=S.next
 held:T.led.held=S.led.held
 fund:T.led.fund=left
 all:T.led.all=S.led.all.map (tx out)
 funds:T.led.funds=S.led.funds
 sub:∀n o,o∈T.ords n->o∈S.ords n
def OG(S:bt)(won:Int->Int):(S.dues won).map (·.acct)=S.led.all.map (·.num)/\(S.dues won).map (·.cash)=S.led.all.map (·.cash)/\(S.dues won).map (·.v)=S.led.all.map λa=>won a.num:=by
 unfold bt.dues;rw[dQ,dQ,dQ];exact⟨rfl,rfl,rfl⟩
def I5(k:I3 S.cal S.led)(u:sy S){won:Int->Int}(h:(S.pay won).1=0):
  Yy S won (S.pay won).2.2 (ie S.led.fund (S.dues won)).1 (ie S.led.fund (S.dues won)).2.1/\(S.pay won).2.1.accts=((ie S.led.fund (S.dues won)).1.filter (·.dfl)).map (·.acct):=by
 unfold bt.pay at h|-;simp only at h|-;obtain⟨x,r⟩:=di (ie S.led.fund (S.dues won));rw[<-r]at h|-;by_cases h1:x.2.2≠0
 ·grind
 rw[aa h1]at h|-;have m:SF S.led.fund (S.dues won) x.1 x.2.1:=by rw[r];exact Ln (by grind)
 by_cases q:(nJ x.1 kI S).1≠0
 ·grind
 rw[aa q]at h|-;simp only at h|-;obtain⟨d1,d2,d3⟩:=OG S won;have c:x.1.map (·.acct)=S.led.all.map (·.num):=m.acct.trans d1;have f:(S.led.all.map (·.num)).Nodup:=k.led.sa.nodup
 have hp:=K6 x.1 kI S k u (λs t=>by
  have:s.acct∈S.led.all.map (·.num):=by grind
  obtain⟨a,A,z⟩:=aL.1 this;rw[<-z,bJ.mem_find k.led A];simp) (by rw[c];exact f) (by simpa using q)
 obtain⟨y,v⟩:=di (nJ x.1 kI S);rw[<-v]at h hp|-;have b:=bJ.set_ok1 h;have g:y.2.2.led.putA ⟨0,x.2.1,false,false⟩={y.2.2.led with fund:=x.2.1}:=by unfold bJ.putA;rw[ae rfl]
 rw[g]at b;have l:=bJ.set_Ok hp.led.led (a:=⟨0,x.2.1,false,false⟩) ⟨by grind,by grind⟩;refine⟨⟨m,⟨l,λp e=>?_,?_⟩,?_,hp.cal,hp.next,?_,?_,?_,?_,λn o i=>hp.sub n o i⟩,by rw[hp.accts];rfl⟩
 ·rw[b]at e;exact hp.led.held p e
 ·rw[b];exact hp.led.zero
 ·refine hp.ord.mono (λn w=>.inl w) (λn d=>gH.refl λo i=>(hp.ord.bkMay n d o i).1) (λn=>gH.refl (hp.ord.bdMay n)) (λn o i j=>?_) (eu _);show bJ.Stands (y.2.2.led.set _).2 _;rw[b];exact j
 ·show(y.2.2.led.set _).2.held=_;rw[b];exact hp.held
 ·grind
 ·show(y.2.2.led.set _).2.all=_;rw[b];exact hp.all
 ·show(y.2.2.led.set _).2.funds=_;rw[b];unfold bJ.funds;show x.2.1+(y.2.2.led.all.map (·.cash)).sum=_;rw[hp.all,(MK c f).1];have:=m.sum;rw[d2]at this;omega
def ve{C:oR}(hC:C.Ok):∀(l:List Ct) (L:bJ) (won:Int->Int),I3 C L->I3 C (jK l L won).2.1/\((jK l L won).2.1.all=L.all/\(jK l L won).2.1.fund=L.fund)/\∀p∈(jK l L won).2.1.held,∃q∈L.held,q.c=p.c
 | [],L,won,h=>⟨h,⟨rfl,rfl⟩,λp hp=>⟨p,hp,rfl⟩⟩
 |k::l,L,won,h=>by
  unfold jK;split
  ·exact ve hC l L won h
  ·simp only;obtain⟨x,a⟩:=di (L.mark k.spec.num k.price false)
   have h1:I3 C x.2.2:=by
    rw[a];refine⟨bJ.mark_Ok h.led,λp hp=>?_,DQ h.led h.zero _ _ _⟩;obtain⟨q,c,f⟩:=yC hp;rw[<-f];exact h.held q c
   have b:x.2.2.all=L.all/\x.2.2.fund=L.fund:=by rw[a];exact bJ.mark_all
   have i:∀p∈x.2.2.held,∃q∈L.held,q.c=p.c:=by rw[a];exact λp hp=>yC hp
   rw[<-a];split
   ·exact⟨h1,b,i⟩
   ·obtain⟨m,g,j⟩:=ve hC l x.2.2 (iy won x.2.1) h1;refine⟨m,⟨g.1.trans b.1,g.2.trans b.2⟩,λp hp=>?_⟩;obtain⟨q,c,f⟩:=j p hp;obtain⟨n,e,d⟩:=i q c;exact⟨n,e,d.trans f⟩
structure Xy(C:oR)(L L' :bJ):Prop where
 led:I3 C L'
 stands:∀n,L.Stands n->L'.Stands n
 funds:L'.funds=L.funds
 held:L'.held=L.held
 fund:L'.fund=L.fund
def BH{C:oR}{accts:List Int}:∀(l:List Ac) (e:Int) (L:bJ),I3 C L->(∀a∈l,L.find a.num=some a)->(l.map (·.num)).Nodup->Xy C L (qK accts l e L).2
 | [],e,L,h,_,_=>⟨h,λ_ h=>h,rfl,rfl,rfl⟩
 |a::l,e,L,h,s,D=>by
  obtain⟨m,i⟩:=ce.1 D;have d:=s a aw;unfold qK;split
  ·rename_i F
   obtain⟨b,o⟩:=di ({a with dfl:=false}:Ac);rw[<-o];obtain⟨q,E,k⟩:=bJ.find_ok h.led d;have c:b.num=a.num:=by rw[o]
   have g:b.num≠0:=by rw[c];exact k
   have B:iU b.num:=by have:=h.led.acc a q;rw[c];exact⟨qZ,this.2.1⟩
   have r:∀n,n≠a.num->(L.set b).2.find n=L.find n:=λn f=>by
    rcases bJ.set_cases L b with⟨h1,-⟩|⟨h1,-⟩
    ·rw[h1]
    ·rw[h1];show(L.putA b).find n=_;rw[bJ.find_putA h.led.sa g,aa (by rw[c];exact f)]
   have A:I3 C (L.set b).2:=⟨bJ.set_Ok h.led B,λp hp=>by rw[pf]at hp;exact h.held p hp,tE (pf _ _) h.zero⟩
   have j:=BH (accts:=accts) l (L.set b).1 (L.set b).2 A (λx t=>by
    have f:x.num≠a.num:=λz=>m (by grind);rw[r _ f];exact s x (ag _ t)) i
   refine⟨j.led,λn w=>j.stands n (wT h.led w λz=>?_),j.funds.trans ?_,j.held.trans (pf _ _),j.fund.trans ?_⟩
   ·obtain⟨y,v,G,u⟩:=w;rw[<-z,c,d]at v;cases v;rw[F.1]at u;cases u
   ·rcases bJ.set_cases L b with⟨h1,-⟩|⟨h1,-⟩
    ·rw[h1]
    ·rw[h1];show(L.putA b).funds=_;rw[bJ.funds_putA h.led.sa,c,oS k,d,o];show L.funds+a.cash - a.cash=_;omega
   ·rcases bJ.set_cases L b with⟨h1,-⟩|⟨h1,-⟩
    ·rw[h1]
    ·rw[h1];show(L.putA b).fund=_;unfold bJ.putA;rw[aa g]
  ·exact BH l e L h (λx t=>s x (ag _ t)) i
def JS(C:oR):(fa C).2.l=C.l:=by unfold fa;split<;>rfl
def VD(h:C.Ok):(fa C).2.Ok:=by
 unfold fa;split
 ·exact h
 ·rename_i h1
  have:=h.day;exact⟨h.len,⟨by grind,by grind⟩,h.ok,h.srt⟩
def bt.Ok.day(h:S.Ok):({S with cal:=(fa S.cal).2}:bt).Ok:=
 h.setCal (VD h.cal) λn=>by rw[JS]
structure Mo(S:bt)(S1:bt)(won:Int->Int)(T:bt)(r:Rp):Prop where
 s1:S1={S with cal:=(fa S.cal).2,led:=(jK (fa S.cal).2.l S.led jN).2.1}
 hwon:won=(jK (fa S.cal).2.l S.led jN).2.2
 day:(fa S.cal).1=0
 mark:(jK (fa S.cal).2.l S.led jN).1=0
 pay:(S1.pay won).1=0
 res:r=(S1.pay won).2.1
 fin:T={(S1.pay won).2.2 with led:=(qK r.accts (S1.pay won).2.2.led.all 0 (S1.pay won).2.2.led).2}
def OA(h:S.settle.1=0):Mo S {S with cal:=(fa S.cal).2,led:=(jK (fa S.cal).2.l S.led jN).2.1} (jK (fa S.cal).2.l S.led jN).2.2 S.settle.2.2 S.settle.2.1:=by
 unfold bt.settle at h|-;simp only at h|-;by_cases h1:(fa S.cal).1≠0
 ·grind
 rw[aa h1]at h|-;by_cases a:(jK (fa S.cal).2.l S.led jN).1≠0
 ·grind
 rw[aa a]at h|-;by_cases b:(({S with cal:=(fa S.cal).2,led:=(jK (fa S.cal).2.l S.led jN).2.1}:bt).pay (jK (fa S.cal).2.l S.led jN).2.2).1≠0
 ·grind
 rw[aa b]at h|-;exact⟨rfl,rfl,by simpa using h1,by simpa using a,by simpa using b,rfl,rfl⟩
def xx(h:S.Ok):({S with cal:=(fa S.cal).2,led:=(jK (fa S.cal).2.l S.led jN).2.1}:bt).Ok:=by
 have a:=h.day;obtain⟨b,c,e⟩:=ve a.cal (fa S.cal).2.l S.led jN a.led;exact a.setLed b.led b.zero (λn o _ d=>(ue c.1 _).2 d) b.held (by rw[bJ.funds_of c];exact h.fnd)
def MB(h:S.Ok)(q:S.settle.1=0):S.settle.2.2.Ok/\S.settle.2.2.led.funds=S.led.funds:=by
 have e:=OA q;have c:=xx h;obtain⟨i,f⟩:=di ({S with cal:=(fa S.cal).2,led:=(jK (fa S.cal).2.l S.led jN).2.1}:bt);rw[<-f]at e c;obtain⟨hp,-⟩:=I5 c.led c.ord e.pay
 have b:=BH (C:=(i.pay (jK (fa S.cal).2.l S.led jN).2.2).2.2.cal) (accts:=S.settle.2.1.accts) (i.pay (jK (fa S.cal).2.l S.led jN).2.2).2.2.led.all 0 (i.pay (jK (fa S.cal).2.l S.led jN).2.2).2.2.led hp.led
  (λa e=>bJ.mem_find hp.led.led e) hp.led.led.sa.nodup
 have k:=(ve h.day.cal (fa S.cal).2.l S.led jN h.day.led).2.1
 have j:S.settle.2.2.led.funds=S.led.funds:=by
  rw[e.fin];show(qK _ _ _ _).2.funds=_;rw[b.funds,hp.funds,f];exact bJ.funds_of k
 refine⟨?_,j⟩;have g:=e.fin;rw[g];refine⟨by show(i.pay _).2.2.cal.Ok;rw[hp.cal];exact c.cal,b.led,?_,by show 1<=(i.pay _).2.2.next/\_;rw[hp.next];exact c.next,by show(qK _ _ _ _).2.funds<=_;rw[b.funds,hp.funds];exact c.fnd⟩;exact hp.ord.mono (λn p=>.inl p) (λn d=>gH.refl λo l=>(hp.ord.bkMay n d o l).1) (λn=>gH.refl (hp.ord.bdMay n)) (λn o _ m=>b.stands _ m) (eu _)
def N5(h:C.l.map (·.spec.num)=S.cal.l.map (·.spec.num))(a k:Int):({S with cal:=C}:bt).clear a k=((S.clear a k).1,{(S.clear a k).2 with cal:=C}):=by
 unfold bt.clear;have e:({S with cal:=C}:bt).nums=S.nums:=h;rw[e]
 have key:∀(b:List Int) (g:List Int) (T:bt),b.foldl (uL a) (g,({T with cal:=C}:bt))=((b.foldl (uL a) (g,T)).1,{(b.foldl (uL a) (g,T)).2 with cal:=C}):=by
  intro b;induction b with
  |nil=>intro g T;rfl
  |cons n b c=>
   intro g T;rw[ff,ff];exact c _ (uL a (g,T) n).2
 exact key _ [] S
def BS(a:Int):∀(b:List Int) (x:List Int×bt),(b.foldl (uL a) x).2.cal=x.2.cal
 | [],x=>rfl
 |n::b,x=>by rw[ff,BS a b];rfl
def su(S:bt)(a k:Int):(S.clear a k).2.cal=S.cal:=BS _ _ _
def Bb{C:oR}:∀(l:List Sd) (r:Rp) (S:bt),C.l.map (·.spec.num)=S.cal.l.map (·.spec.num)->nJ l r {S with cal:=C}=((nJ l r S).1,(nJ l r S).2.1,{(nJ l r S).2.2 with cal:=C})
 | [],r,S,_=>rfl
 |s::l,r,S,h=>by
  unfold nJ;simp only;rw[N5 h];have a:({S with cal:=C}:bt).acc s.acct=S.acc s.acct:=rfl;rw[a];cases b:s.dfl with
  |true=>
   simp only[df];split
   ·rfl
   ·exact Bb l _ {(S.clear s.acct 0).2 with led:=_} (by show _=(S.clear s.acct 0).2.cal.l.map _;rw[su];exact h)
  |false=>
   simp only[bi,dg];split
   ·rfl
   ·exact Bb l _ {S with led:=_} h
def Tb(won:Int->Int)(h:C.l.map (·.spec.num)=S.cal.l.map (·.spec.num)):({S with cal:=C}:bt).pay won=((S.pay won).1,(S.pay won).2.1,{(S.pay won).2.2 with cal:=C}):=by
 unfold bt.pay;simp only;have a:({S with cal:=C}:bt).dues won=S.dues won:=rfl;rw[a];split
 ·rfl
 ·rw[Bb _ _ _ h];simp only;split<;>rfl
def GL{l:List Ct}{n:Int}{f:Ct->Ct}(b:∀k∈l,(f k).spec.num=k.spec.num):(iu l n f).map (·.spec.num)=l.map (·.spec.num):=by
 unfold iu;rw[dQ];refine eh λk a=>?_;show(if k.spec.num=n then f k else k).spec.num=_;split
 ·exact b k a
 ·rfl
structure Mp(S:bt)(n:Int)(S1:bt)(won:Int->Int)(T:bt)(r:Rp):Prop where
 due:qU S.cal n=0
 cal:(fG S.cal n)=(0,⟨S.cal.day,iu S.cal.l n λk=>{k with st:=3}⟩)
 s1:S1={S with led:=(S.led.mark n (dO S.cal.l n).1.price true).2.2}
 hwon:won=iy jN (S.led.mark n (dO S.cal.l n).1.price true).2.1
 mark:(S.led.mark n (dO S.cal.l n).1.price true).1=0
 pay:(S1.pay won).1=0
 fin:T={(S1.pay won).2.2 with cal:=(fG S.cal n).2,bk:=eS (S1.pay won).2.2.bk n (jk ((S1.pay won).2.2.bk n) 0).1,bd:=eS (S1.pay won).2.2.bd n []}
 acc:r.accts=(S1.pay won).2.1.accts
def Mu(hC:S.cal.Ok){n:Int}(h:(S.expire n).1=0):Mp S n {S with led:=(S.led.mark n (dO S.cal.l n).1.price true).2.2} (iy jN (S.led.mark n (dO S.cal.l n).1.price true).2.1) (S.expire n).2.2 (S.expire n).2.1:=by
 unfold bt.expire at h|-;simp only at h|-;by_cases h1:(fG S.cal n).1≠0
 ·grind
 rw[aa h1]at h|-
 have c:qU S.cal n=0:=by
  apply aQ;intro j;apply h1;unfold fG;rw[ae j];exact j
 have a:fG S.cal n=(0,⟨S.cal.day,iu S.cal.l n λk=>{k with st:=3}⟩):=by unfold fG;rw[aa (by simp[c])]
 obtain⟨k,p,g,d,o⟩:=oI (BK c);have b:(dO S.cal.l n).1.spec.num=n:=by unfold dO;rw[p];exact d
 rw[b]at h|-;obtain⟨m,i⟩:=di (S.led.mark n (dO S.cal.l n).1.price true);rw[<-i]at h|-;by_cases l:m.1≠0
 ·grind
 rw[aa l]at h|-;have e:({S with cal:=(fG S.cal n).2,led:=m.2.2}:bt).pay (iy jN m.2.1)=_:=Tb (S:={S with led:=m.2.2}) (C:=(fG S.cal n).2) (iy jN m.2.1) (by rw[a];exact GL (f:=λk=>{k with st:=3}) λ_ _=>rfl);rw[e]at h|-;simp only at h|-;by_cases g:(({S with led:=m.2.2}:bt).pay (iy jN m.2.1)).1≠0
 ·grind
 rw[aa g]at h|-;exact⟨c,a,by rw[i],by rw[i],by grind,by simpa using g,rfl,rfl⟩
def ab2(h:sy S)(n:Int):(jk (S.bk n) 0).1=λ_=>[]:=by
 rw[G9 (h.bkNd n)];funext d;unfold Bk.flt;rw[gl];intro o _;simp[lW]
def Hm{L:bJ}(h:L.Ok){n price:Int}(d:(L.mark n price true).1=0){p:Po}(hp:p∈(L.mark n price true).2.2.held):p.c≠n:=by
 intro f;have b:=bJ.mark_Ok h (c:=n) (price:=price) (cl:=true);have e:=(b.pos p hp).2.2.1
 have a:(L.mark n price true).2.2.position p.c p.a=p:=by
  unfold bJ.position;have:=FW b.sp hp;unfold bJ.pos?;show(List.find? (λx=>decide (x.key=p.key)) _).getD _=p;rw[this];rfl
 have g:(L.mark n price true).2.2=L.marked (L.holders n) price true:=by
  unfold bJ.mark at d|-;split at d
  ·cases d
  ·grind
 rw[g]at a;rw[bJ.mark_pos h.sp,ae f]at a;rw[<-a]at e;unfold Po.mark Po.isZ at e;simp at e
def NA(h:S.Ok){n:Int}(I:(S.expire n).1=0):(S.expire n).2.2.Ok/\(S.expire n).2.2.led.funds=S.led.funds:=by
 have t:=Mu h.cal I;obtain⟨m,s⟩:=di (S.led.mark n (dO S.cal.l n).1.price true);have A:=t.mark;rw[<-s]at t;have y:m.2.2.Ok:=by rw[s];exact bJ.mark_Ok h.led.led
 have e:m.2.2.all=S.led.all/\m.2.2.fund=S.led.fund:=by rw[s];exact bJ.mark_all
 have r:({S with led:=m.2.2}:bt).Ok:=h.setLed y (by rw[s];exact DQ h.led.led h.led.zero _ _ _) (λk o _ B=>(ue e.1 _).2 B) (λp hp=>by
  rw[s]at hp;obtain⟨q,F,z⟩:=yC hp;rw[<-z];exact h.led.held q F) (by rw[bJ.funds_of e];exact h.fnd)
 obtain⟨hp,-⟩:=I5 r.led r.ord t.pay;obtain⟨T,G⟩:=di ((({S with led:=m.2.2}:bt).pay (iy jN m.2.1)).2.2);have i:=t.fin;rw[<-G]at hp i;have v:T.led.funds=S.led.funds:=by rw[hp.funds];exact bJ.funds_of e
 rw[i,t.cal];have c:=pU (l:=S.cal.l) (n:=n) (f:=λk=>{k with st:=3}) (λk E _=>⟨AM (h.cal.ok k E) qZ,rfl⟩) h.cal.ok h.cal.srt
 have u:∀x,x≠n->bG (iu S.cal.l n λk=>{k with st:=3}) x=bG S.cal.l x:=λx C=>by
  unfold bG;rw[qq (f:=λk=>{k with st:=3}) λ_ _=>rfl];cases D:cj S.cal.l x with
  |none=>rfl
  |some k=>
   have w:k.spec.num≠n:=by
    have:=lJ D;simp only[aS]at this;omega
   show(if(if k.spec.num=n then _ else k).st=3 then(50:Int)else 0)=_;rw[aa w]
 have j:∀p∈T.led.held,p.c≠n:=λp g=>by
  rw[hp.held]at g;have:p∈(S.led.mark n (dO S.cal.l n).1.price true).2.2.held:=by grind
  exact Hm h.led.led A this
 refine⟨⟨⟨by show(iu _ _ _).length<=16;rw[c.2.2];exact h.cal.len,h.cal.day,c.1,c.2.1⟩,⟨hp.led.led,λp g=>?_,hp.led.zero⟩,?_,by show 1<=T.next/\_;rw[hp.next];exact h.next,by show T.led.funds<=_;rw[v];exact h.fnd⟩,v⟩
 ·show bG (iu _ _ _) _=0;rw[u _ (j p g)];have:=hp.led.held p g
  rwa[hp.cal]at this
 ·have b:∀d,eS T.bk n (jk (T.bk n) 0).1 n d=[]:=λd=>by rw[cQ,ab2 hp.ord]
  refine hp.ord.mono (λx C=>?_) (λx d=>?_) (λx=>?_) (λ_ _ _ B=>B) (eu _)
  ·by_cases a:x=n
   ·subst a;right;show(eS T.bk x _ x).all++eS T.bd x [] x=[]
    unfold Bk.all;rw[b,b,cQ];rfl
   ·left;rw[hp.cal];show bG S.cal.l x≠0;rw[<-u x a];exact C
  ·show gH (eS T.bk n _ x d) _;by_cases a:x=n
   ·subst a;rw[b];exact⟨List.nil_sublist _,by simp⟩
   ·rw[eR _ _ _ a];exact gH.refl λo H=>(hp.ord.bkMay x d o H).1
  ·show gH (eS T.bd n [] x) _;by_cases a:x=n
   ·subst a;rw[cQ];exact⟨List.nil_sublist _,by simp⟩
   ·rw[eR _ _ _ a];exact gH.refl (hp.ord.bdMay x)
def Hc:∀(l:List Od) (qty a:Int),0<=qty->(∀o∈l,1<=o.left)->
  (∀f∈(my qty l a).1,1<=f.qty/\∃b∈l,b.num=f.num/\b.acct=f.acct/\f.qty<=b.left)/\((my qty l a).1.map (·.num)).Sublist (l.map (·.num))/\((my qty l a).1.map (·.qty)).sum<=qty
 | [],qty,a,c,_=>⟨by simp[my],by simp[my],by simp[my];exact c⟩
 |b::l,qty,a,c,e=>by
  have j:=e b aw;unfold my;split
  ·grind
  ·rename_i i
   obtain⟨h1,h,k⟩:=Hc l (qty - min qty b.left) b.price qZ λo g=>e o (ag _ g);refine⟨λf d=>?_,?_,?_⟩
   ·rcases ax.1 d with rfl|d
    ·grind
    ·grind
   ·grind
   ·grind
def A4{L:bJ}(h:L.Ok)(a:L.Zero){n f t:Int}{long:Bool}{price qty:Int}(b:iU n):(mq L n f t long price qty).2.Ok/\(mq L n f t long price qty).2.Zero/\((mq L n f t long price qty).2.all=L.all/\(mq L n f t long price qty).2.fund=L.fund)/\
  ∀p∈(mq L n f t long price qty).2.held,p∈L.held\/p.c=n:=by
 unfold mq;split
 ·exact⟨bJ.trade_Ok h b,wW h a _ _ _ _ _,bJ.trade_all,λp hp=>(wG hp).imp id (·.1)⟩
 ·exact⟨bJ.trade_Ok h b,wW h a _ _ _ _ _,bJ.trade_all,λp hp=>(wG hp).imp id (·.1)⟩
def EW(h:S.Ok){n f t:Int}{long:Bool}{price qty:Int}(a:bG S.cal.l n=0):({S with led:=(mq S.led n f t long price qty).2}:bt).Ok:=by
 obtain⟨h1,d,c,g⟩:=A4 h.led.led h.led.zero (f:=f) (t:=t) (long:=long) (price:=price) (qty:=qty) (ng h.cal a);refine h.setLed h1 d (λn o _ i=>(ue c.1 _).2 i) (λq e=>?_) (by rw[bJ.funds_of c];exact h.fnd);rcases g q e with b|b
 ·exact h.led.held q b
 ·rw[b];exact a
def Bl{l:List Od}(d:∀o∈l,o.may=true){num qty:Int}(h1:1<=qty)(j:∀o∈l,o.num=num->qty<=o.left):gH (kT l num qty) l/\∀o∈kT l num qty,o.num≠num->o∈l:=by
 unfold kT;cases k:l.findIdx? λo=>decide (o.num=num)with
 |none=>exact⟨gH.refl d,λo c _=>c⟩
 |some i=>
  obtain⟨b,f,-⟩:=bz.1 k;have a:l[i].num=num:=by simpa using f
  have g:l.getD i oQ=l[i]:=by grind
  simp only;rw[g];have n:=jD (d _ (aq b));have m:=j _ (aq b) a;split
  ·exact⟨gH.of_sub (fg _ _) d,λo c _=>(fg _ _).mem c⟩
  ·refine⟨gH.set d b qZ,λo c e=>?_⟩;rcases eD c with h|rfl
   ·exact h
   ·exact absurd a e
def Dy{n a:Int}{long:Bool}{price:Int}:∀(l:List Fl) (left:Int) (r:Rp) (S:bt),S.Ok->bG S.cal.l n=0->(∀f∈l,1<=f.qty/\∀o∈S.bd n,o.num=f.num->f.qty<=o.left)->(l.map (·.num)).Nodup->
  (nR n a long price l left r S).2.2.2.Ok/\(nR n a long price l left r S).2.2.2.cal=S.cal/\(nR n a long price l left r S).2.2.2.led.all=S.led.all/\(nR n a long price l left r S).2.2.2.led.fund=S.led.fund
 | [],left,r,S,h,_,_,_=>⟨h,rfl,rfl,rfl⟩
 |f::l,left,r,S,h,b,i,w=>by
  obtain⟨e,j⟩:=ce.1 w;obtain⟨q,x⟩:=i f aw;unfold nR;simp only;have v:=EW h (f:=a) (t:=f.acct) (long:=long) (price:=price) (qty:=f.qty) b;have u:=(A4 h.led.led h.led.zero (n:=n) (f:=a) (t:=f.acct) (long:=long) (price:=price) (qty:=f.qty) (ng h.cal b)).2.2.1;split
  ·grind
  ·obtain⟨m,s⟩:=Bl (h.ord.bdMay n) q x;have p:=v.setBd (n:=n) (B:=kT (S.bd n) f.num f.qty) m;have z:=Dy (n:=n) (a:=a) (long:=long) (price:=price) l (left - f.qty) {r with filled:=r.filled+f.qty,trades:=r.trades++[⟨price,f.qty,f.num,f.acct⟩]} _ p b (λg k=>⟨(i g (ag _ k)).1,λo c y=>?_⟩) j
   ·grind
   ·replace c:o∈eS S.bd n (kT (S.bd n) f.num f.qty) n:=c;rw[cQ]at c;have d:o.num≠f.num:=λA=>e (by grind);exact(i g (ag _ k)).2 o (s o c d) y
def DB{n a:Int}{long:Bool}{price:Int}:∀(l:List Hd) (r:Rp) (S:bt),S.Ok->bG S.cal.l n=0->(nL n a long price l r S).2.2.Ok/\(nL n a long price l r S).2.2.cal=S.cal/\(nL n a long price l r S).2.2.led.all=S.led.all/\(nL n a long price l r S).2.2.led.fund=S.led.fund
 | [],r,S,h,_=>⟨h,rfl,rfl,rfl⟩
 |x::l,r,S,h,b=>by
  unfold nL;simp only;have e:=EW h (f:=a) (t:=x.acct) (long:=long) (price:=price) (qty:=x.q) b;have c:=(A4 h.led.led h.led.zero (n:=n) (f:=a) (t:=x.acct) (long:=long) (price:=price) (qty:=x.q) (ng h.cal b)).2.2.1;split
  ·grind
  ·have d:=DB (n:=n) (a:=a) (long:=long) (price:=price) l {r with left:=r.left+x.q,trades:=r.trades++[⟨price,x.q,0,x.acct⟩]} _ e b;exact⟨d.1,d.2.1,d.2.2.1.trans c.1,d.2.2.2.trans c.2⟩
def Cc{sells:Bool}{qty:Int}{l:List Od}(a:∀o∈l,o.may=true)(d:0<=qty):(∀f∈(jj sells qty l).2.1,1<=f.qty/\∃b∈l,b.num=f.num/\b.acct=f.acct/\f.qty<=b.left)/\((l.map (·.num)).Nodup->((jj sells qty l).2.1.map (·.num)).Nodup)/\((jj sells qty l).2.1.map (·.qty)).sum<=qty:=by
 unfold jj;split
 ·grind
 ·split
  ·grind
  ·have hp:=Srt.stable_perm (oM (pH sells)) l;obtain⟨h1,h,e⟩:=Hc (Srt.stable (oM (pH sells)) l) qty 0 d λo c=>(jD (a o (hp.mem_iff.1 c))).1;refine⟨λf g=>?_,λi=>?_,e⟩
   ·grind
   ·grind
def LJ(h:S.Ok){k:Ct}{a q:Int}{r:Rp}(y:bG S.cal.l k.spec.num=0):(S.sell k a q r).2.2.Ok/\(S.sell k a q r).2.2.cal=S.cal/\(S.sell k a q r).2.2.led.all=S.led.all/\(S.sell k a q r).2.2.led.fund=S.led.fund:=by
 unfold bt.sell;simp only;obtain⟨c,e⟩:=di (decide (0<q):Bool);rw[<-e];obtain⟨l,u⟩:=di ((S.bd k.spec.num).filter λo=>o.buy==c);rw[<-u];split
 ·grind
 ·have i:∀o∈l,o∈S.bd k.spec.num:=λo g=>by rw[u]at g;exact(aU.1 g).1
  obtain⟨z,D,H⟩:=Cc (sells:=c) (qty:=max q (-q)) (l:=l) (λo g=>h.ord.bdMay _ o (i o g)) qZ;have v:(l.map (·.num)).Nodup:=(h.ord.bdNd k.spec.num).sublist (by rw[u];exact eI.map _);have d:=Dy (n:=k.spec.num) (a:=a) (long:=c) (price:=(jj c (max q (-q)) l).1) (jj c (max q (-q)) l).2.1 (max q (-q)) r S h y (λf A=>⟨(z f A).1,λo g E=>?_⟩) (D v)
  ·obtain⟨F,t⟩:=di (nR k.spec.num a c (jj c (max q (-q)) l).1 (jj c (max q (-q)) l).2.1 (max q (-q)) r S);rw[<-t]at d|-;obtain⟨G,w⟩:=di (if c=true then F.2.1 else -F.2.1);rw[<-w];split
   ·exact d
   ·split
    ·exact d
    ·split
     ·exact d
     ·have j:=DB (n:=k.spec.num) (a:=a) (long:=c) (price:=k.price) (ky G (((F.2.2.2.led.holders k.spec.num).filter λp=>decide (p.a≠a)).map λp=>⟨p.a,p.q⟩)).1 F.2.2.1 F.2.2.2 d.1 (by grind);exact⟨j.1,j.2.1.trans d.2.1,j.2.2.1.trans d.2.2.1,j.2.2.2.trans d.2.2.2⟩
  ·obtain⟨-,b,C,x,-,m⟩:=z f A
   have s:o=b:=by
    have h1:=kO (h.ord.bdNd _) g;have B:=kO (h.ord.bdNd _) (i b C);rw[E,<-x,B]at h1;exact(cZ h1).symm
   rw[s];exact m
def D3(h:S.Ok){n a:Int}(b:(S.led.position n a).q≠0):bG S.cal.l n=0:=by
 unfold bJ.position at b;cases hp:S.led.pos? (n,a)with
 |none=>rw[hp]at b;exact absurd rfl b
 |some p=>
  obtain⟨h1,c⟩:=bJ.pos_mem hp;have:=h.led.held p h1;have d:p.c=n:=ep (·.1) c
  rwa[d]at this
def Bh{a:Int}:∀(l:List Ct) (r:Rp) (S:bt),S.Ok->(pP a l r S).2.2.Ok/\(pP a l r S).2.2.cal=S.cal/\(pP a l r S).2.2.led.all=S.led.all/\(pP a l r S).2.2.led.fund=S.led.fund
 | [],r,S,h=>⟨h,rfl,rfl,rfl⟩
 |k::l,r,S,h=>by
  unfold pP;simp only;split
  ·exact Bh l r S h
  ·rename_i d
   have b:=LJ h (k:=k) (a:=a) (q:=(S.led.position k.spec.num a).q) (r:=r) (D3 h d);split
   ·exact b
   ·have c:=Bh (a:=a) l (S.sell k a (S.led.position k.spec.num a).q r).2.1 _ b.1;exact⟨c.1,c.2.1.trans b.2.1,c.2.2.1.trans b.2.2.1,c.2.2.2.trans b.2.2.2⟩
def Xb(h:S.Ok)(a:Ac):(S.liquidate a).2.2.Ok/\(S.liquidate a).2.2.led.all=S.led.all/\(S.liquidate a).2.2.led.fund=S.led.fund:=by
 unfold bt.liquidate;split
 ·exact⟨h,rfl,rfl⟩
 ·have:=Bh (a:=a.num) S.cal.l kI S h;exact⟨this.1,this.2.2⟩
def UO(h:S.Ok){c:Cm}(d:c.Fit)(a:(S.done c).1=0):(S.done c).2.2.Ok:=by
 unfold bt.done at a|-;by_cases k1:c.kind=1
 ·rw[ae k1];exact I4 h d.2.1
 rw[aa k1]at a|-;by_cases k2:c.kind=2
 ·rw[ae k2];exact zy h
 rw[aa k2]at a|-;by_cases k3:c.kind=3
 ·rw[ae k3]at a|-;simp only at a|-;rw[ae a];exact Tc h d.2.2.2.2.2.1 a
 rw[aa k3]at a|-;by_cases k4:c.kind=4
 ·rw[ae k4];exact TT h _ _
 rw[aa k4]at a|-;by_cases k11:c.kind=11
 ·rw[ae k11];exact I1 h _ _
 rw[aa k11]at a|-;by_cases k12:c.kind=12
 ·rw[ae k12]at a|-;exact(MB h a).1
 rw[aa k12]at a|-;by_cases k14:c.kind=14
 ·rw[ae k14]at a|-;exact(NA h a).1
 rw[aa k14]at a|-;by_cases b:c.acct=0
 ·grind
 rw[aa b]at a|-;by_cases k6:c.kind=6
 ·rw[ae k6];exact Nl h
 rw[aa k6]at a|-;by_cases k7:c.kind=7
 ·rw[ae k7]at a|-;exact Jm h d b a
 rw[aa k7]at a|-;by_cases e:S.led.getO c.acct=none
 ·grind
 rw[aa e]at a|-;by_cases k5:c.kind=5
 ·rw[ae k5]at a|-;exact RO h d b a
 rw[aa k5]at a|-;by_cases k9:c.kind=9
 ·rw[ae k9]at a|-;exact Yv h d b a
 rw[aa k9]at a|-;by_cases k8:c.kind=8
 ·rw[ae k8]at a|-;split
  ·exact h
  ·exact h.clear b
 rw[aa k8]at a|-;by_cases k10:c.kind=10
 ·rw[ae k10];exact Vh h b d.2.1 e c.on
 rw[aa k10]at a|-;by_cases k13:c.kind=13
 ·rw[ae k13];exact(Xb h _).1
 rw[aa k13];exact h
def H1(h:S.Ok){c:Cm}(b:c.Fit):(S.apply c).2.Ok:=by
 unfold bt.apply;split
 ·exact h
 ·simp only;split
  ·exact h
  ·rename_i a
   exact UO h b (by simpa using a)
def x8:bt.empty.Ok:=by
 refine⟨⟨by show(0:Nat)<=16;omega,⟨by show(0:Int)<=0;omega,by show(0:Int)<4294967296;omega⟩,λk c=>(by cases c),List.Pairwise.nil⟩,⟨⟨⟨by show(0:Int)<=0;omega,by show(0:Int)<=MF;unfold MF;omega⟩,List.Pairwise.nil,List.Pairwise.nil,by show(0:Nat)<=64;omega,λa e=>(by cases e),λp hp=>(by cases hp)⟩,λp hp=>(by cases hp),bJ.empty_zero⟩,
  ⟨λn _=>rfl,λn d=>⟨by show(0:Nat)<=100;omega,λo b=>(by cases b)⟩,λn o b=>(by cases b),λn=>ju,λn m o f b=>(by cases b),λn=>(by show(0:Nat)<=50;omega)⟩,⟨by show(1:Int)<=1;omega,by show(1:Int)<=jZ+1;unfold jZ;omega⟩,by show(0+(0:Int))<=MF;unfold MF;omega⟩
end Go.Proofs
namespace Go.Proofs
open Go Go.Vc
attribute [local congr] bj
variable {q:Int}{T:TypeId}{w:Wt_}{K:aZ}{s:lG}{x:lG×Value}
abbrev uN:TypeId:=414
def qp(x:lG×Value):List Value:=uJ x.1.leg++[.int .i64 x.1.basis,gI x.1.price,x.2]
def pz(x:lG×Value):(qp x).length=29:=by simp[qp,g9]
def EL(x:lG×Value)(h:∃a n c,x.2=.slice a n c):(qp x).all (·.oneCell')=true:=by
 obtain⟨a,n,c,h⟩:=h;rw[qp,eB,E7,h];rfl
def skT(x:lG×Value)(i:Nat)(h:i<26):(qp x)[i]? =(uJ x.1.leg)[i]? :=by rw[qp,cg (by rw[g9];omega)]
def Sm(x:lG×Value):(qp x)[25]? =some (gI x.1.leg.q):=by rw[skT x 25 qZ,Rq]
def Wo(x:lG×Value):(qp x)[26]? =some (gI x.1.basis):=by rw[qp,bp (by rw[g9];omega),g9];rfl
def KX(x:lG×Value):(qp x)[27]? =some (gI x.1.price):=by rw[qp,bp (by rw[g9];omega),g9];rfl
def GO(x:lG×Value):(qp x)[28]? =some x.2:=by rw[qp,bp (by rw[g9];omega),g9];rfl
def YE:Tryz.prog.cellsOf uN=28+1:=cV
def aSk:mh pQ uN=true:=cV
def zSk:nj pQ uN=true:=cV
def ak9:(jf pQ uN).length=28+1:=cV
def aa7:Tryz.prog.underlying 410=some (.slice uN):=cV
def eSk:fY pQ uN 29 240=true:=cV
def Qb{b:Nat}(h:hC w b (qp x).toArray T):At w b 0 (eV x.1.leg.spec):=by
 have:=(At.all h).sub 0 25 (by rw[pz];omega);rw[dW,qp,uJ,ar,aO (by rw[br];omega),aC (by rw[br];omega)]at this;exact this
def TH{b:Nat}(h:hC w b (qp x).toArray T):At w b 6 (vD x.1.leg.spec.shifts):=by
 have:=(Qb h).sub 6 16 (by rw[br];omega);rw[ti]at this;simpa using this
def lG.Fit(s:lG):Prop:=s.leg.spec.Fit/\ed s.leg.q/\ed s.basis/\ed s.price/\∀o∈s.ords,o.Fit
def Vi(s:Rd w 5 x.2 x.1.ords.length (x.1.ords.flatMap dF))(hn:x.1.ords.length<=1000000)(T:x.1.Fit)
  (n:∀M,M0 w M->K (.bool x.1.ok) M):Ca pQ 347 #[.agg (qp x).toArray] w K:=by
 obtain⟨Y,Q,f3,f4,f5⟩:=T;refine cN Tryz.func347 ?_;have J:M0 w (w.alloc (.cells (qp x).toArray uN)):=mG;have e:hC (w.alloc (.cells (qp x).toArray uN)) w.heap.size (qp x).toArray uN:=by simp[go_sem]
 apply ao (bO w.heap.size 0) (w.alloc (.cells (qp x).toArray uN)) rfl;obtain⟨p,E⟩:=di w.heap.size;rw[<-E]at e|-;generalize w.alloc (.cells (qp x).toArray uN)=w1 at J e|-;obtain⟨sa,sc,k⟩:=s.isSl;have a:∀{W:Wt_},(builtin .len #[146] 3 #[false] #[x.2]).run pQ W=.ok (.value (gI (x.1.ords.length:Int))) W:=λ{W}=>by rw[k];simp[go_sem]
 obtain⟨P,B⟩:=di ((aY x.1.basis (-1000000000000000) 1000000000000000&& aY x.1.leg.q (-10000000) 10000000&& x.1.leg.spec.isPrice x.1.price&& decide (x.1.ords.length<=250)):Bool);refine cT.at (λst W=>st=(.bool (!P),())/\M0 w1 W) ?_ ?_
 ·refine dI ?_;refine nS e Wo ?_;apply gM f3 qZ;refine dI ?_;rw[ay];cases h1:aY x.1.basis (-1000000000000000) 1000000000000000 with
  |false=>
   rw[ae (by simp)];exact⟨by rw[B,h1];rfl,rZ⟩
  |true=>
  rw[aa (by simp)];refine dI ?_;refine dI ?_;refine nS e Sm ?_;apply gM Q qZ;refine dI ?_;rw[ay];cases h2:aY x.1.leg.q (-10000000) 10000000 with
  |false=>
   rw[ae (by simp)];exact⟨by grind,rZ⟩
  |true=>
  rw[aa (by simp)];refine dI ?_;refine dI ?_;apply fH (eV x.1.leg.spec) 24 zi we (br _) (Qb e);refine dI ?_;refine nS e KX ?_;refine qk Y λr g=>?_;have D:=g.hpk e id;refine dI ?_;rw[ay];cases h3:x.1.leg.spec.isPrice x.1.price with
  |false=>
   rw[ae (by simp)];exact⟨by grind,g⟩
  |true=>
  rw[aa (by simp)];refine dI ?_;apply ao x.2 r (by rw[k];simp[go_sem,D,GO,k]);apply uz a
  refine ao (.bool (!decide (x.1.ords.length<=250))) r (by
   by_cases h:x.1.ords.length<=250
   ·have A:¬(250:Int)<(x.1.ords.length:Int):=qZ;simp[go_sem,h,A]
   ·have A:(250:Int)<(x.1.ords.length:Int):=qZ;simp[go_sem,h,A]) ?_
  exact⟨by grind,g⟩
 rintro _ r ⟨rfl,g⟩;refine kR ?_;intro _;rw[ay];have L:=J.trans g;cases j:P with
 |false=>
  rw[ae (by simp)];have f:=n r L
  have:x.1.ok=false:=by
   unfold lG.ok;rw[<-B,j];rfl
  rw[this]at f;exact f
 |true=>
 rw[aa (by simp)];have t:x.1.ok=x.1.ords.all (·.may):=by unfold lG.ok;rw[<-B,j];rfl
 rw[t]at n;have D:=g.hpk e id;refine dI ?_;apply ao x.2 r (by rw[k];simp[go_sem,D,GO,k]);apply uz a;obtain⟨l,Z⟩:=di x.1.ords;rw[<-Z]at s hn f5 n a|-
 refine d8 (λst W=>∃(i:Nat) (y:Vt_),i<=l.length/\st=(y,gI i,())/\M0 w W/\(l.take i).all (·.may)=true)
  (λst _=>match st.2.1 with| .int _ i=>l.length - i.toNat|_=>0) ⟨0,_,qZ,rfl,L,rfl⟩ ?_
 rintro⟨_,_,_⟩ W ⟨i,y,hi,⟨⟩,z,c⟩ KN u;refine lV ?_;intro _;by_cases d:i<l.length
 ·have m:(i:Int)<(l.length:Int):=qZ;refine dY m ?_;obtain⟨b,v,cap,C,G,S⟩:=(s.mod z d9).item dV d rfl;apply ao (bO b (v+i*5)) W (by rw[C];simp[go_sem,d,bK,ik]);apply bo (lE (o:=l[i]) S);obtain⟨w3,e3,F,X⟩:=jY W;apply bo e3;obtain⟨q,hq⟩:=di W.heap.size;rw[<-hq]at F|-;obtain⟨V,e4,b4,R⟩:=jE (o' :=l[i]) F;apply iE e4;apply bo (lE (o:=l[i]) (At.all b4));have U:M0 W V:=X.on R λb hb=>gr;refine vS λN O=>?_;have I:=(z.trans U).trans O;refine dI ?_;rw[ay];cases H:l[i].may with
  |false=>
   rw[ae (by simp)];have f:=n N I;have:l.all (·.may)=false:=kz.2 ⟨l[i],aq d,by rw[H];simp⟩;rw[this]at f;exact f
  |true=>
   rw[aa (by simp)];apply ao (gI ((i+1:Nat):Int)) N (by simp[go_sem];rw[mR]);refine u _ _ ⟨i+1,_,qZ,rfl,I,?_⟩ (by grind);rw[bR d,eB,c,nm,H];rfl
 ·obtain rfl:i=l.length:=qZ;refine eU ?_;rw[aK]at c;have f:=n W z;rw[c]at f;exact f
def IM{p:Nat}(h:hC w p (qp x).toArray T)(hs:x.1.leg.spec.Fit)(b:ed q)
  (c:∀a,M0 w a->K (gI (x.1.at q)) a):Ca pQ 374 #[.int .i64 q,.pointer (some ⟨p,0,none⟩)] w K:=by
 refine cN Tryz.func374 ?_;refine dI ?_;refine dI ?_;refine dI ?_;apply fH (vD x.1.leg.spec.shifts) 15 WO Xf (nt _) (TH h);refine Vm hs.2.2.2.2.2.2.1 b λa d=>?_;refine dI ?_;refine dI ?_;exact c a d
def MM(l:List Od)(o:Od)(buy:Bool):pL (l++[o]) buy=pL l buy+(if o.buy=buy then o.left else 0):=by
 unfold pL;rw[cy,aM,fU];congr 1;by_cases h:o.buy=buy
 ·grind
 ·grind
def AI{l:List Od}{buy:Bool}(h:∀o∈l,o.may=true):0<=pL l buy/\pL l buy<=l.length*1000000:=by
 have h1:=sL (l:=(l.filter λo=>o.buy==buy).map (·.left)) (B:=1000000) λx b=>by
  obtain⟨o,a,rfl⟩:=aL.1 b;have:=Od.left_bd (h o (aU.1 a).1);omega
 have c:((l.filter λo=>o.buy==buy).map (·.left)).length<=l.length:=by grind
 unfold pL;have d:(((l.filter λo=>o.buy==buy).map (·.left)).length:Int)*1000000<=l.length*1000000:=qZ;omega
def LF{price:Int}(hp:1<=price/\price<=10000000){o:Od}(h:o.may=true):0<=sV price o/\sV price o<=10000000000000:=by
 have h1:=Od.left_bd h;have d:=Od.price_bd h;unfold sV
 have key:∀a:Int,0<=a->a<=10000000->0<=a*o.left/\a*o.left<=10000000000000:=λa c e=>by
  have:=Eb (a:=a) (b:=o.left) (A:=10000000) (B:=1000000) qZ qZ;have f:0<=a*o.left:=jw c qZ;omega
 split
 ·exact key _ qZ qZ
 ·exact key _ qZ qZ
def Kv{price:Int}(hp:1<=price/\price<=10000000){l:List Od}(h:∀o∈l,o.may=true):0<=(l.map (sV price)).sum/\(l.map (sV price)).sum<=l.length*10000000000000:=by
 have:=sL (l:=l.map (sV price)) (B:=10000000000000) λx b=>by
  obtain⟨o,a,rfl⟩:=aL.1 b;exact LF hp (h o a)
 rwa[ah]at this
def Jd{B:Int}(i: -B<=q/\q<=B)(f:0<=B):∀{l:List Int},(∀x∈l,-10000000<=x/\x<=10000000)->0<=lP l q/\lP l q<=B*10000000:=by
 intro l
 have key:∀(l:List Int) (m:Int),(∀x∈l,-10000000<=x/\x<=10000000)->0<=m/\m<=B*10000000->0<=l.foldl (λm s=>max m (-q*s)) m/\l.foldl (λm s=>max m (-q*s)) m<=B*10000000:=by
  intro l;induction l with
  |nil=>intro m _ h;exact h
  |cons x l e=>
   intro m c j;rw[ff];have g:=Eb (a:= -q) (b:=x) (A:=B) (B:=10000000) qZ (c x (by simp));exact e _ (λy d=>c y (by simp[d])) qZ
 exact λh=>key l 0 h ⟨qZ,jw f qZ⟩
def DH(hs:s.leg.spec.may=true)(a: -1000000000<=q/\q<=1000000000):0<=s.at q/\s.at q<=10000000000000000:=by
 unfold lG.at ww;split
 ·grind
 ·exact Jd (B:=1000000000) a qZ (zk hs).1
def H2{s:Sp}{p:Int}(h:s.isPrice p=true):s.may=true:=by
 unfold Sp.isPrice at h;rw[ai]at h;exact h.1
structure lG.OkF(s:lG):Prop where
 basis: -1000000000000000<=s.basis/\s.basis<=1000000000000000
 q: -10000000<=s.leg.q/\s.leg.q<=10000000
 may:s.leg.spec.may=true
 price:1<=s.price/\s.price<=10000000
 len:s.ords.length<=250
 ords:∀o∈s.ords,o.may=true
def lG.okF(h:s.ok=true):s.OkF:=by
 unfold lG.ok at h;simp only[ai]at h;obtain⟨⟨⟨⟨h1,c⟩,a⟩,d⟩,e⟩:=h;exact⟨fe.1 h1,fe.1 c,H2 a,vy a,bE d,λo b=>bg.1 e o b⟩
def lG.worst_bd(h:s.ok=true):0<=s.worst/\s.worst<=12500000000000000:=by
 obtain⟨h1,m,j,k,n,i⟩:=lG.okF h;have a:=Kv k i;have b:=AI (buy:=true) i;have c:=AI (buy:=false) i;have l:(s.ords.length:Int)<=250:=qZ;have d:=DH (q:=s.leg.q+pL s.ords true) j qZ;have e:=DH (q:=s.leg.q - pL s.ords false) j qZ;have f:=DH (q:=s.leg.q) j qZ;unfold lG.worst;have g:(s.ords.length:Int)*10000000000000<=250*10000000000000:=qZ;omega
def NX(H:Rd w 5 x.2 x.1.ords.length (x.1.ords.flatMap dF))(hf:x.1.Fit)(J:x.1.ok=true)
  (hK:∀w',M0 w w' ->K (gI x.1.worst) w'):Ca pQ 349 #[.agg (qp x).toArray] w K:=by
 obtain⟨S,f2,f3,f4,f5⟩:=hf;obtain⟨k1,k2,k3,k4,k5,k6⟩:=lG.okF J;refine cN Tryz.func349 ?_;have m1:M0 w (w.alloc (.cells (qp x).toArray uN)):=mG;have E:hC (w.alloc (.cells (qp x).toArray uN)) w.heap.size (qp x).toArray uN:=by simp[go_sem]
 apply ao (bO w.heap.size 0) (w.alloc (.cells (qp x).toArray uN)) rfl;obtain⟨p,V⟩:=di w.heap.size;rw[<-V]at E|-;generalize w.alloc (.cells (qp x).toArray uN)=w1 at m1 E|-;obtain⟨sa,sc,P⟩:=H.isSl;refine dI ?_;apply ao x.2 w1 (by rw[P];simp[go_sem,E,GO,P]);apply iI (gI (x.1.ords.length:Int)) w1 (by rw[P];simp[go_sem]);obtain⟨l,hl⟩:=di x.1.ords;have g:x.1.worst=(l.map (sV x.1.price)).sum+max 0 (max (x.1.at (x.1.leg.q+pL l true)) (x.1.at (x.1.leg.q - pL l false)) - x.1.at x.1.leg.q):=by rw[hl];rfl
 rw[<-hl]at H f5 k5 k6|-;obtain⟨a,z⟩:=di x.1.price;rw[<-z]at k4 g
 refine d8 (λst W=>∃i:Nat,i<=l.length/\st=(gI ((l.take i).map (sV a)).sum,gI (pL (l.take i) true),gI (pL (l.take i) false),gI i,())/\M0 w W/\hC W p (qp x).toArray uN)
  (λst _=>match st.2.2.2.1 with| .int _ i=>l.length - i.toNat|_=>0) ⟨0,qZ,rfl,m1,E⟩ ?_
 rintro⟨_,_,_,_,_⟩ W ⟨i,hi,⟨⟩,Q,D⟩ KN N;refine lV ?_;intro _;have G:∀o∈l.take i,o.may=true:=λo h=>k6 o (bF h);have tl:((l.take i).length:Int)<=250:=by grind
 have s1:=Kv k4 G;have s2:=AI (buy:=true) G;have s3:=AI (buy:=false) G;by_cases v:i<l.length
 ·have C:(i:Int)<(l.length:Int):=qZ;refine dY C ?_;obtain⟨b,O,cap,U,Z,hA⟩:=(H.mod Q d9).item dV v rfl;apply ao (bO b (O+i*5)) W (by rw[U];simp[go_sem,v,bK,ik]);apply bo (lE (o:=l[i]) hA);obtain⟨w3,e3,Y,F⟩:=jY W;apply bo e3;obtain⟨q,hq⟩:=di W.heap.size;rw[<-hq]at Y|-;obtain⟨c,e4,r,L⟩:=jE (o' :=l[i]) Y;apply iE e4;have M4:M0 W c:=F.on L λb X=>gr;have y:=M4.hpk D id;have B:=bR v;obtain⟨o,M⟩:=di (l[i]);rw[<-M]at r B;have u:o.may=true:=k6 o (by grind);have ol:=Od.left_bd u;have op:=Od.price_bd u;have ow:=LF k4 u;unfold dF at r
  have k:∀b s:Int,b=pL (l.take (i+1)) true->s=pL (l.take (i+1)) false->KN (gI (((l.take (i+1)).map (sV a)).sum),gI b,gI s,gI ((i+1:Nat):Int),()) c:=λb s X R=>by
   subst X R;exact N _ _ ⟨i+1,qZ,rfl,Q.trans M4,y⟩ (by grind)
  have I:((l.take (i+1)).map (sV a)).sum=((l.take i).map (sV a)).sum+sV a o:=by grind
  have A:∀d,pL (l.take (i+1)) d=pL (l.take i) d+(if o.buy=d then o.left else 0):=λd=>by rw[B,MM]
  have n:=A true;have m:=A false;rw[I]at k;refine dI ?_;refine dN r ?_;have j:sV a o=if o.buy=true then max 0 (o.price - a)*o.left else max 0 (a - o.price)*o.left:=by unfold sV;rfl
  cases t:o.buy with
  |true=>
   rw[t]at n m j;rw[ae rfl]at j;rw[kJ];refine dI ?_;refine dN r ?_;apply ao (gI (pL (l.take i) true+o.left)) c (Ao ⟨qZ,qZ⟩);refine dI ?_;refine dN r ?_;refine dI ?_;refine XE (gI a) y KX z ?_;apply ao (gI (o.price - a)) c (FG ⟨qZ,qZ⟩);refine IF ?_;refine dI ?_;refine dN r ?_;apply ao (gI (sV a o)) c (by simp only[go_sem];simp;rw[<-j,mR]);apply ao (gI (((l.take i).map (sV a)).sum+sV a o)) c (Ao ⟨qZ,qZ⟩);apply ao (gI ((i+1:Nat):Int)) c (by simp[go_sem];rw[mR]);exact k _ _ (by rw[n];rfl) (by rw[m];simp)
  |false=>
   rw[t]at n m j;rw[aa (by simp)]at j;rw[jO];refine dI ?_;refine dN r ?_;apply ao (gI (pL (l.take i) false+o.left)) c (Ao ⟨qZ,qZ⟩);refine dI ?_;refine XE (gI a) y KX z ?_;apply bo (by simp[-Int.natCast_add,go_sem]<;>first|exact xg|exact rfl);apply bo (by simp[-Int.natCast_add,go_sem,r]<;>first|exact xg|exact rfl);apply ao (gI (a - o.price)) c (FG ⟨qZ,qZ⟩);refine IF ?_;refine dI ?_;refine dN r ?_;apply ao (gI (sV a o)) c (by simp only[go_sem];simp;rw[<-j,mR]);apply ao (gI (((l.take i).map (sV a)).sum+sV a o)) c (Ao ⟨qZ,qZ⟩);apply ao (gI ((i+1:Nat):Int)) c (by simp[go_sem];rw[mR]);exact k _ _ (by rw[n];simp) (by rw[m];rfl)
 ·obtain rfl:i=l.length:=qZ;refine eU ?_;rw[aK]at s1 s2 s3|-;refine dI ?_;refine dI ?_;refine nS D Sm ?_;apply ao (gI (x.1.leg.q+pL l true)) W (Ao ⟨qZ,qZ⟩);apply kf.2;show Ca pQ 374 #[.int .i64 (x.1.leg.q+pL l true),.pointer (some ⟨p,0,none⟩)] W _;refine IM D S ⟨qZ,qZ⟩ λw2 T=>?_;apply ao (gI (x.1.leg.q - pL l false)) w2 (FG ⟨qZ,qZ⟩);apply kf.2;show Ca pQ 374 #[.int .i64 (x.1.leg.q - pL l false),.pointer (some ⟨p,0,none⟩)] w2 _;refine IM (T.hpk D id) S ⟨qZ,qZ⟩ λw3 F=>?_;have d:=DH (s:=x.1) (q:=x.1.leg.q+pL l true) k3 qZ;have e:=DH (s:=x.1) (q:=x.1.leg.q - pL l false) k3 qZ;have f:=DH (s:=x.1) (q:=x.1.leg.q) k3 qZ;refine IF ?_;apply kf.2;show Ca pQ 374 #[.int .i64 x.1.leg.q,.pointer (some ⟨p,0,none⟩)] w3 _;refine IM (F.hpk (T.hpk D id) id) S f2 λc L=>?_;apply ao (gI (max (x.1.at (x.1.leg.q+pL l true)) (x.1.at (x.1.leg.q - pL l false)) - x.1.at x.1.leg.q)) c (FG ⟨qZ,qZ⟩);refine IF ?_;apply ao (gI x.1.worst) c (by rw[g];exact Ao ⟨qZ,qZ⟩);exact hK c (((Q.trans T).trans F).trans L)
end Go.Proofs
