/- Part of a proof. -/
import Derived.Test.YtekbnpagidkbbaaGreatQ17
set_option linter.all false
namespace Go.Proofs
open Go Go.Vc
variable {S:bo}{C:oe}
def yJ:∀(ix p:List Int),(∀i∈ix,0<=i/\i<p.length)->(∀x∈p,0<=x)->(qu ix p).sum=p.sum+ix.length/\∀x∈qu ix p,0<=x
 | [],p,_,hp=>⟨by simp[qu],hp⟩
 |i::ix,p,l,hp=>by
  have n:=l i ai;have b:i.toNat<p.length:=qZ;obtain⟨c,a⟩:=df (p.set i.toNat (p.getD i.toNat 0+1));have d:p.getD i.toNat 0=p[i.toNat]:=by grind
  have o:c.length=p.length:=by grind
  have k:c.sum=p.sum+1:=by rw[a,d,zD b];omega
  have m:∀x∈c,0<=x:=λx f=>by
   rw[a]at f;rcases ep f with h|rfl
   ·exact hp x h
   ·have:=hp _ (av b);rw[d];omega
  obtain⟨h1,g⟩:=yJ ix c (λj q=>by grind) m;have e:qu (i::ix) p=qu ix c:=by rw[a];rfl
  rw[e];refine⟨?_,g⟩;rw[h1,k,be];omega
def AS{t:Int}{l:List Int}(h:(ft t l).2=0):0<=t/\(ft t l).1.sum=t/\(∀x∈(ft t l).1,0<=x)/\(ft t l).1.length=l.length:=by
 refine⟨?_,?_⟩
 ·unfold ft at h;split at h
  ·cases h
  ·split at h
   ·cases h
   ·rename_i h1;omega
 have a:=vE h;unfold ft at h a|-;by_cases h1:1000<l.length
 ·grind
 rw[aa h1]at h a|-;by_cases r:t<0\/(l.any λx=>decide (x<0))=true
 ·grind
 rw[aa r]at h a|-;by_cases y:¬eP l.sum
 ·grind
 rw[aa y]at h a|-;by_cases o:t=0
 ·rw[ae o]at a|-;refine⟨?_,λx m=>by grind,a⟩;rw[o]
  have:∀n:Nat,(List.replicate n (0:Int)).sum=0:=λn=>by
   induction n with
   |zero=>rfl
   |succ n C=>rw[List.replicate_succ,bC,C];rfl
  exact this _
 rw[aa o]at h a|-;by_cases w:l.sum=0
 ·grind
 rw[aa w]at a|-;simp only at a|-
 have D:∀x∈l,0<=x:=λx m=>by
  apply aI;intro E;exact r (.inr (g8.2 ⟨x,m,aQ qZ⟩))
 obtain⟨c,d⟩:=df (l.map Int.toNat);rw[<-d]at a|-
 have s:(c.sum:Int)=l.sum:=by
  rw[<-sE,d,dK];congr 1;have:l.map ((λx:Nat=>(x:Int))∘Int.toNat)=l.map id:=dZ λx m=>by grind
  rw[this,kD]
 have f:0<c.sum:=by grind
 have u:=Ei f t.toNat (az c.sum);have e:=G0 f t.toNat rfl;unfold su;obtain⟨q,g⟩:=df (oR t.toNat c.sum c);rw[<-g]at u e|-;have k:q.length=c.length:=by rw[g];unfold oR;rw[ah]
 have b:(uC (qE t.toNat c.sum c)).Perm ((List.range (qE t.toNat c.sum c).length).map λi:Nat=>(i:Int)):=Srt.stable_perm _ _;have p:(qE t.toNat c.sum c).length=c.length:=by unfold qE;rw[ah]
 rw[p]at b
 obtain⟨A,v⟩:=yJ ((uC (qE t.toNat c.sum c)).take (t.toNat - q.sum)) (q.map λx:Nat=>(x:Int)) (λi z=>by
  have:=b.mem_iff.1 (cE z);obtain⟨j,B,rfl⟩:=aL.1 this;rw[eR]at B;rw[ah,k];omega) (λx m=>by grind)
 refine⟨?_,v,?_⟩
 ·rw[A,sE,aB,b.length_eq,ah,List.length_range];omega
 ·rw[vO,ah,k,d,ah]
def vS:∀(ix:List Nat) (a:List Int) (o:List Sd),(kT ix a o).map (·.acct)=o.map (·.acct)/\(kT ix a o).map (·.dfl)=o.map (·.dfl)
 | [],a,o=>by cases a<;>exact⟨rfl,rfl⟩
 |i::ix,[],o=>⟨rfl,rfl⟩
 |i::ix,p::a,o=>by
  cases b:o[i]? with
  |none=>
   have e:kT (i::ix) (p::a) o=kT ix a o:=by
    conv=>lhs;unfold kT
    rw[b]
   rw[e];exact vS ix a o
  |some x=>
   obtain⟨c,d⟩:=aF.1 b
   have e:kT (i::ix) (p::a) o=kT ix a (o.set i {x with cut:=p,cash:=IntKind.i64.wrap (x.cash - p)}):=by
    conv=>lhs;unfold kT
    rw[b]
   rw[e];obtain⟨h1,f⟩:=vS ix a (o.set i {x with cut:=p,cash:=IntKind.i64.wrap (x.cash - p)});rw[h1,f,gy,gy];constructor
   ·have:x.acct=(o.map (·.acct))[i]'(by simpa using c):=by rw[cD,d]
    show(o.map _).set i x.acct=_;rw[this,gw]
   ·have:x.dfl=(o.map (·.dfl))[i]'(by simpa using c):=by rw[cD,d]
    show(o.map _).set i x.dfl=_;rw[this,gw]
def BX:∀(ix:List Nat) (a:List Int) (o:List Sd),ix.length=a.length->ix.Nodup->(∀i∈ix,i<o.length)->(∀p∈a,0<=p/\p<=7000000000000000000)->(∀s∈o,0<=s.cash/\s.cash<=1000000000000000000)->
  ((kT ix a o).map (·.cash)).sum=(o.map (·.cash)).sum - a.sum
 | [],[],o,_,_,_,_,_=>by simp[kT]
 | [],p::a,o,g,_,_,_,_=>by simp at g
 |i::ix,[],o,g,_,_,_,_=>by simp at g
 |i::ix,p::a,o,g,C,u,hp,t=>by
  have d:=u i ai;obtain⟨k,n⟩:=bY.1 C;have A:=hp p ai;have v:=t _ (av d);have z:IntKind.i64.wrap (o[i].cash - p)=o[i].cash - p:=by rw[bU];omega
  have e:kT (i::ix) (p::a) o=kT ix a (o.set i {o[i]with cut:=p,cash:=o[i].cash - p}):=by
   conv=>lhs;unfold kT
   rw[aq d];simp only;rw[z]
  rw[e]
  have l:∀(ix:List Nat) (a:List Int) (o:List Sd) (y:Sd),i ∉ ix->kT ix a (o.set i y)=(kT ix a o).set i y:=by
   intro ix;induction ix with
   |nil=>intro a o y _;cases a<;>rfl
   |cons j ix f=>
    intro a o y b;rw[ar,lD]at b;cases a with
    |nil=>rfl
    |cons q a=>
     have B:(o.set i y)[j]? =o[j]? :=by grind
     unfold kT;rw[B];cases o[j]? with
     |none=>exact f a o y b.2
     |some x=>
      simp only;rw[List.set_comm _ _ b.1,f a _ y b.2]
  rw[l ix a o _ k];have f:=BX ix a o (by simpa using g) n (λj b=>u j (af _ b)) (λq w=>hp q (af _ w)) t
  have c:∀(ix:List Nat) (a:List Int) (o:List Sd),i ∉ ix->(kT ix a o)[i]? =o[i]? :=by
   intro ix;induction ix with
   |nil=>intro a o _;cases a<;>rfl
   |cons j ix f=>
    intro a o b;rw[ar,lD]at b;cases a with
    |nil=>rfl
    |cons q a=>
     unfold kT;rw[f _ _ b.2];cases o[j]? with
     |none=>rfl
     |some x=>simp only;rw[List.getElem?_set_ne λh=>b.1 h.symm]
  have r:=c ix a o k;rw[aq d]at r;obtain⟨D,m⟩:=aF.1 r;rw[gy,zD (by grind),cD,m,f,bC];show _ - _+(o[i].cash - p)=_;omega
def PG(l:List Du):((l.map zy).map (·.cash)).sum=(l.map (·.cash)).sum+(l.map (·.v)).sum+(l.map iE).sum:=by
 induction l with
 |nil=>rfl
 |cons d l a=>
  rw[aD,aD,bC,a,aD,aD,aD,bC,bC,bC]
  have:(zy d).cash=d.cash+d.v+iE d:=by
   unfold zy iE;split<;>simp only<;>omega
  rw[this];omega
def vJ:∀(l:List Du) (i:Nat),(lK i l).Nodup
 | [],i=>iP
 |d::l,i=>by
  rw[lK];split
  ·refine bY.2 ⟨λa=>?_,vJ l (i+1)⟩;have:=wi l (i+1) i a;omega
  ·exact vJ l (i+1)
structure QW(fund:Int)(l:List Du)(out:List Sd)(left:Int):Prop where
 acct:out.map (·.acct)=l.map (·.acct)
 dfl:out.map (·.dfl)=l.map λd=>decide (d.cash+d.v<0)
 sum:(out.map (·.cash)).sum+left=(l.map (·.cash)).sum+fund
 left:0<=left/\left<=fund
 v0:(l.map (·.v)).sum=0
def JV{fund:Int}{l:List Du}(h:(gR fund l).2.2=0):QW fund l (gR fund l).1 (gR fund l).2.1:=by
 unfold gR at h|-;by_cases h1:64<l.length
 ·grind
 rw[aa h1]at h|-;by_cases f:qO fund l=false
 ·grind
 rw[aa f]at h|-;by_cases b:(sm (l.map (·.v))).2≠0\/(sm (l.map (·.v))).1≠0
 ·grind
 rw[aa b]at h|-;obtain⟨t,r⟩:=df ((l.map iE).sum - min fund (l.map iE).sum);rw[<-r]at h|-;by_cases j:(ft t (kS l)).2≠0
 ·grind
 rw[aa j];simp only;have a:qO fund l=true:=by simpa using f
 unfold qO at a;rw[ao]at a;have c:=DC a.1;have e:0<=fund/\fund<=1000000000000000:=eU.1 a.2;have q:=Kq c;obtain⟨s1,g,k,o⟩:=AS (by simpa using j:(ft t (kS l)).2=0)
 have m:(l.map (·.v)).sum=0:=by
  simp only[lD,ne_eq,Classical.not_not]at b;unfold sm at b;split at b
  ·exact b.2
  ·cases b.1
 obtain⟨u,v⟩:=vS (lK 0 l) (ft t (kS l)).1 (l.map zy);refine⟨?_,?_,?_,⟨qZ,qZ⟩,m⟩
 ·rw[u,dK];exact dZ λd _=>by show(zy d).acct=d.acct;unfold zy;split<;>rfl
 ·rw[v,dK];refine dZ λd _=>?_;show(zy d).dfl=_;unfold zy;split
  ·grind
  ·grind
 ·rw[BX _ _ _ (by rw[wF,o]) (vJ l 0) (λi x=>by have:=wi l 0 i x;rw[ah];omega)
   (λp hp=>⟨k p hp,by have:=Dx k p hp;rw[g]at this;omega⟩) (λs w=>?_),PG,g,m]
  ·omega
  ·obtain⟨d,n,rfl⟩:=aL.1 w;have:=Du.rng (c d n);unfold zy;split<;>simp only<;>omega
def OS{l:List Ac}(h:mg l){a:Ac}(g:∃x∈l,x.num=a.num):BH l a=l.map λx=>if x.num=a.num then a else x:=by
 have b:∀x:Ac,(if x.num=a.num then a else x).num=x.num:=λx=>by grind
 have c:mg (l.map λx=>if x.num=a.num then a else x):=by
  unfold mg;rw[eA];exact h.imp λ{x y} d=>by grind
 apply N3 (rZ h a) c;have nd:∀{l:List Ac},mg l->l.Nodup:=λf=>f.imp λh e=>by rw[e]at h;omega
 rw[List.perm_ext_iff_of_nodup (nd (rZ h a)) (nd c)];intro x;rw[rz,aL];constructor
 ·rintro(⟨h1,i⟩|rfl)
  ·grind
  ·grind
 ·rintro⟨y,j,rfl⟩;split
  ·exact .inr rfl
  ·grind
def sj(l:List Sd)(a:Ac):Ac:=match l.find? (λs=>decide (s.acct=a.num))with|some s=>{a with cash:=s.cash,dfl:=a.dfl||s.dfl}|none=>a
structure X5(l:List Sd)(r:Rp)(S:bo)(r' :Rp)(T:bo):Prop where
 led:HK T.cal T.led
 ord:rC T
 cal:T.cal=S.cal
 next:T.next=S.next
 held:T.led.held=S.led.held
 fund:T.led.fund=S.led.fund
 all:T.led.all=S.led.all.map (sj l)
 sub:∀n o,o∈T.ords n->o∈S.ords n
 accts:r'.accts=r.accts++(l.filter (·.dfl)).map (·.acct)
def JG:∀(l:List Sd) (r:Rp) (S:bo),HK S.cal S.led->rC S->(∀s∈l,S.led.find s.acct≠none)->(l.map (·.acct)).Nodup->(mR l r S).1=0->X5 l r S (mR l r S).2.1 (mR l r S).2.2
 | [],r,S,f,E,_,_,_=>⟨f,E,rfl,rfl,rfl,rfl,by
   have:S.led.all.map (sj [])=S.led.all.map id:=dZ λ_ _=>rfl;rw[this,kD];rfl,dS,by simp[mR]⟩
 |s::l,r,S,f,E,hf,Z,D=>by
  obtain⟨W,V⟩:=bY.1 Z;have T:=hf s ai
  obtain⟨x,M⟩:∃x,S.led.find s.acct=some x:=by
   cases h:S.led.find s.acct with
   |none=>exact absurd h T
   |some x=>exact⟨x,rfl⟩
  obtain⟨J,B,e⟩:=bE.find_ok f.led M;have G:S.acc s.acct=x:=by unfold bo.acc;rw[og e,M];rfl
  obtain⟨b,j⟩:=df (if s.dfl=true then(S.clear s.acct 0).2 else S);have X:=tp E (a:=s.acct) (k:=0) e
  have K:b.cal=S.cal/\b.led=S.led/\b.next=S.next:=by
   rw[j];split
   ·exact X
   ·grind
  have w:rC b:=by
   rw[j];split
   ·exact xU E e
   ·exact E
  have g:∀n o,o∈b.ords n->o∈S.ords n/\(s.dfl=true->o.acct≠s.acct):=λn o q=>by
   rw[j]at q;split at q
   ·have:=AE E e q;exact⟨this.2,λ_=>this.1⟩
   ·grind
  obtain⟨a,N⟩:=df ({x with cash:=s.cash,dfl:=x.dfl||s.dfl}:Ac);obtain⟨O,I⟩:=df (if s.dfl=true then{r with accts:=r.accts++[s.acct],gone:=r.gone++(S.clear s.acct 0).1}else r:Rp)
  have P:mR (s::l) r S=if(b.led.set a).1≠0 then((b.led.set a).1,O,{b with led:=(b.led.set a).2})else mR l O {b with led:=(b.led.set a).2}:=by
   conv=>lhs;unfold mR
   simp only;rw[G,<-N,<-j,<-I]
  rw[P]at D|-;by_cases h1:(b.led.set a).1≠0
  ·grind
  rw[aa h1]at D|-;have H:(b.led.set a).1=0:=by simpa using h1
  rw[K.2.1]at H D|-;have i:=bE.set_ok1 H;have c:a.num=s.acct:=by rw[N];exact B
  have C:a.num≠0:=by rw[c];exact e
  have hu:kV a.num:=by have:=f.led.acc x J;rw[c,<-B];exact⟨qZ,this.2.1⟩
  have A:∀n,(S.led.set a).2.find n=if n=a.num then some a else S.led.find n:=λn=>by rw[i];exact bE.find_putA f.led.sa C n
  have hL2:HK b.cal (S.led.set a).2:=⟨bE.set_Ok f.led hu,λp hp=>by rw[oz]at hp;rw[K.1];exact f.held p hp,so (oz _ _) f.zero⟩
  have Y:rC {b with led:=(S.led.set a).2}:=by
   refine w.mono (λn Z=>.inl Z) (λn d=>gA.refl λo q=>(w.bkMay n d o q).1) (λn=>gA.refl (w.bdMay n)) (λn o q z=>?_) (ed _);have hd:=(g n o q).2;rw[K.2.1]at z;refine vL f.led z λD=>?_;have F:s.acct=o.acct:=c.symm.trans D;obtain⟨y,L,hk,R⟩:=z;rw[<-F,M]at L;cases L;rw[N];refine⟨hk,?_⟩;cases u:s.dfl with
   |true=>exact absurd F.symm (hd u)
   |false=>show(x.dfl||false)=false;rw[R];rfl
  have hnot:∀t∈l,t.acct≠s.acct:=λt Q D=>W (by grind)
  have v:=JG l O {b with led:=(S.led.set a).2} hL2 Y (λt Q=>by
   show(S.led.set a).2.find t.acct≠none;rw[A,aa (by grind)];exact hf t (af _ Q)) V D
  refine⟨v.led,v.ord,v.cal.trans K.1,v.next.trans K.2.2,v.held.trans (oz _ _),v.fund.trans ?_,?_,λn o q=>(g n o (v.sub n o q)).1,?_⟩
  ·show(S.led.set a).2.fund=_;rw[i];unfold bE.putA;rw[aa C]
  ·rw[v.all];show(S.led.set a).2.all.map _=_
   have:(S.led.set a).2.all=S.led.all.map λy=>if y.num=a.num then a else y:=by
    rw[i];unfold bE.putA;rw[aa C];exact OS f.led.sa ⟨x,J,B.trans c.symm⟩
   rw[this,dK];refine dZ λy L=>?_;show sj l (if y.num=a.num then a else y)=sj (s::l) y;by_cases m:y.num=a.num
   ·rw[ae m]
    have U:y=x:=by
     have:=bE.mem_find f.led L;rw[m,c,M]at this;exact(cS this).symm
    have e2:sj l a=a:=by
     unfold sj
     have:l.find? (λs=>decide (s.acct=a.num))=none:=by
      rw[dU];exact λt Q=>by grind
     rw[this]
    rw[e2];unfold sj;rw[im (by rw[m,c];simp),U,N]
   ·rw[aa m];unfold sj;rw[io (by grind)]
  ·rw[v.accts,I];cases u:s.dfl with
   |true=>
    rw[ae rfl,bI (by exact u),aD];show(r.accts++[s.acct])++_=_;rw[aH];rfl
   |false=>
    rw[aa (by simp),aU (by rw[u];simp)]
def MM{l:List Sd}(b:(l.map (·.acct)).Nodup){i:Nat}(hi:i<l.length):l.find? (λs=>decide (s.acct=l[i].acct))=some l[i]:=by
 rw[dJ];refine⟨by simp,i,hi,rfl,λj a=>?_⟩;have:=(bL.1 b) j i (by grind) (by grind) a;rw[cD,cD]at this;simpa using this
def La{A:List Ac}{l:List Sd}(h:l.map (·.acct)=A.map (·.num))(e:(A.map (·.num)).Nodup):(A.map (sj l)).map (·.cash)=l.map (·.cash)/\∀i (hi:i<A.length) (a:i<l.length),sj l A[i]={A[i]with cash:=l[i].cash,dfl:=A[i].dfl||l[i].dfl}:=by
 have b:l.length=A.length:=by have:=dW List.length h;rwa[ah,ah]at this
 have key:∀i (hi:i<A.length) (a:i<l.length),sj l A[i]={A[i]with cash:=l[i].cash,dfl:=A[i].dfl||l[i].dfl}:=λi hi a=>by
  have d:l[i].acct=A[i].num:=by
   have:(l.map (·.acct))[i]? =(A.map (·.num))[i]? :=by rw[h]
   rw[cz,cz,aq a,aq hi]at this;exact cS this
  unfold sj;have:=MM (l:=l) (by rw[h];exact e) a;rw[d]at this;rw[this]
 refine⟨List.ext_getElem (by simp[b]) λi h1 c=>?_,key⟩;rw[ah,ah]at h1;rw[ah]at c;rw[cD,cD,cD,key i h1 c]
structure WV(S:bo)(won:Int->Int)(T:bo)(out:List Sd)(left:Int):Prop where
 set:QW S.led.fund (S.dues won) out left
 led:HK T.cal T.led
 ord:rC T
 cal:T.cal=S.cal
 next:T.next=S.next
 held:T.led.held=S.led.held
 fund:T.led.fund=left
 all:T.led.all=S.led.all.map (sj out)
 funds:T.led.funds=S.led.funds
 sub:∀n o,o∈T.ords n->o∈S.ords n
def MT(S:bo)(won:Int->Int):(S.dues won).map (·.acct)=S.led.all.map (·.num)/\(S.dues won).map (·.cash)=S.led.all.map (·.cash)/\(S.dues won).map (·.v)=S.led.all.map λa=>won a.num:=by
 unfold bo.dues;rw[dK,dK,dK];exact⟨rfl,rfl,rfl⟩
def HM(k:HK S.cal S.led)(u:rC S){won:Int->Int}(h:(S.pay won).1=0):
  WV S won (S.pay won).2.2 (gR S.led.fund (S.dues won)).1 (gR S.led.fund (S.dues won)).2.1/\(S.pay won).2.1.accts=((gR S.led.fund (S.dues won)).1.filter (·.dfl)).map (·.acct):=by
 unfold bo.pay at h|-;simp only at h|-;obtain⟨x,r⟩:=df (gR S.led.fund (S.dues won));rw[<-r]at h|-;by_cases h1:x.2.2≠0
 ·grind
 rw[aa h1]at h|-;have m:QW S.led.fund (S.dues won) x.1 x.2.1:=by rw[r];exact JV (by grind)
 by_cases q:(mR x.1 jw S).1≠0
 ·grind
 rw[aa q]at h|-;simp only at h|-;obtain⟨d1,d2,d3⟩:=MT S won;have c:x.1.map (·.acct)=S.led.all.map (·.num):=m.acct.trans d1;have f:(S.led.all.map (·.num)).Nodup:=k.led.sa.nodup
 have hp:=JG x.1 jw S k u (λs t=>by
  have:s.acct∈S.led.all.map (·.num):=by grind
  obtain⟨a,A,z⟩:=aL.1 this;rw[<-z,bE.mem_find k.led A];simp) (by rw[c];exact f) (by simpa using q)
 obtain⟨y,v⟩:=df (mR x.1 jw S);rw[<-v]at h hp|-;have b:=bE.set_ok1 h;have g:y.2.2.led.putA ⟨0,x.2.1,false,false⟩={y.2.2.led with fund:=x.2.1}:=by unfold bE.putA;rw[ae rfl]
 rw[g]at b;have l:=bE.set_Ok hp.led.led (a:=⟨0,x.2.1,false,false⟩) ⟨by grind,by grind⟩;refine⟨⟨m,⟨l,λp e=>?_,?_⟩,?_,hp.cal,hp.next,?_,?_,?_,?_,λn o i=>hp.sub n o i⟩,by rw[hp.accts];rfl⟩
 ·rw[b]at e;exact hp.led.held p e
 ·rw[b];exact hp.led.zero
 ·refine hp.ord.mono (λn w=>.inl w) (λn d=>gA.refl λo i=>(hp.ord.bkMay n d o i).1) (λn=>gA.refl (hp.ord.bdMay n)) (λn o i j=>?_) (ed _);show bE.Stands (y.2.2.led.set _).2 _;rw[b];exact j
 ·show(y.2.2.led.set _).2.held=_;rw[b];exact hp.held
 ·grind
 ·show(y.2.2.led.set _).2.all=_;rw[b];exact hp.all
 ·show(y.2.2.led.set _).2.funds=_;rw[b];unfold bE.funds;show x.2.1+(y.2.2.led.all.map (·.cash)).sum=_;rw[hp.all,(La c f).1];have:=m.sum;rw[d2]at this;omega
def uj{C:oe}(hC:C.Ok):∀(l:List Ct) (L:bE) (won:Int->Int),HK C L->HK C (jj l L won).2.1/\((jj l L won).2.1.all=L.all/\(jj l L won).2.1.fund=L.fund)/\∀p∈(jj l L won).2.1.held,∃q∈L.held,q.c=p.c
 | [],L,won,h=>⟨h,⟨rfl,rfl⟩,λp hp=>⟨p,hp,rfl⟩⟩
 |k::l,L,won,h=>by
  unfold jj;split
  ·exact uj hC l L won h
  ·simp only;obtain⟨x,a⟩:=df (L.mark k.spec.num k.price false)
   have h1:HK C x.2.2:=by
    rw[a];refine⟨bE.mark_Ok h.led,λp hp=>?_,CM h.led h.zero _ _ _⟩;obtain⟨q,c,f⟩:=xw hp;rw[<-f];exact h.held q c
   have b:x.2.2.all=L.all/\x.2.2.fund=L.fund:=by rw[a];exact bE.mark_all
   have i:∀p∈x.2.2.held,∃q∈L.held,q.c=p.c:=by rw[a];exact λp hp=>xw hp
   rw[<-a];split
   ·exact⟨h1,b,i⟩
   ·obtain⟨m,g,j⟩:=uj hC l x.2.2 (ii won x.2.1) h1;refine⟨m,⟨g.1.trans b.1,g.2.trans b.2⟩,λp hp=>?_⟩;obtain⟨q,c,f⟩:=j p hp;obtain⟨n,e,d⟩:=i q c;exact⟨n,e,d.trans f⟩
structure VS(C:oe)(L L' :bE):Prop where
 led:HK C L'
 stands:∀n,L.Stands n->L'.Stands n
 funds:L'.funds=L.funds
 held:L'.held=L.held
 fund:L'.fund=L.fund
def AI{C:oe}{accts:List Int}:∀(l:List Ac) (e:Int) (L:bE),HK C L->(∀a∈l,L.find a.num=some a)->(l.map (·.num)).Nodup->VS C L (qf accts l e L).2
 | [],e,L,h,_,_=>⟨h,λ_ h=>h,rfl,rfl,rfl⟩
 |a::l,e,L,h,s,D=>by
  obtain⟨m,i⟩:=bY.1 D;have d:=s a ai;unfold qf;split
  ·rename_i F
   obtain⟨b,o⟩:=df ({a with dfl:=false}:Ac);rw[<-o];obtain⟨q,E,k⟩:=bE.find_ok h.led d;have c:b.num=a.num:=by rw[o]
   have g:b.num≠0:=by rw[c];exact k
   have B:kV b.num:=by have:=h.led.acc a q;rw[c];exact⟨qZ,this.2.1⟩
   have r:∀n,n≠a.num->(L.set b).2.find n=L.find n:=λn f=>by
    rcases bE.set_cases L b with⟨h1,-⟩|⟨h1,-⟩
    ·rw[h1]
    ·rw[h1];show(L.putA b).find n=_;rw[bE.find_putA h.led.sa g,aa (by rw[c];exact f)]
   have A:HK C (L.set b).2:=⟨bE.set_Ok h.led B,λp hp=>by rw[oz]at hp;exact h.held p hp,so (oz _ _) h.zero⟩
   have j:=AI (accts:=accts) l (L.set b).1 (L.set b).2 A (λx t=>by
    have f:x.num≠a.num:=λz=>m (by grind);rw[r _ f];exact s x (af _ t)) i
   refine⟨j.led,λn w=>j.stands n (vL h.led w λz=>?_),j.funds.trans ?_,j.held.trans (oz _ _),j.fund.trans ?_⟩
   ·obtain⟨y,v,G,u⟩:=w;rw[<-z,c,d]at v;cases v;rw[F.1]at u;cases u
   ·rcases bE.set_cases L b with⟨h1,-⟩|⟨h1,-⟩
    ·rw[h1]
    ·rw[h1];show(L.putA b).funds=_;rw[bE.funds_putA h.led.sa,c,og k,d,o];show L.funds+a.cash - a.cash=_;omega
   ·rcases bE.set_cases L b with⟨h1,-⟩|⟨h1,-⟩
    ·rw[h1]
    ·rw[h1];show(L.putA b).fund=_;unfold bE.putA;rw[aa g]
  ·exact AI l e L h (λx t=>s x (af _ t)) i
def Ix(C:oe):(eS C).2.l=C.l:=by unfold eS;split<;>rfl
def TS(h:C.Ok):(eS C).2.Ok:=by
 unfold eS;split
 ·exact h
 ·rename_i h1
  have:=h.day;exact⟨h.len,⟨by grind,by grind⟩,h.ok,h.srt⟩
def bo.Ok.day(h:S.Ok):({S with cal:=(eS S.cal).2}:bo).Ok:=
 h.setCal (TS h.cal) λn=>by rw[Ix]
structure KI(S:bo)(S1:bo)(won:Int->Int)(T:bo)(r:Rp):Prop where
 s1:S1={S with cal:=(eS S.cal).2,led:=(jj (eS S.cal).2.l S.led jq).2.1}
 hwon:won=(jj (eS S.cal).2.l S.led jq).2.2
 day:(eS S.cal).1=0
 mark:(jj (eS S.cal).2.l S.led jq).1=0
 pay:(S1.pay won).1=0
 res:r=(S1.pay won).2.1
 fin:T={(S1.pay won).2.2 with led:=(qf r.accts (S1.pay won).2.2.led.all 0 (S1.pay won).2.2.led).2}
def MN(h:S.settle.1=0):KI S {S with cal:=(eS S.cal).2,led:=(jj (eS S.cal).2.l S.led jq).2.1} (jj (eS S.cal).2.l S.led jq).2.2 S.settle.2.2 S.settle.2.1:=by
 unfold bo.settle at h|-;simp only at h|-;by_cases h1:(eS S.cal).1≠0
 ·grind
 rw[aa h1]at h|-;by_cases a:(jj (eS S.cal).2.l S.led jq).1≠0
 ·grind
 rw[aa a]at h|-;by_cases b:(({S with cal:=(eS S.cal).2,led:=(jj (eS S.cal).2.l S.led jq).2.1}:bo).pay (jj (eS S.cal).2.l S.led jq).2.2).1≠0
 ·grind
 rw[aa b]at h|-;exact⟨rfl,rfl,by simpa using h1,by simpa using a,by simpa using b,rfl,rfl⟩
def wj(h:S.Ok):({S with cal:=(eS S.cal).2,led:=(jj (eS S.cal).2.l S.led jq).2.1}:bo).Ok:=by
 have a:=h.day;obtain⟨b,c,e⟩:=uj a.cal (eS S.cal).2.l S.led jq a.led;exact a.setLed b.led b.zero (λn o _ d=>(th c.1 _).2 d) b.held (by rw[bE.funds_of c];exact h.fnd)
def K0(h:S.Ok)(q:S.settle.1=0):S.settle.2.2.Ok/\S.settle.2.2.led.funds=S.led.funds:=by
 have e:=MN q;have c:=wj h;obtain⟨i,f⟩:=df ({S with cal:=(eS S.cal).2,led:=(jj (eS S.cal).2.l S.led jq).2.1}:bo);rw[<-f]at e c;obtain⟨hp,-⟩:=HM c.led c.ord e.pay
 have b:=AI (C:=(i.pay (jj (eS S.cal).2.l S.led jq).2.2).2.2.cal) (accts:=S.settle.2.1.accts) (i.pay (jj (eS S.cal).2.l S.led jq).2.2).2.2.led.all 0 (i.pay (jj (eS S.cal).2.l S.led jq).2.2).2.2.led hp.led
  (λa e=>bE.mem_find hp.led.led e) hp.led.led.sa.nodup
 have k:=(uj h.day.cal (eS S.cal).2.l S.led jq h.day.led).2.1
 have j:S.settle.2.2.led.funds=S.led.funds:=by
  rw[e.fin];show(qf _ _ _ _).2.funds=_;rw[b.funds,hp.funds,f];exact bE.funds_of k
 refine⟨?_,j⟩;have g:=e.fin;rw[g];refine⟨by show(i.pay _).2.2.cal.Ok;rw[hp.cal];exact c.cal,b.led,?_,by show 1<=(i.pay _).2.2.next/\_;rw[hp.next];exact c.next,by show(qf _ _ _ _).2.funds<=_;rw[b.funds,hp.funds];exact c.fnd⟩;exact hp.ord.mono (λn p=>.inl p) (λn d=>gA.refl λo l=>(hp.ord.bkMay n d o l).1) (λn=>gA.refl (hp.ord.bdMay n)) (λn o _ m=>b.stands _ m) (ed _)
def Mq(h:C.l.map (·.spec.num)=S.cal.l.map (·.spec.num))(a k:Int):({S with cal:=C}:bo).clear a k=((S.clear a k).1,{(S.clear a k).2 with cal:=C}):=by
 unfold bo.clear;have e:({S with cal:=C}:bo).nums=S.nums:=h;rw[e]
 have key:∀(b:List Int) (g:List Int) (T:bo),b.foldl (tY a) (g,({T with cal:=C}:bo))=((b.foldl (tY a) (g,T)).1,{(b.foldl (tY a) (g,T)).2 with cal:=C}):=by
  intro b;induction b with
  |nil=>intro g T;rfl
  |cons n b c=>
   intro g T;rw[eV,eV];exact c _ (tY a (g,T) n).2
 exact key _ [] S
def AR(a:Int):∀(b:List Int) (x:List Int×bo),(b.foldl (tY a) x).2.cal=x.2.cal
 | [],x=>rfl
 |n::b,x=>by rw[eV,AR a b];rfl
def rA(S:bo)(a k:Int):(S.clear a k).2.cal=S.cal:=AR _ _ _
def zY{C:oe}:∀(l:List Sd) (r:Rp) (S:bo),C.l.map (·.spec.num)=S.cal.l.map (·.spec.num)->mR l r {S with cal:=C}=((mR l r S).1,(mR l r S).2.1,{(mR l r S).2.2 with cal:=C})
 | [],r,S,_=>rfl
 |s::l,r,S,h=>by
  unfold mR;simp only;rw[Mq h];have a:({S with cal:=C}:bo).acc s.acct=S.acc s.acct:=rfl;rw[a];cases b:s.dfl with
  |true=>
   simp only[cZ];split
   ·rfl
   ·exact zY l _ {(S.clear s.acct 0).2 with led:=_} (by show _=(S.clear s.acct 0).2.cal.l.map _;rw[rA];exact h)
  |false=>
   simp only[bj,da];split
   ·rfl
   ·exact zY l _ {S with led:=_} h
def Rx(won:Int->Int)(h:C.l.map (·.spec.num)=S.cal.l.map (·.spec.num)):({S with cal:=C}:bo).pay won=((S.pay won).1,(S.pay won).2.1,{(S.pay won).2.2 with cal:=C}):=by
 unfold bo.pay;simp only;have a:({S with cal:=C}:bo).dues won=S.dues won:=rfl;rw[a];split
 ·rfl
 ·rw[zY _ _ _ h];simp only;split<;>rfl
def E3{l:List Ct}{n:Int}{f:Ct->Ct}(b:∀k∈l,(f k).spec.num=k.spec.num):(ic l n f).map (·.spec.num)=l.map (·.spec.num):=by
 unfold ic;rw[dK];refine dZ λk a=>?_;show(if k.spec.num=n then f k else k).spec.num=_;split
 ·exact b k a
 ·rfl
structure KK(S:bo)(n:Int)(S1:bo)(won:Int->Int)(T:bo)(r:Rp):Prop where
 due:qq S.cal n=0
 cal:(fq S.cal n)=(0,⟨S.cal.day,ic S.cal.l n λk=>{k with st:=3}⟩)
 s1:S1={S with led:=(S.led.mark n (dI S.cal.l n).1.price true).2.2}
 hwon:won=ii jq (S.led.mark n (dI S.cal.l n).1.price true).2.1
 mark:(S.led.mark n (dI S.cal.l n).1.price true).1=0
 pay:(S1.pay won).1=0
 fin:T={(S1.pay won).2.2 with cal:=(fq S.cal n).2,bk:=eL (S1.pay won).2.2.bk n (iK ((S1.pay won).2.2.bk n) 0).1,bd:=eL (S1.pay won).2.2.bd n []}
 acc:r.accts=(S1.pay won).2.1.accts
def KS(hC:S.cal.Ok){n:Int}(h:(S.expire n).1=0):KK S n {S with led:=(S.led.mark n (dI S.cal.l n).1.price true).2.2} (ii jq (S.led.mark n (dI S.cal.l n).1.price true).2.1) (S.expire n).2.2 (S.expire n).2.1:=by
 unfold bo.expire at h|-;simp only at h|-;by_cases h1:(fq S.cal n).1≠0
 ·grind
 rw[aa h1]at h|-
 have c:qq S.cal n=0:=by
  apply aI;intro j;apply h1;unfold fq;rw[ae j];exact j
 have a:fq S.cal n=(0,⟨S.cal.day,ic S.cal.l n λk=>{k with st:=3}⟩):=by unfold fq;rw[aa (by simp[c])]
 obtain⟨k,p,g,d,o⟩:=nR (AK c);have b:(dI S.cal.l n).1.spec.num=n:=by unfold dI;rw[p];exact d
 rw[b]at h|-;obtain⟨m,i⟩:=df (S.led.mark n (dI S.cal.l n).1.price true);rw[<-i]at h|-;by_cases l:m.1≠0
 ·grind
 rw[aa l]at h|-;have e:({S with cal:=(fq S.cal n).2,led:=m.2.2}:bo).pay (ii jq m.2.1)=_:=Rx (S:={S with led:=m.2.2}) (C:=(fq S.cal n).2) (ii jq m.2.1) (by rw[a];exact E3 (f:=λk=>{k with st:=3}) λ_ _=>rfl);rw[e]at h|-;simp only at h|-;by_cases g:(({S with led:=m.2.2}:bo).pay (ii jq m.2.1)).1≠0
 ·grind
 rw[aa g]at h|-;exact⟨c,a,by rw[i],by rw[i],by grind,by simpa using g,rfl,rfl⟩
def Y4(h:rC S)(n:Int):(iK (S.bk n) 0).1=λ_=>[]:=by
 rw[Fm (h.bkNd n)];funext d;unfold Bk.flt;rw[gf];intro o _;simp[ly]
def FB{L:bE}(h:L.Ok){n price:Int}(d:(L.mark n price true).1=0){p:Po}(hp:p∈(L.mark n price true).2.2.held):p.c≠n:=by
 intro f;have b:=bE.mark_Ok h (c:=n) (price:=price) (cl:=true);have e:=(b.pos p hp).2.2.1
 have a:(L.mark n price true).2.2.position p.c p.a=p:=by
  unfold bE.position;have:=EA b.sp hp;unfold bE.pos?;show(List.find? (λx=>decide (x.key=p.key)) _).getD _=p;rw[this];rfl
 have g:(L.mark n price true).2.2=L.marked (L.holders n) price true:=by
  unfold bE.mark at d|-;split at d
  ·cases d
  ·grind
 rw[g]at a;rw[bE.mark_pos h.sp,ae f]at a;rw[<-a]at e;unfold Po.mark Po.isZ at e;simp at e
def LV(h:S.Ok){n:Int}(I:(S.expire n).1=0):(S.expire n).2.2.Ok/\(S.expire n).2.2.led.funds=S.led.funds:=by
 have t:=KS h.cal I;obtain⟨m,s⟩:=df (S.led.mark n (dI S.cal.l n).1.price true);have A:=t.mark;rw[<-s]at t;have y:m.2.2.Ok:=by rw[s];exact bE.mark_Ok h.led.led
 have e:m.2.2.all=S.led.all/\m.2.2.fund=S.led.fund:=by rw[s];exact bE.mark_all
 have r:({S with led:=m.2.2}:bo).Ok:=h.setLed y (by rw[s];exact CM h.led.led h.led.zero _ _ _) (λk o _ B=>(th e.1 _).2 B) (λp hp=>by
  rw[s]at hp;obtain⟨q,F,z⟩:=xw hp;rw[<-z];exact h.led.held q F) (by rw[bE.funds_of e];exact h.fnd)
 obtain⟨hp,-⟩:=HM r.led r.ord t.pay;obtain⟨T,G⟩:=df ((({S with led:=m.2.2}:bo).pay (ii jq m.2.1)).2.2);have i:=t.fin;rw[<-G]at hp i;have v:T.led.funds=S.led.funds:=by rw[hp.funds];exact bE.funds_of e
 rw[i,t.cal];have c:=pv (l:=S.cal.l) (n:=n) (f:=λk=>{k with st:=3}) (λk E _=>⟨zA (h.cal.ok k E) qZ,rfl⟩) h.cal.ok h.cal.srt
 have u:∀x,x≠n->bt (ic S.cal.l n λk=>{k with st:=3}) x=bt S.cal.l x:=λx C=>by
  unfold bt;rw[pL (f:=λk=>{k with st:=3}) λ_ _=>rfl];cases D:cg S.cal.l x with
  |none=>rfl
  |some k=>
   have w:k.spec.num≠n:=by
    have:=lh D;simp only[aX]at this;omega
   show(if(if k.spec.num=n then _ else k).st=3 then(50:Int)else 0)=_;rw[aa w]
 have j:∀p∈T.led.held,p.c≠n:=λp g=>by
  rw[hp.held]at g;have:p∈(S.led.mark n (dI S.cal.l n).1.price true).2.2.held:=by grind
  exact FB h.led.led A this
 refine⟨⟨⟨by show(ic _ _ _).length<=16;rw[c.2.2];exact h.cal.len,h.cal.day,c.1,c.2.1⟩,⟨hp.led.led,λp g=>?_,hp.led.zero⟩,?_,by show 1<=T.next/\_;rw[hp.next];exact h.next,by show T.led.funds<=_;rw[v];exact h.fnd⟩,v⟩
 ·show bt (ic _ _ _) _=0;rw[u _ (j p g)];have:=hp.led.held p g
  rwa[hp.cal]at this
 ·have b:∀d,eL T.bk n (iK (T.bk n) 0).1 n d=[]:=λd=>by rw[cO,Y4 hp.ord]
  refine hp.ord.mono (λx C=>?_) (λx d=>?_) (λx=>?_) (λ_ _ _ B=>B) (ed _)
  ·by_cases a:x=n
   ·subst a;right;show(eL T.bk x _ x).all++eL T.bd x [] x=[]
    unfold Bk.all;rw[b,b,cO];rfl
   ·left;rw[hp.cal];show bt S.cal.l x≠0;rw[<-u x a];exact C
  ·show gA (eL T.bk n _ x d) _;by_cases a:x=n
   ·subst a;rw[b];exact⟨List.nil_sublist _,by simp⟩
   ·rw[eJ _ _ _ a];exact gA.refl λo H=>(hp.ord.bkMay x d o H).1
  ·show gA (eL T.bd n [] x) _;by_cases a:x=n
   ·subst a;rw[cO];exact⟨List.nil_sublist _,by simp⟩
   ·rw[eJ _ _ _ a];exact gA.refl (hp.ord.bdMay x)
def Fq:∀(l:List Od) (qty a:Int),0<=qty->(∀o∈l,1<=o.left)->
  (∀f∈(lP qty l a).1,1<=f.qty/\∃b∈l,b.num=f.num/\b.acct=f.acct/\f.qty<=b.left)/\((lP qty l a).1.map (·.num)).Sublist (l.map (·.num))/\((lP qty l a).1.map (·.qty)).sum<=qty
 | [],qty,a,c,_=>⟨by simp[lP],by simp[lP],by simp[lP];exact c⟩
 |b::l,qty,a,c,e=>by
  have j:=e b ai;unfold lP;split
  ·grind
  ·rename_i i
   obtain⟨h1,h,k⟩:=Fq l (qty - min qty b.left) b.price qZ λo g=>e o (af _ g);refine⟨λf d=>?_,?_,?_⟩
   ·rcases ar.1 d with rfl|d
    ·grind
    ·grind
   ·grind
   ·grind
def zQ{L:bE}(h:L.Ok)(a:L.Zero){n f t:Int}{long:Bool}{price qty:Int}(b:kV n):(lO L n f t long price qty).2.Ok/\(lO L n f t long price qty).2.Zero/\((lO L n f t long price qty).2.all=L.all/\(lO L n f t long price qty).2.fund=L.fund)/\
  ∀p∈(lO L n f t long price qty).2.held,p∈L.held\/p.c=n:=by
 unfold lO;split
 ·exact⟨bE.trade_Ok h b,vN h a _ _ _ _ _,bE.trade_all,λp hp=>(vy hp).imp id (·.1)⟩
 ·exact⟨bE.trade_Ok h b,vN h a _ _ _ _ _,bE.trade_all,λp hp=>(vy hp).imp id (·.1)⟩
def DM(h:S.Ok){n f t:Int}{long:Bool}{price qty:Int}(a:bt S.cal.l n=0):({S with led:=(lO S.led n f t long price qty).2}:bo).Ok:=by
 obtain⟨h1,d,c,g⟩:=zQ h.led.led h.led.zero (f:=f) (t:=t) (long:=long) (price:=price) (qty:=qty) (mE h.cal a);refine h.setLed h1 d (λn o _ i=>(th c.1 _).2 i) (λq e=>?_) (by rw[bE.funds_of c];exact h.fnd);rcases g q e with b|b
 ·exact h.led.held q b
 ·rw[b];exact a
def Aj{l:List Od}(d:∀o∈l,o.may=true){num qty:Int}(h1:1<=qty)(j:∀o∈l,o.num=num->qty<=o.left):gA (kz l num qty) l/\∀o∈kz l num qty,o.num≠num->o∈l:=by
 unfold kz;cases k:l.findIdx? λo=>decide (o.num=num)with
 |none=>exact⟨gA.refl d,λo c _=>c⟩
 |some i=>
  obtain⟨b,f,-⟩:=bp.1 k;have a:l[i].num=num:=by simpa using f
  have g:l.getD i nZ=l[i]:=by grind
  simp only;rw[g];have n:=ir (d _ (av b));have m:=j _ (av b) a;split
  ·exact⟨gA.of_sub (eB _ _) d,λo c _=>(eB _ _).mem c⟩
  ·refine⟨gA.set d b qZ,λo c e=>?_⟩;rcases ep c with h|rfl
   ·exact h
   ·exact absurd a e
def Cs{n a:Int}{long:Bool}{price:Int}:∀(l:List Fl) (left:Int) (r:Rp) (S:bo),S.Ok->bt S.cal.l n=0->(∀f∈l,1<=f.qty/\∀o∈S.bd n,o.num=f.num->f.qty<=o.left)->(l.map (·.num)).Nodup->
  (nr n a long price l left r S).2.2.2.Ok/\(nr n a long price l left r S).2.2.2.cal=S.cal/\(nr n a long price l left r S).2.2.2.led.all=S.led.all/\(nr n a long price l left r S).2.2.2.led.fund=S.led.fund
 | [],left,r,S,h,_,_,_=>⟨h,rfl,rfl,rfl⟩
 |f::l,left,r,S,h,b,i,w=>by
  obtain⟨e,j⟩:=bY.1 w;obtain⟨q,x⟩:=i f ai;unfold nr;simp only;have v:=DM h (f:=a) (t:=f.acct) (long:=long) (price:=price) (qty:=f.qty) b;have u:=(zQ h.led.led h.led.zero (n:=n) (f:=a) (t:=f.acct) (long:=long) (price:=price) (qty:=f.qty) (mE h.cal b)).2.2.1;split
  ·grind
  ·obtain⟨m,s⟩:=Aj (h.ord.bdMay n) q x;have p:=v.setBd (n:=n) (B:=kz (S.bd n) f.num f.qty) m;have z:=Cs (n:=n) (a:=a) (long:=long) (price:=price) l (left - f.qty) {r with filled:=r.filled+f.qty,trades:=r.trades++[⟨price,f.qty,f.num,f.acct⟩]} _ p b (λg k=>⟨(i g (af _ k)).1,λo c y=>?_⟩) j
   ·grind
   ·replace c:o∈eL S.bd n (kz (S.bd n) f.num f.qty) n:=c;rw[cO]at c;have d:o.num≠f.num:=λA=>e (by grind);exact(i g (af _ k)).2 o (s o c d) y
def Cv{n a:Int}{long:Bool}{price:Int}:∀(l:List Hd) (r:Rp) (S:bo),S.Ok->bt S.cal.l n=0->(mV n a long price l r S).2.2.Ok/\(mV n a long price l r S).2.2.cal=S.cal/\(mV n a long price l r S).2.2.led.all=S.led.all/\(mV n a long price l r S).2.2.led.fund=S.led.fund
 | [],r,S,h,_=>⟨h,rfl,rfl,rfl⟩
 |x::l,r,S,h,b=>by
  unfold mV;simp only;have e:=DM h (f:=a) (t:=x.acct) (long:=long) (price:=price) (qty:=x.q) b;have c:=(zQ h.led.led h.led.zero (n:=n) (f:=a) (t:=x.acct) (long:=long) (price:=price) (qty:=x.q) (mE h.cal b)).2.2.1;split
  ·grind
  ·have d:=Cv (n:=n) (a:=a) (long:=long) (price:=price) l {r with left:=r.left+x.q,trades:=r.trades++[⟨price,x.q,0,x.acct⟩]} _ e b;exact⟨d.1,d.2.1,d.2.2.1.trans c.1,d.2.2.2.trans c.2⟩
def A9{sells:Bool}{qty:Int}{l:List Od}(a:∀o∈l,o.may=true)(d:0<=qty):(∀f∈(iJ sells qty l).2.1,1<=f.qty/\∃b∈l,b.num=f.num/\b.acct=f.acct/\f.qty<=b.left)/\((l.map (·.num)).Nodup->((iJ sells qty l).2.1.map (·.num)).Nodup)/\((iJ sells qty l).2.1.map (·.qty)).sum<=qty:=by
 unfold iJ;split
 ·grind
 ·split
  ·grind
  ·have hp:=Srt.stable_perm (nX (oO sells)) l;obtain⟨h1,h,e⟩:=Fq (Srt.stable (nX (oO sells)) l) qty 0 d λo c=>(ir (a o (hp.mem_iff.1 c))).1;refine⟨λf g=>?_,λi=>?_,e⟩
   ·grind
   ·grind
def J9(h:S.Ok){k:Ct}{a q:Int}{r:Rp}(y:bt S.cal.l k.spec.num=0):(S.sell k a q r).2.2.Ok/\(S.sell k a q r).2.2.cal=S.cal/\(S.sell k a q r).2.2.led.all=S.led.all/\(S.sell k a q r).2.2.led.fund=S.led.fund:=by
 unfold bo.sell;simp only;obtain⟨c,e⟩:=df (decide (0<q):Bool);rw[<-e];obtain⟨l,u⟩:=df ((S.bd k.spec.num).filter λo=>o.buy==c);rw[<-u];split
 ·grind
 ·have i:∀o∈l,o∈S.bd k.spec.num:=λo g=>by rw[u]at g;exact(aT.1 g).1
  obtain⟨z,D,H⟩:=A9 (sells:=c) (qty:=max q (-q)) (l:=l) (λo g=>h.ord.bdMay _ o (i o g)) qZ;have v:(l.map (·.num)).Nodup:=(h.ord.bdNd k.spec.num).sublist (by rw[u];exact ew.map _);have d:=Cs (n:=k.spec.num) (a:=a) (long:=c) (price:=(iJ c (max q (-q)) l).1) (iJ c (max q (-q)) l).2.1 (max q (-q)) r S h y (λf A=>⟨(z f A).1,λo g E=>?_⟩) (D v)
  ·obtain⟨F,t⟩:=df (nr k.spec.num a c (iJ c (max q (-q)) l).1 (iJ c (max q (-q)) l).2.1 (max q (-q)) r S);rw[<-t]at d|-;obtain⟨G,w⟩:=df (if c=true then F.2.1 else -F.2.1);rw[<-w];split
   ·exact d
   ·split
    ·exact d
    ·split
     ·exact d
     ·have j:=Cv (n:=k.spec.num) (a:=a) (long:=c) (price:=k.price) (jR G (((F.2.2.2.led.holders k.spec.num).filter λp=>decide (p.a≠a)).map λp=>⟨p.a,p.q⟩)).1 F.2.2.1 F.2.2.2 d.1 (by grind);exact⟨j.1,j.2.1.trans d.2.1,j.2.2.1.trans d.2.2.1,j.2.2.2.trans d.2.2.2⟩
  ·obtain⟨-,b,C,x,-,m⟩:=z f A
   have s:o=b:=by
    have h1:=kq (h.ord.bdNd _) g;have B:=kq (h.ord.bdNd _) (i b C);rw[E,<-x,B]at h1;exact(cS h1).symm
   rw[s];exact m
def CZ(h:S.Ok){n a:Int}(b:(S.led.position n a).q≠0):bt S.cal.l n=0:=by
 unfold bE.position at b;cases hp:S.led.pos? (n,a)with
 |none=>rw[hp]at b;exact absurd rfl b
 |some p=>
  obtain⟨h1,c⟩:=bE.pos_mem hp;have:=h.led.held p h1;have d:p.c=n:=dW (·.1) c
  rwa[d]at this
def Af{a:Int}:∀(l:List Ct) (r:Rp) (S:bo),S.Ok->(pf a l r S).2.2.Ok/\(pf a l r S).2.2.cal=S.cal/\(pf a l r S).2.2.led.all=S.led.all/\(pf a l r S).2.2.led.fund=S.led.fund
 | [],r,S,h=>⟨h,rfl,rfl,rfl⟩
 |k::l,r,S,h=>by
  unfold pf;simp only;split
  ·exact Af l r S h
  ·rename_i d
   have b:=J9 h (k:=k) (a:=a) (q:=(S.led.position k.spec.num a).q) (r:=r) (CZ h d);split
   ·exact b
   ·have c:=Af (a:=a) l (S.sell k a (S.led.position k.spec.num a).q r).2.1 _ b.1;exact⟨c.1,c.2.1.trans b.2.1,c.2.2.1.trans b.2.2.1,c.2.2.2.trans b.2.2.2⟩
def Vz(h:S.Ok)(a:Ac):(S.liquidate a).2.2.Ok/\(S.liquidate a).2.2.led.all=S.led.all/\(S.liquidate a).2.2.led.fund=S.led.fund:=by
 unfold bo.liquidate;split
 ·exact⟨h,rfl,rfl⟩
 ·have:=Af (a:=a.num) S.cal.l jw S h;exact⟨this.1,this.2.2⟩
def S9(h:S.Ok){c:Cm}(d:c.Fit)(a:(S.done c).1=0):(S.done c).2.2.Ok:=by
 unfold bo.done at a|-;by_cases k1:c.kind=1
 ·rw[ae k1];exact HL h d.2.1
 rw[aa k1]at a|-;by_cases k2:c.kind=2
 ·rw[ae k2];exact yq h
 rw[aa k2]at a|-;by_cases k3:c.kind=3
 ·rw[ae k3]at a|-;simp only at a|-;rw[ae a];exact Ry h d.2.2.2.2.2.1 a
 rw[aa k3]at a|-;by_cases k4:c.kind=4
 ·rw[ae k4];exact Se h _ _
 rw[aa k4]at a|-;by_cases k11:c.kind=11
 ·rw[ae k11];exact HI h _ _
 rw[aa k11]at a|-;by_cases k12:c.kind=12
 ·rw[ae k12]at a|-;exact(K0 h a).1
 rw[aa k12]at a|-;by_cases k14:c.kind=14
 ·rw[ae k14]at a|-;exact(LV h a).1
 rw[aa k14]at a|-;by_cases b:c.acct=0
 ·grind
 rw[aa b]at a|-;by_cases k6:c.kind=6
 ·rw[ae k6];exact LG h
 rw[aa k6]at a|-;by_cases k7:c.kind=7
 ·rw[ae k7]at a|-;exact H2 h d b a
 rw[aa k7]at a|-;by_cases e:S.led.getO c.acct=none
 ·grind
 rw[aa e]at a|-;by_cases k5:c.kind=5
 ·rw[ae k5]at a|-;exact Qi h d b a
 rw[aa k5]at a|-;by_cases k9:c.kind=9
 ·rw[ae k9]at a|-;exact WU h d b a
 rw[aa k9]at a|-;by_cases k8:c.kind=8
 ·rw[ae k8]at a|-;split
  ·exact h
  ·exact h.clear b
 rw[aa k8]at a|-;by_cases k10:c.kind=10
 ·rw[ae k10];exact Tv h b d.2.1 e c.on
 rw[aa k10]at a|-;by_cases k13:c.kind=13
 ·rw[ae k13];exact(Vz h _).1
 rw[aa k13];exact h
def sC(h:S.Ok){c:Cm}(b:c.Fit):(S.apply c).2.Ok:=by
 unfold bo.apply;split
 ·exact h
 ·simp only;split
  ·exact h
  ·rename_i a
   exact S9 h b (by simpa using a)
def Gu:bo.empty.Ok:=by
 refine⟨⟨by show(0:Nat)<=16;omega,⟨by show(0:Int)<=0;omega,by show(0:Int)<4294967296;omega⟩,λk c=>(by cases c),List.Pairwise.nil⟩,⟨⟨⟨by show(0:Int)<=0;omega,by show(0:Int)<=MF;unfold MF;omega⟩,List.Pairwise.nil,List.Pairwise.nil,by show(0:Nat)<=64;omega,λa e=>(by cases e),λp hp=>(by cases hp)⟩,λp hp=>(by cases hp),bE.empty_zero⟩,
  ⟨λn _=>rfl,λn d=>⟨by show(0:Nat)<=100;omega,λo b=>(by cases b)⟩,λn o b=>(by cases b),λn=>iP,λn m o f b=>(by cases b),λn=>(by show(0:Nat)<=50;omega)⟩,⟨by show(1:Int)<=1;omega,by show(1:Int)<=jH+1;unfold jH;omega⟩,by show(0+(0:Int))<=MF;unfold MF;omega⟩
end Go.Proofs
set_option maxRecDepth 100000
set_option maxHeartbeats 1000000
namespace Go.Proofs
open Go Go.Vc
attribute [local congr] aZ
variable {q:Int}{T:TypeId}{w:Wt_}{K:aY}{s:kY}{x:kY×Value}
abbrev t6:TypeId:=414
def pK(x:kY×Value):List Value:=tV x.1.leg++[.int .i64 x.1.basis,gI x.1.price,x.2]
def oJ(x:kY×Value):(pK x).length=29:=by simp[pK,gM]
def DA(x:kY×Value)(h:∃a n c,x.2=.slice a n c):(pK x).all (·.oneCell')=true:=by
 obtain⟨a,n,c,h⟩:=h;rw[pK,ek,DV,h];rfl
def skT(x:kY×Value)(i:Nat)(h:i<26):(pK x)[i]? =(tV x.1.leg)[i]? :=by rw[pK,cn (by rw[gM];omega)]
def QI(x:kY×Value):(pK x)[25]? =some (gI x.1.leg.q):=by rw[skT x 25 qZ,PV]
def UK(x:kY×Value):(pK x)[26]? =some (gI x.1.basis):=by rw[pK,bH (by rw[gM];omega),gM];rfl
def Jy(x:kY×Value):(pK x)[27]? =some (gI x.1.price):=by rw[pK,bH (by rw[gM];omega),gM];rfl
def E5(x:kY×Value):(pK x)[28]? =some x.2:=by rw[pK,bH (by rw[gM];omega),gM];rfl
def Xb:Tryz.prog.cellsOf t6=28+1:=cy
def aSk:lI pQ t6=true:=cy
def zSk:mG pQ t6=true:=cy
def af3:(iQ pQ t6).length=28+1:=cy
def YY:Tryz.prog.underlying 410=some (.slice t6):=cy
def eSk:gP pQ t6 29 240=true:=cy
def OF{b:Nat}(h:hC w b (pK x).toArray T):At w b 0 (fC x.1.leg.spec):=by
 have:=(At.all h).sub 0 25 (by rw[oJ];omega);rw[eT,pK,tV,aH,aN (by rw[bG];omega),aC (by rw[bG];omega)]at this;exact this
def R0{b:Nat}(h:hC w b (pK x).toArray T):At w b 6 (uy x.1.leg.spec.shifts):=by
 have:=(OF h).sub 6 16 (by rw[bG];omega);rw[uG]at this;simpa using this
def kY.Fit(s:kY):Prop:=s.leg.spec.Fit/\eP s.leg.q/\eP s.basis/\eP s.price/\∀o∈s.ords,o.Fit
def Tx(s:Rd w 5 x.2 x.1.ords.length (x.1.ords.flatMap dx))(hn:x.1.ords.length<=1000000)(T:x.1.Fit)
  (n:∀M,M0 w M->K (.bool x.1.ok) M):Ca pQ 347 #[.agg (pK x).toArray] w K:=by
 obtain⟨Y,Q,f3,f4,f5⟩:=T;refine cN Tryz.func347 ?_;have J:M0 w (w.alloc (.cells (pK x).toArray t6)):=kU;have e:hC (w.alloc (.cells (pK x).toArray t6)) w.heap.size (pK x).toArray t6:=by simp[go_sem]
 apply ax (bO w.heap.size 0) (w.alloc (.cells (pK x).toArray t6)) rfl;obtain⟨p,E⟩:=df w.heap.size;rw[<-E]at e|-;generalize w.alloc (.cells (pK x).toArray t6)=w1 at J e|-;obtain⟨sa,sc,k⟩:=s.isSl;have a:∀{W:Wt_},(builtin .len #[146] 3 #[false] #[x.2]).run pQ W=.ok (.value (gI (x.1.ords.length:Int))) W:=λ{W}=>by rw[k];simp[go_sem]
 obtain⟨P,B⟩:=df ((aW x.1.basis (-1000000000000000) 1000000000000000&& aW x.1.leg.q (-10000000) 10000000&& x.1.leg.spec.isPrice x.1.price&& decide (x.1.ords.length<=250)):Bool);refine cG.at (λst W=>st=(.bool (!P),())/\M0 w1 W) ?_ ?_
 ·refine dq ?_;refine mK e UK ?_;apply gF f3 qZ;refine dq ?_;rw[aw];cases h1:aW x.1.basis (-1000000000000000) 1000000000000000 with
  |false=>
   rw[ae (by simp)];exact⟨by rw[B,h1];rfl,oU⟩
  |true=>
  rw[aa (by simp)];refine dq ?_;refine dq ?_;refine mK e QI ?_;apply gF Q qZ;refine dq ?_;rw[aw];cases h2:aW x.1.leg.q (-10000000) 10000000 with
  |false=>
   rw[ae (by simp)];exact⟨by grind,oU⟩
  |true=>
  rw[aa (by simp)];refine dq ?_;refine dq ?_;apply fX (fC x.1.leg.spec) 24 zF xG (bG _) (OF e);refine dq ?_;refine mK e Jy ?_;refine pH Y λr g=>?_;have D:=g.hpk e id;refine dq ?_;rw[aw];cases h3:x.1.leg.spec.isPrice x.1.price with
  |false=>
   rw[ae (by simp)];exact⟨by grind,g⟩
  |true=>
  rw[aa (by simp)];refine dq ?_;apply ax x.2 r (by rw[k];simp[go_sem,D,E5,k]);apply sr a
  refine ax (.bool (!decide (x.1.ords.length<=250))) r (by
   by_cases h:x.1.ords.length<=250
   ·have A:¬(250:Int)<(x.1.ords.length:Int):=qZ;simp[go_sem,h,A]
   ·have A:(250:Int)<(x.1.ords.length:Int):=qZ;simp[go_sem,h,A]) ?_
  exact⟨by grind,g⟩
 rintro _ r ⟨rfl,g⟩;refine jG ?_;intro _;rw[aw];have L:=J.trans g;cases j:P with
 |false=>
  rw[ae (by simp)];have f:=n r L
  have:x.1.ok=false:=by
   unfold kY.ok;rw[<-B,j];rfl
  rw[this]at f;exact f
 |true=>
 rw[aa (by simp)];have t:x.1.ok=x.1.ords.all (·.may):=by unfold kY.ok;rw[<-B,j];rfl
 rw[t]at n;have D:=g.hpk e id;refine dq ?_;apply ax x.2 r (by rw[k];simp[go_sem,D,E5,k]);apply sr a;obtain⟨l,Z⟩:=df x.1.ords;rw[<-Z]at s hn f5 n a|-
 refine d8 (λst W=>∃(i:Nat) (y:Vt_),i<=l.length/\st=(y,gI i,())/\M0 w W/\(l.take i).all (·.may)=true)
  (λst _=>match st.2.1 with| .int _ i=>l.length - i.toNat|_=>0) ⟨0,_,qZ,rfl,L,rfl⟩ ?_
 rintro⟨_,_,_⟩ W ⟨i,y,hi,⟨⟩,z,c⟩ KN u;refine lE ?_;intro _;by_cases d:i<l.length
 ·have m:(i:Int)<(l.length:Int):=qZ;refine dB m ?_;obtain⟨b,v,cap,C,G,S⟩:=(s.mod z dS).item dP d rfl;apply ax (bO b (v+i*5)) W (by rw[C];simp[go_sem,d,bD,gX]);apply bh (kX (o:=l[i]) S);obtain⟨w3,e3,F,X⟩:=jE W;apply bh e3;obtain⟨q,hq⟩:=df W.heap.size;rw[<-hq]at F|-;obtain⟨V,e4,b4,R⟩:=jf (o' :=l[i]) F;apply gg e4;apply bh (kX (o:=l[i]) (At.all b4));have U:M0 W V:=X.on R λb hb=>fM;refine uN λN O=>?_;have I:=(z.trans U).trans O;refine dq ?_;rw[aw];cases H:l[i].may with
  |false=>
   rw[ae (by simp)];have f:=n N I;have:l.all (·.may)=false:=jS.2 ⟨l[i],av d,by rw[H];simp⟩;rw[this]at f;exact f
  |true=>
   rw[aa (by simp)];apply ax (gI ((i+1:Nat):Int)) N (by simp[go_sem];rw[lL]);refine u _ _ ⟨i+1,_,qZ,rfl,I,?_⟩ (by grind);rw[cq d,ek,c,mH,H];rfl
 ·obtain rfl:i=l.length:=qZ;refine eK ?_;rw[aV]at c;have f:=n W z;rw[c]at f;exact f
def Hv{p:Nat}(h:hC w p (pK x).toArray T)(hs:x.1.leg.spec.Fit)(b:eP q)
  (c:∀a,M0 w a->K (gI (x.1.at q)) a):Ca pQ 374 #[.int .i64 q,.pointer (some ⟨p,0,none⟩)] w K:=by
 refine cN Tryz.func374 ?_;refine dq ?_;refine dq ?_;refine dq ?_;apply fX (uy x.1.leg.spec.shifts) 15 Xf Xg (nG _) (R0 h);refine TB hs.2.2.2.2.2.2.1 b λa d=>?_;refine dq ?_;refine dq ?_;exact c a d
def Lc(l:List Od)(o:Od)(buy:Bool):oS (l++[o]) buy=oS l buy+(if o.buy=buy then o.left else 0):=by
 unfold oS;rw[cw,aM,fN];congr 1;by_cases h:o.buy=buy
 ·grind
 ·grind
def zw{l:List Od}{buy:Bool}(h:∀o∈l,o.may=true):0<=oS l buy/\oS l buy<=l.length*1000000:=by
 have h1:=rK (l:=(l.filter λo=>o.buy==buy).map (·.left)) (B:=1000000) λx b=>by
  obtain⟨o,a,rfl⟩:=aL.1 b;have:=Od.left_bd (h o (aT.1 a).1);omega
 have c:((l.filter λo=>o.buy==buy).map (·.left)).length<=l.length:=by grind
 unfold oS;have d:(((l.filter λo=>o.buy==buy).map (·.left)).length:Int)*1000000<=l.length*1000000:=qZ;omega
def J7{price:Int}(hp:1<=price/\price<=10000000){o:Od}(h:o.may=true):0<=rN price o/\rN price o<=10000000000000:=by
 have h1:=Od.left_bd h;have d:=Od.price_bd h;unfold rN
 have key:∀a:Int,0<=a->a<=10000000->0<=a*o.left/\a*o.left<=10000000000000:=λa c e=>by
  have:=C8 (a:=a) (b:=o.left) (A:=10000000) (B:=1000000) qZ qZ;have f:0<=a*o.left:=iR c qZ;omega
 split
 ·exact key _ qZ qZ
 ·exact key _ qZ qZ
def I7{price:Int}(hp:1<=price/\price<=10000000){l:List Od}(h:∀o∈l,o.may=true):0<=(l.map (rN price)).sum/\(l.map (rN price)).sum<=l.length*10000000000000:=by
 have:=rK (l:=l.map (rN price)) (B:=10000000000000) λx b=>by
  obtain⟨o,a,rfl⟩:=aL.1 b;exact J7 hp (h o a)
 rwa[ah]at this
def HU{B:Int}(i: -B<=q/\q<=B)(f:0<=B):∀{l:List Int},(∀x∈l,-10000000<=x/\x<=10000000)->0<=lr l q/\lr l q<=B*10000000:=by
 intro l
 have key:∀(l:List Int) (m:Int),(∀x∈l,-10000000<=x/\x<=10000000)->0<=m/\m<=B*10000000->0<=l.foldl (λm s=>max m (-q*s)) m/\l.foldl (λm s=>max m (-q*s)) m<=B*10000000:=by
  intro l;induction l with
  |nil=>intro m _ h;exact h
  |cons x l e=>
   intro m c j;rw[eV];have g:=C8 (a:= -q) (b:=x) (A:=B) (B:=10000000) qZ (c x (by simp));exact e _ (λy d=>c y (by simp[d])) qZ
 exact λh=>key l 0 h ⟨qZ,iR f qZ⟩
def CF(hs:s.leg.spec.may=true)(a: -1000000000<=q/\q<=1000000000):0<=s.at q/\s.at q<=10000000000000000:=by
 unfold kY.at vk;split
 ·grind
 ·exact HU (B:=1000000000) a qZ (yf hs).1
def GB{s:Sp}{p:Int}(h:s.isPrice p=true):s.may=true:=by
 unfold Sp.isPrice at h;rw[ao]at h;exact h.1
structure kY.OkF(s:kY):Prop where
 basis: -1000000000000000<=s.basis/\s.basis<=1000000000000000
 q: -10000000<=s.leg.q/\s.leg.q<=10000000
 may:s.leg.spec.may=true
 price:1<=s.price/\s.price<=10000000
 len:s.ords.length<=250
 ords:∀o∈s.ords,o.may=true
def kY.okF(h:s.ok=true):s.OkF:=by
 unfold kY.ok at h;simp only[ao]at h;obtain⟨⟨⟨⟨h1,c⟩,a⟩,d⟩,e⟩:=h;exact⟨eU.1 h1,eU.1 c,GB a,uv a,bF d,λo b=>bf.1 e o b⟩
def kY.worst_bd(h:s.ok=true):0<=s.worst/\s.worst<=12500000000000000:=by
 obtain⟨h1,m,j,k,n,i⟩:=kY.okF h;have a:=I7 k i;have b:=zw (buy:=true) i;have c:=zw (buy:=false) i;have l:(s.ords.length:Int)<=250:=qZ;have d:=CF (q:=s.leg.q+oS s.ords true) j qZ;have e:=CF (q:=s.leg.q - oS s.ords false) j qZ;have f:=CF (q:=s.leg.q) j qZ;unfold kY.worst;have g:(s.ords.length:Int)*10000000000000<=250*10000000000000:=qZ;omega
def Mj(H:Rd w 5 x.2 x.1.ords.length (x.1.ords.flatMap dx))(hf:x.1.Fit)(J:x.1.ok=true)
  (hK:∀w',M0 w w' ->K (gI x.1.worst) w'):Ca pQ 349 #[.agg (pK x).toArray] w K:=by
 obtain⟨S,f2,f3,f4,f5⟩:=hf;obtain⟨k1,k2,k3,k4,k5,k6⟩:=kY.okF J;refine cN Tryz.func349 ?_;have m1:M0 w (w.alloc (.cells (pK x).toArray t6)):=kU;have E:hC (w.alloc (.cells (pK x).toArray t6)) w.heap.size (pK x).toArray t6:=by simp[go_sem]
 apply ax (bO w.heap.size 0) (w.alloc (.cells (pK x).toArray t6)) rfl;obtain⟨p,V⟩:=df w.heap.size;rw[<-V]at E|-;generalize w.alloc (.cells (pK x).toArray t6)=w1 at m1 E|-;obtain⟨sa,sc,P⟩:=H.isSl;refine dq ?_;apply ax x.2 w1 (by rw[P];simp[go_sem,E,E5,P]);apply iq (gI (x.1.ords.length:Int)) w1 (by rw[P];simp[go_sem]);obtain⟨l,hl⟩:=df x.1.ords;have g:x.1.worst=(l.map (rN x.1.price)).sum+max 0 (max (x.1.at (x.1.leg.q+oS l true)) (x.1.at (x.1.leg.q - oS l false)) - x.1.at x.1.leg.q):=by rw[hl];rfl
 rw[<-hl]at H f5 k5 k6|-;obtain⟨a,z⟩:=df x.1.price;rw[<-z]at k4 g
 refine d8 (λst W=>∃i:Nat,i<=l.length/\st=(gI ((l.take i).map (rN a)).sum,gI (oS (l.take i) true),gI (oS (l.take i) false),gI i,())/\M0 w W/\hC W p (pK x).toArray t6)
  (λst _=>match st.2.2.2.1 with| .int _ i=>l.length - i.toNat|_=>0) ⟨0,qZ,rfl,m1,E⟩ ?_
 rintro⟨_,_,_,_,_⟩ W ⟨i,hi,⟨⟩,Q,D⟩ KN N;refine lE ?_;intro _;have G:∀o∈l.take i,o.may=true:=λo h=>k6 o (cE h);have tl:((l.take i).length:Int)<=250:=by grind
 have s1:=I7 k4 G;have s2:=zw (buy:=true) G;have s3:=zw (buy:=false) G;by_cases v:i<l.length
 ·have C:(i:Int)<(l.length:Int):=qZ;refine dB C ?_;obtain⟨b,O,cap,U,Z,hA⟩:=(H.mod Q dS).item dP v rfl;apply ax (bO b (O+i*5)) W (by rw[U];simp[go_sem,v,bD,gX]);apply bh (kX (o:=l[i]) hA);obtain⟨w3,e3,Y,F⟩:=jE W;apply bh e3;obtain⟨q,hq⟩:=df W.heap.size;rw[<-hq]at Y|-;obtain⟨c,e4,r,L⟩:=jf (o' :=l[i]) Y;apply gg e4;have M4:M0 W c:=F.on L λb X=>fM;have y:=M4.hpk D id;have B:=cq v;obtain⟨o,M⟩:=df (l[i]);rw[<-M]at r B;have u:o.may=true:=k6 o (by grind);have ol:=Od.left_bd u;have op:=Od.price_bd u;have ow:=J7 k4 u;unfold dx at r
  have k:∀b s:Int,b=oS (l.take (i+1)) true->s=oS (l.take (i+1)) false->KN (gI (((l.take (i+1)).map (rN a)).sum),gI b,gI s,gI ((i+1:Nat):Int),()) c:=λb s X R=>by
   subst X R;exact N _ _ ⟨i+1,qZ,rfl,Q.trans M4,y⟩ (by grind)
  have I:((l.take (i+1)).map (rN a)).sum=((l.take i).map (rN a)).sum+rN a o:=by grind
  have A:∀d,oS (l.take (i+1)) d=oS (l.take i) d+(if o.buy=d then o.left else 0):=λd=>by rw[B,Lc]
  have n:=A true;have m:=A false;rw[I]at k;refine dq ?_;refine dE r ?_;have j:rN a o=if o.buy=true then max 0 (o.price - a)*o.left else max 0 (a - o.price)*o.left:=by unfold rN;rfl
  cases t:o.buy with
  |true=>
   rw[t]at n m j;rw[ae rfl]at j;rw[jV];refine dq ?_;refine dE r ?_;apply ax (gI (oS (l.take i) true+o.left)) c (za ⟨qZ,qZ⟩);refine dq ?_;refine dE r ?_;refine dq ?_;refine V4 (gI a) y Jy z ?_;apply ax (gI (o.price - a)) c (En ⟨qZ,qZ⟩);refine Hn ?_;refine dq ?_;refine dE r ?_;apply ax (gI (rN a o)) c (by simp only[go_sem];simp;rw[<-j,lL]);apply ax (gI (((l.take i).map (rN a)).sum+rN a o)) c (za ⟨qZ,qZ⟩);apply ax (gI ((i+1:Nat):Int)) c (by simp[go_sem];rw[lL]);exact k _ _ (by rw[n];rfl) (by rw[m];simp)
  |false=>
   rw[t]at n m j;rw[aa (by simp)]at j;rw[ij];refine dq ?_;refine dE r ?_;apply ax (gI (oS (l.take i) false+o.left)) c (za ⟨qZ,qZ⟩);refine dq ?_;refine V4 (gI a) y Jy z ?_;apply bh (by simp[-Int.natCast_add,go_sem]<;>first|exact tF|exact rfl);apply bh (by simp[-Int.natCast_add,go_sem,r]<;>first|exact tF|exact rfl);apply ax (gI (a - o.price)) c (En ⟨qZ,qZ⟩);refine Hn ?_;refine dq ?_;refine dE r ?_;apply ax (gI (rN a o)) c (by simp only[go_sem];simp;rw[<-j,lL]);apply ax (gI (((l.take i).map (rN a)).sum+rN a o)) c (za ⟨qZ,qZ⟩);apply ax (gI ((i+1:Nat):Int)) c (by simp[go_sem];rw[lL]);exact k _ _ (by rw[n];simp) (by rw[m];rfl)
 ·obtain rfl:i=l.length:=qZ;refine eK ?_;rw[aV]at s1 s2 s3|-;refine dq ?_;refine dq ?_;refine mK D QI ?_;apply ax (gI (x.1.leg.q+oS l true)) W (za ⟨qZ,qZ⟩);apply kE.2;show Ca pQ 374 #[.int .i64 (x.1.leg.q+oS l true),.pointer (some ⟨p,0,none⟩)] W _;refine Hv D S ⟨qZ,qZ⟩ λw2 T=>?_;apply ax (gI (x.1.leg.q - oS l false)) w2 (En ⟨qZ,qZ⟩);apply kE.2;show Ca pQ 374 #[.int .i64 (x.1.leg.q - oS l false),.pointer (some ⟨p,0,none⟩)] w2 _;refine Hv (T.hpk D id) S ⟨qZ,qZ⟩ λw3 F=>?_;have d:=CF (s:=x.1) (q:=x.1.leg.q+oS l true) k3 qZ;have e:=CF (s:=x.1) (q:=x.1.leg.q - oS l false) k3 qZ;have f:=CF (s:=x.1) (q:=x.1.leg.q) k3 qZ;refine Hn ?_;apply kE.2;show Ca pQ 374 #[.int .i64 x.1.leg.q,.pointer (some ⟨p,0,none⟩)] w3 _;refine Hv (F.hpk (T.hpk D id) id) S f2 λc L=>?_;apply ax (gI (max (x.1.at (x.1.leg.q+oS l true)) (x.1.at (x.1.leg.q - oS l false)) - x.1.at x.1.leg.q)) c (En ⟨qZ,qZ⟩);refine Hn ?_;apply ax (gI x.1.worst) c (by rw[g];exact za ⟨qZ,qZ⟩);exact hK c (((Q.trans T).trans F).trans L)
end Go.Proofs
