/- Part of a proof. -/
import Derived.Test.YtekbnpagidkbbaaGreatT17
set_option linter.all false
set_option maxRecDepth 100000
set_option maxHeartbeats 4000000
namespace Go.Proofs
open Go Go.Vc
variable {S:ba}{C:oq}
def zJ:∀(ix p:List Int),(∀i∈ix,0<=i/\i<p.length)->(∀x∈p,0<=x)->(qo ix p).sum=p.sum+ix.length/\∀x∈qo ix p,0<=x
 | [],p,_,hp=>⟨by simp[qo],hp⟩
 |i::ix,p,m,hp=>by
  have o:=m i ai;have b:i.toNat<p.length:=qZ;obtain⟨c,a⟩:=dW (p.set i.toNat (p.getD i.toNat 0+1));have d:p.getD i.toNat 0=p[i.toNat]:=by grind
  have q:c.length=p.length:=by grind
  have l:c.sum=p.sum+1:=by rw[a,d,AJ b];omega
  have n:∀x∈c,0<=x:=λx f=>by
   rw[a]at f;rcases ec f with h|rfl
   ·exact hp x h
   ·have:=hp _ (ar b);rw[d];omega
  obtain⟨k,g⟩:=zJ ix c (λj r=>by grind) n;have e:qo (i::ix) p=qo ix c:=by rw[a];rfl
  rw[e];refine⟨?_,g⟩;rw[k,l,aR];omega
def BP{t:Int}{l:List Int}(h:(fq t l).2=0):0<=t/\(fq t l).1.sum=t/\(∀x∈(fq t l).1,0<=x)/\(fq t l).1.length=l.length:=by
 refine⟨?_,?_⟩
 ·unfold fq at h;split at h
  ·cases h
  ·split at h
   ·cases h
   ·rename_i u;omega
 have a:=vX h;unfold fq at h a|-;by_cases u:1000<l.length
 ·grind
 rw[aa u]at h a|-;by_cases r:t<0\/(l.any λx=>decide (x<0))=true
 ·grind
 rw[aa r]at h a|-;by_cases z:¬dM l.sum
 ·grind
 rw[aa z]at h a|-;by_cases o:t=0
 ·rw[ab o]at a|-;refine⟨?_,λx m=>by grind,a⟩;rw[o]
  have:∀n:Nat,(List.replicate n (0:Int)).sum=0:=λn=>by
   induction n with
   |zero=>rfl
   |succ n D=>rw[List.replicate_succ,bp,D];rfl
  exact this _
 rw[aa o]at h a|-;by_cases y:l.sum=0
 ·grind
 rw[aa y]at a|-;simp only at a|-
 have E:∀x∈l,0<=x:=λx m=>by
  apply aS;intro F;exact r (.inr (ia.2 ⟨x,m,aA qZ⟩))
 obtain⟨c,d⟩:=dW (l.map Int.toNat);rw[<-d]at a|-
 have s:(c.sum:Int)=l.sum:=by
  rw[<-sR,d,da];congr 1;have:l.map ((λx:Nat=>(x:Int))∘Int.toNat)=l.map id:=dN λx m=>by grind
  rw[this,kH]
 have f:0<c.sum:=by grind
 have v:=FD f t.toNat (aB c.sum);have e:=Iv f t.toNat rfl;unfold sI;obtain⟨q,g⟩:=dW (oT t.toNat c.sum c);rw[<-g]at v e|-;have k:q.length=c.length:=by rw[g];unfold oT;rw[af]
 have b:(uO (qz t.toNat c.sum c)).Perm ((List.range (qz t.toNat c.sum c).length).map λi:Nat=>(i:Int)):=Srt.stable_perm _ _;have p:(qz t.toNat c.sum c).length=c.length:=by unfold qz;rw[af]
 rw[p]at b
 obtain⟨B,w⟩:=zJ ((uO (qz t.toNat c.sum c)).take (t.toNat - q.sum)) (q.map λx:Nat=>(x:Int)) (λi A=>by
  have:=b.mem_iff.1 (bm A);obtain⟨j,C,rfl⟩:=aD.1 this;rw[d8]at C;rw[af,k];omega) (λx m=>by grind)
 refine⟨?_,w,?_⟩
 ·rw[B,sR,av,b.length_eq,af,List.length_range];omega
 ·rw[wk,af,k,d,af]
def wm:∀(ix:List Nat) (a:List Int) (o:List Sd),(kT ix a o).map (·.acct)=o.map (·.acct)/\(kT ix a o).map (·.dfl)=o.map (·.dfl)
 | [],a,o=>by cases a<;>exact⟨rfl,rfl⟩
 |i::ix,[],o=>⟨rfl,rfl⟩
 |i::ix,p::a,o=>by
  cases b:o[i]? with
  |none=>
   have e:kT (i::ix) (p::a) o=kT ix a o:=by
    conv=>lhs;unfold kT
    rw[b]
   rw[e];exact wm ix a o
  |some x=>
   obtain⟨c,d⟩:=aF.1 b
   have e:kT (i::ix) (p::a) o=kT ix a (o.set i {x with cut:=p,cash:=IntKind.i64.wrap (x.cash - p)}):=by
    conv=>lhs;unfold kT
    rw[b]
   rw[e];obtain⟨g,f⟩:=wm ix a (o.set i {x with cut:=p,cash:=IntKind.i64.wrap (x.cash - p)});rw[g,f,fU,fU];constructor
   ·have:x.acct=(o.map (·.acct))[i]'(by simpa using c):=by rw[cn,d]
    show(o.map _).set i x.acct=_;rw[this,gx]
   ·have:x.dfl=(o.map (·.dfl))[i]'(by simpa using c):=by rw[cn,d]
    show(o.map _).set i x.dfl=_;rw[this,gx]
def C3:∀(ix:List Nat) (a:List Int) (o:List Sd),ix.length=a.length->ix.Nodup->(∀i∈ix,i<o.length)->(∀p∈a,0<=p/\p<=7000000000000000000)->(∀s∈o,0<=s.cash/\s.cash<=1000000000000000000)->
  ((kT ix a o).map (·.cash)).sum=(o.map (·.cash)).sum - a.sum
 | [],[],o,_,_,_,_,_=>by simp[kT]
 | [],p::a,o,g,_,_,_,_=>by simp at g
 |i::ix,[],o,g,_,_,_,_=>by simp at g
 |i::ix,p::a,o,g,C,u,hp,t=>by
  have d:=u i ai;obtain⟨k,n⟩:=bO.1 C;have A:=hp p ai;have v:=t _ (ar d);have z:IntKind.i64.wrap (o[i].cash - p)=o[i].cash - p:=by rw[cy];omega
  have e:kT (i::ix) (p::a) o=kT ix a (o.set i {o[i]with cut:=p,cash:=o[i].cash - p}):=by
   conv=>lhs;unfold kT
   rw[ao d];simp only;rw[z]
  rw[e]
  have l:∀(ix:List Nat) (a:List Int) (o:List Sd) (y:Sd),i ∉ ix->kT ix a (o.set i y)=(kT ix a o).set i y:=by
   intro ix;induction ix with
   |nil=>intro a o y _;cases a<;>rfl
   |cons j ix f=>
    intro a o y b;rw[aq,lC]at b;cases a with
    |nil=>rfl
    |cons q a=>
     have B:(o.set i y)[j]? =o[j]? :=by grind
     unfold kT;rw[B];cases o[j]? with
     |none=>exact f a o y b.2
     |some x=>
      simp only;rw[List.set_comm _ _ b.1,f a _ y b.2]
  rw[l ix a o _ k];have f:=C3 ix a o (by simpa using g) n (λj b=>u j (ae _ b)) (λq w=>hp q (ae _ w)) t
  have c:∀(ix:List Nat) (a:List Int) (o:List Sd),i ∉ ix->(kT ix a o)[i]? =o[i]? :=by
   intro ix;induction ix with
   |nil=>intro a o _;cases a<;>rfl
   |cons j ix f=>
    intro a o b;rw[aq,lC]at b;cases a with
    |nil=>rfl
    |cons q a=>
     unfold kT;rw[f _ _ b.2];cases o[j]? with
     |none=>rfl
     |some x=>simp only;rw[List.getElem?_set_ne λh=>b.1 h.symm]
  have r:=c ix a o k;rw[ao d]at r;obtain⟨D,m⟩:=aF.1 r;rw[fU,AJ (by grind),cn,m,f,bp];show _ - _+(o[i].cash - p)=_;omega
def Rn(l:List Du):((l.map AG).map (·.cash)).sum=(l.map (·.cash)).sum+(l.map (·.v)).sum+(l.map iQ).sum:=by
 induction l with
 |nil=>rfl
 |cons d l a=>
  rw[aH,aH,bp,a,aH,aH,aH,bp,bp,bp]
  have:(AG d).cash=d.cash+d.v+iQ d:=by
   unfold AG iQ;split<;>simp only<;>omega
  rw[this];omega
def vZ:∀(l:List Du) (i:Nat),(lK i l).Nodup
 | [],i=>je
 |d::l,i=>by
  rw[lK];split
  ·refine bO.2 ⟨λa=>?_,vZ l (i+1)⟩;have:=wP l (i+1) i a;omega
  ·exact vZ l (i+1)
structure SZ(fund:Int)(l:List Du)(out:List Sd)(left:Int):Prop where
 acct:out.map (·.acct)=l.map (·.acct)
 dfl:out.map (·.dfl)=l.map λd=>decide (d.cash+d.v<0)
 sum:(out.map (·.cash)).sum+left=(l.map (·.cash)).sum+fund
 left:0<=left/\left<=fund
 v0:(l.map (·.v)).sum=0
def LO{fund:Int}{l:List Du}(h:(gK fund l).2.2=0):SZ fund l (gK fund l).1 (gK fund l).2.1:=by
 unfold gK at h|-;by_cases u:64<l.length
 ·grind
 rw[aa u]at h|-;by_cases f:qK fund l=false
 ·grind
 rw[aa f]at h|-;by_cases b:(sy (l.map (·.v))).2≠0\/(sy (l.map (·.v))).1≠0
 ·grind
 rw[aa b]at h|-;obtain⟨t,r⟩:=dW ((l.map iQ).sum - min fund (l.map iQ).sum);rw[<-r]at h|-;by_cases j:(fq t (kS l)).2≠0
 ·grind
 rw[aa j];simp only;have a:qK fund l=true:=by simpa using f
 unfold qK at a;rw[ah]at a;have c:=EN a.1;have e:0<=fund/\fund<=1000000000000000:=eL.1 a.2;have q:=Mn c;obtain⟨s1,g,k,o⟩:=BP (by simpa using j:(fq t (kS l)).2=0)
 have m:(l.map (·.v)).sum=0:=by
  simp only[lC,ne_eq,Classical.not_not]at b;unfold sy at b;split at b
  ·exact b.2
  ·cases b.1
 obtain⟨v,w⟩:=wm (lK 0 l) (fq t (kS l)).1 (l.map AG);refine⟨?_,?_,?_,⟨qZ,qZ⟩,m⟩
 ·rw[v,da];exact dN λd _=>by show(AG d).acct=d.acct;unfold AG;split<;>rfl
 ·rw[w,da];refine dN λd _=>?_;show(AG d).dfl=_;unfold AG;split
  ·grind
  ·grind
 ·rw[C3 _ _ _ (by rw[xC,o]) (vZ l 0) (λi y=>by have:=wP l 0 i y;rw[af];omega)
   (λp hp=>⟨k p hp,by have:=EH k p hp;rw[g]at this;omega⟩) (λs x=>?_),Rn,g,m]
  ·omega
  ·obtain⟨d,n,rfl⟩:=aD.1 x;have:=Du.rng (c d n);unfold AG;split<;>simp only<;>omega
def Qz{l:List Ac}(h:mg l){a:Ac}(g:∃x∈l,x.num=a.num):CL l a=l.map λx=>if x.num=a.num then a else x:=by
 have b:∀x:Ac,(if x.num=a.num then a else x).num=x.num:=λx=>by grind
 have c:mg (l.map λx=>if x.num=a.num then a else x):=by
  unfold mg;rw[dA];exact h.imp λ{x y} d=>by grind
 apply PU (si h a) c;have nd:∀{l:List Ac},mg l->l.Nodup:=λf=>f.imp λh e=>by rw[e]at h;omega
 rw[List.perm_ext_iff_of_nodup (nd (si h a)) (nd c)];intro x;rw[ry,aD];constructor
 ·rintro(⟨k,i⟩|rfl)
  ·grind
  ·grind
 ·rintro⟨y,j,rfl⟩;split
  ·exact .inr rfl
  ·grind
def sr(l:List Sd)(a:Ac):Ac:=match l.find? (λs=>decide (s.acct=a.num))with|some s=>{a with cash:=s.cash,dfl:=a.dfl||s.dfl}|none=>a
structure Z6(l:List Sd)(r:Rp)(S:ba)(r' :Rp)(T:ba):Prop where
 led:I9 T.cal T.led
 ord:rE T
 cal:T.cal=S.cal
 next:T.next=S.next
 held:T.led.held=S.led.held
 fund:T.led.fund=S.led.fund
 all:T.led.all=S.led.all.map (sr l)
 sub:∀n o,o∈T.ords n->o∈S.ords n
 accts:r'.accts=r.accts++(l.filter (·.dfl)).map (·.acct)
def Lp:∀(l:List Sd) (r:Rp) (S:ba),I9 S.cal S.led->rE S->(∀s∈l,S.led.find s.acct≠none)->(l.map (·.acct)).Nodup->(mf l r S).1=0->Z6 l r S (mf l r S).2.1 (mf l r S).2.2
 | [],r,S,f,E,_,_,_=>⟨f,E,rfl,rfl,rfl,rfl,by
   have:S.led.all.map (sr [])=S.led.all.map id:=dN λ_ _=>rfl;rw[this,kH];rfl,eI,by simp[mf]⟩
 |s::l,r,S,f,E,hf,Z,D=>by
  obtain⟨W,V⟩:=bO.1 Z;have T:=hf s ai
  obtain⟨x,M⟩:∃x,S.led.find s.acct=some x:=by
   cases h:S.led.find s.acct with
   |none=>exact absurd h T
   |some x=>exact⟨x,rfl⟩
  obtain⟨J,B,e⟩:=bq.find_ok f.led M;have G:S.acc s.acct=x:=by unfold ba.acc;rw[ov e,M];rfl
  obtain⟨b,j⟩:=dW (if s.dfl=true then(S.clear s.acct 0).2 else S);have X:=tF E (a:=s.acct) (k:=0) e
  have K:b.cal=S.cal/\b.led=S.led/\b.next=S.next:=by
   rw[j];split
   ·exact X
   ·grind
  have w:rE b:=by
   rw[j];split
   ·exact yM E e
   ·exact E
  have g:∀n o,o∈b.ords n->o∈S.ords n/\(s.dfl=true->o.acct≠s.acct):=λn o q=>by
   rw[j]at q;split at q
   ·have:=Bv E e q;exact⟨this.2,λ_=>this.1⟩
   ·grind
  obtain⟨a,N⟩:=dW ({x with cash:=s.cash,dfl:=x.dfl||s.dfl}:Ac);obtain⟨O,I⟩:=dW (if s.dfl=true then{r with accts:=r.accts++[s.acct],gone:=r.gone++(S.clear s.acct 0).1}else r:Rp)
  have P:mf (s::l) r S=if(b.led.set a).1≠0 then((b.led.set a).1,O,{b with led:=(b.led.set a).2})else mf l O {b with led:=(b.led.set a).2}:=by
   conv=>lhs;unfold mf
   simp only;rw[G,<-N,<-j,<-I]
  rw[P]at D|-;by_cases h1:(b.led.set a).1≠0
  ·grind
  rw[aa h1]at D|-;have H:(b.led.set a).1=0:=by simpa using h1
  rw[K.2.1]at H D|-;have i:=bq.set_ok1 H;have c:a.num=s.acct:=by rw[N];exact B
  have C:a.num≠0:=by rw[c];exact e
  have hu:gM a.num:=by have:=f.led.acc x J;rw[c,<-B];exact⟨qZ,this.2.1⟩
  have A:∀n,(S.led.set a).2.find n=if n=a.num then some a else S.led.find n:=λn=>by rw[i];exact bq.find_putA f.led.sa C n
  have hL2:I9 b.cal (S.led.set a).2:=⟨bq.set_Ok f.led hu,λp hp=>by rw[oG]at hp;rw[K.1];exact f.held p hp,sD (oG _ _) f.zero⟩
  have Y:rE {b with led:=(S.led.set a).2}:=by
   refine w.mono (λn Z=>.inl Z) (λn d=>gA.refl λo q=>(w.bkMay n d o q).1) (λn=>gA.refl (w.bdMay n)) (λn o q z=>?_) (eh _);have hd:=(g n o q).2;rw[K.2.1]at z;refine wg f.led z λD=>?_;have F:s.acct=o.acct:=c.symm.trans D;obtain⟨y,L,hk,R⟩:=z;rw[<-F,M]at L;cases L;rw[N];refine⟨hk,?_⟩;cases u:s.dfl with
   |true=>exact absurd F.symm (hd u)
   |false=>show(x.dfl||false)=false;rw[R];rfl
  have hnot:∀t∈l,t.acct≠s.acct:=λt Q D=>W (by grind)
  have v:=Lp l O {b with led:=(S.led.set a).2} hL2 Y (λt Q=>by
   show(S.led.set a).2.find t.acct≠none;rw[A,aa (by grind)];exact hf t (ae _ Q)) V D
  refine⟨v.led,v.ord,v.cal.trans K.1,v.next.trans K.2.2,v.held.trans (oG _ _),v.fund.trans ?_,?_,λn o q=>(g n o (v.sub n o q)).1,?_⟩
  ·show(S.led.set a).2.fund=_;rw[i];unfold bq.putA;rw[aa C]
  ·rw[v.all];show(S.led.set a).2.all.map _=_
   have:(S.led.set a).2.all=S.led.all.map λy=>if y.num=a.num then a else y:=by
    rw[i];unfold bq.putA;rw[aa C];exact Qz f.led.sa ⟨x,J,B.trans c.symm⟩
   rw[this,da];refine dN λy L=>?_;show sr l (if y.num=a.num then a else y)=sr (s::l) y;by_cases m:y.num=a.num
   ·rw[ab m]
    have U:y=x:=by
     have:=bq.mem_find f.led L;rw[m,c,M]at this;exact(cM this).symm
    have e2:sr l a=a:=by
     unfold sr
     have:l.find? (λs=>decide (s.acct=a.num))=none:=by
      rw[dS];exact λt Q=>by grind
     rw[this]
    rw[e2];unfold sr;rw[ip (by rw[m,c];simp),U,N]
   ·rw[aa m];unfold sr;rw[iq (by grind)]
  ·rw[v.accts,I];cases u:s.dfl with
   |true=>
    rw[ab rfl,bF (by exact u),aH];show(r.accts++[s.acct])++_=_;rw[ag];rfl
   |false=>
    rw[aa (by simp),aU (by rw[u];simp)]
def OL{l:List Sd}(b:(l.map (·.acct)).Nodup){i:Nat}(hi:i<l.length):l.find? (λs=>decide (s.acct=l[i].acct))=some l[i]:=by
 rw[dE];refine⟨by simp,i,hi,rfl,λj a=>?_⟩;have:=(bH.1 b) j i (by grind) (by grind) a;rw[cn,cn]at this;simpa using this
def Nn{A:List Ac}{l:List Sd}(h:l.map (·.acct)=A.map (·.num))(f:(A.map (·.num)).Nodup):(A.map (sr l)).map (·.cash)=l.map (·.cash)/\∀i (hi:i<A.length) (a:i<l.length),sr l A[i]={A[i]with cash:=l[i].cash,dfl:=A[i].dfl||l[i].dfl}:=by
 have b:l.length=A.length:=by have:=dP List.length h;rwa[af,af]at this
 have key:∀i (hi:i<A.length) (a:i<l.length),sr l A[i]={A[i]with cash:=l[i].cash,dfl:=A[i].dfl||l[i].dfl}:=λi hi a=>by
  have e:l[i].acct=A[i].num:=by
   have:(l.map (·.acct))[i]? =(A.map (·.num))[i]? :=by rw[h]
   rw[bY,bY,ao a,ao hi]at this;exact cM this
  unfold sr;have:=OL (l:=l) (by rw[h];exact f) a;rw[e]at this;rw[this]
 refine⟨List.ext_getElem (by simp[b]) λi d c=>?_,key⟩;rw[af,af]at d;rw[af]at c;rw[cn,cn,cn,key i d c]
structure Za(S:ba)(won:Int->Int)(T:ba)(out:List Sd)(left:Int):Prop where
 set:SZ S.led.fund (S.dues won) out left
 led:I9 T.cal T.led
 ord:rE T
 cal:T.cal=S.cal
 next:T.next=S.next
 held:T.led.held=S.led.held
 fund:T.led.fund=left
 all:T.led.all=S.led.all.map (sr out)
 funds:T.led.funds=S.led.funds
 sub:∀n o,o∈T.ords n->o∈S.ords n
def OT(S:ba)(won:Int->Int):(S.dues won).map (·.acct)=S.led.all.map (·.num)/\(S.dues won).map (·.cash)=S.led.all.map (·.cash)/\(S.dues won).map (·.v)=S.led.all.map λa=>won a.num:=by
 unfold ba.dues;rw[da,da,da];exact⟨rfl,rfl,rfl⟩
def Jb(k:I9 S.cal S.led)(v:rE S){won:Int->Int}(h:(S.pay won).1=0):
  Za S won (S.pay won).2.2 (gK S.led.fund (S.dues won)).1 (gK S.led.fund (S.dues won)).2.1/\(S.pay won).2.1.accts=((gK S.led.fund (S.dues won)).1.filter (·.dfl)).map (·.acct):=by
 unfold ba.pay at h|-;simp only at h|-;obtain⟨x,r⟩:=dW (gK S.led.fund (S.dues won));rw[<-r]at h|-;by_cases u:x.2.2≠0
 ·grind
 rw[aa u]at h|-;have m:SZ S.led.fund (S.dues won) x.1 x.2.1:=by rw[r];exact LO (by grind)
 by_cases q:(mf x.1 jo S).1≠0
 ·grind
 rw[aa q]at h|-;simp only at h|-;obtain⟨d1,d2,d3⟩:=OT S won;have c:x.1.map (·.acct)=S.led.all.map (·.num):=m.acct.trans d1;have f:(S.led.all.map (·.num)).Nodup:=k.led.sa.nodup
 have hp:=Lp x.1 jo S k v (λs t=>by
  have:s.acct∈S.led.all.map (·.num):=by grind
  obtain⟨a,B,A⟩:=aD.1 this;rw[<-A,bq.mem_find k.led B];simp) (by rw[c];exact f) (by simpa using q)
 obtain⟨y,w⟩:=dW (mf x.1 jo S);rw[<-w]at h hp|-;have b:=bq.set_ok1 h;have g:y.2.2.led.putA ⟨0,x.2.1,false,false⟩={y.2.2.led with fund:=x.2.1}:=by unfold bq.putA;rw[ab rfl]
 rw[g]at b;have l:=bq.set_Ok hp.led.led (a:=⟨0,x.2.1,false,false⟩) ⟨by grind,by grind⟩;refine⟨⟨m,⟨l,λp e=>?_,?_⟩,?_,hp.cal,hp.next,?_,?_,?_,?_,λn o i=>hp.sub n o i⟩,by rw[hp.accts];rfl⟩
 ·rw[b]at e;exact hp.led.held p e
 ·rw[b];exact hp.led.zero
 ·refine hp.ord.mono (λn z=>.inl z) (λn d=>gA.refl λo i=>(hp.ord.bkMay n d o i).1) (λn=>gA.refl (hp.ord.bdMay n)) (λn o i j=>?_) (eh _);show bq.Stands (y.2.2.led.set _).2 _;rw[b];exact j
 ·show(y.2.2.led.set _).2.held=_;rw[b];exact hp.held
 ·grind
 ·show(y.2.2.led.set _).2.all=_;rw[b];exact hp.all
 ·show(y.2.2.led.set _).2.funds=_;rw[b];unfold bq.funds;show x.2.1+(y.2.2.led.all.map (·.cash)).sum=_;rw[hp.all,(Nn c f).1];have:=m.sum;rw[d2]at this;omega
def up{C:oq}(hC:C.Ok):∀(l:List Ct) (L:bq) (won:Int->Int),I9 C L->I9 C (js l L won).2.1/\((js l L won).2.1.all=L.all/\(js l L won).2.1.fund=L.fund)/\∀p∈(js l L won).2.1.held,∃q∈L.held,q.c=p.c
 | [],L,won,h=>⟨h,⟨rfl,rfl⟩,λp hp=>⟨p,hp,rfl⟩⟩
 |k::l,L,won,h=>by
  unfold js;split
  ·exact up hC l L won h
  ·simp only;obtain⟨x,a⟩:=dW (L.mark k.spec.num k.price false)
   have i:I9 C x.2.2:=by
    rw[a];refine⟨bq.mark_Ok h.led,λp hp=>?_,DP h.led h.zero _ _ _⟩;obtain⟨q,c,f⟩:=yo hp;rw[<-f];exact h.held q c
   have b:x.2.2.all=L.all/\x.2.2.fund=L.fund:=by rw[a];exact bq.mark_all
   have j:∀p∈x.2.2.held,∃q∈L.held,q.c=p.c:=by rw[a];exact λp hp=>yo hp
   rw[<-a];split
   ·exact⟨i,b,j⟩
   ·obtain⟨n,g,m⟩:=up hC l x.2.2 (im won x.2.1) i;refine⟨n,⟨g.1.trans b.1,g.2.trans b.2⟩,λp hp=>?_⟩;obtain⟨q,c,f⟩:=m p hp;obtain⟨o,e,d⟩:=j q c;exact⟨o,e,d.trans f⟩
structure Yg(C:oq)(L L' :bq):Prop where
 led:I9 C L'
 stands:∀n,L.Stands n->L'.Stands n
 funds:L'.funds=L.funds
 held:L'.held=L.held
 fund:L'.fund=L.fund
def BD{C:oq}{accts:List Int}:∀(l:List Ac) (e:Int) (L:bq),I9 C L->(∀a∈l,L.find a.num=some a)->(l.map (·.num)).Nodup->Yg C L (qc accts l e L).2
 | [],e,L,h,_,_=>⟨h,λ_ h=>h,rfl,rfl,rfl⟩
 |a::l,e,L,h,t,E=>by
  obtain⟨o,j⟩:=bO.1 E;have f:=t a ai;unfold qc;split
  ·rename_i G
   obtain⟨b,q⟩:=dW ({a with dfl:=false}:Ac);rw[<-q];obtain⟨r,F,m⟩:=bq.find_ok h.led f;have d:b.num=a.num:=by rw[q]
   have i:b.num≠0:=by rw[d];exact m
   have D:gM b.num:=by have:=h.led.acc a r;rw[d];exact⟨qZ,this.2.1⟩
   have s:∀n,n≠a.num->(L.set b).2.find n=L.find n:=λn g=>by
    rcases bq.set_cases L b with⟨c,-⟩|⟨c,-⟩
    ·rw[c]
    ·rw[c];show(L.putA b).find n=_;rw[bq.find_putA h.led.sa i,aa (by rw[d];exact g)]
   have B:I9 C (L.set b).2:=⟨bq.set_Ok h.led D,λp hp=>by rw[oG]at hp;exact h.held p hp,sD (oG _ _) h.zero⟩
   have k:=BD (accts:=accts) l (L.set b).1 (L.set b).2 B (λx u=>by
    have g:x.num≠a.num:=λA=>o (by grind);rw[s _ g];exact t x (ae _ u)) j
   refine⟨k.led,λn z=>k.stands n (wg h.led z λA=>?_),k.funds.trans ?_,k.held.trans (oG _ _),k.fund.trans ?_⟩
   ·obtain⟨y,w,H,v⟩:=z;rw[<-A,d,f]at w;cases w;rw[G.1]at v;cases v
   ·rcases bq.set_cases L b with⟨c,-⟩|⟨c,-⟩
    ·rw[c]
    ·rw[c];show(L.putA b).funds=_;rw[bq.funds_putA h.led.sa,d,ov m,f,q];show L.funds+a.cash - a.cash=_;omega
   ·rcases bq.set_cases L b with⟨c,-⟩|⟨c,-⟩
    ·rw[c]
    ·rw[c];show(L.putA b).fund=_;unfold bq.putA;rw[aa i]
  ·exact BD l e L h (λx u=>t x (ae _ u)) j
def JY(C:oq):(eJ C).2.l=C.l:=by unfold eJ;split<;>rfl
def V2(h:C.Ok):(eJ C).2.Ok:=by
 unfold eJ;split
 ·exact h
 ·rename_i a
  have:=h.day;exact⟨h.len,⟨by grind,by grind⟩,h.ok,h.srt⟩
def ba.Ok.day(h:S.Ok):({S with cal:=(eJ S.cal).2}:ba).Ok:=
 h.setCal (V2 h.cal) λn=>by rw[JY]
structure MK(S:ba)(S1:ba)(won:Int->Int)(T:ba)(r:Rp):Prop where
 s1:S1={S with cal:=(eJ S.cal).2,led:=(js (eJ S.cal).2.l S.led jy).2.1}
 hwon:won=(js (eJ S.cal).2.l S.led jy).2.2
 day:(eJ S.cal).1=0
 mark:(js (eJ S.cal).2.l S.led jy).1=0
 pay:(S1.pay won).1=0
 res:r=(S1.pay won).2.1
 fin:T={(S1.pay won).2.2 with led:=(qc r.accts (S1.pay won).2.2.led.all 0 (S1.pay won).2.2.led).2}
def ON(h:S.settle.1=0):MK S {S with cal:=(eJ S.cal).2,led:=(js (eJ S.cal).2.l S.led jy).2.1} (js (eJ S.cal).2.l S.led jy).2.2 S.settle.2.2 S.settle.2.1:=by
 unfold ba.settle at h|-;simp only at h|-;by_cases b:(eJ S.cal).1≠0
 ·grind
 rw[aa b]at h|-;by_cases a:(js (eJ S.cal).2.l S.led jy).1≠0
 ·grind
 rw[aa a]at h|-;by_cases c:(({S with cal:=(eJ S.cal).2,led:=(js (eJ S.cal).2.l S.led jy).2.1}:ba).pay (js (eJ S.cal).2.l S.led jy).2.2).1≠0
 ·grind
 rw[aa c]at h|-;exact⟨rfl,rfl,by simpa using b,by simpa using a,by simpa using c,rfl,rfl⟩
def wQ(h:S.Ok):({S with cal:=(eJ S.cal).2,led:=(js (eJ S.cal).2.l S.led jy).2.1}:ba).Ok:=by
 have a:=h.day;obtain⟨b,c,e⟩:=up a.cal (eJ S.cal).2.l S.led jy a.led;exact a.setLed b.led b.zero (λn o _ d=>(tA c.1 _).2 d) b.held (by rw[bq.funds_of c];exact h.fnd)
def Nc(h:S.Ok)(q:S.settle.1=0):S.settle.2.2.Ok/\S.settle.2.2.led.funds=S.led.funds:=by
 have e:=ON q;have c:=wQ h;obtain⟨i,f⟩:=dW ({S with cal:=(eJ S.cal).2,led:=(js (eJ S.cal).2.l S.led jy).2.1}:ba);rw[<-f]at e c;obtain⟨hp,-⟩:=Jb c.led c.ord e.pay
 have b:=BD (C:=(i.pay (js (eJ S.cal).2.l S.led jy).2.2).2.2.cal) (accts:=S.settle.2.1.accts) (i.pay (js (eJ S.cal).2.l S.led jy).2.2).2.2.led.all 0 (i.pay (js (eJ S.cal).2.l S.led jy).2.2).2.2.led hp.led
  (λa e=>bq.mem_find hp.led.led e) hp.led.led.sa.nodup
 have k:=(up h.day.cal (eJ S.cal).2.l S.led jy h.day.led).2.1
 have j:S.settle.2.2.led.funds=S.led.funds:=by
  rw[e.fin];show(qc _ _ _ _).2.funds=_;rw[b.funds,hp.funds,f];exact bq.funds_of k
 refine⟨?_,j⟩;have g:=e.fin;rw[g];refine⟨by show(i.pay _).2.2.cal.Ok;rw[hp.cal];exact c.cal,b.led,?_,by show 1<=(i.pay _).2.2.next/\_;rw[hp.next];exact c.next,by show(qc _ _ _ _).2.funds<=_;rw[b.funds,hp.funds];exact c.fnd⟩;exact hp.ord.mono (λn p=>.inl p) (λn d=>gA.refl λo l=>(hp.ord.bkMay n d o l).1) (λn=>gA.refl (hp.ord.bdMay n)) (λn o _ m=>b.stands _ m) (eh _)
def On(h:C.l.map (·.spec.num)=S.cal.l.map (·.spec.num))(a k:Int):({S with cal:=C}:ba).clear a k=((S.clear a k).1,{(S.clear a k).2 with cal:=C}):=by
 unfold ba.clear;have e:({S with cal:=C}:ba).nums=S.nums:=h;rw[e]
 have key:∀(b:List Int) (g:List Int) (T:ba),b.foldl (rQ a) (g,({T with cal:=C}:ba))=((b.foldl (rQ a) (g,T)).1,{(b.foldl (rQ a) (g,T)).2 with cal:=C}):=by
  intro b;induction b with
  |nil=>intro g T;rfl
  |cons n b c=>
   intro g T;rw[eN,eN];exact c _ (rQ a (g,T) n).2
 exact key _ [] S
def BO(a:Int):∀(b:List Int) (x:List Int×ba),(b.foldl (rQ a) x).2.cal=x.2.cal
 | [],x=>rfl
 |n::b,x=>by rw[eN,BO a b];rfl
def rB(S:ba)(a k:Int):(S.clear a k).2.cal=S.cal:=BO _ _ _
def A3{C:oq}:∀(l:List Sd) (r:Rp) (S:ba),C.l.map (·.spec.num)=S.cal.l.map (·.spec.num)->mf l r {S with cal:=C}=((mf l r S).1,(mf l r S).2.1,{(mf l r S).2.2 with cal:=C})
 | [],r,S,_=>rfl
 |s::l,r,S,h=>by
  unfold mf;simp only;rw[On h];have a:({S with cal:=C}:ba).acc s.acct=S.acc s.acct:=rfl;rw[a];cases b:s.dfl with
  |true=>
   simp only[de];split
   ·rfl
   ·exact A3 l _ {(S.clear s.acct 0).2 with led:=_} (by show _=(S.clear s.acct 0).2.cal.l.map _;rw[rB];exact h)
  |false=>
   simp only[bE,dB];split
   ·rfl
   ·exact A3 l _ {S with led:=_} h
def Tv(won:Int->Int)(h:C.l.map (·.spec.num)=S.cal.l.map (·.spec.num)):({S with cal:=C}:ba).pay won=((S.pay won).1,(S.pay won).2.1,{(S.pay won).2.2 with cal:=C}):=by
 unfold ba.pay;simp only;have a:({S with cal:=C}:ba).dues won=S.dues won:=rfl;rw[a];split
 ·rfl
 ·rw[A3 _ _ _ h];simp only;split<;>rfl
def GK{l:List Ct}{n:Int}{f:Ct->Ct}(b:∀k∈l,(f k).spec.num=k.spec.num):(ik l n f).map (·.spec.num)=l.map (·.spec.num):=by
 unfold ik;rw[da];refine dN λk a=>?_;show(if k.spec.num=n then f k else k).spec.num=_;split
 ·exact b k a
 ·rfl
structure ML(S:ba)(n:Int)(S1:ba)(won:Int->Int)(T:ba)(r:Rp):Prop where
 due:qn S.cal n=0
 cal:(eX S.cal n)=(0,⟨S.cal.day,ik S.cal.l n λk=>{k with st:=3}⟩)
 s1:S1={S with led:=(S.led.mark n (dw S.cal.l n).1.price true).2.2}
 hwon:won=im jy (S.led.mark n (dw S.cal.l n).1.price true).2.1
 mark:(S.led.mark n (dw S.cal.l n).1.price true).1=0
 pay:(S1.pay won).1=0
 fin:T={(S1.pay won).2.2 with cal:=(eX S.cal n).2,bk:=eR (S1.pay won).2.2.bk n (iU ((S1.pay won).2.2.bk n) 0).1,bd:=eR (S1.pay won).2.2.bd n []}
 acc:r.accts=(S1.pay won).2.1.accts
def MU(hC:S.cal.Ok){n:Int}(h:(S.expire n).1=0):ML S n {S with led:=(S.led.mark n (dw S.cal.l n).1.price true).2.2} (im jy (S.led.mark n (dw S.cal.l n).1.price true).2.1) (S.expire n).2.2 (S.expire n).2.1:=by
 unfold ba.expire at h|-;simp only at h|-;by_cases j:(eX S.cal n).1≠0
 ·grind
 rw[aa j]at h|-
 have c:qn S.cal n=0:=by
  apply aS;intro l;apply j;unfold eX;rw[ab l];exact l
 have a:eX S.cal n=(0,⟨S.cal.day,ik S.cal.l n λk=>{k with st:=3}⟩):=by unfold eX;rw[aa (by simp[c])]
 obtain⟨k,q,g,d,p⟩:=pl (BF c);have b:(dw S.cal.l n).1.spec.num=n:=by unfold dw;rw[q];exact d
 rw[b]at h|-;obtain⟨m,i⟩:=dW (S.led.mark n (dw S.cal.l n).1.price true);rw[<-i]at h|-;by_cases o:m.1≠0
 ·grind
 rw[aa o]at h|-;have e:({S with cal:=(eX S.cal n).2,led:=m.2.2}:ba).pay (im jy m.2.1)=_:=Tv (S:={S with led:=m.2.2}) (C:=(eX S.cal n).2) (im jy m.2.1) (by rw[a];exact GK (f:=λk=>{k with st:=3}) λ_ _=>rfl);rw[e]at h|-;simp only at h|-;by_cases g:(({S with led:=m.2.2}:ba).pay (im jy m.2.1)).1≠0
 ·grind
 rw[aa g]at h|-;exact⟨c,a,by rw[i],by rw[i],by grind,by simpa using g,rfl,rfl⟩
def ae5(h:rE S)(n:Int):(iU (S.bk n) 0).1=λ_=>[]:=by
 rw[GY (h.bkNd n)];funext d;unfold Bk.flt;rw[gf];intro o _;simp[lv]
def Hl{L:bq}(h:L.Ok){n price:Int}(d:(L.mark n price true).1=0){p:Po}(hp:p∈(L.mark n price true).2.2.held):p.c≠n:=by
 intro f;have b:=bq.mark_Ok h (c:=n) (price:=price) (cl:=true);have e:=(b.pos p hp).2.2.1
 have a:(L.mark n price true).2.2.position p.c p.a=p:=by
  unfold bq.position;have:=FT b.sp hp;unfold bq.pos?;show(List.find? (λx=>decide (x.key=p.key)) _).getD _=p;rw[this];rfl
 have g:(L.mark n price true).2.2=L.marked (L.holders n) price true:=by
  unfold bq.mark at d|-;split at d
  ·cases d
  ·grind
 rw[g]at a;rw[bq.mark_pos h.sp,ab f]at a;rw[<-a]at e;unfold Po.mark Po.isZ at e;simp at e
def NT(h:S.Ok){n:Int}(I:(S.expire n).1=0):(S.expire n).2.2.Ok/\(S.expire n).2.2.led.funds=S.led.funds:=by
 have t:=MU h.cal I;obtain⟨m,s⟩:=dW (S.led.mark n (dw S.cal.l n).1.price true);have A:=t.mark;rw[<-s]at t;have y:m.2.2.Ok:=by rw[s];exact bq.mark_Ok h.led.led
 have e:m.2.2.all=S.led.all/\m.2.2.fund=S.led.fund:=by rw[s];exact bq.mark_all
 have r:({S with led:=m.2.2}:ba).Ok:=h.setLed y (by rw[s];exact DP h.led.led h.led.zero _ _ _) (λk o _ B=>(tA e.1 _).2 B) (λp hp=>by
  rw[s]at hp;obtain⟨q,F,z⟩:=yo hp;rw[<-z];exact h.led.held q F) (by rw[bq.funds_of e];exact h.fnd)
 obtain⟨hp,-⟩:=Jb r.led r.ord t.pay;obtain⟨T,G⟩:=dW ((({S with led:=m.2.2}:ba).pay (im jy m.2.1)).2.2);have i:=t.fin;rw[<-G]at hp i;have v:T.led.funds=S.led.funds:=by rw[hp.funds];exact bq.funds_of e
 rw[i,t.cal];have c:=pg (l:=S.cal.l) (n:=n) (f:=λk=>{k with st:=3}) (λk E _=>⟨AH (h.cal.ok k E) qZ,rfl⟩) h.cal.ok h.cal.srt
 have u:∀x,x≠n->bt (ik S.cal.l n λk=>{k with st:=3}) x=bt S.cal.l x:=λx C=>by
  unfold bt;rw[pL (f:=λk=>{k with st:=3}) λ_ _=>rfl];cases D:bU S.cal.l x with
  |none=>rfl
  |some k=>
   have w:k.spec.num≠n:=by
    have:=kZ D;simp only[ax]at this;omega
   show(if(if k.spec.num=n then _ else k).st=3 then(50:Int)else 0)=_;rw[aa w]
 have j:∀p∈T.led.held,p.c≠n:=λp g=>by
  rw[hp.held]at g;have:p∈(S.led.mark n (dw S.cal.l n).1.price true).2.2.held:=by grind
  exact Hl h.led.led A this
 refine⟨⟨⟨by show(ik _ _ _).length<=16;rw[c.2.2];exact h.cal.len,h.cal.day,c.1,c.2.1⟩,⟨hp.led.led,λp g=>?_,hp.led.zero⟩,?_,by show 1<=T.next/\_;rw[hp.next];exact h.next,by show T.led.funds<=_;rw[v];exact h.fnd⟩,v⟩
 ·show bt (ik _ _ _) _=0;rw[u _ (j p g)];have:=hp.led.held p g
  rwa[hp.cal]at this
 ·have b:∀d,eR T.bk n (iU (T.bk n) 0).1 n d=[]:=λd=>by rw[cQ,ae5 hp.ord]
  refine hp.ord.mono (λx C=>?_) (λx d=>?_) (λx=>?_) (λ_ _ _ B=>B) (eh _)
  ·by_cases a:x=n
   ·subst a;right;show(eR T.bk x _ x).all++eR T.bd x [] x=[]
    unfold Bk.all;rw[b,b,cQ];rfl
   ·left;rw[hp.cal];show bt S.cal.l x≠0;rw[<-u x a];exact C
  ·show gA (eR T.bk n _ x d) _;by_cases a:x=n
   ·subst a;rw[b];exact⟨List.nil_sublist _,by simp⟩
   ·rw[eT _ _ _ a];exact gA.refl λo H=>(hp.ord.bkMay x d o H).1
  ·show gA (eR T.bd n [] x) _;by_cases a:x=n
   ·subst a;rw[cQ];exact⟨List.nil_sublist _,by simp⟩
   ·rw[eT _ _ _ a];exact gA.refl (hp.ord.bdMay x)
def Ha:∀(l:List Od) (qty a:Int),0<=qty->(∀o∈l,1<=o.left)->
  (∀f∈(kE qty l a).1,1<=f.qty/\∃b∈l,b.num=f.num/\b.acct=f.acct/\f.qty<=b.left)/\((kE qty l a).1.map (·.num)).Sublist (l.map (·.num))/\((kE qty l a).1.map (·.qty)).sum<=qty
 | [],qty,a,c,_=>⟨by simp[kE],by simp[kE],by simp[kE];exact c⟩
 |b::l,qty,a,c,e=>by
  have j:=e b ai;unfold kE;split
  ·grind
  ·rename_i i
   obtain⟨k,h,m⟩:=Ha l (qty - min qty b.left) b.price qZ λo g=>e o (ae _ g);refine⟨λf d=>?_,?_,?_⟩
   ·rcases aq.1 d with rfl|d
    ·grind
    ·grind
   ·grind
   ·grind
def AW{L:bq}(h:L.Ok)(a:L.Zero){n f t:Int}{long:Bool}{price qty:Int}(b:gM n):(lQ L n f t long price qty).2.Ok/\(lQ L n f t long price qty).2.Zero/\((lQ L n f t long price qty).2.all=L.all/\(lQ L n f t long price qty).2.fund=L.fund)/\
  ∀p∈(lQ L n f t long price qty).2.held,p∈L.held\/p.c=n:=by
 unfold lQ;split
 ·exact⟨bq.trade_Ok h b,wj h a _ _ _ _ _,bq.trade_all,λp hp=>(vS hp).imp id (·.1)⟩
 ·exact⟨bq.trade_Ok h b,wj h a _ _ _ _ _,bq.trade_all,λp hp=>(vS hp).imp id (·.1)⟩
def EV(h:S.Ok){n f t:Int}{long:Bool}{price qty:Int}(a:bt S.cal.l n=0):({S with led:=(lQ S.led n f t long price qty).2}:ba).Ok:=by
 obtain⟨i,d,c,g⟩:=AW h.led.led h.led.zero (f:=f) (t:=t) (long:=long) (price:=price) (qty:=qty) (mN h.cal a);refine h.setLed i d (λn o _ j=>(tA c.1 _).2 j) (λq e=>?_) (by rw[bq.funds_of c];exact h.fnd);rcases g q e with b|b
 ·exact h.led.held q b
 ·rw[b];exact a
def Bc{l:List Od}(d:∀o∈l,o.may=true){num qty:Int}(p:1<=qty)(j:∀o∈l,o.num=num->qty<=o.left):gA (kB l num qty) l/\∀o∈kB l num qty,o.num≠num->o∈l:=by
 unfold kB;cases k:l.findIdx? λo=>decide (o.num=num)with
 |none=>exact⟨gA.refl d,λo c _=>c⟩
 |some i=>
  obtain⟨b,f,-⟩:=bg.1 k;have a:l[i].num=num:=by simpa using f
  have g:l.getD i ou=l[i]:=by grind
  simp only;rw[g];have n:=jm (d _ (ar b));have m:=j _ (ar b) a;split
  ·exact⟨gA.of_sub (eO _ _) d,λo c _=>(eO _ _).mem c⟩
  ·refine⟨gA.set d b qZ,λo c e=>?_⟩;rcases ec c with h|rfl
   ·exact h
   ·exact absurd a e
def Dv{n a:Int}{long:Bool}{price:Int}:∀(l:List Fl) (left:Int) (r:Rp) (S:ba),S.Ok->bt S.cal.l n=0->(∀f∈l,1<=f.qty/\∀o∈S.bd n,o.num=f.num->f.qty<=o.left)->(l.map (·.num)).Nodup->
  (lq n a long price l left r S).2.2.2.Ok/\(lq n a long price l left r S).2.2.2.cal=S.cal/\(lq n a long price l left r S).2.2.2.led.all=S.led.all/\(lq n a long price l left r S).2.2.2.led.fund=S.led.fund
 | [],left,r,S,h,_,_,_=>⟨h,rfl,rfl,rfl⟩
 |f::l,left,r,S,h,b,i,w=>by
  obtain⟨e,j⟩:=bO.1 w;obtain⟨q,x⟩:=i f ai;unfold lq;simp only;have v:=EV h (f:=a) (t:=f.acct) (long:=long) (price:=price) (qty:=f.qty) b;have u:=(AW h.led.led h.led.zero (n:=n) (f:=a) (t:=f.acct) (long:=long) (price:=price) (qty:=f.qty) (mN h.cal b)).2.2.1;split
  ·grind
  ·obtain⟨m,s⟩:=Bc (h.ord.bdMay n) q x;have p:=v.setBd (n:=n) (B:=kB (S.bd n) f.num f.qty) m;have z:=Dv (n:=n) (a:=a) (long:=long) (price:=price) l (left - f.qty) {r with filled:=r.filled+f.qty,trades:=r.trades++[⟨price,f.qty,f.num,f.acct⟩]} _ p b (λg k=>⟨(i g (ae _ k)).1,λo c y=>?_⟩) j
   ·grind
   ·replace c:o∈eR S.bd n (kB (S.bd n) f.num f.qty) n:=c;rw[cQ]at c;have d:o.num≠f.num:=λA=>e (by grind);exact(i g (ae _ k)).2 o (s o c d) y
def Dy{n a:Int}{long:Bool}{price:Int}:∀(l:List Hd) (r:Rp) (S:ba),S.Ok->bt S.cal.l n=0->(lE n a long price l r S).2.2.Ok/\(lE n a long price l r S).2.2.cal=S.cal/\(lE n a long price l r S).2.2.led.all=S.led.all/\(lE n a long price l r S).2.2.led.fund=S.led.fund
 | [],r,S,h,_=>⟨h,rfl,rfl,rfl⟩
 |x::l,r,S,h,b=>by
  unfold lE;simp only;have e:=EV h (f:=a) (t:=x.acct) (long:=long) (price:=price) (qty:=x.q) b;have c:=(AW h.led.led h.led.zero (n:=n) (f:=a) (t:=x.acct) (long:=long) (price:=price) (qty:=x.q) (mN h.cal b)).2.2.1;split
  ·grind
  ·have d:=Dy (n:=n) (a:=a) (long:=long) (price:=price) l {r with left:=r.left+x.q,trades:=r.trades++[⟨price,x.q,0,x.acct⟩]} _ e b;exact⟨d.1,d.2.1,d.2.2.1.trans c.1,d.2.2.2.trans c.2⟩
def B4{sells:Bool}{qty:Int}{l:List Od}(a:∀o∈l,o.may=true)(d:0<=qty):(∀f∈(ij sells qty l).2.1,1<=f.qty/\∃b∈l,b.num=f.num/\b.acct=f.acct/\f.qty<=b.left)/\((l.map (·.num)).Nodup->((ij sells qty l).2.1.map (·.num)).Nodup)/\((ij sells qty l).2.1.map (·.qty)).sum<=qty:=by
 unfold ij;split
 ·grind
 ·split
  ·grind
  ·have hp:=Srt.stable_perm (qv (nN sells)) l;obtain⟨i,h,e⟩:=Ha (Srt.stable (qv (nN sells)) l) qty 0 d λo c=>(jm (a o (hp.mem_iff.1 c))).1;refine⟨λf g=>?_,λj=>?_,e⟩
   ·grind
   ·grind
def L6(h:S.Ok){k:Ct}{a q:Int}{r:Rp}(y:bt S.cal.l k.spec.num=0):(S.sell k a q r).2.2.Ok/\(S.sell k a q r).2.2.cal=S.cal/\(S.sell k a q r).2.2.led.all=S.led.all/\(S.sell k a q r).2.2.led.fund=S.led.fund:=by
 unfold ba.sell;simp only;obtain⟨c,e⟩:=dW (decide (0<q):Bool);rw[<-e];obtain⟨l,u⟩:=dW ((S.bd k.spec.num).filter λo=>o.buy==c);rw[<-u];split
 ·grind
 ·have i:∀o∈l,o∈S.bd k.spec.num:=λo g=>by rw[u]at g;exact(aM.1 g).1
  obtain⟨z,E,I⟩:=B4 (sells:=c) (qty:=max q (-q)) (l:=l) (λo g=>h.ord.bdMay _ o (i o g)) qZ;have v:(l.map (·.num)).Nodup:=(h.ord.bdNd k.spec.num).sublist (by rw[u];exact ep.map _);have d:=Dv (n:=k.spec.num) (a:=a) (long:=c) (price:=(ij c (max q (-q)) l).1) (ij c (max q (-q)) l).2.1 (max q (-q)) r S h y (λf B=>⟨(z f B).1,λo g G=>?_⟩) (E v)
  ·obtain⟨F,t⟩:=dW (lq k.spec.num a c (ij c (max q (-q)) l).1 (ij c (max q (-q)) l).2.1 (max q (-q)) r S);rw[<-t]at d|-;obtain⟨H,w⟩:=dW (if c=true then F.2.1 else -F.2.1);rw[<-w];split
   ·exact d
   ·split
    ·exact d
    ·split
     ·exact d
     ·have j:=Dy (n:=k.spec.num) (a:=a) (long:=c) (price:=k.price) (jE H (((F.2.2.2.led.holders k.spec.num).filter λp=>decide (p.a≠a)).map λp=>⟨p.a,p.q⟩)).1 F.2.2.1 F.2.2.2 d.1 (by grind);exact⟨j.1,j.2.1.trans d.2.1,j.2.2.1.trans d.2.2.1,j.2.2.2.trans d.2.2.2⟩
  ·obtain⟨-,b,D,x,-,m⟩:=z f B
   have s:o=b:=by
    have A:=jZ (h.ord.bdNd _) g;have C:=jZ (h.ord.bdNd _) (i b D);rw[G,<-x,C]at A;exact(cM A).symm
   rw[s];exact m
def D4(h:S.Ok){n a:Int}(b:(S.led.position n a).q≠0):bt S.cal.l n=0:=by
 unfold bq.position at b;cases hp:S.led.pos? (n,a)with
 |none=>rw[hp]at b;exact absurd rfl b
 |some p=>
  obtain⟨d,c⟩:=bq.pos_mem hp;have:=h.led.held p d;have e:p.c=n:=dP (·.1) c
  rwa[e]at this
def A9{a:Int}:∀(l:List Ct) (r:Rp) (S:ba),S.Ok->(og a l r S).2.2.Ok/\(og a l r S).2.2.cal=S.cal/\(og a l r S).2.2.led.all=S.led.all/\(og a l r S).2.2.led.fund=S.led.fund
 | [],r,S,h=>⟨h,rfl,rfl,rfl⟩
 |k::l,r,S,h=>by
  unfold og;simp only;split
  ·exact A9 l r S h
  ·rename_i d
   have b:=L6 h (k:=k) (a:=a) (q:=(S.led.position k.spec.num a).q) (r:=r) (D4 h d);split
   ·exact b
   ·have c:=A9 (a:=a) l (S.sell k a (S.led.position k.spec.num a).q r).2.1 _ b.1;exact⟨c.1,c.2.1.trans b.2.1,c.2.2.1.trans b.2.2.1,c.2.2.2.trans b.2.2.2⟩
def XK(h:S.Ok)(a:Ac):(S.liquidate a).2.2.Ok/\(S.liquidate a).2.2.led.all=S.led.all/\(S.liquidate a).2.2.led.fund=S.led.fund:=by
 unfold ba.liquidate;split
 ·exact⟨h,rfl,rfl⟩
 ·have:=A9 (a:=a.num) S.cal.l jo S h;exact⟨this.1,this.2.2⟩
def U9(h:S.Ok){c:Cm}(d:c.Fit)(a:(S.done c).1=0):(S.done c).2.2.Ok:=by
 unfold ba.done at a|-;by_cases k1:c.kind=1
 ·rw[ab k1];exact Ja h d.2.1
 rw[aa k1]at a|-;by_cases k2:c.kind=2
 ·rw[ab k2];exact zj h
 rw[aa k2]at a|-;by_cases k3:c.kind=3
 ·rw[ab k3]at a|-;simp only at a|-;rw[ab a];exact Tx h d.2.2.2.2.2.1 a
 rw[aa k3]at a|-;by_cases k4:c.kind=4
 ·rw[ab k4];exact Uk h _ _
 rw[aa k4]at a|-;by_cases k11:c.kind=11
 ·rw[ab k11];exact I6 h _ _
 rw[aa k11]at a|-;by_cases k12:c.kind=12
 ·rw[ab k12]at a|-;exact(Nc h a).1
 rw[aa k12]at a|-;by_cases k14:c.kind=14
 ·rw[ab k14]at a|-;exact(NT h a).1
 rw[aa k14]at a|-;by_cases b:c.acct=0
 ·grind
 rw[aa b]at a|-;by_cases k6:c.kind=6
 ·rw[ab k6];exact NI h
 rw[aa k6]at a|-;by_cases k7:c.kind=7
 ·rw[ab k7]at a|-;exact Jz h d b a
 rw[aa k7]at a|-;by_cases e:S.led.getO c.acct=none
 ·grind
 rw[aa e]at a|-;by_cases k5:c.kind=5
 ·rw[ab k5]at a|-;exact Sa h d b a
 rw[aa k5]at a|-;by_cases k9:c.kind=9
 ·rw[ab k9]at a|-;exact Y7 h d b a
 rw[aa k9]at a|-;by_cases k8:c.kind=8
 ·rw[ab k8]at a|-;split
  ·exact h
  ·exact h.clear b
 rw[aa k8]at a|-;by_cases k10:c.kind=10
 ·rw[ab k10];exact VD h b d.2.1 e c.on
 rw[aa k10]at a|-;by_cases k13:c.kind=13
 ·rw[ab k13];exact(XK h _).1
 rw[aa k13];exact h
def R6(h:S.Ok){c:Cm}(b:c.Fit):(S.apply c).2.Ok:=by
 unfold ba.apply;split
 ·exact h
 ·simp only;split
  ·exact h
  ·rename_i a
   exact U9 h b (by simpa using a)
def R1:ba.empty.Ok:=by
 refine⟨⟨by show(0:Nat)<=16;omega,⟨by show(0:Int)<=0;omega,by show(0:Int)<4294967296;omega⟩,λk c=>(by cases c),List.Pairwise.nil⟩,⟨⟨⟨by show(0:Int)<=0;omega,by show(0:Int)<=MF;unfold MF;omega⟩,List.Pairwise.nil,List.Pairwise.nil,by show(0:Nat)<=64;omega,λa e=>(by cases e),λp hp=>(by cases hp)⟩,λp hp=>(by cases hp),bq.empty_zero⟩,
  ⟨λn _=>rfl,λn d=>⟨by show(0:Nat)<=100;omega,λo b=>(by cases b)⟩,λn o b=>(by cases b),λn=>je,λn m o f b=>(by cases b),λn=>(by show(0:Nat)<=50;omega)⟩,⟨by show(1:Int)<=1;omega,by show(1:Int)<=ll+1;unfold ll;omega⟩,by show(0+(0:Int))<=MF;unfold MF;omega⟩
end Go.Proofs
namespace Go.Proofs
open Go Go.Vc
attribute [local congr] bj
variable {q:Int}{T:TypeId}{w:Wt_}{K:be}{s:kW}{x:kW×Value}
abbrev ub:TypeId:=414
def pH(x:kW×Value):List Value:=t8 x.1.leg++[.int .i64 x.1.basis,gI x.1.price,x.2]
def oN(x:kW×Value):(pH x).length=29:=by simp[pH,gL]
def EL(x:kW×Value)(h:∃a n c,x.2=.slice a n c):(pH x).all (·.oneCell')=true:=by
 obtain⟨a,n,c,h⟩:=h;rw[pH,ez,E9,h];rfl
def skT(x:kW×Value)(i:Nat)(h:i<26):(pH x)[i]? =(t8 x.1.leg)[i]? :=by rw[pH,bP (by rw[gL];omega)]
def SL(x:kW×Value):(pH x)[25]? =some (gI x.1.leg.q):=by rw[skT x 25 qZ,RE]
def WL(x:kW×Value):(pH x)[26]? =some (gI x.1.basis):=by rw[pH,bf (by rw[gL];omega),gL];rfl
def K9(x:kW×Value):(pH x)[27]? =some (gI x.1.price):=by rw[pH,bf (by rw[gL];omega),gL];rfl
def GM(x:kW×Value):(pH x)[28]? =some x.2:=by rw[pH,bf (by rw[gL];omega),gL];rfl
def Zi:Tryz.prog.cellsOf ub=28+1:=cH
def aSk:lI pQ ub=true:=cH
def zSk:mR pQ ub=true:=cH
def ap0:(iK pQ ub).length=28+1:=cH
def ae0:Tryz.prog.underlying 410=some (.slice ub):=cH
def eSk:fj pQ ub 29 240=true:=cH
def Ql{b:Nat}(h:hC w b (pH x).toArray T):At w b 0 (fk x.1.leg.spec):=by
 have:=(At.all h).sub 0 25 (by rw[oN];omega);rw[dO,pH,t8,ag,aP (by rw[bb];omega),ay (by rw[bb];omega)]at this;exact this
def T4{b:Nat}(h:hC w b (pH x).toArray T):At w b 6 (vl x.1.leg.spec.shifts):=by
 have:=(Ql h).sub 6 16 (by rw[bb];omega);rw[rZ]at this;simpa using this
def kW.Fit(s:kW):Prop:=s.leg.spec.Fit/\dM s.leg.q/\dM s.basis/\dM s.price/\∀o∈s.ords,o.Fit
def VE(s:Rd w 5 x.2 x.1.ords.length (x.1.ords.flatMap dp))(hn:x.1.ords.length<=1000000)(T:x.1.Fit)
  (n:∀M,M0 w M->K (.bool x.1.ok) M):Ca pQ 347 #[.agg (pH x).toArray] w K:=by
 obtain⟨Y,Q,f3,f4,f5⟩:=T;refine cN Tryz.func347 ?_;have J:M0 w (w.alloc (.cells (pH x).toArray ub)):=nl;have e:hC (w.alloc (.cells (pH x).toArray ub)) w.heap.size (pH x).toArray ub:=by simp[go_sem]
 apply az (cU w.heap.size 0) (w.alloc (.cells (pH x).toArray ub)) rfl;obtain⟨p,E⟩:=dW w.heap.size;rw[<-E]at e|-;generalize w.alloc (.cells (pH x).toArray ub)=w1 at J e|-;obtain⟨sa,sc,k⟩:=s.isSl;have a:∀{W:Wt_},(builtin .len #[146] 3 #[false] #[x.2]).run pQ W=.ok (.value (gI (x.1.ords.length:Int))) W:=λ{W}=>by rw[k];simp[go_sem]
 obtain⟨P,B⟩:=dW ((aY x.1.basis (-1000000000000000) 1000000000000000&& aY x.1.leg.q (-10000000) 10000000&& x.1.leg.spec.isPrice x.1.price&& decide (x.1.ords.length<=250)):Bool);refine dU.at (λst W=>st=(.bool (!P),())/\M0 w1 W) ?_ ?_
 ·refine dF ?_;refine nm e WL ?_;apply ib f3 qZ;refine dF ?_;rw[bG];cases h1:aY x.1.basis (-1000000000000000) 1000000000000000 with
  |false=>
   rw[ab (by simp)];exact⟨by rw[B,h1];rfl,rC⟩
  |true=>
  rw[aa (by simp)];refine dF ?_;refine dF ?_;refine nm e SL ?_;apply ib Q qZ;refine dF ?_;rw[bG];cases h2:aY x.1.leg.q (-10000000) 10000000 with
  |false=>
   rw[ab (by simp)];exact⟨by grind,rC⟩
  |true=>
  rw[aa (by simp)];refine dF ?_;refine dF ?_;apply iu (fk x.1.leg.spec) 24 yf ud (bb _) (Ql e);refine dF ?_;refine nm e K9 ?_;refine pC Y λr g=>?_;have D:=g.hpk e id;refine dF ?_;rw[bG];cases h3:x.1.leg.spec.isPrice x.1.price with
  |false=>
   rw[ab (by simp)];exact⟨by grind,g⟩
  |true=>
  rw[aa (by simp)];refine dF ?_;apply az x.2 r (by rw[k];simp[go_sem,D,GM,k]);apply zw a
  refine az (.bool (!decide (x.1.ords.length<=250))) r (by
   by_cases h:x.1.ords.length<=250
   ·have A:¬(250:Int)<(x.1.ords.length:Int):=qZ;simp[go_sem,h,A]
   ·have A:(250:Int)<(x.1.ords.length:Int):=qZ;simp[go_sem,h,A]) ?_
  exact⟨by grind,g⟩
 rintro _ r ⟨rfl,g⟩;refine qk ?_;intro _;rw[bG];have L:=J.trans g;cases j:P with
 |false=>
  rw[ab (by simp)];have f:=n r L
  have:x.1.ok=false:=by
   unfold kW.ok;rw[<-B,j];rfl
  rw[this]at f;exact f
 |true=>
 rw[aa (by simp)];have t:x.1.ok=x.1.ords.all (·.may):=by unfold kW.ok;rw[<-B,j];rfl
 rw[t]at n;have D:=g.hpk e id;refine dF ?_;apply az x.2 r (by rw[k];simp[go_sem,D,GM,k]);apply zw a;obtain⟨l,Z⟩:=dW x.1.ords;rw[<-Z]at s hn f5 n a|-
 refine iz (λst W=>∃(i:Nat) (y:Vt_),i<=l.length/\st=(y,gI i,())/\M0 w W/\(l.take i).all (·.may)=true)
  (λst _=>match st.2.1 with| .int _ i=>l.length - i.toNat|_=>0) ⟨0,_,qZ,rfl,L,rfl⟩ ?_
 rintro⟨_,_,_⟩ W ⟨i,y,hi,⟨⟩,z,c⟩ KN u;refine rT ?_;intro _;by_cases d:i<l.length
 ·have m:(i:Int)<(l.length:Int):=qZ;refine ee m ?_;obtain⟨b,v,cap,C,G,S⟩:=(s.mod z eI).item dH d rfl;apply az (cU b (v+i*5)) W (by rw[C];simp[go_sem,d,bQ,gR]);apply dy (me (o:=l[i]) S);obtain⟨w3,e3,F,X⟩:=kg W;apply dy e3;obtain⟨q,hq⟩:=dW W.heap.size;rw[<-hq]at F|-;obtain⟨V,e4,b4,R⟩:=jA (o' :=l[i]) F;apply lO e4;apply dy (me (o:=l[i]) (At.all b4));have U:M0 W V:=X.on R λb hb=>gT;refine vh λN O=>?_;have I:=(z.trans U).trans O;refine dF ?_;rw[bG];cases H:l[i].may with
  |false=>
   rw[ab (by simp)];have f:=n N I;have:l.all (·.may)=false:=jO.2 ⟨l[i],ar d,by rw[H];simp⟩;rw[this]at f;exact f
  |true=>
   rw[aa (by simp)];apply az (gI ((i+1:Nat):Int)) N (by simp[go_sem];rw[mL]);refine u _ _ ⟨i+1,_,qZ,rfl,I,?_⟩ (by grind);rw[bV d,ez,c,mT,H];rfl
 ·obtain rfl:i=l.length:=qZ;refine fh ?_;rw[aL]at c;have f:=n W z;rw[c]at f;exact f
def IS{p:Nat}(h:hC w p (pH x).toArray T)(hs:x.1.leg.spec.Fit)(b:dM q)
  (c:∀a,M0 w a->K (gI (x.1.at q)) a):Ca pQ 374 #[.int .i64 q,.pointer (some ⟨p,0,none⟩)] w K:=by
 refine cN Tryz.func374 ?_;refine dF ?_;refine dF ?_;refine dF ?_;apply iu (vl x.1.leg.spec.shifts) 15 Xv XV (mX _) (T4 h);refine VJ hs.2.2.2.2.2.2.1 b λa d=>?_;refine dF ?_;refine dF ?_;exact c a d
def Np(l:List Od)(o:Od)(buy:Bool):oU (l++[o]) buy=oU l buy+(if o.buy=buy then o.left else 0):=by
 unfold oU;rw[cj,aK,fK];congr 1;by_cases h:o.buy=buy
 ·grind
 ·grind
def AE{l:List Od}{buy:Bool}(h:∀o∈l,o.may=true):0<=oU l buy/\oU l buy<=l.length*1000000:=by
 have d:=rK (l:=(l.filter λo=>o.buy==buy).map (·.left)) (B:=1000000) λx b=>by
  obtain⟨o,a,rfl⟩:=aD.1 b;have:=Od.left_bd (h o (aM.1 a).1);omega
 have c:((l.filter λo=>o.buy==buy).map (·.left)).length<=l.length:=by grind
 unfold oU;have e:(((l.filter λo=>o.buy==buy).map (·.left)).length:Int)*1000000<=l.length*1000000:=qZ;omega
def L4{price:Int}(hp:1<=price/\price<=10000000){o:Od}(h:o.may=true):0<=rO price o/\rO price o<=10000000000000:=by
 have e:=Od.left_bd h;have d:=Od.price_bd h;unfold rO
 have key:∀a:Int,0<=a->a<=10000000->0<=a*o.left/\a*o.left<=10000000000000:=λa c f=>by
  have:=Eb (a:=a) (b:=o.left) (A:=10000000) (B:=1000000) qZ qZ;have g:0<=a*o.left:=jg c qZ;omega
 split
 ·exact key _ qZ qZ
 ·exact key _ qZ qZ
def KD{price:Int}(hp:1<=price/\price<=10000000){l:List Od}(h:∀o∈l,o.may=true):0<=(l.map (rO price)).sum/\(l.map (rO price)).sum<=l.length*10000000000000:=by
 have:=rK (l:=l.map (rO price)) (B:=10000000000000) λx b=>by
  obtain⟨o,a,rfl⟩:=aD.1 b;exact L4 hp (h o a)
 rwa[af]at this
def Jm{B:Int}(i: -B<=q/\q<=B)(f:0<=B):∀{l:List Int},(∀x∈l,-10000000<=x/\x<=10000000)->0<=ln l q/\ln l q<=B*10000000:=by
 intro l
 have key:∀(l:List Int) (m:Int),(∀x∈l,-10000000<=x/\x<=10000000)->0<=m/\m<=B*10000000->0<=l.foldl (λm s=>max m (-q*s)) m/\l.foldl (λm s=>max m (-q*s)) m<=B*10000000:=by
  intro l;induction l with
  |nil=>intro m _ h;exact h
  |cons x l e=>
   intro m c j;rw[eN];have g:=Eb (a:= -q) (b:=x) (A:=B) (B:=10000000) qZ (c x (by simp));exact e _ (λy d=>c y (by simp[d])) qZ
 exact λh=>key l 0 h ⟨qZ,jg f qZ⟩
def DI(hs:s.leg.spec.may=true)(a: -1000000000<=q/\q<=1000000000):0<=s.at q/\s.at q<=10000000000000000:=by
 unfold kW.at vJ;split
 ·grind
 ·exact Jm (B:=1000000000) a qZ (y8 hs).1
def H4{s:Sp}{p:Int}(h:s.isPrice p=true):s.may=true:=by
 unfold Sp.isPrice at h;rw[ah]at h;exact h.1
structure kW.OkF(s:kW):Prop where
 basis: -1000000000000000<=s.basis/\s.basis<=1000000000000000
 q: -10000000<=s.leg.q/\s.leg.q<=10000000
 may:s.leg.spec.may=true
 price:1<=s.price/\s.price<=10000000
 len:s.ords.length<=250
 ords:∀o∈s.ords,o.may=true
def kW.okF(h:s.ok=true):s.OkF:=by
 unfold kW.ok at h;simp only[ah]at h;obtain⟨⟨⟨⟨e,c⟩,a⟩,d⟩,f⟩:=h;exact⟨eL.1 e,eL.1 c,H4 a,uH a,bz d,λo b=>aW.1 f o b⟩
def kW.worst_bd(h:s.ok=true):0<=s.worst/\s.worst<=12500000000000000:=by
 obtain⟨n,m,j,k,o,i⟩:=kW.okF h;have a:=KD k i;have b:=AE (buy:=true) i;have c:=AE (buy:=false) i;have l:(s.ords.length:Int)<=250:=qZ;have d:=DI (q:=s.leg.q+oU s.ords true) j qZ;have e:=DI (q:=s.leg.q - oU s.ords false) j qZ;have f:=DI (q:=s.leg.q) j qZ;unfold kW.worst;have g:(s.ords.length:Int)*10000000000000<=250*10000000000000:=qZ;omega
def Oc(H:Rd w 5 x.2 x.1.ords.length (x.1.ords.flatMap dp))(hf:x.1.Fit)(J:x.1.ok=true)
  (hK:∀w',M0 w w' ->K (gI x.1.worst) w'):Ca pQ 349 #[.agg (pH x).toArray] w K:=by
 obtain⟨S,f2,f3,f4,f5⟩:=hf;obtain⟨k1,k2,k3,k4,k5,k6⟩:=kW.okF J;refine cN Tryz.func349 ?_;have m1:M0 w (w.alloc (.cells (pH x).toArray ub)):=nl;have E:hC (w.alloc (.cells (pH x).toArray ub)) w.heap.size (pH x).toArray ub:=by simp[go_sem]
 apply az (cU w.heap.size 0) (w.alloc (.cells (pH x).toArray ub)) rfl;obtain⟨p,V⟩:=dW w.heap.size;rw[<-V]at E|-;generalize w.alloc (.cells (pH x).toArray ub)=w1 at m1 E|-;obtain⟨sa,sc,P⟩:=H.isSl;refine dF ?_;apply az x.2 w1 (by rw[P];simp[go_sem,E,GM,P]);apply ke (gI (x.1.ords.length:Int)) w1 (by rw[P];simp[go_sem]);obtain⟨l,hl⟩:=dW x.1.ords;have g:x.1.worst=(l.map (rO x.1.price)).sum+max 0 (max (x.1.at (x.1.leg.q+oU l true)) (x.1.at (x.1.leg.q - oU l false)) - x.1.at x.1.leg.q):=by rw[hl];rfl
 rw[<-hl]at H f5 k5 k6|-;obtain⟨a,z⟩:=dW x.1.price;rw[<-z]at k4 g
 refine iz (λst W=>∃i:Nat,i<=l.length/\st=(gI ((l.take i).map (rO a)).sum,gI (oU (l.take i) true),gI (oU (l.take i) false),gI i,())/\M0 w W/\hC W p (pH x).toArray ub)
  (λst _=>match st.2.2.2.1 with| .int _ i=>l.length - i.toNat|_=>0) ⟨0,qZ,rfl,m1,E⟩ ?_
 rintro⟨_,_,_,_,_⟩ W ⟨i,hi,⟨⟩,Q,D⟩ KN N;refine rT ?_;intro _;have G:∀o∈l.take i,o.may=true:=λo h=>k6 o (bm h);have tl:((l.take i).length:Int)<=250:=by grind
 have s1:=KD k4 G;have s2:=AE (buy:=true) G;have s3:=AE (buy:=false) G;by_cases v:i<l.length
 ·have C:(i:Int)<(l.length:Int):=qZ;refine ee C ?_;obtain⟨b,O,cap,U,Z,hA⟩:=(H.mod Q eI).item dH v rfl;apply az (cU b (O+i*5)) W (by rw[U];simp[go_sem,v,bQ,gR]);apply dy (me (o:=l[i]) hA);obtain⟨w3,e3,Y,F⟩:=kg W;apply dy e3;obtain⟨q,hq⟩:=dW W.heap.size;rw[<-hq]at Y|-;obtain⟨c,e4,r,L⟩:=jA (o' :=l[i]) Y;apply lO e4;have M4:M0 W c:=F.on L λb X=>gT;have y:=M4.hpk D id;have B:=bV v;obtain⟨o,M⟩:=dW (l[i]);rw[<-M]at r B;have u:o.may=true:=k6 o (by grind);have ol:=Od.left_bd u;have op:=Od.price_bd u;have ow:=L4 k4 u;unfold dp at r
  have k:∀b s:Int,b=oU (l.take (i+1)) true->s=oU (l.take (i+1)) false->KN (gI (((l.take (i+1)).map (rO a)).sum),gI b,gI s,gI ((i+1:Nat):Int),()) c:=λb s X R=>by
   subst X R;exact N _ _ ⟨i+1,qZ,rfl,Q.trans M4,y⟩ (by grind)
  have I:((l.take (i+1)).map (rO a)).sum=((l.take i).map (rO a)).sum+rO a o:=by grind
  have A:∀d,oU (l.take (i+1)) d=oU (l.take i) d+(if o.buy=d then o.left else 0):=λd=>by rw[B,Np]
  have n:=A true;have m:=A false;rw[I]at k;refine dF ?_;refine dD r ?_;have j:rO a o=if o.buy=true then max 0 (o.price - a)*o.left else max 0 (a - o.price)*o.left:=by unfold rO;rfl
  cases t:o.buy with
  |true=>
   rw[t]at n m j;rw[ab rfl]at j;rw[nO];refine dF ?_;refine dD r ?_;apply az (gI (oU (l.take i) true+o.left)) c (Aj ⟨qZ,qZ⟩);refine dF ?_;refine dD r ?_;refine dF ?_;refine ad6 (gI a) y K9 z ?_;apply az (gI (o.price - a)) c (FH ⟨qZ,qZ⟩);refine II ?_;refine dF ?_;refine dD r ?_;apply az (gI (rO a o)) c (by simp only[go_sem];simp;rw[<-j,mL]);apply az (gI (((l.take i).map (rO a)).sum+rO a o)) c (Aj ⟨qZ,qZ⟩);apply az (gI ((i+1:Nat):Int)) c (by simp[go_sem];rw[mL]);exact k _ _ (by rw[n];rfl) (by rw[m];simp)
  |false=>
   rw[t]at n m j;rw[aa (by simp)]at j;rw[lW];refine dF ?_;refine dD r ?_;apply az (gI (oU (l.take i) false+o.left)) c (Aj ⟨qZ,qZ⟩);refine dF ?_;refine ad6 (gI a) y K9 z ?_;apply dy (by simp[-Int.natCast_add,go_sem]<;>first|exact ww|exact rfl);apply dy (by simp[-Int.natCast_add,go_sem,r]<;>first|exact ww|exact rfl);apply az (gI (a - o.price)) c (FH ⟨qZ,qZ⟩);refine II ?_;refine dF ?_;refine dD r ?_;apply az (gI (rO a o)) c (by simp only[go_sem];simp;rw[<-j,mL]);apply az (gI (((l.take i).map (rO a)).sum+rO a o)) c (Aj ⟨qZ,qZ⟩);apply az (gI ((i+1:Nat):Int)) c (by simp[go_sem];rw[mL]);exact k _ _ (by rw[n];simp) (by rw[m];rfl)
 ·obtain rfl:i=l.length:=qZ;refine fh ?_;rw[aL]at s1 s2 s3|-;refine dF ?_;refine dF ?_;refine nm D SL ?_;apply az (gI (x.1.leg.q+oU l true)) W (Aj ⟨qZ,qZ⟩);apply jf.2;show Ca pQ 374 #[.int .i64 (x.1.leg.q+oU l true),.pointer (some ⟨p,0,none⟩)] W _;refine IS D S ⟨qZ,qZ⟩ λw2 T=>?_;apply az (gI (x.1.leg.q - oU l false)) w2 (FH ⟨qZ,qZ⟩);apply jf.2;show Ca pQ 374 #[.int .i64 (x.1.leg.q - oU l false),.pointer (some ⟨p,0,none⟩)] w2 _;refine IS (T.hpk D id) S ⟨qZ,qZ⟩ λw3 F=>?_;have d:=DI (s:=x.1) (q:=x.1.leg.q+oU l true) k3 qZ;have e:=DI (s:=x.1) (q:=x.1.leg.q - oU l false) k3 qZ;have f:=DI (s:=x.1) (q:=x.1.leg.q) k3 qZ;refine II ?_;apply jf.2;show Ca pQ 374 #[.int .i64 x.1.leg.q,.pointer (some ⟨p,0,none⟩)] w3 _;refine IS (F.hpk (T.hpk D id) id) S f2 λc L=>?_;apply az (gI (max (x.1.at (x.1.leg.q+oU l true)) (x.1.at (x.1.leg.q - oU l false)) - x.1.at x.1.leg.q)) c (FH ⟨qZ,qZ⟩);refine II ?_;apply az (gI x.1.worst) c (by rw[g];exact Aj ⟨qZ,qZ⟩);exact hK c (((Q.trans T).trans F).trans L)
end Go.Proofs
