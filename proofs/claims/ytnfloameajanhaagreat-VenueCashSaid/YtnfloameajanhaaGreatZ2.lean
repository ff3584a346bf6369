/- Part of a proof. -/
import Derived.Test.YtnfloameajanhaaGreatProg
import Derived.Lib.Overlaps
import Derived.Shelf.SlSortCmp.NoneTotal
import Derived.Ground.SlsfProg
import Derived.Test.YtnfloameajanhaaGreatZ1
set_option linter.all false
namespace Go.Proofs
open Go Go.Vc
variable {n:Int}{x y:Int×Int}
section
variable{κ ν:Type} [DecidableEq κ]
def mem_lk{L:List (κ×ν)}(c:(L.map (·.1)).Nodup){k:κ}{v:ν}(h:(k,v)∈L):lk L k=some v:=by
 induction L with
 |nil=>cases h
 |cons p L d=>
  obtain⟨a,b⟩:=p;simp only[cM,dA]at c;rcases cH.1 h with h|h
  ·cases h;simp[lk]
  ·have:a≠k:=λe=>c.1 (e▸dn (f:=(·.1)) h);simp only[lk,aZ this];exact d c.2 h
def lk_iff{L:List (κ×ν)}(a:(L.map (·.1)).Nodup){k:κ}{v:ν}:lk L k=some v↔(k,v)∈L:=⟨AC,mem_lk a⟩
def lk_perm{A L:List (κ×ν)}(c:(A.map (·.1)).Nodup)(h:A.Perm L)(k:κ):lk A k=lk L k:=by
 have a:(L.map (·.1)).Nodup:=(h.map _).nodup_iff.1 c;cases b:lk A k with
 |some v=>exact(mem_lk a (h.mem_iff.1 (AC b))).symm
 |none=>
  cases d:lk L k with
  |none=>rfl
  |some v=>rw[mem_lk c (h.mem_iff.2 (AC d))]at b;cases b
def Oc{L:List (κ×ν)}(c:(L.map (·.1)).Nodup)(k:κ)(v:ν):(put L k v).Perm ((k,v)::L.filter (λp=>p.1≠k)):=by
 induction L with
 |nil=>exact fw _
 |cons p L d=>
  obtain⟨a,b⟩:=p;simp only[cM,dA]at c;simp only[put];by_cases h:a=k
  ·subst h;rw[bZ rfl,cY (by simp)];apply List.Perm.cons _;rw[fi.2 λx f=>?_];have:x.1≠a:=λe=>c.1 (e▸dn f);simpa using this
  ·rw[aZ h,dI (by simpa using h)];exact((d c.2).cons _).trans (List.Perm.swap ..)
def Ia{A L:List (κ×ν)}(a:(A.map (·.1)).Nodup)(h:A.Perm L)(k:κ)(v:ν):(put A k v).Perm ((k,v)::L.filter (λp=>p.1≠k)):=
 (Oc a k v).trans ((h.filter _).cons _)
def N9{L:List (κ×ν)}(c:(L.map (·.1)).Nodup)(k:κ):DF L k=L.filter (λp=>p.1≠k):=by
 induction L with
 |nil=>rfl
 |cons p L f=>
  obtain⟨a,b⟩:=p;simp only[cM,dA]at c;simp only[DF];by_cases h:a=k
  ·subst h;rw[bZ rfl,cY (by simp)];rw[fi.2 λx d=>?_];have:x.1≠a:=λe=>c.1 (e▸dn d);simpa using this
  ·grind
def Pq{A L:List (κ×ν)}(a:(A.map (·.1)).Nodup)(h:A.Perm L)(k:κ):(DF A k).Perm (L.filter (λp=>p.1≠k)):=by
 rw[N9 a];exact h.filter _
end
def perm_sum{l l' :List Int}(h:l.Perm l'):l.sum=l'.sum:=by
 induction h with
 |nil=>rfl
 |cons x _ a=>simp[a]
 |swap x y l=>simp;omega
 |trans _ _ c b=>exact c.trans b
structure Ac where
 num:Int
 cash:Int
 kil:Bool
 dfl:Bool
 deriving DecidableEq
variable {a:Ac}{l:List Ac}
structure Po where
 c:Int
 a:Int
 q:Int
 b:Int
 deriving DecidableEq
structure Led where
 fund:Int
 all:List Ac
 held:List Po
variable {S:Led}
instance:Inhabited Ac:=⟨⟨0,0,false,false⟩⟩
instance:Inhabited Po:=⟨⟨0,0,0,0⟩⟩
def Po.key(p:Po):Int×Int:=(p.c,p.a)
def Po.isZ(p:Po):Bool:=decide (p.q=0/\p.b=0)
def klt(x y:Int×Int):Bool:=decide (x.1<y.1\/(x.1=y.1/\x.2<y.2))
def klt_iff:klt x y=true↔(x.1<y.1\/(x.1=y.1/\x.2<y.2)):=by simp[klt]
def klt_tri(x y:Int×Int):klt x y=true\/x=y\/klt y x=true:=by
 rw[klt_iff,klt_iff,Prod.ext_iff];omega
def klt_trans{z:Int×Int}(h:klt x y=true)(a:klt y z=true):klt x z=true:=by
 rw[klt_iff]at*;omega
def klt_irr:klt x x=false:=by
 rw[kI,Ne,klt_iff];omega
def vC(h:klt x y=true):x≠y:=by
 intro e;subst e;rw[klt_irr]at h;cases h
def klt_asymm(h:klt x y=true):klt y x=false:=by
 rw[klt_iff]at h;rw[kI,Ne,klt_iff];omega
def insA(l:List Ac)(a:Ac):List Ac:=l.filter (λx=>decide (x.num<a.num))++a::l.filter (λx=>decide (a.num<x.num))
def G0(l:List Po)(p:Po):List Po:=l.filter (λx=>klt x.key p.key)++((if p.isZ then []else [p])++l.filter (λx=>klt p.key x.key))
def SortA(l:List Ac):Prop:=l.Pairwise λx y=>x.num<y.num
def SortP(l:List Po):Prop:=l.Pairwise λx y=>klt x.key y.key=true
def mem_insA{x:Ac}:x∈insA l a↔(x∈l/\x.num≠a.num)\/x=a:=by
 simp only[insA,dg,cH,cO,dN];constructor
 ·rintro(⟨h,b⟩|h|⟨h,b⟩)
  ·grind
  ·exact .inr h
  ·grind
 ·rintro(⟨h,b⟩|h)
  ·rcases Int.lt_or_gt_of_ne b with c|c
   ·exact .inl ⟨h,c⟩
   ·grind
  ·exact .inr (.inl h)
def mem_insP{l:List Po}{p x:Po}:x∈G0 l p↔(x∈l/\x.key≠p.key)\/(x=p/\p.isZ=false):=by
 have c:x∈(if p.isZ=true then []else [p])↔x=p/\p.isZ=false:=by
  cases p.isZ<;>simp
 simp only[G0,dg,cO,c];constructor
 ·rintro(⟨h,a⟩|h|⟨h,a⟩)
  ·exact .inl ⟨h,vC a⟩
  ·exact .inr h
  ·exact .inl ⟨h,λe=>vC a e.symm⟩
 ·rintro(⟨h,a⟩|h)
  ·rcases klt_tri x.key p.key with b|b|b
   ·exact .inl ⟨h,b⟩
   ·exact absurd b a
   ·grind
  ·exact .inr (.inl h)
def insA_sort(h:SortA l)(a:Ac):SortA (insA l a):=by
 unfold SortA insA;rw[lV,fO];refine⟨h.filter _,⟨λx d=>by grind,h.filter _⟩,λx d y b=>?_⟩;have c:x.num<a.num:=by grind
 rcases cH.1 b with rfl|b
 ·exact c
 ·grind
theorem qn{l:List Po}(h:SortP l)(p:Po):SortP (G0 l p):=by
 unfold SortP G0;rw[lV,lV];have d:∀x∈(if p.isZ=true then []else [p]),x=p:=λx b=>by grind
 refine⟨h.filter _,⟨?_,h.filter _,λx b y a=>?_⟩,λx b y a=>?_⟩
 ·cases p.isZ<;>simp
 ·grind
 ·have c:klt x.key p.key=true:=(cO.1 b).2;rcases dg.1 a with a|a
  ·rw[d y a];exact c
  ·exact klt_trans c (cO.1 a).2
def SortA.nodup(h:SortA l):(l.map (·.num)).Nodup:=by
 rw[List.Nodup,fD];exact h.imp λh=>by omega
def SortP.nodup{l:List Po}(h:SortP l):(l.map Po.key).Nodup:=by
 rw[List.Nodup,fD];exact h.imp λh=>vC h
def Ai{α:Type}(l:List α)(p q:α->Bool)(h:∀x∈l,p x=true->q x=false):(l.filter p++l.filter q).Perm (l.filter λx=>p x||q x):=by
 induction l with
 |nil=>exact fw _
 |cons x l b=>
  have b:=b λy c=>h y (cu _ c);cases hp:p x with
  |true=>
   have a:=h x cw hp;rw[dI hp,cY (by simp[a]),dI (by simp[hp])];exact b.cons x
  |false=>
   cases a:q x with
   |true=>
    rw[cY (by simp[hp]),dI a,dI (by simp[a])];exact qL.trans (b.cons x)
   |false=>
    rw[cY (by simp[hp]),cY (by simp[a]),cY (by simp[hp,a])];exact b
theorem xR(l:List Ac)(a:Ac):(insA l a).Perm (a::l.filter λx=>decide (x.num≠a.num)):=by
 refine qL.trans (List.Perm.cons _ ((Ai l _ _ λx _ h=>?_).trans (lI (gF λx _=>?_))))
 ·grind
 ·grind
def AW(l:List Po)(p:Po):(G0 l p).Perm ((if p.isZ then []else [p])++l.filter λx=>decide (x.key≠p.key)):=by
 refine List.perm_append_comm_assoc .. |>.trans (List.Perm.append_left _ ((Ai l _ _ λx _ h=>?_).trans (lI (gF λx _=>?_))))
 ·exact klt_asymm h
 ·rw[iC];have:=klt_tri x.key p.key;simp only[rt,dN];constructor
  ·rintro(h|h) e
   ·exact vC h e
   ·exact vC h e.symm
  ·intro h;rcases this with a|a|a
   ·exact .inl a
   ·exact absurd a h
   ·exact .inr a
def OU{l' :List Ac}(h:SortA l)(c:SortA l')(hp:l.Perm l'):l=l' :=
 hp.eq_of_pairwise (λa b _ _ e d=>qZ) h c
def Led.find(S:Led)(n:Int):Option Ac:=S.all.find? λx=>decide (x.num=n)
def Led.pos? (S:Led)(k:Int×Int):Option Po:=S.held.find? λx=>decide (x.key=k)
def fundAc(f:Int):Ac:=⟨0,f,false,false⟩
def Led.getO(S:Led)(n:Int):Option Ac:=if n=0 then some (fundAc S.fund)else S.find n
def Led.funds(S:Led):Int:=S.fund+(S.all.map (·.cash)).sum
def Led.putA(S:Led)(a:Ac):Led:=if a.num=0 then{S with fund:=a.cash}else{S with all:=insA S.all a}
def Led.putP(S:Led)(p:Po):Led:={S with held:=G0 S.held p}
def amongB(n lo hi:Int):Bool:=decide (lo<=n/\n<=hi)
def MF:Int:=1000000000000000
def MP:Int:=10000000
def Led.deposit(S:Led)(n m:Int):Int×Led:=
 if amongB m 1 MF then
  if S.getO n=none/\64<=S.all.length then(9,S)
  else if S.funds+m>MF then(6,S)
  else(0,S.putA {(S.getO n).getD ⟨0,0,false,false⟩with num:=n,cash:=((S.getO n).getD ⟨0,0,false,false⟩).cash+m})
 else(2,S)
def Led.withdraw(S:Led)(n m:Int):Int×Led:=
 if n=0\/amongB m 1 MF=false then(2,S)
 else match S.find n with
  |none=>(7,S)
  |some a=>if a.cash<m then(90,S)else(0,S.putA {a with cash:=a.cash - m})
def Led.set(S:Led)(a:Ac):Int×Led:=
 if amongB a.cash 0 MF=false\/(a.num=0/\(a.kil=true\/a.dfl=true))then(2,S)
 else if S.getO a.num=none then(7,S)else(0,S.putA a)
def Led.position(S:Led)(c a:Int):Po:=(S.pos? (c,a)).getD ⟨c,a,0,0⟩
def Led.trade(S:Led)(c b s p n:Int):Int×Led:=
 if c=0\/b=0\/s=0\/b=s\/amongB p 1 MP=false\/amongB n 1 MP=false then(2,S)
 else if S.find b=none\/S.find s=none then(7,S)
 else
  let x:Po:=⟨c,b,(S.position c b).q+n,(S.position c b).b+p*n⟩
  let y:Po:=⟨c,s,(S.position c s).q - n,(S.position c s).b - p*n⟩
  if MP<x.q\/y.q< -MP\/MF<x.b\/y.b< -MF then(6,S)else(0,(S.putP x).putP y)
def Led.holders(S:Led)(c:Int):List Po:=S.held.filter λp=>decide (p.c=c)
def Led.ofA(S:Led)(a:Int):List Po:=S.held.filter λp=>decide (p.a=a)
def Po.mark(p:Po)(price:Int)(cl:Bool):Po:=if cl then⟨p.c,p.a,0,0⟩else{p with b:=p.q*price}
def Led.marked(S:Led)(l:List Po)(price:Int)(cl:Bool):Led:=l.foldl (λS p=>S.putP (p.mark price cl)) S
def Led.mark(S:Led)(c price:Int)(cl:Bool):Int×List (Int×Int)×Led:=
 if c=0\/amongB price 1 MP=false then(2,[],S)
 else(0,(S.holders c).map (λp=>(p.a,p.q*price - p.b)),S.marked (S.holders c) price cl)
structure Led.Ok(S:Led):Prop where
 fund:0<=S.fund/\S.fund<=MF
 sa:SortA S.all
 sp:SortP S.held
 len:S.all.length<=64
 acc:∀a∈S.all,0<a.num/\a.num<4294967296/\0<=a.cash/\a.cash<=MF
 pos:∀p∈S.held,0<p.c/\p.c<4294967296/\p.isZ=false/\ -MP<=p.q/\p.q<=MP/\ -MF<=p.b/\p.b<=MF/\∃a∈S.all,a.num=p.a
def Led.accs(S:Led):List (Int×Ac):=(0,fundAc S.fund)::S.all.map λa=>(a.num,a)
def Led.poss(S:Led):List ((Int×Int)×Po):=S.held.map λp=>(p.key,p)
def LU(l:List Ac)(n:Int):lk (l.map λa=>(a.num,a)) n=l.find? λx=>decide (x.num=n):=by
 induction l with
 |nil=>rfl
 |cons a l b=>
  simp only[cM,lk,b,jL];by_cases h:a.num=n<;>simp[h]
def Lv(l:List Po)(k:Int×Int):lk (l.map λp=>(p.key,p)) k=l.find? λx=>decide (x.key=k):=by
 induction l with
 |nil=>rfl
 |cons a l b=>
  simp only[cM,lk,b,jL];by_cases h:a.key=k<;>simp[h]
def Led.lk_accs(S:Led)(n:Int):lk S.accs n=S.getO n:=by
 simp only[Led.accs,lk,LU,Led.getO,Led.find];by_cases h:n=0
 ·simp[h]
 ·grind
def Led.lk_poss(S:Led)(k:Int×Int):lk S.poss k=S.pos? k:=Lv _ _
def BF(l:List Ac)(n:Int):(l.map λa=>(a.num,a)).filter (λp=>decide (p.1≠n))=(l.filter λx=>decide (x.num≠n)).map λa=>(a.num,a):=by
 rw[List.filter_map];rfl
def BK(l:List Po)(k:Int×Int):(l.map λp=>(p.key,p)).filter (λp=>decide (p.1≠k))=(l.filter λx=>decide (x.key≠k)).map λp=>(p.key,p):=by
 rw[List.filter_map];rfl
def Led.Ok.put_accs(h:S.Ok){A:List (Int×Ac)}(e:(A.map (·.1)).Nodup)(hp:A.Perm S.accs)(a:Ac)(c:a.num=0->a=fundAc a.cash):(put A a.num a).Perm (S.putA a).accs:=by
 apply(Ia e hp _ _).trans;unfold Led.putA;by_cases b:a.num=0
 ·rw[bZ b];simp only[Led.accs];rw[cY (by simp[b]),BF,b];rw[fi.2 λx d=>by have:=(h.acc x d).1;simp;omega];rw[<-c b]
 ·rw[aZ b];simp only[Led.accs];rw[dI (by grind),BF];refine(List.Perm.swap ..).trans (List.Perm.cons _ ?_);exact((xR S.all a).map λa=>(a.num,a)).symm
def Led.put_poss{B:List ((Int×Int)×Po)}(a:(B.map (·.1)).Nodup)(hp:B.Perm S.poss)(p:Po)(b:p.isZ=false):(put B p.key p).Perm (S.putP p).poss:=by
 apply(Ia a hp _ _).trans;simp only[Led.poss,Led.putP];rw[BK];have:=(AW S.held p).map λp=>(p.key,p)
 rw[b]at this;exact this.symm
def Led.del_poss{B:List ((Int×Int)×Po)}(a:(B.map (·.1)).Nodup)(hp:B.Perm S.poss)(p:Po)(b:p.isZ=true):(DF B p.key).Perm (S.putP p).poss:=by
 apply(Pq a hp _).trans;simp only[Led.poss,Led.putP];rw[BK];have:=(AW S.held p).map λp=>(p.key,p)
 rw[b]at this;exact this.symm
def Led.find_mem(h:S.find n=some a):a∈S.all/\a.num=n:=by
 unfold Led.find at h;exact⟨fl h,by grind⟩
def Led.pos_mem{k:Int×Int}{p:Po}(h:S.pos? k=some p):p∈S.held/\p.key=k:=by
 unfold Led.pos? at h;exact⟨fl h,by grind⟩
def Led.find_some(h:SortA S.all){a:Ac}(b:a∈S.all):S.find a.num=some a:=by
 unfold Led.find;rw[<-LU];exact mem_lk (by rw[dQ];exact h.nodup) (dn (f:=λa:Ac=>(a.num,a)) b)
def Led.pos_some(h:SortP S.held){p:Po}(hp:p∈S.held):S.pos? p.key=some p:=by
 unfold Led.pos?;rw[<-Lv];exact mem_lk (by rw[dQ];exact h.nodup) (dn (f:=λp:Po=>(p.key,p)) hp)
def Led.Ok.position(h:S.Ok)(c a:Int):(S.position c a).c=c/\(S.position c a).a=a/\ -MP<=(S.position c a).q/\(S.position c a).q<=MP/\ -MF<=(S.position c a).b/\(S.position c a).b<=MF:=by
 unfold Led.position;cases hp:S.pos? (c,a)with
 |none=>simp[MP,MF]
 |some p=>
  obtain⟨d,b⟩:=Led.pos_mem hp;have:=h.pos p d;simp only[Po.key,ou]at b;exact⟨b.1,b.2,this.2.2.2.1,this.2.2.2.2.1,this.2.2.2.2.2.1,this.2.2.2.2.2.2.1⟩
def CN(l:List Ac)(a:Ac):(insA l a).length<=l.length+1:=by
 rw[(xR l a).length_eq];simp only[dc];exact Nat.succ_le_succ (dm ..)
def DH(h:∃x∈l,x.num=a.num):(insA l a).length<=l.length:=by
 rw[(xR l a).length_eq];obtain⟨x,b,e⟩:=h;simp only[dc];exact lu.2 ⟨x,b,by simp[e]⟩
def Led.Ok.putA(h:S.Ok){a:Ac}(r:0<=a.num/\a.num<4294967296)(k:0<=a.cash/\a.cash<=MF)(b:S.find a.num≠none\/S.all.length<64\/a.num=0):(S.putA a).Ok:=by
 unfold Led.putA;by_cases g:a.num=0
 ·rw[bZ g];exact{h with fund:=k}
 ·rw[aZ g];refine{fund:=h.fund,sa:=insA_sort h.sa a,sp:=h.sp,len:=?_,acc:=λx c=>?_,pos:=λp hp=>?_}
  ·rcases b with b|b|b
   ·obtain⟨x,c⟩:=Option.ne_none_iff_exists'.1 b;obtain⟨f,e⟩:=Led.find_mem c;exact dD (DH ⟨x,f,e⟩) h.len
   ·exact dD (CN ..) b
   ·exact absurd b g
  ·rcases mem_insA.1 c with⟨c,_⟩|rfl
   ·exact h.acc x c
   ·grind
  ·obtain⟨g1,l,q,n,o,j,m,x,c,d⟩:=h.pos p hp;refine⟨g1,l,q,n,o,j,m,?_⟩;by_cases i:x.num=a.num
   ·exact⟨a,mem_insA.2 (.inr rfl),i.symm.trans d⟩
   ·exact⟨x,mem_insA.2 (.inl ⟨c,i⟩),d⟩
def Led.Ok.putP(h:S.Ok){p:Po}(d:0<p.c/\p.c<4294967296)(c: -MP<=p.q/\p.q<=MP)(e: -MF<=p.b/\p.b<=MF)(f:∃a∈S.all,a.num=p.a):(S.putP p).Ok:=by
 refine{fund:=h.fund,sa:=h.sa,sp:=qn h.sp p,len:=h.len,acc:=h.acc,pos:=λx b=>?_};rcases mem_insP.1 b with⟨b,_⟩|⟨rfl,g⟩
 ·exact h.pos x b
 ·exact⟨d.1,d.2,g,c.1,c.2,e.1,e.2,f⟩
def Led.Ok.getO(h:S.Ok){n:Int}{a:Ac}(b:S.getO n=some a):a.num=n/\0<=a.num/\a.num<4294967296/\0<=a.cash/\a.cash<=MF/\(a.num=0->a=fundAc a.cash):=by
 unfold Led.getO at b;split at b
 ·rename_i i
  cases b;exact⟨by simp[fundAc,i],by simp[fundAc],by simp[fundAc],h.fund.1,h.fund.2,λ_=>rfl⟩
 ·obtain⟨f,d⟩:=Led.find_mem b;obtain⟨j,e,g,c⟩:=h.acc a f;exact⟨d,qZ,e,g,c,qZ⟩
def Led.Ok.funds(h:S.Ok):0<=S.funds/\S.funds<=MF*65:=by
 have key:∀l:List Ac,(∀a∈l,0<=a.cash/\a.cash<=MF)->0<=(l.map (·.cash)).sum/\(l.map (·.cash)).sum<=MF*l.length:=by
  intro l b;induction l with
  |nil=>simp
  |cons a l e=>
   have f:=b a cw;have d:=e λx g=>b x (cu _ g);simp only[cM,di,dc,MF]at*;omega
 have f:=key S.all λa c=>(h.acc a c).2.2;have d:=h.fund;have i:=h.len;unfold Led.funds;simp only[MF]at*;omega
def Xn(h:∀a∈l,0<=a.cash):0<=(l.map (·.cash)).sum/\∀a∈l,a.cash<=(l.map (·.cash)).sum:=by
 induction l with
 |nil=>simp
 |cons a l c=>
  have f:=h a cw;obtain⟨e,d⟩:=c λx b=>h x (cu _ b);simp only[cM,di];refine⟨qZ,λx b=>?_⟩;rcases cH.1 b with rfl|b
  ·omega
  ·have:=d x b;omega
def Led.Ok.cash_le(h:S.Ok){n:Int}{a:Ac}(b:S.getO n=some a):a.cash<=S.funds:=by
 have d:=Xn (l:=S.all) λa c=>(h.acc a c).2.2.1;have e:=h.fund;unfold Led.funds;unfold Led.getO at b;split at b
 ·cases b;simp only[fundAc];omega
 ·have:=d.2 a (Led.find_mem b).1;omega
def amongB_iff{lo hi:Int}:amongB n lo hi=true↔lo<=n/\n<=hi:=by simp[amongB]
def mul_bd{x y m:Int}(c: -m<=x/\x<=m)(a:0<=y/\y<=n): -(m*n)<=x*y/\x*y<=m*n:=by
 have b:0<=m:=qZ;constructor
 ·have d:(-x)*y<=m*n:=Int.mul_le_mul qZ a.2 a.1 b;have:(-x)*y= -(x*y):=Int.neg_mul x y;omega
 ·exact Int.mul_le_mul c.2 a.2 a.1 b
def Tryz.noNum:wV Tryz.prog=true:=cU
end Go.Proofs
set_option maxRecDepth 100000
namespace Go.Proofs
open Go Go.Vc
abbrev gr(s:Sem Value)(w:World)(K:cG):=rv Tryz.prog s w K
abbrev gp(s:Sem Value)(K:Value->Prop):=wS Tryz.prog s K
abbrev gw(s:Sem Value)(w:World)(K:Value->Prop):=uc Tryz.prog s w K
abbrev gx(s:Sem Value)(w:World)(K:cG):=rx Tryz.prog s w K
abbrev gl(t:TypeId)(p:Value)(w:World)(K:cG):=rv Tryz.prog (Instr.loadAt t p) w K
abbrev gf(t:TypeId)(p:Value)(i:Nat)(w:World)(K:cG):=rv Tryz.prog (Instr.fieldAt t p i) w K
abbrev eP(t:TypeId)(p:Value)(w:World)(K:Value->Prop):=uc Tryz.prog (Instr.loadAt t p) w K
abbrev kg(t:TypeId)(p:Value)(i:Nat)(K:Value->Prop):=wS Tryz.prog (Instr.fieldAt t p i) K
abbrev gs(t:TypeId)(p v:Value)(w:World)(K:World->Prop):=ru Tryz.prog (Instr.storeAt t p v) w K
abbrev gb(o:BinOp)(t:TypeId)(c:Bool)(a b:Value)(w:World)(K:cG):=rv Tryz.prog (qE o t c a b) w K
abbrev my(o:BinOp)(t:TypeId)(c:Bool)(a b:Value)(K:Value->Prop):=wS Tryz.prog (qE o t c a b) K
abbrev ge(a:Value)(i:Nat)(w:World)(K:cG):=rv Tryz.prog (Instr.extract a i) w K
abbrev ga(t:TypeId)(w:World)(K:cG):=rv Tryz.prog (Instr.alloc t true (.tuple #[])) w K
abbrev gq(t:TypeId)(a:Value)(w:World)(K:cG):=rv Tryz.prog (Instr.box t a) w K
abbrev gi(t:TypeId)(a i:Value)(w:World)(K:cG):=rv Tryz.prog (Instr.indexAt t a i) w K
abbrev mf(t:TypeId)(a i:Value)(K:Value->Prop):=wS Tryz.prog (Instr.indexAt t a i) K
abbrev gn(t:TypeId)(c:Bool)(a:Value)(w:World)(K:cG):=rn Tryz.prog (builtin .len #[t] 3 #[c] #[a]) w K
@[simp] abbrev gk (t:TypeId) (p v:Value) (w:World):=Sem.run Tryz.prog (Instr.loadAt t p) w=.ok v w
abbrev dz(t:TypeId)(p:Value)(i:Nat)(u:TypeId)(w:World)(K:cG):=gf t p i w λa b=>gl u a b K
abbrev qM(t:TypeId)(p:Value)(i:Nat)(u:TypeId)(v:Value)(w:World)(K:World->Prop):=gf t p i w λa b=>gs u a v b K
abbrev gY(t:TypeId)(p:Value)(i:Nat)(u:TypeId)(w:World)(K:Value->Prop):=kg t p i λa=>eP u a w K
abbrev uB(t:TypeId)(a i:Value)(u:TypeId)(w:World)(K:cG):=gi t a i w λa b=>gl u a b K
abbrev gv(t:TypeId)(x:Value)(w:World)(K:cG):=ga t w λa b=>gs t a x b λc=>K a c
abbrev nR(x:Value)(w:World)(K:Value->Value->World->Prop):=ge x 0 w λa b=>ge x 1 b λc d=>K a c d
abbrev NV:=Nat->Value
abbrev gI(n:Int):Value:=.int .i64 n
abbrev iL:= @Instr.loadAt
abbrev iF:= @Instr.fieldAt
abbrev iS:= @Instr.storeAt
abbrev iA:= @Instr.alloc
abbrev iX:= @Instr.indexAt
abbrev gU(n:Int):Value:=.int .u32 n
abbrev gQ(n:Int):Value:=.int .u64 n
abbrev gB(n:Int):Value:=.int .u8 n
abbrev Wt_:=World
abbrev Vt_:=Value
abbrev NP_:=Nat->Prop
abbrev LV_:=List Value
abbrev pt(b o:Nat):Value:=.pointer (some ⟨b,o,none⟩)
noncomputable abbrev pQ:=Tryz.prog
abbrev T1:=Value×Unit
abbrev T2:=Value×Value×Unit
abbrev T3:=Value×Value×Value×Unit
abbrev T4:=Value×Value×Value×Value×Unit
abbrev Wp:=World->Prop
abbrev gc(a b:Value)(w:World)(K:cG):=NV->gb .lss 3 false a b w K
abbrev g1(v:Value)(w:World)(K:cG):=gb .add 3 true v (gI 1) w K
abbrev gE(v:Value)(w:World)(K:cG):=gb .neq 43 true v (gI 0) w K
abbrev gC(v:Value)(n:Int)(w:World)(K:cG):=gb .eql 22 true v (.int .u8 n) w K
abbrev gT(a b:Value):Value:=.tuple #[a,b]
abbrev bF:Value:=.bool false
abbrev bT:Value:=.bool true
abbrev jW:= @dK T1
abbrev qA:= @lG T1
abbrev qB:= @lG T2
abbrev qC:= @lG T3
abbrev qD:= @lG T4
abbrev gt(a:Value)(w:World)(K:cG):=rv Tryz.prog (Op.unary .not a) w K
def cj{f:FuncId}{fn:Func}{g:List Value}{w:World}{K:cG}{F:Prop}(j:Tryz.prog.funcs[f]? =some fn)(h:F)(i:okF Tryz.prog fn g.length=true:=by kernel_rfl)(e:VH Tryz.prog fn g w K=F:=by kernel_rfl):Ca Tryz.prog f ⟨g⟩ w K:=NY Tryz.noNum j i (by rw[e];exact h)
section
variable{a b c d e f:Value}{W:World}{Z:cG}
def az0(j:gr (Instr.makeMap 130 none) W λa b=>gr (Instr.build 70 #[]) b λc d=>nj Tryz.prog (nm 130 a (.int .u32 0) c) d λe=>gr (Instr.makeMap 131 none) e λf g=>gr (Instr.build 133 #[(0,a),(1,f)]) g λh i=>gq 133 h i Z):Ca Tryz.prog 50 #[] W Z:=cj Tryz.func50 j
def ay6(h:gb .neq 34 true a (.pointer none) W λb c=>cV b (ez a λd=>dz 133 d 0 130 c λe f=>gb .neq 130 true e (.map none) f Z) (Z bF c)):Ca Tryz.prog 52 #[a] W Z:=cj Tryz.func52 h
def ab8(h:gb .geq 2 false a b W λd e=>cV d (gb .leq 2 false a c e Z) (Z bF e)):Ca Tryz.prog 121 #[a,b,c] W Z:=cj Tryz.func121 h
def UP(a:cG)(b c d e:Value)(f:T1)(g:World):=NV->cV f.1 (a (gI 9) g) (Ca Tryz.prog 122 #[b] g λh i=>gb .add 2 false h c i λj k=>gb .gtr 2 true j (gI 1000000000000000) k λl m=>cV l (a (gI 6) m) (qM 70 d 0 23 e m λn=>dz 70 d 1 2 n λo p=>gb .add 2 false o c p λq r=>qM 70 d 1 2 q r λs=>ez b λt=>gY 133 t 0 130 s.drew λu=>eP 70 d s.drew λv=>nj Tryz.prog (nm 130 u e v) s.drew λw=>a (gI 0) w))
def az9(F:Ca Tryz.prog 52 #[a] W λd e=>gt d e λf g=>cV f (Z (gI 1) g) (ez a λh=>dz 133 h 0 130 g λi j=>gx (ji 130 i b true) j λk l=>nR k l λm n o=>gv 70 m o λp q=>Ca Tryz.prog 121 #[c,(gI 1),(gI 1000000000000000)] q λr s=>gt r s λt u=>cV t (Z (gI 2) u) (jW (λv=>gt n u λw x=>cV w (ez a λy=>dz 133 y 0 130 x λz A=>gn 130 false z A λB C=>gb .gtr 3 true B (gI 64) C λD E=>v (D,()) E) (v (bF,()) x)) (UP Z a c p b)))):Ca Tryz.prog 82 #[a,b,c] W Z:=cj Tryz.func82 F
def Pk(a:cG)(b c d e f:Value)(g:T1)(h:World):=NV->cV g.1 (a (gI 2) h) (gt b h λi j=>cV i (a (gI 7) j) (dz 70 c 1 2 j λk l=>gb .lss 2 false k d l λm n=>cV m (a (gI 90) n) (dz 70 c 1 2 n λo p=>gb .sub 2 false o d p λq r=>qM 70 c 1 2 q r λs=>ez e λt=>gY 133 t 0 130 s.drew λu=>eP 70 c s.drew λv=>nj Tryz.prog (nm 130 u f v) s.drew λw=>a (gI 0) w)))
def ap7(y:Ca Tryz.prog 52 #[a] W λd e=>gt d e λf g=>cV f (Z (gI 1) g) (ez a λh=>dz 133 h 0 130 g λi j=>gx (ji 130 i b true) j λk l=>nR k l λm n o=>gv 70 m o λp q=>jW (λr=>gb .eql 23 true b (.int .u32 0) q λs t=>cV s (r (bT,()) t) (Ca Tryz.prog 121 #[c,(gI 1),(gI 1000000000000000)] t λu v=>gt u v λw x=>r (w,()) x)) (Pk Z n p c a b))):Ca Tryz.prog 123 #[a,b,c] W Z:=cj Tryz.func123 y
def aB1(G:ga 70 W λc d=>Ca Tryz.prog 52 #[a] d λe f=>gt e f λg h=>cV g (gr (Instr.build 70 #[]) h λi j=>gs 70 c i j λk=>eP 70 c k λl=>Z (gT l (gI 1)) k) (ez a λm=>dz 133 m 0 130 h λn o=>gx (ji 130 n b true) o λp q=>nR p q λr s t=>gv 70 r t λu v=>gt s v λw x=>cV w (gr (Instr.build 70 #[]) x λy z=>gs 70 c y z λA=>eP 70 c A λB=>Z (gT B (gI 7)) A) (gl 70 u x λC D=>gs 70 c C D λE=>eP 70 c E λF=>Z (gT F (gI 0)) E))):Ca Tryz.prog 28 #[a,b] W Z:=cj Tryz.func28 G
def Wn(a:cG)(b c:Value)(d:T1)(e:World):=NV->cV d.1 (a (gI 2) e) (ez b λf=>kg 133 f 0 λg=>eP 130 g e.drew λh=>kg 70 c 0 λi=>eP 23 i e.drew λj=>pS Tryz.prog (ji 130 h j true) e.drew λk=>gp (Instr.extract k 0) λl=>gp (Instr.extract k 1) λm=>ga 70 e.drew λn o=>Sem.run Tryz.prog (ji 130 h j true) o=.ok k o/\gk 23 i j o/\gk 130 g h o/\(gs 70 n l o λp=>gt m p λq r=>cV q (a (gI 7) r) (ez b λs=>gY 133 s 0 130 r.drew λt=>gY 70 c 0 23 r.drew λu=>eP 70 c r.drew λv=>nj Tryz.prog (nm 130 t u v) r.drew λw=>a (gI 0) w)))
def aw3(x:gq 70 b W λc d=>Ca Tryz.prog 52 #[a] d λe f=>gt e f λg h=>cV g (Z (gI 1) h) (jW (λi=>dz 70 c 1 2 h λj k=>Ca Tryz.prog 121 #[j,(gI 0),(gI 1000000000000000)] k λl m=>gt l m λn o=>cV n (i (bT,()) o) (dz 70 c 0 23 o λp q=>gb .eql 23 true p (.int .u32 0) q λr s=>cV r (dz 70 c 2 4 s λt u=>cV t (i (bT,()) u) (dz 70 c 3 4 u λv w=>i (v,()) w)) (i (bF,()) s))) (Wn Z a c))):Ca Tryz.prog 96 #[a,b] W Z:=cj Tryz.func96 x
def ay2(J:ga 79 W λd e=>gr (Instr.build 79 #[(0,b),(1,c)]) e λf g=>gv 79 f g λh i=>Ca Tryz.prog 52 #[a] i λj k=>cV j (ez a λl=>dz 133 l 1 131 k λm n=>gr (Instr.build 140 #[(0,b),(1,c)]) n λo p=>gx (ji 131 m o true) p λq r=>nR q r λs t u=>gv 79 s u λv w=>cV t (gl 79 v w λx y=>gs 79 d x y λz=>eP 79 d z λA=>Z A z) (gl 79 h w λB C=>gs 79 d B C λD=>eP 79 d D λE=>Z E D)) (gl 79 h k λF G=>gs 79 d F G λH=>eP 79 d H λI=>Z I H)):Ca Tryz.prog 30 #[a,b,c] W Z:=cj Tryz.func30 J
def RU(a b:Value)(c:cG)(d:Value)(e:T1)(f:World):=NV->cV e.1 (ez a λg=>gY 133 g 1 131 f.drew λh=>eP 140 b f.drew λi=>gx (wo #[131,140] 0 [h,i]) f.drew λj k=>c (.tuple #[]) k) (ez a λl=>gY 133 l 1 131 f.drew λm=>eP 140 b f.drew λn=>eP 79 d f.drew λo=>nj Tryz.prog (nm 131 m n o) f.drew λp=>c (.tuple #[]) p)
def as3(v:gq 79 b W λc d=>dz 79 c 0 23 d λe f=>dz 79 c 1 23 f λg h=>gr (Instr.build 140 #[(0,e),(1,g)]) h λi j=>gv 140 i j λk l=>jW (λm=>dz 79 c 2 2 l λn o=>gb .eql 2 true n (gI 0) o λp q=>cV p (dz 79 c 3 2 q λr s=>gb .eql 2 true r (gI 0) s λt u=>m (t,()) u) (m (bF,()) q)) (RU a k Z c)):Ca Tryz.prog 198 #[a,b] W Z:=cj Tryz.func198 v
def ar6(j:gb .lss 2 true a (gI 0) W λb c=>cV b (gr (convert 2 24 a) c λd e=>gr (Op.unary .neg d) e λf g=>Z (gT f bT) g) (gr (convert 2 24 a) c λh i=>Z (gT h bF) i)):Ca Tryz.prog 156 #[a] W Z:=cj Tryz.func156 j
def af7(l:Ca Tryz.prog 156 #[a] W λc d=>nR c d λe f g=>gb .geq 2 true b (gI 0) g λh i=>cV h (gr (convert 2 24 b) i λj k=>gb .leq 24 false e j k Z) (Z bF i)):Ca Tryz.prog 108 #[a,b] W Z:=cj Tryz.func108 l
def Ju(a:cG)(b:T2)(c:T2->Wp)(d:T1)(e:World):=NV->cV d.1 (a (gI 6) e) (g1 b.2.1 e λf g=>c (b.1,f,()) g)
def RP(a b:Value)(c:cG)(d e f:Value)(g:T2)(h:World)(i:T2->Wp):=gc g.2.1 a h λj k=>cV j (uB 58 b g.2.1 79 k λl m=>gv 79 l m λn o=>jW (λp=>dz 79 n 2 2 o λq r=>Ca Tryz.prog 108 #[q,(gI 10000000)] r λs t=>gt s t λu v=>cV u (p (bT,()) v) (dz 79 n 3 2 v λw x=>Ca Tryz.prog 108 #[w,(gI 1000000000000000)] x λy z=>gt y z λA B=>p (A,()) B)) (Ju c g i)) (gl 79 d k λC D=>Ca Tryz.prog 198 #[e,C] D λE F=>gl 79 f F λG H=>Ca Tryz.prog 198 #[e,G] H λI J=>c (gI 0) J)
def PR(a:cG)(b c d e f g:Value)(h:T1)(i:World):=NV->cV h.1 (a (gI 7) i) (Ca Tryz.prog 30 #[b,c,d] i λj k=>Ca Tryz.prog 30 #[b,c,e] k λl m=>ga 79 m λn o=>ga 79 o λp q=>gs 79 n j q λr=>gs 79 p l r λs=>dz 79 n 2 2 s λt u=>gb .add 2 false t f u λv w=>qM 79 n 2 2 v w λx=>dz 79 n 3 2 x λy z=>gb .mul 2 false g f z λA B=>gb .add 2 false y A B λC D=>qM 79 n 3 2 C D λE=>dz 79 p 2 2 E λF G=>gb .sub 2 false F f G λH I=>qM 79 p 2 2 H I λJ=>dz 79 p 3 2 J λK L=>gb .mul 2 false g f L λM N=>gb .sub 2 false K M N λO P=>qM 79 p 3 2 O P λQ=>gl 79 n Q λR S=>gl 79 p S λT U=>gx (jQ 58 2 [(0,R),(1,T)]) U λV X=>gn 58 false V X λY aa=>qB (RP Y V a n b p) ((gI 0),(gI 0),()) aa)
def Qh(a:cG)(b c d e f g:Value)(h:T1)(i:World):=NV->cV h.1 (a (gI 2) i) (ez b λj=>dz 133 j 0 130 i λk l=>gx (ji 130 k c true) l λm n=>nR m n λo p q=>gv 70 o q λr s=>ez b λt=>dz 133 t 0 130 s λu v=>gx (ji 130 u d true) v λw x=>nR w x λy z A=>gv 70 y A λB C=>jW (λD=>gt p C λE F=>cV E (D (bT,()) F) (gt z F λG H=>D (G,()) H)) (PR a b e c d f g))
def aq8(B:Ca Tryz.prog 52 #[a] W λg h=>gt g h λi j=>cV i (Z (gI 1) j) (jW (λk=>gb .eql 23 true b (.int .u32 0) j λl m=>cV l (k (bT,()) m) (gb .eql 23 true c (.int .u32 0) m λn o=>cV n (k (bT,()) o) (gb .eql 23 true d (.int .u32 0) o λp q=>cV p (k (bT,()) q) (gb .eql 23 false c d q λr s=>cV r (k (bT,()) s) (Ca Tryz.prog 121 #[e,(gI 1),(gI 10000000)] s λt u=>gt t u λv w=>cV v (k (bT,()) w) (Ca Tryz.prog 121 #[f,(gI 1),(gI 10000000)] w λx y=>gt x y λz A=>k (z,()) A)))))) (Qh Z a c d b f e))):Ca Tryz.prog 175 #[a,b,c,d,e,f] W Z:=cj Tryz.func175 B
def PY(a:Value)(b:cG)(c:T1)(d:World)(e:T1->Wp):=NV->gx (wh a false 0) d λf g=>ge f 0 g λh i=>cV h (gx (uf a) i λj k=>ge j 1 k λl m=>gv 70 l m λn o=>dz 70 n 1 2 o λp q=>gb .add 2 false c.1 p q λr s=>e (r,()) s) (b c.1 i)
def af3(k:Ca Tryz.prog 52 #[a] W λb c=>gt b c λd e=>cV d (Z (gI 0) e) (ez a λf=>dz 133 f 0 130 e λg h=>gx (ue 130 g) h λi j=>qA (PY i Z) ((gI 0),()) j)):Ca Tryz.prog 122 #[a] W Z:=cj Tryz.func122 k
def ak6(h:gq 56 a W λb c=>Z (.func (.func 151) #[] #[b]) c):Ca Tryz.prog 102 #[a] W Z:=cj Tryz.func102 h
def Q7(a b c:Value)(d:cG)(e:T1)(f:World)(g:T1->Wp):=gc e.1 a f λh i=>cV h (uB 56 b e.1 70 i λj k=>gv 70 j k λl m=>gl 70 l m λn o=>iv Tryz.prog c [n] o λp q=>gt p q λr s=>cV r (d (.tuple #[]) s) (g1 e.1 s λt u=>g (t,()) u)) (d (.tuple #[]) i)
def aj3(h:gl 56 b W λc d=>gn 56 false c d λe f=>qA (Q7 e c a Z) ((gI 0),()) f):Ca Tryz.prog 151 #[a,b] W Z:=cj Tryz.func151 h
def an2(h:gq 58 a W λb c=>Z (.func (.func 195) #[] #[b]) c):Ca Tryz.prog 155 #[a] W Z:=cj Tryz.func155 h
def P3(a b c:Value)(d:cG)(e:T1)(f:World)(g:T1->Wp):=gc e.1 a f λh i=>cV h (uB 58 b e.1 79 i λj k=>gv 79 j k λl m=>gl 79 l m λn o=>iv Tryz.prog c [n] o λp q=>gt p q λr s=>cV r (d (.tuple #[]) s) (g1 e.1 s λt u=>g (t,()) u)) (d (.tuple #[]) i)
def as5(h:gl 58 b W λc d=>gn 58 false c d λe f=>qA (P3 e c a Z) ((gI 0),()) f):Ca Tryz.prog 195 #[a,b] W Z:=cj Tryz.func195 h
def au4(h:gq 34 a W λb c=>Z (.func (.func 99) #[] #[b]) c):Ca Tryz.prog 43 #[a] W Z:=cj Tryz.func43 h
def VO(a:Value)(b:T1->Wp)(c:T1)(d:World)(e:T1->Wp):=NV->gx (wh a false 0) d λf g=>ge f 0 g λh i=>cV h (gx (uf a) i λj k=>nR j k λl m n=>gv 70 m n λo p=>gb .neq 23 true l (.int .u32 0) p λq r=>cV q (gl 70 o r λs t=>gx (jQ 56 1 [(0,s)]) t λu v=>gx (eg #[56,56] 56 [c.1,u]) v λw x=>e (w,()) x) (e (c.1,()) r)) (b (c.1,()) i)
def WT(a:Value)(b:cG)(c:T1)(d:World):=NV->Ca Tryz.prog 100 #[c.1,(.func (.func 101) #[] #[])] d λe f=>Ca Tryz.prog 102 #[c.1] f λg h=>iv Tryz.prog g [a] h λi j=>b (.tuple #[]) j
def aw2(o:jW (λc=>gl 34 b W λd e=>Ca Tryz.prog 52 #[d] e λf g=>cV f (gl 34 b g λh i=>ez h λj=>dz 133 j 0 130 i λk l=>gx (ue 130 k) l λm n=>qA (VO m c) ((.slice none 0 0),()) n) (c ((.slice none 0 0),()) g)) (WT a Z)):Ca Tryz.prog 99 #[a,b] W Z:=cj Tryz.func99 o
def as0(m:gq 70 a W λc d=>gq 70 b d λe f=>dz 70 c 0 23 f λg h=>dz 70 e 0 23 h λi j=>gb .lss 23 false g i j λk l=>cV k (Z (gI (-1)) l) (Z (gI 1) l)):Ca Tryz.prog 101 #[a,b] W Z:=cj Tryz.func101 m
def Vv(h:gq 34 a W λc d=>gq 185 b d λe f=>Z (.func (.func 152) #[] #[c,e]) f):Ca Tryz.prog 103 #[a,b] W Z:=cj Tryz.func103 h
def OP(a b:Value)(c:T1->Wp)(d:T1)(e:World)(f:T1->Wp):=NV->gx (wh a false 0) e λg h=>ge g 0 h λi j=>cV i (gx (uf a) j λk l=>ge k 1 l λm n=>gv 79 m n λo p=>gl 185 b p λq r=>gl 79 o r λs t=>iv Tryz.prog q [s] t λu v=>cV u (gl 79 o v λw x=>gx (jQ 58 1 [(0,w)]) x λy z=>gx (eg #[58,58] 58 [d.1,y]) z λA B=>f (A,()) B) (f (d.1,()) v)) (c (d.1,()) j)
def OB(a:Value)(b:cG)(c:T1)(d:World):=NV->Ca Tryz.prog 153 #[c.1,(.func (.func 154) #[] #[])] d λe f=>Ca Tryz.prog 155 #[c.1] f λg h=>iv Tryz.prog g [a] h λi j=>b (.tuple #[]) j
def af4(p:jW (λd=>gl 34 b W λe f=>Ca Tryz.prog 52 #[e] f λg h=>cV g (gl 34 b h λi j=>ez i λk=>dz 133 k 1 131 j λl m=>gx (ue 131 l) m λn o=>qA (OP n c d) ((.slice none 0 0),()) o) (d ((.slice none 0 0),()) h)) (OB a Z)):Ca Tryz.prog 152 #[a,b,c] W Z:=cj Tryz.func152 p
def Oo(a:cG)(b c:Value)(d:T1)(e:World):=NV->cV d.1 (a (gI (-1)) e) (gl 79 b e λf g=>gl 79 c g λh i=>gb .eql 79 false f h i λj k=>cV j (a (gI 0) k) (a (gI 1) k))
def ak5(z:gq 79 a W λc d=>gq 79 b d λe f=>jW (λg=>dz 79 c 0 23 f λh i=>dz 79 e 0 23 i λj k=>gb .lss 23 false h j k λl m=>cV l (g (bT,()) m) (dz 79 c 0 23 m λn o=>dz 79 e 0 23 o λp q=>gb .eql 23 false n p q λr s=>cV r (dz 79 c 1 23 s λt u=>dz 79 e 1 23 u λv w=>gb .lss 23 false t v w λx y=>g (x,()) y) (g (bF,()) s))) (Oo Z c e)):Ca Tryz.prog 154 #[a,b] W Z:=cj Tryz.func154 z
def au1(h:gq 23 b W λc d=>Ca Tryz.prog 103 #[a,(.func (.func 104) #[] #[c])] d Z):Ca Tryz.prog 44 #[a,b] W Z:=cj Tryz.func44 h
def an9(i:gq 79 a W λc d=>dz 79 c 0 23 d λe f=>gl 23 b f λg h=>gb .eql 23 false e g h Z):Ca Tryz.prog 104 #[a,b] W Z:=cj Tryz.func104 i
def ad6(h:gq 23 b W λc d=>Ca Tryz.prog 103 #[a,(.func (.func 165) #[] #[c])] d Z):Ca Tryz.prog 132 #[a,b] W Z:=cj Tryz.func132 h
def ak0(i:gq 79 a W λc d=>dz 79 c 1 23 d λe f=>gl 23 b f λg h=>gb .eql 23 false e g h Z):Ca Tryz.prog 165 #[a,b] W Z:=cj Tryz.func165 i
def P5(a b:Value)(c:Wp)(d:Unit)(e:World):=NV->gl 34 a e λf g=>gl 79 b g λh i=>Ca Tryz.prog 198 #[f,h] i λj k=>c k
def QP(a b c d:Value)(e:Nat)(f:List Value)(g:World)(h:Wp)(i:Code->Wp):=gv 79 (f.getD 0 undef) g λj k=>lC e k λl=>gl 252 a l λm n=>dz 79 j 1 23 n λo p=>dz 79 j 2 2 p λq r=>gl 2 b r λs t=>gb .mul 2 false q s t λu v=>dz 79 j 3 2 v λw x=>gb .sub 2 false u w x λy z=>gr (Instr.build 256 #[(0,o),(1,y)]) z λA B=>gx (jQ 252 1 [(0,A)]) B λC D=>gx (eg #[252,252] 252 [m,C]) D λE F=>gs 252 a E F λG=>dz 79 j 2 2 G λH I=>gl 2 b I λJ K=>gb .mul 2 false H J K λL M=>qM 79 j 3 2 L M λN=>dK (S:=Unit) (λO=>gl 4 c N λP Q=>cV P (qM 79 j 2 2 (gI 0) Q λR=>qM 79 j 3 2 (gI 0) R λS=>O (()) S) (O (()) Q)) (P5 d j h)
def Ps(a:Value)(b:cG)(c:List Nat)(d:Option Code)(e:World):=iJ (λf=>gl 252 a f λg h=>lj (c++[]) h λi=>b (gT g (gI 0)) i) (λj=>lj (c++[]) j λk=>b (gT (.slice none 0 0) (gI 0)) k) (λl m=>bc (Nat.beq l 0) (gl 252 a m λn o=>lj (c++[]) o λp=>b (gT n (gI 0)) p) (False)) d e
def Se(a:cG)(b c d e:Value)(f:T1)(g:World):=NV->cV f.1 (a (gT (.slice none 0 0) (gI 2)) g) (ga 252 g λh i=>gl 34 b i λj k=>Ca Tryz.prog 44 #[j,c] k λl m=>yP Tryz.prog none l m 1 (QP h d e b) (Ps h a))
def ZD(z:gq 34 a W λe f=>gq 2 c f λg h=>gq 4 d h λi j=>gl 34 e j λk l=>Ca Tryz.prog 52 #[k] l λm n=>gt m n λo p=>cV o (Z (gT (.slice none 0 0) (gI 1)) p) (jW (λq=>gb .eql 23 true b (.int .u32 0) p λr s=>cV r (q (bT,()) s) (gl 2 g s λt u=>Ca Tryz.prog 121 #[t,(gI 1),(gI 10000000)] u λv w=>gt v w λx y=>q (x,()) y)) (Se Z e b g i))):Ca Tryz.prog 163 #[a,b,c,d] W Z:=cj Tryz.func163 z
def Vm(a b:Value)(c:cG)(d:Unit)(e:World)(f:Unit->Wp):=NV->gx (wh a false 0) e λg h=>ge g 0 h λi j=>cV i (gx (uf a) j λk l=>nR k l λm n o=>ga 140 o λp q=>ga 79 q λr s=>gs 140 p m s λt=>gs 79 r n t λu=>ez b λv=>gY 133 v 1 131 u.drew λw=>eP 140 p u.drew λx=>eP 79 r u.drew λy=>nj Tryz.prog (nm 131 w x y) u.drew λz=>f (()) z) (c b j)
def WO(a b c:Value)(d:cG)(e:Unit)(f:World)(g:Unit->Wp):=NV->gx (wh a false 0) f λh i=>ge h 0 i λj k=>cV j (gx (uf a) k λl m=>nR l m λn o p=>gv 70 o p λq r=>ez b λs=>gY 133 s 0 130 r.drew λt=>eP 70 q r.drew λu=>nj Tryz.prog (nm 130 t n u) r.drew λv=>g (()) v) (ez c λw=>dz 133 w 1 131 k λx y=>gx (ue 131 x) y λz A=>lG (S:=Unit) (Vm z b d) (()) A)
def aE5(m:Ca Tryz.prog 52 #[a] W λb c=>gt b c λd e=>cV d (Z (.pointer none) e) (Ca Tryz.prog 50 #[] e λf g=>ez a λh=>dz 133 h 0 130 g λi j=>gx (ue 130 i) j λk l=>lG (S:=Unit) (WO k f a Z) (()) l)):Ca Tryz.prog 46 #[a] W Z:=cj Tryz.func46 m
end
end Go.Proofs
namespace Go.Proofs
open Go Go.Vc
variable {n a m:Int}{S:Led}{A:List (Int×Ac)}{F:NP_}{l c:Nat}{w w' :Wt_}{K:cG}
def Bt{S:Type}{body:S->World->(S->World->Prop)->Prop}{s:S}(I:S->World->Prop)(m:S->World->Nat)(f:I s w)
  (h:∀s w,I s w->∀c:S->World->Prop,(∀a b,I a b->m a b<m s w->c a b)->body s w c):lG body s w:=
 ⟨⟨I,m,f,λs w g=>h s w g _ λ_ _ e d=>⟨e,d⟩⟩⟩
def iG(l:Nat):Value:=pt l 0
def dH(a:Ac):List Value:=[.int .u32 a.num,gI a.cash,.bool a.kil,.bool a.dfl]
def oz(a:Ac):Value:=.agg #[.int .u32 a.num,gI a.cash,.bool a.kil,.bool a.dfl]
def ec(p:Po):List Value:=[.int .u32 p.c,gU p.a,gI p.q,gI p.b]
def tn(p:Po):Value:=.agg #[.int .u32 p.c,gU p.a,gI p.q,gI p.b]
def iI(n:Int):Value:=gU n
def l9(k:Int×Int):Value:=.agg #[.int .u32 k.1,gU k.2]
def az1:Tryz.prog.underlying 23=some (.int .u32):=cU
def rP:vB pQ 23 iI:=vB.int az1
def XU:Tryz.prog.underlying 140=some (.struct (Tryz.prog.fieldsOf 140)):=cU
def ZL:Tryz.prog.fieldsOf 140= #[{name:= "contract",type:=23,offset:=0,embedded:=false,tag:= "",pkgPath:= "broadside/ledger",byteOffset:=0},{name:= "account",type:=23,offset:=1,embedded:=false,tag:= "",pkgPath:= "broadside/ledger",byteOffset:=4}]:=cU
def ah8(b:Bool)(n:Nat)(k:IntKind)(f:Int)(w:Wt_):(Instr.checkKey b (n+1) 23 (.int k f)).run pQ w=.ok () w:=by
 unfold Instr.checkKey;simp[go_sem]
def al9(w:Wt_)(x y:Int×Int):(Op.equal 140 (l9 x) (l9 y)).run pQ w=.ok (decide (x=y)) w:=by
 have h:Tryz.prog.stoodInHeld 140=false:=cU;obtain⟨f,a⟩:=x;obtain⟨d,c⟩:=y;unfold Op.equal Op.maxDepth l9;rw[run_equalIn_struct w 9999 140 _ _ XU h,ZL];have b:∀(x y:Int) (w:Wt_),(Op.equalIn 9999 23 (gU x) (gU y)).run pQ w=.ok (x==y) w:=λx y w=>run_equalIn_int w 9998 23 .u32 .u32 x y cU;simp[Op.eqFields,part,isAgg,go_sem,b];by_cases g:f=d<;>by_cases e:a=c<;>simp_all
def ah5(w:Wt_)(b:Bool)(x:Int×Int):(Instr.checkKey b 10000 140 (l9 x)).run pQ w=.ok () w:=by
 obtain⟨f,a⟩:=x;unfold Instr.checkKey l9;have c:∀(x:Int) (w:Wt_),(Instr.checkKey b 9999 23 (gU x)).run pQ w=.ok () w:=λx w=>ah8 b 9998 .u32 x w;simp[go_sem,XU,ZL,c]
def SM:vB pQ 140 l9:=
 vB.asking XU (λx y=>rfl) al9 ah5 (λx=>by simp[l9,Instr.sameBits])
def vh:Tryz.prog.underlying 130=some (.map 23 70):=cU
def DZ:Tryz.prog.underlying 131=some (.map 140 79):=cU
def Ze:qw pQ 70=some (oz ⟨0,0,false,false⟩):=cU
def zPo:qw pQ 79=some (tn ⟨0,0,0,0⟩):=cU
structure lA(w:Wt_)(l:Nat)(F:NP_)(S:Led):Prop where
 out:∃m1 m2 A B,hC w l #[.map (some m1),.map (some m2)] 133/\fB iI oz w m1 A/\fB l9 tn w m2 B/\A.Perm S.accs/\B.Perm S.poss/\
  (∀b,F b↔b=l\/b=m1\/b=m2)/\l≠m1/\l≠m2/\m1≠m2
 ok:S.Ok
def lA.mod{G:NP_}(h:lA w l F S)(g:de G w w')(c:∀b,F b->¬G b):lA w' l F S:=by
 obtain⟨⟨e,d,A,B,k,i,o,j,n,a,m⟩,f⟩:=h;exact⟨⟨e,d,A,B,g.keep k (c l ((a l).2 (.inl rfl))),i.mod g (c e ((a e).2 (.inr (.inl rfl)))),o.mod g (c d ((a d).2 (.inr (.inr rfl)))),j,n,a,m⟩,f⟩
def lA.lt(h:lA w l F S){b:Nat}(c:F b):b<w.heap.size:=by
 obtain⟨⟨n,i,A,B,d,a,e,j,m,g,k⟩,f⟩:=h;rcases(g b).1 c with rfl|rfl|rfl
 ·exact cB d
 ·exact a.lt
 ·exact e.lt
def uA{lo hi:Int}(a:K (.bool (amongB n lo hi)) w):Ca pQ 121 #[.int .i64 n,gI lo,gI hi] w K:=by
 apply ab8;simp[go_sem];unfold amongB at a;split
 ·grind
 ·grind
def pU(h:lA w l F S)(b:K (.bool true) w):Ca pQ 52 #[iG l] w K:=by
 obtain⟨⟨j,d,A,B,a,e,k,f,i,m,g⟩,c⟩:=h;apply ay6;simp[go_sem,iG,a];exact b
def QV(h:lA w l F S)(Q:∀d,M0 w d->K (gI S.funds) d):Ca pQ 122 #[iG l] w K:=by
 have v:=h;obtain⟨⟨C,m2,A,B,P,M,h3,I,h5,h6,h7⟩,e⟩:=h;apply af3;apply pU v;simp[go_sem,iG,P];refine sw vh M λw1 k n=>?_;generalize hg:w.heap.size=E at k
 refine Bt (λs W=>∃(x:Int) (rest:List (Int×Ac)),s=(gI x,())/\nD iI oz W E C rest/\M0 w W/\x+(rest.map (·.2.cash)).sum=S.funds/\0<=x/\∀p∈rest,0<=p.2.cash)
  (λs W=>rm E C W) ?_ ?_
 ·refine⟨0,A,rfl,k,n,?_,qZ,λp hp=>?_⟩
  ·rw[perm_sum (I.map (·.2.cash))];simp[Led.accs,fundAc,Led.funds,Function.comp_def]
  ·have:=I.mem_iff.1 hp;simp only[Led.accs,cH,cF]at this;rcases this with rfl|⟨a,ha,rfl⟩
   ·exact e.fund.1
   ·exact(e.acc a ha).2.2.1
 ·rintro⟨_,_⟩ W ⟨x,rest,⟨⟩,m,H,V,Z,L⟩ KN j;unfold PY;intro _;refine uv m ?_ ?_
  ·intro v d D _;subst v;have:x=S.funds:=by simpa using V
   simp[go_sem];rw[this];exact Q _ (H.trans D)
  ·intro i p u d r t D R;simp[go_sem];apply sg t;simp[go_sem,oz];have g:=oY u
   have Y:p.2.cash+((rest.eraseIdx i).map (·.2.cash)).sum=(rest.map (·.2.cash)).sum:=by
    rw[perm_sum (g.map (·.2.cash))];simp
   have U:=L p (dL u);have c:∀q∈rest.eraseIdx i,0<=q.2.cash:=λq O=>L q (List.mem_of_mem_eraseIdx O)
   have J:0<=((rest.eraseIdx i).map (·.2.cash)).sum:=by
    clear g Y u r j;generalize rest.eraseIdx i=l at c;induction l with
    |nil=>simp
    |cons q l ih=>
     have:=c q cw;have:=ih λy T=>c y (cu _ T);simp only[cM,di];omega
   have z:=e.funds.2
   have G:IntKind.i64.wrap (x+p.2.cash)=x+p.2.cash:=by
    rw[eF];simp only[MF]at z;omega
   rw[G];have X:∀o,M0 w (d.alloc o):=λo=>(H.on D λb N=>.inr (by subst N;omega)).alloc o;have f:∀o,nD iI oz (d.alloc o) E C (rest.eraseIdx i):=λo=>r.mod ((de.refl (λ_=>False) d).alloc o) id id;apply j _ _ ⟨_,_,rfl,f _,X _,qZ,qZ,c⟩;rw[(f _).left,m.left,kP];have:i<rest.length:=(cP.1 u).1;rw[bZ this];omega
def vX(o:Option Ac):o.elim (oz ⟨0,0,false,false⟩) oz=oz (o.getD ⟨0,0,false,false⟩):=by cases o<;>rfl
def Ow(o:Option Po):o.elim (tn ⟨0,0,0,0⟩) tn=tn (o.getD ⟨0,0,0,0⟩):=by cases o<;>rfl
def lA.lkA(a:fB iI oz w c A)(b:A.Perm S.accs)(n:Int):lk A n=S.getO n:=by
 rw[lk_perm a.1 b,S.lk_accs]
def lA.lkP{B:List ((Int×Int)×Po)}{a:Nat}(c:fB l9 tn w a B)(b:B.Perm S.poss)(k:Int×Int):lk B k=S.pos? k:=by
 rw[lk_perm c.1 b,S.lk_poss]
def lA.putA{d:Nat}{B:List ((Int×Int)×Po)}(m:hC w l #[.map (some c),.map (some d)] 133)
  (j:fB iI oz w c A)(p:fB l9 tn w d B)(k:A.Perm S.accs)(n:B.Perm S.poss)(q:∀b,F b↔b=l\/b=c\/b=d)(g:l≠c/\l≠d/\c≠d)(h:S.Ok)(a:Ac)
  (r:a.num=0->a=fundAc a.cash)(f:(S.putA a).Ok)(o:fB iI oz w' c (put A a.num a))(i:de (λb=>b=c) w w'):lA w' l F (S.putA a):=by
 refine⟨⟨c,d,_,B,i.keep m g.1,o,p.mod i (λe=>g.2.2 e.symm),h.put_accs j.1 k a r,?_,q,g⟩,f⟩;rw[show(S.putA a).poss=S.poss by unfold Led.putA;split<;>rfl];exact n
def Kl(h:lA w l F S)(X:0<=n/\n<4294967296)
  (f:∀U,lA U l F (S.deposit n m).2->de F w U->K (gI (S.deposit n m).1) U):Ca pQ 82 #[iG l,gU n,gI m] w K:=by
 have h0:=h;obtain⟨⟨m1,m2,A,B,L,C,h3,P,h5,h6,h7⟩,g⟩:=h;apply az9;apply pU h0;simp[go_sem,iG,L];apply zC (enc:=iI) (ev:=oz) (x:=n) (oz ⟨0,0,false,false⟩) vh rP Ze (.inr ⟨m1,rfl,C⟩);rw[vX,lA.lkA C P];generalize d:(S.getO n).getD ⟨0,0,false,false⟩=a;simp[go_sem,oz];apply uA;have hlt:=cB L;have hM:amongB m 1 1000000000000000=amongB m 1 MF:=rfl;rw[hM];have hMF:MF=1000000000000000:=rfl;generalize r:w.alloc (.cells #[.int .u32 a.num,gI a.cash,.bool a.kil,.bool a.dfl] 70)=R;have c:M0 w R:=by subst r;exact(de.refl _ w).alloc _
 have t:hC R w.heap.size #[.int .u32 a.num,gI a.cash,.bool a.kil,.bool a.dfl] 70:=by subst r;simp[go_sem]
 have z:=c.keep L id;have q:=C.mod c id;have J:=h0.mod c eQ;simp[go_sem,fy z,Kn vh q,(show Tryz.prog.underlying 3=some (.int .i64)from by kernel_rfl)];have Z:A.length=S.all.length+1:=by rw[P.length_eq];simp[Led.accs]
 unfold Led.deposit at f;by_cases u:amongB m 1 MF=true
 ·have hmr:1<=m/\m<=1000000000000000:=amongB_iff.1 u;rw[bZ u]at f|-;refine dK.at (λs W=>s=(.bool (decide (S.getO n=none/\64<=S.all.length)),())/\W=R) ?_ ?_
  ·split
   ·grind
   ·grind
  rintro _ W ⟨rfl,rfl⟩;unfold UP;intro _;by_cases H:S.getO n=none/\64<=S.all.length
  ·rw[bZ H]at f;simp only[db H,cy,fh];exact f _ J (c.to)
  ·rw[aZ H]at f;simp only[ej H,cy,dE,eW];refine QV J λY e=>?_;have T:=g.funds;have k:=e.keep t id;have D:=e.keep z id;have h2x:=q.mod e id;have h3x:=(h3.mod c id).mod e id;have p:=c.trans e;have N:IntKind.i64.wrap (S.funds+m)=S.funds+m:=by rw[eF];omega
   simp[go_sem,N,fy k,fy D];by_cases ho:S.funds+m>MF
   ·rw[bZ ho]at f;rw[bZ qZ];exact f _ (J.mod e eQ) (p.to)
   ·rw[aZ ho]at f;rw[aZ qZ];rw[d]at f
    have V:0<=a.cash/\a.cash<=MF/\(n=0->a.kil=false/\a.dfl=false):=by
     cases o:S.getO n with
     |none=>
      rw[o]at d;subst d;exact⟨by simp,by simp[MF],λ_=>⟨rfl,rfl⟩⟩
     |some x=>
      rw[o]at d;simp only[fT]at d;subst d;obtain⟨g1,g2,g3,g4,g5,g6⟩:=g.getO o;refine⟨g4,g5,λX=>?_⟩;have:=g6 (g1.trans X);rw[this];exact sI
    have E:IntKind.i64.wrap (a.cash+m)=a.cash+m:=by rw[eF];omega
    have M:l≠w.heap.size:=qZ;simp[go_sem,E,fy k,fy D,M];generalize O:(Y.setCell ⟨w.heap.size,0,none⟩ (gU n)).setCell ⟨w.heap.size,1,none⟩ (gI (a.cash+m))=G;have m3:de (λb=>b=w.heap.size) Y G:=by subst O;exact((de.refl _ Y).setCell (by simp) _ _).setCell (by simp) _ _
    have j:M0 w G:=p.on m3 λb d=>gz;let I:Ac:={a with num:=n,cash:=a.cash+m}
    refine kV (enc:=iI) (ev:=oz) (x:=n) (v:=I) vh rP ((C.mod j id).mod ((de.refl (λ_=>False) G).drew) id) λw4 hA m4 hs4=>?_;have y:de (λb=>b=m1) G w4:=mP.trans m4
    have Q:a.cash<=S.funds:=by
     cases o:S.getO n with
     |none=>rw[o]at d;subst d;exact T.1
     |some x=>
      rw[o]at d;simp only[fT]at d;subst d;exact g.cash_le o
    refine f w4 (lA.putA (a:=I) (j.keep L id) (C.mod j id) (h3.mod j id) P h5 h6 h7 g ?_ ?_ hA y) ?_
    ·intro i;have:=V.2.2 i;simp only[fundAc,I,this,Ac.mk.injEq,and_true,tJ];exact i
    ·apply g.putA X ⟨by grind,by grind⟩;simp only[I];by_cases i:n=0
     ·exact .inr (.inr i)
     ·by_cases o:S.getO n=none
      ·grind
      ·refine .inl ?_;unfold Led.getO at o
       rwa[aZ i]at o
    ·exact(j.to).on y λb d=>.inl ((h6 b).2 (.inr (.inl d)))
 ·simp only[Bool.not_eq_true]at u;rw[aZ (by simp[u])]at f;rw[aZ (by simp[u])];exact f _ J (c.to)
def vR(h:n≠0):S.getO n=S.find n:=by unfold Led.getO;rw[aZ h]
def GF(h:lA w l F S)(hn:0<=n/\n<4294967296)
  (i:∀J,lA J l F (S.withdraw n m).2->de F w J->K (gI (S.withdraw n m).1) J):Ca pQ 123 #[iG l,gU n,gI m] w K:=by
 have Q:=h;obtain⟨⟨H,m2,A,B,G,r,h3,R,h5,V,h7⟩,q⟩:=h;apply ap7;apply pU Q;simp[go_sem,iG,G];apply zC (enc:=iI) (ev:=oz) (x:=n) (oz ⟨0,0,false,false⟩) vh rP Ze (.inr ⟨H,rfl,r⟩);rw[vX,lA.lkA r R];generalize o:(S.getO n).getD ⟨0,0,false,false⟩=a;have X:=cB G;simp[go_sem,oz];generalize y:w.alloc (.cells #[.int .u32 a.num,gI a.cash,.bool a.kil,.bool a.dfl] 70)=C;have d:M0 w C:=by subst y;exact(de.refl _ w).alloc _
 have j:hC C w.heap.size #[.int .u32 a.num,gI a.cash,.bool a.kil,.bool a.dfl] 70:=by subst y;simp[go_sem]
 have O:=d.keep G id;have h2w:=r.mod d id;have T:=Q.mod d eQ;have U:de F w C:=d.to;have hMF:MF=1000000000000000:=rfl;unfold Led.withdraw at i;refine dK.at (λs W=>s=(.bool (decide (n=0\/amongB m 1 MF=false)),())/\W=C) ?_ ?_
 ·by_cases f:n=0
  ·simp[go_sem,f]
  ·simp[go_sem,f];apply uA;have Z:amongB m 1 1000000000000000=amongB m 1 MF:=rfl;simp[go_sem,Z]
 rintro _ W ⟨rfl,rfl⟩;unfold Pk;intro _;by_cases z:n=0\/amongB m 1 MF=false
 ·rw[bZ z]at i;simp only[db z,cy,fh];exact i _ T U
 ·rw[aZ z]at i;simp only[ej z,cy,dE,eW];obtain⟨f,M⟩:n≠0/\amongB m 1 MF=true:=⟨λe=>z (.inl e),by grind⟩
  have hmr:=amongB_iff.1 M;rw[vR f]at o;rw[vR f];cases E:S.find n with
  |none=>
   rw[E]at i;simp[go_sem];exact i _ T U
  |some x=>
   rw[E]at i o;simp only[fT]at o;subst o;obtain⟨hx,N⟩:=Led.find_mem E;obtain⟨g1,g2,g3,g4⟩:=q.acc x hx;simp only at i;simp[go_sem,fy j];by_cases k:x.cash<m
   ·grind
   ·rw[aZ k]at i|-;have v:IntKind.i64.wrap (x.cash - m)=x.cash - m:=by rw[eF];omega
    have I:l≠w.heap.size:=qZ;simp[go_sem,v,fy j,fy O,I];generalize L:(W.setCell ⟨w.heap.size,1,none⟩ (gI (x.cash - m)))=D;have Y:de (λb=>b=w.heap.size) W D:=by subst L;exact((de.refl _ W).setCell (by simp) _ _)
    have g:M0 w D:=d.on Y λb o=>gz;let u:Ac:={x with cash:=x.cash - m}
    have c:u.num=n:=N
    have p:∀W:World,∀K:World->Prop,nj pQ (nm 130 (.map (some H)) (iI u.num) (oz u)) W K->nj pQ (nm 130 (.map (some H)) (gU n) (.agg #[.int .u32 x.num,gI (x.cash - m),.bool x.kil,.bool x.dfl])) W K:=by
     intro W K h;have:iI u.num=gU n:=by rw[c];rfl
     rw[this]at h;exact h
    apply p _ _;refine kV (enc:=iI) (ev:=oz) vh rP ((r.mod g id).mod ((de.refl (λ_=>False) D).drew) id) λP hA m4 hs4=>?_;have t:de (λb=>b=H) D P:=mP.trans m4;refine i P (lA.putA (a:=u) (g.keep G id) (r.mod g id) (h3.mod g id) R h5 V h7 q ?_ ?_ hA t) ?_
    ·grind
    ·refine q.putA ⟨by rw[c];omega,by rw[c];omega⟩ ⟨by grind,by grind⟩ (.inl ?_);rw[c,E];simp
    ·exact(g.to).on t λb o=>.inl ((V b).2 (.inr (.inl o)))
def Led.getV(S:Led)(n:Int):Ac×Int:=((S.getO n).getD ⟨0,0,false,false⟩,if S.getO n=none then 7 else 0)
def ug(h:lA w l F S)
  (d:∀k,M0 w k->K (.tuple #[oz (S.getV n).1,gI (S.getV n).2]) k):Ca pQ 28 #[iG l,gU n] w K:=by
 have p:=h;obtain⟨⟨t,v,A,B,s,j,C,q,z,D,y⟩,u⟩:=h;apply aB1;simp[go_sem];generalize e:w.alloc _=f;have a:M0 w f:=by subst e;exact(de.refl _ w).alloc _
 have b:hC f w.heap.size #[.int .u32 0,gI 0,.bool false,.bool false] 70:=by subst e;simp[go_sem]
 have r:=p.mod a eQ;apply pU r;have i:=a.keep s id;have g:=j.mod a id;simp[go_sem,iG,fy i];apply zC (enc:=iI) (ev:=oz) (x:=n) (oz ⟨0,0,false,false⟩) vh rP Ze (.inr ⟨t,rfl,g⟩);rw[vX,lA.lkA j q];have o:=cB b;have c:w.heap.size≠f.heap.size:=qZ;unfold Led.getV at d;cases m:S.getO n with
 |none=>
  rw[m]at d;simp[go_sem,oz,fy b,c];apply d _;exact((((a.alloc _).setCell (.inr (cJ _)) _ _).setCell (.inr (cJ _)) _ _).setCell (.inr (cJ _)) _ _).setCell (.inr (cJ _)) _ _
 |some x=>
  rw[m]at d;simp[go_sem,oz,fy b,c];apply d _;exact((((a.alloc _).setCell (.inr (cJ _)) _ _).setCell (.inr (cJ _)) _ _).setCell (.inr (cJ _)) _ _).setCell (.inr (cJ _)) _ _
def Tw(e: -9223372036854775808<=a/\a<9223372036854775808)(b:K (.tuple #[.int .u64 (if a<0 then -a else a),.bool (decide (a<0))]) w):Ca pQ 156 #[.int .i64 a] w K:=by
 apply ar6;simp[go_sem];by_cases h:a<0
 ·rw[bZ h]at b|-
  have c:IntKind.u64.wrap a=a+18446744073709551616:=by
   simp[IntKind.wrap,IntKind.bits,IntKind.signed];omega
  have d:IntKind.u64.wrap (-(a+18446744073709551616))= -a:=by
   simp[IntKind.wrap,IntKind.bits,IntKind.signed];omega
  simp[c,d,h]at b|-;exact b
 ·rw[aZ h]at b|-
  have c:IntKind.u64.wrap a=a:=by
   simp[IntKind.wrap,IntKind.bits,IntKind.signed];omega
  simp[c,h]at b|-;exact b
def lH(f: -9223372036854775808<=a/\a<9223372036854775808)(c:0<=m/\m<9223372036854775808)(b:K (.bool (amongB a (-m) m)) w):Ca pQ 108 #[.int .i64 a,gI m] w K:=by
 apply af7;apply Tw f
 have d:IntKind.u64.wrap m=m:=by
  simp[IntKind.wrap,IntKind.bits,IntKind.signed];omega
 simp[go_sem,d,c.1]
 have e:amongB a (-m) m=decide ((if a<0 then -a else a)<=m):=by
  unfold amongB;rw[qP];split<;>omega
 rw[e]at b;exact b
def rK{c:Int}(h:lA w l F S)
  (k:∀o,M0 w o->K (tn (S.position c a)) o):Ca pQ 30 #[iG l,gU c,gU a] w K:=by
 have t:=h;obtain⟨⟨G,s,A,B,v,C,q,D,y,H,E⟩,z⟩:=h;apply ay2;simp[go_sem];generalize g:World.alloc _ _=i;have d:M0 w i:=by subst g;exact lm.alloc _
 have e:hC i w.heap.size #[.int .u32 0,gU 0,gI 0,gI 0] 79:=by subst g;simp[go_sem]
 have b:hC i (w.heap.size+1) #[.int .u32 c,gU a,gI 0,gI 0] 79:=by subst g;simp[go_sem]
 have u:=t.mod d eQ;apply pU u;have n:=d.keep v id;have m:=q.mod d id;simp[go_sem,iG,fy n];apply zC (enc:=l9) (ev:=tn) (x:=(c,a)) (tn ⟨0,0,0,0⟩) DZ SM zPo (.inr ⟨s,rfl,m⟩);rw[Ow,lA.lkP q y];have r:=cB b;have j:w.heap.size≠i.heap.size:=qZ;have f:w.heap.size+1≠i.heap.size:=qZ;unfold Led.position at k;cases p:S.pos? (c,a)with
 |none=>
  rw[p]at k;simp[go_sem,tn,fy e,fy b,j,f];apply k _;exact((((d.alloc _).setCell (.inr (cJ _)) _ _).setCell (.inr (cJ _)) _ _).setCell (.inr (cJ _)) _ _).setCell (.inr (cJ _)) _ _
 |some x=>
  rw[p]at k;simp[go_sem,tn,fy e,fy b,j,f];apply k _;exact((((d.alloc _).setCell (.inr (cJ _)) _ _).setCell (.inr (cJ _)) _ _).setCell (.inr (cJ _)) _ _).setCell (.inr (cJ _)) _ _
def lA.putP{a:Nat}{e:List ((Int×Int)×Po)}(j:hC w l #[.map (some c),.map (some a)] 133)
  (h:fB iI oz w c A)(i:A.Perm S.accs)(m:∀b,F b↔b=l\/b=c\/b=a)(f:l≠c/\l≠a/\c≠a)(p:Po)
  (n:e.Perm (S.putP p).poss)(d:(S.putP p).Ok)(k:fB l9 tn w' a e)(g:de (λb=>b=a) w w'):lA w' l F (S.putP p):=
 ⟨⟨c,a,A,e,g.keep j f.2.1,h.mod g f.2.2,k,i,n,m,f⟩,d⟩
def Kh{p:Po}(h:lA w l F S)(g:(S.putP p).Ok)
  (I:∀u,lA u l F (S.putP p)->de F w u->K (.tuple #[]) u):Ca pQ 198 #[iG l,tn p] w K:=by
 obtain⟨⟨O,r,A,B,M,D,z,E,H,t,G⟩,N⟩:=h;apply as3;simp[go_sem,tn];generalize k:World.alloc _ _=q;have a:M0 w q:=by subst k;exact lm.alloc _
 have i:hC q w.heap.size #[.int .u32 p.c,gU p.a,gI p.q,gI p.b] 79:=by subst k;simp[go_sem]
 have c:hC q (w.heap.size+1) #[.int .u32 p.c,gU p.a] 140:=by subst k;simp[go_sem]
 have f:=a.keep M id;refine dK.at (λs W=>s=(.bool p.isZ,())/\W=q) ?_ ?_
 ·simp[go_sem,fy i];unfold Po.isZ;by_cases L:p.q=0<;>by_cases j:p.b=0<;>simp[L,j]
 rintro _ W ⟨rfl,rfl⟩;unfold RU;intro _;have o:fB l9 tn W.drew r B:=(z.mod a id).mod ((de.refl (λ_=>False) W).drew) id;cases J:p.isZ with
 |true=>
  simp[go_sem,iG,fy f,fy c];refine Em (enc:=l9) (ev:=tn) (x:=p.key) DZ SM (.inr ⟨r,rfl,o⟩) λn m C y=>?_;rcases m with⟨m,_⟩|⟨b,j,m⟩
  ·cases m
  cases j;have d:de (λb=>b=r) W n:=(mP.trans (C.mono λb _ e=>by cases e;rfl))
  apply I n (lA.putP f (D.mod a id) E t G p (Led.del_poss z.1 H p J) g m d);exact(a.to).on d λb j=>.inl ((t b).2 (.inr (.inr j)))
 |false=>
  simp[go_sem,iG,fy f,fy i,fy c];refine kV (enc:=l9) (ev:=tn) (x:=p.key) (v:=p) DZ SM o λn m C y=>?_;have d:de (λb=>b=r) W n:=mP.trans C;apply I n (lA.putP f (D.mod a id) E t G p (Led.put_poss z.1 H p J) g m d);exact(a.to).on d λb j=>.inl ((t b).2 (.inr (.inr j)))
def FL{a:Ac}(h:lA w l F S)(hn:0<=a.num/\a.num<4294967296)
  (g:∀G,lA G l F (S.set a).2->de F w G->K (gI (S.set a).1) G):Ca pQ 96 #[iG l,oz a] w K:=by
 have Z:=h;obtain⟨⟨r,m2,A,B,M,o,R,J,h5,T,h7⟩,u⟩:=h;have U:=cB M;have Y:=o.lt;have V:=R.lt;apply aw3;simp[go_sem,oz];generalize q:World.alloc _ _=C;have d:M0 w C:=by subst q;exact(de.refl _ w).alloc _
 have c:hC C w.heap.size #[.int .u32 a.num,gI a.cash,.bool a.kil,.bool a.dfl] 70:=by subst q;simp[go_sem]
 have z:=d.keep M id;have L:=Z.mod d eQ;have mF:de F w C:=d.to;apply pU L;simp[go_sem];unfold Led.set at g;have X:amongB a.cash 0 1000000000000000=amongB a.cash 0 MF:=rfl;refine dK.at (λs W=>s=(.bool (decide (amongB a.cash 0 MF=false\/(a.num=0/\(a.kil=true\/a.dfl=true)))),())/\W=C) ?_ ?_
 ·simp[go_sem,fy c];apply uA;rw[X];cases n:amongB a.cash 0 MF
  ·simp[go_sem]
  ·simp[go_sem,fy c];by_cases f:a.num=0
   ·grind
   ·simp[f]
 rintro _ W ⟨rfl,rfl⟩;unfold Wn;intro _;by_cases n:amongB a.cash 0 MF=false\/(a.num=0/\(a.kil=true\/a.dfl=true))
 ·rw[bZ n]at g;simp only[db n,cy,fh];exact g _ L mF
 ·rw[aZ n]at g;simp only[ej n,cy,dE,eW];have j:0<=a.cash/\a.cash<=MF:=amongB_iff.1 (by grind);have k:∀i,M0 W i->fB iI oz i r A:=λi m=>(o.mod d id).mod m id;simp[go_sem,iG,fy z,fy c];apply NQ (enc:=iI) (ev:=oz) (x:=a.num) (oz ⟨0,0,false,false⟩) vh rP Ze (.inr ⟨r,rfl,k _ mP⟩);rw[vX,lA.lkA o J];generalize H:(S.getO a.num).getD ⟨0,0,false,false⟩=x;have hsz:=cB c;have y:w.heap.size≠W.heap.size:=qZ;have t:l≠W.heap.size:=qZ;simp[go_sem,oz,fy c,fy z,y,t]
  have hl:∀i,M0 W i->(ji 130 (.map (some r)) (gU a.num) true).run pQ i=.ok (.tuple #[oz x,.bool (S.getO a.num).isSome]) i:=λi m=>by
   have:=Ey (P:=pQ) (enc:=iI) (ev:=oz) (x:=a.num) vh rP Ze (.inr ⟨r,rfl,k _ m⟩);rw[vX,lA.lkA o J,H]at this;exact this
  refine⟨hl _ (lm.drew),?_⟩;generalize I:(World.alloc _ _).drew=O;have E:M0 W O:=by subst I;exact lm.drew
  have e:=d.trans E;by_cases D:S.getO a.num=none
  ·rw[bZ D]at g|-;exact g _ (L.mod E eQ) (e.to)
  ·rw[aZ D]at g|-;refine kV (enc:=iI) (ev:=oz) (x:=a.num) (v:=a) vh rP (k _ (E.drew)) λN hA m4 hs4=>?_;have p:de (λb=>b=r) O N:=mP.trans m4;refine g N (lA.putA (a:=a) (e.keep M id) (o.mod e id) (R.mod e id) J h5 T h7 u ?_ ?_ hA p) ?_
   ·intro Q;have hk:¬(a.kil=true\/a.dfl=true):=λh=>n (.inr ⟨Q,h⟩);obtain⟨num,cash,kil,dfl⟩:=a;simp only[fundAc,Ac.mk.injEq,tJ]at*;refine⟨Q,?_,?_⟩
    ·grind
    ·grind
   ·apply u.putA hn j;by_cases f:a.num=0
    ·exact .inr (.inr f)
    ·rw[vR f]at D;exact .inl D
   ·exact(e.to).on p λb H=>.inl ((T b).2 (.inr (.inl H)))
def Ao(h:S.find n≠none):∃a∈S.all,a.num=n:=by
 obtain⟨x,b⟩:=Option.ne_none_iff_exists'.1 h;exact⟨x,Led.find_mem b⟩
def ag3:lN pQ 79 4 24=true:=cU
def IF{c b s p:Int}(h:lA w l F S)(hc:0<=c/\c<4294967296)
  (u:∀w',lA w' l F (S.trade c b s p n).2->de F w w' ->K (gI (S.trade c b s p n).1) w'):Ca pQ 175 #[iG l,gU c,gU b,gU s,gI p,gI n] w K:=by
 have h0:=h;obtain⟨⟨m1,m2,A,B,r,h2,h3,h4,h5,h6,h7⟩,G⟩:=h;have hlt:=cB r;apply aq8;apply pU h0;simp[go_sem];unfold Led.trade at u;have hMp:∀x:Int,amongB x 1 10000000=amongB x 1 MP:=λ_=>rfl;generalize J:(decide (c=0\/b=0\/s=0\/b=s\/amongB p 1 MP=false\/amongB n 1 MP=false))=cd;refine dK.at (λst W=>st=(.bool cd,())/\W=w) ?_ ?_
 ·subst J;by_cases L:c=0
  ·simp[L]
  ·by_cases M:b=0
   ·simp[L,M]
   ·by_cases e3:s=0
    ·simp[L,M,e3]
    ·by_cases e4:b=s
     ·simp[L,M,e3,e4]
     ·simp[L,M,e3,e4];apply uA;rw[hMp];cases amongB p 1 MP
      ·simp[go_sem]
      ·simp[go_sem];apply uA;rw[hMp];simp[go_sem]
 rintro _ w ⟨rfl,rfl⟩;unfold Qh;intro _;cases cd with
 |true=>
  rw[bZ (dR J)]at u;simp;exact u _ h0 lX
 |false=>
  have k:=of_decide_eq_false J;rw[aZ k]at u
  have hl:∀(x:Int) f,M0 w f->(ji 130 (.map (some m1)) (gU x) true).run pQ f=.ok (.tuple #[oz ((S.getO x).getD ⟨0,0,false,false⟩),.bool (S.getO x).isSome]) f:=λx f m=>by
   have:=Ey (P:=pQ) (enc:=iI) (ev:=oz) (x:=x) vh rP Ze (.inr ⟨m1,rfl,h2.mod m id⟩);rw[vX,lA.lkA h2 h4]at this;exact this
  simp[go_sem,iG,fy r];apply iW (hl b _ lX);simp[go_sem,oz,fy r,Yi hlt];generalize hw1:World.alloc _ _=w1;have m1' :M0 w w1:=by subst hw1;exact(de.refl _ w).alloc _
  apply iW (hl s _ m1');simp[go_sem,oz];generalize hw2:World.alloc _ _=w2;have H:M0 w w2:=by subst hw2;exact m1'.alloc _
  have q2:=h0.mod H eQ
  obtain⟨L,M,e3,e4,e5,e6⟩:c≠0/\b≠0/\s≠0/\b≠s/\amongB p 1 MP=true/\amongB n 1 MP=true:=by
   refine⟨λe=>k (.inl e),λe=>k (.inr (.inl e)),λe=>k (.inr (.inr (.inl e))),λe=>k (.inr (.inr (.inr (.inl e)))),?_,?_⟩
   ·grind
   ·grind
  rw[vR M,vR e3];refine dK.at (λst W=>st=(.bool (decide (S.find b=none\/S.find s=none)),())/\W=w2) ?_ ?_
  ·cases S.find b<;>cases S.find s<;>simp
  rintro _ w2 ⟨rfl,rfl⟩;unfold PR;intro _;by_cases g:S.find b=none\/S.find s=none
  ·rw[bZ g]at u;simp only[db g,cy,fh];exact u _ q2 (H.to)
  ·rw[aZ g]at u;simp only[ej g,cy,dE,eW];have O:S.find b≠none/\S.find s≠none:=⟨λh=>g (.inl h),λh=>g (.inr h)⟩
   refine rK q2 λw3 m3=>?_;have q3:=q2.mod m3 eQ;refine rK q3 λw4 m4=>?_;have q4:=q3.mod m4 eQ;have m14:=(H.trans m3).trans m4;obtain⟨x1,x2,x3,x4,x5,x6⟩:=G.position c b;obtain⟨y1,y2,y3,y4,y5,y6⟩:=G.position c s;generalize S.position c b=x at*;generalize S.position c s=y at*;simp only at u;obtain⟨p1,p2⟩:=amongB_iff.1 e5;obtain⟨n1,n2⟩:=amongB_iff.1 e6;have hpn:=mul_bd (x:=p) (y:=n) (m:=MP) (n:=MP) ⟨by grind,p2⟩ ⟨qZ,n2⟩;have hpn0:0<=p*n:=lU qZ qZ;generalize hpnv:p*n=j at*;simp only[MP,MF]at x3 x4 x5 x6 y3 y4 y5 y6 p2 n2 hpn;have wr1:IntKind.i64.wrap (x.q+n)=x.q+n:=by rw[eF];omega
   have wr2:IntKind.i64.wrap j=j:=by rw[eF];omega
   have wr3:IntKind.i64.wrap (x.b+j)=x.b+j:=by rw[eF];omega
   have wr4:IntKind.i64.wrap (y.q - n)=y.q - n:=by rw[eF];omega
   have wr5:IntKind.i64.wrap (y.b - j)=y.b - j:=by rw[eF];omega
   simp[go_sem,tn,hpnv,wr1,wr2,wr3,wr4,wr5,x1,x2,y1,y2];let X:Po:=⟨c,b,x.q+n,x.b+j⟩
   let Y:Po:=⟨c,s,y.q - n,y.b - j⟩
   generalize I:World.alloc _ _=N;have m5:M0 w4 N:=by subst I;exact lm.alloc _
   have hX:hC N w4.heap.size #[.int .u32 c,gU b,gI (x.q+n),gI (x.b+j)] 79:=by subst I;simp[go_sem]
   have hY:hC N (w4.heap.size+1) #[.int .u32 c,gU s,gI (y.q - n),gI (y.b - j)] 79:=by subst I;simp[go_sem]
   refine oJ (e:=79) (sz:=4) [tn X,tn Y] cU (eO ag3) rfl rfl (by simp[tn,Value.cells]) (by decide) ?_;generalize T:World.alloc _ _=w6;have m6:M0 N w6:=by subst T;exact(de.refl _ N).alloc _
   have hQ:hC w6 N.heap.size #[.int .u32 c,gU b,gI (x.q+n),gI (x.b+j),gU c,gU s,gI (y.q - n),gI (y.b - j)] 79:=by
    subst T;simp[go_sem,tn,Value.cells,X,Y]
   have q6:=(q4.mod m5 eQ).mod m6 eQ;have Q:=(m14.trans m5).trans m6;have hX6:=m6.keep hX id;have hY6:=m6.keep hY id;simp[go_sem];have hMF:∀z:Int,amongB z (-1000000000000000) 1000000000000000=amongB z (-MF) MF:=λ_=>rfl;have hMP:∀z:Int,amongB z (-10000000) 10000000=amongB z (-MP) MP:=λ_=>rfl;let a:Po->Bool:=λz=>amongB z.q (-MP) MP&& amongB z.b (-MF) MF
   refine Bt (λst W=>∃(v:Vt_) (i:Nat),i<=2/\st=(v,gI i,())/\M0 w6 W/\(0<i->a X=true)/\(1<i->a Y=true))
    (λst _=>match st.2.1 with| .int _ i=>2 - i.toNat|_=>0) ⟨_,0,qZ,rfl,lX,qZ,qZ⟩ ?_
   rintro⟨sv,_⟩ W ⟨v,i,hi,⟨⟩,D,hi0,hi1⟩ KN V;unfold RP;intro _;have hQW:=D.keep hQ id;have qW:=q6.mod D eQ
   have step:∀(Z:Po) (f:Wt_),(a Z=false->K (gI 6) f)->(a Z=true->KN (sv,gI ((i:Int)+1),()) f)->Ju K (sv,gI (i:Int),()) KN (.bool (!a Z),()) f:=by
    intro Z f g hyes;unfold Ju;intro _;cases t:a Z
    ·simp;exact g t
    ·have hw:IntKind.i64.wrap ((i:Int)+1)=(i:Int)+1:=by rw[eF];omega
     simp[go_sem,hw];exact hyes t
   have R:a X=true↔¬(MP<X.q\/MF<X.b):=by
    simp only[a,cL,amongB_iff,MP,MF,X];omega
   have U:a Y=true↔¬(Y.q< -MP\/Y.b< -MF):=by
    simp only[a,cL,amongB_iff,MP,MF,Y];omega
   have mA:∀o,de F w (W.alloc o):=λo=>((Q.trans D).alloc o).to
   have E:(MP<X.q\/Y.q< -MP\/MF<X.b\/Y.b< -MF)->∀f,lA f l F S->de F w f->K (gI 6) f:=by
    intro h f hq' hm';have q:=u f;rw[bZ h]at q;exact q hq' hm'
   rcases(show i=0\/i=1\/i=2 by omega)with rfl|rfl|rfl
   ·simp[go_sem,fy hQW];refine dK.at (λst f=>st=(.bool (!a X),())/\f=W.alloc (.cells (ec X).toArray 79)) ?_ ?_
    ·simp[go_sem];apply lH ⟨by grind,by grind⟩ qZ;rw[hMP];cases r:amongB X.q (-MP) MP
     ·have d:=r;simp only[X]at d;simp[go_sem,d,a,r,ec,X]
     ·have d:=r;simp only[X]at d;simp[go_sem,d];apply lH ⟨by grind,by grind⟩ qZ;rw[hMF];simp[go_sem,a,d,ec,X]
    rintro _ f ⟨rfl,rfl⟩;refine step X _ (λt=>?_) (λt=>?_)
    ·refine E ?_ _ (qW.mod lm eQ) (mA _);have:¬a X=true:=by rw[t];simp
     rw[R]at this;omega
    ·exact V _ _ ⟨sv,1,qZ,rfl,D.alloc _,λ_=>t,qZ⟩ (by simp)
   ·simp[go_sem,fy hQW];refine dK.at (λst f=>st=(.bool (!a Y),())/\f=W.alloc (.cells (ec Y).toArray 79)) ?_ ?_
    ·simp[go_sem];apply lH ⟨by grind,by grind⟩ qZ;rw[hMP];cases r:amongB Y.q (-MP) MP
     ·have d:=r;simp only[Y]at d;simp[go_sem,d,a,r,ec,Y]
     ·have d:=r;simp only[Y]at d;simp[go_sem,d];apply lH ⟨by grind,by grind⟩ qZ;rw[hMF];simp[go_sem,a,d,ec,Y]
    rintro _ f ⟨rfl,rfl⟩;refine step Y _ (λt=>?_) (λt=>?_)
    ·refine E ?_ _ (qW.mod lm eQ) (mA _);have:¬a Y=true:=by rw[t];simp
     rw[U]at this;omega
    ·exact V _ _ ⟨sv,2,qZ,rfl,D.alloc _,λ_=>hi0 qZ,λ_=>t⟩ (by simp)
   ·have g1:=R.1 (hi0 qZ);have g2:=U.1 (hi1 qZ);have C:¬(MP<X.q\/Y.q< -MP\/MF<X.b\/Y.b< -MF):=qZ;have q:=λf=>u f;simp only[X,Y]at C;simp only[aZ C]at q;have hXW:=D.keep hX6 id;have hYW:=D.keep hY6 id;simp[go_sem,fy hXW];have okX:(S.putP X).Ok:=G.putP ⟨by grind,hc.2⟩ ⟨by simp only[X,MP];omega,by grind⟩ ⟨by simp only[X,MF];omega,by simp only[X,MF]at g1|-;omega⟩ (Ao O.1);have okY:((S.putP X).putP Y).Ok:=okX.putP ⟨by grind,hc.2⟩ ⟨by grind,by simp only[Y,MP];omega⟩ ⟨by grind,by simp only[Y,MF];omega⟩ (Ao (S:=S) O.2);refine Kh (p:=X) qW okX λw7 q7 m7=>?_;have hne:¬F (w4.heap.size+1):=λh=>by have:=h0.lt h;have:=m14.size;omega
    have hY7:=m7.keep hYW hne;simp[go_sem,fy hY7];refine Kh (p:=Y) q7 okY λw8 q8 m8=>?_;exact q w8 q8 ((((Q.trans D).to).trans m7).trans m8)
section
variable{κ ν:Type} [DecidableEq κ]
def JH{A B:List (κ×ν)}(c:(A.map (·.1)).Nodup)(b:(B.map (·.1)).Nodup)(h:∀k,lk A k=lk B k):A.Perm B:=by
 have nd:∀L:List (κ×ν),(L.map (·.1)).Nodup->L.Nodup:=λL d=>by
  rw[List.Nodup,fD]at d;exact d.imp λa e=>a (by rw[e])
 refine(List.perm_ext_iff_of_nodup (nd A c) (nd B b)).2 λ⟨k,v⟩=>?_;rw[<-lk_iff c,<-lk_iff b,h]
def H5{R:List (κ×ν)}(b:(R.map (·.1)).Nodup){i:Nat}{p:κ×ν}(h:R[i]? =some p):((R.eraseIdx i).map (·.1)).Nodup/\lk R p.1=some p.2/\lk (R.eraseIdx i) p.1=none/\∀k,k≠p.1->lk (R.eraseIdx i) k=lk R k:=by
 have hp:=oY h;have a:((p::R.eraseIdx i).map (·.1)).Nodup:=(hp.map _).nodup_iff.1 b;simp only[cM,dA]at a;refine⟨a.2,by rw[lk_perm b hp];simp[lk],rR a.1,λk c=>?_⟩;rw[lk_perm b hp];simp[lk,kG c]
def wm(A R C:List (κ×ν)):Prop:=(R.map (·.1)).Nodup/\∀k,(lk R k).or (lk C k)=lk A k
def wm.step{A R C:List (κ×ν)}(h:wm A R C){i:Nat}{p:κ×ν}(hi:R[i]? =some p):wm A (R.eraseIdx i) (put C p.1 p.2):=by
 obtain⟨b,c⟩:=h;obtain⟨a,d,g,f⟩:=H5 b hi;refine⟨a,λk=>?_⟩;rw[sn];by_cases e:k=p.1
 ·grind
 ·grind
def wm.done{A C:List (κ×ν)}(h:wm A [] C)(a:(A.map (·.1)).Nodup)(hC:(C.map (·.1)).Nodup):C.Perm A:=
 JH hC a λk=>by have:=h.2 k;simpa [lk]using this
end
def Led.empty:Led:=⟨0,[],[]⟩
def Led.empty_ok:Led.empty.Ok where
 fund:=by simp[Led.empty,MF]
 sa:=List.Pairwise.nil
 sp:=List.Pairwise.nil
 len:=by simp[Led.empty]
 acc:=by simp[Led.empty]
 pos:=by simp[Led.empty]
def OL(j:∀d l F,lA d l F Led.empty->M0 w d->(∀b,F b->w.heap.size<=b)->K (iG l) d):Ca pQ 50 #[] w K:=by
 apply az0;simp[go_sem];have o:=fB.new (enc:=iI) (ev:=oz) w;refine kV (enc:=iI) (ev:=oz) (x:=0) (v:=⟨0,0,false,false⟩) vh rP o λa k h e=>?_;have n:M0 w a:=lm.on h λb i=>gz;have m:a.heap.size=w.heap.size+1:=by rw[e,eG]
 (try simp[go_sem])
 generalize c:(a.alloc (.map #[] 0)).alloc _=g;have f:M0 a g:=by subst c;exact lm.alloc _
 refine j g (a.heap.size+1) (λb=>b=a.heap.size+1\/b=w.heap.size\/b=a.heap.size) ⟨⟨w.heap.size,a.heap.size,_,[],?_,k.mod f id,?_,?_,fw _,λ_=>fd,qZ,qZ,qZ⟩,Led.empty_ok⟩ (n.trans f) λb i=>by omega
 ·subst c;simp[go_sem,m]
 ·subst c;exact(fB.new (enc:=l9) (ev:=tn) a).mod ((de.refl (λ_=>False) _).alloc _) id
 ·exact fw _
def rV(h:lA w l F S)(hK:∀q e F',lA q e F' S->M0 w q->(∀b,F' b->w.heap.size<=b)->K (iG e) q):Ca pQ 46 #[iG l] w K:=by
 have h0:=h;obtain⟨⟨m1,m2,A,B,h1,U,Z,h4,h5,h6,h7⟩,hok⟩:=h;apply aE5;apply pU h0;simp[go_sem];refine OL λw1 e F' q1 n1 f1=>?_;obtain⟨⟨k1,k2,A',B',c1,c2,c3,c4,c5,c6,c7⟩,-⟩:=q1;have hk1:w.heap.size<=k1:=f1 k1 ((c6 k1).2 (.inr (.inl rfl)));have hk2:w.heap.size<=k2:=f1 k2 ((c6 k2).2 (.inr (.inr rfl)));have hl' :w.heap.size<=e:=f1 e ((c6 e).2 (.inl rfl));have e1:=n1.keep h1 id;have hlm1:=U.lt;have hlm2:=Z.lt;simp[go_sem,iG,fy e1];refine sw vh (U.mod n1 id) λw2 T n2=>?_;generalize hg:w1.heap.size=N at T;have hitl:=cB c1;have hc2l:=c2.lt;have hc3l:=c3.lt
 refine Bt (λs W=>∃(R C:List (Int×Ac)),s=()/\nD iI oz W N m1 R/\fB iI oz W k1 C/\wm A R C/\de (λb=>b=N\/b=k1) w1 W)
  (λs W=>rm N m1 W) ⟨A,A',rfl,T,c2.mod n2 id,⟨U.1,λk=>?_⟩,n2.to⟩ ?_
 ·have hA' :∀k,lk A' k=Led.empty.getO k:=λk=>lA.lkA c2 c4 k;rw[hA' k,lA.lkA U h4];unfold Led.getO;by_cases M:k=0
  ·simp[M]
  ·simp only[aZ M];cases S.find k<;>simp[Led.find,Led.empty]
 rintro _ W ⟨R,C,rfl,E,cW,Q,mW⟩ KN hKN;unfold WO;intro _;refine uv E ?_ ?_
 ·intro M q J hh;subst M;have j:de (λb=>b=N\/b=k1) w1 q:=mW.trans (J.to);have e1' :=j.keep e1 (by have:=cB h1;omega);simp[go_sem,fy e1'];have mF:M0 w q:=n1.on j λb a=>.inr (by grind);refine sw DZ (Z.mod mF id) λw4 X n4=>?_;generalize hg4:q.heap.size=o at X;have cA:=((Q.done U.1 cW.1).trans h4)
  have cW4:=(cW.mod J id).mod n4 id
  have hjt:N<o/\k1<o/\k2<o/\e<o:=by
   have:=j.size;have:=E.lt.2;have:=J.size;omega
  have m:hC w4 e #[.map (some k1),.map (some k2)] 133:=n4.keep (j.keep c1 qZ) id
  refine Bt (λs W=>∃(R C:List ((Int×Int)×Po)),s=()/\nD l9 tn W o m2 R/\fB l9 tn W k2 C/\wm B R C/\de (λb=>b=o\/b=k2) w4 W)
   (λs W=>rm o m2 W) ⟨B,B',rfl,X,(c3.mod j qZ).mod n4 id,⟨Z.1,λk=>?_⟩,lX⟩ ?_
  ·have hB' :∀k,lk B' k=Led.empty.pos? k:=λk=>lA.lkP c3 c5 k;rw[hB' k];cases lk B k<;>simp[Led.pos?,Led.empty]
  rintro _ W5 ⟨R5,C5,rfl,u,H,t,I⟩ KN5 P;unfold Vm;intro _;refine uv u ?_ ?_
  ·intro M d c hh'';subst M;simp[go_sem];have g:de (λb=>b=o\/b=k2) w4 d:=I.trans (c.to);refine hK d e F' ⟨⟨k1,k2,C,C5,g.keep m qZ,cW4.mod g qZ,H.mod c id,cA,(t.done Z.1 H.1).trans h5,c6,c7⟩,hok⟩ (mF.on ((n4.to (G:=λb=>b=o\/b=k2)).trans g) λb a=>.inr (by grind)) f1
  ·intro i p V d L f c hsz;simp[go_sem];apply sg f;have r:=(I.on c λb a=>.inl (.inl a)).keep m (by grind);have hlt:=cB r;have y:e≠d.heap.size:=qZ;have Y:e≠d.heap.size+1:=qZ;simp[go_sem,tn,l9,iG,fy r,y,Y];generalize z:World.drew _=w6;have D:M0 d w6:=by subst z;exact(lm.alloc _).drew
   refine kV (enc:=l9) (ev:=tn) (x:=p.1) (v:=p.2) DZ SM ((H.mod c (by grind)).mod D id) λw7 hA O hs7=>?_;have n:nD l9 tn w7 o m2 (R5.eraseIdx i):=(L.mod D id id).mod O qZ qZ;apply P _ _ ⟨_,_,rfl,n,hA,t.step V,((I.on c λb a=>.inl (.inl a)).on D λ_ h=>h.elim).on O λb a=>.inl (.inr a)⟩;rw[n.left,u.left,kP];have:i<R5.length:=(cP.1 V).1;rw[bZ this];omega
 ·intro i p V q L f J hsz;simp[go_sem];apply sg f;have m:=(mW.on J λb a=>.inl (.inl a)).keep c1 (by grind);have hlt:=cB m;have y:e≠q.heap.size:=qZ;simp[go_sem,oz,iI,iG,fy m,y];generalize z:World.drew _=w6;have D:M0 q w6:=by subst z;exact lm.drew
  refine kV (enc:=iI) (ev:=oz) (x:=p.1) (v:=p.2) vh rP ((cW.mod J (by grind)).mod D id) λw7 hA O hs7=>?_;have n:nD iI oz w7 N m1 (R.eraseIdx i):=(L.mod D id id).mod O qZ qZ;apply hKN _ _ ⟨_,_,rfl,n,hA,Q.step V,((mW.on J λb a=>.inl (.inl a)).on D λ_ h=>h.elim).on O λb a=>.inl (.inr a)⟩;rw[n.left,E.left,kP];have:i<R.length:=(cP.1 V).1;rw[bZ this];omega
end Go.Proofs
set_option maxRecDepth 100000
namespace Go.Proofs
open Go Go.Vc
section
variable{a b c:Vt_}{W:Wt_}{Z:cG}
def ON(a:cG)(b:Vt_)(c:T1)(d:Wt_):=NV->cV c.1 (a (gT (gI 0) (gI 6)) d) (a (gT b (gI 0)) d)
def aq7(D:gb .sub 2 false a b W λc d=>jW (λe=>gb .geq 2 true a (gI 0) d λf g=>cV f (gb .lss 2 true b (gI 0) g λh i=>cV h (gb .lss 2 true c (gI 0) i λj k=>cV j (e (bT,()) k) (gb .lss 2 true a (gI 0) k λl m=>cV l (gb .geq 2 true b (gI 0) m λn o=>cV n (gb .geq 2 true c (gI 0) o λp q=>e (p,()) q) (e (bF,()) o)) (e (bF,()) m))) (gb .lss 2 true a (gI 0) i λr s=>cV r (gb .geq 2 true b (gI 0) s λt u=>cV t (gb .geq 2 true c (gI 0) u λv w=>e (v,()) w) (e (bF,()) u)) (e (bF,()) s))) (gb .lss 2 true a (gI 0) g λx y=>cV x (gb .geq 2 true b (gI 0) y λz A=>cV z (gb .geq 2 true c (gI 0) A λB C=>e (B,()) C) (e (bF,()) A)) (e (bF,()) y))) (ON Z c)):Ca pQ 246 #[a,b] W Z:=cj Tryz.func246 D
def Rl(a b:Vt_)(c:cG)(d:T3)(e:Wt_)(f:T3->Wp):=gc d.2.2.1 a e λg h=>cV g (uB 306 b d.2.2.1 2 h λi j=>gr (convert 2 24 i) j λk l=>rnx pQ 235 [d.1,k,(gQ 0)] l λm n=>nR m n λo p q=>gb .shr 2 true i (gQ 63) q λr s=>gr (convert 24 2 p) s λt u=>gb .add 2 false r t u λv w=>gb .add 2 false d.2.1 v w λx y=>g1 d.2.2.1 y λz A=>f (o,x,z,()) A) (gr (convert 24 2 d.1) h λB C=>gb .shr 2 true B (gQ 63) C λD E=>gb .neq 2 false d.2.1 D E λF G=>cV F (c (gT (gI 0) (gI 6)) G) (gr (convert 24 2 d.1) G λH I=>c (gT H (gI 0)) I))
def ap5(h:gn 306 false a W λb c=>qC (Rl b a Z) ((gQ 0),(gI 0),(gI 0),()) c):Ca pQ 196 #[a] W Z:=cj Tryz.func196 h
def Pc(a b c:Vt_)(d:cG)(e:T1)(f:Wt_)(g:T1->Wp):=gc e.1 a f λh i=>cV h (uB 307 b e.1 3 i λj k=>uB 306 c j 2 k λl m=>gb .add 2 true l (gI 1) m λn o=>gi 306 c j o λp q=>gs 2 p n q λr=>g1 e.1 r λs t=>g (s,()) t) (d (gT c (gI 0)) i)
def OI(a b c d e f g:Vt_)(h:cG)(i:T2)(j:Wt_)(k:T2->Wp):=gc i.2.1 a j λl m=>cV l (uB 306 b i.2.1 2 m λn o=>gr (convert 2 24 c) o λp q=>gr (convert 2 24 n) q λr s=>Ca pQ 240 #[p,r] s λt u=>nR t u λv w x=>gr (convert 2 24 d) x λy z=>Ca pQ 241 #[v,w,y] z λA B=>nR A B λC D E=>eP 49 e E.drew λF=>gw (convert 24 2 C) E.drew λG=>mf 306 f i.2.1 λH=>gs 2 H G E.drew λI=>gk 49 e F I/\(mf 49 F i.2.1 λJ=>gs 24 J D I λK=>mf 307 g i.2.1 λL=>gs 3 L i.2.1 K λM=>gb .sub 24 false i.1 C M λN O=>g1 i.2.1 O λP Q=>k (N,P,()) Q)) (Ca pQ 242 #[g,(.func (.func 243) #[] #[e])] m λR S=>gr (Instr.sliceAt 307 g none (some i.1) none) S λT U=>gn 307 false T U λV X=>qA (Pc V T f h) ((gI 0),()) X)
def Sb(a:cG)(b c:Vt_)(d:T1)(e:Wt_):=NV->cV d.1 (a (gT (.slice none 0 0) (gI 2)) e) (Ca pQ 196 #[b] e λf g=>nR f g λh i j=>gE i j λk l=>cV k (a (gT (.slice none 0 0) i) l) (gn 306 false b l λm n=>gx (Ak 306 m m) n λo p=>gb .eql 2 true c (gI 0) p λq r=>cV q (a (gT o (gI 0)) r) (gb .eql 2 true h (gI 0) r λs t=>cV s (a (gT (.slice none 0 0) (gI 10)) t) (gn 306 false b t λu v=>gx (Ak 49 u u) v λw x=>gv 49 w x λy z=>gr (convert 2 24 c) z λA B=>gn 306 false b B λC D=>gx (Ak 307 C C) D λE F=>gn 306 false b F λG H=>qB (OI G b c h y o E a) (A,(gI 0),()) H))))
def ac9(l:gn 306 false b W λc d=>gb .gtr 3 true c (gI 1000) d λe f=>cV e (Z (gT (.slice none 0 0) (gI 3)) f) (jW (λg=>gb .lss 2 true a (gI 0) f λh i=>cV h (g (bT,()) i) (Ca pQ 238 #[b,(.func (.func 239) #[] #[])] i λj k=>g (j,()) k)) (Sb Z b a))):Ca pQ 200 #[a,b] W Z:=cj Tryz.func200 l
def ah7(h:gb .lss 2 true a (gI 0) W Z):Ca pQ 239 #[a] W Z:=cj Tryz.func239 h
def as1(r:eP 49 c W.drew λd=>mf 49 d a λe=>eP 24 e W.drew λf=>eP 49 c W.drew λg=>mf 49 g b λh=>eP 24 h W.drew λi=>my .gtr 24 false f i λj=>cV j (Z (gI (-1)) W.drew) (eP 49 c W.drew.drew λk=>mf 49 k a λl=>eP 24 l W.drew.drew λm=>eP 49 c W.drew.drew λn=>mf 49 n b λo=>eP 24 o W.drew.drew λp=>my .lss 24 false m p λq=>cV q (Z (gI 1) W.drew.drew) (Z (gI 0) W.drew.drew))):Ca pQ 243 #[a,b,c] W Z:=cj Tryz.func243 r
def Z9(h:gb .geq 2 false a b W λd e=>cV d (gb .leq 2 false a c e Z) (Z bF e)):Ca pQ 119 #[a,b,c] W Z:=cj Tryz.func119 h
def ap1(h:Ca pQ 119 #[b,(gI 1),(gI 10000000)] W λc d=>cV c (gb .rem 2 false b a d λe f=>gb .eql 2 true e (gI 0) f Z) (Z bF d)):Ca pQ 120 #[a,b] W Z:=cj Tryz.func120 h
def Vu(a:Vt_)(b:cG)(c:Vt_)(d:T4)(e:Wt_)(f:T4->Wp):=NV->gb .lss 3 true d.2.2.2.1 (gI 16) e λg h=>cV g (gr (Instr.index 25 a d.2.2.2.1) h λi j=>Ca pQ 108 #[i,(gI 10000000)] j λk l=>gt k l λm n=>cV m (b bF n) (cV d.2.1 (cV d.2.2.1 (g1 d.2.2.2.1 n λo p=>f (d.1,bT,bT,o,()) p) (gb .lss 2 true i (gI 0) n λq r=>g1 d.2.2.2.1 r λs t=>f (d.1,bT,q,s,()) t)) (gb .gtr 2 true i (gI 0) n λu v=>cV d.2.2.1 (g1 d.2.2.2.1 v λw x=>f (d.1,u,bT,w,()) x) (gb .lss 2 true i (gI 0) v λy z=>g1 d.2.2.2.1 z λA B=>f (d.1,u,y,A,()) B)))) (cV d.2.1 (cV d.2.2.1 (dz 27 c 0 23 h λC D=>gb .neq 23 true C (gU 0) D λE F=>cV E (dz 27 c 1 5 F λG H=>gr (convert 5 2 G) H λI J=>Ca pQ 119 #[I,(gI 1),(gI 8)] J λK L=>cV K (dz 27 c 2 2 L λM N=>Ca pQ 119 #[M,(gI 1),(gI 10000000)] N λO P=>cV O (dz 27 c 3 2 P λQ R=>Ca pQ 119 #[Q,(gI 1),(gI 1000000)] R λS T=>cV S (dz 27 c 4 2 T λU V=>Ca pQ 119 #[U,(gI 0),(gI 10000000)] V λX Y=>cV X (dz 27 c 5 2 Y λaa ab=>Ca pQ 119 #[aa,(gI 1),(gI 10000000)] ab λac ad=>cV ac (dz 27 c 7 2 ad λae af=>Ca pQ 119 #[ae,(gI 0),(gI 10000000)] af λag ah=>cV ag (dz 27 c 2 2 ah λai aj=>dz 27 c 9 2 aj λak al=>Ca pQ 120 #[ai,ak] al b) (b bF ah)) (b bF ad)) (b bF Y)) (b bF T)) (b bF P)) (b bF L)) (b bF F)) (b bF h)) (b bF h))
def aA1(h:gq 27 a W λb c=>gf 27 b 6 c λd e=>gx (fH 25 d) e λf g=>qD (Vu f Z b) (bF,bF,bF,(gI 0),()) g):Ca pQ 81 #[a] W Z:=cj Tryz.func81 h
def ai4(k:gq 27 a W λc d=>gx (fH 27 c) d λe f=>Ca pQ 81 #[e] f λg h=>cV g (dz 27 c 2 2 h λi j=>Ca pQ 120 #[i,b] j Z) (Z bF h)):Ca pQ 109 #[a,b] W Z:=cj Tryz.func109 k
def ao1(o:gq 27 a W λc d=>gx (fH 27 c) d λe f=>Ca pQ 81 #[e] f λg h=>cV g (Ca pQ 119 #[b,(gI 1),(gI 1000000)] h λi j=>cV i (dz 27 c 3 2 j λk l=>gb .rem 2 false b k l λm n=>gb .eql 2 true m (gI 0) n Z) (Z bF j)) (Z bF h)):Ca pQ 208 #[a,b] W Z:=cj Tryz.func208 o
def ZA(s:gq 27 a W λd e=>Ca pQ 246 #[c,b] e λf g=>nR f g λh i j=>gx (fH 27 d) j λk l=>Ca pQ 81 #[k] l λm n=>cV m (gb .eql 43 true i (gI 0) n λo p=>cV o (dz 27 d 4 2 p λq r=>Ca pQ 108 #[h,q] r Z) (Z bF p)) (Z bF n)):Ca pQ 209 #[a,b,c] W Z:=cj Tryz.func209 s
def ab2(h:gb .geq 2 true a (gI 0) W λb c=>cV b (gb .leq 2 true a (gI 1000000000) c Z) (Z bF c)):Ca pQ 207 #[a] W Z:=cj Tryz.func207 h
def ah1(N:gq 272 a W λb c=>dz 272 b 5 4 c λd e=>cV d (dz 272 b 2 2 e λf g=>dz 272 b 3 2 g λh i=>gb .add 2 false f h i λj k=>dz 272 b 7 2 k λl m=>gb .add 2 false j l m λn o=>gf 272 b 0 o λp q=>gf 83 p 0 q λr s=>dz 27 r 5 2 s λt u=>gb .gtr 2 false n t u Z) (dz 272 b 2 2 e λv w=>dz 272 b 4 2 w λx y=>gb .sub 2 false v x y λz A=>dz 272 b 7 2 A λB C=>gb .sub 2 false z B C λD E=>gf 272 b 0 E λF G=>gf 83 F 0 G λH I=>dz 27 H 5 2 I λJ K=>gr (Op.unary .neg J) K λL M=>gb .lss 2 false D L M Z)):Ca pQ 210 #[a] W Z:=cj Tryz.func210 N
def P1(a:cG)(b c:Vt_)(d:T1)(e:Wt_):=NV->cV d.1 (a (gI 2) e) (gx (fH 27 b) e λf g=>dz 272 c 7 2 g λh i=>Ca pQ 208 #[f,h] i λj k=>gt j k λl m=>cV l (a (gI 123) m) (gx (fH 27 b) m λn o=>dz 272 c 6 2 o λp q=>Ca pQ 109 #[n,p] q λr s=>gt r s λt u=>cV t (a (gI 52) u) (gx (fH 27 b) u λv w=>gf 272 c 0 w λx y=>dz 83 x 2 2 y λz A=>dz 272 c 6 2 A λB C=>Ca pQ 209 #[v,z,B] C λD E=>gt D E λF G=>cV F (a (gI 124) G) (gx (fH 272 c) G λH I=>Ca pQ 210 #[H] I λJ K=>cV J (a (gI 125) K) (a (gI 0) K)))))
def ar0(h0:gq 272 a W λb c=>gf 272 b 0 c λd e=>gf 83 d 0 e λf g=>gx (fH 27 f) g λh i=>gx (nE 27) i λj k=>nj pQ (jH 27 j h) k λl=>gf 272 b 1 l λm n=>dz 70 m 3 4 n λo p=>cV o (Z (gI 120) p) (gf 272 b 1 p λq r=>dz 70 q 2 4 r λs t=>cV s (Z (gI 121) t) (gf 272 b 0 t λu v=>dz 83 u 1 81 v λw x=>gb .eql 81 true w (gB 3) x λy z=>cV y (Z (gI 50) z) (gf 272 b 0 z λA B=>dz 83 A 1 81 B λC D=>gb .eql 81 true C (gB 2) D λE F=>cV E (Z (gI 122) F) (jW (λG=>gf 272 b 0 F λH I=>dz 83 H 1 81 I λJ K=>gb .neq 81 true J (gB 1) K λL M=>cV L (G (L,()) M) (gx (fH 27 j) M λN O=>gf 272 b 0 O λP Q=>dz 83 P 2 2 Q λR S=>Ca pQ 109 #[N,R] S λT U=>gt T U λV X=>cV V (G (V,()) X) (dz 272 b 3 2 X λY aa=>Ca pQ 207 #[Y] aa λab ac=>gt ab ac λad ae=>cV ad (G (ad,()) ae) (dz 272 b 4 2 ae λaf ag=>Ca pQ 207 #[af] ag λah ai=>gt ah ai λaj ak=>cV aj (G (aj,()) ak) (dz 272 b 2 2 ak λal am=>Ca pQ 108 #[al,(gI 10000000)] am λan ao=>gt an ao λap aq=>G (ap,()) aq))))) (P1 Z j b)))))):Ca pQ 172 #[a] W Z:=cj Tryz.func172 h0
def as6(z:gq 74 a W λb c=>dz 74 b 0 24 c λd e=>gb .neq 24 true d (gQ 0) e λf g=>cV f (dz 74 b 1 23 g λh i=>gb .neq 23 true h (gU 0) i λj k=>cV j (dz 74 b 3 2 k λl m=>gb .geq 2 true l (gI 1) m λn o=>cV n (dz 74 b 3 2 o λp q=>gb .leq 2 true p (gI 10000000) q λr s=>cV r (dz 74 b 4 2 s λt u=>gb .geq 2 true t (gI 1) u λv w=>cV v (dz 74 b 4 2 w λx y=>gb .leq 2 true x (gI 1000000) y Z) (Z bF w)) (Z bF s)) (Z bF o)) (Z bF k)) (Z bF g)):Ca pQ 110 #[a] W Z:=cj Tryz.func110 z
def am6(h:gr (Instr.build 188 #[(0,bT),(1,a)]) W λb c=>gq 188 b c Z):Ca pQ 127 #[a] W Z:=cj Tryz.func127 h
def an8(h:gb .neq 142 true a (.pointer none) W λb c=>cV b (ez a λd=>dz 188 d 0 4 c Z) (Z bF c)):Ca pQ 107 #[a] W Z:=cj Tryz.func107 h
def ah9(h:ez a λd=>dz 188 d 1 4 W λe f=>cV e (gb .gtr 2 false b c f Z) (gb .lss 2 false b c f Z)):Ca pQ 215 #[a,b,c] W Z:=cj Tryz.func215 h
def ao9(h:gq 24 b W λc d=>ez a λe=>dz 188 e 2 95 d λf g=>Ca pQ 138 #[f,(.func (.func 257) #[] #[c])] g Z):Ca pQ 245 #[a,b] W Z:=cj Tryz.func245 h
def ad3(i:gq 74 a W λc d=>dz 74 c 0 24 d λe f=>gl 24 b f λg h=>gb .eql 24 false e g h Z):Ca pQ 257 #[a,b] W Z:=cj Tryz.func257 i
def PC(a b:Vt_)(c:cG)(d:T1)(e:Wt_):=NV->eP 142 a e.drew λf=>eP 142 a e.drew λg=>ez g λh=>kg 188 h 2 λi=>eP 95 i e.drew λj=>eP 74 b e.drew λk=>gx (jQ 95 1 [(0,k)]) e.drew λl m=>gk 95 i j m/\gk 142 a g m/\gk 142 a f m/\(Ca pQ 248 #[j,d.1,l] m λn o=>gk 142 a f o/\(ez f λp=>kg 188 p 2 λq=>gs 95 q n o λr=>c (gI 0) r))
def Rj(a:cG)(b c:Vt_)(d:T1)(e:Wt_):=NV->cV d.1 (a (gI 2) e) (gl 142 b e λf g=>dz 74 c 0 24 g λh i=>Ca pQ 245 #[f,h] i λj k=>gb .geq 3 true j (gI 0) k λl m=>cV l (a (gI 8) m) (gl 142 b m λn o=>ez n λp=>dz 188 p 2 95 o λq r=>gn 95 false q r λs t=>gb .geq 3 true s (gI 100) t λu v=>cV u (a (gI 9) v) (gl 142 b v λw x=>ez w λy=>dz 188 y 2 95 x λz A=>Ca pQ 138 #[z,(.func (.func 247) #[] #[b,c])] A λB C=>jW (λD=>gb .lss 3 true B (gI 0) C λE F=>cV E (gl 142 b F λG H=>ez G λI=>dz 188 I 2 95 H λJ K=>gn 95 false J K λL M=>D (L,()) M) (D (B,()) F)) (PC b c a))))
def ac4(w:gq 142 a W λc d=>gq 74 b d λe f=>gl 142 c f λg h=>Ca pQ 107 #[g] h λi j=>gt i j λk l=>cV k (Z (gI 1) l) (jW (λm=>eP 74 e l.drew λn=>Ca pQ 110 #[n] l.drew λo p=>gp (Op.unary .not o) λq=>cV q (m (bT,()) p) (gY 74 e 2 4 p λr=>eP 142 c p λs=>ez s λt=>gY 188 t 1 4 p λu=>my .neq 4 false r u λv=>m (v,()) p)) (Rj Z c e))):Ca pQ 214 #[a,b] W Z:=cj Tryz.func214 w
def am3(l:gq 74 a W λd e=>gl 142 b e λf g=>dz 74 c 3 2 g λh i=>dz 74 d 3 2 i λj k=>Ca pQ 215 #[f,h,j] k Z):Ca pQ 247 #[a,b,c] W Z:=cj Tryz.func247 l
def Rm(a:Vt_)(b:cG)(c:Vt_)(d:T1)(e:Wt_):=NV->cV d.1 (gr (Instr.build 74 #[]) e λf g=>gs 74 a f g λh=>eP 74 a h λi=>b (gT i bF) h) (ez c λj=>dz 188 j 2 95 e λk l=>uB 95 k (gI 0) 74 l λm n=>gs 74 a m n λo=>eP 74 a o λp=>b (gT p bT) o)
def ZS(p:ga 74 W λb c=>jW (λd=>Ca pQ 107 #[a] c λe f=>gt e f λg h=>cV g (d (bT,()) h) (ez a λi=>dz 188 i 2 95 h λj k=>gn 95 false j k λl m=>gb .eql 3 true l (gI 0) m λn o=>d (n,()) o)) (Rm b Z a)):Ca pQ 211 #[a] W Z:=cj Tryz.func211 p
def Jg(a b:Vt_)(c:cG)(d:Unit)(e:Wt_):=NV->gl 74 a e λf g=>gs 74 b f g λh=>eP 74 b h λi=>c (gT i (gI 0)) h
def PL(a:Vt_)(b:cG)(c d:Vt_)(e:T1)(f:Wt_):=NV->cV e.1 (gr (Instr.build 74 #[]) f λg h=>gs 74 a g h λi=>eP 74 a i λj=>b (gT j (gI 2)) i) (ez c λk=>dz 188 k 2 95 f λl m=>gi 95 l (gI 0) m λn o=>dz 74 n 4 2 o λp q=>gb .sub 2 false p d q λr s=>gi 95 l (gI 0) s λt u=>qM 74 t 4 2 r u λv=>ez c λw=>dz 188 w 2 95 v λx y=>uB 95 x (gI 0) 74 y λz A=>gv 74 z A λB C=>dK (S:=Unit) (λD=>dz 74 B 4 2 C λE F=>gb .eql 2 true E (gI 0) F λG H=>cV G (ez c λI=>dz 188 I 2 95 H λJ K=>Ca pQ 140 #[J,(gI 0),(gI 1)] K λL M=>ez c λN=>qM 188 N 2 95 L M λO=>D (()) O) (D (()) H)) (Jg B a b))
def as7(J:ga 74 W λc d=>Ca pQ 107 #[a] d λe f=>gt e f λg h=>cV g (gr (Instr.build 74 #[]) h λi j=>gs 74 c i j λk=>eP 74 c k λl=>Z (gT l (gI 1)) k) (ez a λm=>dz 188 m 2 95 h λn o=>gn 95 false n o λp q=>gb .eql 3 true p (gI 0) q λr s=>cV r (gr (Instr.build 74 #[]) s λt u=>gs 74 c t u λv=>eP 74 c v λw=>Z (gT w (gI 7)) v) (jW (λx=>gb .lss 2 true b (gI 1) s λy z=>cV y (x (bT,()) z) (ez a λA=>dz 188 A 2 95 z λB C=>gi 95 B (gI 0) C λD E=>dz 74 D 4 2 E λF G=>gb .gtr 2 false b F G λH I=>x (H,()) I)) (PL c Z a b)))):Ca pQ 213 #[a,b] W Z:=cj Tryz.func213 J
def ah3(k:Ca pQ 107 #[a] W λc d=>gt c d λe f=>cV e (Z (gT (gI 0) (gI 1)) f) (Ca pQ 245 #[a,b] f λg h=>gb .geq 3 true g (gI 0) h λi j=>cV i (Z (gT g (gI 0)) j) (Z (gT (gI 0) (gI 7)) j))):Ca pQ 205 #[a,b] W Z:=cj Tryz.func205 k
def Zz(J:ga 74 W λc d=>Ca pQ 205 #[a,b] d λe f=>nR e f λg h i=>gE h i λj k=>cV j (gr (Instr.build 74 #[]) k λl m=>gs 74 c l m λn=>eP 74 c n λo=>Z (gT o h) n) (ez a λp=>dz 188 p 2 95 k λq r=>uB 95 q g 74 r λs t=>gv 74 s t λu v=>ez a λw=>dz 188 w 2 95 v λx y=>g1 g y λz A=>Ca pQ 140 #[x,g,z] A λB C=>ez a λD=>qM 188 D 2 95 B C λE=>gl 74 u E λF G=>gs 74 c F G λH=>eP 74 c H λI=>Z (gT I (gI 0)) H)):Ca pQ 170 #[a,b] W Z:=cj Tryz.func170 J
def O5(a:cG)(b c d:Vt_)(e:T1)(f:Wt_):=NV->cV e.1 (a (gI 2) f) (ez b λg=>dz 188 g 2 95 f λh i=>gi 95 h c i λj k=>qM 74 j 4 2 d k λl=>a (gI 0) l)
def ao0(w:Ca pQ 205 #[a,b] W λd e=>nR d e λf g h=>gE g h λi j=>cV i (Z g j) (jW (λk=>gb .lss 2 true c (gI 1) j λl m=>cV l (k (bT,()) m) (ez a λn=>dz 188 n 2 95 m λo p=>gi 95 o f p λq r=>dz 74 q 4 2 r λs t=>gb .gtr 2 false c s t λu v=>k (u,()) v)) (O5 Z a f c))):Ca pQ 173 #[a,b,c] W Z:=cj Tryz.func173 w
def ai0(w:ga 74 W λc d=>Ca pQ 205 #[a,b] d λe f=>nR e f λg h i=>gE h i λj k=>cV j (gr (Instr.build 74 #[]) k λl m=>gs 74 c l m λn=>eP 74 c n λo=>Z (gT o h) n) (ez a λp=>dz 188 p 2 95 k λq r=>uB 95 q g 74 r λs t=>gs 74 c s t λu=>eP 74 c u λv=>Z (gT v (gI 0)) u)):Ca pQ 204 #[a,b] W Z:=cj Tryz.func204 w
def Re(a b c d:Vt_)(e:Nat)(f:LV_)(g:Wt_)(h:Wp)(i:Code->Wp):=gv 74 (f.getD 0 undef) g λj k=>lC e k λl=>gl 142 a l λm n=>gl 2 b n λo p=>dz 74 j 3 2 p λq r=>Ca pQ 215 #[m,o,q] r λs t=>cV s (i (.exit 0) t) (dz 74 j 1 23 t λu v=>gl 23 c v λw x=>gb .neq 23 false u w x λy z=>cV y (gl 2 d z λA B=>dz 74 j 4 2 B λC D=>gb .add 2 false A C D λE F=>gs 2 d E F h) (h z))
def Jo(a:Vt_)(b:cG)(c:List Nat)(d:Option Code)(e:Wt_):=iJ (λf=>gl 2 a f λg h=>gs 2 a g h λi=>lj (c++[]) i λj=>eP 2 a j λk=>b k j) (λl=>lj (c++[]) l λm=>eP 2 a m λn=>b n m) (λo p=>bc (Nat.beq o 0) (gl 2 a p λq r=>gs 2 a q r λs=>lj (c++[]) s λt=>eP 2 a t λu=>b u t) (False)) d e
def ag8(p:gq 142 a W λd e=>gq 2 b e λf g=>gq 23 c g λh i=>ga 2 i λj k=>gl 142 d k λl m=>Ca pQ 58 #[l] m λn o=>yP pQ none n o 1 (Re d f h j) (Jo j Z)):Ca pQ 178 #[a,b,c] W Z:=cj Tryz.func178 p
def aA5(h:gq 142 a W λb c=>Z (.func (.func 106) #[] #[b]) c):Ca pQ 58 #[a] W Z:=cj Tryz.func58 h
def OC(a b c:Vt_)(d:cG)(e:T1)(f:Wt_)(g:T1->Wp):=gc e.1 a f λh i=>cV h (uB 95 b e.1 74 i λj k=>gv 74 j k λl m=>gl 74 l m λn o=>iv pQ c [n] o λp q=>gt p q λr s=>cV r (d (.tuple #[]) s) (g1 e.1 s λt u=>g (t,()) u)) (d (.tuple #[]) i)
def aq4(r:gl 142 b W λc d=>Ca pQ 107 #[c] d λe f=>gt e f λg h=>cV g (Z (.tuple #[]) h) (gl 142 b h λi j=>ez i λk=>dz 188 k 2 95 j λl m=>Ca pQ 48 #[l] m λn o=>gn 95 false n o λp q=>qA (OC p n a Z) ((gI 0),()) q)):Ca pQ 106 #[a,b] W Z:=cj Tryz.func106 r
def aj4(i:Ca pQ 107 #[a] W λb c=>gt b c λd e=>cV d (Z (gI 0) e) (ez a λf=>dz 188 f 2 95 e λg h=>gn 95 false g h Z)):Ca pQ 179 #[a] W Z:=cj Tryz.func179 i
def aa1(n:Ca pQ 107 #[a] W λb c=>gt b c λd e=>cV d (Z (.pointer none) e) (ez a λf=>kg 188 f 1 λg=>eP 4 g e.drew λh=>ez a λi=>gY 188 i 2 95 e.drew λj=>Ca pQ 48 #[j] e.drew λk l=>gk 4 g h l/\(gp (Instr.build 188 #[(0,bT),(1,h),(2,k)]) λm=>gq 188 m l Z))):Ca pQ 105 #[a] W Z:=cj Tryz.func105 n
def JD(a b c:Vt_)(d:cG)(e:T2)(f:Wt_)(g:T2->Wp):=gc e.2.1 a f λh i=>cV h (uB 95 b e.2.1 74 i λj k=>iv pQ c [j] k λl m=>cV l (d e.2.1 m) (g1 e.2.1 m λn o=>g (e.1,n,()) o)) (d (gI (-1)) i)
def WG(h:gn 95 false a W λc d=>qB (JD c a b Z) ((gI 0),(gI 0),()) d):Ca pQ 138 #[a,b] W Z:=cj Tryz.func138 h
def ag2(h0:gr (Instr.sliceAt 95 a (some b) none none) W λd e=>gn 95 false c e λf g=>gb .eql 3 true f (gI 0) g λh i=>cV h (Z a i) (gn 95 false a i λj k=>gb .eql 3 false b j k λl m=>cV l (gx (eg #[95,95] 95 [a,c]) m Z) (gb .add 3 false j f m λn o=>rn pQ (builtin .cap #[95] 3 #[false] #[a]) o λp q=>gb .gtr 3 false n p q λr s=>cV r (gr (Instr.sliceAt 95 a none (some b) none) s λt u=>gb .add 3 false j f u λv w=>gb .sub 3 false v b w λx y=>gx (eg #[95,3] 95 [t,x]) y λz A=>gr (Instr.sliceAt 95 z (some b) none none) A λB C=>gx (vY #[95,95] 3 [B,c]) C λD E=>my .add 3 false b f λF=>gp (Instr.sliceAt 95 z (some F) none none) λG=>gp (Instr.sliceAt 95 a (some b) none none) λH=>gx (vY #[95,95] 3 [G,H]) E.drew λI J=>Z z J) (gb .add 3 false j f s λK L=>gr (Instr.sliceAt 95 a none (some K) none) L λM N=>gb .add 3 false b f N λO P=>gr (Instr.sliceAt 95 M (some O) none none) P λQ R=>rnx pQ 258 [c,Q] R λS T=>gt S T λU V=>cV U (my .add 3 false b f λX=>gp (Instr.sliceAt 95 M (some X) none none) λY=>gp (Instr.sliceAt 95 M (some b) none none) λaa=>gx (vY #[95,95] 3 [Y,aa]) V.drew λab ac=>gr (Instr.sliceAt 95 M (some b) none none) ac λad ae=>gx (vY #[95,95] 3 [ad,c]) ae λaf ag=>Z M ag) (gr (Instr.sliceAt 95 M (some j) none none) V λah ai=>gx (vY #[95,95] 3 [ah,c]) ai λaj ak=>gr (Instr.sliceAt 95 M (some b) none none) ak λal am=>Ca pQ 259 #[al,f] am λan ao=>Z M ao))))):Ca pQ 248 #[a,b,c] W Z:=cj Tryz.func248 h0
def ap8(v:gn 95 false a W λd e=>gr (Instr.sliceAt 95 a (some b) (some c) (some d)) e λf g=>gb .eql 3 false b c g λh i=>cV h (Z a i) (gn 95 false a i λj k=>gp (Instr.sliceAt 95 a none (some b) none) λl=>gp (Instr.sliceAt 95 a (some c) none none) λm=>gx (eg #[95,95] 95 [l,m]) k.drew λn o=>gn 95 false n o λp q=>gr (Instr.sliceAt 95 n (some p) (some j) none) q λr s=>gx (Ay #[95] 0 [r]) s λt u=>Z n u)):Ca pQ 140 #[a,b,c] W Z:=cj Tryz.func140 v
def au9(h:gb .eql 95 true a (.slice none 0 0) W λb c=>cV b (Z (.slice none 0 0) c) (gx (jQ 95 0 []) c λd e=>gx (eg #[95,95] 95 [d,a]) e Z)):Ca pQ 48 #[a] W Z:=cj Tryz.func48 h
end
end Go.Proofs
namespace Go.Proofs
open Go Go.Vc
attribute [local congr] cR
variable {n:Int}{i:Nat}{w:Wt_}{K:cG}
abbrev jl(n:Int):Prop:= -9223372036854775808<=n/\n<9223372036854775808
abbrev pL(n:Int):Prop:=0<=n/\n<4294967296
abbrev P6(n:Int):Prop:=0<=n/\n<18446744073709551616
structure Sp where
 num:Int
 route:Int
 tick:Int
 lot:Int
 band:Int
 limit:Int
 shifts:Vector Int 16
 credit:Int
 last:Int
 first:Int
 deriving DecidableEq
variable {s:Sp}
def Sp.Fit(s:Sp):Prop:=pL s.num/\(0<=s.route/\s.route<256)/\jl s.tick/\jl s.lot/\jl s.band/\jl s.limit/\(∀x∈s.shifts.toList,jl x)/\jl s.credit/\pL s.last/\jl s.first
def xD(s:Vector Int 16):List Value:=s.toList.map λn=>gI n
def jA(s:Sp):List Value:=[.int .u32 s.num,gB s.route,gI s.tick,gI s.lot,gI s.band,gI s.limit]++(xD s.shifts++[.int .i64 s.credit,gU s.last,gI s.first])
def rh(s:Vector Int 16):(xD s).length=16:=by simp[xD]
def dP(s:Sp):(jA s).length=25:=by simp[jA,rh]
def xS(s:Sp):(jA s).all (·.oneCell')=true:=by simp[jA,xD,Value.oneCell']
def xK(s:Sp):((jA s).drop 6).take 16=xD s.shifts:=by
 simp only[jA];rw[eZ (by simp)];simp only[List.drop_succ_cons,List.drop_nil,iw,jO];rw[dh (by rw[rh];omega),cT (by rw[rh];omega)]
def spG{a:LV_}(hi:i<3):(jA s++a)[22+i]? =([.int .i64 s.credit,gU s.last,gI s.first]:LV_)[i]? :=by
 rw[dC (by rw[dP];omega)];simp only[jA];rw[cQ (by simp;omega)];rw[cQ (by rw[rh];simp;omega)];congr 1;rw[rh];simp;omega
def au5(s:Sp)(a:LV_):(jA s++a)[0]? =some (gU s.num):=rfl
def aE6(s:Sp)(a:LV_):(jA s++a)[1]? =some (gB s.route):=rfl
def ay8(s:Sp)(a:LV_):(jA s++a)[2]? =some (gI s.tick):=rfl
def az4(s:Sp)(a:LV_):(jA s++a)[3]? =some (gI s.lot):=rfl
def ax4(s:Sp)(a:LV_):(jA s++a)[4]? =some (gI s.band):=rfl
def av9(s:Sp)(a:LV_):(jA s++a)[5]? =some (gI s.limit):=rfl
def WJ(s:Sp)(a:LV_):(jA s++a)[22]? =some (gI s.credit):=spG (i:=0) qZ
def aq2(s:Sp)(a:LV_):(jA s++a)[23]? =some (gU s.last):=spG (i:=1) qZ
def Xa(s:Sp)(a:LV_):(jA s++a)[24]? =some (gI s.first):=spG (i:=2) qZ
def CG(tick n:Int):Bool:=amongB n 1 MP&& decide (n.tmod tick=0)
def xH(l:List Int):Bool:=l.all λx=>amongB x (-MP) MP
def Sp.may(s:Sp):Bool:=
 xH s.shifts.toList&& s.shifts.toList.any (λx=>decide (0<x))&& s.shifts.toList.any (λx=>decide (x<0))&& decide (s.num≠0)&& amongB s.route 1 8&& amongB s.tick 1 MP&& amongB s.lot 1 1000000&& amongB s.band 0 MP&& amongB s.limit 1 MP&& amongB s.credit 0 MP&& CG s.tick s.first
def Sp.isPrice(s:Sp)(n:Int):Bool:=s.may&& CG s.tick n
def Sp.isQty(s:Sp)(n:Int):Bool:=s.may&& (amongB n 1 1000000&& decide (n.tmod s.lot=0))
def Sp.inBand(s:Sp)(at_ n:Int):Bool:=s.may&& (decide (jl (n - at_))&& amongB (n - at_) (-s.band) s.band)
def pT{lo hi:Int}(a:K (.bool (amongB n lo hi)) w):Ca pQ 119 #[.int .i64 n,gI lo,gI hi] w K:=by
 apply Z9;unfold amongB at a;by_cases h:lo<=n
 ·simp[go_sem,h]at a|-;exact a
 ·simp[go_sem,h]at a|-;exact a
def Ef{tick:Int}(d:0<tick)(a:K (.bool (CG tick n)) w):Ca pQ 120 #[.int .i64 tick,gI n] w K:=by
 apply ap1;apply pT;unfold CG MP at a;have b:¬tick=0:=qZ;cases h:amongB n 1 10000000 with
 |false=>
  rw[h]at a;simpa using a
 |true=>
  rw[h]at a;have k:=dR h;simp[go_sem,b]at a|-
  have e:IntKind.i64.wrap (n.tmod tick)=n.tmod tick:=by
   have j:=Int.emod_nonneg n b;have g:=Int.emod_lt_of_pos n d;have f:n.tmod tick=n%tick:=kv qZ
   have i:n%tick<=n:=by
    by_cases c:n<tick
    ·rw[Int.emod_eq_of_lt qZ c];omega
    ·omega
   rw[f,wI_]
  first
   |exact a
   |(rw[e];exact a)
   |(simpa [e]using a)
def uSh:Tryz.prog.underlying 25=some (.array 16 2):=cU
def Y2:pY pQ 25=true:=cU
def Y4:Tryz.prog.cellsOf 25=15+1:=cU
def Ys:pY pQ 2=false:=cU
def Xm:(Tryz.prog.underlying 2).isSome=true:=cU
def Yt:Tryz.prog.cellsOf 2=0+1:=cU
def DW:pY pQ 27=true:=cU
def Cc:Tryz.prog.cellsOf 27=24+1:=cU
def Fa(s:Vector Int 16)(i:Nat)(h:i<16):(xD s).toArray[i]? =some (gI s.toList[i]!):=by
 have a:s.toList.length=16:=by simp
 simp[xD,cE,a,h]
def QZ{l:List Int}{p:Int->Bool}(h:i<l.length):(l.take (i+1)).all p=((l.take i).all p&& p l[i]!):=by
 rw[kL,cE h,gj];simp[h]
def GB{l:List Int}{p:Int->Bool}(h:i<l.length):(l.take (i+1)).any p=((l.take i).any p||p l[i]!):=by
 rw[kL,cE h,List.any_append];simp[h]
def vP(hf:s.Fit)(X:∀H,M0 w H->K (.bool s.may) H):Ca pQ 81 #[.agg (jA s).toArray] w K:=by
 apply aA1;obtain⟨p,q⟩:=dW w.heap.size;have O:M0 w (w.alloc (.cells (jA s).toArray 27)):=lm;apply cx (pt p 0) (w.alloc (.cells (jA s).toArray 27)) (by rw[q];rfl);have d:hC (w.alloc (.cells (jA s).toArray 27)) p (jA s).toArray 27:=by rw[q];simp[go_sem]
 generalize w.alloc (.cells (jA s).toArray 27)=C at O d|-;refine qS0 ?_
 have Y:At C p 6 (xD s.shifts):=by
  have F:At C p 0 (jA s):=⟨_,_,_,d,by simp,by simp⟩
  have:=F.sub 6 16 (by rw[dP];omega);rw[xK]at this;simpa using this
 apply jq (xD s.shifts) 15 Y2 Y4 (rh _) Y;have hl:s.shifts.toList.length=16:=by simp
 obtain⟨f1,f2,f3,f4,f5,f6,V,f8,f9,U⟩:=hf;have a:∀i:Nat,(jA s)[i]? =(jA s++[])[i]? :=λi=>by grind
 refine eS (λst W=>∃(i:Nat) (x:Vt_),i<=16/\st=(x,.bool ((s.shifts.toList.take i).any λx=>decide (0<x)),.bool ((s.shifts.toList.take i).any λx=>decide (x<0)),gI i,())/\W=C/\xH (s.shifts.toList.take i)=true)
  (λst _=>match st.2.2.2.1 with| .int _ i=>16 - i.toNat|_=>0) ⟨0,.bool false,qZ,rfl,rfl,rfl⟩ ?_
 rintro⟨_,_⟩ W ⟨i,x,hi,⟨⟩,rfl,g⟩ T E;unfold Vu;intro _;by_cases l:i<16
 ·have m:(i:Int)<16:=qZ;have f:i<s.shifts.toList.length:=qZ
  have hx:jl s.shifts.toList[i]! :=by
   rw[jP s.shifts.toList i f];exact V _ (cC f)
  refine qSt1 m ?_;apply cx (gI s.shifts.toList[i]!) W (vD uSh Ys Xm Yt l (Fa _ i l));generalize N:s.shifts.toList[i]! =y at*;apply lH hx qZ;have Z:IntKind.i64.wrap ((i:Int)+1)=((i+1:Nat):Int):=by rw[wI_];omega
  refine qS0 ?_;cases I:amongB y (-10000000) 10000000 with
  |false=>
   rw[cy,bZ (show(!false)=true from rfl)]
   have:s.may=false:=by
    have v:xH s.shifts.toList=false:=by
     rw[kI];intro hc;have:=(dF.1 hc) y (by grind);unfold MP at this;rw[I]at this;cases this
    unfold Sp.may;rw[v];simp
   have e:=X _ O;rw[this]at e;exact e
  |true=>
   rw[cy,aZ (by simp)]
   have k:xH (s.shifts.toList.take (i+1))=true:=by
    unfold xH;rw[QZ f,N];show(xH _&& _)=true;rw[g];simpa [MP]using I
   have j:∀(z:Vt_),T (z,.bool ((s.shifts.toList.take (i+1)).any λx=>decide (0<x)),.bool ((s.shifts.toList.take (i+1)).any λx=>decide (x<0)),gI ((i+1:Nat):Int),()) W:=λz=>
    E _ _ ⟨i+1,z,qZ,rfl,rfl,k⟩ (by grind)
   rw[GB f,GB f,N]at j;cases A:(s.shifts.toList.take i).any λx=>decide (0<x)<;>cases t:(s.shifts.toList.take i).any λx=>decide (x<0)
   all_goals
    rw[A,t]at j;simp only[cy,dE,eW,fh];simp[-Int.natCast_add,go_sem,Z];simpa using j _
 ·obtain rfl:i=16:=qZ;rw[cT qZ]at g;rw[cT qZ];refine qSf0 ?_;have c:∀b:Bool,b=s.may->K (.bool b) W:=λb h=>by grind
  unfold Sp.may at c;rw[g]at c;cases A:s.shifts.toList.any λx=>decide (0<x)with
  |false=>
   rw[gP];apply c _;rw[A];simp
  |true=>
   rw[A]at c;rw[kx];cases t:s.shifts.toList.any λx=>decide (x<0)with
   |false=>
    rw[gP];apply c _;rw[t];simp
   |true=>
    rw[t]at c;rw[kx];have g0:(jA s).toArray[0]? =some (gU s.num):=by rw[eX,a];exact au5 s []
    have g1:(jA s).toArray[1]? =some (gB s.route):=by rw[eX,a];exact aE6 s []
    have u:(jA s).toArray[2]? =some (gI s.tick):=by rw[eX,a];exact ay8 s []
    have S:(jA s).toArray[3]? =some (gI s.lot):=by rw[eX,a];exact az4 s []
    have M:(jA s).toArray[4]? =some (gI s.band):=by rw[eX,a];exact ax4 s []
    have R:(jA s).toArray[5]? =some (gI s.limit):=by rw[eX,a];exact av9 s []
    have r:(jA s).toArray[22]? =some (gI s.credit):=by rw[eX,a];exact WJ s []
    have o:(jA s).toArray[24]? =some (gI s.first):=by rw[eX,a];exact Xa s []
    refine qS2 d g0 ?_;refine qS2 d g0 ?_;by_cases B:s.num=0
    ·refine qSf1 B ?_;refine c _ (by simp[B])
    have G:decide (s.num≠0)=true:=by simpa using B
    rw[G]at c;refine qSt1 B ?_;refine qS2 d g1 ?_;refine qS2 d g1 ?_;refine qS1 (uP (n:=s.route) qZ qZ) ?_;apply pT;cases v:amongB s.route 1 8 with
    |false=>rw[gP];exact c _ (by rw[v];simp)
    |true=>
    rw[v]at c;rw[kx];refine qS2 d u ?_;refine qS2 d u ?_;apply pT;unfold MP at c;cases D:amongB s.tick 1 10000000 with
    |false=>rw[gP];exact c _ (by rw[D];simp)
    |true=>
    rw[D]at c;rw[kx];refine qS2 d S ?_;refine qS2 d S ?_;apply pT;cases P:amongB s.lot 1 1000000 with
    |false=>rw[gP];exact c _ (by rw[P];simp)
    |true=>
    rw[P]at c;rw[kx];refine qS2 d M ?_;refine qS2 d M ?_;apply pT;cases J:amongB s.band 0 10000000 with
    |false=>rw[gP];exact c _ (by rw[J];simp)
    |true=>
    rw[J]at c;rw[kx];refine qS2 d R ?_;refine qS2 d R ?_;apply pT;cases L:amongB s.limit 1 10000000 with
    |false=>rw[gP];exact c _ (by rw[L];simp)
    |true=>
    rw[L]at c;rw[kx];refine qS2 d r ?_;refine qS2 d r ?_;apply pT;cases Q:amongB s.credit 0 10000000 with
    |false=>rw[gP];exact c _ (by rw[Q];simp)
    |true=>
    rw[Q]at c;rw[kx];refine qS2 d u ?_;refine qS2 d u ?_;refine qS2 d o ?_;refine qS2 d o ?_;have ht:=dR D;apply Ef qZ;exact c _ (by simp)
def Qa(s:Sp):(jA s)[0]? =some (gU s.num):=rfl
def aw1(s:Sp):(jA s)[2]? =some (gI s.tick):=rfl
def aC3(s:Sp):(jA s)[3]? =some (gI s.lot):=rfl
def ay3(s:Sp):(jA s)[4]? =some (gI s.band):=rfl
def EN(s:Sp)(w:Wt_):∃a,(Instr.box 27 (.agg (jA s).toArray)).run pQ w=.ok (pt w.heap.size 0) a/\hC a w.heap.size (jA s).toArray 27/\M0 w a:=
 ⟨w.alloc (.cells (jA s).toArray 27),rfl,by simp[go_sem],(de.refl _ w).alloc _⟩
def At.all{b:Nat}{l:LV_}{T:TypeId}{fz:Nat×Nat}(h:hp w b=some (.cells l.toArray T fz)):At w b 0 l:=⟨_,_,_,h,by simp,by simp⟩
def Sp.may_tick(h:s.may=true):1<=s.tick/\1<=s.lot/\0<=s.band/\1<=s.limit/\s.limit<=10000000/\s.band<=10000000/\s.lot<=1000000/\s.tick<=10000000:=by
 unfold Sp.may amongB MP at h;simp only[cL,dN]at h;omega
def wL(h:s.Fit)(a:∀e,M0 w e->K (.bool (s.isPrice n)) e):Ca pQ 109 #[.agg (jA s).toArray,gI n] w K:=by
 apply ai4;obtain⟨j,i,d,g⟩:=EN s w;apply cI i;apply jq (jA s) 24 DW Cc (dP s) (At.all d);refine vP h λk c=>?_;have f:=c.hpk d id;unfold Sp.isPrice at a;cases b:s.may with
 |false=>
  rw[b]at a;rw[gP];exact a _ (g.trans c)
 |true=>
  rw[b]at a;rw[kx];refine qS1 f ?_;refine qS2 f aw1 ?_;apply Ef (by have:=Sp.may_tick b;omega);exact a _ (g.trans c)
def Ro(l:s.Fit)(a:∀i,M0 w i->K (.bool (s.isQty n)) i):Ca pQ 208 #[.agg (jA s).toArray,gI n] w K:=by
 apply ao1;obtain⟨r,o,g,c⟩:=EN s w;apply cI o;apply jq (jA s) 24 DW Cc (dP s) (At.all g);refine vP l λq b=>?_;have k:=b.hpk g id;unfold Sp.isQty at a;cases f:s.may with
 |false=>
  rw[f]at a;rw[gP];exact a _ (c.trans b)
 |true=>
  rw[f]at a;rw[kx];apply pT;have h:=Sp.may_tick f;have j:¬s.lot=0:=qZ;cases d:amongB n 1 1000000 with
  |false=>
   rw[d]at a;rw[gP];exact a _ (c.trans b)
  |true=>
   rw[d]at a;have p:=dR d;rw[kx];refine qS1 k ?_;refine qS2 k aC3 ?_
   have e:IntKind.i64.wrap (n.tmod s.lot)=n.tmod s.lot:=by
    have u:=Int.emod_nonneg n j;have t:=Int.emod_lt_of_pos n (show 0<s.lot by omega);have m:n.tmod s.lot=n%s.lot:=kv qZ;rw[m,wI_]
   refine qS2 j e ?_;apply cx (.bool (decide (n.tmod s.lot=0))) q (by simp[go_sem];rw[iC];simp);have:=a _ (c.trans b);simpa using this
def Yg{a b:Int}(m:jl a)(l:jl b)(h:K (.tuple #[.int .i64 (if jl (a - b)then a - b else 0),gI (if jl (a - b)then 0 else 6)]) w):Ca pQ 246 #[.int .i64 a,gI b] w K:=by
 apply aq7;obtain⟨c,i⟩:=dW (IntKind.i64.wrap (a - b));apply cx (gI c) w (by rw[i];simp[go_sem]);rw[eF]at i;refine dK.at (λst W=>st=(.bool (decide (¬jl (a - b))),())/\W=w) ?_ ?_
 ·by_cases j:0<=a
  ·refine qSt1 j ?_;have d:¬a<0:=qZ;by_cases f:b<0
   ·refine qSt1 f ?_;by_cases k:c<0
    ·refine qSt1 k ?_;refine⟨?_,rfl⟩;rw[db (by unfold jl;omega)]
    ·refine qSf1 k ?_;refine qSf1 d ?_;refine⟨?_,rfl⟩;rw[ej (by unfold jl;omega)]
   ·refine qSf1 f ?_;refine qSf1 d ?_;refine⟨?_,rfl⟩;rw[ej (by unfold jl;omega)]
  ·refine qSf1 j ?_;have d:a<0:=qZ;refine qSt1 d ?_;by_cases f:0<=b
   ·refine qSt1 f ?_;refine qS0 ?_;refine⟨?_,rfl⟩;have e:decide (0<=c)=decide (¬jl (a - b)):=by grind
    rw[e]
   ·refine qSf1 f ?_;refine⟨?_,rfl⟩;rw[ej (by unfold jl;omega)]
 rintro _ w ⟨rfl,rfl⟩;unfold ON;intro _;by_cases g:jl (a - b)
 ·rw[bZ g,bZ g]at h;rw[cy,aZ (by simpa using g)];rw[i,show(a - b+9223372036854775808)%18446744073709551616 - 9223372036854775808=a - b by grind];exact h
 ·rw[aZ g,aZ g]at h;rw[cy,bZ (by grind)];exact h
def Nn{at_:Int}(i:s.Fit)(l:jl at_)(j:jl n)(a:∀g,M0 w g->K (.bool (s.inBand at_ n)) g):Ca pQ 209 #[.agg (jA s).toArray,gI at_,gI n] w K:=by
 apply ZA;obtain⟨m,k,f,d⟩:=EN s w;apply cI k;apply Yg j l;refine qS0 ?_;refine qS0 ?_;apply jq (jA s) 24 DW Cc (dP s) (At.all f);refine vP i λp c=>?_;have h:=c.hpk f id;unfold Sp.inBand at a;cases e:s.may with
 |false=>
  rw[e]at a;rw[gP];exact a _ (d.trans c)
 |true=>
  rw[e]at a;rw[kx];have o:=Sp.may_tick e;by_cases b:jl (n - at_)
  ·rw[db b]at a;rw[bZ b,bZ b];refine qSt0 ?_;refine qS1 h ?_;refine qS2 h ay3 ?_;apply lH b qZ;exact a _ (d.trans c)
  ·rw[ej b]at a;rw[aZ b,aZ b];refine qSf0 ?_;exact a _ (d.trans c)
structure Ct where
 spec:Sp
 st:Int
 price:Int
 deriving DecidableEq
def Ct.Fit(k:Ct):Prop:=k.spec.Fit/\(0<=k.st/\k.st<256)/\jl k.price
def fI(k:Ct):List Value:=jA k.spec++[.int .u8 k.st,gI k.price]
def eE(k:Ct):(fI k).length=27:=by simp[fI,dP]
def sy(k:Ct):(fI k).all (·.oneCell')=true:=by
 rw[fI,gj,xS];rfl
def WW(k:Ct)(a:LV_):(fI k++a)[25]? =some (gB k.st):=by
 rw[dC (by rw[eE];omega),fI,cQ (by rw[dP];omega),dP];rfl
def VD(k:Ct)(a:LV_):(fI k++a)[26]? =some (gI k.price):=by
 rw[dC (by rw[eE];omega),fI,cQ (by rw[dP];omega),dP];rfl
structure Gt where
 k:Ct
 a:Ac
 q:Int
 buys:Int
 sells:Int
 buy:Bool
 price:Int
 qty:Int
def BE(g:Gt):List Value:=fI g.k++(dH g.a++[.int .i64 g.q,gI g.buys,gI g.sells,.bool g.buy,gI g.price,gI g.qty])
def zS(g:Gt):(BE g).length=37:=by simp[BE,eE,dH]
def U5(g:Gt)(i:Nat)(h:i<10):(BE g)[27+i]? =(dH g.a++[.int .i64 g.q,gI g.buys,gI g.sells,.bool g.buy,gI g.price,gI g.qty])[i]? :=by
 rw[BE,cQ (by rw[eE];omega),eE,jN]
def gt5(g:Gt):(BE g)[5]? =some (gI g.k.spec.limit):=rfl
def YW(g:Gt):(BE g)[25]? =some (gB g.k.st):=WW _ _
def al2(g:Gt):(BE g)[26]? =some (gI g.k.price):=VD _ _
def aE4(g:Gt):(BE g)[29]? =some (.bool g.a.kil):=U5 g 2 qZ
def ax9(g:Gt):(BE g)[30]? =some (.bool g.a.dfl):=U5 g 3 qZ
def Ye(g:Gt):(BE g)[31]? =some (gI g.q):=U5 g 4 qZ
def ZQ(g:Gt):(BE g)[32]? =some (gI g.buys):=U5 g 5 qZ
def al6(g:Gt):(BE g)[33]? =some (gI g.sells):=U5 g 6 qZ
def aB9(g:Gt):(BE g)[34]? =some (.bool g.buy):=U5 g 7 qZ
def af2(g:Gt):(BE g)[35]? =some (gI g.price):=U5 g 8 qZ
def Yu(g:Gt):(BE g)[36]? =some (gI g.qty):=U5 g 9 qZ
def Gt.far(g:Gt):Bool:=if g.buy then decide (g.k.spec.limit<g.q+g.buys+g.qty)else decide (g.q - g.sells - g.qty< -g.k.spec.limit)
def Gt.check(g:Gt):Int:=
 if g.a.dfl then 120 else if g.a.kil then 121 else if g.k.st=3 then 50 else if g.k.st=2 then 122
 else if g.k.st≠1\/¬g.k.spec.isPrice g.k.price\/¬amongB g.buys 0 1000000000\/¬amongB g.sells 0 1000000000\/¬amongB g.q (-MP) MP then 2
 else if¬g.k.spec.isQty g.qty then 123 else if¬g.k.spec.isPrice g.price then 52 else if¬g.k.spec.inBand g.k.price g.price then 124 else if g.far then 125 else 0
def Gt.Fit(g:Gt):Prop:=g.k.Fit/\jl g.q/\jl g.buys/\jl g.sells/\jl g.price/\jl g.qty
def aGt:pY pQ 272=true:=cU
def nGt:Tryz.prog.cellsOf 272=36+1:=cU
def VS(g:Gt)(w:Wt_):∃a,(Instr.box 272 (.agg (BE g).toArray)).run pQ w=.ok (pt w.heap.size 0) a/\hC a w.heap.size (BE g).toArray 272/\M0 w a:=
 ⟨w.alloc (.cells (BE g).toArray 272),rfl,by simp[go_sem],(de.refl _ w).alloc _⟩
def IC(a:K (.bool (amongB n 0 1000000000)) w):Ca pQ 207 #[.int .i64 n] w K:=by
 apply ab2;unfold amongB at a;by_cases h:0<=n
 ·simp[go_sem,h]at a|-;exact a
 ·simp[go_sem,h]at a|-;exact a
def SX{g:Gt}(c:amongB g.q (-MP) MP=true)(e:amongB g.buys 0 1000000000=true)(h:amongB g.sells 0 1000000000=true)(f:amongB g.qty 1 1000000=true)(m:1<=g.k.spec.limit/\g.k.spec.limit<=10000000)
  (b:∀d,M0 w d->K (.bool g.far) d):Ca pQ 210 #[.agg (BE g).toArray] w K:=by
 apply ah1;have c:=dR c;have e:=dR e;have h:=dR h;have f:=dR f;unfold MP at c;obtain⟨l,j,a,k⟩:=VS g w;have b:=b _ k;unfold Gt.far at b;apply cI j;refine qS1 a ?_;refine qS2 a aB9 ?_;cases i:g.buy with
 |true=>
  rw[i,bZ rfl]at b;rw[kx];refine qS1 a ?_;refine qS2 a Ye ?_;refine qS1 a ?_;refine qS2 a ZQ ?_;refine qS1 (uP (n:=g.q+g.buys) qZ qZ) ?_;refine qS1 a ?_;refine qS2 a Yu ?_;refine qS1 (uP (n:=g.q+g.buys+g.qty) qZ qZ) ?_;refine qS1 a ?_;refine qS1 a ?_;refine qS1 a ?_;refine qS2 a gt5 ?_;refine qS0 ?_;exact b
 |false=>
  rw[i,aZ gL]at b;rw[gP];refine qS1 a ?_;refine qS2 a Ye ?_;refine qS1 a ?_;refine qS2 a al6 ?_;refine qS1 (uP (n:=g.q - g.sells) qZ qZ) ?_;refine qS1 a ?_;refine qS2 a Yu ?_;refine qS1 (uP (n:=g.q - g.sells - g.qty) qZ qZ) ?_;refine qS1 a ?_;refine qS1 a ?_;refine qS1 a ?_;refine qS2 a gt5 ?_;refine qS1 (uP (n:= -g.k.spec.limit) qZ qZ) ?_;refine qS0 ?_;exact b
end Go.Proofs
namespace Go.Vc
open Go Go.Vc
variable {kh kl:IntKind}{sz b n cap hi lo:Nat}{P:Program}{t ty e:TypeId}{w:World}{K:cG}
def Gi{u v:TypeId}{off m:Nat}{C:Array Value}{T:TypeId}{x:Value}{a:List Value}
  (p:P.underlying t=some (.slice e))(y:P.underlying u=some (.slice v))(A:P.cellsOf e=sz+1)(q:w.heap[b]? =some (.cells C T (0,0)))(c:n+m<=cap)
  (j:Rd w (sz+1) x m a)(r:a.all (·.oneCell')=true)(l:off+(n+m)*(sz+1)<=C.size)
  (s:K (.slice (some ⟨b,off,none⟩) (n+m) cap) (w.setRow b (mh C.toList (off+n*(sz+1)) a).toArray)):rx P (eg #[t,u] ty [.slice (some ⟨b,off,none⟩) n cap,x]) w K:=by
 obtain⟨i,z,g⟩:=tC (n:=sz) A;have k:a.length=m*(sz+1):=j.1;have h:=j.first (P:=P) (ri _);have d:=run_storeCells_at P b (off+n*(sz+1)) T a 0 C w q (by grind) (sU r);simp only[dS]at d;refine sq (.slice (some ⟨b,off,none⟩) (n+m) cap) (w.setRow b (mh C.toList (off+n*(sz+1)) a).toArray) ?_ s;have o:(⟨b,off,none⟩:Addr).add (n*(sz+1))=⟨b,off+n*(sz+1),none⟩:=by rw[cS]
 unfold mh;simp[eg,Builtin.append_,dx p,sizeOf,typeInfo,z,g,dx y,j.lenOf,Result.andThen,h,c];rw[o,d];simp[df]
def tI{C sT:TypeId}{g o j r d k:Nat}{q:Value}{all:List Value}{l:Array Value}
  (L:P.underlying C=some (.slice e))(M:P.cellsOf e=sz+1)(E:w.heap[g]? =some (.cells l t (0,0)))(m:Rd w (sz+1) q d all)(A:k=Nat.min d j)
  (B:o+k*(sz+1)<=l.size)(F:all.all (·.oneCell')=true)(H:K (.int .i64 k) (w.setRow g (mh l.toList o (all.take (k*(sz+1)))).toArray)):
  rx P (vY #[C,sT] ty [.slice (some ⟨g,o,none⟩) j r,q]) w K:=by
 obtain⟨i,N,y⟩:=tC (n:=sz) M;have R:all.length=d*(sz+1):=m.1;have u:k<=d:=by grind
 have D:k*(sz+1)<=d*(sz+1):=dM _ u;have s:(all.take (k*(sz+1))).length=k*(sz+1):=by grind
 have z:∀v∈all.take (k*(sz+1)),v.oneCell' =true:=λv O=>sU F v (ek O);have p:=run_storeCells_at P g o t (all.take (k*(sz+1))) 0 l w E (by grind) z;simp only[dS]at p
 have h:(Builtin.firstCells (sz+1) k q).run P w=.ok (all.take (k*(sz+1))).toArray w:=by
  obtain⟨_,⟨Q,a,c,rfl⟩|⟨b,I,G,rfl,T,J⟩⟩:=m
  ·have x:k=0:=qZ;subst x;cases a<;>simp[Builtin.firstCells,loadCells,loadCellsFrom]
  ·have:=(J.sub 0 (k*(sz+1)) qZ).loads (P:=P);simp only[iw,dS,s]at this;simpa [Builtin.firstCells]using this
 refine sq (goInt (Nat.min d j)) (w.setRow g (mh l.toList o (all.take (k*(sz+1)))).toArray) ?_ (by rw[<-A];exact H);rw[A]at h p|-;simp[vY,Builtin.copy_,dx L,m.lenOf,sizeOf,typeInfo,N,y,Result.andThen,h,p,mh]
def Ek{g o c:Nat}{a:Array Value}{T:TypeId}{by_:Nat}(l:P.underlying t=some (.slice e))(y:wd P e (sz+1) by_)
  (p:w.heap[g]? =some (.cells a T (0,0)))(s:o+n*(sz+1)<=a.size)
  (d:∀z:List Value,z.length=n*(sz+1)->z.all (·.oneCell')=true->K (.tuple #[]) (w.setRow g (mh a.toList o z).toArray)):
  rx P (Ay #[t] ty [.slice (some ⟨g,o,none⟩) n c]) w K:=by
 obtain⟨⟨i,z,C,x,v,A,k,h⟩,r,j⟩:=y;have u:(Builtin.zeroCells z.cells n).toList.length=n*(sz+1):=by rw[tv,k]
 have q:=tm h (by grind) n;have d:=d _ u q;have b:=run_storeCells_at P g o T (Builtin.zeroCells z.cells n).toList 0 a w p (by grind) (sU q);simp only[dS]at b;refine sq (.tuple #[]) (w.setRow g (mh a.toList o (Builtin.zeroCells z.cells n).toList).toArray) ?_ d;cases n with
 |zero=>
  have e:(Builtin.zeroCells z.cells 0).toList=[]:=jF (by rw[u];simp);rw[e];have B:=setRow_self w g a T (0,0) p;simp[Ay,Builtin.clear_,dx l,Result.andThen,mh,B]
 |succ m=>simp[Ay,Builtin.clear_,dx l,zeroValue,typeInfo,C,x,Result.andThen,b,mh]
def Bs{u:TypeId}{ku:IntKind}{by_:Nat}{s:Value}{m:Nat}{cs:List Value}
  (U:P.underlying t=some (.slice e))(X:P.underlying u=some (.int ku))(hE:wd P e (sz+1) by_)
  (V:jo w e (sz+1) s n cs)(A:(n+m)*by_<=140737488355328)
  (hK:∀s' R z,z.length=m*(sz+1)->z.all (·.oneCell')=true->jo R e (sz+1) s' (n+m) (cs++z)->de (cK s) w R->(∀b,cK s' b->cK s b\/w.heap.size<=b)->(∀a c,s=.slice a n c->c<n+m->M0 w R/\∀b,cK s' b->w.heap.size<=b)->K s' R):
  rx P (eg #[t,u] ty [s,.int .i64 (m:Int)]) w K:=by
 obtain⟨⟨i,z,Y,hz,p,N,I,T⟩,M,E⟩:=hE;have hneed:n+m<=140737488355328:=dD (qj _ E) A;have hmb:m*by_<=140737488355328:=dD (dM _ qZ) A;have l:cs.length=n*(sz+1):=V.1;have O:(Builtin.zeroCells z.cells m).toList.length=m*(sz+1):=by rw[tv,I]
 have h1:=tm T (by grind) m;have k:IntKind.i64.wrap (m:Int)=(m:Int):=by rw[eF];omega
 have r:¬(m:Int)<0:=qZ
 have y:¬(281474976710656:Int)<(m:Int)*(i.bytes:Int):=by
  rw[N,<-iB];omega
 obtain⟨g,d,hsv,H,x⟩:∃g d,s=.slice g n d/\n<=d/\((g=none/\n=0/\d=0/\cs=[])\/∃b rest,g=some ⟨b,0,none⟩/\w.heap[b]? =some (.cells (cs++rest).toArray e (0,0))/\rest.length=(d - n)*(sz+1)/\rest.all (·.oneCell')=true):=by
  rcases V.2 with⟨rfl,rfl⟩|⟨b,d,rest,rfl,hc,G,hr⟩
  ·grind
  ·grind
 subst hsv;obtain⟨L,W⟩:∃L:Int,(m:Int)=L:=⟨_,rfl⟩
 rw[W];rw[W]at k;have k:IntKind.i64.wrap L=(m:Int):=k.trans W.symm;clear W;generalize hZ:Builtin.zeroCells z.cells m=Z at O h1;by_cases h0:m=0
 ·subst h0;have hZ0:Z= #[]:=lh (by grind);refine sq (.slice g n d) w ?_ (hK _ _ [] (by simp) rfl (by simpa using V) lX (λb A=>.inl A) λa c he J=>by grind);rcases x with⟨rfl,rfl,rfl,rfl⟩|⟨b,rest,rfl,G,B,hr1⟩
  ·simp[eg,Builtin.append_,dx U,sizeOf,typeInfo,Y,p,dx X,Result.andThen,asInt,asIntOf,k]
  ·have j:=run_storeCells_at P b (n*(sz+1)) e [] 0 (cs++rest).toArray w G (by simp[l]) (by simp);simp only[dS]at j;have F:=setRow_self w b (cs++rest).toArray e (0,0) G;have e0:(⟨b,0,none⟩:Addr).add (n*(sz+1))=⟨b,n*(sz+1),none⟩:=by rw[cS];simp
   have hnc:¬d<n:=qZ;simp at j;simp[eg,Builtin.append_,dx U,sizeOf,typeInfo,Y,p,dx X,Result.andThen,asInt,asIntOf,k,H,e0,j];simpa using F
 have Q:¬m*(sz+1)=0:=by
  rw[Nat.mul_eq_zero];omega
 by_cases h:n+m<=d
 ·rcases x with⟨rfl,rfl,rfl,rfl⟩|⟨b,rest,rfl,G,B,hr1⟩
  ·omega
  ·have j:=run_storeCells_at P b (n*(sz+1)) e Z.toList 0 (cs++rest).toArray w G (by
    simp only[eT,cD,l,B,O];have:=dM (sz+1) h;rw[im]at this;rw[qf];omega) (sU h1)
   simp only[dS]at j
   have D:(cs++rest).take (n*(sz+1))++Z.toList++(cs++rest).drop (n*(sz+1)+Z.toList.length)=(cs++Z.toList)++rest.drop Z.toList.length:=by
    rw[<-l];simp[df]
   refine sq (.slice (some ⟨b,0,none⟩) (n+m) d) (w.setRow b ((cs++Z.toList)++rest.drop Z.toList.length).toArray) ?_ (hK _ _ Z.toList O h1 ⟨?_,.inr ⟨b,d,rest.drop Z.toList.length,rfl,h,?_,?_,?_⟩⟩ ?_ ?_ λa c he J=>by grind)
   ·simp only[D]at j;have e0:(⟨b,0,none⟩:Addr).add (n*(sz+1))=⟨b,n*(sz+1),none⟩:=by rw[cS];simp
    simp[eg,Builtin.append_,dx U,sizeOf,typeInfo,zeroValue,hz,Y,p,dx X,Result.andThen,asInt,asIntOf,k,h,e0,r,y,h0,hZ,j];have q:=j;simp at q;rw[aZ Q];simp only;rw[q]
   ·grind
   ·rw[ij,bZ rfl,G]
   ·rw[dV,B,O,<-qf];congr 1;omega
   ·grind
   ·exact(de.refl (cK (.slice (some ⟨b,0,none⟩) n d)) w).setRow (.inl (show cK _ b from rfl)) _
   ·intro b' C;exact .inl C
 ·have hfit:=growslice_fits (old:=d) (need:=n+m) (bytes:=by_) qZ A;have h48:¬(281474976710656<Builtin.nextslicecap (n+m) d*i.bytes):=by rw[N];omega
  have h63:¬(9223372036854775807<((n:Int)+(m:Int))):=qZ;have o:n+m<=grownCap w (n+m) d e:=by simp[grownCap,Question.cut]
  have hrs:Rd w.drew (sz+1) (.slice g n d) n cs:=V.rd.keep λ_ _=>rfl;have hf1:=hrs.first (P:=P) M
  refine iW (v:=.slice (some ⟨w.heap.size,0,none⟩) (n+m) (grownCap w (n+m) d e))
   (w' :=w.drew.alloc (.cells (cs.toArray++Z++Builtin.zeroCells z.cells (grownCap w (n+m) d e - (n+m))) e)) ?_ (hK _ _ Z.toList O h1 ⟨?_,.inr ⟨w.heap.size,_,(Builtin.zeroCells z.cells (grownCap w (n+m) d e - (n+m))).toList,rfl,o,?_,?_,?_⟩⟩ ?_ ?_ λa c he J=>⟨mP.alloc _,λb A=>by cases A;exact cJ _⟩)
  ·simp[eg,Builtin.append_,dx U,sizeOf,typeInfo,zeroValue,Y,hz,p,dx X,Result.andThen,asInt,asIntOf,k,r,y,h0,h,h63,h48,Question.forced,hf1,newRow,grownCap,hZ];rw[aZ Q];rfl
  ·grind
  ·rw[gy,bZ (show w.heap.size=w.drew.heap.size from rfl)];simp
  ·rw[tv,I]
  ·exact tm T (by grind) _
  ·exact mP.alloc _
  ·rintro b' C;cases C;exact .inr (cJ _)
section
variable{α:Type}{f:α->List Value}{S:Nat}
def SN(a:∀x,(f x).length=S):∀(l:List α) (i:Nat),(l.flatMap f).take (i*S)=(l.take i).flatMap f
 | [],i=>by simp
 |x::l,0=>by simp
 |x::l,i+1=>by
  have e:(i+1)*S=(f x).length+i*S:=by grind
  rw[eu,lq,eu,e,lJ,SN a l i]
def Vp(a:∀x,(f x).length=S):∀(l:List α) (i:Nat),(l.flatMap f).drop (i*S)=(l.drop i).flatMap f
 | [],i=>by simp
 |x::l,0=>by simp
 |x::l,i+1=>by
  have e:(i+1)*S=(f x).length+i*S:=by grind
  rw[eu,List.drop_succ_cons,e,<-eN,fj,Vp a l i]
def wT(a:∀x,(f x).length=S)(l:List α):(l.flatMap f).length=l.length*S:=uE f S l λx _=>a x
def MH(a:∀x,(f x).all (·.oneCell')=true)(l:List α):(l.flatMap f).all (·.oneCell')=true:=by
 rw[List.all_flatMap,dF];exact λx _=>a x
def Rd.item{w:World}{v:Value}{n:Nat}{l:List α}(d:∀x,(f x).length=S)(h:Rd w S v n (l.flatMap f)){i:Nat}(hi:i<l.length)(o:n=l.length):
  ∃b c a,v=.slice (some ⟨b,c,none⟩) n a/\n<=a/\At w b (c+i*S) (f l[i]):=by
 obtain⟨m,⟨k,_⟩|⟨b,c,a,rfl,j,e⟩⟩:=h
 ·omega
 ·refine⟨b,c,a,rfl,j,?_⟩;have g:(i+1)*S<=l.length*S:=dM S hi;rw[im]at g;have:=e.sub (i*S) S (by rw[wT d];omega)
  rwa[oB f S l i (λx _=>d x) hi]at this
end
def jo.pos{v:Value}{cs:List Value}(h:jo w e sz v n cs)(d:0<n):
  ∃b a rest,v=.slice (some ⟨b,0,none⟩) n a/\n<=a/\w.heap[b]? =some (.cells (cs++rest).toArray e (0,0))/\rest.length=(a - n)*sz/\(rest.all (·.oneCell')=true):=by
 obtain⟨c,⟨rfl,rfl⟩|h⟩:=h
 ·omega
 ·exact h
def IU(d:P.underlying t=some (.slice e))(g:P.cellsOf e=sz+1)(h:hi<=cap)(i:0<cap)(W:World):
  (Instr.sliceAt t (.slice (some ⟨b,0,none⟩) n cap) none (some (.int kh (hi:Int))) none).run P W=.ok (.slice (some ⟨b,0,none⟩) hi cap) W:=by
 obtain⟨a,c⟩:=sS d;rw[run_sliceAt_slice W t _ _ _ _ a,run_slice_h W t _ n cap a kh hi qZ qZ,c,oK g];simp only[Result.andThen,sliced,kO,nv,lz];rw[aZ qZ,iD,cS]
def YS(c:P.underlying t=some (.slice e))(g:P.cellsOf e=sz+1)(i:lo<=hi)(h:hi<=cap)(j:lo<cap)(W:World):
  (Instr.sliceAt t (.slice (some ⟨b,0,none⟩) n cap) (some (.int kl (lo:Int))) (some (.int kh (hi:Int))) none).run P W=.ok (.slice (some ⟨b,lo*(sz+1),none⟩) (hi - lo) (cap - lo)) W:=by
 obtain⟨a,d⟩:=sS c;rw[run_sliceAt_slice W t _ _ _ _ a,run_slice_lh W t _ n cap a kl kh lo hi qZ qZ qZ,d,oK g];simp only[Result.andThen,sliced,kO];rw[aZ qZ,iD,cS,eU]
def yI(d:P.underlying t=some (.slice e))(g:P.cellsOf e=sz+1)(i:lo<=n)(h:n<=cap)(j:lo<cap)(W:World):
  (Instr.sliceAt t (.slice (some ⟨b,0,none⟩) n cap) (some (.int kl (lo:Int))) none none).run P W=.ok (.slice (some ⟨b,lo*(sz+1),none⟩) (n - lo) (cap - lo)) W:=by
 obtain⟨a,c⟩:=sS d;rw[run_sliceAt_slice W t _ _ _ _ a,run_slice_l W t _ n cap a kl lo qZ qZ,c,oK g];simp only[Result.andThen,sliced,kO];rw[aZ qZ,iD,cS,eU]
def XP{a:Option Addr}{mx:Nat}{km:IntKind}(g:P.underlying t=some (.slice e))(d:P.cellsOf e=sz+1)(j:lo<=hi)(i:hi<=mx)(k:mx<=cap)(W:World):
  ∃v,(Instr.sliceAt t (.slice a n cap) (some (.int kl (lo:Int))) (some (.int kh (hi:Int))) (some (.int km (mx:Int)))).run P W=.ok v W:=by
 obtain⟨b,h⟩:=sS g;have c:=run_slice_lhm W t a n cap b kl kh km lo hi mx qZ qZ qZ qZ;rw[h,oK d]at c;exact⟨_,(run_sliceAt_slice W t _ _ _ _ b).trans c⟩
end Go.Vc
namespace Go.Proofs
open Go Go.Vc
attribute [local congr] cR
variable {s:Vt_}{w:Wt_}{K:cG}
structure Od where
 num:Int
 acct:Int
 buy:Bool
 price:Int
 left:Int
 deriving DecidableEq
variable {l:List Od}
def fL(o:Od):List Value:=[.int .u64 o.num,gU o.acct,.bool o.buy,gI o.price,gI o.left]
def gM(o:Od):(fL o).length=5:=rfl
def pD(o:Od):(fL o).all (·.oneCell')=true:=rfl
def Od.Fit(o:Od):Prop:=P6 o.num/\pL o.acct/\jl o.price/\jl o.left
abbrev pz:TypeId:=74
abbrev Av:TypeId:=95
def mH:Tryz.prog.underlying Av=some (.slice pz):=cU
def B9:Tryz.prog.cellsOf pz=4+1:=cU
def Oh:lN pQ pz 5 32=true:=cU
abbrev qR(w:Wt_)(s:Vt_)(l:List Od):Prop:=jo w pz 5 s l.length (l.flatMap fL)
def ww(h:Rd w 5 s l.length (l.flatMap fL))(q:l.length<=1000000)
  (i:∀d e,qR e d l->M0 w e->(∀b,cK d b->w.heap.size<=b)->K d e):Ca pQ 48 #[s] w K:=by
 apply au9;obtain⟨a,c,f⟩:=h.isSl;by_cases g:a=none
 ·subst g;apply cx (.bool true) w (by rw[f];simp[go_sem]);rw[kx]
  have o:l=[]:=by
   obtain⟨-,⟨p,_⟩|⟨b,n,m,j,_⟩⟩:=h
   ·grind
   ·rw[f]at j;cases j
  subst o;exact i _ _ (jo.nil _ _ _) lX λb k=>by cases k
 ·apply cx (.bool false) w (by rw[f];cases a;exact absurd rfl g;simp[go_sem]);rw[gP];exact af6 mH (eO Oh) h (MH pD l) qZ i
set_option maxRecDepth 10000 in
def vq{i j:Nat}(h:qR w s l)(G:i<j)(E:j<=l.length)(T:l.length<=1000000)
  (I:∀p r,qR r p (l.take i++l.drop j)->de (cK s) w r->(∀b,cK p b->cK s b)->K p r):Ca pQ 140 #[s,gI (i:Int),gI (j:Int)] w K:=by
 obtain⟨b,c,rest,rfl,C,F,N,O⟩:=h.pos qZ;have D:=h.1;apply ap8;refine qN0 ?_;obtain⟨S,u⟩:=XP (P:=pQ) (t:=Av) (a:=some ⟨b,0,none⟩) (n:=l.length) (cap:=c) (lo:=i) (hi:=j) (mx:=l.length) (kl:=.i64) (kh:=.i64) (km:=.i64) mH B9 qZ E C w;apply cI u;have q:¬(i:Int)=(j:Int):=qZ;refine qSf1 q ?_;refine qN0 ?_;apply dw (λW=>IU mH B9 (show i<=c by omega) qZ W);have A:Rd w 5 (.slice (some ⟨b,0,none⟩) l.length c) l.length (l.flatMap fL):=h.rd;obtain⟨R,v,e,-⟩:=Rd.from_ (P:=pQ) (kl:=.i64) (lo:=j) mH B9 A E;apply dw (λW=>v W);simp only[Nat.reduceAdd]at e;rw[Vp gM]at e;have H:((l.drop j).flatMap fL).length=(l.length - j)*5:=by rw[wT gM,dV]
 have o:w.drew.heap[b]? =some (.cells (l.flatMap fL++rest).toArray pz (0,0)):=F;have L:(l.flatMap fL++rest).length=c*5:=by grind
 apply Gi (m:=l.length - j) mH mH B9 o qZ (e.keep λ_ _=>rfl) (MH pD _) (by grind);have B:de (cK (.slice (some ⟨b,0,none⟩) l.length c)) w (w.drew.setRow b (mh (l.flatMap fL++rest) (0+i*5) ((l.drop j).flatMap fL)).toArray):=mP.setRow (.inl (show cK (.slice (some ⟨b,0,none⟩) l.length c) b from rfl)) _
 have k:mh (l.flatMap fL++rest) (0+i*5) ((l.drop j).flatMap fL)=(l.take i++l.drop j).flatMap fL++(l.flatMap fL++rest).drop ((i+(l.length - j))*5):=by
  unfold mh;rw[H,eU,dh (by rw[D];omega),SN gM,eJ,df,df,<-im]
 have g:(w.drew.setRow b (mh (l.flatMap fL++rest) (0+i*5) ((l.drop j).flatMap fL)).toArray).heap[b]? =some (.cells ((l.take i++l.drop j).flatMap fL++(l.flatMap fL++rest).drop ((i+(l.length - j))*5)).toArray pz (0,0)):=by
  rw[ij,bZ rfl,o,k]
 rw[show(l.flatMap fL++rest).toArray.toList=l.flatMap fL++rest from rfl];generalize w.drew.setRow b (mh (l.flatMap fL++rest) (0+i*5) ((l.drop j).flatMap fL)).toArray=W at B g|-;refine qN0 ?_;apply cI (YS mH B9 (show i+(l.length - j)<=l.length by omega) C qZ W)
 have x:((l.take i++l.drop j).flatMap fL).length=(i+(l.length - j))*5:=by
  rw[wT gM,cD,cZ,dV,fS qZ]
 refine Ek mH (eO Oh) g (by grind) λz M J=>?_
 have f:mh ((l.take i++l.drop j).flatMap fL++(l.flatMap fL++rest).drop ((i+(l.length - j))*5)) ((i+(l.length - j))*5) z=(l.take i++l.drop j).flatMap fL++(z++rest):=by
  unfold mh;rw[M,dh (by grind),cT (by grind),<-eN,<-x,fj,df,eN,x];congr 2;rw[show(i+(l.length - j))*5+(l.length - (i+(l.length - j)))*5=(l.flatMap fL).length by rw[D];omega,fj]
 have d:(l.take i++l.drop j).length=i+(l.length - j):=by grind
 refine I _ _ ⟨by rw[x,d],.inr ⟨b,c,z++rest,by rw[d],qZ,?_,?_,?_⟩⟩ (B.setRow (.inl (show cK (.slice (some ⟨b,0,none⟩) l.length c) b from rfl)) _) λQ y=>y
 ·show(W.setRow b (mh ((l.take i++l.drop j).flatMap fL++(l.flatMap fL++rest).drop ((i+(l.length - j))*5)) ((i+(l.length - j))*5) z).toArray).heap[b]? =_;rw[ij,bZ rfl,g,f]
 ·grind
 ·grind
def shp{b:Nat}{C:Array Value}{T:TypeId}{fz:Nat×Nat}(h:w.heap[b]? =some (.cells C T fz)):w.shape? b=some (T,C.size):=by simp[World.shape?,h]
def Ku{b:Nat}{C:Array Value}{T:TypeId}(h:w.heap[b]? =some (.cells C T (0,0)))(i:Nat):w.frozen? ⟨b,i,none⟩=false:=by simp[go_sem,fy h]
def sOd(w:Wt_):(Go.sizeOf pz).run pQ w=.ok 5 w:=Go.Vc.oK B9 w
def XI:Extern.find Tryz.f258=some (Extern.SlicesOverlaps.overlaps #[Av,Av] #[4]):=cU
def GL{v:Vt_}{o:Od}{i:Nat}(h:qR w s l)(hv:qR w v [o])(hd:∀b,cK s b->¬cK v b)(hi:i<=l.length)(hn:l.length<=1000000)
  (hK:∀s' w',qR w' s' (l.take i++o::l.drop i)->de (cK s) w w' ->(∀b,cK s' b->cK s b\/w.heap.size<=b)->K s' w'):Ca pQ 248 #[s,gI (i:Int),v] w K:=by
 obtain⟨M,g,vrest,rfl,hvc,L,hvl,hv1⟩:=hv.pos (by simp);simp only[nP]at hvc hvl
 have n:(l.take i++o::l.drop i).length=l.length+1:=by
  rw[cD,cZ,dc,dV,fS hi];omega
 have T:([o].flatMap fL)=fL o:=by simp
 apply ag2;obtain⟨v0,hv0,-,-⟩:=Rd.from_ (P:=pQ) (kl:=.i64) (lo:=i) mH B9 (h.rd:Rd w (4+1) s l.length (l.flatMap fL)) hi;apply cI (hv0 w);refine qN0 ?_;refine qSf0 ?_;obtain⟨sa,sc,hs,-⟩:=h.isSl;apply jm (gI l.length) w (by rw[hs];simp[go_sem]);by_cases hil:i=l.length
 ·have r:(i:Int)=(l.length:Int):=qZ;refine qSt1 r ?_;refine jR mH mH (eO Oh) h hv.rd (MH pD _) (by grind) λs3 A o3 C n3=>?_;refine hK _ _ ?_ C n3;have:l.take i++o::l.drop i=l++[o]:=by grind
  rw[this];unfold qR;rw[eJ,cD];exact o3
 have r:¬(i:Int)=(l.length:Int):=qZ;refine qSf1 r ?_;obtain⟨b,c,rest,hse,hc,N,hrl,O⟩:=h.pos qZ;clear hs;subst hse;have hne:M≠b:=λe=>hd b rfl (by rw[<-e];rfl);have Y:=h.1;apply cx (gI ((l.length+1:Nat):Int)) w (by simp[go_sem];rw[wI_]);refine qN1 mH ?_;have B:(l.flatMap fL++rest).length=c*5:=by grind
 by_cases hroom:c<l.length+1
 ·have f:(c:Int)<(l.length:Int)+1:=qZ;refine qSt1 f ?_;apply cI (IU mH B9 (show i<=c by omega) qZ w);apply cx (gI ((l.length+1:Nat):Int)) w (by simp[go_sem];rw[wI_]);apply cx (gI ((l.length+1 - i:Nat):Int)) w (by simp only[go_sem];simp;rw[wI_];omega)
  have hOi:jo w pz (4+1) (.slice (some ⟨b,0,none⟩) i c) i ((l.take i).flatMap fL):=by
   refine⟨by rw[wT gM,cZ,fS hi],.inr ⟨b,c,(l.flatMap fL++rest).drop (i*5),rfl,qZ,?_,?_,?_⟩⟩
   ·rw[N];congr 2
    have:(l.take i).flatMap fL=(l.flatMap fL++rest).take (i*5):=by
     rw[dh (by rw[Y];omega),SN gM]
    rw[this,fP]
   ·grind
   ·refine dF.2 λx E=>?_;have E:=kT E;rcases dg.1 E with y|y
    ·exact dF.1 (MH pD l) x y
    ·grind
  refine Bs mH Tryz.underlying3 (eO Oh) hOi qZ λs2 D z hz hz1 o2 m2 n2 Z=>?_;obtain⟨mF,nF⟩:=Z _ _ rfl qZ;rw[show i+(l.length+1 - i)=l.length+1 by omega]at o2;obtain⟨m,zG,a,rfl,H,V,X,S⟩:=o2.pos qZ;have U:w.heap.size<=m:=nF m rfl;have hbb:b≠m:=by grind
  apply cI (yI mH B9 qZ H qZ D);have hA:((l.take i).flatMap fL).length=i*5:=by rw[wT gM,cZ,fS hi]
  have hsz2:((l.take i).flatMap fL++z++a).length=zG*5:=by grind
  have hv2:Rd D 5 (.slice (some ⟨M,0,none⟩) 1 g) 1 (fL o):=by
   have:=hv.rd.mod mF eQ;rw[T]at this;exact this
  apply tI (sz:=4) (k:=1) mH B9 V hv2 (by grind) (by grind) (pD o);have C:de (λb=>b=m) D (D.setRow m (mh ((l.take i).flatMap fL++z++a) (i*5) ((fL o).take 5)).toArray):=(de.refl (λb=>b=m) D).setRow (.inl rfl) _;have e5:(fL o).take 5=fL o:=rfl
  have I:mh ((l.take i).flatMap fL++z++a) (i*5) (fL o)=(l.take i).flatMap fL++fL o++(z++a).drop 5:=by
   unfold mh;rw[df ((l.take i).flatMap fL) z a,<-hA,fN,gM,<-eN,fj]
  have j:(D.setRow m (mh ((l.take i).flatMap fL++z++a) (i*5) ((fL o).take 5)).toArray).heap[m]? =some (.cells ((l.take i).flatMap fL++fL o++(z++a).drop 5).toArray pz (0,0)):=by
   rw[ij,bZ rfl,V,e5,I]
  show wS _ _ _;rw[show((l.take i).flatMap fL++z++a).toArray.toList=(l.take i).flatMap fL++z++a from rfl,show 1*(4+1)=5 from rfl];generalize D.setRow m (mh ((l.take i).flatMap fL++z++a) (i*5) ((fL o).take 5)).toArray=A at C j|-;apply dX (gI ((i+1:Nat):Int)) (λW=>by simp[go_sem];rw[wI_]);apply dw (λW=>yI mH B9 (show i+1<=l.length+1 by omega) H qZ W);apply dw (λW=>yI mH B9 (show i<=l.length by omega) hc qZ W);have mD:de (λb=>b=m) D A.drew:=C.drew;have q:A.drew.heap[m]? =some (.cells ((l.take i).flatMap fL++fL o++(z++a).drop 5).toArray pz (0,0)):=j
  have t:Rd A.drew (4+1) (.slice (some ⟨b,i*(4+1),none⟩) (l.length - i) (c - i)) (l.length - i) ((l.drop i).flatMap fL):=by
   have G:At w b 0 (l.flatMap fL):=⟨_,_,_,N,by grind,by simp⟩
   have y:=G.sub (i*5) ((l.length - i)*5) (by rw[Y];omega);rw[Vp gM,cT (by rw[wT gM,dV];exact cJ _),eU]at y;refine⟨by rw[wT gM,dV],.inr ⟨b,i*(4+1),c - i,rfl,qZ,?_⟩⟩;exact(y.mod mF id).mod mD λe=>hbb e
  have hsz3:((l.take i).flatMap fL++fL o++(z++a).drop 5).length=zG*5:=by
   rw[cD,cD,hA,gM,dV,cD,hz,X];omega
  apply tI (sz:=4) (k:=l.length - i) mH B9 q t (by grind) (by grind) (MH pD _);have u:((l.drop i).flatMap fL).length=(l.length - i)*5:=by rw[wT gM,dV]
  have J:mh ((l.take i).flatMap fL++fL o++(z++a).drop 5) ((i+1)*(4+1)) (((l.drop i).flatMap fL).take ((l.length - i)*(4+1)))=(l.take i++o::l.drop i).flatMap fL++a:=by
   have hAo:((l.take i).flatMap fL++fL o).length=(i+1)*(4+1):=by grind
   have e2:((l.drop i).flatMap fL).take ((l.length - i)*(4+1))=(l.drop i).flatMap fL:=cT (by grind);rw[e2];unfold mh;rw[<-hAo,fN,u,<-eN,fj,eN];rw[show 5+(l.length - i)*5=z.length by rw[hz];omega,fj];simp[df]
  refine hK _ _ ⟨by grind,.inr ⟨m,zG,a,by rw[n],by rw[n];exact H,?_,by grind,S⟩⟩ ?_ λb' p=>?_
  ·rw[ij,bZ rfl,q];show some (Obj.cells (mh ((l.take i).flatMap fL++fL o++(z++a).drop 5) ((i+1)*(4+1)) (((l.drop i).flatMap fL).take ((l.length - i)*(4+1)))).toArray pz (0,0))=_;rw[J]
  ·exact((mF.to).on mD λb' p=>.inr (by grind)).setRow (.inr U) _
  ·grind
 ·have f:¬(c:Int)<(l.length:Int)+1:=qZ;refine qSf1 f ?_;apply cx (gI ((l.length+1:Nat):Int)) w (by simp[go_sem];rw[wI_]);apply cI (IU mH B9 (show l.length+1<=c by omega) qZ w);apply cx (gI ((i+1:Nat):Int)) w (by simp[go_sem];rw[wI_]);apply cI (yI mH B9 (show i+1<=l.length+1 by omega) qZ qZ w)
  have hov:(callFunc 258 #[.slice (some ⟨M,0,none⟩) 1 g,.slice (some ⟨b,(i+1)*(4+1),none⟩) (l.length+1 - (i+1)) (c - (i+1))]).run pQ w=.ok (.value (.bool false)) w:=by
   rw[run_callFunc_extern Tryz.func258 cU cU cU XI];rw[Lib.run_overlaps_apart w Av 4 pz mH 5 sOd ⟨M,0,none⟩ ⟨b,(i+1)*(4+1),none⟩ 1 g _ _ hne pz pz _ _ (shp L) (shp N) (by grind) (Ku L _) (Ku L _)];rfl
  refine⟨?_⟩;show rn pQ (callFunc 258 #[.slice (some ⟨M,0,none⟩) 1 g,.slice (some ⟨b,(i+1)*(4+1),none⟩) (l.length+1 - (i+1)) (c - (i+1))]) w _;apply mB hov;refine qSt0 ?_;apply dX (gI ((i+1:Nat):Int)) (λW=>by simp[go_sem];rw[wI_]);apply dw (λW=>yI mH B9 (show i+1<=l.length+1 by omega) qZ qZ W);apply dw (λW=>yI mH B9 (show i<=l.length+1 by omega) qZ qZ W);have q:w.drew.heap[b]? =some (.cells (l.flatMap fL++rest).toArray pz (0,0)):=N;have Q:5<=rest.length:=by rw[hrl];omega
  have t:Rd w.drew (4+1) (.slice (some ⟨b,i*(4+1),none⟩) (l.length+1 - i) (c - i)) (l.length+1 - i) ((l.drop i).flatMap fL++rest.take 5):=by
   have G:At w b 0 (l.flatMap fL++rest):=At.all (fy N);have y:=G.sub (i*5) ((l.length+1 - i)*5) (by rw[B];omega);rw[eZ (by rw[Y];omega),Vp gM,eU]at y
   have e1:((l.drop i).flatMap fL++rest).take ((l.length+1 - i)*5)=(l.drop i).flatMap fL++rest.take 5:=by
    have hd:((l.drop i).flatMap fL).length=(l.length - i)*5:=by rw[wT gM,dV]
    rw[show(l.length+1 - i)*5=((l.drop i).flatMap fL).length+5 by rw[hd];omega,lJ]
   rw[e1]at y;refine⟨by rw[cD,wT gM,dV,cZ,fS Q];omega,.inr ⟨b,i*(4+1),c - i,rfl,qZ,y.keep rfl⟩⟩
  have u:((l.drop i).flatMap fL).length=(l.length - i)*5:=by rw[wT gM,dV]
  apply tI (sz:=4) (k:=l.length - i) mH B9 q t (by grind) (by rw[eT,B];omega) (by rw[gj,MH pD];exact dF.2 λx E=>dF.1 O x (ek E));have hA:((l.take i).flatMap fL).length=i*5:=by rw[wT gM,cZ,fS hi]
  obtain⟨d,R,F⟩:∃d:List Value,l.flatMap fL++rest=(l.take i).flatMap fL++(d++((l.flatMap fL++rest).drop ((i+1)*5)))/\d.length=5:=by
   refine⟨((l.flatMap fL++rest).drop (i*5)).take 5,?_,by grind⟩;have e1:(l.take i).flatMap fL=(l.flatMap fL++rest).take (i*5):=by rw[dh (by rw[Y];omega),SN gM]
   rw[e1,show(i+1)*5=i*5+5 by omega,<-eN,fP,fP]
  have I:mh (l.flatMap fL++rest) ((i+1)*(4+1)) (((l.drop i).flatMap fL++rest.take 5).take ((l.length - i)*(4+1)))=(l.take i).flatMap fL++d++((l.drop i).flatMap fL++rest.drop 5):=by
   have e2:((l.drop i).flatMap fL++rest.take 5).take ((l.length - i)*(4+1))=(l.drop i).flatMap fL:=by
    rw[show(l.length - i)*(4+1)=((l.drop i).flatMap fL).length by rw[u],fN]
   have e3:(l.flatMap fL++rest).take ((i+1)*(4+1))=(l.take i).flatMap fL++d:=by
    rw[R,<-df,show(i+1)*(4+1)=((l.take i).flatMap fL++d).length by grind,fN]
   have e4:(l.flatMap fL++rest).drop ((i+1)*(4+1)+(l.length - i)*5)=rest.drop 5:=by
    rw[show(i+1)*(4+1)+(l.length - i)*5=(l.flatMap fL).length+5 by rw[Y];omega,<-eN,fj]
   unfold mh;rw[e2,u,e3,e4];simp[df]
  have C:de (cK (.slice (some ⟨b,0,none⟩) l.length c)) w (w.drew.setRow b (mh (l.flatMap fL++rest) ((i+1)*(4+1)) (((l.drop i).flatMap fL++rest.take 5).take ((l.length - i)*(4+1)))).toArray):=mP.setRow (.inl (show cK (.slice (some ⟨b,0,none⟩) l.length c) b from rfl)) _
  have j:(w.drew.setRow b (mh (l.flatMap fL++rest) ((i+1)*(4+1)) (((l.drop i).flatMap fL++rest.take 5).take ((l.length - i)*(4+1)))).toArray).heap[b]? =some (.cells ((l.take i).flatMap fL++d++((l.drop i).flatMap fL++rest.drop 5)).toArray pz (0,0)):=by
   rw[ij,bZ rfl,q,I]
  rw[show(l.flatMap fL++rest).toArray.toList=l.flatMap fL++rest from rfl];generalize w.drew.setRow b (mh (l.flatMap fL++rest) ((i+1)*(4+1)) (((l.drop i).flatMap fL++rest.take 5).take ((l.length - i)*(4+1)))).toArray=A at C j|-;apply cI (yI mH B9 (show i<=l.length+1 by omega) qZ qZ A)
  have hv3:Rd A 5 (.slice (some ⟨M,0,none⟩) 1 g) 1 (fL o):=by
   have:=hv.rd.mod C λb' p hs' =>hd b' hs' p.sl;rw[T]at this;exact this
  apply tI (sz:=4) (k:=1) mH B9 j hv3 (by grind) (by grind) (pD o)
  have J:mh ((l.take i).flatMap fL++d++((l.drop i).flatMap fL++rest.drop 5)) (i*(4+1)) ((fL o).take (1*(4+1)))=(l.take i++o::l.drop i).flatMap fL++rest.drop 5:=by
   have e5:(fL o).take (1*(4+1))=fL o:=rfl;rw[e5];unfold mh;rw[gM,show i*(4+1)=((l.take i).flatMap fL).length by rw[hA],df ((l.take i).flatMap fL) d,fN,<-eN,fj,<-F,fj];simp[df]
  refine hK _ _ ⟨by rw[wT gM,n],.inr ⟨b,c,rest.drop 5,by rw[n],by rw[n];omega,?_,by grind,dF.2 λx E=>dF.1 O x (kT E)⟩⟩ (C.setRow (.inl (show cK (.slice (some ⟨b,0,none⟩) l.length c) b from rfl)) _) λb' p=>.inl p;show(A.setRow b (mh ((l.take i).flatMap fL++d++((l.drop i).flatMap fL++rest.drop 5)) (i*(4+1)) ((fL o).take (1*(4+1)))).toArray).heap[b]? =_;rw[ij,bZ rfl,j,J]
def Jb(w:Wt_)(fv:Vt_)(p:Od->Bool)(l:List Od):Prop:=
 ∃g cp,fv=.func (.func g) #[] cp/\∀x∈l,∀W,M0 w W->∀K:cG,(∀W',M0 W W' ->K (.bool (p x)) W')->Ca pQ g ⟨[.agg (fL x).toArray]++cp.toList⟩ W K
def uK{α:Type}(l:List α)(p:α->Bool):Int:=match l.findIdx? p with|some i=>(i:Int)|none=> -1
def wE{fv:Vt_}{p:Od->Bool}(h:Rd w 5 s l.length (l.flatMap fL))(R:l.length<=1000000)(I:Jb w fv p l)
  (B:∀z,M0 w z->K (gI (uK l p)) z):Ca pQ 138 #[s,fv] w K:=by
 obtain⟨g,S,rfl,y⟩:=I;apply WG;obtain⟨a,c,L⟩:=h.isSl;apply jm (gI (l.length:Int)) w (by rw[L];simp[go_sem])
 refine eS (λst W=>∃(i:Nat) (x:Vt_),i<=l.length/\st=(x,gI i,())/\M0 w W/\∀j:Nat,∀f:j<l.length,j<i->p l[j]=false)
  (λst _=>match st.2.1 with| .int _ i=>l.length - i.toNat|_=>0) ⟨0,gI 0,qZ,rfl,lX,λj _ h=>qZ⟩ ?_
 rintro⟨_,_⟩ W ⟨i,x,Q,⟨⟩,m,k⟩ P u;unfold JD;intro _;by_cases d:i<l.length
 ·have o:(i:Int)<(l.length:Int):=qZ;refine qSt1 o ?_;obtain⟨b,v,H,t,D,J⟩:=(h.mod m eQ).item gM d rfl;obtain⟨C,e,fz,hC,n⟩:=J.get;have g0:=n 0 (gQ l[i].num) rfl;have g1:=n 1 (gU l[i].acct) rfl;have A:=n 2 (.bool l[i].buy) rfl;have F:=n 3 (gI l[i].price) rfl;have E:=n 4 (gI l[i].left) rfl;simp only[jU,dS]at g0 g1 A F E;apply cx (pt b (v+i*5)) W (by rw[t];simp[go_sem,d,cS]);apply cx (.agg (fL l[i]).toArray) W (by simp[go_sem,fy hC,g0,g1,A,F,E,fL]);simp only[kE];refine y l[i] (cC d) W m _ λO r=>?_;cases hp:p l[i]with
  |true=>
   rw[kx]
   have:uK l p=(i:Int):=by
    unfold uK
    have:l.findIdx? p=some i:=by
     rw[eB];refine⟨d,hp,λj f=>?_⟩;rw[k j qZ f];simp
    rw[this]
   have q:=B _ (m.trans r);rw[this]at q;exact q
  |false=>
   rw[gP];apply cx (gI ((i+1:Nat):Int)) O (by simp[go_sem];rw[wI_]);refine u _ _ ⟨i+1,_,qZ,rfl,m.trans r,λj f G=>?_⟩ (by grind);by_cases N:j=i
   ·subst N;exact hp
   ·grind
 ·obtain rfl:i=l.length:=qZ;refine qSf0 ?_
  have:uK l p= -1:=by
   unfold uK
   have:l.findIdx? p=none:=by
    rw[fR];intro x M;obtain⟨j,f,rfl⟩:=cX M;exact k j f f
   rw[this]
  have q:=B _ m;rw[this]at q;exact q
end Go.Proofs
namespace Go.Proofs
open Go Go.Vc
attribute [local congr] cR
variable {buy:Bool}{n:Int}{l:List Od}{F:NP_}{s p:Nat}{o:Od}{w W:Wt_}{K:cG}
def Od.may(o:Od):Bool:=decide (o.num≠0)&& decide (o.acct≠0)&& amongB o.price 1 MP&& amongB o.left 1 1000000
def oG(o:Od):Value:=.agg (fL o).toArray
def pC:Od:=⟨0,0,false,0,0⟩
def sx(buy:Bool)(a b:Int):Bool:=if buy then decide (b<a)else decide (a<b)
def J9(buy:Bool)(l:List Od)(price:Int):Nat:=(l.findIdx? λx=>sx buy price x.price).getD l.length
def tK(buy:Bool)(l:List Od)(o:Od):List Od:=l.take (J9 buy l o.price)++o::l.drop (J9 buy l o.price)
def rX(buy:Bool)(l:List Od)(o:Od):Int×List Od:=
 if¬o.may\/o.buy≠buy then(2,l)else if(l.any λx=>decide (x.num=o.num))then(8,l)else if 100<=l.length then(9,l)else(0,tK buy l o)
def pI(l:List Od)(n:Int):Option Od:=l.find? λx=>decide (x.num=n)
def tD(l:List Od)(n:Int):List Od:=l.eraseP λx=>decide (x.num=n)
def wZ(l:List Od)(n left:Int):Int×List Od:=
 match l.findIdx? λx=>decide (x.num=n)with
 |none=>(7,l)
 |some i=>match l[i]? with
  |none=>(7,l)
  |some o=>if left<1\/o.left<left then(2,l)else(0,l.set i {o with left:=left})
def og(l:List Od)(n:Int):List Od:=
 match l with
 | []=>[]
 |o::r=>if o.left - n=0 then r else{o with left:=o.left - n}::r
def lR(buy:Bool)(l:List Od)(price:Int)(acct:Int):Int:=
 (((l.takeWhile λo=> !sx buy price o.price).filter λo=>decide (o.acct≠acct)).map (·.left)).sum
def vt(o:Od)(w:Wt_):∃a,(Instr.box pz (oG o)).run pQ w=.ok (pt w.heap.size 0) a/\hC a w.heap.size (fL o).toArray pz/\M0 w a:=
 ⟨w.alloc (.cells (fL o).toArray pz),rfl,by simp[go_sem],(de.refl _ w).alloc _⟩
def Ab(b:∀h,M0 w h->K (.bool o.may) h):Ca pQ 110 #[oG o] w K:=by
 apply as6;obtain⟨k,i,a,j⟩:=vt o w;have b:=b _ j;apply cI i;unfold Od.may amongB MP at b;unfold fL at a;refine qS1 a ?_;refine qS1 a ?_;by_cases d:o.num=0
 ·refine qSf1 d ?_;simpa [d]using b
 refine qSt1 d ?_;refine qS1 a ?_;refine qS1 a ?_;by_cases c:o.acct=0
 ·refine qSf1 c ?_;simpa [c]using b
 refine qSt1 c ?_;refine qS1 a ?_;refine qS1 a ?_;by_cases e:1<=o.price
 ·refine qSt1 e ?_;refine qS1 a ?_;refine qS1 a ?_;by_cases f:o.price<=10000000
  ·refine qSt1 f ?_;refine qS1 a ?_;refine qS1 a ?_;by_cases g:1<=o.left
   ·refine qSt1 g ?_;refine qS1 a ?_;refine qS1 a ?_;refine qS0 ?_;simpa [d,c,e,f,g]using b
   ·refine qSf1 g ?_;simpa [d,c,e,f,g]using b
  ·refine qSf1 f ?_;simpa [d,c,e,f]using b
 ·refine qSf1 e ?_;simpa [d,c,e]using b
structure lp(w:Wt_)(s:Nat)(F:NP_)(buy:Bool)(l:List Od):Prop where
 out:∃sl,hC w s #[.bool true,.bool buy,sl] 188/\qR w sl l/\(∀b,F b↔b=s\/cK sl b)/\¬cK sl s
 len:l.length<=100
 may:∀o∈l,o.may=true/\o.buy=buy/\o.Fit
def lp.mod{G:NP_}{w' :Wt_}(h:lp w s F buy l)(d:de G w w')(c:∀b,F b->¬G b):lp w' s F buy l:=by
 obtain⟨⟨sl,i,e,a,g⟩,j,k⟩:=h;exact⟨⟨sl,d.hpk i (c s ((a s).2 (.inl rfl))),e.mod d λb f=>c b ((a b).2 (.inr f)),a,g⟩,j,k⟩
def lp.lt(h:lp w s F buy l){b:Nat}(a:F b):b<w.heap.size:=by
 obtain⟨⟨sl,d,c,e,g⟩,i,f⟩:=h;rcases(e b).1 a with rfl|a
 ·exact cB d
 ·exact c.lt a
def lp.self(h:lp w s F buy l):F s:=by
 obtain⟨⟨sl,e,c,a,d⟩,f,b⟩:=h;exact(a s).2 (.inl rfl)
def fQ(s:Nat):Value:=pt s 0
def G6(c:∀s F a,lp a s F buy []->M0 w a->(∀b,F b->w.heap.size<=b)->K (fQ s) a):Ca pQ 127 #[.bool buy] w K:=by
 apply am6;simp[go_sem];refine c _ (λb=>b=w.heap.size) _ ⟨⟨.slice none 0 0,by simp[go_sem],jo.nil _ _ _,λb=>⟨λh=>.inl h,λh=>by rcases h with h|h;exact h;cases h⟩,λh=>by cases h⟩,by simp,λo h=>by cases h⟩ lm λb d=>by grind
def sR(h:lp w s F buy l)(b:K (.bool true) w):Ca pQ 107 #[fQ s] w K:=by
 obtain⟨⟨sl,a,d,g,e⟩,f,c⟩:=h;apply an8;unfold fQ;refine qSt0 ?_;simp only[dr];refine qS1 a ?_;refine qS1 a ?_;exact b
def DE{x y:Int}(h:lp w s F buy l)(a:K (.bool (sx buy x y)) w):Ca pQ 215 #[fQ s,gI x,gI y] w K:=by
 obtain⟨⟨sl,b,c,f,d⟩,e,g⟩:=h;apply ah9;unfold fQ;simp only[dr];refine qS1 b ?_;refine qS1 b ?_;unfold sx at a;cases buy with
 |true=>
  rw[kx];refine qS0 ?_;simpa using a
 |false=>
  rw[gP];refine qS0 ?_;simpa using a
def Rw(h:lp w s F buy l)
  (q:∀g,M0 w g->K (gI (uK l λx=>decide (x.num=n))) g):Ca pQ 245 #[fQ s,gQ n] w K:=by
 obtain⟨⟨sl,o,m,A,y⟩,z,C⟩:=h;apply ao9;unfold fQ;have c:M0 w (w.alloc (.cells #[.int .u64 n] 24)):=lm;obtain⟨p,b⟩:=dW w.heap.size;apply cx (pt p 0) (w.alloc (.cells #[.int .u64 n] 24)) (by rw[b];simp[go_sem]);have f:hC (w.alloc (.cells #[.int .u64 n] 24)) p #[.int .u64 n] 24:=by rw[b];simp[go_sem]
 generalize w.alloc (.cells #[.int .u64 n] 24)=v at c f|-;have a:=c.hpk o id;simp only[dr];refine qS1 a ?_;refine qS1 a ?_;refine wE (m.mod c eQ).rd qZ ⟨_,_,rfl,λx B W j E e=>?_⟩ λD k=>q _ (c.trans k);apply ad3;obtain⟨r,u,d,i⟩:=vt x W;apply cI u;unfold fL at d;have t:=i.hpk (j.hpk f id) id;refine qS1 d ?_;refine qS1 d ?_;refine qS1 t ?_;apply cx (.bool (decide (x.num=n))) r (by simp[go_sem];rw[iC];simp);exact e _ i
def xq{α:Type}{l:List α}{p:α->Bool}{i:Nat}(h:l.findIdx? p=some i):∃a:i<l.length,p l[i]=true/\l.find? p=some l[i]/\uK l p=(i:Int):=by
 obtain⟨a,b,d⟩:=eB.1 h;refine⟨a,b,?_,by unfold uK;rw[h]⟩;rw[fV];exact⟨b,i,a,rfl,λj c=>by simpa using d j c⟩
def zm{α:Type}{l:List α}{p:α->Bool}(h:l.findIdx? p=none):l.find? p=none/\uK l p= -1:=by
 refine⟨?_,by unfold uK;rw[h]⟩;rw[fR]at h;rw[fW];exact λx a=>by rw[h x a];simp
def P8(h:lp w s F buy l)
  (a:∀c,M0 w c->K (.tuple #[.int .i64 ((l.findIdx? λx=>decide (x.num=n)).getD 0:Nat),gI (if(l.findIdx? λx=>decide (x.num=n)).isSome then 0 else 7)]) c):Ca pQ 205 #[fQ s,gQ n] w K:=by
 apply ah3;apply sR h;refine qSf0 ?_;refine Rw h λf d=>?_;have a:=a _ d;cases b:l.findIdx? λx=>decide (x.num=n)with
 |none=>
  rw[b]at a;rw[(zm b).2];refine qSf0 ?_;simpa using a
 |some i=>
  rw[b]at a;obtain⟨_,_,_,e⟩:=xq b;rw[e];refine qSt0 ?_;simpa using a
def ZU{off:Nat}{C:Array Value}{T:TypeId}(h:hC W p C T)(a:off+5<=C.size):
  (iS pz (pt p off) (oG o)).run pQ W=.ok () (W.setRow p (mh C.toList off (fL o)).toArray):=by
 have c:=xw (P:=pQ) (t:=pz) (w:=W) (b:=p) (off:=off) (cs:=fL o) (n:=4) B9 rfl h a (pD o);exact c
def lM{off:Nat}(h:At W p off (fL o)):(iL pz (pt p off)).run pQ W=.ok (oG o) W:=
 gm (P:=pQ) (t:=pz) cU B9 rfl h
def kD(w:Wt_):∃a,(iA pz true (.tuple #[])).run pQ w=.ok (pt w.heap.size 0) a/\hC a w.heap.size (fL pC).toArray pz/\M0 w a:=
 ⟨w.alloc (.cells (fL pC).toArray pz),by simp[go_sem,fL,pC],by simp[go_sem],(de.refl _ w).alloc _⟩
def jK{o' :Od}{T:TypeId}(h:hC W p (fL o).toArray T):
  ∃a,(iS pz (pt p 0) (oG o')).run pQ W=.ok () a/\hC a p (fL o').toArray T/\de (λb=>b=p) W a:=by
 refine⟨_,ZU h (cJ _),?_,(de.refl (λb=>b=p) W).setRow (.inl rfl) _⟩;show(W.setRow p _).heap[p]? =_;have c:W.heap[p]? =some (.cells (fL o).toArray T (0,0)):=h;rw[ij,bZ rfl,c,tp (by rfl)]
def qR.load{sl:Vt_}(h:qR w sl l){i:Nat}(hi:i<l.length):
  ∃b a,sl=.slice (some ⟨b,0,none⟩) l.length a/\(∀k:IntKind,(iX Av sl (.int k (i:Int))).run pQ w=.ok (pt b (i*5)) w)/\(iL pz (pt b (i*5))).run pQ w=.ok (oG l[i]) w:=by
 obtain⟨b,a,rest,rfl,j,f,g⟩:=h.pos qZ;have c:At w b 0 (l.flatMap fL++rest):=At.all (fy f);have d:=h.1;have e:=c.sub (i*5) 5 (by rw[cD,d];omega);rw[eZ (by rw[d];omega),dh (by rw[dV,d];omega),oB fL 5 l i (λx _=>gM x) hi,eU]at e;refine⟨b,a,rfl,λk=>?_,lM e⟩;simp[go_sem,hi,cS,mH]
def Aw(h:lp w s F buy l)
  (g:pI l n=none->l.findIdx? (λx=>decide (x.num=n))=none->∀a,M0 w a->K (.tuple #[.int .i64 0,gI 7]) a)
  (f:∀i:Nat,∀b:i<l.length,pI l n=some l[i]->l.findIdx? (λx=>decide (x.num=n))=some i->∀a,M0 w a->K (.tuple #[.int .i64 (i:Int),gI 0]) a):Ca pQ 205 #[fQ s,gQ n] w K:=by
 refine P8 h λj c=>?_;cases b:l.findIdx? λx=>decide (x.num=n)with
 |none=>exact g (zm b).1 b _ c
 |some i=>
  obtain⟨d,k,e,m⟩:=xq b;exact f i d e b _ c
def SV(h:lp w s F buy l)
  (c:∀u,M0 w u->K (.tuple #[oG ((pI l n).getD pC),gI (if(pI l n).isSome then 0 else 7)]) u):Ca pQ 204 #[fQ s,gQ n] w K:=by
 apply ai0;obtain⟨I,H,e,m⟩:=kD w;apply cI H;obtain⟨p,q⟩:=dW w.heap.size;rw[<-q]at e|-;have v:=h.mod m eQ;refine Aw v (λj _ y a=>?_) λi G j _ y a=>?_
 ·have k:=a.hpk e id;rw[j]at c;refine qS0 ?_;refine qS0 ?_;refine qSt0 ?_;apply cx (oG pC) y (by simp[go_sem,oG,fL,pC]);obtain⟨A,t,g,f⟩:=jK (o' :=pC) k;apply ir t;apply dp (lM (o:=pC) (At.all g));exact c _ ((m.trans a).on f λb B=>gz)
 ·have k:=a.hpk e id;have z:=v.mod a eQ;obtain⟨⟨sl,x,E,J,N⟩,L,M⟩:=z;obtain⟨b,D,C,d,r⟩:=E.load G;rw[j]at c;refine qS0 ?_;refine qS0 ?_;refine qSf0 ?_;simp only[fQ,dr];refine qS1 x ?_;refine qS1 x ?_;apply cI (d _);apply cI r;obtain⟨A,t,g,f⟩:=jK (o' :=l[i]) k;apply ir t;apply dp (lM (o:=l[i]) (At.all g));exact c _ ((m.trans a).on f λb B=>gz)
def QL(h:lp w s F buy l)
  (x:∀t,M0 w t->K (.tuple #[oG (l.head?.getD pC),.bool l.head?.isSome]) t):Ca pQ 211 #[fQ s] w K:=by
 apply ZS;obtain⟨a,C,e,k⟩:=kD w;apply cI C;obtain⟨p,m⟩:=dW w.heap.size;rw[<-m]at e|-;have v:=h.mod k eQ;obtain⟨⟨sl,c,y,D,H⟩,E,G⟩:=id v;obtain⟨sa,sc,j,-⟩:=y.isSl;refine dK.at (λst W=>st=(.bool (decide (l.length=0)),())/\W=a) ?_ ?_
 ·apply sR v;refine qSf0 ?_;simp only[fQ,dr];refine qS1 c ?_;refine qS1 c ?_;apply jm (gI (l.length:Int)) a (by rw[j];simp[go_sem]);apply cx (.bool (decide (l.length=0))) a (by simp[go_sem];rw[iC];simp);exact sI
 rintro _ a ⟨rfl,rfl⟩;unfold Rm;intro _;cases l with
 |nil=>
  rw[cy,bZ (by simp)];apply cx (oG pC) a (by simp[go_sem,oG,fL,pC]);obtain⟨z,q,g,f⟩:=jK (o' :=pC) e;apply ir q;apply dp (lM (o:=pC) (At.all g));exact x _ (k.on f λb A=>gz)
 |cons o r=>
  rw[cy,aZ (by simp)];obtain⟨b,B,u,d,n⟩:=y.load (i:=0) (by simp);simp only[fQ,dr];refine qS1 c ?_;refine qS1 c ?_;apply cI (d .i64);apply cI n;obtain⟨z,q,g,f⟩:=jK (o' :=o) e;apply ir q;apply dp (lM (o:=o) (At.all g));exact x _ (k.on f λb A=>gz)
def Tp(h:lp w s F buy l)(d:K (gI (l.length:Int)) w):Ca pQ 179 #[fQ s] w K:=by
 obtain⟨⟨sl,b,c,e,i⟩,f,g⟩:=id h;obtain⟨sa,sc,a,-⟩:=c.isSl;apply aj4;apply sR h;refine qSf0 ?_;simp only[fQ,dr];refine qS1 b ?_;refine qS1 b ?_;apply jm (gI (l.length:Int)) w (by rw[a];simp[go_sem]);exact d
def Gx(h:lp w s F buy l)
  (q:∀j n e,lp e j n buy l->M0 w e->(∀b,n b->w.heap.size<=b)->K (fQ j) e):Ca pQ 105 #[fQ s] w K:=by
 obtain⟨⟨sl,r,t,x,y⟩,u,v⟩:=id h;apply aa1;apply sR h;refine qSf0 ?_;have md:M0 w w.drew:=mP;have d1:=md.hpk r id;simp only[fQ,dr];refine qP0 ?_;refine qW1 d1 ?_;refine qP0 ?_;refine qW1 d1 ?_;refine ww (l:=l) (t.mod md eQ).rd qZ λd a f k p=>?_;have o:=md.trans k;have d2:=k.hpk d1 id;refine⟨by simp[go_sem,d2],?_⟩;obtain⟨sa,sc,i,-⟩:=f.isSl;apply dX (.agg #[.bool true,.bool buy,d]) (λW=>by rw[i];simp[go_sem]);have m:M0 a (a.alloc (.cells #[.bool true,.bool buy,d] 188)):=lm;apply cx (fQ a.heap.size) (a.alloc (.cells #[.bool true,.bool buy,d] 188)) rfl;have g:=o.size;refine q a.heap.size (λb=>b=a.heap.size\/cK d b) _ ⟨⟨d,by simp[go_sem],f.mod m eQ,λb=>fd,λc=>?_⟩,u,v⟩ (o.trans m) λb c=>?_
 ·have:=f.lt c;omega
 ·rcases c with rfl|c
  ·exact g
  ·exact p b c
def JT{e f i v:Vt_}(h:hC W s #[e,f,i] 188)(g:∃a n c,v=.slice a n c):
  ∃d,(iS Av (pt s 2) v).run pQ W=.ok () d/\hC d s #[e,f,v] 188/\de (λb=>b=s) W d:=by
 obtain⟨a,n,c,rfl⟩:=g;refine⟨W.setCell ⟨s,2,none⟩ (.slice a n c),by simp[go_sem,h],by simp[go_sem,h],(de.refl (λb=>b=s) W).sc⟩
def Mp{i:Nat}(h:l.findIdx? (λx=>decide (x.num=n))=some i):tD l n=l.take i++l.drop (i+1):=by
 unfold tD;rw[List.eraseP_eq_eraseIdx,h];exact List.eraseIdx_eq_take_drop_succ l i
def Dz(h:lp w s F buy l)
  (D:∀F' w',lp w' s F' buy (tD l n)->de F w w' ->(∀b,F' b->F b\/w.heap.size<=b)->K (.tuple #[oG ((pI l n).getD pC),gI (if(pI l n).isSome then 0 else 7)]) w'):Ca pQ 170 #[fQ s,gQ n] w K:=by
 apply Zz;obtain⟨w1,e1,L,X⟩:=kD w;apply cI e1;obtain⟨p,t⟩:=dW w.heap.size;rw[<-t]at L|-;have h1:=h.mod X eQ;have j:∀{W W' :Wt_},M0 W W' ->de F W W' :=λm=>m.to;have U:∀{b},F b->b<p:=λa=>by rw[t];exact h.lt a
 refine Aw h1 (λP c x f=>?_) λi hi P r x f=>?_
 ·have E:=f.hpk L id
  have V:tD l n=l:=by
   unfold tD;rw[List.eraseP_eq_eraseIdx,c]
  rw[P,V]at D;refine qS0 ?_;refine qS0 ?_;refine qSt0 ?_;apply cx (oG pC) x (by simp[go_sem,oG,fL,pC]);obtain⟨w3,e3,y,C⟩:=jK (o' :=pC) E;apply ir e3;apply dp (lM (o:=pC) (At.all y));have M2:=X.trans f;exact D F _ ((h.mod M2 eQ).mod C λb a e=>by have:=U a;omega) ((j M2).on C λb a=>gz) λb a=>.inl a
 ·have E:=f.hpk L id;have h2:=h1.mod f eQ;obtain⟨⟨sl,T,H,c3,Y⟩,c5,c6⟩:=id h2;obtain⟨b,cap,hsl,c,J⟩:=H.load hi;rw[P,Mp r]at D;refine qS0 ?_;refine qS0 ?_;refine qSf0 ?_;simp only[fQ,dr];refine qS1 T ?_;refine qS1 T ?_;apply cI (c _);apply cI J;obtain⟨w3,e3,y,C⟩:=kD x;apply cI e3;obtain⟨q,S⟩:=dW x.heap.size;rw[<-S]at y|-;obtain⟨w4,e4,b4,m4⟩:=jK (o' :=l[i]) y;apply ir e4;have B:M0 x w4:=C.on m4 λb a=>gz;have d:=B.hpk T id;have Q:=B.hpk E id;have R:=H.mod B eQ;refine qS1 d ?_;refine qS1 d ?_;apply cx (gI ((i+1:Nat):Int)) w4 (by simp[go_sem];rw[wI_]);refine vq R (qH i) hi qZ λk w5 o5 z M=>?_;obtain⟨sa,sc,N,-⟩:=o5.isSl;have O:¬cK sl s:=Y;have u:¬cK sl p:=λa=>by have:=U ((c3 p).2 (.inr a));omega
  have Z:¬cK sl q:=λa=>by have:=H.lt a;omega
  have g:=z.hpk d O;have p5:=z.hpk Q u;have q5:=z.hpk b4 Z;refine qS1 g ?_;obtain⟨w6,e6,b6,A⟩:=JT (v:=k) g ⟨_,_,_,N⟩;apply ir e6;have hsp:s<p:=U h.self;have hpq:p<q:=by have:=cB E;omega
  have q6:=A.hpk q5 qZ;have p6:=A.hpk p5 qZ;apply cI (lM (o:=l[i]) (At.all q6));obtain⟨G,e7,b7,I⟩:=jK (o' :=l[i]) p6;apply ir e7;apply dp (lM (o:=l[i]) (At.all b7));have s7:=I.hpk b6 qZ;have o6:qR w6 k (l.take i++l.drop (i+1)):=o5.mod A λb a e=>Y (by rw[<-e];exact M b a);have o7:qR G k (l.take i++l.drop (i+1)):=o6.mod I λb a e=>u (by rw[<-e];exact M b a)
  have MF:de F w G:=by
   have a1:=j ((X.trans f).trans B);have a2:de F w w5:=a1.on z λb a=>.inl ((c3 b).2 (.inr a));have a3:de F w w6:=a2.on A λb a=>.inl (by rw[a];exact h.self);exact a3.on I λb a=>gz
  refine D (λb=>b=s\/cK k b) G ⟨⟨k,s7,o7,λb=>fd,λa=>Y (M s a)⟩,?_,?_⟩ MF λb a=>?_
  ·grind
  ·grind
  ·rcases a with rfl|a
   ·exact .inl h.self
   ·grind
def zD:∀(l:List Od) (i:Nat) (hi:i<l.length) (x:Int),(l.flatMap fL).set (i*5+4) (gI x)=(l.set i {l[i]with left:=x}).flatMap fL
 |o::l,0,_,x=>rfl
 |o::l,i+1,hi,x=>by
  have e:(i+1)*5+4=(fL o).length+(i*5+4):=by rw[gM];omega
  rw[eu,e,gh _ _ qZ,jN,zD l i (by simpa using hi) x];simp
def qR.setLeft{sl:Vt_}(h:qR w sl l){i:Nat}(hi:i<l.length)(x:Int):
  ∃b a e,sl=.slice (some ⟨b,0,none⟩) l.length a/\(∀k:IntKind,(iX Av sl (.int k (i:Int))).run pQ w=.ok (pt b (i*5)) w)/\
   (iF pz (pt b (i*5)) 4).run pQ w=.ok (pt b (i*5+4)) w/\(iL 2 (pt b (i*5+4))).run pQ w=.ok (gI l[i].left) w/\
   (iS 2 (pt b (i*5+4)) (gI x)).run pQ w=.ok () e/\qR e sl (l.set i {l[i]with left:=x})/\de (cK sl) w e:=by
 obtain⟨b,a,rest,rfl,p,f,o,g⟩:=h.pos qZ;have m:=h.1
 have c:(l.flatMap fL++rest)[i*5+4]? =some (gI l[i].left):=by
  rw[dC (by rw[m];omega)];have n:=oB fL 5 l i (λx _=>gM x) hi;have j:(((l.flatMap fL).drop (i*5)).take 5)[4]? =(fL l[i])[4]? :=by rw[n]
  rw[iE,bZ qZ,iY]at j;rw[j];rfl
 have d:((l.flatMap fL++rest).toArray.setIfInBounds (i*5+4) (gI x))=((l.set i {l[i]with left:=x}).flatMap fL++rest).toArray:=by
  rw[ed,gZ _ _ (by rw[m];omega),zD l i hi x]
 refine⟨b,a,w.setCell ⟨b,i*5+4,none⟩ (gI x),rfl,λk=>by simp[go_sem,hi,cS,mH],by simp[go_sem,cS],by simp[go_sem,fy f,c],by simp[go_sem,fy f,c],⟨by rw[wT gM,ey],.inr ⟨b,a,rest,by grind,by grind,?_,by grind,g⟩⟩,(de.refl _ w).setCell (.inl (show cK (.slice (some ⟨b,0,none⟩) l.length a) b from rfl)) _ _⟩;rw[nL,bZ rfl,f,iK,d]
def QD{r:List Od}(h:lp w s F buy (o::r))(h1:1<=n)(h2:n<=o.left)
  (hK:∀F' w',lp w' s F' buy (og (o::r) n)->de F w w' ->(∀b,F' b->F b\/w.heap.size<=b)->K (.tuple #[oG {o with left:=o.left - n},gI 0]) w'):Ca pQ 213 #[fQ s,gI n] w K:=by
 have D:=h.may o (by simp)
 have hm:1<=o.left/\o.left<=1000000:=by
  have:=D.1;unfold Od.may at this;simp only[cL]at this;exact dR this.2
 apply as7;obtain⟨I,e1,b1,m1⟩:=kD w;apply cI e1;obtain⟨p,L⟩:=dW w.heap.size;rw[<-L]at b1|-;have q1:=h.mod m1 eQ;have G:∀{W W' :Wt_},M0 W W' ->de F W W' :=λm=>m.to;have pF:∀{b},F b->b<p:=λa=>by rw[L];exact h.lt a
 have hsp:s<p:=pF h.self;obtain⟨⟨sl,t,c2,c3,P⟩,c5,c6⟩:=id q1;obtain⟨sa,sc,S,-⟩:=c2.isSl;have y:¬cK sl p:=λa=>by grind
 obtain⟨b,cap,w2,hsl',d,f,k,C,U,Z⟩:=c2.setLeft (i:=0) (by simp) (o.left - n);simp only[iN,nv,eU,List.set_cons_zero]at d f k C U;apply sR q1;refine qSf0 ?_;simp only[fQ,dr];refine qS1 t ?_;refine qS1 t ?_;apply jm (gI ((o::r).length:Int)) I (by rw[S];simp[go_sem]);have hne:¬(((o::r).length:Nat):Int)=0:=by simp;omega
 apply cx (.bool false) I (by simp only[go_sem];simp;omega);rw[gP];refine dK.at (λst W=>st=(.bool false,())/\W=I) ?_ ?_
 ·have h1' :¬n<1:=qZ;refine qSf1 h1' ?_;refine qS1 t ?_;refine qS1 t ?_;refine cI (d .i64) (cI f (cI k ?_));have X:¬o.left<n:=qZ;refine qS1 X ?_;exact sI
 rintro _ I ⟨rfl,rfl⟩;unfold PL;intro _;rw[gP];simp only[dr];refine qS1 t ?_;refine qS1 t ?_;refine cI (d .i64) (cI f (cI k ?_));apply cx (gI (o.left - n)) I (by simp[go_sem];rw[wI_]);refine cI (d .i64) (cI f ?_);apply ir C;have u:=Z.hpk t P;have p2:=Z.hpk b1 y;refine qS1 u ?_;refine qS1 u ?_;obtain⟨b',cap',hsl2,H,A⟩:=U.load (i:=0) (by simp);refine cI (H .i64) (cI A ?_);simp only[iN];obtain⟨w3,e3,b3,m3⟩:=kD w2;apply cI e3;obtain⟨q,T⟩:=dW w2.heap.size;rw[<-T]at b3|-;obtain⟨w4,e4,b4,m4⟩:=jK (o' :={o with left:=o.left - n}) b3;apply ir e4;have O:M0 w2 w4:=m3.on m4 λb a=>gz;have g:=O.hpk u id;have p4:=O.hpk p2 id;have o4:=U.mod O eQ;have hpq:p<q:=by have:=cB p2;omega
 have Y:¬cK sl q:=λa=>by grind
 have J:de F w w4:=((G m1).on Z λb a=>.inl ((c3 b).2 (.inr a))).trans (G O)
 have fin:∀(l:List Od) (c:Vt_) (W:Wt_),hC W s #[.bool true,.bool buy,c] 188->qR W c l->(∀b,cK c b->cK sl b)->hC W q (fL {o with left:=o.left - n}).toArray pz->hC W p (fL pC).toArray pz->
   de F w W->l=og (o::r) n->Jg (pt q 0) (pt p 0) K () W:=by
  intro l c W k1 k2 k3 k4 k5 k6 k7;unfold Jg;intro _;apply cI (lM (o:={o with left:=o.left - n}) (At.all k4));obtain⟨w7,e7,b7,Q⟩:=jK (o' :={o with left:=o.left - n}) k5;apply ir e7;apply dp (lM (o:={o with left:=o.left - n}) (At.all b7));have s7:=Q.hpk k1 qZ;have o7:qR w7 c l:=k2.mod Q λb a e=>y (by grind);subst k7;refine hK (λb=>b=s\/cK c b) w7 ⟨⟨c,s7,o7,λb=>fd,λa=>P (k3 s a)⟩,?_,?_⟩ (k6.on Q λb a=>gz) λb a=>?_
  ·unfold og;simp only;have:=c5;simp only[dc]at this;split
   ·omega
   ·grind
  ·intro x B;unfold og at B;simp only at B;by_cases z:o.left - n=0
   ·grind
   ·rw[aZ z]at B;rcases cH.1 B with rfl|B
    ·obtain⟨V,a2,a3⟩:=D;refine⟨?_,a2,a3.1,a3.2.1,a3.2.2.1,by grind⟩;unfold Od.may at V|-;simp only[cL]at V|-;exact⟨V.1,by unfold amongB;rw[dN];omega⟩
    ·grind
  ·rcases a with rfl|a
   ·exact .inl h.self
   ·grind
 refine dK.at (λst W=>∃c l,hC W s #[.bool true,.bool buy,c] 188/\qR W c l/\(∀b,cK c b->cK sl b)/\hC W q (fL {o with left:=o.left - n}).toArray pz/\hC W p (fL pC).toArray pz/\de F w W/\l=og (o::r) n) ?_ ?_
 ·have q4:=b4;unfold fL at q4;refine qS1 q4 ?_;refine qS1 q4 ?_;by_cases z:o.left - n=0
  ·refine qSt1 z ?_;refine qS1 g ?_;refine qS1 g ?_;refine vq (i:=0) (j:=1) o4 qZ (by simp) (by grind) λc w5 o5 M n5=>?_;obtain⟨xa,xc,R,-⟩:=o5.isSl;have E:=M.hpk g P;refine qS1 E ?_;obtain⟨w6,e6,b6,N⟩:=JT (v:=c) E ⟨_,_,_,R⟩;apply ir e6;refine⟨c,_,b6,o5.mod N λb a e=>P (by grind),n5,N.hpk (M.hpk b4 Y) qZ,N.hpk (M.hpk p4 y) qZ,(J.on M λb a=>.inl ((c3 b).2 (.inr a))).on N λb a=>.inl (by grind),?_⟩;unfold og;simp[z]
  ·refine qSf1 z ?_;refine⟨sl,_,g,o4,λb a=>a,b4,p4,J,?_⟩;unfold og;simp[z]
 ·grind
def Ob{left:Int}(h:lp w s F buy l)(o:jl left)
  (g:∀E t,lp t s E buy (wZ l n left).2->de F w t->(∀b,E b->F b\/w.heap.size<=b)->K (gI (wZ l n left).1) t):Ca pQ 173 #[fQ s,gQ n,gI left] w K:=by
 apply ao0;have e:∀{W D:Wt_},M0 W D->de F W D:=λm=>m.to;refine Aw h (λN d B f=>?_) λi y N k B f=>?_
 ·have:wZ l n left=(7,l):=by unfold wZ;rw[d]
  rw[this]at g;refine qS0 ?_;refine qS0 ?_;refine qSt0 ?_;exact g F _ (h.mod f eQ) (e f) λb c=>.inl c
 ·have a:wZ l n left=if left<1\/l[i].left<left then(2,l)else(0,l.set i {l[i]with left:=left}):=by
   unfold wZ;rw[k];simp only;rw[cE y]
  have L:=h.mod f eQ;obtain⟨⟨sl,p,P,H,J⟩,S,I⟩:=id L;obtain⟨b,O,M,G,d,j,A,u,Q,C⟩:=P.setLeft y left;refine qS0 ?_;refine qS0 ?_;refine qSf0 ?_;refine dK.at (λst W=>st=(.bool (decide (left<1\/l[i].left<left)),())/\W=B) ?_ ?_
  ·by_cases q:left<1
   ·refine qSt1 q ?_;simp[q]
   ·refine qSf1 q ?_;simp only[fQ,dr];refine qS1 p ?_;refine qS1 p ?_;refine cI (d .i64) (cI j (cI A ?_));refine qS0 ?_;simp[q]
  rintro _ B ⟨rfl,rfl⟩;unfold O5;intro _;by_cases c:left<1\/l[i].left<left
  ·rw[bZ c]at a;rw[a]at g;rw[qo c];exact g F _ L (e f) λb c=>.inl c
  ·rw[aZ c]at a;rw[a]at g;rw[DN c];simp only[fQ,dr];refine qS1 p ?_;refine qS1 p ?_;refine cI (d .i64) (cI j ?_);apply ir u;refine g (λb=>b=s\/cK sl b) M ⟨⟨sl,C.hpk p J,Q,λb=>fd,J⟩,by grind,λx z=>?_⟩ ((e f).on C λb c=>.inl ((H b).2 (.inr c))) λb c=>.inl ((H b).2 c);rcases gG z with z|rfl
   ·exact I x z
   ·obtain⟨r,R,v⟩:=I l[i] (cC y);refine⟨?_,R,v.1,v.2.1,v.2.2.1,o⟩;unfold Od.may at r|-;simp only[cL]at r|-;have T:=dR r.2;exact⟨r.1,by unfold amongB;rw[dN];omega⟩
def JG:(l.findIdx? λx=>decide (x.num=n)).isSome=l.any λx=>decide (x.num=n):=by
 rw[List.findIdx?_isSome]
def Ue(h:lp w s F buy l)(hof:o.Fit)
  (z:∀F' w',lp w' s F' buy (rX buy l o).2->de F w w' ->(∀b,F' b->F b\/w.heap.size<=b)->K (gI (rX buy l o).1) w'):Ca pQ 214 #[fQ s,oG o] w K:=by
 apply ac4;have t:∀{W W' :Wt_},M0 W W' ->de F W W' :=λm=>m.to;have m0:M0 w (w.alloc (.cells #[fQ s] 142)):=lm;obtain⟨p,J⟩:=dW w.heap.size;apply cx (pt p 0) (w.alloc (.cells #[fQ s] 142)) (by rw[J];simp[go_sem,fQ]);have b0:hC (w.alloc (.cells #[fQ s] 142)) p #[fQ s] 142:=by rw[J];simp[go_sem]
 generalize w.alloc (.cells #[fQ s] 142)=w0 at m0 b0|-;obtain⟨U,e1,b1,m1⟩:=vt o w0;apply cI e1;obtain⟨q,hq0⟩:=dW w0.heap.size;rw[<-hq0]at b1|-;have p1:=m1.hpk b0 id;have Z:=m0.trans m1;have X:=h.mod Z eQ;have pF:∀{b},F b->b<p:=λc=>by rw[J];exact h.lt c
 have g:∀{W},M0 U W->hC W p #[fQ s] 142:=λm=>m.hpk p1 id;have n:∀{W},M0 U W->hC W q (fL o).toArray pz:=λm=>m.hpk b1 id;refine qS1 p1 ?_;apply sR X;refine qSf0 ?_;refine dK.at (λst W=>st=(.bool (decide (¬o.may\/o.buy≠buy)),())/\M0 U W) ?_ ?_
 ·have md:M0 U U.drew:=mP;apply dp (lM (o:=o) (At.all (n md)));refine Ab λw2 H=>?_;have G:=md.trans H;apply dX (.bool (!o.may)) (λW=>by simp[go_sem]);cases hm:o.may with
  |false=>
   rw[cy,bZ (by simp)];exact⟨by simp,G⟩
  |true=>
   rw[cy,aZ (by simp)];have M:=n G;unfold fL at M;obtain⟨⟨sl,B,c2,c3,c4⟩,c5,c6⟩:=X.mod G eQ;have p2:=g G;refine qP0 ?_;refine qW1 M ?_;refine qW1 p2 ?_;simp only[fQ,dr];refine qP0 ?_;refine qW1 B ?_;apply dX (.bool (decide (o.buy≠buy))) (λW=>by cases o.buy<;>cases buy<;>simp[go_sem]);exact⟨by simp,G⟩
 rintro _ w2 ⟨rfl,H⟩;unfold Rj;intro _;have G:=Z.trans H;have R:=X.mod H eQ;by_cases d:¬o.may\/o.buy≠buy
 ·have I:rX buy l o=(2,l):=by unfold rX;rw[bZ d]
  rw[I]at z;rw[qo d];exact z F _ R (t G) λb c=>.inl c
 rw[DN d];have p2:=g H;have M:=n H;refine qS1 p2 ?_;unfold fL at M;refine qS1 M ?_;refine qS1 M ?_;refine Rw R λw3 m3=>?_;have M3:=H.trans m3;have T:=Z.trans M3;have h3:=R.mod m3 eQ;by_cases j:(l.any λx=>decide (x.num=o.num))=true
 ·have I:rX buy l o=(8,l):=by unfold rX;rw[aZ d,bZ j]
  rw[I]at z;rw[<-JG]at j;obtain⟨i,hi⟩:=kY.1 j;obtain⟨_,_,_,e⟩:=xq hi;rw[e];refine qSt0 ?_;exact z F _ h3 (t T) λb c=>.inl c
 have hno:(l.findIdx? λx=>decide (x.num=o.num))=none:=by
  cases D:l.findIdx? λx=>decide (x.num=o.num)with
  |none=>rfl
  |some i=>exact absurd (by grind) j
 rw[(zm hno).2];refine qSf0 ?_;obtain⟨⟨sl,B,c2,c3,c4⟩,c5,c6⟩:=id h3;obtain⟨sa,sc,N,-⟩:=c2.isSl;have p3:=g M3;refine qS1 p3 ?_;simp only[fQ,dr];refine qS1 B ?_;refine qS1 B ?_;apply jm (gI (l.length:Int)) w3 (by rw[N];simp[go_sem]);by_cases r:100<=l.length
 ·have I:rX buy l o=(9,l):=by unfold rX;rw[aZ d,aZ j,bZ r]
  rw[I]at z;have f:(100:Int)<=(l.length:Int):=qZ;refine qSt1 f ?_;exact z F _ h3 (t T) λb c=>.inl c
 have f:¬(100:Int)<=(l.length:Int):=qZ;refine qSf1 f ?_;have I:rX buy l o=(0,tK buy l o):=by unfold rX;rw[aZ d,aZ j,aZ r]
 rw[I]at z;refine qS1 p3 ?_;simp only[fQ,dr];refine qS1 B ?_;refine qS1 B ?_;refine wE (p:=λx=>sx buy o.price x.price) c2.rd qZ ⟨_,_,rfl,λx A W mW K' hK' =>?_⟩ λk m4=>?_
 ·apply am3;obtain⟨W1,e1,d1,n1⟩:=vt x W;apply cI e1;have MW:=(M3.trans mW).trans n1;have pW:=g MW;have qW:=n MW;unfold fL at d1 qW;refine qS1 pW ?_;refine qS1 qW ?_;refine qS1 qW ?_;refine qS1 d1 ?_;refine qS1 d1 ?_;apply DE (X.mod MW eQ);exact hK' _ n1
 have Q:=M3.trans m4;have h4:=h3.mod m4 eQ;have u:=m4.hpk B id
 have V:J9 buy l o.price<=l.length:=by
  unfold J9;cases D:l.findIdx? λx=>sx buy o.price x.price with
  |none=>exact cJ _
  |some i=>
   obtain⟨hi,_⟩:=xq D;simp only[fT];omega
 refine dK.at (λst W=>st=(gI (J9 buy l o.price:Nat),())/\W=k) ?_ ?_
 ·cases D:l.findIdx? λx=>sx buy o.price x.price with
  |none=>
   rw[(zm D).2];refine qSt0 ?_;have p4:=g Q;refine qS1 p4 ?_;simp only[fQ,dr];refine qS1 u ?_;refine qS1 u ?_;apply jm (gI (l.length:Int)) k (by rw[N];simp[go_sem]);refine⟨?_,rfl⟩;unfold J9;rw[D];rfl
  |some i=>
   obtain⟨_,_,_,e⟩:=xq D;rw[e];refine qSf0 ?_;refine⟨?_,rfl⟩;unfold J9;rw[D];rfl
 rintro _ k ⟨rfl,rfl⟩;unfold PC;intro _;have md:M0 k k.drew:=mP;have pd:=g (Q.trans md);have qd:=n (Q.trans md);have cd:=md.hpk u id;refine qW1 pd ?_;refine qW1 pd ?_;simp only[fQ,dr];refine qP0 ?_;refine qW1 cd ?_;apply dp (lM (o:=o) (At.all qd));refine oJ [oG o] mH (eO Oh) rfl rfl (by intro v hv;rw[eK.1 hv];rfl) qZ ?_;have e0:(([oG o]:LV_).flatMap (·.cells.toList)).toArray=(fL o).toArray:=rfl;rw[e0];have m5:M0 k.drew (k.drew.alloc (.cells (fL o).toArray pz)):=lm;have S:=md.trans m5
 have P:qR (k.drew.alloc (.cells (fL o).toArray pz)) (.slice (some ⟨k.drew.heap.size,0,none⟩) 1 1) [o]:=
  ⟨rfl,.inr ⟨_,1,[],rfl,cJ _,by rw[gy,bZ rfl];simp,by simp,by simp⟩⟩
 have Y:∀b,cK (.slice (some ⟨k.drew.heap.size,0,none⟩) 1 1) b->b=k.drew.heap.size:=λb c=>by cases c;rfl
 generalize k.drew.alloc (.cells (fL o).toArray pz)=w5 at m5 S P|-;have p5:=g (Q.trans S);have C:=S.hpk u id;refine⟨by simp[go_sem,C],by simp[go_sem,p5,fQ],by simp[go_sem,p5,fQ],?_⟩;obtain⟨⟨L,k1,k2,k3,k4⟩,k5,k6⟩:=h4.mod S eQ
 have esl:L=sl:=by
  have:=C.symm.trans k1;simp only[jr,Obj.cells.injEq]at this;have:=fC (λa:Array Value=>a[2]?) this.1;simp at this;exact this.symm
 subst esl;have O:∀b,cK L b->b<w3.heap.size:=λb c=>c2.lt c;have hsz43:=m4.size;refine GL k2 P (λb c hb' =>by have X:=O b c;have R:=Y b hb';rw[Ed]at R;omega) V qZ λs6 w6 o6 m6 n6=>?_;obtain⟨xa,xc,hs6,-⟩:=o6.isSl;have hps:¬cK L p:=λc=>by grind
 have p6:=m6.hpk p5 hps;have c6' :=m6.hpk C k4;refine⟨by simp[go_sem,p6,fQ],?_⟩;refine qP0 ?_;obtain⟨w7,e7,b7,m7⟩:=JT (v:=s6) c6' ⟨_,_,_,hs6⟩;apply ir e7;have E:=Z.trans (Q.trans S)
 have y:¬cK s6 s:=λc=>by
  rcases n6 s c with h' |h'
  ·exact k4 h'
  ·have:=pF h.self;have:=E.size;omega
 have MF:de F w w7:=((t E).on m6 λb c=>.inl ((k3 b).2 (.inr c))).on m7 λb c=>.inl (by grind);refine z (λb=>b=s\/cK s6 b) w7 ⟨⟨s6,b7,o6.mod m7 λb c e=>y (by grind),λb=>fd,y⟩,?_,?_⟩ MF λb c=>?_
 ·unfold tK;rw[cD,cZ,dc,dV,fS V];omega
 ·intro x A;unfold tK at A;rcases dg.1 A with A|A
  ·grind
  ·rcases cH.1 A with rfl|A
   ·have:x.may=true/\x.buy=buy:=by
     constructor
     ·grind
     ·grind
    exact⟨this.1,this.2,hof⟩
   ·grind
 ·rcases c with rfl|c
  ·exact .inl h.self
  ·rcases n6 b c with h' |h'
   ·grind
   ·have:=E.size;exact gz
end Go.Proofs
namespace Go.Vc
open Go Go.Shelf Go.RowKit Go.Lib Go.Sort Go.Proofs
def Dk{P:Program}(h:wV P=true){g:FuncId}(f:∃fn,P.funcs[g]? =some fn/\fn.body.isSome=true)(c:Array Value)(w:World):(callFunc g c).run P w=.ok (.enter g c) w:=by
 obtain⟨fn,e,f⟩:=f
 have d:(fn.name== "runtime.NumGoroutine")=false:=by
  have:=(nh.1 h) fn (Array.mem_of_getElem? e);simpa using this
 have a:¬fn.name= "runtime.NumGoroutine" :=by simpa using d
 have b:¬fn.body=none:=by grind
 unfold callFunc;simp[fE,Result.andThen,e,a,b]
def Af{α:Type} [Inhabited α](enc:α->List Value)(k:Nat)(c:0<k)(a:∀x,(enc x).length=k)(d:Array α):(flatK enc k d).toList=d.toList.flatMap enc:=by
 have l:(d.toList.flatMap enc).length=d.size*k:=by rw[uE enc k _ λx _=>a x];simp
 apply ny;intro t;by_cases e:t<d.size*k
 ·have i:(flatK enc k d).toList[t]? =some (flatK enc k d)[t]! :=by
   rw[nN,kz (by simpa using e),jP _ t (by simpa using e)]
  rw[i,get_flatK enc k d t e];have f:t / k<d.size:=Nat.div_lt_of_lt_mul (by grind);have b:t%k<k:=gR _ c;have g:=oB enc k d.toList (t / k) (λx _=>a x) (by simpa using f)
  have j:(d.toList.flatMap enc)[t]? =((d.toList.flatMap enc).drop (t / k*k) |>.take k)[t%k]? :=by
   rw[iE,bZ b,iY,qK]
  rw[j,g]
  have h:d[t / k]! =d.toList[t / k]'(by simpa using f):=by
   rw[jP d _ f];simp
  rw[h,jP _ _ (by rw[a];exact b),cE (by rw[a];exact b)]
 ·rw[ky (by simp;omega),ky qZ]
def Gj(F rest cs:List Value)(h:F.length=cs.length):putCells id 0 F.toArray (cs++rest).toArray=(F++rest).toArray:=by
 apply Array.ext_getElem?;intro t;simp only[putCells,Array.getElem?_mapIdx,eX,eT,nY,tJ,eU,lz,id];by_cases a:t<F.length
 ·grind
 ·grind
section
variable{P:Program}{ρ:Ren}{α:Type} [Inhabited α]
def Hq(hP:wV P=true)(L:SlLaysF0.n6 P ρ)(k:Nat)(S:pY P (ρ.t 24)=true)(U:P.cellsOf (ρ.t 24)=k+1)(enc:α->List Value)(s:∀x,(enc x).length=k+1)(V:∀x,(enc x).all (·.oneCell')=true)
  (cf:α->α->Int)(X:SWO (ltOf cf))(g:Nat)(A:∀(x y:α) (W:World),Ca P g #[.agg (enc x).toArray,.agg (enc y).toArray] W λv w' =>v=.int .i64 (cf x y)/\∃q os,w' =grow (W.drewN q) os)
  {e:TypeId}{w:World}{sl:Value}{n:Nat}{d:List α}{K:cG}(O:jo w e (k+1) sl n (d.flatMap enc))(hn:n<4611686018427387904)
  (N:∀(w' :World) (a:List α),jo w' e (k+1) sl n (a.flatMap enc)->a.Perm d->a.Pairwise (λx y=>ltOf cf y x=false)->de (cK sl) w w' ->K (.tuple #[]) w'):
  Ca P (ρ.f 6) #[sl,.func (.func g) #[] #[]] w K:=by
 have h:d.length=n:=by
  have:=O.1;rw[uE enc (k+1) d λx _=>s x]at this;exact Nat.eq_of_mul_eq_mul_right (ri k) this
 obtain⟨Q,⟨rfl,rfl⟩|⟨b,p,rest,rfl,hc,C,hr,I⟩⟩:=O
 ·have R:d=[]:=List.length_eq_zero_iff.1 h;subst R;have:=AnyF.slices_SortFunc_none L none 0 (.func (.func g) #[] #[]) w;exact⟨nM this λe w' ⟨M,F⟩=>⟨_,M,by subst F;exact N _ [] (jo.nil ..) (fw _) List.Pairwise.nil lX⟩⟩
 ·have T:b<w.heap.size:=cB C;have J:=Dk hP (A default default w).bodied
  have hH:HoldsK enc (k+1) w b 0 d.toArray:=by
   intro j D;rw[size_flatK]at D
   have Z:(flatK enc (k+1) d.toArray)[j]! =(d.flatMap enc)[j]'(by grind):=by
    rw[jP _ j (by rw[size_flatK];exact D),<-Array.getElem_toList];congr 1;exact Af enc (k+1) (ri k) s d.toArray
   have G:j<(d.flatMap enc).length:=by grind
   constructor
   ·simp only[World.cell?,C,eU];rw[Z];simp[dC G]
   ·simp[World.frozen?,C]
  have z:CmpLays P g #[] enc (k+1) cf b 0 d.toArray.size w:=λm os dk _ x y=>by
   apply nM (A x y _).out;rintro e w' ⟨v,rfl,rfl,F⟩;exact⟨rfl,F⟩
  have l:=AnyQ.slices_SortFunc L (k+1) (AS S) (oK U) enc s (λx v hv=>dF.1 (V x) v hv) cf X g #[] b 0 p d.toArray w J z hH T (by grind);rw[show d.toArray.size=n by simpa using h]at l;refine⟨nM l ?_⟩;rintro e' w' ⟨rfl,a,m,os,hp,hs,rfl⟩;refine⟨_,rfl,?_⟩;have u:a.size=n:=by rw[hp.1];simpa using h
  have H:(flatK enc (k+1) a).toList=a.toList.flatMap enc:=Af enc (k+1) (ri k) s a;have B:flatK enc (k+1) a=(a.toList.flatMap enc).toArray:=by rw[<-H]
  have c:(a.toList.flatMap enc).length=(d.flatMap enc).length:=by
   rw[Q,uE enc (k+1) _ λx _=>s x];simp[u]
  have o:∀f,f<w.heap.size->(sortWorldK enc (k+1) w b 0 m a os).heap[f]? =if f=b then some (.cells (a.toList.flatMap enc++rest).toArray e (0,0))else w.heap[f]? :=by
   intro f r;show((w.heap.modify b (onCells (putCells id 0 (flatK enc (k+1) a))))++os)[f]? =_;rw[Array.getElem?_append_left (by simpa using r),nT];by_cases M:f=b
   ·subst M;rw[bZ rfl,bZ rfl,C];simp only[iD,onCells];rw[B,Gj _ _ _ c]
   ·grind
  have t:de (cK (.slice (some ⟨b,0,none⟩) n p)) w (sortWorldK enc (k+1) w b 0 m a os):=by
   refine⟨?_,rfl,rfl,λf r hf=>?_⟩
   ·grind
   ·rw[o f r,aZ (λe=>hf (by subst e;rfl))]
  refine N _ a.toList ⟨by rw[c,Q],.inr ⟨b,p,rest,rfl,hc,by grind,hr,I⟩⟩ ?_ ?_ t
  ·have:=hp.2.2;have e1:a.extract 0 n=a:=by rw[<-u];simp
   have Y:d.toArray.extract 0 n=d.toArray:=by rw[<-h];simp
   rw[e1,Y]at this;simpa using this
  ·rw[eI];intro i j hi D E;have:=hs i j (nY _) E (by grind);rw[jP a i (by simpa using hi),jP a j (by simpa using D)]at this;simpa using this
end
end Go.Vc
namespace Go.Proofs
open Go Go.Vc Go.Shelf Go.RowKit Go.Lib Go.Sort
def eM{p:Prop}(h:p:=by first|kernel_rfl|(intro _;kernel_rfl)):p:=h
def fb{f:FuncId}{B:Func}(h:((Tryz.prog.funcs[f]?.elim "" (·.name))== "runtime.NumGoroutine")=false:=by kernel_rfl)(g:Tryz.prog.funcs[f]? =some {B with name:=Tryz.prog.funcs[f]?.elim "" (·.name)}:=by kernel_rfl):Bears Tryz.prog f B:=⟨_,h,g⟩
def Tryz.sortAc_ren:Ren:=⟨λ|6=>100|15=>150|14=>149|28=>192|29=>193|20=>184|21=>185|22=>186|23=>187|24=>188|25=>189|26=>190|27=>191|46=>222|47=>223|48=>224|49=>225|50=>226|57=>250|n=>n,λ|22=>56|24=>70|25=>182|3=>3|39=>203|0=>0|53=>23|55=>24|4=>4|46=>295|45=>294|50=>210|5=>5|9=>9|66=>327|70=>330|76=>349|77=>350|n=>n,λ|n=>n⟩
def Tryz.sortAc:SlLaysF0.n6 Tryz.prog Tryz.sortAc_ren:=by constructor<;>first|exact eM|exact fb
def Tryz.sortPo_ren:Ren:=⟨λ|6=>153|15=>150|14=>194|28=>192|29=>193|20=>227|21=>228|22=>229|23=>230|24=>231|25=>232|26=>233|27=>234|46=>251|47=>223|48=>224|49=>252|50=>253|57=>262|n=>n,λ|22=>58|24=>79|25=>242|3=>3|39=>203|0=>0|53=>23|55=>24|4=>4|46=>295|45=>294|50=>210|5=>5|9=>9|66=>327|70=>330|76=>349|77=>350|n=>n,λ|n=>n⟩
def Tryz.sortPo:SlLaysF0.n6 Tryz.prog Tryz.sortPo_ren:=by constructor<;>first|exact eM|exact fb
end Go.Proofs
namespace Go.Proofs
open Go Go.Vc Go.Sort
variable {S:Led}{F:NP_}{n b l:Nat}{T:TypeId}{sl:Vt_}{w:Wt_}{K:cG}
def xj(W:Wt_)(o o' :Obj):∃q os,(W.alloc o).alloc o' =grow (W.drewN q) os:=
 ⟨0,#[o]++ #[o'],by rw[alloc_eq_grow,alloc_eq_grow,grow_grow];rfl⟩
def Bn(x y:Ac):Int:=if x.num<y.num then -1 else 1
def zw(x y:Po):Int:=if klt x.key y.key then -1 else if x=y then 0 else 1
def Qc(x y:Ac):ltOf Bn x y=decide (x.num<y.num):=by
 unfold ltOf Bn;split<;>simp_all
def QM(x y:Po):ltOf zw x y=klt x.key y.key:=by
 unfold ltOf zw;cases h:klt x.key y.key
 ·grind
 ·simp
def ah2:SWO (ltOf Bn) where
 irrefl x:=by rw[Qc];simp
 trans x y z h1 h2:=by rw[Qc]at*;simp at*;omega
 ntrans x y z h1 h2:=by rw[Qc]at*;simp at*;omega
def ao2:SWO (ltOf zw) where
 irrefl x:=by rw[QM];exact klt_irr
 trans x y z h1 h2:=by rw[QM]at*;exact klt_trans h1 h2
 ntrans x y z h1 h2:=by
  rw[QM]at*;rw[kI,Ne,klt_iff]at*;omega
def Px(x y:Ac)(W:Wt_):Ca pQ 101 #[.agg (dH x).toArray,.agg (dH y).toArray] W λv a=>v=gI (Bn x y)/\∃q os,a=grow (W.drewN q) os:=by
 apply as0;simp[go_sem,dH];unfold Bn;split
 ·exact⟨rfl,xj ..⟩
 ·exact⟨rfl,xj ..⟩
def Rk(x y:Po)(W:Wt_):Ca pQ 154 #[.agg (ec x).toArray,.agg (ec y).toArray] W λv o=>v=gI (zw x y)/\∃q os,o=grow (W.drewN q) os:=by
 apply ak5;simp[go_sem,ec];generalize d:World.alloc _ _=f;have h:∃q os,f=grow (W.drewN q) os:=by subst d;exact xj ..
 have n:hC f W.heap.size #[.int .u32 x.c,gU x.a,gI x.q,gI x.b] 79:=by subst d;simp[go_sem]
 have l:hC f (W.heap.size+1) #[.int .u32 y.c,gU y.a,gI y.q,gI y.b] 79:=by subst d;simp[go_sem]
 refine dK.at (λs p=>s=(.bool (klt x.key y.key),())/\p=f) ?_ ?_
 ·simp[go_sem,fy n,fy l];unfold klt Po.key;by_cases e:x.c<y.c
  ·simp[e]
  ·by_cases g:x.c=y.c
   ·simp[e,g]
   ·simp[e,g]
 rintro _ f ⟨rfl,rfl⟩;unfold Oo;intro _;cases j:klt x.key y.key
 ·simp[go_sem,fy n,fy l]
  have i:x=y↔x.c=y.c/\x.a=y.a/\x.q=y.q/\x.b=y.b:=by
   obtain⟨c,a,q,b⟩:=x;obtain⟨r,u,w,t⟩:=y;simp
  by_cases e:x.c=y.c<;>by_cases g:x.a=y.a<;>by_cases m:x.q=y.q<;>by_cases k:x.b=y.b<;>simp[e,g,m,k]<;>exact⟨by simp[zw,j,i,e,g,m,k],h⟩
 ·simp;exact⟨by simp[zw,j],h⟩
def az8:lN pQ 70 4 24=true:=cU
def Nh{d:List Ac}(b:jo w 70 4 sl n (d.flatMap dH))(e:n<4611686018427387904)
  (c:∀(w' :Wt_) (a:List Ac),jo w' 70 4 sl n (a.flatMap dH)->a.Perm d->a.Pairwise (λx y=>ltOf Bn y x=false)->de (cK sl) w w' ->K (.tuple #[]) w'):
  Ca pQ 100 #[sl,.func (.func 101) #[] #[]] w K:=
 Hq (P:=pQ) (α:=Ac) Tryz.noNum Tryz.sortAc 3 cU cU dH (λ_=>rfl) (λ_=>rfl) Bn ah2 101 Px b e c
def I1{y:Vt_}{xs:List Ac}(J:Nat->World->Prop)(F:World->Prop){W:Wt_}{K:cG}(I:hC W b #[sl] T)(v:jo W 70 4 sl n (xs.flatMap dH))(U:n<4611686018427387904)
  (H:J 0 W)(l:∀i W a,J i W->M0 W a->J i a)
  (d:∀i x W,xs[i]? =some x->J i W->∀A:cG,(∀a,J (i+1) a->(∀b,cK sl b->a.heap[b]? =W.heap[b]?)->A (.bool true) a)->(∀a,F a->A (.bool false) a)->iv pQ y [oz x] W A)
  (g:∀W,J xs.length W->K (.tuple #[]) W)(z:∀W,F W->K (.tuple #[]) W):Ca pQ 151 #[y,.pointer (some ⟨b,0,none⟩)] W K:=by
 have u:xs.length=n:=by
  have:=v.1;rw[uE dH 4 xs λx _=>rfl]at this;omega
 obtain⟨sa,sc,rfl,Q⟩:=v.isSl;apply aj3;simp[go_sem,fy I]
 refine Bt (λs a=>∃i:Nat,i<=n/\s=(gI i,())/\J i a/\jo a 70 4 (.slice sa n sc) n (xs.flatMap dH))
  (λs _=>match s.1 with| .int _ i=>n - i.toNat|_=>0) ⟨0,qZ,rfl,H,v⟩ ?_
 rintro⟨_,_⟩ a ⟨i,S,⟨⟩,D,B⟩ R q;unfold Q7;intro _;by_cases f:i<n
 ·obtain⟨G,t,M,m⟩:=jo.elem B f;obtain⟨rfl,-,rfl⟩:sa=some ⟨G,0,none⟩/\True/\sc=t:=by grind
  rw[oB dH 4 _ _ (λ_ _=>rfl) qZ]at m;obtain⟨C,e,fz,hC,c⟩:=m.get;have j:=c 0 _ rfl;have p:=c 1 _ rfl;have h:=c 2 _ rfl;have k:=c 3 _ rfl;simp only[eU,dS]at j p h k;have w:IntKind.i64.wrap ((i:Int)+1)=((i+1:Nat):Int):=by rw[eF];omega
  simp[-Int.natCast_add,go_sem,f,hC,j,p,h,k];have O:xs[i]? =some xs[i]:=cE qZ;have E:∀o,M0 a (a.alloc o):=λo=>(de.refl _ a).alloc o;refine d i _ _ O (l _ _ _ D (E _)) _ (λP r L=>?_) (λP N=>?_)
  ·simp[-Int.natCast_add,go_sem,w];refine q _ _ ⟨i+1,qZ,rfl,r,(B.mod (E _) eQ).keep L⟩ (by simp;omega)
  ·simp[go_sem];exact z _ N
 ·obtain rfl:i=n:=qZ;simp[go_sem];exact g _ (u▸D)
def NU{d:List Po}(b:jo w 79 4 sl n (d.flatMap ec))(e:n<4611686018427387904)
  (c:∀(w' :Wt_) (a:List Po),jo w' 79 4 sl n (a.flatMap ec)->a.Perm d->a.Pairwise (λx y=>ltOf zw y x=false)->de (cK sl) w w' ->K (.tuple #[]) w'):
  Ca pQ 153 #[sl,.func (.func 154) #[] #[]] w K:=
 Hq (P:=pQ) (α:=Po) Tryz.noNum Tryz.sortPo 3 cU cU ec (λ_=>rfl) (λ_=>rfl) zw ao2 154 Rk b e c
def Ja{y:Vt_}{xs:List Po}(J:Nat->World->Prop)(F:World->Prop){W:Wt_}{K:cG}(I:hC W b #[sl] T)(v:jo W 79 4 sl n (xs.flatMap ec))(U:n<4611686018427387904)
  (H:J 0 W)(l:∀i W a,J i W->M0 W a->J i a)
  (d:∀i x W,xs[i]? =some x->J i W->∀A:cG,(∀a,J (i+1) a->(∀b,cK sl b->a.heap[b]? =W.heap[b]?)->A (.bool true) a)->(∀a,F a->A (.bool false) a)->iv pQ y [tn x] W A)
  (g:∀W,J xs.length W->K (.tuple #[]) W)(z:∀W,F W->K (.tuple #[]) W):Ca pQ 195 #[y,.pointer (some ⟨b,0,none⟩)] W K:=by
 have u:xs.length=n:=by
  have:=v.1;rw[uE ec 4 xs λx _=>rfl]at this;omega
 obtain⟨sa,sc,rfl,Q⟩:=v.isSl;apply as5;simp[go_sem,fy I]
 refine Bt (λs a=>∃i:Nat,i<=n/\s=(gI i,())/\J i a/\jo a 79 4 (.slice sa n sc) n (xs.flatMap ec))
  (λs _=>match s.1 with| .int _ i=>n - i.toNat|_=>0) ⟨0,qZ,rfl,H,v⟩ ?_
 rintro⟨_,_⟩ a ⟨i,S,⟨⟩,D,B⟩ R q;unfold P3;intro _;by_cases f:i<n
 ·obtain⟨G,t,M,m⟩:=jo.elem B f;obtain⟨rfl,-,rfl⟩:sa=some ⟨G,0,none⟩/\True/\sc=t:=by grind
  rw[oB ec 4 _ _ (λ_ _=>rfl) qZ]at m;obtain⟨C,e,fz,hC,c⟩:=m.get;have j:=c 0 _ rfl;have p:=c 1 _ rfl;have h:=c 2 _ rfl;have k:=c 3 _ rfl;simp only[eU,dS]at j p h k;have w:IntKind.i64.wrap ((i:Int)+1)=((i+1:Nat):Int):=by rw[eF];omega
  simp[-Int.natCast_add,go_sem,f,hC,j,p,h,k];have O:xs[i]? =some xs[i]:=cE qZ;have E:∀o,M0 a (a.alloc o):=λo=>(de.refl _ a).alloc o;refine d i _ _ O (l _ _ _ D (E _)) _ (λP r L=>?_) (λP N=>?_)
  ·simp[-Int.natCast_add,go_sem,w];refine q _ _ ⟨i+1,qZ,rfl,r,(B.mod (E _) eQ).keep L⟩ (by simp;omega)
  ·simp[go_sem];exact z _ N
 ·obtain rfl:i=n:=qZ;simp[go_sem];exact g _ (u▸D)
def Tq{d l:List Ac}(c:SortA l)(hp:d.Perm l)(k:d.Pairwise λx y=>ltOf Bn y x=false):d=l:=by
 refine hp.eq_of_pairwise (λa b m o i g=>?_) k (c.imp λh=>?_)
 ·rw[Qc]at i g;simp only[jh]at i g;have f:=hp.mem_iff.1 m;have e:a.num=b.num:=qZ;have j:=Led.find_some (S:=⟨0,l,[]⟩) c f;have n:=Led.find_some (S:=⟨0,l,[]⟩) c o;rw[e,n]at j;exact(dB j).symm
 ·rw[Qc];simp only[jh];omega
def Ty{d l:List Po}(f:SortP l)(hp:d.Perm l)(k:d.Pairwise λx y=>ltOf zw y x=false):d=l:=by
 refine hp.eq_of_pairwise (λa b m o g c=>?_) k (f.imp λh=>?_)
 ·rw[QM]at g c;have i:=hp.mem_iff.1 m
  have e:a.key=b.key:=by
   rcases klt_tri a.key b.key with h|h|h
   ·rw[h]at c;cases c
   ·exact h
   ·rw[h]at g;cases g
  have j:=Led.pos_some (S:=⟨0,[],l⟩) f i;have n:=Led.pos_some (S:=⟨0,[],l⟩) f o;rw[e,n]at j;exact(dB j).symm
 ·rw[QM];exact klt_asymm h
def Pf{e ty f:TypeId}{k by_:Nat}{α:Type}{enc:α->List Value}{v:Vt_}{d:List α}{x:α}(g:Tryz.prog.underlying f=some (.slice e))(p:lN pQ e (k+1) by_=true)(q:(enc x).length=k+1)(u:(enc x).all (·.oneCell')=true)(E:k<1000)(j:by_<=10000)
  (z:jo w e (k+1) v d.length (d.flatMap enc))(D:d.length<4294967296)
  (y:∀c a,jo a e (k+1) c (d++[x]).length ((d++[x]).flatMap enc)->de (cK v) w a->(∀b,cK c b->cK v b\/w.heap.size<=b)->K c a):
  rx pQ (jQ f 1 [(0,.agg (enc x).toArray)]) w λl i=>rx pQ (eg #[f,f] ty [v,l]) i K:=by
 refine oJ (e:=e) (sz:=k+1) [.agg (enc x).toArray] g (eO p) rfl rfl (by simp[Value.cells,q]) qZ ?_;have r:∀o,M0 w (w.alloc o):=λo=>(de.refl _ w).alloc o
 have A:Rd (w.alloc (.cells (([Value.agg (enc x).toArray].flatMap (·.cells.toList)).toArray) e)) (k+1) (.slice (some ⟨w.heap.size,0,none⟩) 1 1) 1 (enc x):=by
  refine⟨by rw[q];omega,.inr ⟨_,0,1,rfl,cJ _,⟨_,_,_,by rw[gy,bZ rfl],?_,?_⟩⟩⟩
  ·simp[Value.cells]
  ·simp[Value.cells]
 refine jR (n:=d.length) (m:=1) g g (eO p) (z.mod (r _) eQ) A u ?_ λc a B C s=>?_
 ·have:(d.length+1)*by_<=4294967296*10000:=jE qZ j;omega
 ·refine y c a ?_ (((r _).to).trans C) λb t=>?_
  ·simpa using B
  ·rcases s b t with h|h
   ·exact .inl h
   ·rw[eG]at h;exact gz
def aE0:Tryz.prog.underlying 56=some (.slice 70):=cU
def aC0:Tryz.prog.underlying 58=some (.slice 79):=cU
def Iy:CW pQ (.func (.func 99) #[] #[.pointer (some ⟨b,0,none⟩)]) (S.all.map λa=>[oz a]) (λW=>hC W b #[iG l] T/\∃F,lA W l F S):=by
 refine⟨⟨_,_,_,rfl,?_⟩⟩;rintro y J Js W K ⟨c,F,hq⟩ hQ C V hend hex;have R:=hq;obtain⟨⟨q,m2,A,B,O,N,h3,h4,h5,h6,h7⟩,g⟩:=hq;show Ca pQ _ #[y,.pointer (some ⟨b,0,none⟩)] W K;apply aw2;refine dK.at (λs f=>∃(d:List Ac) (v:Vt_),s=(v,())/\jo f 70 4 v d.length (d.flatMap dH)/\d.Perm S.all/\M0 W f/\∀b,cK v b->W.heap.size<=b) ?_ ?_
 ·simp[go_sem,fy c];apply pU R;simp[go_sem,fy c,iG,fy O];refine sw vh N λw1 H D=>?_;generalize hg:W.heap.size=m at H
  refine Bt (λs f=>∃(d:List Ac) (v:Vt_) (rest:List (Int×Ac)),s=(v,())/\jo f 70 4 v d.length (d.flatMap dH)/\nD iI oz f m q rest/\(d++(rest.filter λp=>decide (p.1≠0)).map (·.2)).Perm S.all/\M0 W f/\∀b,cK v b->m<b)
   (λs W=>rm m q W) ⟨[],_,A,rfl,jo.nil ..,H,?_,D,λb c=>by cases c⟩ ?_
  ·have:=(h4.filter λp=>decide (p.1≠0)).map (·.2);refine this.trans (lI ?_);simp only[Led.accs];rw[cY (by simp),fi.2 ?_,dQ]
   ·exact iP _
   ·intro p hp;obtain⟨a,ha,rfl⟩:=cF.1 hp;have:=(g.acc a ha).1;simp;omega
  rintro⟨v,_⟩ W1 ⟨d,_,rest,⟨⟩,L,r,hp,M,E⟩ KN Q;unfold VO;intro _;refine uv r ?_ ?_
  ·intro h0 u I hh;subst h0;simp[go_sem];exact⟨d,L.mod I eQ,by simpa using hp,M.trans I,λb c=>by grind⟩
  ·intro i p hi u it' w I P;simp[go_sem];apply sg w;simp[go_sem,oz,iI];have hpe:=oY hi;have Z:∀o,M0 W (u.alloc o):=λo=>(M.on I λb c=>.inr (by subst c;omega)).alloc o;have z:∀o,nD iI oz (u.alloc o) m q (rest.eraseIdx i):=λo=>it'.mod ((de.refl (λ_=>False) u).alloc o) id id;have oA:∀o,jo (u.alloc o) 70 4 v d.length (d.flatMap dH):=λo=>(L.mod I λb c e=>by grind).mod ((de.refl (λ_=>False) u).alloc o) eQ
   have hle:∀f,nD iI oz f m q (rest.eraseIdx i)->rm m q f<rm m q W1:=λf h=>by
    rw[h.left,r.left,kP];have:i<rest.length:=(cP.1 hi).1;rw[bZ this];omega
   have Y:d.length<=64:=by
    have O:=hp.length_eq;have N:=g.len;simp only[cD]at O;omega
   by_cases hz:p.1=0
   ·grind
   ·rw[aZ hz];refine Pf (d:=d) (enc:=dH) (x:=p.2) (k:=3) aE0 az8 rfl rfl qZ qZ (oA _) qZ λv' w'' o' t n' =>?_;have j:¬cK v m:=λh=>by grind
    have G:¬cK v q:=λh=>by have:=E q h;have:=N.lt;omega
    refine Q _ _ ⟨d++[p.2],v',_,rfl,o',(z _).mod t G j,?_,(Z _).on t λb c=>.inr (by grind),λb c=>?_⟩ (hle _ ((z _).mod t G j))
    ·grind
    ·rcases n' b c with h|h
     ·exact E b h
     ·rw[eG,P]at h;have:=r.lt.2;omega
 rintro _ W1 ⟨d,v,rfl,L,hp,M,E⟩;unfold WT;intro _
 have Y:d.length<=64:=by
  have O:=hp.length_eq;have N:=g.len;omega
 refine Nh L qZ λw2 d' U p2 s2 X=>?_;obtain rfl:d' =S.all:=Tq g.sa (p2.trans hp) s2;obtain⟨sa,sc,rfl,hsc⟩:=U.isSl;apply ak6;simp[go_sem];have mW2:M0 W w2:=M.on X λb c=>.inr (E b c);have Z:∀o,M0 W (w2.alloc o):=λo=>mW2.alloc o;refine I1 (n:=d.length) (sl:=.slice sa d.length sc) (T:=56) (J (cK (.slice sa d.length sc))) Js (by simp[go_sem]) (U.mod lm eQ) qZ (hQ _ _ (Z _) λb c=>⟨E b c,?_⟩) (C _) ?_ ?_ hex
 ·have:=U.lt c;rw[eG];omega
 ·grind
 ·grind
def LO{b2 f:Nat}{cap:Array Value}{T2:TypeId}{want:Po->Bool}{Wk:World->Prop}(hWk:∀W g,Wk W->M0 W g->Wk g)
  (E:∀p W (K:cG),Wk W->(∀g,M0 W g->K (.bool (want p)) g)->Ca pQ f ⟨tn p::cap.toList⟩ W K):
  CW pQ (.func (.func 152) #[] #[.pointer (some ⟨b,0,none⟩),.pointer (some ⟨b2,0,none⟩)]) ((S.held.filter want).map λa=>[tn a])
   (λW=>hC W b #[iG l] T/\hC W b2 #[.func (.func f) #[] cap] T2/\Wk W/\S.held.length<4294967295/\∃F,lA W l F S):=by
 refine⟨⟨_,_,_,rfl,?_⟩⟩;rintro y J Js W K ⟨c,R,hwk,hlen,F,hq⟩ hQ V hstep hend hex;have hq0:=hq;obtain⟨⟨m1,r,A,B,h1,h2,h3,h4,h5,h6,h7⟩,hok⟩:=hq;show Ca pQ _ #[y,.pointer (some ⟨b,0,none⟩),.pointer (some ⟨b2,0,none⟩)] W K;apply af4;refine dK.at (λs g=>∃(d:List Po) (v:Vt_),s=(v,())/\jo g 79 4 v d.length (d.flatMap ec)/\d.Perm (S.held.filter want)/\M0 W g/\∀b,cK v b->W.heap.size<=b) ?_ ?_
 ·simp[go_sem,fy c];apply pU hq0;simp[go_sem,fy c,iG,fy h1];refine sw DZ h3 λw1 it1 X=>?_;generalize hg:W.heap.size=q at it1
  refine Bt (λs g=>∃(d:List Po) (v:Vt_) (rest:List ((Int×Int)×Po)),s=(v,())/\jo g 79 4 v d.length (d.flatMap ec)/\nD l9 tn g q r rest/\(d++(rest.map (·.2)).filter want).Perm (S.held.filter want)/\M0 W g/\∀b,cK v b->q<b)
   (λs W=>rm q r W) ⟨[],_,B,rfl,jo.nil ..,it1,?_,X,λb c=>by cases c⟩ ?_
  ·have:=(h5.map (·.2)).filter want;refine this.trans (lI ?_);simp only[Led.poss,dQ];congr 1;exact iP _
  rintro⟨v,_⟩ W1 ⟨d,_,rest,⟨⟩,oW,w,t,H,I⟩ KN P;unfold OP;intro _;refine uv w ?_ ?_
  ·intro h0 D L hh;subst h0;simp[go_sem];exact⟨d,oW.mod L eQ,by simpa using t,H.trans L,λb c=>by grind⟩
  ·intro i p hi D it' O L hsz;simp[go_sem];apply sg O;have mA0:∀o,M0 W (D.alloc o):=λo=>(H.on L λb c=>.inr (by subst c;omega)).alloc o
   have hne2:b2≠D.heap.size:=by
    have h1:=cB R;have h2:=H.size;omega
   have Y:D.heap[b2]? =some (.cells #[.func (.func f) #[] cap] T2 (0,0)):=(H.on (F:=λ_=>False) L λb c=>.inr (by subst c;omega)).keep R id;simp[go_sem,tn,l9,fy Y,hne2];have hpe:=oY hi;generalize N:World.alloc _ _=G;have mA:M0 W G:=by grind
   have Q:hC G D.heap.size #[.int .u32 p.2.c,gU p.2.a,gI p.2.q,gI p.2.b] 79:=by subst N;simp[go_sem]
   have m02:M0 D G:=by subst N;exact(de.refl _ D).alloc _
   refine E p.2 G _ (hWk _ _ hwk mA) λw3 m3=>?_;have u:=m3.keep Q id;have C:=m02.trans m3;have M:=mA.trans m3;have j:nD l9 tn w3 q r (rest.eraseIdx i):=it'.mod C id id;have o3:jo w3 79 4 v d.length (d.flatMap ec):=(oW.mod L λb c e=>by grind).mod C eQ
   have U:∀g,nD l9 tn g q r (rest.eraseIdx i)->rm q r g<rm q r W1:=λg h=>by
    rw[h.left,w.left,kP];have:i<rest.length:=(cP.1 hi).1;rw[bZ this];omega
   have hdl:d.length<4294967295:=by
    have h1:=t.length_eq;have h2:=dm want S.held;simp only[cD]at h1;omega
   cases hz:want p.2
   ·simp;refine P _ _ ⟨d,_,_,rfl,o3,j,?_,M,I⟩ (U _ j);refine(List.Perm.append_left d ?_).trans t;have:=(hpe.map (·.2)).filter want;rw[cM,cY (by simp[hz])]at this;exact this.symm
   ·simp[go_sem,fy u];refine Pf (d:=d) (enc:=ec) (x:=p.2) (k:=3) aC0 ag3 rfl rfl qZ qZ o3 qZ λv' w'' o' z n' =>?_;have m:¬cK v q:=λh=>by grind
    have Z:¬cK v r:=λh=>by have:=I r h;have:=h3.lt;omega
    refine P _ _ ⟨d++[p.2],v',_,rfl,o',j.mod z Z m,?_,M.on z λb c=>.inr (by grind),λb c=>?_⟩ (U _ (j.mod z Z m))
    ·grind
    ·rcases n' b c with h|h
     ·exact I b h
     ·have:=j.lt.2;have:=C.size;have:=w.lt.2;omega
 rintro _ W1 ⟨d,v,rfl,oW,hp,H,I⟩;unfold OB;intro _
 have hdl:d.length<4294967295:=by
  have h1:=hp.length_eq;have h2:=dm want S.held;omega
 refine NU oW qZ λG d' o2 p2 s2 m2' =>?_;obtain rfl:d' =S.held.filter want:=Ty (hok.sp.filter want) (p2.trans hp) s2;obtain⟨sa,sc,rfl,hsc⟩:=o2.isSl;apply an2;simp[go_sem];have mW2:M0 W G:=H.on m2' λb c=>.inr (I b c);have mA:∀o,M0 W (G.alloc o):=λo=>mW2.alloc o;refine Ja (n:=d.length) (sl:=.slice sa d.length sc) (T:=58) (J (cK (.slice sa d.length sc))) Js (by simp[go_sem]) (o2.mod lm eQ) qZ (hQ _ _ (mA _) λb c=>⟨I b c,?_⟩) (V _) ?_ ?_ hex
 ·have:=o2.lt c;rw[eG];omega
 ·grind
 ·grind
structure Eg(gv:Vt_)(xs:List (List Value))(w:Wt_):Prop where
 out:∃Ok,CW pQ gv xs Ok/\∀W,M0 w W->Ok W
 fn:∃f cap,gv=.func (.func f) #[] cap
def tU(h:lA w l F S)
  (d:∀gv c,Eg gv (S.all.map λa=>[oz a]) c->M0 w c->K gv c):Ca pQ 43 #[iG l] w K:=by
 apply au4;simp[go_sem,iG];refine d _ _ ⟨⟨_,Iy (l:=l) (b:=w.heap.size) (T:=34),λW m=>⟨m.keep ?_ id,F,h.mod (lm.trans m) eQ⟩⟩,_,_,rfl⟩ lm;rw[gy,bZ rfl];rfl
def yJ{c:Int}(h:lA w l F S)(q:S.held.length<4294967295)
  (j:∀gv i,Eg gv ((S.holders c).map λa=>[tn a]) i->M0 w i->K gv i):Ca pQ 44 #[iG l,gU c] w K:=by
 apply au1;simp[go_sem];apply Vv;simp[go_sem,iG];generalize d:World.alloc _ _=e;have k:M0 w e:=by subst d;exact(lm.alloc _).alloc _
 have g0:hC e w.heap.size #[.int .u32 c] 23:=by subst d;simp[go_sem]
 have g1:hC e (w.heap.size+1) #[iG l] 34:=by subst d;simp[go_sem,iG]
 have o:hC e (w.heap.size+2) #[.func (.func 104) #[] #[.pointer (some ⟨w.heap.size,0,none⟩)]] 185:=by subst d;simp[go_sem]
 refine j _ _ ⟨⟨_,LO (l:=l) (b:=w.heap.size+1) (b2:=w.heap.size+2) (f:=104) (cap:=#[.pointer (some ⟨w.heap.size,0,none⟩)]) (T:=34) (T2:=185) (Wk:=λW=>hC W w.heap.size #[.int .u32 c] 23)
  (want:=λp=>decide (p.c=c)) (λW s r m=>m.keep r id) ?_,λW m=>⟨m.keep g1 id,m.keep o id,m.keep g0 id,q,F,h.mod (k.trans m) eQ⟩⟩,_,_,rfl⟩ k
 intro p W K n j;apply an9;have g:=cB n;simp[go_sem,tn,fy n,Yi g];have:=j _ ((de.refl _ W).alloc (.cells #[.int .u32 p.c,gU p.a,gI p.q,gI p.b] 79));rw[show(p.c==c)=decide (p.c=c) by grind];exact this
def SZ{c:Int}(h:lA w l F S)(q:S.held.length<4294967295)
  (j:∀gv i,Eg gv ((S.ofA c).map λa=>[tn a]) i->M0 w i->K gv i):Ca pQ 132 #[iG l,gU c] w K:=by
 apply ad6;simp[go_sem];apply Vv;simp[go_sem,iG];generalize d:World.alloc _ _=e;have k:M0 w e:=by subst d;exact(lm.alloc _).alloc _
 have g0:hC e w.heap.size #[.int .u32 c] 23:=by subst d;simp[go_sem]
 have g1:hC e (w.heap.size+1) #[iG l] 34:=by subst d;simp[go_sem,iG]
 have o:hC e (w.heap.size+2) #[.func (.func 165) #[] #[.pointer (some ⟨w.heap.size,0,none⟩)]] 185:=by subst d;simp[go_sem]
 refine j _ _ ⟨⟨_,LO (l:=l) (b:=w.heap.size+1) (b2:=w.heap.size+2) (f:=165) (cap:=#[.pointer (some ⟨w.heap.size,0,none⟩)]) (T:=34) (T2:=185) (Wk:=λW=>hC W w.heap.size #[.int .u32 c] 23)
  (want:=λp=>decide (p.a=c)) (λW s r m=>m.keep r id) ?_,λW m=>⟨m.keep g1 id,m.keep o id,m.keep g0 id,q,F,h.mod (k.trans m) eQ⟩⟩,_,_,rfl⟩ k
 intro p W K n j;apply ak0;have g:=cB n;simp[go_sem,tn,fy n,Yi g];have:=j _ ((de.refl _ W).alloc (.cells #[.int .u32 p.c,gU p.a,gI p.q,gI p.b] 79));rw[show(p.a==c)=decide (p.a=c) by grind];exact this
end Go.Proofs
