/- Part of a proof. -/
import Derived.Test.YtekbnpagidkbbaaGreatR5
set_option linter.all false
set_option maxRecDepth 100000
set_option maxHeartbeats 4000000
namespace Go.Proofs
open Go Go.Vc
variable {n:Int}{x y:Int×Int}
section
variable{κ ν:Type} [DecidableEq κ]
def tS{L:List (κ×ν)}(c:(L.map (·.1)).Nodup){k:κ}{v:ν}(h:(k,v)∈L):lk L k=some v:=by
 induction L with
 |nil=>cases h
 |cons p L d=>
  obtain⟨a,b⟩:=p;simp only[aI,ce]at c;rcases ax.1 h with h|h
  ·cases h;simp[lk]
  ·have:a≠k:=λe=>c.1 (e▸aX (f:=(·.1)) h);simp only[lk,aa this];exact d c.2 h
def Sq{L:List (κ×ν)}(a:(L.map (·.1)).Nodup){k:κ}{v:ν}:lk L k=some v↔(k,v)∈L:=⟨yK,tS a⟩
def AS{A L:List (κ×ν)}(c:(A.map (·.1)).Nodup)(h:A.Perm L)(k:κ):lk A k=lk L k:=by
 have a:(L.map (·.1)).Nodup:=(h.map _).nodup_iff.1 c;cases b:lk A k with
 |some v=>exact(tS a (h.mem_iff.1 (yK b))).symm
 |none=>
  cases d:lk L k with
  |none=>rfl
  |some v=>rw[tS c (h.mem_iff.2 (yK d))]at b;cases b
def OQ{L:List (κ×ν)}(c:(L.map (·.1)).Nodup)(k:κ)(v:ν):(put L k v).Perm ((k,v)::L.filter (λp=>p.1≠k)):=by
 induction L with
 |nil=>exact cS _
 |cons p L d=>
  obtain⟨a,b⟩:=p;simp only[aI,ce]at c;simp only[put];by_cases h:a=k
  ·subst h;rw[ae rfl,aV (by simp)];apply List.Perm.cons _;rw[cO.2 λx f=>?_];have:x.1≠a:=λe=>c.1 (e▸aX f);simpa using this
  ·rw[aa h,bL (by simpa using h)];exact((d c.2).cons _).trans (List.Perm.swap ..)
def HP{A L:List (κ×ν)}(a:(A.map (·.1)).Nodup)(h:A.Perm L)(k:κ)(v:ν):(put A k v).Perm ((k,v)::L.filter (λp=>p.1≠k)):=
 (OQ a k v).trans ((h.filter _).cons _)
def OL{L:List (κ×ν)}(c:(L.map (·.1)).Nodup)(k:κ):Ar L k=L.filter (λp=>p.1≠k):=by
 induction L with
 |nil=>rfl
 |cons p L f=>
  obtain⟨a,b⟩:=p;simp only[aI,ce]at c;simp only[Ar];by_cases h:a=k
  ·subst h;rw[ae rfl,aV (by simp)];rw[cO.2 λx d=>?_];have:x.1≠a:=λe=>c.1 (e▸aX d);simpa using this
  ·grind
def P1{A L:List (κ×ν)}(a:(A.map (·.1)).Nodup)(h:A.Perm L)(k:κ):(Ar A k).Perm (L.filter (λp=>p.1≠k)):=by
 rw[OL a];exact h.filter _
end
def uW{l a:List Int}(h:l.Perm a):l.sum=a.sum:=by
 induction h with
 |nil=>rfl
 |cons x _ b=>simp[b]
 |swap x y l=>simp;omega
 |trans _ _ h1 c=>exact h1.trans c
structure Ac where
 num:Int
 cash:Int
 kil:Bool
 dfl:Bool
 deriving DecidableEq
variable {a:Ac}{l:List Ac}
structure Po where
 c:Int
 a:Int
 q:Int
 b:Int
 deriving DecidableEq
structure bJ where
 fund:Int
 all:List Ac
 held:List Po
variable {S:bJ}
instance:Inhabited Ac:=⟨⟨0,0,false,false⟩⟩
instance:Inhabited Po:=⟨⟨0,0,0,0⟩⟩
def Po.key(p:Po):Int×Int:=(p.c,p.a)
def Po.isZ(p:Po):Bool:=decide (p.q=0/\p.b=0)
def vN(x y:Int×Int):Bool:=decide (x.1<y.1\/(x.1=y.1/\x.2<y.2))
def ox:vN x y=true↔(x.1<y.1\/(x.1=y.1/\x.2<y.2)):=by simp[vN]
def AA(x y:Int×Int):vN x y=true\/x=y\/vN y x=true:=by
 rw[ox,ox,Prod.ext_iff];omega
def yJ{z:Int×Int}(h:vN x y=true)(a:vN y z=true):vN x z=true:=by
 rw[ox]at*;omega
def EJ:vN x x=false:=by
 rw[eJ,Ne,ox];omega
def uj(h:vN x y=true):x≠y:=by
 intro e;subst e;rw[EJ]at h;cases h
def yy(h:vN x y=true):vN y x=false:=by
 rw[ox]at h;rw[eJ,Ne,ox];omega
def CO(l:List Ac)(a:Ac):List Ac:=l.filter (λx=>decide (x.num<a.num))++a::l.filter (λx=>decide (a.num<x.num))
def I9(l:List Po)(p:Po):List Po:=l.filter (λx=>vN x.key p.key)++((if p.isZ then []else [p])++l.filter (λx=>vN p.key x.key))
def mL(l:List Ac):Prop:=l.Pairwise λx y=>x.num<y.num
def kP(l:List Po):Prop:=l.Pairwise λx y=>vN x.key y.key=true
def sq{x:Ac}:x∈CO l a↔(x∈l/\x.num≠a.num)\/x=a:=by
 simp only[CO,bf,ax,aU,aS];constructor
 ·rintro(⟨h,b⟩|h|⟨h,b⟩)
  ·grind
  ·exact .inr h
  ·grind
 ·rintro(⟨h,b⟩|h)
  ·rcases Int.lt_or_gt_of_ne b with c|c
   ·exact .inl ⟨h,c⟩
   ·grind
  ·exact .inr (.inl h)
def rR{l:List Po}{p x:Po}:x∈I9 l p↔(x∈l/\x.key≠p.key)\/(x=p/\p.isZ=false):=by
 have c:x∈(if p.isZ=true then []else [p])↔x=p/\p.isZ=false:=by
  cases p.isZ<;>simp
 simp only[I9,bf,aU,c];constructor
 ·rintro(⟨h,a⟩|h|⟨h,a⟩)
  ·exact .inl ⟨h,uj a⟩
  ·exact .inr h
  ·exact .inl ⟨h,λe=>uj a e.symm⟩
 ·rintro(⟨h,a⟩|h)
  ·rcases AA x.key p.key with b|b|b
   ·exact .inl ⟨h,b⟩
   ·exact absurd b a
   ·grind
  ·exact .inr (.inl h)
def tm(h:mL l)(a:Ac):mL (CO l a):=by
 unfold mL CO;rw[dt,bY];refine⟨h.filter _,⟨λx c=>by grind,h.filter _⟩,λx c y b=>?_⟩;have h1:x.num<a.num:=by grind
 rcases ax.1 b with rfl|b
 ·exact h1
 ·grind
theorem th{l:List Po}(h:kP l)(p:Po):kP (I9 l p):=by
 unfold kP I9;rw[dt,dt];have c:∀x∈(if p.isZ=true then []else [p]),x=p:=λx b=>by grind
 refine⟨h.filter _,⟨?_,h.filter _,λx b y a=>?_⟩,λx b y a=>?_⟩
 ·cases p.isZ<;>simp
 ·grind
 ·have h1:vN x.key p.key=true:=(aU.1 b).2;rcases bf.1 a with a|a
  ·rw[c y a];exact h1
  ·exact yJ h1 (aU.1 a).2
def mL.nodup(h:mL l):(l.map (·.num)).Nodup:=by
 rw[List.Nodup,eL];exact h.imp λh=>by omega
def kP.nodup{l:List Po}(h:kP l):(l.map Po.key).Nodup:=by
 rw[List.Nodup,eL];exact h.imp λh=>uj h
def yh{α:Type}(l:List α)(p q:α->Bool)(h:∀x∈l,p x=true->q x=false):(l.filter p++l.filter q).Perm (l.filter λx=>p x||q x):=by
 induction l with
 |nil=>exact cS _
 |cons x l b=>
  have b:=b λy c=>h y (ag _ c);cases hp:p x with
  |true=>
   have a:=h x aw hp;rw[bL hp,aV (by simp[a]),bL (by simp[hp])];exact b.cons x
  |false=>
   cases a:q x with
   |true=>
    rw[aV (by simp[hp]),bL a,bL (by simp[a])];exact nO.trans (b.cons x)
   |false=>
    rw[aV (by simp[hp]),aV (by simp[a]),aV (by simp[hp,a])];exact b
theorem vO(l:List Ac)(a:Ac):(CO l a).Perm (a::l.filter λx=>decide (x.num≠a.num)):=by
 refine nO.trans (List.Perm.cons _ ((yh l _ _ λx _ h=>?_).trans (iN (dM λx _=>?_))))
 ·grind
 ·grind
def y9(l:List Po)(p:Po):(I9 l p).Perm ((if p.isZ then []else [p])++l.filter λx=>decide (x.key≠p.key)):=by
 refine List.perm_append_comm_assoc .. |>.trans (List.Perm.append_left _ ((yh l _ _ λx _ h=>?_).trans (iN (dM λx _=>?_))))
 ·exact yy h
 ·rw[dh];have:=AA x.key p.key;simp only[lK,aS];constructor
  ·rintro(h|h) e
   ·exact uj h e
   ·exact uj h e.symm
  ·intro h;rcases this with a|a|a
   ·exact .inl a
   ·exact absurd a h
   ·exact .inr a
def PG{c:List Ac}(h:mL l)(d:mL c)(hp:l.Perm c):l=c:=
 hp.eq_of_pairwise (λa b _ _ h1 e=>qZ) h d
def bJ.find(S:bJ)(n:Int):Option Ac:=S.all.find? λx=>decide (x.num=n)
def bJ.pos? (S:bJ)(k:Int×Int):Option Po:=S.held.find? λx=>decide (x.key=k)
def nU(f:Int):Ac:=⟨0,f,false,false⟩
def bJ.getO(S:bJ)(n:Int):Option Ac:=if n=0 then some (nU S.fund)else S.find n
def bJ.funds(S:bJ):Int:=S.fund+(S.all.map (·.cash)).sum
def bJ.putA(S:bJ)(a:Ac):bJ:=if a.num=0 then{S with fund:=a.cash}else{S with all:=CO S.all a}
def bJ.putP(S:bJ)(p:Po):bJ:={S with held:=I9 S.held p}
def aY(n lo hi:Int):Bool:=decide (lo<=n/\n<=hi)
def MF:Int:=1000000000000000
def MP:Int:=10000000
def bJ.deposit(S:bJ)(n m:Int):Int×bJ:=
 if aY m 1 MF then
  if S.getO n=none/\64<=S.all.length then(9,S)
  else if S.funds+m>MF then(6,S)
  else(0,S.putA {(S.getO n).getD ⟨0,0,false,false⟩with num:=n,cash:=((S.getO n).getD ⟨0,0,false,false⟩).cash+m})
 else(2,S)
def bJ.withdraw(S:bJ)(n m:Int):Int×bJ:=
 if n=0\/aY m 1 MF=false then(2,S)
 else match S.find n with
  |none=>(7,S)
  |some a=>if a.cash<m then(90,S)else(0,S.putA {a with cash:=a.cash - m})
def bJ.set(S:bJ)(a:Ac):Int×bJ:=
 if aY a.cash 0 MF=false\/(a.num=0/\(a.kil=true\/a.dfl=true))then(2,S)
 else if S.getO a.num=none then(7,S)else(0,S.putA a)
def bJ.position(S:bJ)(c a:Int):Po:=(S.pos? (c,a)).getD ⟨c,a,0,0⟩
def bJ.trade(S:bJ)(c b s p n:Int):Int×bJ:=
 if c=0\/b=0\/s=0\/b=s\/aY p 1 MP=false\/aY n 1 MP=false then(2,S)
 else if S.find b=none\/S.find s=none then(7,S)
 else
  let x:Po:=⟨c,b,(S.position c b).q+n,(S.position c b).b+p*n⟩
  let y:Po:=⟨c,s,(S.position c s).q - n,(S.position c s).b - p*n⟩
  if MP<x.q\/y.q< -MP\/MF<x.b\/y.b< -MF then(6,S)else(0,(S.putP x).putP y)
def bJ.holders(S:bJ)(c:Int):List Po:=S.held.filter λp=>decide (p.c=c)
def bJ.ofA(S:bJ)(a:Int):List Po:=S.held.filter λp=>decide (p.a=a)
def Po.mark(p:Po)(price:Int)(cl:Bool):Po:=if cl then⟨p.c,p.a,0,0⟩else{p with b:=p.q*price}
def bJ.marked(S:bJ)(l:List Po)(price:Int)(cl:Bool):bJ:=l.foldl (λS p=>S.putP (p.mark price cl)) S
def bJ.mark(S:bJ)(c price:Int)(cl:Bool):Int×List (Int×Int)×bJ:=
 if c=0\/aY price 1 MP=false then(2,[],S)
 else(0,(S.holders c).map (λp=>(p.a,p.q*price - p.b)),S.marked (S.holders c) price cl)
structure bJ.Ok(S:bJ):Prop where
 fund:0<=S.fund/\S.fund<=MF
 sa:mL S.all
 sp:kP S.held
 len:S.all.length<=64
 acc:∀a∈S.all,0<a.num/\a.num<4294967296/\0<=a.cash/\a.cash<=MF
 pos:∀p∈S.held,0<p.c/\p.c<4294967296/\p.isZ=false/\ -MP<=p.q/\p.q<=MP/\ -MF<=p.b/\p.b<=MF/\∃a∈S.all,a.num=p.a
def bJ.accs(S:bJ):List (Int×Ac):=(0,nU S.fund)::S.all.map λa=>(a.num,a)
def bJ.poss(S:bJ):List ((Int×Int)×Po):=S.held.map λp=>(p.key,p)
def FD(l:List Ac)(n:Int):lk (l.map λa=>(a.num,a)) n=l.find? λx=>decide (x.num=n):=by
 induction l with
 |nil=>rfl
 |cons a l b=>
  simp only[aI,lk,b,iQ];by_cases h:a.num=n<;>simp[h]
def Ly(l:List Po)(k:Int×Int):lk (l.map λp=>(p.key,p)) k=l.find? λx=>decide (x.key=k):=by
 induction l with
 |nil=>rfl
 |cons a l b=>
  simp only[aI,lk,b,iQ];by_cases h:a.key=k<;>simp[h]
def bJ.lk_accs(S:bJ)(n:Int):lk S.accs n=S.getO n:=by
 simp only[bJ.accs,lk,FD,bJ.getO,bJ.find];by_cases h:n=0
 ·simp[h]
 ·grind
def bJ.lk_poss(S:bJ)(k:Int×Int):lk S.poss k=S.pos? k:=Ly _ _
def zY(l:List Ac)(n:Int):(l.map λa=>(a.num,a)).filter (λp=>decide (p.1≠n))=(l.filter λx=>decide (x.num≠n)).map λa=>(a.num,a):=by
 rw[List.filter_map];rfl
def z8(l:List Po)(k:Int×Int):(l.map λp=>(p.key,p)).filter (λp=>decide (p.1≠k))=(l.filter λx=>decide (x.key≠k)).map λp=>(p.key,p):=by
 rw[List.filter_map];rfl
def bJ.Ok.put_accs(h:S.Ok){A:List (Int×Ac)}(e:(A.map (·.1)).Nodup)(hp:A.Perm S.accs)(a:Ac)(c:a.num=0->a=nU a.cash):(put A a.num a).Perm (S.putA a).accs:=by
 apply(HP e hp _ _).trans;unfold bJ.putA;by_cases b:a.num=0
 ·rw[ae b];simp only[bJ.accs];rw[aV (by simp[b]),zY,b];rw[cO.2 λx d=>by have:=(h.acc x d).1;simp;omega];rw[<-c b]
 ·rw[aa b];simp only[bJ.accs];rw[bL (by grind),zY];refine(List.Perm.swap ..).trans (List.Perm.cons _ ?_);exact((vO S.all a).map λa=>(a.num,a)).symm
def bJ.put_poss{B:List ((Int×Int)×Po)}(a:(B.map (·.1)).Nodup)(hp:B.Perm S.poss)(p:Po)(b:p.isZ=false):(put B p.key p).Perm (S.putP p).poss:=by
 apply(HP a hp _ _).trans;simp only[bJ.poss,bJ.putP];rw[z8];have:=(y9 S.held p).map λp=>(p.key,p)
 rw[b]at this;exact this.symm
def bJ.del_poss{B:List ((Int×Int)×Po)}(a:(B.map (·.1)).Nodup)(hp:B.Perm S.poss)(p:Po)(b:p.isZ=true):(Ar B p.key).Perm (S.putP p).poss:=by
 apply(P1 a hp _).trans;simp only[bJ.poss,bJ.putP];rw[z8];have:=(y9 S.held p).map λp=>(p.key,p)
 rw[b]at this;exact this.symm
def bJ.find_mem(h:S.find n=some a):a∈S.all/\a.num=n:=by
 unfold bJ.find at h;exact⟨dG h,by grind⟩
def bJ.pos_mem{k:Int×Int}{p:Po}(h:S.pos? k=some p):p∈S.held/\p.key=k:=by
 unfold bJ.pos? at h;exact⟨dG h,by grind⟩
def bJ.find_some(h:mL S.all){a:Ac}(b:a∈S.all):S.find a.num=some a:=by
 unfold bJ.find;rw[<-FD];exact tS (by rw[dQ];exact h.nodup) (aX (f:=λa:Ac=>(a.num,a)) b)
def bJ.pos_some(h:kP S.held){p:Po}(hp:p∈S.held):S.pos? p.key=some p:=by
 unfold bJ.pos?;rw[<-Ly];exact tS (by rw[dQ];exact h.nodup) (aX (f:=λp:Po=>(p.key,p)) hp)
def bJ.Ok.position(h:S.Ok)(c a:Int):(S.position c a).c=c/\(S.position c a).a=a/\ -MP<=(S.position c a).q/\(S.position c a).q<=MP/\ -MF<=(S.position c a).b/\(S.position c a).b<=MF:=by
 unfold bJ.position;cases hp:S.pos? (c,a)with
 |none=>simp[MP,MF]
 |some p=>
  obtain⟨h1,b⟩:=bJ.pos_mem hp;have:=h.pos p h1;simp only[Po.key,nr]at b;exact⟨b.1,b.2,this.2.2.2.1,this.2.2.2.2.1,this.2.2.2.2.2.1,this.2.2.2.2.2.2.1⟩
def Bn(l:List Ac)(a:Ac):(CO l a).length<=l.length+1:=by
 rw[(vO l a).length_eq];simp only[be];exact Nat.succ_le_succ (bh ..)
def CG(h:∃x∈l,x.num=a.num):(CO l a).length<=l.length:=by
 rw[(vO l a).length_eq];obtain⟨x,b,e⟩:=h;simp only[be];exact il.2 ⟨x,b,by simp[e]⟩
def bJ.Ok.putA(h:S.Ok){a:Ac}(h1:0<=a.num/\a.num<4294967296)(k:0<=a.cash/\a.cash<=MF)(b:S.find a.num≠none\/S.all.length<64\/a.num=0):(S.putA a).Ok:=by
 unfold bJ.putA;by_cases g:a.num=0
 ·rw[ae g];exact{h with fund:=k}
 ·rw[aa g];refine{fund:=h.fund,sa:=tm h.sa a,sp:=h.sp,len:=?_,acc:=λx c=>?_,pos:=λp hp=>?_}
  ·rcases b with b|b|b
   ·obtain⟨x,c⟩:=Option.ne_none_iff_exists'.1 b;obtain⟨f,e⟩:=bJ.find_mem c;exact ck (CG ⟨x,f,e⟩) h.len
   ·exact ck (Bn ..) b
   ·exact absurd b g
  ·rcases sq.1 c with⟨c,_⟩|rfl
   ·exact h.acc x c
   ·grind
  ·obtain⟨o,l,r,n,q,j,m,x,c,d⟩:=h.pos p hp;refine⟨o,l,r,n,q,j,m,?_⟩;by_cases i:x.num=a.num
   ·exact⟨a,sq.2 (.inr rfl),i.symm.trans d⟩
   ·exact⟨x,sq.2 (.inl ⟨c,i⟩),d⟩
def bJ.Ok.putP(h:S.Ok){p:Po}(h1:0<p.c/\p.c<4294967296)(c: -MP<=p.q/\p.q<=MP)(d: -MF<=p.b/\p.b<=MF)(e:∃a∈S.all,a.num=p.a):(S.putP p).Ok:=by
 refine{fund:=h.fund,sa:=h.sa,sp:=th h.sp p,len:=h.len,acc:=h.acc,pos:=λx b=>?_};rcases rR.1 b with⟨b,_⟩|⟨rfl,f⟩
 ·exact h.pos x b
 ·exact⟨h1.1,h1.2,f,c.1,c.2,d.1,d.2,e⟩
def bJ.Ok.getO(h:S.Ok){n:Int}{a:Ac}(b:S.getO n=some a):a.num=n/\0<=a.num/\a.num<4294967296/\0<=a.cash/\a.cash<=MF/\(a.num=0->a=nU a.cash):=by
 unfold bJ.getO at b;split at b
 ·rename_i g
  cases b;exact⟨by simp[nU,g],by simp[nU],by simp[nU],h.fund.1,h.fund.2,λ_=>rfl⟩
 ·obtain⟨h1,d⟩:=bJ.find_mem b;obtain⟨i,e,f,c⟩:=h.acc a h1;exact⟨d,qZ,e,f,c,qZ⟩
def bJ.Ok.funds(h:S.Ok):0<=S.funds/\S.funds<=MF*65:=by
 have key:∀l:List Ac,(∀a∈l,0<=a.cash/\a.cash<=MF)->0<=(l.map (·.cash)).sum/\(l.map (·.cash)).sum<=MF*l.length:=by
  intro l b;induction l with
  |nil=>simp
  |cons a l e=>
   have h1:=b a aw;have d:=e λx f=>b x (ag _ f);simp only[aI,bH,be,MF]at*;omega
 have h1:=key S.all λa c=>(h.acc a c).2.2;have d:=h.fund;have g:=h.len;unfold bJ.funds;simp only[MF]at*;omega
def WI(h:∀a∈l,0<=a.cash):0<=(l.map (·.cash)).sum/\∀a∈l,a.cash<=(l.map (·.cash)).sum:=by
 induction l with
 |nil=>simp
 |cons a l c=>
  have h1:=h a aw;obtain⟨e,d⟩:=c λx b=>h x (ag _ b);simp only[aI,bH];refine⟨qZ,λx b=>?_⟩;rcases ax.1 b with rfl|b
  ·omega
  ·have:=d x b;omega
def bJ.Ok.cash_le(h:S.Ok){n:Int}{a:Ac}(b:S.getO n=some a):a.cash<=S.funds:=by
 have d:=WI (l:=S.all) λa c=>(h.acc a c).2.2.1;have e:=h.fund;unfold bJ.funds;unfold bJ.getO at b;split at b
 ·cases b;simp only[nU];omega
 ·have:=d.2 a (bJ.find_mem b).1;omega
def fe{lo hi:Int}:aY n lo hi=true↔lo<=n/\n<=hi:=by simp[aY]
def Kd{x y m:Int}(h1: -m<=x/\x<=m)(a:0<=y/\y<=n): -(m*n)<=x*y/\x*y<=m*n:=by
 have b:0<=m:=qZ;constructor
 ·have c:(-x)*y<=m*n:=Int.mul_le_mul qZ a.2 a.1 b;have:(-x)*y= -(x*y):=Int.neg_mul x y;omega
 ·exact Int.mul_le_mul h1.2 a.2 a.1 b
end Go.Proofs
namespace Go.Proofs
open Go Go.Vc
variable {F:NP_}{l:Nat}{w:Wt_}{K:aZ}{S:bJ}
def vm{S:Type}{body:S->World->(S->World->Prop)->Prop}{s:S}(I:S->World->Prop)(m:S->World->Nat)(e:I s w)
  (h:∀s w,I s w->∀c:S->World->Prop,(∀a b,I a b->m a b<m s w->c a b)->body s w c):oJ body s w:=
 ⟨⟨I,m,e,λs w f=>h s w f _ λ_ _ h1 d=>⟨h1,d⟩⟩⟩
def eP(l:Nat):Value:=bO l 0
def cY(a:Ac):List Value:=[.int .u32 a.num,gI a.cash,.bool a.kil,.bool a.dfl]
def jX(a:Ac):Value:=.agg #[.int .u32 a.num,gI a.cash,.bool a.kil,.bool a.dfl]
def dy(p:Po):List Value:=[.int .u32 p.c,gU p.a,gI p.q,gI p.b]
def nh(p:Po):Value:=.agg #[.int .u32 p.c,gU p.a,gI p.q,gI p.b]
def eY(n:Int):Value:=gU n
def iv(k:Int×Int):Value:=.agg #[.int .u32 k.1,gU k.2]
def ai7:Tryz.prog.underlying 45=some (.int .u32):=cV
def lu:rB pQ 45 eY:=rB.int ai7
def Xn:Tryz.prog.underlying 235=some (.struct (Tryz.prog.fieldsOf 235)):=cV
def Y8:Tryz.prog.fieldsOf 235= #[{name:= "contract",type:=45,offset:=0,embedded:=false,tag:= "",pkgPath:= "broadside/ledger",byteOffset:=0},{name:= "account",type:=45,offset:=1,embedded:=false,tag:= "",pkgPath:= "broadside/ledger",byteOffset:=4}]:=cV
def aa1(b:Bool)(n:Nat)(k:IntKind)(f:Int)(w:Wt_):(Instr.checkKey b (n+1) 45 (.int k f)).run pQ w=.ok () w:=by
 unfold Instr.checkKey;simp[go_sem]
def ab5(w:Wt_)(x y:Int×Int):(Op.equal 235 (iv x) (iv y)).run pQ w=.ok (decide (x=y)) w:=by
 have h:Tryz.prog.stoodInHeld 235=false:=cV;obtain⟨f,a⟩:=x;obtain⟨d,c⟩:=y;unfold Op.equal Op.maxDepth iv;rw[run_equalIn_struct w 9999 235 _ _ Xn h,Y8];have b:∀(x y:Int) (w:Wt_),(Op.equalIn 9999 45 (gU x) (gU y)).run pQ w=.ok (x==y) w:=λx y w=>run_equalIn_int w 9998 45 .u32 .u32 x y cV;simp[Op.eqFields,part,isAgg,go_sem,b];by_cases h1:f=d<;>by_cases e:a=c<;>simp_all
def Z6(w:Wt_)(b:Bool)(x:Int×Int):(Instr.checkKey b 10000 235 (iv x)).run pQ w=.ok () w:=by
 obtain⟨f,a⟩:=x;unfold Instr.checkKey iv;have c:∀(x:Int) (w:Wt_),(Instr.checkKey b 9999 45 (gU x)).run pQ w=.ok () w:=λx w=>aa1 b 9998 .u32 x w;simp[go_sem,Xn,Y8,c]
def O7:rB pQ 235 iv:=
 rB.asking Xn (λx y=>rfl) ab5 Z6 (λx=>by simp[iv,Instr.sameBits])
def pG:Tryz.prog.underlying 173=some (.map 45 100):=cV
def AY:Tryz.prog.underlying 174=some (.map 235 124):=cV
def Wv:lT pQ 100=some (jX ⟨0,0,false,false⟩):=cV
def zPo:lT pQ 124=some (nh ⟨0,0,0,0⟩):=cV
structure iw(w:Wt_)(l:Nat)(F:NP_)(S:bJ):Prop where
 out:∃m1 m2 A B,hC w l #[.map (some m1),.map (some m2)] 176/\eM eY jX w m1 A/\eM iv nh w m2 B/\A.Perm S.accs/\B.Perm S.poss/\
  (∀b,F b↔b=l\/b=m1\/b=m2)/\l≠m1/\l≠m2/\m1≠m2
 ok:S.Ok
def iw.mod{G:NP_}{w' :Wt_}(h:iw w l F S)(g:aR G w w')(c:∀b,F b->¬G b):iw w' l F S:=by
 obtain⟨⟨e,d,A,B,h1,i,n,j,m,a,k⟩,f⟩:=h;exact⟨⟨e,d,A,B,g.keep h1 (c l ((a l).2 (.inl rfl))),i.mod g (c e ((a e).2 (.inr (.inl rfl)))),n.mod g (c d ((a d).2 (.inr (.inr rfl)))),j,m,a,k⟩,f⟩
def iw.lt(h:iw w l F S){b:Nat}(c:F b):b<w.heap.size:=by
 obtain⟨⟨m,g,A,B,h1,a,d,i,k,f,j⟩,e⟩:=h;rcases(f b).1 c with rfl|rfl|rfl
 ·exact aB h1
 ·exact a.lt
 ·exact d.lt
def oL{n lo hi:Int}(a:K (.bool (aY n lo hi)) w):Ca pQ 197 #[.int .i64 n,gI lo,gI hi] w K:=by
 refine cN Tryz.func197 ?_;simp[go_sem];unfold aY at a;split
 ·grind
 ·grind
def mI(h:iw w l F S)(a:K (.bool true) w):Ca pQ 156 #[eP l] w K:=by
 obtain⟨⟨i,c,A,B,h1,d,j,e,g,k,f⟩,b⟩:=h;unfold eP;refine cN Tryz.func156 ?_;simp[go_sem,eP,h1];exact a
def Rr(h:iw w l F S)(N:∀d,M0 w d->K (gI S.funds) d):Ca pQ 198 #[eP l] w K:=by
 have u:=h;obtain⟨⟨z,m2,A,B,h1,J,h3,G,h5,h6,h7⟩,e⟩:=h;unfold eP;refine cN Tryz.func198 ?_;apply mI u;simp[go_sem,eP,h1];refine tM pG J λZ k m=>?_;generalize hg:w.heap.size=it at k
 refine vm (λs W=>∃(x:Int) (rest:List (Int×Ac)),s=(gI x,())/\lz eY jX W it z rest/\M0 w W/\x+(rest.map (·.2.cash)).sum=S.funds/\0<=x/\∀p∈rest,0<=p.2.cash)
  (λs W=>rY it z W) ?_ ?_
 ·refine⟨0,A,rfl,k,m,?_,qZ,λp hp=>?_⟩
  ·rw[uW (G.map (·.2.cash))];simp[bJ.accs,nU,bJ.funds,Function.comp_def]
  ·have:=G.mem_iff.1 hp;simp only[bJ.accs,ax,aL]at this;rcases this with rfl|⟨a,X,rfl⟩
   ·exact e.fund.1
   ·exact(e.acc a X).2.2.1
 ·rintro⟨_,_⟩ W ⟨x,rest,⟨⟩,itW,E,R,V,I⟩ KN j;refine lV ?_;intro _;refine vY itW ?_ ?_
  ·intro u d C _;subst u;have:x=S.funds:=by simpa using R
   simp[go_sem];rw[this];exact N _ (E.trans C)
  ·intro i p t d n r C O;simp[go_sem];apply tv r;simp[go_sem,jX];have g:=oe t
   have U:p.2.cash+((rest.eraseIdx i).map (·.2.cash)).sum=(rest.map (·.2.cash)).sum:=by
    rw[uW (g.map (·.2.cash))];simp
   have Q:=I p (dc t);have c:∀q∈rest.eraseIdx i,0<=q.2.cash:=λq M=>I q (List.mem_of_mem_eraseIdx M)
   have H:0<=((rest.eraseIdx i).map (·.2.cash)).sum:=by
    clear g U t n j;generalize rest.eraseIdx i=l at c;induction l with
    |nil=>simp
    |cons q l Y=>
     have:=c q aw;have:=Y λy P=>c y (ag _ P);simp only[aI,bH];omega
   have v:=e.funds.2
   have D:IntKind.i64.wrap (x+p.2.cash)=x+p.2.cash:=by
    rw[bV];simp only[MF]at v;omega
   rw[D];have T:∀o,M0 w (d.alloc o):=λo=>(E.on C λb L=>.inr (by subst L;omega)).alloc o;have f:∀o,lz eY jX (d.alloc o) it z (rest.eraseIdx i):=λo=>n.mod ((aR.refl (λ_=>False) d).alloc o) id id;apply j _ _ ⟨_,_,rfl,f _,T _,qZ,qZ,c⟩;rw[(f _).left,itW.left,gX];have:i<rest.length:=(aJ.1 t).1;rw[ae this];omega
def qL(o:Option Ac):o.elim (jX ⟨0,0,false,false⟩) jX=jX (o.getD ⟨0,0,false,false⟩):=by cases o<;>rfl
def Pb(o:Option Po):o.elim (nh ⟨0,0,0,0⟩) nh=nh (o.getD ⟨0,0,0,0⟩):=by cases o<;>rfl
def iw.lkA{A:List (Int×Ac)}{c:Nat}(a:eM eY jX w c A)(b:A.Perm S.accs)(n:Int):lk A n=S.getO n:=by
 rw[AS a.1 b,S.lk_accs]
def iw.lkP{B:List ((Int×Int)×Po)}{a:Nat}(c:eM iv nh w a B)(b:B.Perm S.poss)(k:Int×Int):lk B k=S.pos? k:=by
 rw[AS c.1 b,S.lk_poss]
def iw.putA{w' :Wt_}{c d:Nat}{A:List (Int×Ac)}{B:List ((Int×Int)×Po)}(h1:hC w l #[.map (some c),.map (some d)] 176)
  (j:eM eY jX w c A)(o:eM iv nh w d B)(k:A.Perm S.accs)(m:B.Perm S.poss)(p:∀b,F b↔b=l\/b=c\/b=d)(g:l≠c/\l≠d/\c≠d)(h:S.Ok)(a:Ac)
  (q:a.num=0->a=nU a.cash)(f:(S.putA a).Ok)(n:eM eY jX w' c (put A a.num a))(i:aR (λb=>b=c) w w'):iw w' l F (S.putA a):=by
 refine⟨⟨c,d,_,B,i.keep h1 g.1,n,o.mod i (λe=>g.2.2 e.symm),h.put_accs j.1 k a q,?_,p,g⟩,f⟩;rw[show(S.putA a).poss=S.poss by unfold bJ.putA;split<;>rfl];exact m
def Km{n m:Int}(h:iw w l F S)(V:0<=n/\n<4294967296)
  (f:∀T,iw T l F (S.deposit n m).2->aR F w T->K (gI (S.deposit n m).1) T):Ca pQ 132 #[eP l,gU n,gI m] w K:=by
 have h0:=h;obtain⟨⟨m1,m2,A,B,h1,C,h3,O,h5,h6,h7⟩,g⟩:=h;unfold eP;refine cN Tryz.func132 ?_;apply mI h0;simp[go_sem,eP,h1];apply xB (enc:=eY) (ev:=jX) (x:=n) (jX ⟨0,0,false,false⟩) pG lu Wv (.inr ⟨m1,rfl,C⟩);rw[qL,iw.lkA C O];generalize d:(S.getO n).getD ⟨0,0,false,false⟩=a;simp[go_sem,jX];apply oL;have hlt:=aB h1;have hM:aY m 1 1000000000000000=aY m 1 MF:=rfl;rw[hM];have hMF:MF=1000000000000000:=rfl;generalize r:w.alloc (.cells #[.int .u32 a.num,gI a.cash,.bool a.kil,.bool a.dfl] 100)=Q;have c:M0 w Q:=by subst r;exact(aR.refl _ w).alloc _
 have t:hC Q w.heap.size #[.int .u32 a.num,gI a.cash,.bool a.kil,.bool a.dfl] 100:=by subst r;simp[go_sem]
 have z:=c.keep h1 id;have q:=C.mod c id;have J:=h0.mod c d9;simp[go_sem,bT z,Ko pG q,(show Tryz.prog.underlying 3=some (.int .i64)from by kernel_rfl)];have Y:A.length=S.all.length+1:=by rw[O.length_eq];simp[bJ.accs]
 unfold bJ.deposit at f;by_cases u:aY m 1 MF=true
 ·have hmr:1<=m/\m<=1000000000000000:=fe.1 u;rw[ae u]at f|-;refine cT.at (λs W=>s=(.bool (decide (S.getO n=none/\64<=S.all.length)),())/\W=Q) ?_ ?_
  ·split
   ·grind
   ·grind
  rintro _ W ⟨rfl,rfl⟩;refine kR ?_;intro _;by_cases H:S.getO n=none/\64<=S.all.length
  ·rw[ae H]at f;simp only[aW H,ay,df];exact f _ J (c.to)
  ·rw[aa H]at f;simp only[bD H,ay,bi,dg];refine Rr J λX e=>?_;have R:=g.funds;have k:=e.keep t id;have D:=e.keep z id;have h2x:=q.mod e id;have h3x:=(h3.mod c id).mod e id;have p:=c.trans e;have M:IntKind.i64.wrap (S.funds+m)=S.funds+m:=by rw[bV];omega
   simp[go_sem,M,bT k,bT D];by_cases Z:S.funds+m>MF
   ·rw[ae Z]at f;rw[ae qZ];exact f _ (J.mod e d9) (p.to)
   ·rw[aa Z]at f;rw[aa qZ];rw[d]at f
    have U:0<=a.cash/\a.cash<=MF/\(n=0->a.kil=false/\a.dfl=false):=by
     cases o:S.getO n with
     |none=>
      rw[o]at d;subst d;exact⟨by simp,by simp[MF],λ_=>⟨rfl,rfl⟩⟩
     |some x=>
      rw[o]at d;simp only[dC]at d;subst d;obtain⟨g1,g2,g3,g4,g5,g6⟩:=g.getO o;refine⟨g4,g5,λV=>?_⟩;have:=g6 (g1.trans V);rw[this];exact xg
    have E:IntKind.i64.wrap (a.cash+m)=a.cash+m:=by rw[bV];omega
    have L:l≠w.heap.size:=qZ;simp[go_sem,E,bT k,bT D,L];generalize N:(X.setCell ⟨w.heap.size,0,none⟩ (gU n)).setCell ⟨w.heap.size,1,none⟩ (gI (a.cash+m))=G;have m3:aR (λb=>b=w.heap.size) X G:=by subst N;exact((aR.refl _ X).setCell (by simp) _ _).setCell (by simp) _ _
    have j:M0 w G:=p.on m3 λb d=>gr;let I:Ac:={a with num:=n,cash:=a.cash+m}
    refine gZ (enc:=eY) (ev:=jX) (x:=n) (v:=I) pG lu ((C.mod j id).mod ((aR.refl (λ_=>False) G).drew) id) λw4 hA m4 hs4=>?_;have y:aR (λb=>b=m1) G w4:=vz.trans m4
    have P:a.cash<=S.funds:=by
     cases o:S.getO n with
     |none=>rw[o]at d;subst d;exact R.1
     |some x=>
      rw[o]at d;simp only[dC]at d;subst d;exact g.cash_le o
    refine f w4 (iw.putA (a:=I) (j.keep h1 id) (C.mod j id) (h3.mod j id) O h5 h6 h7 g ?_ ?_ hA y) ?_
    ·intro i;have:=U.2.2 i;simp only[nU,I,this,Ac.mk.injEq,and_true,true_and];exact i
    ·apply g.putA V ⟨by grind,by grind⟩;simp only[I];by_cases i:n=0
     ·exact .inr (.inr i)
     ·by_cases o:S.getO n=none
      ·grind
      ·refine .inl ?_;unfold bJ.getO at o
       rwa[aa i]at o
    ·exact(j.to).on y λb d=>.inl ((h6 b).2 (.inr (.inl d)))
 ·simp only[Bool.not_eq_true]at u;rw[aa (by simp[u])]at f;rw[aa (by simp[u])];exact f _ J (c.to)
end Go.Proofs
namespace Go.Proofs
open Go Go.Vc
variable {n:Int}{S:bJ}
def tD(h:n≠0):S.getO n=S.find n:=by unfold bJ.getO;rw[aa h]
def Ge{w:Wt_}{l:Nat}{F:NP_}{K:aZ}{m:Int}(h:iw w l F S)(hn:0<=n/\n<4294967296)
  (i:∀I,iw I l F (S.withdraw n m).2->aR F w I->K (gI (S.withdraw n m).1) I):Ca pQ 199 #[eP l,gU n,gI m] w K:=by
 have P:=h;obtain⟨⟨G,m2,A,B,h1,r,h3,Q,h5,U,Z⟩,q⟩:=h;unfold eP;refine cN Tryz.func199 ?_;apply mI P;simp[go_sem,eP,h1];apply xB (enc:=eY) (ev:=jX) (x:=n) (jX ⟨0,0,false,false⟩) pG lu Wv (.inr ⟨G,rfl,r⟩);rw[qL,iw.lkA r Q];generalize o:(S.getO n).getD ⟨0,0,false,false⟩=a;have V:=aB h1;simp[go_sem,jX];generalize y:w.alloc (.cells #[.int .u32 a.num,gI a.cash,.bool a.kil,.bool a.dfl] 100)=C;have d:M0 w C:=by subst y;exact(aR.refl _ w).alloc _
 have j:hC C w.heap.size #[.int .u32 a.num,gI a.cash,.bool a.kil,.bool a.dfl] 100:=by subst y;simp[go_sem]
 have N:=d.keep h1 id;have h2w:=r.mod d id;have R:=P.mod d d9;have T:aR F w C:=d.to;have hMF:MF=1000000000000000:=rfl;unfold bJ.withdraw at i;refine cT.at (λs W=>s=(.bool (decide (n=0\/aY m 1 MF=false)),())/\W=C) ?_ ?_
 ·by_cases f:n=0
  ·simp[go_sem,f]
  ·simp[go_sem,f];apply oL;have Y:aY m 1 1000000000000000=aY m 1 MF:=rfl;simp[go_sem,Y]
 rintro _ W ⟨rfl,rfl⟩;refine kR ?_;intro _;by_cases z:n=0\/aY m 1 MF=false
 ·rw[ae z]at i;simp only[aW z,ay,df];exact i _ R T
 ·rw[aa z]at i;simp only[bD z,ay,bi,dg];obtain⟨f,L⟩:n≠0/\aY m 1 MF=true:=⟨λe=>z (.inl e),by grind⟩
  have hmr:=fe.1 L;rw[tD f]at o;rw[tD f];cases E:S.find n with
  |none=>
   rw[E]at i;simp[go_sem];exact i _ R T
  |some x=>
   rw[E]at i o;simp only[dC]at o;subst o;obtain⟨hx,M⟩:=bJ.find_mem E;obtain⟨g1,g2,g3,g4⟩:=q.acc x hx;simp only at i;simp[go_sem,bT j];by_cases k:x.cash<m
   ·grind
   ·rw[aa k]at i|-;have v:IntKind.i64.wrap (x.cash - m)=x.cash - m:=by rw[bV];omega
    have H:l≠w.heap.size:=qZ;simp[go_sem,v,bT j,bT N,H];generalize J:(W.setCell ⟨w.heap.size,1,none⟩ (gI (x.cash - m)))=D;have X:aR (λb=>b=w.heap.size) W D:=by subst J;exact((aR.refl _ W).setCell (by simp) _ _)
    have g:M0 w D:=d.on X λb o=>gr;let u:Ac:={x with cash:=x.cash - m}
    have c:u.num=n:=M
    have p:∀W:World,∀K:World->Prop,yS pQ (qX 173 (.map (some G)) (eY u.num) (jX u)) W K->yS pQ (qX 173 (.map (some G)) (gU n) (.agg #[.int .u32 x.num,gI (x.cash - m),.bool x.kil,.bool x.dfl])) W K:=by
     intro W K h;have:eY u.num=gU n:=by rw[c];rfl
     rw[this]at h;exact h
    apply p _ _;refine gZ (enc:=eY) (ev:=jX) pG lu ((r.mod g id).mod ((aR.refl (λ_=>False) D).drew) id) λO hA m4 hs4=>?_;have t:aR (λb=>b=G) D O:=vz.trans m4;refine i O (iw.putA (a:=u) (g.keep h1 id) (r.mod g id) (h3.mod g id) Q h5 U Z q ?_ ?_ hA t) ?_
    ·grind
    ·refine q.putA ⟨by rw[c];omega,by rw[c];omega⟩ ⟨by grind,by grind⟩ (.inl ?_);rw[c,E];simp
    ·exact(g.to).on t λb o=>.inl ((U b).2 (.inr (.inl o)))
def bJ.getV(S:bJ)(n:Int):Ac×Int:=((S.getO n).getD ⟨0,0,false,false⟩,if S.getO n=none then 7 else 0)
def EG{w:Wt_}{l:Nat}{F:NP_}{K:aZ}(h:iw w l F S)
  (d:∀k,M0 w k->K (.tuple #[jX (S.getV n).1,gI (S.getV n).2]) k):Ca pQ 56 #[eP l,gU n] w K:=by
 have p:=h;obtain⟨⟨s,u,A,B,h1,j,z,q,y,C,v⟩,t⟩:=h;unfold eP;refine cN Tryz.func56 ?_;simp[go_sem];generalize e:w.alloc _=f;have a:M0 w f:=by subst e;exact(aR.refl _ w).alloc _
 have b:hC f w.heap.size #[.int .u32 0,gI 0,.bool false,.bool false] 100:=by subst e;simp[go_sem]
 have r:=p.mod a d9;apply mI r;have i:=a.keep h1 id;have g:=j.mod a id;simp[go_sem,eP,bT i];apply xB (enc:=eY) (ev:=jX) (x:=n) (jX ⟨0,0,false,false⟩) pG lu Wv (.inr ⟨s,rfl,g⟩);rw[qL,iw.lkA j q];have o:=aB b;have c:w.heap.size≠f.heap.size:=qZ;unfold bJ.getV at d;cases m:S.getO n with
 |none=>
  rw[m]at d;simp[go_sem,jX,bT b,c];apply d _;exact((((a.alloc _).setCell (.inr (aD _)) _ _).setCell (.inr (aD _)) _ _).setCell (.inr (aD _)) _ _).setCell (.inr (aD _)) _ _
 |some x=>
  rw[m]at d;simp[go_sem,jX,bT b,c];apply d _;exact((((a.alloc _).setCell (.inr (aD _)) _ _).setCell (.inr (aD _)) _ _).setCell (.inr (aD _)) _ _).setCell (.inr (aD _)) _ _
end Go.Proofs
namespace Go.Proofs
open Go Go.Vc
variable {a:Int}{F:NP_}{l:Nat}{w:Wt_}{K:aZ}{S:bJ}
def Uj(e: -9223372036854775808<=a/\a<9223372036854775808)(b:K (.tuple #[.int .u64 (if a<0 then -a else a),.bool (decide (a<0))]) w):Ca pQ 224 #[.int .i64 a] w K:=by
 refine cN Tryz.func224 ?_;simp[go_sem];by_cases h:a<0
 ·rw[ae h]at b|-
  have c:IntKind.u64.wrap a=a+18446744073709551616:=by
   simp[IntKind.wrap,IntKind.bits,IntKind.signed];omega
  have d:IntKind.u64.wrap (-(a+18446744073709551616))= -a:=by
   simp[IntKind.wrap,IntKind.bits,IntKind.signed];omega
  simp[c,d,h]at b|-;exact b
 ·rw[aa h]at b|-
  have c:IntKind.u64.wrap a=a:=by
   simp[IntKind.wrap,IntKind.bits,IntKind.signed];omega
  simp[c,h]at b|-;exact b
def gM{m:Int}(f: -9223372036854775808<=a/\a<9223372036854775808)(c:0<=m/\m<9223372036854775808)(b:K (.bool (aY a (-m) m)) w):Ca pQ 150 #[.int .i64 a,gI m] w K:=by
 refine cN Tryz.func150 ?_;apply Uj f
 have d:IntKind.u64.wrap m=m:=by
  simp[IntKind.wrap,IntKind.bits,IntKind.signed];omega
 simp[go_sem,d,c.1]
 have e:aY a (-m) m=decide ((if a<0 then -a else a)<=m):=by
  unfold aY;rw[kU];split<;>omega
 rw[e]at b;exact b
def uZ{c:Int}(h:iw w l F S)
  (k:∀o,M0 w o->K (nh (S.position c a)) o):Ca pQ 222 #[eP l,gU c,gU a] w K:=by
 have t:=h;obtain⟨⟨E,s,A,B,h1,z,q,C,v,G,D⟩,y⟩:=h;unfold eP;refine cN Tryz.func222 ?_;simp[go_sem];generalize g:World.alloc _ _=i;have d:M0 w i:=by subst g;exact mG.alloc _
 have e:hC i w.heap.size #[.int .u32 0,gU 0,gI 0,gI 0] 124:=by subst g;simp[go_sem]
 have b:hC i (w.heap.size+1) #[.int .u32 c,gU a,gI 0,gI 0] 124:=by subst g;simp[go_sem]
 have u:=t.mod d d9;apply mI u;have n:=d.keep h1 id;have m:=q.mod d id;simp[go_sem,eP,bT n];apply xB (enc:=iv) (ev:=nh) (x:=(c,a)) (nh ⟨0,0,0,0⟩) AY O7 zPo (.inr ⟨s,rfl,m⟩);rw[Pb,iw.lkP q v];have r:=aB b;have j:w.heap.size≠i.heap.size:=qZ;have f:w.heap.size+1≠i.heap.size:=qZ;unfold bJ.position at k;cases p:S.pos? (c,a)with
 |none=>
  rw[p]at k;simp[go_sem,nh,bT e,bT b,j,f];apply k _;exact((((d.alloc _).setCell (.inr (aD _)) _ _).setCell (.inr (aD _)) _ _).setCell (.inr (aD _)) _ _).setCell (.inr (aD _)) _ _
 |some x=>
  rw[p]at k;simp[go_sem,nh,bT e,bT b,j,f];apply k _;exact((((d.alloc _).setCell (.inr (aD _)) _ _).setCell (.inr (aD _)) _ _).setCell (.inr (aD _)) _ _).setCell (.inr (aD _)) _ _
def iw.putP{w' :Wt_}{c a:Nat}{A:List (Int×Ac)}{e:List ((Int×Int)×Po)}(h1:hC w l #[.map (some c),.map (some a)] 176)
  (h:eM eY jX w c A)(i:A.Perm S.accs)(k:∀b,F b↔b=l\/b=c\/b=a)(f:l≠c/\l≠a/\c≠a)(p:Po)
  (m:e.Perm (S.putP p).poss)(d:(S.putP p).Ok)(j:eM iv nh w' a e)(g:aR (λb=>b=a) w w'):iw w' l F (S.putP p):=
 ⟨⟨c,a,A,e,g.keep h1 f.2.1,h.mod g f.2.2,j,i,m,k,f⟩,d⟩
def Kh{p:Po}(h:iw w l F S)(g:(S.putP p).Ok)
  (I:∀u,iw u l F (S.putP p)->aR F w u->K (.tuple #[]) u):Ca pQ 304 #[eP l,nh p] w K:=by
 obtain⟨⟨N,r,A,B,h1,D,z,E,H,t,G⟩,M⟩:=h;unfold eP;refine cN Tryz.func304 ?_;simp[go_sem,nh];generalize k:World.alloc _ _=q;have a:M0 w q:=by subst k;exact mG.alloc _
 have i:hC q w.heap.size #[.int .u32 p.c,gU p.a,gI p.q,gI p.b] 124:=by subst k;simp[go_sem]
 have c:hC q (w.heap.size+1) #[.int .u32 p.c,gU p.a] 235:=by subst k;simp[go_sem]
 have f:=a.keep h1 id;refine cT.at (λs W=>s=(.bool p.isZ,())/\W=q) ?_ ?_
 ·simp[go_sem,bT i];unfold Po.isZ;by_cases L:p.q=0<;>by_cases j:p.b=0<;>simp[L,j]
 rintro _ W ⟨rfl,rfl⟩;refine kR ?_;intro _;have o:eM iv nh W.drew r B:=(z.mod a id).mod ((aR.refl (λ_=>False) W).drew) id;cases J:p.isZ with
 |true=>
  simp[go_sem,eP,bT f,bT c];refine Dt (enc:=iv) (ev:=nh) (x:=p.key) AY O7 (.inr ⟨r,rfl,o⟩) λn m C y=>?_;rcases m with⟨m,_⟩|⟨b,j,m⟩
  ·cases m
  cases j;have d:aR (λb=>b=r) W n:=(vz.trans (C.mono λb _ e=>by cases e;rfl))
  apply I n (iw.putP f (D.mod a id) E t G p (bJ.del_poss z.1 H p J) g m d);exact(a.to).on d λb j=>.inl ((t b).2 (.inr (.inr j)))
 |false=>
  simp[go_sem,eP,bT f,bT i,bT c];refine gZ (enc:=iv) (ev:=nh) (x:=p.key) (v:=p) AY O7 o λn m C y=>?_;have d:aR (λb=>b=r) W n:=vz.trans C;apply I n (iw.putP f (D.mod a id) E t G p (bJ.put_poss z.1 H p J) g m d);exact(a.to).on d λb j=>.inl ((t b).2 (.inr (.inr j)))
end Go.Proofs
namespace Go.Proofs
open Go Go.Vc
def XB{w:Wt_}{l:Nat}{F:NP_}{S:bJ}{K:aZ}{a:Ac}(h:iw w l F S)(hn:0<=a.num/\a.num<4294967296)
  (g:∀G,iw G l F (S.set a).2->aR F w G->K (gI (S.set a).1) G):Ca pQ 145 #[eP l,jX a] w K:=by
 have Y:=h;obtain⟨⟨r,m2,A,B,h1,o,Q,J,h5,R,Z⟩,u⟩:=h;have T:=aB h1;have X:=o.lt;have U:=Q.lt;unfold eP;refine cN Tryz.func145 ?_;simp[go_sem,jX];generalize q:World.alloc _ _=C;have d:M0 w C:=by subst q;exact(aR.refl _ w).alloc _
 have c:hC C w.heap.size #[.int .u32 a.num,gI a.cash,.bool a.kil,.bool a.dfl] 100:=by subst q;simp[go_sem]
 have z:=d.keep h1 id;have L:=Y.mod d d9;have mF:aR F w C:=d.to;apply mI L;simp[go_sem];unfold bJ.set at g;have V:aY a.cash 0 1000000000000000=aY a.cash 0 MF:=rfl;refine cT.at (λs W=>s=(.bool (decide (aY a.cash 0 MF=false\/(a.num=0/\(a.kil=true\/a.dfl=true)))),())/\W=C) ?_ ?_
 ·simp[go_sem,bT c];apply oL;rw[V];cases n:aY a.cash 0 MF
  ·simp[go_sem]
  ·simp[go_sem,bT c];by_cases f:a.num=0
   ·grind
   ·simp[f]
 rintro _ W ⟨rfl,rfl⟩;refine kR ?_;intro _;by_cases n:aY a.cash 0 MF=false\/(a.num=0/\(a.kil=true\/a.dfl=true))
 ·rw[ae n]at g;simp only[aW n,ay,df];exact g _ L mF
 ·rw[aa n]at g;simp only[bD n,ay,bi,dg];have j:0<=a.cash/\a.cash<=MF:=fe.1 (by grind);have k:∀i,M0 W i->eM eY jX i r A:=λi m=>(o.mod d id).mod m id;simp[go_sem,eP,bT z,bT c];apply D9 (enc:=eY) (ev:=jX) (x:=a.num) (jX ⟨0,0,false,false⟩) pG lu Wv (.inr ⟨r,rfl,k _ vz⟩);rw[qL,iw.lkA o J];generalize H:(S.getO a.num).getD ⟨0,0,false,false⟩=x;have hsz:=aB c;have y:w.heap.size≠W.heap.size:=qZ;have t:l≠W.heap.size:=qZ;simp[go_sem,jX,bT c,bT z,y,t]
  have hl:∀i,M0 W i->(jQ 173 (.map (some r)) (gU a.num) true).run pQ i=.ok (.tuple #[jX x,.bool (S.getO a.num).isSome]) i:=λi m=>by
   have:=yR (P:=pQ) (enc:=eY) (ev:=jX) (x:=a.num) pG lu Wv (.inr ⟨r,rfl,k _ m⟩);rw[qL,iw.lkA o J,H]at this;exact this
  refine⟨hl _ (mG.drew),?_⟩;generalize I:(World.alloc _ _).drew=N;have E:M0 W N:=by subst I;exact mG.drew
  have e:=d.trans E;by_cases D:S.getO a.num=none
  ·rw[ae D]at g|-;exact g _ (L.mod E d9) (e.to)
  ·rw[aa D]at g|-;refine gZ (enc:=eY) (ev:=jX) (x:=a.num) (v:=a) pG lu (k _ (E.drew)) λM hA m4 hs4=>?_;have p:aR (λb=>b=r) N M:=vz.trans m4;refine g M (iw.putA (a:=a) (e.keep h1 id) (o.mod e id) (Q.mod e id) J h5 R Z u ?_ ?_ hA p) ?_
   ·intro O;have hk:¬(a.kil=true\/a.dfl=true):=λh=>n (.inr ⟨O,h⟩);obtain⟨num,cash,kil,dfl⟩:=a;simp only[nU,Ac.mk.injEq,true_and]at*;refine⟨O,?_,?_⟩
    ·grind
    ·grind
   ·apply u.putA hn j;by_cases f:a.num=0
    ·exact .inr (.inr f)
    ·rw[tD f]at D;exact .inl D
   ·exact(e.to).on p λb H=>.inl ((R b).2 (.inr (.inl H)))
end Go.Proofs
namespace Go.Proofs
open Go Go.Vc
def yp{S:bJ}{n:Int}(h:S.find n≠none):∃a∈S.all,a.num=n:=by
 obtain⟨x,b⟩:=Option.ne_none_iff_exists'.1 h;exact⟨x,bJ.find_mem b⟩
def ZY:fY pQ 124 4 24=true:=cV
def SY{w:Wt_}{l:Nat}{F:NP_}{S:bJ}{K:aZ}{c b s p n:Int}(h:iw w l F S)(hc:0<=c/\c<4294967296)
  (t:∀w',iw w' l F (S.trade c b s p n).2->aR F w w' ->K (gI (S.trade c b s p n).1) w'):Ca pQ 273 #[eP l,gU c,gU b,gU s,gI p,gI n] w K:=by
 have h0:=h;obtain⟨⟨m1,m2,A,B,h1,h2,h3,h4,h5,h6,h7⟩,D⟩:=h;have hlt:=aB h1;unfold eP;refine cN Tryz.func273 ?_;apply mI h0;simp[go_sem];unfold bJ.trade at t;have hMp:∀x:Int,aY x 1 10000000=aY x 1 MP:=λ_=>rfl;generalize H:(decide (c=0\/b=0\/s=0\/b=s\/aY p 1 MP=false\/aY n 1 MP=false))=cd;refine cT.at (λst W=>st=(.bool cd,())/\W=w) ?_ ?_
 ·subst H;by_cases I:c=0
  ·simp[I]
  ·by_cases J:b=0
   ·simp[I,J]
   ·by_cases e3:s=0
    ·simp[I,J,e3]
    ·by_cases e4:b=s
     ·simp[I,J,e3,e4]
     ·simp[I,J,e3,e4];apply oL;rw[hMp];cases aY p 1 MP
      ·simp[go_sem]
      ·simp[go_sem];apply oL;rw[hMp];simp[go_sem]
 rintro _ w ⟨rfl,rfl⟩;refine kR ?_;intro _;cases cd with
 |true=>
  rw[ae (bE H)]at t;simp;exact t _ h0 rZ
 |false=>
  have k:=of_decide_eq_false H;rw[aa k]at t
  have hl:∀(x:Int) f,M0 w f->(jQ 173 (.map (some m1)) (gU x) true).run pQ f=.ok (.tuple #[jX ((S.getO x).getD ⟨0,0,false,false⟩),.bool (S.getO x).isSome]) f:=λx f m=>by
   have:=yR (P:=pQ) (enc:=eY) (ev:=jX) (x:=x) pG lu Wv (.inr ⟨m1,rfl,h2.mod m id⟩);rw[qL,iw.lkA h2 h4]at this;exact this
  simp[go_sem,eP,bT h1];apply kY (hl b _ rZ);simp[go_sem,jX,bT h1,XK hlt];generalize hw1:World.alloc _ _=w1;have m1' :M0 w w1:=by subst hw1;exact(aR.refl _ w).alloc _
  apply kY (hl s _ m1');simp[go_sem,jX];generalize hw2:World.alloc _ _=w2;have E:M0 w w2:=by subst hw2;exact m1'.alloc _
  have q2:=h0.mod E d9
  obtain⟨I,J,e3,e4,e5,e6⟩:c≠0/\b≠0/\s≠0/\b≠s/\aY p 1 MP=true/\aY n 1 MP=true:=by
   refine⟨λe=>k (.inl e),λe=>k (.inr (.inl e)),λe=>k (.inr (.inr (.inl e))),λe=>k (.inr (.inr (.inr (.inl e)))),?_,?_⟩
   ·grind
   ·grind
  rw[tD J,tD e3];refine cT.at (λst W=>st=(.bool (decide (S.find b=none\/S.find s=none)),())/\W=w2) ?_ ?_
  ·cases S.find b<;>cases S.find s<;>simp
  rintro _ w2 ⟨rfl,rfl⟩;refine kR ?_;intro _;by_cases g:S.find b=none\/S.find s=none
  ·rw[ae g]at t;simp only[aW g,ay,df];exact t _ q2 (E.to)
  ·rw[aa g]at t;simp only[bD g,ay,bi,dg];have M:S.find b≠none/\S.find s≠none:=⟨λh=>g (.inl h),λh=>g (.inr h)⟩
   refine uZ q2 λw3 m3=>?_;have q3:=q2.mod m3 d9;refine uZ q3 λw4 m4=>?_;have q4:=q3.mod m4 d9;have U:=(E.trans m3).trans m4;obtain⟨x1,x2,x3,x4,x5,x6⟩:=D.position c b;obtain⟨y1,y2,y3,y4,y5,y6⟩:=D.position c s;generalize S.position c b=x at*;generalize S.position c s=y at*;simp only at t;obtain⟨p1,p2⟩:=fe.1 e5;obtain⟨n1,n2⟩:=fe.1 e6;have hpn:=Kd (x:=p) (y:=n) (m:=MP) (n:=MP) ⟨by grind,p2⟩ ⟨qZ,n2⟩;have hpn0:0<=p*n:=jw qZ qZ;generalize hpnv:p*n=j at*;simp only[MP,MF]at x3 x4 x5 x6 y3 y4 y5 y6 p2 n2 hpn;have wr1:IntKind.i64.wrap (x.q+n)=x.q+n:=by rw[bV];omega
   have wr2:IntKind.i64.wrap j=j:=by rw[bV];omega
   have wr3:IntKind.i64.wrap (x.b+j)=x.b+j:=by rw[bV];omega
   have wr4:IntKind.i64.wrap (y.q - n)=y.q - n:=by rw[bV];omega
   have wr5:IntKind.i64.wrap (y.b - j)=y.b - j:=by rw[bV];omega
   simp[go_sem,nh,hpnv,wr1,wr2,wr3,wr4,wr5,x1,x2,y1,y2];let X:Po:=⟨c,b,x.q+n,x.b+j⟩
   let Y:Po:=⟨c,s,y.q - n,y.b - j⟩
   generalize G:World.alloc _ _=L;have m5:M0 w4 L:=by subst G;exact mG.alloc _
   have hX:hC L w4.heap.size #[.int .u32 c,gU b,gI (x.q+n),gI (x.b+j)] 124:=by subst G;simp[go_sem]
   have hY:hC L (w4.heap.size+1) #[.int .u32 c,gU s,gI (y.q - n),gI (y.b - j)] 124:=by subst G;simp[go_sem]
   refine nI (e:=124) (sz:=4) [nh X,nh Y] cV (dB ZY) rfl rfl (by simp[nh,Value.cells]) (by decide) ?_;generalize Q:World.alloc _ _=w6;have m6:M0 L w6:=by subst Q;exact(aR.refl _ L).alloc _
   have hQ:hC w6 L.heap.size #[.int .u32 c,gU b,gI (x.q+n),gI (x.b+j),gU c,gU s,gI (y.q - n),gI (y.b - j)] 124:=by
    subst Q;simp[go_sem,nh,Value.cells,X,Y]
   have q6:=(q4.mod m5 d9).mod m6 d9;have N:=(U.trans m5).trans m6;have hX6:=m6.keep hX id;have hY6:=m6.keep hY id;simp[go_sem];have V:∀z:Int,aY z (-1000000000000000) 1000000000000000=aY z (-MF) MF:=λ_=>rfl;have hMP:∀z:Int,aY z (-10000000) 10000000=aY z (-MP) MP:=λ_=>rfl;let a:Po->Bool:=λz=>aY z.q (-MP) MP&& aY z.b (-MF) MF
   refine vm (λst W=>∃(v:Vt_) (i:Nat),i<=2/\st=(v,gI i,())/\M0 w6 W/\(0<i->a X=true)/\(1<i->a Y=true))
    (λst _=>match st.2.1 with| .int _ i=>2 - i.toNat|_=>0) ⟨_,0,qZ,rfl,rZ,qZ,qZ⟩ ?_
   rintro⟨sv,_⟩ W ⟨v,i,hi,⟨⟩,C,hi0,hi1⟩ KN T;refine lV ?_;intro _;have hQW:=C.keep hQ id;have qW:=q6.mod C d9
   have step:∀(Z:Po) (f:Wt_),(a Z=false->K (gI 6) f)->(a Z=true->KN (sv,gI ((i:Int)+1),()) f)->So K (sv,gI (i:Int),()) KN (.bool (!a Z),()) f:=by
    intro Z f g hyes;unfold So;intro _;cases r:a Z
    ·simp;exact g r
    ·have hw:IntKind.i64.wrap ((i:Int)+1)=(i:Int)+1:=by rw[bV];omega
     simp[go_sem,hw];exact hyes r
   have O:a X=true↔¬(MP<X.q\/MF<X.b):=by
    simp only[a,ai,fe,MP,MF,X];omega
   have R:a Y=true↔¬(Y.q< -MP\/Y.b< -MF):=by
    simp only[a,ai,fe,MP,MF,Y];omega
   have mA:∀o,aR F w (W.alloc o):=λo=>((N.trans C).alloc o).to
   have fail:(MP<X.q\/Y.q< -MP\/MF<X.b\/Y.b< -MF)->∀f,iw f l F S->aR F w f->K (gI 6) f:=by
    intro h f hq' hm';have q:=t f;rw[ae h]at q;exact q hq' hm'
   rcases(show i=0\/i=1\/i=2 by omega)with rfl|rfl|rfl
   ·simp[go_sem,bT hQW];refine cT.at (λst f=>st=(.bool (!a X),())/\f=W.alloc (.cells (dy X).toArray 124)) ?_ ?_
    ·simp[go_sem];apply gM ⟨by grind,by grind⟩ qZ;rw[hMP];cases h1:aY X.q (-MP) MP
     ·have d:=h1;simp only[X]at d;simp[go_sem,d,a,h1,dy,X]
     ·have d:=h1;simp only[X]at d;simp[go_sem,d];apply gM ⟨by grind,by grind⟩ qZ;rw[V];simp[go_sem,a,d,dy,X]
    rintro _ f ⟨rfl,rfl⟩;refine step X _ (λr=>?_) (λr=>?_)
    ·refine fail ?_ _ (qW.mod mG d9) (mA _);have:¬a X=true:=by rw[r];simp
     rw[O]at this;omega
    ·exact T _ _ ⟨sv,1,qZ,rfl,C.alloc _,λ_=>r,qZ⟩ (by simp)
   ·simp[go_sem,bT hQW];refine cT.at (λst f=>st=(.bool (!a Y),())/\f=W.alloc (.cells (dy Y).toArray 124)) ?_ ?_
    ·simp[go_sem];apply gM ⟨by grind,by grind⟩ qZ;rw[hMP];cases h1:aY Y.q (-MP) MP
     ·have d:=h1;simp only[Y]at d;simp[go_sem,d,a,h1,dy,Y]
     ·have d:=h1;simp only[Y]at d;simp[go_sem,d];apply gM ⟨by grind,by grind⟩ qZ;rw[V];simp[go_sem,a,d,dy,Y]
    rintro _ f ⟨rfl,rfl⟩;refine step Y _ (λr=>?_) (λr=>?_)
    ·refine fail ?_ _ (qW.mod mG d9) (mA _);have:¬a Y=true:=by rw[r];simp
     rw[R]at this;omega
    ·exact T _ _ ⟨sv,2,qZ,rfl,C.alloc _,λ_=>hi0 qZ,λ_=>r⟩ (by simp)
   ·have g1:=O.1 (hi0 qZ);have g2:=R.1 (hi1 qZ);have u:¬(MP<X.q\/Y.q< -MP\/MF<X.b\/Y.b< -MF):=qZ;have q:=λf=>t f;simp only[X,Y]at u;simp only[aa u]at q;have hXW:=C.keep hX6 id;have hYW:=C.keep hY6 id;simp[go_sem,bT hXW];have okX:(S.putP X).Ok:=D.putP ⟨by grind,hc.2⟩ ⟨by simp only[X,MP];omega,by grind⟩ ⟨by simp only[X,MF];omega,by simp only[X,MF]at g1|-;omega⟩ (yp M.1);have okY:((S.putP X).putP Y).Ok:=okX.putP ⟨by grind,hc.2⟩ ⟨by grind,by simp only[Y,MP];omega⟩ ⟨by grind,by simp only[Y,MF];omega⟩ (yp (S:=S) M.2);refine Kh (p:=X) qW okX λw7 q7 m7=>?_;have hne:¬F (w4.heap.size+1):=λh=>by have:=h0.lt h;have:=U.size;omega
    have hY7:=m7.keep hYW hne;simp[go_sem,bT hY7];refine Kh (p:=Y) q7 okY λw8 q8 m8=>?_;exact q w8 q8 ((((N.trans C).to).trans m7).trans m8)
end Go.Proofs
namespace Go.Proofs
open Go Go.Vc
section
variable{κ ν:Type} [DecidableEq κ]
def JM{A B:List (κ×ν)}(c:(A.map (·.1)).Nodup)(b:(B.map (·.1)).Nodup)(h:∀k,lk A k=lk B k):A.Perm B:=by
 have nd:∀L:List (κ×ν),(L.map (·.1)).Nodup->L.Nodup:=λL d=>by
  rw[List.Nodup,eL]at d;exact d.imp λa e=>a (by rw[e])
 refine(List.perm_ext_iff_of_nodup (nd A c) (nd B b)).2 λ⟨k,v⟩=>?_;rw[<-Sq c,<-Sq b,h]
def HJ{R:List (κ×ν)}(b:(R.map (·.1)).Nodup){i:Nat}{p:κ×ν}(h:R[i]? =some p):((R.eraseIdx i).map (·.1)).Nodup/\lk R p.1=some p.2/\lk (R.eraseIdx i) p.1=none/\∀k,k≠p.1->lk (R.eraseIdx i) k=lk R k:=by
 have hp:=oe h;have a:((p::R.eraseIdx i).map (·.1)).Nodup:=(hp.map _).nodup_iff.1 b;simp only[aI,ce]at a;refine⟨a.2,by rw[AS b hp];simp[lk],oT a.1,λk c=>?_⟩;rw[AS b hp];simp[lk,lR c]
def tT(A R C:List (κ×ν)):Prop:=(R.map (·.1)).Nodup/\∀k,(lk R k).or (lk C k)=lk A k
def tT.step{A R C:List (κ×ν)}(h:tT A R C){i:Nat}{p:κ×ν}(hi:R[i]? =some p):tT A (R.eraseIdx i) (put C p.1 p.2):=by
 obtain⟨a,b⟩:=h;obtain⟨h1,c,f,d⟩:=HJ a hi;refine⟨h1,λk=>?_⟩;rw[lm];by_cases e:k=p.1
 ·grind
 ·grind
def tT.done{A C:List (κ×ν)}(h:tT A [] C)(a:(A.map (·.1)).Nodup)(hC:(C.map (·.1)).Nodup):C.Perm A:=
 JM hC a λk=>by have:=h.2 k;simpa [lk]using this
end
def bJ.empty:bJ:=⟨0,[],[]⟩
def bJ.empty_ok:bJ.empty.Ok where
 fund:=by simp[bJ.empty,MF]
 sa:=List.Pairwise.nil
 sp:=List.Pairwise.nil
 len:=by simp[bJ.empty]
 acc:=by simp[bJ.empty]
 pos:=by simp[bJ.empty]
def IW{w:Wt_}{K:aZ}(j:∀d l F,iw d l F bJ.empty->M0 w d->(∀b,F b->w.heap.size<=b)->K (eP l) d):Ca pQ 34 #[] w K:=by
 refine cN Tryz.func34 ?_;simp[go_sem];have o:=eM.new (enc:=eY) (ev:=jX) w;refine gZ (enc:=eY) (ev:=jX) (x:=0) (v:=⟨0,0,false,false⟩) pG lu o λa k h e=>?_;have n:M0 w a:=mG.on h λb i=>gr;have m:a.heap.size=w.heap.size+1:=by rw[e,cw]
 (try simp[go_sem])
 generalize c:(a.alloc (.map #[] 0)).alloc _=g;have f:M0 a g:=by subst c;exact mG.alloc _
 refine j g (a.heap.size+1) (λb=>b=a.heap.size+1\/b=w.heap.size\/b=a.heap.size) ⟨⟨w.heap.size,a.heap.size,_,[],?_,k.mod f id,?_,?_,cS _,λ_=>aG,qZ,qZ,qZ⟩,bJ.empty_ok⟩ (n.trans f) λb i=>by omega
 ·subst c;simp[go_sem,m]
 ·subst c;exact(eM.new (enc:=iv) (ev:=nh) a).mod ((aR.refl (λ_=>False) _).alloc _) id
 ·exact cS _
def TK{w:Wt_}{l:Nat}{F:NP_}{S:bJ}{K:aZ}(h:iw w l F S)(hK:∀q e F',iw q e F' S->M0 w q->(∀b,F' b->w.heap.size<=b)->K (eP e) q):Ca pQ 92 #[eP l] w K:=by
 have h0:=h;obtain⟨⟨m1,m2,A,B,h1,P,V,h4,h5,h6,h7⟩,hok⟩:=h;unfold eP;refine cN Tryz.func92 ?_;apply mI h0;simp[go_sem];refine IW λw1 e F' q1 n1 Y=>?_;obtain⟨⟨k1,k2,A',B',c1,c2,c3,c4,c5,X,c7⟩,-⟩:=q1;have hk1:w.heap.size<=k1:=Y k1 ((X k1).2 (.inr (.inl rfl)));have hk2:w.heap.size<=k2:=Y k2 ((X k2).2 (.inr (.inr rfl)));have hl' :w.heap.size<=e:=Y e ((X e).2 (.inl rfl));have e1:=n1.keep h1 id;have hlm1:=P.lt;have hlm2:=V.lt;simp[go_sem,eP,bT e1];refine tM pG (P.mod n1 id) λw2 O n2=>?_;generalize hg:w1.heap.size=it at O;have hitl:=aB c1;have hc2l:=c2.lt;have hc3l:=c3.lt
 refine vm (λs W=>∃(R C:List (Int×Ac)),s=()/\lz eY jX W it m1 R/\eM eY jX W k1 C/\tT A R C/\aR (λb=>b=it\/b=k1) w1 W)
  (λs W=>rY it m1 W) ⟨A,A',rfl,O,c2.mod n2 id,⟨P.1,λk=>?_⟩,n2.to⟩ ?_
 ·have hA' :∀k,lk A' k=bJ.empty.getO k:=λk=>iw.lkA c2 c4 k;rw[hA' k,iw.lkA P h4];unfold bJ.getO;by_cases L:k=0
  ·simp[L]
  ·simp only[aa L];cases S.find k<;>simp[bJ.find,bJ.empty]
 rintro _ W ⟨R,C,rfl,itW,cW,inv,mW⟩ KN hKN;refine lV ?_;intro _;refine vY itW ?_ ?_
 ·intro L q I hh;subst L;have j:aR (λb=>b=it\/b=k1) w1 q:=mW.trans (I.to);have e1' :=j.keep e1 (by have:=aB h1;omega);simp[go_sem,bT e1'];have mF:M0 w q:=n1.on j λb a=>.inr (by grind);refine tM AY (V.mod mF id) λw4 T Z=>?_;generalize hg4:q.heap.size=o at T;have cA:=((inv.done P.1 cW.1).trans h4)
  have cW4:=(cW.mod I id).mod Z id
  have hjt:it<o/\k1<o/\k2<o/\e<o:=by
   have:=j.size;have:=itW.lt.2;have:=I.size;omega
  have m:hC w4 e #[.map (some k1),.map (some k2)] 176:=Z.keep (j.keep c1 qZ) id
  refine vm (λs W=>∃(R C:List ((Int×Int)×Po)),s=()/\lz iv nh W o m2 R/\eM iv nh W k2 C/\tT B R C/\aR (λb=>b=o\/b=k2) w4 W)
   (λs W=>rY o m2 W) ⟨B,B',rfl,T,(c3.mod j qZ).mod Z id,⟨V.1,λk=>?_⟩,rZ⟩ ?_
  ·have hB' :∀k,lk B' k=bJ.empty.pos? k:=λk=>iw.lkP c3 c5 k;rw[hB' k];cases lk B k<;>simp[bJ.pos?,bJ.empty]
  rintro _ W5 ⟨R5,C5,rfl,u,E,t,H⟩ KN5 N;refine lV ?_;intro _;refine vY u ?_ ?_
  ·intro L d c hh'';subst L;simp[go_sem];have g:aR (λb=>b=o\/b=k2) w4 d:=H.trans (c.to);refine hK d e F' ⟨⟨k1,k2,C,C5,g.keep m qZ,cW4.mod g qZ,E.mod c id,cA,(t.done V.1 E.1).trans h5,X,c7⟩,hok⟩ (mF.on ((Z.to (G:=λb=>b=o\/b=k2)).trans g) λb a=>.inr (by grind)) Y
  ·intro i p Q d J f c hsz;simp[go_sem];apply tv f;have r:=(H.on c λb a=>.inl (.inl a)).keep m (by grind);have hlt:=aB r;have y:e≠d.heap.size:=qZ;have U:e≠d.heap.size+1:=qZ;simp[go_sem,nh,iv,eP,bT r,y,U];generalize z:World.drew _=w6;have D:M0 d w6:=by subst z;exact(mG.alloc _).drew
   refine gZ (enc:=iv) (ev:=nh) (x:=p.1) (v:=p.2) AY O7 ((E.mod c (by grind)).mod D id) λw7 hA M hs7=>?_;have n:lz iv nh w7 o m2 (R5.eraseIdx i):=(J.mod D id id).mod M qZ qZ;apply N _ _ ⟨_,_,rfl,n,hA,t.step Q,((H.on c λb a=>.inl (.inl a)).on D λ_ h=>h.elim).on M λb a=>.inl (.inr a)⟩;rw[n.left,u.left,gX];have:i<R5.length:=(aJ.1 Q).1;rw[ae this];omega
 ·intro i p Q q J f I hsz;simp[go_sem];apply tv f;have m:=(mW.on I λb a=>.inl (.inl a)).keep c1 (by grind);have hlt:=aB m;have y:e≠q.heap.size:=qZ;simp[go_sem,jX,eY,eP,bT m,y];generalize z:World.drew _=w6;have D:M0 q w6:=by subst z;exact mG.drew
  refine gZ (enc:=eY) (ev:=jX) (x:=p.1) (v:=p.2) pG lu ((cW.mod I (by grind)).mod D id) λw7 hA M hs7=>?_;have n:lz eY jX w7 it m1 (R.eraseIdx i):=(J.mod D id id).mod M qZ qZ;apply hKN _ _ ⟨_,_,rfl,n,hA,inv.step Q,((mW.on I λb a=>.inl (.inl a)).on D λ_ h=>h.elim).on M λb a=>.inl (.inr a)⟩;rw[n.left,itW.left,gX];have:i<R.length:=(aJ.1 Q).1;rw[ae this];omega
end Go.Proofs
