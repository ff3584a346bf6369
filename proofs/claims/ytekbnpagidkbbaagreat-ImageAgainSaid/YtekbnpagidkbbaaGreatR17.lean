/- Part of a proof. -/
import Derived.Test.YtekbnpagidkbbaaGreatR16
set_option linter.all false
set_option maxRecDepth 100000
set_option maxHeartbeats 4000000
namespace Go.Proofs
open Go Go.Vc
variable {cl:Bool}{a price n c:Int}{l:List Po}{o:Od}{x:Po}{g f:Po->Int}{S' :bJ}{S:bt}
def iJ(g:Po->Int)(l:List Po):Int:=(l.map g).sum
def DA{a:List Po}(h:l.Perm a):iJ g l=iJ g a:=uW (h.map g)
def GC{a:List Po}:iJ g (l++a)=iJ g l+iJ g a:=by simp[iJ]
def Ni(hs:kP l)(k:Int×Int):l.Perm ((l.find? λx=>decide (x.key=k)).toList++l.filter λx=>decide (x.key≠k)):=by
 induction l with
 |nil=>exact cS _
 |cons p l c=>
  have a:kP l:=(bY.1 hs).2;have hp:=(bY.1 hs).1;by_cases h:p.key=k
  ·rw[iC (by simpa using h),aV (by simpa using h)];simp only[Option.toList_some,List.singleton_append];refine List.Perm.cons _ (iN ?_);symm;refine cO.2 λx b=>?_;have:=uj (hp x b);simpa using λe:x.key=k=>this (h.trans e.symm)
  ·grind
def tR{S:bJ}(hs:kP S.held){g:Po->Int}(b:∀p,p.isZ=true->g p=0)(p:Po):iJ g (S.putP p).held=iJ g S.held+g p - g (S.position p.c p.a):=by
 have h1:=DA (g:=g) (y9 S.held p);have a:=DA (g:=g) (Ni hs p.key);rw[GC]at h1 a
 have c:iJ g (if p.isZ=true then []else [p])=g p:=by
  cases h:p.isZ with
  |true=>simp[iJ,b p h]
  |false=>simp[iJ]
 have d:iJ g (S.held.find? λx=>decide (x.key=p.key)).toList=g (S.position p.c p.a):=by
  unfold bJ.position bJ.pos?;show _=g ((S.held.find? λx=>decide (x.key=p.key)).getD _);cases S.held.find? λx=>decide (x.key=p.key)with
  |none=>simp[iJ,b ⟨p.c,p.a,0,0⟩ (by simp[Po.isZ])]
  |some x=>simp[iJ]
 rw[c]at h1;rw[d]at a;show iJ g (I9 S.held p)=_;omega
def zgq(c:Int)(p:Po):Int:=if p.c=c then p.q else 0
def Jz(c:Int)(p:Po):Int:=if p.c=c then p.b else 0
def Ut(c:Int):∀p,p.isZ=true->zgq c p=0:=λp h=>by
 unfold Po.isZ at h;simp only[aS]at h;unfold zgq;split<;>simp[h]
def Un(c:Int):∀p,p.isZ=true->Jz c p=0:=λp h=>by
 unfold Po.isZ at h;simp only[aS]at h;unfold Jz;split<;>simp[h]
def zz(S:bJ)(c:Int)(f:Po->Int):iJ f (S.holders c)=iJ (λp=>if p.c=c then f p else 0) S.held:=by
 unfold bJ.holders iJ;induction S.held with
 |nil=>rfl
 |cons p l a=>
  by_cases h:p.c=c
  ·grind
  ·grind
def bJ.trade_sum{S:bJ}(a:S.Ok){c b s p n:Int}(k:Int):
  iJ (zgq k) (S.trade c b s p n).2.held=iJ (zgq k) S.held/\iJ (Jz k) (S.trade c b s p n).2.held=iJ (Jz k) S.held:=by
 by_cases g:(S.trade c b s p n).1=0
 ·obtain⟨e,m⟩:=bJ.trade_ok g;rw[m];have d:=th a.sp ⟨c,b,(S.position c b).q+n,(S.position c b).b+p*n⟩;obtain⟨l,o,-⟩:=a.position c b;obtain⟨i,q,-⟩:=a.position c s
  have j:(S.putP ⟨c,b,(S.position c b).q+n,(S.position c b).b+p*n⟩).position c s=S.position c s:=by
   rw[bJ.position_putP a.sp];rw[aa (λh=>e h.2.symm)]
  constructor
  ·rw[tR d (Ut k),tR a.sp (Ut k)];simp only[j];unfold zgq;rw[l,i];by_cases f:c=k<;>simp[f]<;>omega
  ·rw[tR d (Un k),tR a.sp (Un k)];simp only[j];unfold Jz;rw[l,i];by_cases f:c=k<;>simp[f]<;>omega
 ·have:(S.trade c b s p n).2=S:=by
   unfold bJ.trade at g|-;split
   ·rfl
   ·split
    ·rfl
    ·simp only at g|-;split
     ·rfl
     ·grind
  rw[this];exact xg
def rP(p:Po)(price:Int)(cl:Bool):(p.mark price cl).c=p.c/\(p.mark price cl).a=p.a:=by
 unfold Po.mark;cases cl<;>exact xg
def Je:∀{l:List Po} {S:bJ},kP S.held->kP l->∀c a,(S.marked l price cl).position c a=match l.find? (λx=>decide (x.key=(c,a)))with|some p=>p.mark price cl|none=>S.position c a:=by
 intro l;induction l with
 |nil=>intro S b f c a;rfl
 |cons p l i=>
  intro S b f c a;have hp:=(bY.1 f).1;show((S.putP (p.mark price cl)).marked l price cl).position c a=_;rw[i (th b _) (bY.1 f).2];by_cases h:p.key=(c,a)
  ·rw[iC (by simpa using h)]
   have d:l.find? (λx=>decide (x.key=(c,a)))=none:=by
    rw[dZ];intro x g;have:=uj (hp x g);simpa using λe:x.key=(c,a)=>this (h.trans e.symm)
   rw[d];simp only;rw[bJ.position_putP b];simp only[Po.key,nr]at h;rw[ae ⟨by rw[(rP p price cl).1];exact h.1.symm,by rw[(rP p price cl).2];exact h.2.symm⟩]
  ·rw[iD (by simpa using h)];cases l.find? λx=>decide (x.key=(c,a))with
   |some x=>rfl
   |none=>
    simp only;rw[bJ.position_putP b,(rP p price cl).1,(rP p price cl).2,aa];intro e;exact h (by simp[Po.key,e.1,e.2])
def xJ{S:bJ}(h:kP S.held)(c:Int):kP (S.holders c):=h.filter _
def EV(S:bJ)(c a k:Int):(S.holders c).find? (λx=>decide (x.key=(k,a)))=if k=c then S.pos? (c,a)else none:=by
 unfold bJ.holders bJ.pos?;by_cases b:k=c
 ·subst b;rw[ae rfl];induction S.held with
  |nil=>rfl
  |cons p l d=>
   by_cases h:p.c=k
   ·grind
   ·rw[aV (by simpa using h),d,iD];simp[Po.key];intro e;exact absurd e h
 ·rw[aa b,dZ];intro x f;have:x.c=c:=by grind
  simp[Po.key];intro e;exact absurd (e.symm.trans this) b
def bJ.mark_pos{S:bJ}(hs:kP S.held)(c price:Int)(cl:Bool)(k a:Int):(S.marked (S.holders c) price cl).position k a=if k=c then(S.position c a).mark price cl else S.position k a:=by
 rw[Je hs (xJ hs c),EV];by_cases b:k=c
 ·subst b;rw[ae rfl,ae rfl];unfold bJ.position;cases S.pos? (k,a)with
  |some p=>rfl
  |none=>
   simp only[Option.getD_none];unfold Po.mark;cases cl<;>simp
 ·grind
def uq(f:∀p,p.isZ=true->g p=0){price:Int}{cl:Bool}:∀{l:List Po} {S:bJ},kP S.held->kP l->(∀p∈l,S.position p.c p.a=p)->
  iJ g (S.marked l price cl).held=iJ g S.held+iJ (λp=>g (p.mark price cl) - g p) l:=by
 intro l;induction l with
 |nil=>intro S _ _ _;simp[iJ,bJ.marked]
 |cons p l h=>
  intro S b c hp;have a:=(bY.1 c).1;show iJ g ((S.putP (p.mark price cl)).marked l price cl).held=_;rw[h (th b _) (bY.1 c).2 ?_,tR b f,(rP p price cl).1,(rP p price cl).2,hp p aw]
  ·simp only[iJ,aI,bH];omega
  ·intro x d;rw[bJ.position_putP b,(rP p price cl).1,(rP p price cl).2,aa,hp x (ag _ d)];intro e;have:=uj (a x d);exact this (by grind)
def wJ(h:∀p∈l,f p=g p):iJ f l=iJ g l:=by
 unfold iJ;rw[eh h]
def yE(l:List Po):iJ (λ_=>0) l=0:=by
 unfold iJ;induction l with
 |nil=>rfl
 |cons p l a=>simp[a]
def Qi(x:Int):iJ (λp=>f p*x) l=iJ f l*x:=by
 unfold iJ;induction l with
 |nil=>simp
 |cons p l a=>simp[a,Int.add_mul]
def Hn:iJ (λp=>f p - g p) l=iJ f l - iJ g l:=by
 unfold iJ;induction l with
 |nil=>simp
 |cons p l a=>simp[a];omega
def bJ.Zero(S:bJ):Prop:=∀c,iJ (zgq c) S.held=0/\iJ (Jz c) S.held=0
def bJ.Zero.holders{S:bJ}(h:S.Zero)(c:Int):iJ (·.q) (S.holders c)=0/\iJ (·.b) (S.holders c)=0:=by
 rw[zz,zz];exact h c
def bJ.holders_self{S:bJ}(hs:kP S.held){c:Int}{p:Po}(hp:p∈S.holders c):S.position p.c p.a=p/\p.c=c:=by
 obtain⟨h1,a⟩:=aU.1 hp;refine⟨?_,by simpa using a⟩;unfold bJ.position;rw[show(p.c,p.a)=p.key from rfl,bJ.pos_some hs h1];rfl
def bJ.Zero.mark{S:bJ}(a:S.Ok)(h:S.Zero)(c price:Int)(cl:Bool):(S.marked (S.holders c) price cl).Zero:=by
 intro k;have j:=xJ a.sp c;have b:=λp (hp:p∈S.holders c)=>(bJ.holders_self a.sp hp).1;obtain⟨l,n⟩:=h.holders c;by_cases m:k=c
 ·subst m;constructor
  ·rw[uq (Ut k) a.sp j b,(h k).1]
   have:iJ (λp=>zgq k (p.mark price cl) - zgq k p) (S.holders k)=iJ (λp=>(if cl then 0 else p.q) - p.q) (S.holders k):=wJ λp hp=>by
    have i:=(bJ.holders_self a.sp hp).2;unfold zgq Po.mark;cases cl<;>simp[i]
   rw[this,Hn,l];cases cl with
   |true=>simp only[df];rw[yE];rfl
   |false=>simp only[bi,dg];rw[l];rfl
  ·rw[uq (Un k) a.sp j b,(h k).2]
   have:iJ (λp=>Jz k (p.mark price cl) - Jz k p) (S.holders k)=iJ (λp=>(if cl then 0 else p.q*price) - p.b) (S.holders k):=wJ λp hp=>by
    have i:=(bJ.holders_self a.sp hp).2;unfold Jz Po.mark;cases cl<;>simp[i]
   rw[this,Hn,n];cases cl with
   |true=>simp only[df];rw[yE];rfl
   |false=>
    simp only[bi,dg];rw[Qi (f:=λp=>p.q),l];simp
 ·have e:∀(g:Int->Po->Int),(g=zgq\/g=Jz)->iJ (λp=>g k (p.mark price cl) - g k p) (S.holders c)=0:=λg o=>by
   have:iJ (λp=>g k (p.mark price cl) - g k p) (S.holders c)=iJ (λ_=>0) (S.holders c):=wJ λp hp=>by
    have i:=(bJ.holders_self a.sp hp).2;have d:¬p.c=k:=λe=>m (e.symm.trans i);rcases o with rfl|rfl
    ·unfold zgq;rw[(rP p price cl).1,aa d,aa d];rfl
    ·unfold Jz;rw[(rP p price cl).1,aa d,aa d];rfl
   rw[this];exact yE _
  constructor
  ·rw[uq (Ut k) a.sp j b,(h k).1,e zgq (.inl rfl)];rfl
  ·rw[uq (Un k) a.sp j b,(h k).2,e Jz (.inr rfl)];rfl
def Oo{l:List Ac}(hs:mL l)(n:Int):l.Perm ((l.find? λx=>decide (x.num=n)).toList++l.filter λx=>decide (x.num≠n)):=by
 induction l with
 |nil=>exact cS _
 |cons p l c=>
  have a:mL l:=(bY.1 hs).2;have hp:=(bY.1 hs).1;by_cases h:p.num=n
  ·rw[iC (by simpa using h),aV (by simpa using h)];simp only[Option.toList_some,List.singleton_append];refine List.Perm.cons _ (iN ?_);symm;refine cO.2 λx b=>?_;have:=hp x b;simp;omega
  ·grind
def bJ.funds_putA{S:bJ}(hs:mL S.all)(a:Ac):(S.putA a).funds=S.funds+a.cash - ((S.getO a.num).getD ⟨0,0,false,false⟩).cash:=by
 unfold bJ.putA;by_cases b:a.num=0
 ·rw[ae b,b];simp[bJ.funds,bJ.getO,nU];omega
 ·rw[aa b];simp only[bJ.funds,bJ.getO,aa b,bJ.find];have h1:=uW ((vO S.all a).map (·.cash));have c:=uW ((Oo hs a.num).map (·.cash));rw[aM,fU]at c;simp only[aI,bH]at h1
  have e:((S.all.find? λx=>decide (x.num=a.num)).toList.map (·.cash)).sum=((S.all.find? λx=>decide (x.num=a.num)).getD ⟨0,0,false,false⟩).cash:=by
   cases S.all.find? λx=>decide (x.num=a.num)<;>simp
  omega
def bJ.deposit_funds{S:bJ}(hs:mL S.all)(n m:Int):(S.deposit n m).2.funds=S.funds+if(S.deposit n m).1=0 then m else 0:=by
 unfold bJ.deposit;split
 ·split
  ·simp
  ·split
   ·simp
   ·rw[ae rfl];simp only;rw[bJ.funds_putA hs];simp only;omega
 ·simp
def bJ.withdraw_funds{S:bJ}(hs:mL S.all)(n m:Int):(S.withdraw n m).2.funds=S.funds+if(S.withdraw n m).1=0 then -m else 0:=by
 unfold bJ.withdraw;split
 ·simp
 ·rename_i f
  cases d:S.find n with
  |none=>simp
  |some a=>
   simp only;split
   ·simp
   ·rw[ae rfl];simp only;obtain⟨g,b⟩:=bJ.find_mem d;have c:n≠0:=λe=>f (.inl e);rw[bJ.funds_putA hs];simp only[bJ.getO,b,aa c,d,dC];omega
def bJ.funds_of{S:bJ}(h:S'.all=S.all/\S'.fund=S.fund):S'.funds=S.funds:=by unfold bJ.funds;rw[h.1,h.2]
def bJ.putA_held(S:bJ)(a:Ac):(S.putA a).held=S.held:=by unfold bJ.putA;split<;>rfl
def bJ.deposit_held(S:bJ)(n m:Int):(S.deposit n m).2.held=S.held:=by
 unfold bJ.deposit;split
 ·split
  ·rfl
  ·split
   ·rfl
   ·exact bJ.putA_held _ _
 ·rfl
def bJ.withdraw_held(S:bJ)(n m:Int):(S.withdraw n m).2.held=S.held:=by
 unfold bJ.withdraw;split
 ·rfl
 ·split
  ·rfl
  ·split
   ·rfl
   ·exact bJ.putA_held _ _
def bJ.empty_zero:bJ.Zero ⟨0,[],[]⟩:=λc=>⟨rfl,rfl⟩
structure oR.Ok(C:oR):Prop where
 len:C.l.length<=16
 day:iU C.day
 ok:∀k∈C.l,k.Ok
 srt:nQ C.l
def bt.ords(S:bt)(n:Int):List Od:=(S.bk n).all++S.bd n
def bJ.Stands(L:bJ)(a:Int):Prop:=∃x,L.find a=some x/\x.kil=false/\x.dfl=false
structure bt.Std(S:bt)(o:Od):Prop where
 may:o.may=true
 fit:o.Fit
 num:o.num<S.next
 acc:S.led.Stands o.acct
structure sy(S:bt):Prop where
 out:∀n,bG S.cal.l n≠0->S.ords n=[]
 side:∀n d,(S.bk n d).length<=100/\∀o∈S.bk n d,o.buy=d
 std:∀n,∀o∈S.ords n,S.Std o
 nd:∀n,((S.ords n).map (·.num)).Nodup
 apart:∀n m o o',o∈S.ords n->o' ∈S.ords m->o.num=o'.num->n=m
 bdl:∀n,(S.bd n).length<=50
structure I3(C:oR)(L:bJ):Prop where
 led:L.Ok
 held:∀p∈L.held,bG C.l p.c=0
 zero:L.Zero
structure bt.Ok(S:bt):Prop where
 cal:S.cal.Ok
 led:I3 S.cal S.led
 ord:sy S
 next:1<=S.next/\S.next<=jZ+1
 fnd:S.led.funds<=MF
def iz{d:Bool}(h:o∈S.bk n d):o∈S.ords n:=de _ (rA.2 ⟨d,h⟩)
def jB(h:o∈S.bd n):o∈S.ords n:=fN _ h
def kv(h:o∈S.ords n):(∃d,o∈S.bk n d)\/o∈S.bd n:=(bf.1 h).imp rA.1 id
def sy.bkMay(h:sy S)(n:Int):Cl (S.bk n):=λd o a=>⟨(h.std n o (iz a)).may,(h.side n d).2 o a⟩
def sy.bkNd(h:sy S)(n:Int):uH (S.bk n):=by
 have:=h.nd n;unfold bt.ords at this;rw[aM,dD]at this;exact this.1
def sy.bdMay(h:sy S)(n:Int):∀o∈S.bd n,o.may=true:=λo a=>(h.std n o (jB a)).may
def sy.bdNd(h:sy S)(n:Int):((S.bd n).map (·.num)).Nodup:=by
 have:=h.nd n;unfold bt.ords at this;rw[aM,dD]at this;exact this.2.1
def I8{a d b e c c' :List Int}(f:d.Sublist a)(g:e.Sublist b)(i:c'.Sublist c)(h:(a++b++c).Nodup):(d++e++c').Nodup:=h.sublist ((f.append g).append i)
def AZ(S:bt)(n:Int):(S.ords n).map (·.num)=(S.bk n true).map (·.num)++(S.bk n false).map (·.num)++(S.bd n).map (·.num):=by
 unfold bt.ords Bk.all;rw[aM,aM]
def K5{o' :Od}(h:o.key=o'.key)(a:o.Fit)(b:1<=o'.left/\o'.left<=1000000):o'.Fit:=by
 unfold Od.Fit at*;rw[<-pp h,<-xr h,<-rJ h];exact⟨a.1,a.2.1,a.2.2.1,by grind⟩
def xL{S' :bt}(e:∀n d,gH (S'.bk n d) (S.bk n d))(f:∀n,gH (S'.bd n) (S.bd n)){n:Int}{o:Od}(g:o∈S'.ords n):∃a∈S.ords n,a.key=o.key/\1<=o.left/\o.left<=1000000:=by
 rcases kv g with⟨d,h1⟩|h1
 ·obtain⟨a,b,c⟩:=(e n d).mem h1;exact⟨a,iz b,c,(e n d).left o h1⟩
 ·obtain⟨a,b,c⟩:=(f n).mem h1;exact⟨a,jB b,c,(f n).left o h1⟩
def sy.mono{S' :bt}(h:sy S)(h1:∀n,bG S'.cal.l n≠0->bG S.cal.l n≠0\/S'.ords n=[])(f:∀n d,gH (S'.bk n d) (S.bk n d))(i:∀n,gH (S'.bd n) (S.bd n))
  (t:∀n o,o∈S'.ords n->S.led.Stands o.acct->S'.led.Stands o.acct)(q:S.next<=S'.next):sy S' where
 out n q:=by
  rcases h1 n q with e|e
  ·have c:=h.out n e;cases r:S'.ords n with
   |nil=>rfl
   |cons x l=>
    obtain⟨p,g,-⟩:=xL (S:=S) (S' :=S') f i (n:=n) (o:=x) (by grind);rw[c]at g;cases g
  ·exact e
 side n d:=⟨ck (f n d).len (h.side n d).1,λo j=>by
  obtain⟨p,e,c⟩:=(f n d).mem j;rw[<-Le c];exact(h.side n d).2 p e⟩
 std n o j:=by
  obtain⟨p,e,c,g⟩:=xL f i j;have k:=h.std n p e;exact⟨Av c k.may g,K5 c k.fit g,by rw[<-pp c];exact mf k.num q,t n o j (by rw[<-xr c];exact k.acc)⟩
 nd n:=by
  have:=h.nd n;rw[AZ]at this|-;exact I8 (f n true).nums (f n false).nums (i n).nums this
 apart n m o o' j ho' r:=by
  obtain⟨a,e,c,-⟩:=xL f i j;obtain⟨b,g,s,-⟩:=xL f i ho';exact h.apart n m a b e g (by rw[pp c,pp s];exact r)
 bdl n:=ck (i n).len (h.bdl n)
def sy.addBk(h:sy S){n:Int}{x:Od}{B:Bk}{nx:Int}(F:bG S.cal.l n=0)(N:x.may=true)(L:x.Fit)(z:x.num<nx)(A:S.led.Stands x.acct)(p:∀m,∀o∈S.ords m,o.num≠x.num)
  (opp:gH (B !x.buy) (S.bk n !x.buy))(own:B x.buy=S.bk n x.buy\/((B x.buy).Perm (x::S.bk n x.buy)/\(S.bk n x.buy).length<100))(E:S.next<=nx):sy {S with bk:=eS S.bk n B,next:=nx}:=by
 have l:=h.bkMay;have t:=h.bdMay
 have back:∀m,∀o∈({S with bk:=eS S.bk n B,next:=nx}:bt).ords m,(∃q∈S.ords m,q.key=o.key/\1<=o.left/\o.left<=1000000)\/(o=x/\m=n):=by
  intro m o j;by_cases c:m=n
  ·subst c;rcases kv j with⟨d,h1⟩|h1
   ·replace h1:o∈eS S.bk m B m d:=h1;rw[cQ]at h1;by_cases r:d=x.buy
    ·subst r;rcases own with f|⟨f,-⟩
     ·rw[f]at h1;exact .inl ⟨o,iz h1,rfl,jD (l m _ o h1).1⟩
     ·rcases ax.1 (f.mem_iff.1 h1)with rfl|g
      ·grind
      ·exact .inl ⟨o,iz g,rfl,jD (l m _ o g).1⟩
    ·obtain rfl:d= !x.buy:=by cases d<;>cases z:x.buy<;>simp_all
     obtain⟨q,g,i⟩:=opp.mem h1;exact .inl ⟨q,iz g,i,opp.left o h1⟩
   ·exact .inl ⟨o,jB h1,rfl,jD (t m o h1)⟩
  ·have:o∈S.ords m:=by
    have e:({S with bk:=eS S.bk n B,next:=nx}:bt).ords m=S.ords m:=by
     show(eS S.bk n B m).all++S.bd m=_;rw[eR _ _ _ c];rfl
    rwa[e]at j
   exact .inl ⟨o,this,rfl,jD (h.std m o this).may⟩
 have k:∀d,((B d).map (·.num)).Sublist ((S.bk n d).map (·.num))\/(d=x.buy/\((B d).map (·.num)).Perm (x.num::(S.bk n d).map (·.num))):=λd=>by
  by_cases r:d=x.buy
  ·subst r;rcases own with f|⟨f,-⟩
   ·grind
   ·grind
  ·obtain rfl:d= !x.buy:=by cases d<;>cases z:x.buy<;>simp_all
   exact .inl opp.nums
 refine⟨λm s=>?_,λm d=>?_,λm o j=>?_,λm=>?_,λM G o I j u v=>?_,h.bdl⟩
 ·have c:m≠n:=λe=>by subst e;exact s F
  show(eS S.bk n B m).all++S.bd m=[]
  rw[eR _ _ _ c];exact h.out m s
 ·show(eS S.bk n B m d).length<=100/\∀o∈eS S.bk n B m d,_;by_cases c:m=n
  ·subst c;rw[cQ];by_cases r:d=x.buy
   ·subst r;rcases own with f|⟨f,g⟩
    ·rw[f];exact h.side m _
    ·refine⟨by have:=f.length_eq;rw[be]at this;omega,λo j=>?_⟩;rcases ax.1 (f.mem_iff.1 j)with rfl|i
     ·rfl
     ·exact(h.side m _).2 o i
   ·obtain rfl:d= !x.buy:=by cases d<;>cases z:x.buy<;>simp_all
    refine⟨ck opp.len (h.side m _).1,λo j=>?_⟩;obtain⟨q,g,i⟩:=opp.mem j;rw[<-Le i];exact(h.side m _).2 q g
  ·rw[eR _ _ _ c];exact h.side m d
 ·rcases back m o j with⟨q,f,g,i⟩|⟨rfl,rfl⟩
  ·have y:=h.std m q f;exact⟨Av g y.may i,K5 g y.fit i,by rw[<-pp g];exact mf y.num E,by rw[<-xr g];exact y.acc⟩
  ·exact⟨N,L,z,A⟩
 ·by_cases c:m=n
  ·subst c;rw[AZ];show(List.map _ (eS S.bk m B m true)++List.map _ (eS S.bk m B m false)++List.map _ (S.bd m)).Nodup;rw[cQ];have H:=h.nd m
   have w:x.num ∉ (S.ords m).map (·.num):=λO=>by
    obtain⟨o,j,v⟩:=aL.1 O;exact p m o j v
   rw[AZ]at H w;have h1:(x.num::((S.bk m true).map (·.num)++(S.bk m false).map (·.num)++(S.bd m).map (·.num))).Nodup:=ce.2 ⟨w,H⟩;rcases k true with K|⟨P,K⟩
   ·rcases k false with D|⟨J,D⟩
    ·grind
    ·grind
   ·rcases k false with D|⟨J,D⟩
    ·grind
    ·grind
  ·show(((eS S.bk n B m).all++S.bd m).map (·.num)).Nodup;rw[eR _ _ _ c];exact h.nd m
 ·rcases back M o j with⟨a,f,g,-⟩|⟨rfl,rfl⟩
  ·rcases back G I u with⟨b,i,C,-⟩|⟨rfl,rfl⟩
   ·exact h.apart _ _ a b f i (by rw[pp g,pp C];exact v)
   ·exact absurd ((pp g).trans v) (p _ a f)
  ·rcases back G I u with⟨b,i,C,-⟩|⟨rfl,rfl⟩
   ·exact absurd ((pp C).trans v.symm) (p _ b i)
   ·rfl
def sy.addBd(h:sy S){n:Int}{x:Od}{nx:Int}(s:bG S.cal.l n=0)(A:x.may=true)(w:x.Fit)(z:x.num<nx)(p:S.led.Stands x.acct)(l:∀m,∀o∈S.ords m,o.num≠x.num)
  (D:(S.bd n).length<50)(q:S.next<=nx):sy {S with bd:=eS S.bd n (S.bd n++[x]),next:=nx}:=by
 have back:∀m,∀o∈({S with bd:=eS S.bd n (S.bd n++[x]),next:=nx}:bt).ords m,o∈S.ords m\/(o=x/\m=n):=by
  intro m o f;by_cases c:m=n
  ·subst c;rcases kv f with⟨d,h1⟩|h1
   ·exact .inl (iz h1)
   ·replace h1:o∈eS S.bd m (S.bd m++[x]) m:=h1;rw[cQ]at h1;rcases bf.1 h1 with g|g
    ·exact .inl (jB g)
    ·grind
  ·left
   have e:({S with bd:=eS S.bd n (S.bd n++[x]),next:=nx}:bt).ords m=S.ords m:=by
    show(S.bk m).all++eS S.bd n _ m=_;rw[eR _ _ _ c];rfl
   rwa[e]at f
 refine⟨λm i=>?_,h.side,λm o f=>?_,λm=>?_,λy t o r f j B=>?_,λm=>?_⟩
 ·have c:m≠n:=λe=>by subst e;exact i s
  show(S.bk m).all++eS S.bd n _ m=[]
  rw[eR _ _ _ c];exact h.out m i
 ·rcases back m o f with g|⟨rfl,rfl⟩
  ·have k:=h.std m o g;exact⟨k.may,k.fit,mf k.num q,k.acc⟩
  ·exact⟨A,w,z,p⟩
 ·by_cases c:m=n
  ·subst c;show(((S.bk m).all++eS S.bd m _ m).map (·.num)).Nodup;rw[cQ,<-ar,aM,dD];refine⟨h.nd m,by simp,λa C b u=>?_⟩;obtain⟨o,f,rfl⟩:=aL.1 C;rw[aI,gf,cm]at u;rw[u];exact l m o f
  ·show(((S.bk m).all++eS S.bd n _ m).map (·.num)).Nodup;rw[eR _ _ _ c];exact h.nd m
 ·rcases back y o f with g|⟨rfl,rfl⟩
  ·rcases back t r j with v|⟨rfl,rfl⟩
   ·exact h.apart _ _ o r g v B
   ·grind
  ·rcases back t r j with v|⟨rfl,rfl⟩
   ·grind
   ·rfl
 ·show(eS S.bd n _ m).length<=50;by_cases c:m=n
  ·subst c;rw[cQ,af];show(S.bd m).length+1<=50;omega
  ·rw[eR _ _ _ c];exact h.bdl m
def JF(b:a≠0)(o:Od):lW a o=lw a o:=by unfold lW lw;rw[bD b,fP]
def Am(a:Int)(ns:List Int)(n:Int)(o:Od):Bool:= !(ns.contains n&& lw a o)
def Bg{a:Int}(h:a≠0):∀(c:List Int) (S:bt) (g:List Int),(∀n,uH (S.bk n))->
  (c.foldl (uL a) (g,S)).2={S with bk:=λn=>(S.bk n).flt (Am a c n),bd:=λn=>(S.bd n).filter (Am a c n)}
 | [],S,g,_=>by
  have l:(λn=>(S.bk n).flt (Am a [] n))=S.bk:=by
   funext n d;unfold Bk.flt;exact cO.2 λo _=>rfl
  have k:(λn=>(S.bd n).filter (Am a [] n))=S.bd:=by
   funext n;exact cO.2 λo _=>rfl
  rw[l,k];rfl
 |m::c,S,g,f=>by
  rw[ff];obtain⟨j,e⟩:=di ((uL a (g,S) m).1)
  have i:uL a (g,S) m=(j,{S with bk:=eS S.bk m ((S.bk m).flt λo=> !lw a o),bd:=eS S.bd m ((S.bd m).filter λo=> !lw a o)}):=by
   rw[e];unfold uL;simp only;rw[G9 (f m)];congr 3;funext d;unfold Bk.flt;exact dM λo _=>by rw[JF h]
  rw[i,Bg h c]
  ·congr 1
   ·funext n d;show List.filter _ (eS S.bk m _ n d)=List.filter _ (S.bk n d);by_cases b:n=m
    ·subst b;rw[cQ];unfold Bk.flt;rw[gt];refine dM λo _=>?_;unfold Am;cases h1:lw a o<;>simp
    ·rw[eR _ _ _ b];refine dM λo _=>?_;unfold Am;rw[mg];have:(n==m)=false:=by simpa using b
     rw[this,fP]
   ·funext n;show List.filter _ (eS S.bd m _ n)=List.filter _ (S.bd n);by_cases b:n=m
    ·subst b;rw[cQ,gt];refine dM λo _=>?_;unfold Am;cases h1:lw a o<;>simp
    ·rw[eR _ _ _ b];refine dM λo _=>?_;unfold Am;rw[mg];have:(n==m)=false:=by simpa using b
     rw[this,fP]
  ·intro n;show uH (eS S.bk m _ n);by_cases b:n=m
   ·subst b;rw[cQ];exact(f n).flt _
   ·rw[eR _ _ _ b];exact f n
def BR(h:sy S){a k:Int}(b:a≠0):(S.clear a k).2={S with bk:=λn=>(S.bk n).flt (Am a (S.nums.filter λn=>decide (k=0\/k=n)) n),bd:=λn=>(S.bd n).filter (Am a (S.nums.filter λn=>decide (k=0\/k=n)) n)}:=
 Bg b _ _ _ h.bkNd
def uh(h:sy S){a k:Int}(b:a≠0):(S.clear a k).2.cal=S.cal/\(S.clear a k).2.led=S.led/\(S.clear a k).2.next=S.next:=by
 rw[BR h b];exact⟨rfl,rfl,rfl⟩
def yZ(h:sy S){a k:Int}(c:a≠0):sy (S.clear a k).2:=by
 rw[BR h c];exact h.mono (λn f=>.inl f) (λn d=>gH.filter (λo b=>(h.bkMay n d o b).1) _) (λn=>gH.filter (h.bdMay n) _) (λn o b e=>e) (eu _)
def A8(h:bG S.cal.l n=0):n∈S.nums:=by
 unfold bG at h;unfold bt.nums;cases a:cj S.cal.l n with
 |none=>rw[a]at h;cases h
 |some k=>
  have b:=lJ a;exact aL.2 ⟨k,si a,by simpa using b⟩
def sy.alive(h:sy S){n:Int}{o:Od}(a:o∈S.ords n):bG S.cal.l n=0:=by
 apply aQ;intro b;rw[h.out n b]at a;cases a
def BC(h:sy S){a:Int}(f:a≠0){n:Int}{o:Od}(c:o∈(S.clear a 0).2.ords n):o.acct≠a/\o∈S.ords n:=by
 have g:bG S.cal.l n=0:=by
  have:=(yZ h (k:=0) f).alive c
  rwa[(uh h f).1]at this
 rw[BR h f]at c
 have i:(S.nums.filter λm=>decide ((0:Int)=0\/0=m)).contains n=true:=by
  rw[List.contains_eq_mem,aS,aU];exact⟨A8 g,by simp⟩
 have key:∀{l:List Od},o∈l.filter (Am a (S.nums.filter λm=>decide ((0:Int)=0\/0=m)) n)->o∈l/\o.acct≠a:=λ{l} b=>by
  rw[aU]at b;refine⟨b.1,λe=>?_⟩;have:=b.2;unfold Am lw at this;rw[i,aW e]at this;cases this
 rcases kv c with⟨d,h1⟩|h1
 ·have:=key (l:=S.bk n d) h1;exact⟨this.2,iz this.1⟩
 ·have:=key (l:=S.bd n) h1;exact⟨this.2,jB this.1⟩
def wF{l:List Ac}(h:mL l){a:Ac}(b:a∈l):l.find? (λx=>decide (x.num=a.num))=some a:=by
 induction l with
 |nil=>cases b
 |cons x l d=>
  obtain⟨h1,c⟩:=bY.1 h;rcases ax.1 b with rfl|b
  ·grind
  ·have:=h1 a b;rw[iD (by simp;omega)];exact d c b
def MV{l:List Ac}(h:mL l)(a:Ac)(n:Int):(CO l a).find? (λx=>decide (x.num=n))=if n=a.num then some a else l.find? λx=>decide (x.num=n):=by
 by_cases d:n=a.num
 ·subst d;rw[ae rfl];exact wF (tm h a) (sq.2 (.inr rfl))
 ·rw[aa d];cases b:l.find? λx=>decide (x.num=n)with
  |some x=>
   have c:=dG b;have e:x.num=n:=by grind
   have:=wF (tm h a) (sq.2 (.inl ⟨c,qZ⟩));rw[e]at this;exact this
  |none=>
   rw[dZ]at b|-;intro x c;rcases sq.1 c with⟨h1,-⟩|rfl
   ·exact b x h1
   ·simp;omega
def bJ.find_putA{S:bJ}(h:mL S.all){a:Ac}(b:a.num≠0)(n:Int):(S.putA a).find n=if n=a.num then some a else S.find n:=by
 unfold bJ.putA bJ.find;rw[aa b];exact MV h a n
def bJ.find_putA0{S:bJ}{a:Ac}(b:a.num=0)(n:Int):(S.putA a).find n=S.find n:=by
 unfold bJ.putA bJ.find;rw[ae b]
def bJ.find_ok{S:bJ}(h:S.Ok){n:Int}{a:Ac}(b:S.find n=some a):a∈S.all/\a.num=n/\n≠0:=by
 obtain⟨h1,c⟩:=bJ.find_mem b;have:=(h.acc a h1).1;exact⟨h1,c,qZ⟩
def oS{S:bJ}(h:n≠0):S.getO n=S.find n:=by unfold bJ.getO;rw[aa h]
def bJ.mem_find{S:bJ}(h:S.Ok){a:Ac}(b:a∈S.all):S.find a.num=some a:=wF h.sa b
def bJ.trade_Ok{S:bJ}(h:S.Ok){c b s p n:Int}(i:iU c):(S.trade c b s p n).2.Ok:=by
 unfold bJ.trade;split
 ·exact h
 ·rename_i h1
  split
  ·exact h
  ·rename_i d
   simp only;split
   ·exact h
   ·rename_i q
    obtain⟨F,z,v,y,w,A⟩:=h.position c b;obtain⟨C,H,D,G,E,B⟩:=h.position c s;simp only[l9]at h1 d q;obtain⟨k,o,l,j,hp,t⟩:=h1;have g:aY p 1 MP=true:=by simpa using hp
    have e:aY n 1 MP=true:=by simpa using t
    rw[fe]at g e;have u:0<=p*n:=jw qZ qZ
    have fnd:∀x,S.find x≠none->∃a∈S.all,a.num=x:=λx r=>by
     cases f:S.find x with
     |none=>exact absurd f r
     |some a=>exact⟨a,(bJ.find_mem f).1,(bJ.find_mem f).2⟩
    have m:=h.putP (p:=⟨c,b,(S.position c b).q+n,(S.position c b).b+p*n⟩) ⟨by show 0<c;omega,i.2⟩ ⟨by grind,by grind⟩ ⟨by grind,by grind⟩ (fnd b d.1);exact m.putP (p:=⟨c,s,(S.position c s).q - n,(S.position c s).b - p*n⟩) ⟨by show 0<c;omega,i.2⟩ ⟨by grind,by grind⟩ ⟨by grind,by grind⟩ (fnd s d.2)
def bJ.set_cases(S:bJ)(a:Ac):(S.set a).2=S/\(S.set a).1≠0\/((S.set a)=(0,S.putA a)/\0<=a.cash/\a.cash<=MF/\S.getO a.num≠none/\(a.num=0->a.kil=false/\a.dfl=false)):=by
 unfold bJ.set;split
 ·grind
 ·rename_i h1
  split
  ·grind
  ·rename_i c
   simp only[l9,not_and]at h1;have b:aY a.cash 0 MF=true:=by simpa using h1.1
   rw[fe]at b;refine .inr ⟨rfl,b.1,b.2,c,λd=>?_⟩;have:=h1.2 d;exact⟨by simpa using this.1,by simpa using this.2⟩
def bJ.set_Ok{S:bJ}(h:S.Ok){a:Ac}(f:iU a.num):(S.set a).2.Ok:=by
 rcases bJ.set_cases S a with⟨h1,-⟩|⟨h1,d,e,b,g⟩
 ·rw[h1];exact h
 ·rw[h1];apply h.putA f ⟨d,e⟩;by_cases c:a.num=0
  ·exact .inr (.inr c)
  ·rw[oS c]at b;exact .inl b
def bJ.deposit_cases{S:bJ}{m:Int}:(S.deposit n m).2=S/\(S.deposit n m).1≠0\/∃a:Ac,S.deposit n m=(0,S.putA a)/\a.num=n/\a={(S.getO n).getD ⟨0,0,false,false⟩with num:=n,cash:=((S.getO n).getD ⟨0,0,false,false⟩).cash+m}/\1<=m/\m<=MF/\S.funds+m<=MF/\¬(S.getO n=none/\64<=S.all.length):=by
 unfold bJ.deposit;split
 ·rename_i b
  rw[fe]at b;split
  ·grind
  ·rename_i h1
   split
   ·grind
   ·grind
 ·grind
def bJ.deposit_Ok{S:bJ}(h:S.Ok){n m:Int}(i:iU n):(S.deposit n m).2.Ok:=by
 rcases bJ.deposit_cases (S:=S) (n:=n) (m:=m)with⟨h1,-⟩|⟨a,h1,e,d,j,k,q,g⟩
 ·rw[h1];exact h
 ·rw[h1]
  have b:0<=a.cash/\a.cash<=MF:=by
   cases c:S.getO n with
   |none=>
    rw[c]at d;rw[d];show 0<=0+m/\0+m<=MF;omega
   |some x=>
    have l:=h.cash_le c;have o:=(h.getO c).2.2.2.1;rw[c]at d;rw[d];show 0<=x.cash+m/\x.cash+m<=MF;omega
  apply h.putA (by rw[e];exact i) b;by_cases f:n=0
  ·grind
  ·rw[oS f]at g;by_cases p:S.find n=none
   ·grind
   ·grind
def bJ.withdraw_cases{S:bJ}{m:Int}:(S.withdraw n m).2=S/\(S.withdraw n m).1≠0\/∃a,S.find n=some a/\S.withdraw n m=(0,S.putA {a with cash:=a.cash - m})/\n≠0/\1<=m/\m<=a.cash:=by
 unfold bJ.withdraw;split
 ·grind
 ·rename_i b
  simp only[l9]at b;have c:aY m 1 MF=true:=by simpa using b.2
  rw[fe]at c;cases d:S.find n with
  |none=>exact .inl ⟨rfl,by simp⟩
  |some a=>
   simp only;split
   ·grind
   ·grind
def bJ.withdraw_Ok{S:bJ}(h:S.Ok){n m:Int}:(S.withdraw n m).2.Ok:=by
 rcases bJ.withdraw_cases (S:=S) (n:=n) (m:=m)with⟨h1,-⟩|⟨a,h1,c,g,e,f⟩
 ·rw[h1];exact h
 ·rw[c];obtain⟨b,d,-⟩:=bJ.find_ok h h1;have:=h.acc a b;refine h.putA ⟨by grind,this.2.1⟩ ⟨by grind,by grind⟩ (.inl ?_);show S.find a.num≠none;rw[d,h1];simp
def bJ.mark_Ok{S:bJ}(h:S.Ok){c price:Int}{cl:Bool}:(S.mark c price cl).2.2.Ok:=by
 unfold bJ.mark;split
 ·exact h
 ·rename_i a
  simp only[l9]at a;have hp:aY price 1 MP=true:=by simpa using a.2
  rw[fe]at hp;exact NS h hp cl _ _ (λp hp=>(aU.1 hp).1) h rfl
def bJ.mark_all{S:bJ}:(S.mark c price cl).2.2.all=S.all/\(S.mark c price cl).2.2.fund=S.fund:=by
 unfold bJ.mark;split
 ·exact⟨rfl,rfl⟩
 ·exact AW
def ue{S:bJ}(h:S'.all=S.all)(n:Int):S'.Stands n↔S.Stands n:=by
 unfold bJ.Stands bJ.find;rw[h]
def wT{S:bJ}(h:S.Ok){a:Ac}{n:Int}(hs:S.Stands n)(f:a.num=n->a.kil=false/\a.dfl=false):(S.set a).2.Stands n:=by
 rcases bJ.set_cases S a with⟨h1,-⟩|⟨h1,g,k,i,j⟩
 ·rw[h1];exact hs
 ·rw[h1];obtain⟨x,e,d,c⟩:=hs;by_cases b:a.num=0
  ·exact⟨x,by rw[bJ.find_putA0 b];exact e,d,c⟩
  ·unfold bJ.Stands;rw[bJ.find_putA h.sa b];by_cases l:n=a.num
   ·grind
   ·grind
def z7{S:bJ}(h:S.Ok){a:Ac}{n:Int}(hs:S.Stands n)(f:a.num=n->∃x,S.find n=some x/\a.kil=x.kil/\a.dfl=x.dfl):(S.putA a).Stands n:=by
 obtain⟨x,e,d,c⟩:=hs;by_cases b:a.num=0
 ·exact⟨x,by rw[bJ.find_putA0 b];exact e,d,c⟩
 ·unfold bJ.Stands;rw[bJ.find_putA h.sa b];by_cases g:n=a.num
  ·grind
  ·grind
def Bs{S:bJ}(h:S.Ok){n m k:Int}(hs:S.Stands k):(S.deposit n m).2.Stands k:=by
 rcases bJ.deposit_cases (S:=S) (n:=n) (m:=m)with⟨h1,-⟩|⟨a,h1,f,c,j,o,p,l⟩
 ·rw[h1];exact hs
 ·rw[h1];refine z7 h hs λi=>?_;obtain⟨x,e,-,-⟩:=hs;have b:=(bJ.find_ok h e).2.2;have d:n=k:=f.symm.trans i;have g:S.getO n=some x:=by rw[d,oS b,e]
  rw[g]at c;exact⟨x,e,by rw[c];rfl,by rw[c];rfl⟩
def Aq{S:bJ}(h:S.Ok){n m k:Int}(hs:S.Stands k):(S.withdraw n m).2.Stands k:=by
 rcases bJ.withdraw_cases (S:=S) (n:=n) (m:=m)with⟨h1,-⟩|⟨a,h1,c,g,e,f⟩
 ·rw[h1];exact hs
 ·rw[c];have d:=(bJ.find_ok h h1).2.1;refine z7 h hs λb=>⟨a,?_,rfl,rfl⟩
  have:n=k:=d.symm.trans b;rw[<-this];exact h1
def GW{S:bJ}{p:Po}(h:x∈(S.putP p).held):x∈S.held\/x=p:=by
 unfold bJ.putP at h;exact(rR.1 h).imp (·.1) (·.1)
def wG{S:bJ}{b s p:Int}(h:x∈(S.trade c b s p n).2.held):x∈S.held\/(x.c=c/\(S.trade c b s p n).1=0):=by
 unfold bJ.trade at h|-;split
 ·grind
 ·rename_i h1
  rw[aa h1]at h;split
  ·grind
  ·rename_i a
   rw[aa a]at h;simp only at h|-;split
   ·grind
   ·rename_i f
    rw[aa f]at h;rcases GW h with d|rfl
    ·rcases GW d with e|rfl
     ·exact .inl e
     ·grind
    ·grind
def zI{price:Int}{cl:Bool}:∀{l:List Po} {S:bJ} {x:Po},x∈(S.marked l price cl).held->(x∈S.held/\∀p∈l,x.key≠p.key\/x.isZ=false)\/∃p∈l,x=p.mark price cl/\x.isZ=false
 | [],S,x,h=>.inl ⟨h,by simp⟩
 |p::l,S,x,h=>by
  have e:S.marked (p::l) price cl=(S.putP (p.mark price cl)).marked l price cl:=rfl;rw[e]at h;rcases zI h with⟨h1,c⟩|⟨q,a,c⟩
  ·unfold bJ.putP at h1;rcases rR.1 h1 with⟨d,b⟩|⟨d,b⟩
   ·refine .inl ⟨d,λq a=>?_⟩;rcases ax.1 a with rfl|a
    ·rw[PH]at b;exact .inl b
    ·exact c q a
   ·grind
  ·grind
def yC{S:bJ}(h:x∈(S.mark c price cl).2.2.held):∃p∈S.held,p.c=x.c:=by
 unfold bJ.mark at h;split at h
 ·exact⟨x,h,rfl⟩
 ·rcases zI h with⟨h1,-⟩|⟨p,hp,h1,-⟩
  ·exact⟨x,h1,rfl⟩
  ·exact⟨p,(aU.1 hp).1,by rw[h1];exact(rP p price cl).1.symm⟩
def wW{S:bJ}(a:S.Ok)(h:S.Zero)(c b s p n:Int):(S.trade c b s p n).2.Zero:=by
 intro k;have:=bJ.trade_sum a (c:=c) (b:=b) (s:=s) (p:=p) (n:=n) k;rw[this.1,this.2];exact h k
def DQ{S:bJ}(a:S.Ok)(h:S.Zero)(c price:Int)(cl:Bool):(S.mark c price cl).2.2.Zero:=by
 unfold bJ.mark;split
 ·exact h
 ·exact h.mark a c price cl
def pf(S:bJ)(a:Ac):(S.set a).2.held=S.held:=by
 rcases bJ.set_cases S a with⟨h1,-⟩|⟨h1,-⟩
 ·rw[h1]
 ·rw[h1];exact bJ.putA_held _ _
def tE{S:bJ}(h:S'.held=S.held)(a:S.Zero):S'.Zero:=λc=>by rw[h];exact a c
def Ay{α:Type}(f:Int->α)(n:Int)(x y:α):eS (eS f n x) n y=eS f n y:=by
 funext m;unfold eS;split<;>rfl
def Ix{α:Type}(f:Int->α)(n:Int):eS f n (f n)=f:=by
 funext m;unfold eS;split
 ·rename_i h;rw[h]
 ·rfl
def bt.Ok.setLed(h:S.Ok){L:bJ}(e:L.Ok)(g:L.Zero)(hs:∀n o,o∈S.ords n->S.led.Stands o.acct->L.Stands o.acct)(c:∀p∈L.held,bG S.cal.l p.c=0)(b:L.funds<=MF):({S with led:=L}:bt).Ok:=
 ⟨h.cal,⟨e,c,g⟩,h.ord.mono (λn f=>.inl f) (λn d=>gH.refl λo a=>(h.ord.bkMay n d o a).1) (λn=>gH.refl (h.ord.bdMay n)) (λn o a=>hs n o a) (eu _),h.next,b⟩
def D4{n:Int}{o:Od}(f:iU n):∀(l:List Td) {L:bJ},L.Ok->L.Zero->(pv n o l L).2.Ok/\(pv n o l L).2.Zero/\((pv n o l L).2.all=L.all/\(pv n o l L).2.fund=L.fund)/\∀p∈(pv n o l L).2.held,p∈L.held\/p.c=n
 | [],L,b,c=>⟨b,c,⟨rfl,rfl⟩,λp hp=>.inl hp⟩
 |t::l,L,b,c=>by
  unfold pv;simp only;obtain⟨X,a⟩:=di (L.trade n (if o.buy=true then o.acct else t.acct) (if o.buy=true then t.acct else o.acct) t.price t.qty);have h1:X.2.Ok:=by rw[a];exact bJ.trade_Ok b f
  have g:X.2.Zero:=by rw[a];exact wW b c _ _ _ _ _
  have e:X.2.all=L.all/\X.2.fund=L.fund:=by rw[a];exact bJ.trade_all
  have i:∀p∈X.2.held,p∈L.held\/p.c=n:=by rw[a];exact λp hp=>(wG hp).imp id (·.1)
  rw[<-a];split
  ·grind
  ·obtain⟨k,h,d,j⟩:=D4 f l h1 g;exact⟨k,h,⟨d.1.trans e.1,d.2.trans e.2⟩,λp hp=>(j p hp).elim (i p) .inr⟩
def BY(S:bt)(n:Int)(o:Od)(p:Pm):(S.traded n o p).2.2={S with led:=(pv n o p.trades S.led).2}:=by
 unfold bt.traded;simp only;split<;>rfl
def yT(h:S.Ok){n:Int}(i:iU n)(a:bG S.cal.l n=0)(o:Od)(p:Pm):(S.traded n o p).2.2.Ok:=by
 rw[BY];obtain⟨h1,e,c,f⟩:=D4 i (o:=o) p.trades h.led.led h.led.zero;refine h.setLed h1 e (λn o _ g=>(ue c.1 _).2 g) (λq d=>?_) (by rw[bJ.funds_of c];exact h.fnd);rcases f q d with b|b
 ·exact h.led.held q b
 ·rw[b];exact a
def oI{l:List Ct}(h:bG l n=0):∃k,cj l n=some k/\k.st≠3/\k.spec.num=n/\k∈l:=by
 unfold bG at h;cases a:cj l n with
 |none=>rw[a]at h;cases h
 |some k=>
  rw[a]at h;refine⟨k,rfl,λb=>?_,by simpa using lJ a,si a⟩;simp only at h;rw[ae b]at h;cases h
def Nq{l:List Ct}{k:Ct}(h:cj l n=some k)(a:k.st≠3):bG l n=0:=by
 unfold bG;rw[h];exact aa a
def Ny{s:Sp}{q:Int}(h:s.isQty q=true):1<=q/\q<=1000000:=by
 unfold Sp.isQty at h;simp only[ai]at h;exact fe.1 h.2.1
structure SS(S:bt)(a n:Int)(buy:Bool)(price qty:Int)(w:Od):Prop where
 stands:S.led.Stands a
 alive:bG S.cal.l n=0
 opn:∃k,cj S.cal.l n=some k/\k.st=1/\k.spec.isPrice price=true/\(Gt.mk k (S.acc a) (S.led.position n a).q ((S.opn n a).1 - (if w.buy then w.left else 0)) ((S.opn n a).2 - (if w.buy then 0 else w.left)) buy price qty).far=false
 price:1<=price/\price<=10000000
 qty:1<=qty/\qty<=1000000
def yo{buy:Bool}{qty:Int}{w:Od}(q:a≠0)(h:S.pass a n buy price qty w=0):SS S a n buy price qty w:=by
 unfold bt.pass at h;by_cases h1:S.led.getO a=none
 ·grind
 rw[aa h1]at h;by_cases e:(dO S.cal.l n).2≠0
 ·grind
 rw[aa e]at h;unfold dO at h e;cases f:cj S.cal.l n with
 |none=>rw[f]at e;exact absurd (by simp) e
 |some k=>
  rw[f]at h;simp only at h;obtain⟨g,b⟩:=di (Gt.mk k (S.acc a) (S.led.position n a).q ((S.opn n a).1 - (if w.buy then w.left else 0)) ((S.opn n a).2 - (if w.buy then 0 else w.left)) buy price qty);rw[<-b]at h;have t:g.k=k:=by rw[b]
  have r:g.a=S.acc a:=by rw[b]
  have u:g.price=price:=by rw[b]
  have v:g.qty=qty:=by rw[b]
  unfold Gt.check at h;by_cases j:g.a.dfl=true
  ·grind
  rw[aa j]at h;by_cases l:g.a.kil=true
  ·grind
  rw[aa l]at h;by_cases p:g.k.st=3
  ·grind
  rw[aa p]at h;by_cases y:g.k.st=2
  ·grind
  rw[aa y]at h;split at h
  ·cases h
  rename_i s
  by_cases m:¬g.k.spec.isQty g.qty=true
  ·grind
  rw[aa m]at h;by_cases i:¬g.k.spec.isPrice g.price=true
  ·grind
  rw[aa i]at h;split at h
  ·cases h
  by_cases A:g.far=true
  ·grind
  have d:g.k.st=1:=by
   apply aQ;intro z;exact s (.inl z)
  rw[t]at p d m i;rw[u]at i;rw[v]at m;rw[r]at j l;have c:k.spec.isPrice price=true:=by simpa using i
  refine⟨?_,Nq f p,⟨k,f,d,c,by grind⟩,vy c,Ny (by simpa using m)⟩;rw[oS q]at h1;cases o:S.led.find a with
  |none=>exact absurd o h1
  |some x=>
   have:S.acc a=x:=by unfold bt.acc;rw[oS q,o];rfl
   rw[this]at j l;exact⟨x,o,by simpa using l,by simpa using j⟩
def qC{c:Cm}(a:c.acct≠0)(h:(S.order c).1=0):SS S c.acct c.ct c.buy c.price c.qty oQ/\S.next<=jZ/\S.order c=(0,c.od S.next,{S with next:=S.next+1}):=by
 unfold bt.order at h|-;simp only at h|-;by_cases h1:S.pass c.acct c.ct c.buy c.price c.qty oQ≠0
 ·grind
 rw[aa h1]at h|-;by_cases b:jZ<S.next
 ·grind
 rw[aa b];exact⟨yo a (by simpa using h1),qZ,rfl⟩
def EP{c:Cm}(b:c.acct≠0)(d:n≠0)(hp:1<=c.price/\c.price<=10000000)(a:1<=c.qty/\c.qty<=1000000):(c.od n).may=true:=by
 unfold Od.may Cm.od MP;simp only[ai,aS,fe];exact⟨⟨⟨d,b⟩,hp⟩,a⟩
def BE{c:Cm}(e:c.Fit){n:Int}(f:Np n):(c.od n).Fit:=by
 obtain⟨h1,d,k,h,j,g,i,b,a⟩:=e;exact⟨f,d,b,a⟩
def ud(h:sy S):∀m,∀o∈S.ords m,o.num≠S.next:=λm o a b=>by
 have:=(h.std m o a).num;omega
def Qd(h:o.Fit){x:Int}(a:0<=x/\x<=1000000):({o with left:=x}:Od).Fit:=⟨h.1,h.2.1,h.2.2.1,by grind⟩
def ug(h:sy S){n:Int}{o:Od}{rests:Bool}{nx:Int}(d:bG S.cal.l n=0)(e:o.may=true)(g:o.Fit)(i:o.num<nx)(b:S.led.Stands o.acct)(a:∀m,∀y∈S.ords m,y.num≠o.num)(c:S.next<=nx):
  sy {S with bk:=eS S.bk n (fC (S.bk n) o rests).1,next:=nx}:=by
 have f:=yg (B:=S.bk n) (o:=o) (rests:=rests) (h.bkMay n) e;have q:=jD e;rcases f.own with h1|⟨h1,j,k,p⟩
 ·exact h.addBk d e g i b a f.opp (.inl h1) c
 ·have l:=f.fill;refine h.addBk (x:={o with left:=(fC (S.bk n) o rests).2.left}) d (Av (o:=o) rfl e ⟨h1,?_⟩) (Qd g ?_) i b a f.opp (.inr ⟨?_,k⟩) c
  ·grind
  ·omega
  ·show List.Perm ((fC (S.bk n) o rests).1 o.buy) _;rw[j];exact oC _ _ _
def AR{B:Bk}{k:Int}(h:(db B o k).1=0):db B o k=(0,fC B o (decide (k=1\/k=4)))/\o.may=true/\1<=k/\k<=4:=by
 unfold db at h|-;split at h
 ·cases h
 ·rename_i h1
  rw[aa h1];split at h
  ·cases h
  ·rename_i a
   rw[aa a];split at h
   ·cases h
   ·rename_i c
    rw[aa c];split at h
    ·cases h
    ·rename_i b
     rw[aa b];split at h
     ·cases h
     ·grind
def ng(h:S.cal.Ok){n:Int}(a:bG S.cal.l n=0):iU n:=by
 obtain⟨k,h1,d,c,b⟩:=oI a;have:=(h.ok k b).1.1.1;rw[c]at this;exact this
def RO(h:S.Ok){c:Cm}(k:c.Fit)(d:c.acct≠0)(a:(S.place c).1=0):(S.place c).2.2.Ok:=by
 unfold bt.place at a|-;simp only at a|-;by_cases h1:(S.order c).1≠0
 ·grind
 rw[aa h1]at a|-;obtain⟨hp,l,f⟩:=qC d (by simpa using h1);rw[f]at a|-;simp only at a|-;by_cases b:(db (S.bk c.ct) (c.od S.next) c.ty).1≠0
 ·grind
 rw[aa b]at a|-;obtain⟨e,-⟩:=AR (by simpa using b:(db (S.bk c.ct) (c.od S.next) c.ty).1=0);have g:=h.next
 have j:=ug h.ord (n:=c.ct) (o:=c.od S.next) (rests:=decide (c.ty=1\/c.ty=4)) (nx:=S.next+1) hp.alive (EP d qZ hp.price hp.qty) (BE k ⟨qZ,by unfold jZ at l;omega⟩)
  (by show S.next<_;omega) hp.stands (ud h.ord) qZ
 have i:({S with bk:=eS S.bk c.ct (fC (S.bk c.ct) (c.od S.next) (decide (c.ty=1\/c.ty=4))).1,next:=S.next+1}:bt).Ok:=⟨h.cal,h.led,j,⟨by grind,by grind⟩,h.fnd⟩
 rw[e]at a|-;exact yT i (ng h.cal hp.alive) hp.alive _ _
def Yv(h:S.Ok){c:Cm}(i:c.Fit)(b:c.acct≠0)(a:(S.bid c).1=0):(S.bid c).2.2.Ok:=by
 unfold bt.bid at a|-;simp only at a|-;by_cases h1:(S.order c).1≠0
 ·grind
 rw[aa h1]at a|-;obtain⟨hp,j,d⟩:=qC b (by simpa using h1);rw[d]at a|-;simp only at a|-;have e:=h.next;by_cases f:50<=(S.bd c.ct).length
 ·grind
 rw[aa f]
 have g:=h.ord.addBd (n:=c.ct) (x:=c.od S.next) (nx:=S.next+1) hp.alive (EP b qZ hp.price hp.qty) (BE i ⟨qZ,by unfold jZ at j;omega⟩)
  (by show S.next<_;omega) hp.stands (ud h.ord) qZ qZ
 exact⟨h.cal,h.led,g,⟨by grind,by grind⟩,h.fnd⟩
def qr{num:Int}(h:S.find a num=some (o,n)):n∈S.nums/\o.acct=a/\o.num=num/\∃d,o∈S.bk n d/\(S.bk n).find num=some (o,d):=by
 unfold bt.find at h;obtain⟨m,e,b⟩:=List.exists_of_findSome?_eq_some h;unfold wN at b;cases c:(S.bk m).find num with
 |none=>rw[c]at b;cases b
 |some x=>
  obtain⟨y,d⟩:=x;rw[c]at b;simp only at b;split at b
  ·rename_i f
   cases b;have:=BI c;exact⟨e,f,this.2,d,this.1,c⟩
  ·cases b
def Ys(h:sy S){n:Int}{B:Bk}(c:∀d,gH (B d) (S.bk n d)):sy {S with bk:=eS S.bk n B}:=by
 refine h.mono (λn f=>.inl f) (λm d=>?_) (λm=>gH.refl (h.bdMay m)) (λ_ _ _ e=>e) (eu _);show gH (eS S.bk n B m d) _;by_cases a:m=n
 ·subst a;rw[cQ];exact c d
 ·rw[eR _ _ _ a];exact gH.refl λo b=>(h.bkMay m d o b).1
def XQ(h:sy S){n:Int}{B:List Od}(c:gH B (S.bd n)):sy {S with bd:=eS S.bd n B}:=by
 refine h.mono (λn f=>.inl f) (λm d=>gH.refl λo b=>(h.bkMay m d o b).1) (λm=>?_) (λ_ _ _ e=>e) (eu _);show gH (eS S.bd n B m) _;by_cases a:m=n
 ·subst a;rw[cQ];exact c
 ·rw[eR _ _ _ a];exact gH.refl (h.bdMay m)
def bt.Ok.setBk(h:S.Ok){n:Int}{B:Bk}(a:∀d,gH (B d) (S.bk n d)):({S with bk:=eS S.bk n B}:bt).Ok:=⟨h.cal,h.led,Ys h.ord a,h.next,h.fnd⟩
def bt.Ok.setBd(h:S.Ok){n:Int}{B:List Od}(a:gH B (S.bd n)):({S with bd:=eS S.bd n B}:bt).Ok:=⟨h.cal,h.led,XQ h.ord a,h.next,h.fnd⟩
def Lz{B:Bk}(h:Cl B)(p:Od->Bool):∀d,gH (B.flt p d) (B d):=λd=>gH.filter (λo a=>(h d o a).1) p
def Nl(h:S.Ok){c:Cm}:(S.cancel c).2.2.Ok:=by
 unfold bt.cancel;cases a:S.find c.acct c.num with
 |some x=>
  obtain⟨o,n⟩:=x;obtain⟨h1,e,g,d,f,b⟩:=qr a;simp only;rw[wV (h.ord.bkNd n) b];exact h.setBk (Lz (h.ord.bkMay n) _)
 |none=>
  simp only;cases j:S.nums.findSome? (vr S.bd c.acct c.num)with
  |none=>exact h
  |some x=>
   obtain⟨i,n⟩:=x;exact h.setBd (gH.of_sub (fg _ _) (h.ord.bdMay n))
def zU(h:S.Ok){c:Cm}(O:c.Fit)(L:c.acct≠0){o:Od}{n:Int}(C:S.find c.acct c.num=some (o,n))(I:S.pass c.acct n o.buy c.price c.qty o=0)(b:(cF (S.bk n) c.num c.price c.qty).1=0):
  ({S with bk:=eS S.bk n (cF (S.bk n) c.num c.price c.qty).2.1}:bt).Ok:=by
  obtain⟨h1,M,F,d,t,u⟩:=qr C;have hp:=yo L I;have g:=h.ord.std n o (iz t);unfold cF at b|-;rw[u]at b|-;simp only at b|-;obtain⟨N,E⟩:=di ({o with price:=c.price,left:=c.qty}:Od);by_cases w:({o with price:=c.price,left:=c.qty}:Od).may=false
  ·grind
  rw[aa w]at b|-;have s:({o with price:=c.price,left:=c.qty}:Od).may=true:=by simpa using w
  by_cases z:c.price=o.price/\c.qty<=o.left
  ·rw[ae z]at b|-;refine h.setBk λe=>?_;show gH (Bk.set _ _ _ e) _;by_cases r:e=d
   ·subst r;rw[Bk.set_self];unfold rh at b|-;cases G:(S.bk n e).findIdx? λx=>decide (x.num=c.num)with
    |none=>exact gH.refl λo p=>(h.ord.bkMay n e o p).1
    |some i=>
     obtain⟨q,-⟩:=bz.1 G;simp only;rw[av q];simp only;split
     ·grind
     ·exact gH.set (λo p=>(h.ord.bkMay n e o p).1) q hp.qty
   ·rw[Bk.set_ne _ _ r];exact gH.refl λo p=>(h.ord.bkMay n e o p).1
  ·rw[aa z]at b|-;simp only
   have J:(S.bk n).set d (oX (S.bk n d) c.num)=(S.bk n).flt λo=>decide (o.num≠c.num):=by
    have:=wV (h.ord.bkNd n) u;unfold fq at this;rw[u]at this;exact this
   rw[J];have D:=h.setBk (Lz (h.ord.bkMay n) λo=>decide (o.num≠c.num))
   have v:=ug D.ord (n:=n) (o:={o with price:=c.price,left:=c.qty}) (rests:=true) (nx:=S.next) hp.alive s ⟨g.fit.1,g.fit.2.1,by constructor<;>show _<;>simp only<;>have:=hp.price<;>omega,by constructor<;>show _<;>simp only<;>have:=hp.qty<;>omega⟩
    (by show o.num<_;exact g.num) g.acc (λm y A H=>?_) (eu _)
   ·have B:eS (eS S.bk n ((S.bk n).flt λo=>decide (o.num≠c.num))) n (fC (eS S.bk n ((S.bk n).flt λo=>decide (o.num≠c.num)) n) {o with price:=c.price,left:=c.qty} true).1=eS S.bk n (fC ((S.bk n).flt λo=>decide (o.num≠c.num)) {o with price:=c.price,left:=c.qty} true).1:=by
     rw[cQ,Ay]
    simp only at v;rw[B]at v;exact⟨h.cal,h.led,v,h.next,h.fnd⟩
   ·have k:y.num=o.num:=H
    have l:y∈S.ords m/\(m=n->∀d,y∈S.bk n d->y.num≠c.num):=by
     by_cases j:m=n
     ·subst j;rcases kv A with⟨e,a⟩|a
      ·replace a:y∈eS S.bk m ((S.bk m).flt λo=>decide (o.num≠c.num)) m e:=a;rw[cQ]at a;unfold Bk.flt at a;rw[aU,aS]at a;exact absurd (k.trans F) a.2
      ·refine⟨jB a,λ_ e K=>?_⟩;have f:=h.ord.nd m;unfold bt.ords at f;rw[aM,dD]at f;exact absurd rfl (f.2.2 _ (aX (rA.2 ⟨e,K⟩)) _ (aX a))
     ·refine⟨?_,λh=>absurd h j⟩
      have:({S with bk:=eS S.bk n ((S.bk n).flt λo=>decide (o.num≠c.num))}:bt).ords m=S.ords m:=by
       show(eS S.bk n _ m).all++_=_;rw[eR _ _ _ j];rfl
      rwa[this]at A
    have j:=h.ord.apart m n y o l.1 (iz t) k;subst j;rcases kv l.1 with⟨e,a⟩|a
    ·grind
    ·have f:=h.ord.nd m;unfold bt.ords at f;rw[aM,dD]at f;exact absurd k.symm (f.2.2 _ (aX (rA.2 ⟨d,t⟩)) _ (aX a))
def Jm(h:S.Ok){c:Cm}(j:c.Fit)(i:c.acct≠0)(a:(S.replace c).1=0):(S.replace c).2.2.Ok:=by
 unfold bt.replace at a|-;cases b:S.find c.acct c.num with
 |none=>rw[b]at a;cases a
 |some x=>
  obtain⟨o,n⟩:=x;obtain⟨h1,k,p,d,l,m⟩:=qr b;rw[b]at a;simp only at a|-;by_cases f:S.pass c.acct n o.buy c.price c.qty o≠0
  ·grind
  rw[aa f]at a|-;have hp:=yo i (by simpa using f:S.pass c.acct n o.buy c.price c.qty o=0);by_cases g:(cF (S.bk n) c.num c.price c.qty).1≠0
  ·grind
  rw[aa g]at a|-;have e:(cF (S.bk n) c.num c.price c.qty).1=0:=by simpa using g
  exact yT (zU h j i b (by simpa using f) e) (ng h.cal hp.alive) hp.alive _ _
def I4(h:S.Ok){n m:Int}(e:iU n):({S with led:=(S.led.deposit n m).2}:bt).Ok:=by
 have b:=h.led.led;apply h.setLed (bJ.deposit_Ok b e) (tE (bJ.deposit_held _ _ _) h.led.zero) (λ_ o _ d=>Bs b d) (λp hp=>h.led.held p (by rw[bJ.deposit_held]at hp;exact hp));rw[bJ.deposit_funds b.sa];rcases bJ.deposit_cases (S:=S.led) (n:=n) (m:=m)with⟨h1,c⟩|⟨a,h1,c,j,f,i,k,g⟩
 ·rw[aa c];have:=h.fnd;omega
 ·grind
def zy(h:S.Ok){n m:Int}:({S with led:=(S.led.withdraw n m).2}:bt).Ok:=by
 have b:=h.led.led;apply h.setLed (bJ.withdraw_Ok b) (tE (bJ.withdraw_held _ _ _) h.led.zero) (λ_ o _ d=>Aq b d) (λp hp=>h.led.held p (by rw[bJ.withdraw_held]at hp;exact hp));rw[bJ.withdraw_funds b.sa];have:=h.fnd;rcases bJ.withdraw_cases (S:=S.led) (n:=n) (m:=m)with⟨h1,c⟩|⟨a,h1,c,g,e,f⟩
 ·rw[aa c];omega
 ·grind
def qq{l:List Ct}{f:Ct->Ct}(b:∀k∈l,(f k).spec.num=k.spec.num)(m:Int):cj (iu l n f) m=(cj l m).map λk=>if k.spec.num=n then f k else k:=by
 unfold cj iu;induction l with
 |nil=>rfl
 |cons k l c=>
  have a:(if k.spec.num=n then f k else k).spec.num=k.spec.num:=by grind
  rw[aI,iQ,iQ,a];split
  ·rfl
  ·grind
def xK{l:List Ct}{f:Ct->Ct}(b:∀k∈l,(f k).spec.num=k.spec.num)(e:∀k∈l,k.spec.num=n->((f k).st=3↔k.st=3))(m:Int):bG (iu l n f) m=bG l m:=by
 unfold bG;rw[qq b];cases c:cj l m with
 |none=>rfl
 |some k=>
  have d:=si c;show(if(if k.spec.num=n then f k else k).st=3 then(50:Int)else 0)=if k.st=3 then 50 else 0
  by_cases a:k.spec.num=n
  ·rw[ae a];by_cases h:k.st=3
   ·grind
   ·grind
  ·rw[aa a]
def bt.Ok.setCal(h:S.Ok){C:oR}(hC:C.Ok)(b:∀n,bG C.l n=bG S.cal.l n):({S with cal:=C}:bt).Ok:=
 ⟨hC,⟨h.led.led,λp hp=>by show bG C.l _=0;rw[b];exact h.led.held p hp,h.led.zero⟩,h.ord.mono (λn e=>.inl (by grind)) (λn d=>gH.refl λo a=>(h.ord.bkMay n d o a).1) (λn=>gH.refl (h.ord.bdMay n)) (λ_ _ _ c=>c) (eu _),h.next,h.fnd⟩
def TT(h:S.Ok)(n:Int)(on:Bool):({S with cal:=(jS S.cal n on).2}:bt).Ok:=by
 unfold jS;by_cases h1:bG S.cal.l n≠0
 ·rw[ae h1];exact h
 ·rw[aa h1];have d:bG S.cal.l n=0:=by simpa using h1
  obtain⟨k,b,o,r,s⟩:=oI d;have a:=pU (l:=S.cal.l) (n:=n) (f:=λk=>{k with st:=if on then 2 else 1}) (λk b _=>⟨AM (h.cal.ok k b) (by cases on<;>simp),rfl⟩) h.cal.ok h.cal.srt;refine h.setCal ⟨by show(iu _ _ _).length<=16;rw[a.2.2];exact h.cal.len,h.cal.day,a.1,a.2.1⟩ λm=>?_;refine xK (f:=λk=>{k with st:=if on then 2 else 1}) (λ_ _=>rfl) (λx p c=>?_) m
  have g:x.st≠3:=by
   have:cj S.cal.l n=some x:=by
    unfold cj;have:=h.cal.srt;rw[dP];obtain⟨i,e,rfl⟩:=bQ p;refine⟨by simpa using c,i,e,rfl,λj q=>?_⟩;have:=bP.1 this j i qZ e q;simp;omega
   rw[b]at this;cases this;exact o
  constructor
  ·grind
  ·grind
def I1(h:S.Ok)(n price:Int):({S with cal:=(fS S.cal n price).2}:bt).Ok:=by
 unfold fS;cases g:cj S.cal.l n with
 |none=>exact h
 |some k=>
  simp only;split
  ·exact h
  ·rename_i q
   split
   ·exact h
   ·rename_i hp
    have e:k.spec.isPrice price=true:=by simpa using hp
    have c:∀x∈S.cal.l,x.spec.num=n->x=k:=λx d b=>by
     have:cj S.cal.l n=some x:=by
      unfold cj;have:=h.cal.srt;rw[dP];obtain⟨i,o,rfl⟩:=bQ d;refine⟨by simpa using b,i,o,rfl,λj p=>?_⟩;have:=bP.1 this j i qZ o p;simp;omega
     rw[g]at this;cases this;rfl
    have a:=pU (l:=S.cal.l) (n:=n) (f:=λk=>{k with price:=price}) (λx d b=>⟨by rw[c x d b];exact BF (h.cal.ok k (si g)) e,rfl⟩) h.cal.ok h.cal.srt;refine h.setCal ⟨by show(iu _ _ _).length<=16;rw[a.2.2];exact h.cal.len,h.cal.day,a.1,a.2.1⟩ λm=>?_;exact xK (f:=λk=>{k with price:=price}) (λ_ _=>rfl) (λx d b=>aG) m
def Jo{l:List Ct}{p:Ct->Bool}(i:Nat)(k:Ct)(a:l.find? p=none\/p k=false):(l.take i++k::l.drop i).find? p=if p k=true then some k else l.find? p:=by
 rw[List.find?_append,iQ];cases hp:p k with
 |true=>
  rcases a with a|a
  ·grind
  ·rw[hp]at a;cases a
 |false=>
  simp only[bi,dg];rw[<-List.find?_append,cJ]
def wK{l:List Ct}{k:Ct}(a:cj l k.spec.num=none)(i:Nat)(m:Int):cj (l.take i++k::l.drop i) m=if k.spec.num=m then some k else cj l m:=by
 unfold cj at*;rw[Jo]
 ·simp
 ·by_cases h:k.spec.num=m
  ·subst h;exact .inl a
  ·grind
def Tc(h:S.Ok){s:Sp}(hs:s.Fit)(c:(fM S.cal s).1=0):({S with cal:=(fM S.cal s).2,bk:=eS S.bk s.num Bk.empty}:bt).Ok:=by
 unfold fM at c|-;by_cases h1:s.may=false
 ·grind
 rw[aa h1]at c|-;by_cases i:(cj S.cal.l s.num).isSome=true
 ·grind
 rw[aa i]at c|-;by_cases w:s.last<S.cal.day
 ·grind
 rw[aa w]at c|-;by_cases u:16<=S.cal.l.length
 ·grind
 rw[aa u];have a:s.may=true:=by simpa using h1
 have j:cj S.cal.l s.num=none:=by
  cases y:cj S.cal.l s.num with
  |none=>rfl
  |some k=>rw[y]at i;exact absurd rfl i
 have t:(mK s).Ok:=⟨⟨hs,⟨by show(0:Int)<=1;omega,by show(1:Int)<256;omega⟩,hs.2.2.2.2.2.2.2.2.2⟩,a,Sp.may_price a,by show(1:Int)<=1;omega,by show(1:Int)<=3;omega⟩
 obtain⟨A,r,D⟩:=D2 (k:=mK s) h.cal.srt h.cal.ok t j;have f:=wK (k:=mK s) j (iR S.cal.l s.num)
 have e:∀d,S.bk s.num d=[]:=λd=>by
  have:=h.ord.out s.num (by unfold bG;rw[j];simp);cases C:S.bk s.num d with
  |nil=>rfl
  |cons x l=>
   have b:x∈S.ords s.num:=iz (d:=d) (by grind);rw[this]at b;cases b
 have q:eS S.bk s.num Bk.empty=S.bk:=by
  funext m d;by_cases b:m=s.num
  ·subst b;rw[cQ,e d];rfl
  ·rw[eR _ _ _ b]
 rw[q]
 have g:∀m,bG S.cal.l m=0->bG (S.cal.l.take (iR S.cal.l s.num)++mK s::S.cal.l.drop (iR S.cal.l s.num)) m=0:=λm b=>by
  unfold bG at b|-;rw[f];by_cases c:(mK s).spec.num=m
  ·rw[ae c];rfl
  ·grind
 refine⟨⟨?_,h.cal.day,A,r⟩,⟨h.led.led,λp hp=>g _ (h.led.held p hp),h.led.zero⟩,h.ord.mono (λn z=>.inl λB=>z (g n B)) (λn d=>gH.refl λo v=>(h.ord.bkMay n d o v).1) (λn=>gH.refl (h.ord.bdMay n)) (λ_ _ _ hs=>hs) (eu _),h.next,h.fnd⟩;show(List.take _ _++_::List.drop _ _).length<=16;rw[af,be,az,bC];omega
def bt.Ok.clear(h:S.Ok){a k:Int}(c:a≠0):(S.clear a k).2.Ok:=by
 obtain⟨b,d,e⟩:=uh h.ord (k:=k) c;exact⟨by rw[b];exact h.cal,by rw[b,d];exact h.led,yZ h.ord c,by rw[e];exact h.next,by rw[d];exact h.fnd⟩
def Vk(h:S.led.Ok){a:Int}(c:S.led.getO a≠none):(S.acc a).num=a/\S.led.getO a=some (S.acc a):=by
 unfold bt.acc;cases b:S.led.getO a with
 |none=>exact absurd b c
 |some x=>exact⟨(h.getO b).1,rfl⟩
def bJ.set_ok1{S:bJ}{a:Ac}(h:(S.set a).1=0):(S.set a).2=S.putA a:=by
 rcases bJ.set_cases S a with⟨-,b⟩|⟨h1,-⟩
 ·exact absurd h b
 ·rw[h1]
def YB(h:S.Ok){a:Ac}(f:iU a.num)(hs:∀n o,o∈S.ords n->S.led.Stands o.acct->o.acct=a.num->a.kil=false/\a.dfl=false)(c:(S.led.set a).2.funds<=MF):({S with led:=(S.led.set a).2}:bt).Ok:=
 h.setLed (bJ.set_Ok h.led.led f) (tE (pf _ _) h.led.zero) (λn o d b=>wT h.led.led b λe=>hs n o d b e.symm) (λp hp=>h.led.held p (by rw[pf]at hp;exact hp)) c
def Vh(h:S.Ok){a:Int}(f:a≠0)(r:iU a)(l:S.led.getO a≠none)(on:Bool):({(if on then(S.clear a 0).2 else S)with led:=((if on then(S.clear a 0).2 else S).led.set {S.acc a with kil:=on}).2}:bt).Ok:=by
 obtain⟨b,e⟩:=Vk h.led.led l
 have key:∀T:bt,T.Ok->T.led=S.led->(∀n o,o∈T.ords n->T.led.Stands o.acct->o.acct=a->on=false)->({T with led:=(T.led.set {S.acc a with kil:=on}).2}:bt).Ok:=λT m j p=>by
  refine YB m (a:={S.acc a with kil:=on}) (by grind) (λn o g c i=>?_) ?_
  ·have d:o.acct=a:=i.trans b;refine⟨p n o g c d,?_⟩;obtain⟨x,q,-,k⟩:=c
   have:S.acc a=x:=by
    unfold bt.acc;rw[oS f,<-d,<-j,q];rfl
   show(S.acc a).dfl=false;rw[this];exact k
  ·rw[j];rcases bJ.set_cases S.led {S.acc a with kil:=on}with⟨h1,-⟩|⟨h1,-⟩
   ·rw[h1];exact h.fnd
   ·rw[h1];show(S.led.putA {S.acc a with kil:=on}).funds<=MF;rw[bJ.funds_putA h.led.led.sa];show S.led.funds+(S.acc a).cash - ((S.led.getO (S.acc a).num).getD _).cash<=MF;rw[b,e];have:=h.fnd;simp only[dC];omega
 cases on with
 |true=>exact key _ (h.clear f) (uh h.ord f).2.1 λn o g _ i=>absurd i (BC h.ord f g).1
 |false=>exact key S h rfl λ_ _ _ _ _=>rfl
end Go.Proofs
