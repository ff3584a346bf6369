/- Part of a proof. -/
import Derived.Test.YtekbnpagidkbbaaGreatT16
set_option linter.all false
set_option maxRecDepth 100000
set_option maxHeartbeats 4000000
namespace Go.Proofs
open Go Go.Vc
variable {cl:Bool}{a price n c:Int}{l:List Po}{o:Od}{x:Po}{g f:Po->Int}{S:ba}{S' :bq}
def iy(g:Po->Int)(l:List Po):Int:=(l.map g).sum
def Dx{a:List Po}(h:l.Perm a):iy g l=iy g a:=ul (h.map g)
def GB{a:List Po}:iy g (l++a)=iy g l+iy g a:=by simp[iy]
def NG(hs:kf l)(k:Int×Int):l.Perm ((l.find? λx=>decide (x.key=k)).toList++l.filter λx=>decide (x.key≠k)):=by
 induction l with
 |nil=>exact db _
 |cons p l c=>
  have a:kf l:=(bJ.1 hs).2;have hp:=(bJ.1 hs).1;by_cases h:p.key=k
  ·rw[ip (by simpa using h),aU (by simpa using h)];simp only[Option.toList_some,jY];refine List.Perm.cons _ (iG ?_);symm;refine cC.2 λx b=>?_;have:=tG (hp x b);simpa using λe:x.key=k=>this (h.trans e.symm)
  ·grind
def sY{S:bq}(hs:kf S.held){g:Po->Int}(c:∀p,p.isZ=true->g p=0)(p:Po):iy g (S.putP p).held=iy g S.held+g p - g (S.position p.c p.a):=by
 have b:=Dx (g:=g) (yQ S.held p);have a:=Dx (g:=g) (NG hs p.key);rw[GB]at b a
 have d:iy g (if p.isZ=true then []else [p])=g p:=by
  cases h:p.isZ with
  |true=>simp[iy,c p h]
  |false=>simp[iy]
 have e:iy g (S.held.find? λx=>decide (x.key=p.key)).toList=g (S.position p.c p.a):=by
  unfold bq.position bq.pos?;show _=g ((S.held.find? λx=>decide (x.key=p.key)).getD _);cases S.held.find? λx=>decide (x.key=p.key)with
  |none=>simp[iy,c ⟨p.c,p.a,0,0⟩ (by simp[Po.isZ])]
  |some x=>simp[iy]
 rw[d]at b;rw[e]at a;show iy g (Jh S.held p)=_;omega
def zgq(c:Int)(p:Po):Int:=if p.c=c then p.q else 0
def JH(c:Int)(p:Po):Int:=if p.c=c then p.b else 0
def UO(c:Int):∀p,p.isZ=true->zgq c p=0:=λp h=>by
 unfold Po.isZ at h;simp only[ax]at h;unfold zgq;split<;>simp[h]
def UL(c:Int):∀p,p.isZ=true->JH c p=0:=λp h=>by
 unfold Po.isZ at h;simp only[ax]at h;unfold JH;split<;>simp[h]
def zk(S:bq)(c:Int)(f:Po->Int):iy f (S.holders c)=iy (λp=>if p.c=c then f p else 0) S.held:=by
 unfold bq.holders iy;induction S.held with
 |nil=>rfl
 |cons p l a=>
  by_cases h:p.c=c
  ·grind
  ·grind
def bq.trade_sum{S:bq}(a:S.Ok){c b s p n:Int}(k:Int):
  iy (zgq k) (S.trade c b s p n).2.held=iy (zgq k) S.held/\iy (JH k) (S.trade c b s p n).2.held=iy (JH k) S.held:=by
 by_cases g:(S.trade c b s p n).1=0
 ·obtain⟨e,m⟩:=bq.trade_ok g;rw[m];have d:=rX a.sp ⟨c,b,(S.position c b).q+n,(S.position c b).b+p*n⟩;obtain⟨l,o,-⟩:=a.position c b;obtain⟨i,q,-⟩:=a.position c s
  have j:(S.putP ⟨c,b,(S.position c b).q+n,(S.position c b).b+p*n⟩).position c s=S.position c s:=by
   rw[bq.position_putP a.sp];rw[aa (λh=>e h.2.symm)]
  constructor
  ·rw[sY d (UO k),sY a.sp (UO k)];simp only[j];unfold zgq;rw[l,i];by_cases f:c=k<;>simp[f]<;>omega
  ·rw[sY d (UL k),sY a.sp (UL k)];simp only[j];unfold JH;rw[l,i];by_cases f:c=k<;>simp[f]<;>omega
 ·have:(S.trade c b s p n).2=S:=by
   unfold bq.trade at g|-;split
   ·rfl
   ·split
    ·rfl
    ·simp only at g|-;split
     ·rfl
     ·grind
  rw[this];exact ww
def qX(p:Po)(price:Int)(cl:Bool):(p.mark price cl).c=p.c/\(p.mark price cl).a=p.a:=by
 unfold Po.mark;cases cl<;>exact ww
def Jo:∀{l:List Po} {S:bq},kf S.held->kf l->∀c a,(S.marked l price cl).position c a=match l.find? (λx=>decide (x.key=(c,a)))with|some p=>p.mark price cl|none=>S.position c a:=by
 intro l;induction l with
 |nil=>intro S b f c a;rfl
 |cons p l i=>
  intro S b f c a;have hp:=(bJ.1 f).1;show((S.putP (p.mark price cl)).marked l price cl).position c a=_;rw[i (rX b _) (bJ.1 f).2];by_cases h:p.key=(c,a)
  ·rw[ip (by simpa using h)]
   have d:l.find? (λx=>decide (x.key=(c,a)))=none:=by
    rw[dS];intro x g;have:=tG (hp x g);simpa using λe:x.key=(c,a)=>this (h.trans e.symm)
   rw[d];simp only;rw[bq.position_putP b];simp only[Po.key,mV]at h;rw[ab ⟨by rw[(qX p price cl).1];exact h.1.symm,by rw[(qX p price cl).2];exact h.2.symm⟩]
  ·rw[iq (by simpa using h)];cases l.find? λx=>decide (x.key=(c,a))with
   |some x=>rfl
   |none=>
    simp only;rw[bq.position_putP b,(qX p price cl).1,(qX p price cl).2,aa];intro e;exact h (by simp[Po.key,e.1,e.2])
def xo{S:bq}(h:kf S.held)(c:Int):kf (S.holders c):=h.filter _
def EU(S:bq)(c a k:Int):(S.holders c).find? (λx=>decide (x.key=(k,a)))=if k=c then S.pos? (c,a)else none:=by
 unfold bq.holders bq.pos?;by_cases b:k=c
 ·subst b;rw[ab rfl];induction S.held with
  |nil=>rfl
  |cons p l d=>
   by_cases h:p.c=k
   ·grind
   ·rw[aU (by simpa using h),d,iq];simp[Po.key];intro e;exact absurd e h
 ·rw[aa b,dS];intro x f;have:x.c=c:=by grind
  simp[Po.key];intro e;exact absurd (e.symm.trans this) b
def bq.mark_pos{S:bq}(hs:kf S.held)(c price:Int)(cl:Bool)(k a:Int):(S.marked (S.holders c) price cl).position k a=if k=c then(S.position c a).mark price cl else S.position k a:=by
 rw[Jo hs (xo hs c),EU];by_cases b:k=c
 ·subst b;rw[ab rfl,ab rfl];unfold bq.position;cases S.pos? (k,a)with
  |some p=>rfl
  |none=>
   simp only[Option.getD_none];unfold Po.mark;cases cl<;>simp
 ·grind
def tL(f:∀p,p.isZ=true->g p=0){price:Int}{cl:Bool}:∀{l:List Po} {S:bq},kf S.held->kf l->(∀p∈l,S.position p.c p.a=p)->
  iy g (S.marked l price cl).held=iy g S.held+iy (λp=>g (p.mark price cl) - g p) l:=by
 intro l;induction l with
 |nil=>intro S _ _ _;simp[iy,bq.marked]
 |cons p l h=>
  intro S b c hp;have a:=(bJ.1 c).1;show iy g ((S.putP (p.mark price cl)).marked l price cl).held=_;rw[h (rX b _) (bJ.1 c).2 ?_,sY b f,(qX p price cl).1,(qX p price cl).2,hp p ai]
  ·simp only[iy,aH,bp];omega
  ·intro x d;rw[bq.position_putP b,(qX p price cl).1,(qX p price cl).2,aa,hp x (ae _ d)];intro e;have:=tG (a x d);exact this (by grind)
def vV(h:∀p∈l,f p=g p):iy f l=iy g l:=by
 unfold iy;rw[dN h]
def yp(l:List Po):iy (λ_=>0) l=0:=by
 unfold iy;induction l with
 |nil=>rfl
 |cons p l a=>simp[a]
def Qs(x:Int):iy (λp=>f p*x) l=iy f l*x:=by
 unfold iy;induction l with
 |nil=>simp
 |cons p l a=>simp[a,Int.add_mul]
def Hm:iy (λp=>f p - g p) l=iy f l - iy g l:=by
 unfold iy;induction l with
 |nil=>simp
 |cons p l a=>simp[a];omega
def bq.Zero(S:bq):Prop:=∀c,iy (zgq c) S.held=0/\iy (JH c) S.held=0
def bq.Zero.holders{S:bq}(h:S.Zero)(c:Int):iy (·.q) (S.holders c)=0/\iy (·.b) (S.holders c)=0:=by
 rw[zk,zk];exact h c
def bq.holders_self{S:bq}(hs:kf S.held){c:Int}{p:Po}(hp:p∈S.holders c):S.position p.c p.a=p/\p.c=c:=by
 obtain⟨b,a⟩:=aM.1 hp;refine⟨?_,by simpa using a⟩;unfold bq.position;rw[show(p.c,p.a)=p.key from rfl,bq.pos_some hs b];rfl
def bq.Zero.mark{S:bq}(a:S.Ok)(h:S.Zero)(c price:Int)(cl:Bool):(S.marked (S.holders c) price cl).Zero:=by
 intro k;have j:=xo a.sp c;have b:=λp (hp:p∈S.holders c)=>(bq.holders_self a.sp hp).1;obtain⟨l,n⟩:=h.holders c;by_cases m:k=c
 ·subst m;constructor
  ·rw[tL (UO k) a.sp j b,(h k).1]
   have:iy (λp=>zgq k (p.mark price cl) - zgq k p) (S.holders k)=iy (λp=>(if cl then 0 else p.q) - p.q) (S.holders k):=vV λp hp=>by
    have i:=(bq.holders_self a.sp hp).2;unfold zgq Po.mark;cases cl<;>simp[i]
   rw[this,Hm,l];cases cl with
   |true=>simp only[de];rw[yp];rfl
   |false=>simp only[bE,dB];rw[l];rfl
  ·rw[tL (UL k) a.sp j b,(h k).2]
   have:iy (λp=>JH k (p.mark price cl) - JH k p) (S.holders k)=iy (λp=>(if cl then 0 else p.q*price) - p.b) (S.holders k):=vV λp hp=>by
    have i:=(bq.holders_self a.sp hp).2;unfold JH Po.mark;cases cl<;>simp[i]
   rw[this,Hm,n];cases cl with
   |true=>simp only[de];rw[yp];rfl
   |false=>
    simp only[bE,dB];rw[Qs (f:=λp=>p.q),l];simp
 ·have e:∀(g:Int->Po->Int),(g=zgq\/g=JH)->iy (λp=>g k (p.mark price cl) - g k p) (S.holders c)=0:=λg o=>by
   have:iy (λp=>g k (p.mark price cl) - g k p) (S.holders c)=iy (λ_=>0) (S.holders c):=vV λp hp=>by
    have i:=(bq.holders_self a.sp hp).2;have d:¬p.c=k:=λe=>m (e.symm.trans i);rcases o with rfl|rfl
    ·unfold zgq;rw[(qX p price cl).1,aa d,aa d];rfl
    ·unfold JH;rw[(qX p price cl).1,aa d,aa d];rfl
   rw[this];exact yp _
  constructor
  ·rw[tL (UO k) a.sp j b,(h k).1,e zgq (.inl rfl)];rfl
  ·rw[tL (UL k) a.sp j b,(h k).2,e JH (.inr rfl)];rfl
def OD{l:List Ac}(hs:mg l)(n:Int):l.Perm ((l.find? λx=>decide (x.num=n)).toList++l.filter λx=>decide (x.num≠n)):=by
 induction l with
 |nil=>exact db _
 |cons p l c=>
  have a:mg l:=(bJ.1 hs).2;have hp:=(bJ.1 hs).1;by_cases h:p.num=n
  ·rw[ip (by simpa using h),aU (by simpa using h)];simp only[Option.toList_some,jY];refine List.Perm.cons _ (iG ?_);symm;refine cC.2 λx b=>?_;have:=hp x b;simp;omega
  ·grind
def bq.funds_putA{S:bq}(hs:mg S.all)(a:Ac):(S.putA a).funds=S.funds+a.cash - ((S.getO a.num).getD ⟨0,0,false,false⟩).cash:=by
 unfold bq.putA;by_cases b:a.num=0
 ·rw[ab b,b];simp[bq.funds,bq.getO,jX];omega
 ·rw[aa b];simp only[bq.funds,bq.getO,aa b,bq.find];have d:=ul ((vd S.all a).map (·.cash));have c:=ul ((OD hs a.num).map (·.cash));rw[aK,fK]at c;simp only[aH,bp]at d
  have e:((S.all.find? λx=>decide (x.num=a.num)).toList.map (·.cash)).sum=((S.all.find? λx=>decide (x.num=a.num)).getD ⟨0,0,false,false⟩).cash:=by
   cases S.all.find? λx=>decide (x.num=a.num)<;>simp
  omega
def bq.deposit_funds{S:bq}(hs:mg S.all)(n m:Int):(S.deposit n m).2.funds=S.funds+if(S.deposit n m).1=0 then m else 0:=by
 unfold bq.deposit;split
 ·split
  ·simp
  ·split
   ·simp
   ·rw[ab rfl];simp only;rw[bq.funds_putA hs];simp only;omega
 ·simp
def bq.withdraw_funds{S:bq}(hs:mg S.all)(n m:Int):(S.withdraw n m).2.funds=S.funds+if(S.withdraw n m).1=0 then -m else 0:=by
 unfold bq.withdraw;split
 ·simp
 ·rename_i f
  cases d:S.find n with
  |none=>simp
  |some a=>
   simp only;split
   ·simp
   ·rw[ab rfl];simp only;obtain⟨g,b⟩:=bq.find_mem d;have c:n≠0:=λe=>f (.inl e);rw[bq.funds_putA hs];simp only[bq.getO,b,aa c,d,cR];omega
def bq.funds_of{S:bq}(h:S'.all=S.all/\S'.fund=S.fund):S'.funds=S.funds:=by unfold bq.funds;rw[h.1,h.2]
def bq.putA_held(S:bq)(a:Ac):(S.putA a).held=S.held:=by unfold bq.putA;split<;>rfl
def bq.deposit_held(S:bq)(n m:Int):(S.deposit n m).2.held=S.held:=by
 unfold bq.deposit;split
 ·split
  ·rfl
  ·split
   ·rfl
   ·exact bq.putA_held _ _
 ·rfl
def bq.withdraw_held(S:bq)(n m:Int):(S.withdraw n m).2.held=S.held:=by
 unfold bq.withdraw;split
 ·rfl
 ·split
  ·rfl
  ·split
   ·rfl
   ·exact bq.putA_held _ _
def bq.empty_zero:bq.Zero ⟨0,[],[]⟩:=λc=>⟨rfl,rfl⟩
structure oq.Ok(C:oq):Prop where
 len:C.l.length<=16
 day:gM C.day
 ok:∀k∈C.l,k.Ok
 srt:nU C.l
def ba.ords(S:ba)(n:Int):List Od:=(S.bk n).all++S.bd n
def bq.Stands(L:bq)(a:Int):Prop:=∃x,L.find a=some x/\x.kil=false/\x.dfl=false
structure ba.Std(S:ba)(o:Od):Prop where
 may:o.may=true
 fit:o.Fit
 num:o.num<S.next
 acc:S.led.Stands o.acct
structure rE(S:ba):Prop where
 out:∀n,bt S.cal.l n≠0->S.ords n=[]
 side:∀n d,(S.bk n d).length<=100/\∀o∈S.bk n d,o.buy=d
 std:∀n,∀o∈S.ords n,S.Std o
 nd:∀n,((S.ords n).map (·.num)).Nodup
 apart:∀n m o o',o∈S.ords n->o' ∈S.ords m->o.num=o'.num->n=m
 bdl:∀n,(S.bd n).length<=50
structure I9(C:oq)(L:bq):Prop where
 led:L.Ok
 held:∀p∈L.held,bt C.l p.c=0
 zero:L.Zero
structure ba.Ok(S:ba):Prop where
 cal:S.cal.Ok
 led:I9 S.cal S.led
 ord:rE S
 next:1<=S.next/\S.next<=ll+1
 fnd:S.led.funds<=MF
def g8{d:Bool}(h:o∈S.bk n d):o∈S.ords n:=cD _ (qF.2 ⟨d,h⟩)
def iV(h:o∈S.bd n):o∈S.ords n:=er _ h
def jN(h:o∈S.ords n):(∃d,o∈S.bk n d)\/o∈S.bd n:=(aN.1 h).imp qF.1 id
def rE.bkMay(h:rE S)(n:Int):Cd (S.bk n):=λd o a=>⟨(h.std n o (g8 a)).may,(h.side n d).2 o a⟩
def rE.bkNd(h:rE S)(n:Int):t7 (S.bk n):=by
 have:=h.nd n;unfold ba.ords at this;rw[aK,dg]at this;exact this.1
def rE.bdMay(h:rE S)(n:Int):∀o∈S.bd n,o.may=true:=λo a=>(h.std n o (iV a)).may
def rE.bdNd(h:rE S)(n:Int):((S.bd n).map (·.num)).Nodup:=by
 have:=h.nd n;unfold ba.ords at this;rw[aK,dg]at this;exact this.2.1
def Jf{a d b e c c' :List Int}(f:d.Sublist a)(g:e.Sublist b)(i:c'.Sublist c)(h:(a++b++c).Nodup):(d++e++c').Nodup:=h.sublist ((f.append g).append i)
def AS(S:ba)(n:Int):(S.ords n).map (·.num)=(S.bk n true).map (·.num)++(S.bk n false).map (·.num)++(S.bd n).map (·.num):=by
 unfold ba.ords Bk.all;rw[aK,aK]
def Ln{o' :Od}(h:o.key=o'.key)(a:o.Fit)(hl:1<=o'.left/\o'.left<=1000000):o'.Fit:=by
 unfold Od.Fit at*;rw[<-nJ h,<-wM h,<-qN h];exact⟨a.1,a.2.1,a.2.2.1,by grind⟩
def xu{S' :ba}(f:∀n d,gA (S'.bk n d) (S.bk n d))(g:∀n,gA (S'.bd n) (S.bd n)){n:Int}{o:Od}(h:o∈S'.ords n):∃a∈S.ords n,a.key=o.key/\1<=o.left/\o.left<=1000000:=by
 rcases jN h with⟨d,b⟩|b
 ·obtain⟨a,c,e⟩:=(f n d).mem b;exact⟨a,g8 c,e,(f n d).left o b⟩
 ·obtain⟨a,c,e⟩:=(g n).mem b;exact⟨a,iV c,e,(g n).left o b⟩
def rE.mono{S' :ba}(h:rE S)(s:∀n,bt S'.cal.l n≠0->bt S.cal.l n≠0\/S'.ords n=[])(f:∀n d,gA (S'.bk n d) (S.bk n d))(i:∀n,gA (S'.bd n) (S.bd n))
  (u:∀n o,o∈S'.ords n->S.led.Stands o.acct->S'.led.Stands o.acct)(q:S.next<=S'.next):rE S' where
 out n q:=by
  rcases s n q with e|e
  ·have c:=h.out n e;cases r:S'.ords n with
   |nil=>rfl
   |cons x l=>
    obtain⟨p,g,-⟩:=xu (S:=S) (S' :=S') f i (n:=n) (o:=x) (by grind);rw[c]at g;cases g
  ·exact e
 side n d:=⟨bK (f n d).len (h.side n d).1,λo j=>by
  obtain⟨p,e,c⟩:=(f n d).mem j;rw[<-LG c];exact(h.side n d).2 p e⟩
 std n o j:=by
  obtain⟨p,e,c,g⟩:=xu f i j;have k:=h.std n p e;exact⟨Au c k.may g,Ln c k.fit g,by rw[<-nJ c];exact lD k.num q,u n o j (by rw[<-wM c];exact k.acc)⟩
 nd n:=by
  have:=h.nd n;rw[AS]at this|-;exact Jf (f n true).nums (f n false).nums (i n).nums this
 apart n m o o' j ho' r:=by
  obtain⟨a,e,c,-⟩:=xu f i j;obtain⟨b,g,t,-⟩:=xu f i ho';exact h.apart n m a b e g (by rw[nJ c,nJ t];exact r)
 bdl n:=bK (i n).len (h.bdl n)
def rE.addBk(h:rE S){n:Int}{x:Od}{B:Bk}{nx:Int}(H:bt S.cal.l n=0)(P:x.may=true)(N:x.Fit)(C:x.num<nx)(D:S.led.Stands x.acct)(r:∀m,∀o∈S.ords m,o.num≠x.num)
  (opp:gA (B !x.buy) (S.bk n !x.buy))(own:B x.buy=S.bk n x.buy\/((B x.buy).Perm (x::S.bk n x.buy)/\(S.bk n x.buy).length<100))(G:S.next<=nx):rE {S with bk:=eR S.bk n B,next:=nx}:=by
 have q:=h.bkMay;have v:=h.bdMay
 have i:∀m,∀o∈({S with bk:=eR S.bk n B,next:=nx}:ba).ords m,(∃s∈S.ords m,s.key=o.key/\1<=o.left/\o.left<=1000000)\/(o=x/\m=n):=by
  intro m o l;by_cases c:m=n
  ·subst c;rcases jN l with⟨d,j⟩|j
   ·replace j:o∈eR S.bk m B m d:=j;rw[cQ]at j;by_cases t:d=x.buy
    ·subst t;rcases own with f|⟨f,-⟩
     ·rw[f]at j;exact .inl ⟨o,g8 j,rfl,jm (q m _ o j).1⟩
     ·rcases aq.1 (f.mem_iff.1 j)with rfl|g
      ·grind
      ·exact .inl ⟨o,g8 g,rfl,jm (q m _ o g).1⟩
    ·obtain rfl:d= !x.buy:=by cases d<;>cases C:x.buy<;>simp_all
     obtain⟨s,g,k⟩:=opp.mem j;exact .inl ⟨s,g8 g,k,opp.left o j⟩
   ·exact .inl ⟨o,iV j,rfl,jm (v m o j)⟩
  ·have:o∈S.ords m:=by
    have e:({S with bk:=eR S.bk n B,next:=nx}:ba).ords m=S.ords m:=by
     show(eR S.bk n B m).all++S.bd m=_;rw[eT _ _ _ c];rfl
    rwa[e]at l
   exact .inl ⟨o,this,rfl,jm (h.std m o this).may⟩
 have p:∀d,((B d).map (·.num)).Sublist ((S.bk n d).map (·.num))\/(d=x.buy/\((B d).map (·.num)).Perm (x.num::(S.bk n d).map (·.num))):=λd=>by
  by_cases t:d=x.buy
  ·subst t;rcases own with f|⟨f,-⟩
   ·grind
   ·grind
  ·obtain rfl:d= !x.buy:=by cases d<;>cases C:x.buy<;>simp_all
   exact .inl opp.nums
 refine⟨λm u=>?_,λm d=>?_,λm o l=>?_,λm=>?_,λO I o K l w y=>?_,h.bdl⟩
 ·have c:m≠n:=λe=>by subst e;exact u H
  show(eR S.bk n B m).all++S.bd m=[]
  rw[eT _ _ _ c];exact h.out m u
 ·show(eR S.bk n B m d).length<=100/\∀o∈eR S.bk n B m d,_;by_cases c:m=n
  ·subst c;rw[cQ];by_cases t:d=x.buy
   ·subst t;rcases own with f|⟨f,g⟩
    ·rw[f];exact h.side m _
    ·refine⟨by have:=f.length_eq;rw[aR]at this;omega,λo l=>?_⟩;rcases aq.1 (f.mem_iff.1 l)with rfl|k
     ·rfl
     ·exact(h.side m _).2 o k
   ·obtain rfl:d= !x.buy:=by cases d<;>cases C:x.buy<;>simp_all
    refine⟨bK opp.len (h.side m _).1,λo l=>?_⟩;obtain⟨s,g,k⟩:=opp.mem l;rw[<-LG k];exact(h.side m _).2 s g
  ·rw[eT _ _ _ c];exact h.side m d
 ·rcases i m o l with⟨s,f,g,k⟩|⟨rfl,rfl⟩
  ·have A:=h.std m s f;exact⟨Au g A.may k,Ln g A.fit k,by rw[<-nJ g];exact lD A.num G,by rw[<-wM g];exact A.acc⟩
  ·exact⟨P,N,C,D⟩
 ·by_cases c:m=n
  ·subst c;rw[AS];show(List.map _ (eR S.bk m B m true)++List.map _ (eR S.bk m B m false)++List.map _ (S.bd m)).Nodup;rw[cQ];have J:=h.nd m
   have z:x.num ∉ (S.ords m).map (·.num):=λQ=>by
    obtain⟨o,l,y⟩:=aD.1 Q;exact r m o l y
   rw[AS]at J z;have j:(x.num::((S.bk m true).map (·.num)++(S.bk m false).map (·.num)++(S.bd m).map (·.num))).Nodup:=bO.2 ⟨z,J⟩;rcases p true with M|⟨R,M⟩
   ·rcases p false with F|⟨L,F⟩
    ·grind
    ·grind
   ·rcases p false with F|⟨L,F⟩
    ·grind
    ·grind
  ·show(((eR S.bk n B m).all++S.bd m).map (·.num)).Nodup;rw[eT _ _ _ c];exact h.nd m
 ·rcases i O o l with⟨a,f,g,-⟩|⟨rfl,rfl⟩
  ·rcases i I K w with⟨b,k,E,-⟩|⟨rfl,rfl⟩
   ·exact h.apart _ _ a b f k (by rw[nJ g,nJ E];exact y)
   ·exact absurd ((nJ g).trans y) (r _ a f)
  ·rcases i I K w with⟨b,k,E,-⟩|⟨rfl,rfl⟩
   ·exact absurd ((nJ E).trans y.symm) (r _ b k)
   ·rfl
def rE.addBd(h:rE S){n:Int}{x:Od}{nx:Int}(u:bt S.cal.l n=0)(C:x.may=true)(z:x.Fit)(B:x.num<nx)(r:S.led.Stands x.acct)(q:∀m,∀o∈S.ords m,o.num≠x.num)
  (hl:(S.bd n).length<50)(s:S.next<=nx):rE {S with bd:=eR S.bd n (S.bd n++[x]),next:=nx}:=by
 have f:∀m,∀o∈({S with bd:=eR S.bd n (S.bd n++[x]),next:=nx}:ba).ords m,o∈S.ords m\/(o=x/\m=n):=by
  intro m o g;by_cases c:m=n
  ·subst c;rcases jN g with⟨d,j⟩|j
   ·exact .inl (g8 j)
   ·replace j:o∈eR S.bd m (S.bd m++[x]) m:=j;rw[cQ]at j;rcases aN.1 j with i|i
    ·exact .inl (iV i)
    ·grind
  ·left
   have e:({S with bd:=eR S.bd n (S.bd n++[x]),next:=nx}:ba).ords m=S.ords m:=by
    show(S.bk m).all++eR S.bd n _ m=_;rw[eT _ _ _ c];rfl
   rwa[e]at g
 refine⟨λm k=>?_,h.side,λm o g=>?_,λm=>?_,λA v o t g l D=>?_,λm=>?_⟩
 ·have c:m≠n:=λe=>by subst e;exact k u
  show(S.bk m).all++eR S.bd n _ m=[]
  rw[eT _ _ _ c];exact h.out m k
 ·rcases f m o g with i|⟨rfl,rfl⟩
  ·have p:=h.std m o i;exact⟨p.may,p.fit,lD p.num s,p.acc⟩
  ·exact⟨C,z,B,r⟩
 ·by_cases c:m=n
  ·subst c;show(((S.bk m).all++eR S.bd m _ m).map (·.num)).Nodup;rw[cQ,<-ag,aK,dg];refine⟨h.nd m,by simp,λa E b w=>?_⟩;obtain⟨o,g,rfl⟩:=aD.1 E;rw[aH,ed,bX]at w;rw[w];exact q m o g
  ·show(((S.bk m).all++eR S.bd n _ m).map (·.num)).Nodup;rw[eT _ _ _ c];exact h.nd m
 ·rcases f A o g with i|⟨rfl,rfl⟩
  ·rcases f v t l with y|⟨rfl,rfl⟩
   ·exact h.apart _ _ o t i y D
   ·grind
  ·rcases f v t l with y|⟨rfl,rfl⟩
   ·grind
   ·rfl
 ·show(eR S.bd n _ m).length<=50;by_cases c:m=n
  ·subst c;rw[cQ,ad];show(S.bd m).length+1<=50;omega
  ·rw[eT _ _ _ c];exact h.bdl m
def JM(b:a≠0)(o:Od):lv a o=kP a o:=by unfold lv kP;rw[aG b,eZ]
def Ai(a:Int)(ns:List Int)(n:Int)(o:Od):Bool:= !(ns.contains n&& kP a o)
def A6{a:Int}(h:a≠0):∀(c:List Int) (S:ba) (g:List Int),(∀n,t7 (S.bk n))->
  (c.foldl (rQ a) (g,S)).2={S with bk:=λn=>(S.bk n).flt (Ai a c n),bd:=λn=>(S.bd n).filter (Ai a c n)}
 | [],S,g,_=>by
  have p:(λn=>(S.bk n).flt (Ai a [] n))=S.bk:=by
   funext n d;unfold Bk.flt;exact cC.2 λo _=>rfl
  have l:(λn=>(S.bd n).filter (Ai a [] n))=S.bd:=by
   funext n;exact cC.2 λo _=>rfl
  rw[p,l];rfl
 |m::c,S,g,f=>by
  rw[eN];obtain⟨k,e⟩:=dW ((rQ a (g,S) m).1)
  have i:rQ a (g,S) m=(k,{S with bk:=eR S.bk m ((S.bk m).flt λo=> !kP a o),bd:=eR S.bd m ((S.bd m).filter λo=> !kP a o)}):=by
   rw[e];unfold rQ;simp only;rw[GY (f m)];congr 3;funext d;unfold Bk.flt;exact dx λo _=>by rw[JM h]
  rw[i,A6 h c]
  ·congr 1
   ·funext n d;show List.filter _ (eR S.bk m _ n d)=List.filter _ (S.bk n d);by_cases b:n=m
    ·subst b;rw[cQ];unfold Bk.flt;rw[gl];refine dx λo _=>?_;unfold Ai;cases j:kP a o<;>simp
    ·rw[eT _ _ _ b];refine dx λo _=>?_;unfold Ai;rw[lF];have:(n==m)=false:=by simpa using b
     rw[this,eZ]
   ·funext n;show List.filter _ (eR S.bd m _ n)=List.filter _ (S.bd n);by_cases b:n=m
    ·subst b;rw[cQ,gl];refine dx λo _=>?_;unfold Ai;cases j:kP a o<;>simp
    ·rw[eT _ _ _ b];refine dx λo _=>?_;unfold Ai;rw[lF];have:(n==m)=false:=by simpa using b
     rw[this,eZ]
  ·intro n;show t7 (eR S.bk m _ n);by_cases b:n=m
   ·subst b;rw[cQ];exact(f n).flt _
   ·rw[eT _ _ _ b];exact f n
def BK(h:rE S){a k:Int}(b:a≠0):(S.clear a k).2={S with bk:=λn=>(S.bk n).flt (Ai a (S.nums.filter λn=>decide (k=0\/k=n)) n),bd:=λn=>(S.bd n).filter (Ai a (S.nums.filter λn=>decide (k=0\/k=n)) n)}:=
 A6 b _ _ _ h.bkNd
def tF(h:rE S){a k:Int}(b:a≠0):(S.clear a k).2.cal=S.cal/\(S.clear a k).2.led=S.led/\(S.clear a k).2.next=S.next:=by
 rw[BK h b];exact⟨rfl,rfl,rfl⟩
def yM(h:rE S){a k:Int}(c:a≠0):rE (S.clear a k).2:=by
 rw[BK h c];exact h.mono (λn f=>.inl f) (λn d=>gA.filter (λo b=>(h.bkMay n d o b).1) _) (λn=>gA.filter (h.bdMay n) _) (λn o b e=>e) (eh _)
def AZ(h:bt S.cal.l n=0):n∈S.nums:=by
 unfold bt at h;unfold ba.nums;cases a:bU S.cal.l n with
 |none=>rw[a]at h;cases h
 |some k=>
  have b:=kZ a;exact aD.2 ⟨k,pI a,by simpa using b⟩
def rE.alive(h:rE S){n:Int}{o:Od}(a:o∈S.ords n):bt S.cal.l n=0:=by
 apply aS;intro b;rw[h.out n b]at a;cases a
def Bv(h:rE S){a:Int}(f:a≠0){n:Int}{o:Od}(c:o∈(S.clear a 0).2.ords n):o.acct≠a/\o∈S.ords n:=by
 have g:bt S.cal.l n=0:=by
  have:=(yM h (k:=0) f).alive c
  rwa[(tF h f).1]at this
 rw[BK h f]at c
 have j:(S.nums.filter λm=>decide ((0:Int)=0\/0=m)).contains n=true:=by
  rw[List.contains_eq_mem,ax,aM];exact⟨AZ g,by simp⟩
 have key:∀{l:List Od},o∈l.filter (Ai a (S.nums.filter λm=>decide ((0:Int)=0\/0=m)) n)->o∈l/\o.acct≠a:=λ{l} b=>by
  rw[aM]at b;refine⟨b.1,λe=>?_⟩;have:=b.2;unfold Ai kP at this;rw[j,aA e]at this;cases this
 rcases jN c with⟨d,i⟩|i
 ·have:=key (l:=S.bk n d) i;exact⟨this.2,g8 this.1⟩
 ·have:=key (l:=S.bd n) i;exact⟨this.2,iV this.1⟩
def vQ{l:List Ac}(h:mg l){a:Ac}(b:a∈l):l.find? (λx=>decide (x.num=a.num))=some a:=by
 induction l with
 |nil=>cases b
 |cons x l d=>
  obtain⟨e,c⟩:=bJ.1 h;rcases aq.1 b with rfl|b
  ·grind
  ·have:=e a b;rw[iq (by simp;omega)];exact d c b
def Nx{l:List Ac}(h:mg l)(a:Ac)(n:Int):(CL l a).find? (λx=>decide (x.num=n))=if n=a.num then some a else l.find? λx=>decide (x.num=n):=by
 by_cases d:n=a.num
 ·subst d;rw[ab rfl];exact vQ (si h a) (ry.2 (.inr rfl))
 ·rw[aa d];cases b:l.find? λx=>decide (x.num=n)with
  |some x=>
   have c:=dt b;have e:x.num=n:=by grind
   have:=vQ (si h a) (ry.2 (.inl ⟨c,qZ⟩));rw[e]at this;exact this
  |none=>
   rw[dS]at b|-;intro x c;rcases ry.1 c with⟨f,-⟩|rfl
   ·exact b x f
   ·simp;omega
def bq.find_putA{S:bq}(h:mg S.all){a:Ac}(b:a.num≠0)(n:Int):(S.putA a).find n=if n=a.num then some a else S.find n:=by
 unfold bq.putA bq.find;rw[aa b];exact Nx h a n
def bq.find_putA0{S:bq}{a:Ac}(b:a.num=0)(n:Int):(S.putA a).find n=S.find n:=by
 unfold bq.putA bq.find;rw[ab b]
def bq.find_ok{S:bq}(h:S.Ok){n:Int}{a:Ac}(c:S.find n=some a):a∈S.all/\a.num=n/\n≠0:=by
 obtain⟨b,d⟩:=bq.find_mem c;have:=(h.acc a b).1;exact⟨b,d,qZ⟩
def ov{S:bq}(h:n≠0):S.getO n=S.find n:=by unfold bq.getO;rw[aa h]
def bq.mem_find{S:bq}(h:S.Ok){a:Ac}(b:a∈S.all):S.find a.num=some a:=vQ h.sa b
def bq.trade_Ok{S:bq}(h:S.Ok){c b s p n:Int}(j:gM c):(S.trade c b s p n).2.Ok:=by
 unfold bq.trade;split
 ·exact h
 ·rename_i i
  split
  ·exact h
  ·rename_i d
   simp only;split
   ·exact h
   ·rename_i r
    obtain⟨G,A,w,z,y,B⟩:=h.position c b;obtain⟨D,I,E,H,F,C⟩:=h.position c s;simp only[lC]at i d r;obtain⟨l,q,m,k,hp,u⟩:=i;have g:aY p 1 MP=true:=by simpa using hp
    have e:aY n 1 MP=true:=by simpa using u
    rw[eL]at g e;have v:0<=p*n:=jg qZ qZ
    have fnd:∀x,S.find x≠none->∃a∈S.all,a.num=x:=λx t=>by
     cases f:S.find x with
     |none=>exact absurd f t
     |some a=>exact⟨a,(bq.find_mem f).1,(bq.find_mem f).2⟩
    have o:=h.putP (p:=⟨c,b,(S.position c b).q+n,(S.position c b).b+p*n⟩) ⟨by show 0<c;omega,j.2⟩ ⟨by grind,by grind⟩ ⟨by grind,by grind⟩ (fnd b d.1);exact o.putP (p:=⟨c,s,(S.position c s).q - n,(S.position c s).b - p*n⟩) ⟨by show 0<c;omega,j.2⟩ ⟨by grind,by grind⟩ ⟨by grind,by grind⟩ (fnd s d.2)
def bq.set_cases(S:bq)(a:Ac):(S.set a).2=S/\(S.set a).1≠0\/((S.set a)=(0,S.putA a)/\0<=a.cash/\a.cash<=MF/\S.getO a.num≠none/\(a.num=0->a.kil=false/\a.dfl=false)):=by
 unfold bq.set;split
 ·grind
 ·rename_i b
  split
  ·grind
  ·rename_i d
   simp only[lC,not_and]at b;have c:aY a.cash 0 MF=true:=by simpa using b.1
   rw[eL]at c;refine .inr ⟨rfl,c.1,c.2,d,λe=>?_⟩;have:=b.2 e;exact⟨by simpa using this.1,by simpa using this.2⟩
def bq.set_Ok{S:bq}(h:S.Ok){a:Ac}(g:gM a.num):(S.set a).2.Ok:=by
 rcases bq.set_cases S a with⟨b,-⟩|⟨b,e,f,c,i⟩
 ·rw[b];exact h
 ·rw[b];apply h.putA g ⟨e,f⟩;by_cases d:a.num=0
  ·exact .inr (.inr d)
  ·rw[ov d]at c;exact .inl c
def bq.deposit_cases{S:bq}{m:Int}:(S.deposit n m).2=S/\(S.deposit n m).1≠0\/∃a:Ac,S.deposit n m=(0,S.putA a)/\a.num=n/\a={(S.getO n).getD ⟨0,0,false,false⟩with num:=n,cash:=((S.getO n).getD ⟨0,0,false,false⟩).cash+m}/\1<=m/\m<=MF/\S.funds+m<=MF/\¬(S.getO n=none/\64<=S.all.length):=by
 unfold bq.deposit;split
 ·rename_i b
  rw[eL]at b;split
  ·grind
  ·rename_i c
   split
   ·grind
   ·grind
 ·grind
def bq.deposit_Ok{S:bq}(h:S.Ok){n m:Int}(j:gM n):(S.deposit n m).2.Ok:=by
 rcases bq.deposit_cases (S:=S) (n:=n) (m:=m)with⟨e,-⟩|⟨a,e,f,d,k,l,r,i⟩
 ·rw[e];exact h
 ·rw[e]
  have b:0<=a.cash/\a.cash<=MF:=by
   cases c:S.getO n with
   |none=>
    rw[c]at d;rw[d];show 0<=0+m/\0+m<=MF;omega
   |some x=>
    have o:=h.cash_le c;have p:=(h.getO c).2.2.2.1;rw[c]at d;rw[d];show 0<=x.cash+m/\x.cash+m<=MF;omega
  apply h.putA (by rw[f];exact j) b;by_cases g:n=0
  ·grind
  ·rw[ov g]at i;by_cases q:S.find n=none
   ·grind
   ·grind
def bq.withdraw_cases{S:bq}{m:Int}:(S.withdraw n m).2=S/\(S.withdraw n m).1≠0\/∃a,S.find n=some a/\S.withdraw n m=(0,S.putA {a with cash:=a.cash - m})/\n≠0/\1<=m/\m<=a.cash:=by
 unfold bq.withdraw;split
 ·grind
 ·rename_i b
  simp only[lC]at b;have c:aY m 1 MF=true:=by simpa using b.2
  rw[eL]at c;cases d:S.find n with
  |none=>exact .inl ⟨rfl,by simp⟩
  |some a=>
   simp only;split
   ·grind
   ·grind
def bq.withdraw_Ok{S:bq}(h:S.Ok){n m:Int}:(S.withdraw n m).2.Ok:=by
 rcases bq.withdraw_cases (S:=S) (n:=n) (m:=m)with⟨b,-⟩|⟨a,b,d,i,f,g⟩
 ·rw[b];exact h
 ·rw[d];obtain⟨c,e,-⟩:=bq.find_ok h b;have:=h.acc a c;refine h.putA ⟨by grind,this.2.1⟩ ⟨by grind,by grind⟩ (.inl ?_);show S.find a.num≠none;rw[e,b];simp
def bq.mark_Ok{S:bq}(h:S.Ok){c price:Int}{cl:Bool}:(S.mark c price cl).2.2.Ok:=by
 unfold bq.mark;split
 ·exact h
 ·rename_i a
  simp only[lC]at a;have hp:aY price 1 MP=true:=by simpa using a.2
  rw[eL]at hp;exact Oa h hp cl _ _ (λp hp=>(aM.1 hp).1) h rfl
def bq.mark_all{S:bq}:(S.mark c price cl).2.2.all=S.all/\(S.mark c price cl).2.2.fund=S.fund:=by
 unfold bq.mark;split
 ·exact⟨rfl,rfl⟩
 ·exact AO
def tA{S:bq}(h:S'.all=S.all)(n:Int):S'.Stands n↔S.Stands n:=by
 unfold bq.Stands bq.find;rw[h]
def wg{S:bq}(h:S.Ok){a:Ac}{n:Int}(hs:S.Stands n)(g:a.num=n->a.kil=false/\a.dfl=false):(S.set a).2.Stands n:=by
 rcases bq.set_cases S a with⟨b,-⟩|⟨b,i,l,j,k⟩
 ·rw[b];exact hs
 ·rw[b];obtain⟨x,f,e,d⟩:=hs;by_cases c:a.num=0
  ·exact⟨x,by rw[bq.find_putA0 c];exact f,e,d⟩
  ·unfold bq.Stands;rw[bq.find_putA h.sa c];by_cases m:n=a.num
   ·grind
   ·grind
def zT{S:bq}(h:S.Ok){a:Ac}{n:Int}(hs:S.Stands n)(f:a.num=n->∃x,S.find n=some x/\a.kil=x.kil/\a.dfl=x.dfl):(S.putA a).Stands n:=by
 obtain⟨x,e,d,c⟩:=hs;by_cases b:a.num=0
 ·exact⟨x,by rw[bq.find_putA0 b];exact e,d,c⟩
 ·unfold bq.Stands;rw[bq.find_putA h.sa b];by_cases g:n=a.num
  ·grind
  ·grind
def Bl{S:bq}(h:S.Ok){n m k:Int}(hs:S.Stands k):(S.deposit n m).2.Stands k:=by
 rcases bq.deposit_cases (S:=S) (n:=n) (m:=m)with⟨c,-⟩|⟨a,c,g,d,l,p,q,o⟩
 ·rw[c];exact hs
 ·rw[c];refine zT h hs λj=>?_;obtain⟨x,f,-,-⟩:=hs;have b:=(bq.find_ok h f).2.2;have e:n=k:=g.symm.trans j;have i:S.getO n=some x:=by rw[e,ov b,f]
  rw[i]at d;exact⟨x,f,by rw[d];rfl,by rw[d];rfl⟩
def Ap{S:bq}(h:S.Ok){n m k:Int}(hs:S.Stands k):(S.withdraw n m).2.Stands k:=by
 rcases bq.withdraw_cases (S:=S) (n:=n) (m:=m)with⟨b,-⟩|⟨a,b,d,i,f,g⟩
 ·rw[b];exact hs
 ·rw[d];have e:=(bq.find_ok h b).2.1;refine zT h hs λc=>⟨a,?_,rfl,rfl⟩
  have:n=k:=e.symm.trans c;rw[<-this];exact b
def GT{S:bq}{p:Po}(h:x∈(S.putP p).held):x∈S.held\/x=p:=by
 unfold bq.putP at h;exact(rg.1 h).imp (·.1) (·.1)
def vS{S:bq}{b s p:Int}(h:x∈(S.trade c b s p n).2.held):x∈S.held\/(x.c=c/\(S.trade c b s p n).1=0):=by
 unfold bq.trade at h|-;split
 ·grind
 ·rename_i e
  rw[aa e]at h;split
  ·grind
  ·rename_i a
   rw[aa a]at h;simp only at h|-;split
   ·grind
   ·rename_i g
    rw[aa g]at h;rcases GT h with d|rfl
    ·rcases GT d with f|rfl
     ·exact .inl f
     ·grind
    ·grind
def zv{price:Int}{cl:Bool}:∀{l:List Po} {S:bq} {x:Po},x∈(S.marked l price cl).held->(x∈S.held/\∀p∈l,x.key≠p.key\/x.isZ=false)\/∃p∈l,x=p.mark price cl/\x.isZ=false
 | [],S,x,h=>.inl ⟨h,by simp⟩
 |p::l,S,x,h=>by
  have e:S.marked (p::l) price cl=(S.putP (p.mark price cl)).marked l price cl:=rfl;rw[e]at h;rcases zv h with⟨d,c⟩|⟨q,a,c⟩
  ·unfold bq.putP at d;rcases rg.1 d with⟨f,b⟩|⟨f,b⟩
   ·refine .inl ⟨f,λq a=>?_⟩;rcases aq.1 a with rfl|a
    ·rw[PV]at b;exact .inl b
    ·exact c q a
   ·grind
  ·grind
def yo{S:bq}(h:x∈(S.mark c price cl).2.2.held):∃p∈S.held,p.c=x.c:=by
 unfold bq.mark at h;split at h
 ·exact⟨x,h,rfl⟩
 ·rcases zv h with⟨a,-⟩|⟨p,hp,a,-⟩
  ·exact⟨x,a,rfl⟩
  ·exact⟨p,(aM.1 hp).1,by rw[a];exact(qX p price cl).1.symm⟩
def wj{S:bq}(a:S.Ok)(h:S.Zero)(c b s p n:Int):(S.trade c b s p n).2.Zero:=by
 intro k;have:=bq.trade_sum a (c:=c) (b:=b) (s:=s) (p:=p) (n:=n) k;rw[this.1,this.2];exact h k
def DP{S:bq}(a:S.Ok)(h:S.Zero)(c price:Int)(cl:Bool):(S.mark c price cl).2.2.Zero:=by
 unfold bq.mark;split
 ·exact h
 ·exact h.mark a c price cl
def oG(S:bq)(a:Ac):(S.set a).2.held=S.held:=by
 rcases bq.set_cases S a with⟨b,-⟩|⟨b,-⟩
 ·rw[b]
 ·rw[b];exact bq.putA_held _ _
def sD{S:bq}(h:S'.held=S.held)(a:S.Zero):S'.Zero:=λc=>by rw[h];exact a c
def Az{α:Type}(f:Int->α)(n:Int)(x y:α):eR (eR f n x) n y=eR f n y:=by
 funext m;unfold eR;split<;>rfl
def Iz{α:Type}(f:Int->α)(n:Int):eR f n (f n)=f:=by
 funext m;unfold eR;split
 ·rename_i h;rw[h]
 ·rfl
def ba.Ok.setLed(h:S.Ok){L:bq}(e:L.Ok)(g:L.Zero)(hs:∀n o,o∈S.ords n->S.led.Stands o.acct->L.Stands o.acct)(c:∀p∈L.held,bt S.cal.l p.c=0)(b:L.funds<=MF):({S with led:=L}:ba).Ok:=
 ⟨h.cal,⟨e,c,g⟩,h.ord.mono (λn f=>.inl f) (λn d=>gA.refl λo a=>(h.ord.bkMay n d o a).1) (λn=>gA.refl (h.ord.bdMay n)) (λn o a=>hs n o a) (eh _),h.next,b⟩
def D5{n:Int}{o:Od}(f:gM n):∀(l:List Td) {L:bq},L.Ok->L.Zero->(oK n o l L).2.Ok/\(oK n o l L).2.Zero/\((oK n o l L).2.all=L.all/\(oK n o l L).2.fund=L.fund)/\∀p∈(oK n o l L).2.held,p∈L.held\/p.c=n
 | [],L,b,c=>⟨b,c,⟨rfl,rfl⟩,λp hp=>.inl hp⟩
 |t::l,L,b,c=>by
  unfold oK;simp only;obtain⟨X,a⟩:=dW (L.trade n (if o.buy=true then o.acct else t.acct) (if o.buy=true then t.acct else o.acct) t.price t.qty);have j:X.2.Ok:=by rw[a];exact bq.trade_Ok b f
  have g:X.2.Zero:=by rw[a];exact wj b c _ _ _ _ _
  have e:X.2.all=L.all/\X.2.fund=L.fund:=by rw[a];exact bq.trade_all
  have i:∀p∈X.2.held,p∈L.held\/p.c=n:=by rw[a];exact λp hp=>(vS hp).imp id (·.1)
  rw[<-a];split
  ·grind
  ·obtain⟨m,h,d,k⟩:=D5 f l j g;exact⟨m,h,⟨d.1.trans e.1,d.2.trans e.2⟩,λp hp=>(k p hp).elim (i p) .inr⟩
def BU(S:ba)(n:Int)(o:Od)(p:Pm):(S.traded n o p).2.2={S with led:=(oK n o p.trades S.led).2}:=by
 unfold ba.traded;simp only;split<;>rfl
def yH(h:S.Ok){n:Int}(j:gM n)(a:bt S.cal.l n=0)(o:Od)(p:Pm):(S.traded n o p).2.2.Ok:=by
 rw[BU];obtain⟨g,e,c,f⟩:=D5 j (o:=o) p.trades h.led.led h.led.zero;refine h.setLed g e (λn o _ i=>(tA c.1 _).2 i) (λq d=>?_) (by rw[bq.funds_of c];exact h.fnd);rcases f q d with b|b
 ·exact h.led.held q b
 ·rw[b];exact a
def pl{l:List Ct}(h:bt l n=0):∃k,bU l n=some k/\k.st≠3/\k.spec.num=n/\k∈l:=by
 unfold bt at h;cases a:bU l n with
 |none=>rw[a]at h;cases h
 |some k=>
  rw[a]at h;refine⟨k,rfl,λb=>?_,by simpa using kZ a,pI a⟩;simp only at h;rw[ab b]at h;cases h
def NL{l:List Ct}{k:Ct}(h:bU l n=some k)(a:k.st≠3):bt l n=0:=by
 unfold bt;rw[h];exact aa a
def NQ{s:Sp}{q:Int}(h:s.isQty q=true):1<=q/\q<=1000000:=by
 unfold Sp.isQty at h;simp only[ah]at h;exact eL.1 h.2.1
structure Tg(S:ba)(a n:Int)(buy:Bool)(price qty:Int)(w:Od):Prop where
 stands:S.led.Stands a
 alive:bt S.cal.l n=0
 opn:∃k,bU S.cal.l n=some k/\k.st=1/\k.spec.isPrice price=true/\(Gt.mk k (S.acc a) (S.led.position n a).q ((S.opn n a).1 - (if w.buy then w.left else 0)) ((S.opn n a).2 - (if w.buy then 0 else w.left)) buy price qty).far=false
 price:1<=price/\price<=10000000
 qty:1<=qty/\qty<=1000000
def xY{buy:Bool}{qty:Int}{w:Od}(r:a≠0)(h:S.pass a n buy price qty w=0):Tg S a n buy price qty w:=by
 unfold ba.pass at h;by_cases o:S.led.getO a=none
 ·grind
 rw[aa o]at h;by_cases e:(dw S.cal.l n).2≠0
 ·grind
 rw[aa e]at h;unfold dw at h e;cases f:bU S.cal.l n with
 |none=>rw[f]at e;exact absurd (by simp) e
 |some k=>
  rw[f]at h;simp only at h;obtain⟨g,b⟩:=dW (Gt.mk k (S.acc a) (S.led.position n a).q ((S.opn n a).1 - (if w.buy then w.left else 0)) ((S.opn n a).2 - (if w.buy then 0 else w.left)) buy price qty);rw[<-b]at h;have u:g.k=k:=by rw[b]
  have s:g.a=S.acc a:=by rw[b]
  have v:g.price=price:=by rw[b]
  have y:g.qty=qty:=by rw[b]
  unfold Gt.check at h;by_cases j:g.a.dfl=true
  ·grind
  rw[aa j]at h;by_cases l:g.a.kil=true
  ·grind
  rw[aa l]at h;by_cases q:g.k.st=3
  ·grind
  rw[aa q]at h;by_cases z:g.k.st=2
  ·grind
  rw[aa z]at h;split at h
  ·cases h
  rename_i t
  by_cases m:¬g.k.spec.isQty g.qty=true
  ·grind
  rw[aa m]at h;by_cases i:¬g.k.spec.isPrice g.price=true
  ·grind
  rw[aa i]at h;split at h
  ·cases h
  by_cases B:g.far=true
  ·grind
  have d:g.k.st=1:=by
   apply aS;intro A;exact t (.inl A)
  rw[u]at q d m i;rw[v]at i;rw[y]at m;rw[s]at j l;have c:k.spec.isPrice price=true:=by simpa using i
  refine⟨?_,NL f q,⟨k,f,d,c,by grind⟩,uH c,NQ (by simpa using m)⟩;rw[ov r]at o;cases p:S.led.find a with
  |none=>exact absurd p o
  |some x=>
   have:S.acc a=x:=by unfold ba.acc;rw[ov r,p];rfl
   rw[this]at j l;exact⟨x,p,by simpa using l,by simpa using j⟩
def pX{c:Cm}(b:c.acct≠0)(h:(S.order c).1=0):Tg S c.acct c.ct c.buy c.price c.qty ou/\S.next<=ll/\S.order c=(0,c.od S.next,{S with next:=S.next+1}):=by
 unfold ba.order at h|-;simp only at h|-;by_cases a:S.pass c.acct c.ct c.buy c.price c.qty ou≠0
 ·grind
 rw[aa a]at h|-;by_cases d:ll<S.next
 ·grind
 rw[aa d];exact⟨xY b (by simpa using a),qZ,rfl⟩
def EO{c:Cm}(b:c.acct≠0)(d:n≠0)(hp:1<=c.price/\c.price<=10000000)(a:1<=c.qty/\c.qty<=1000000):(c.od n).may=true:=by
 unfold Od.may Cm.od MP;simp only[ah,ax,eL];exact⟨⟨⟨d,b⟩,hp⟩,a⟩
def Bz{c:Cm}(e:c.Fit){n:Int}(f:sB n):(c.od n).Fit:=by
 obtain⟨i,d,l,h,k,g,j,b,a⟩:=e;exact⟨f,d,b,a⟩
def tz(h:rE S):∀m,∀o∈S.ords m,o.num≠S.next:=λm o a b=>by
 have:=(h.std m o a).num;omega
def Qn(h:o.Fit){x:Int}(a:0<=x/\x<=1000000):({o with left:=x}:Od).Fit:=⟨h.1,h.2.1,h.2.2.1,by grind⟩
def tD(h:rE S){n:Int}{o:Od}{rests:Bool}{nx:Int}(d:bt S.cal.l n=0)(e:o.may=true)(i:o.Fit)(j:o.num<nx)(b:S.led.Stands o.acct)(a:∀m,∀y∈S.ords m,y.num≠o.num)(c:S.next<=nx):
  rE {S with bk:=eR S.bk n (eP (S.bk n) o rests).1,next:=nx}:=by
 have f:=xP (B:=S.bk n) (o:=o) (rests:=rests) (h.bkMay n) e;have r:=jm e;rcases f.own with g|⟨g,k,l,q⟩
 ·exact h.addBk d e i j b a f.opp (.inl g) c
 ·have p:=f.fill;refine h.addBk (x:={o with left:=(eP (S.bk n) o rests).2.left}) d (Au (o:=o) rfl e ⟨g,?_⟩) (Qn i ?_) j b a f.opp (.inr ⟨?_,l⟩) c
  ·grind
  ·omega
  ·show List.Perm ((eP (S.bk n) o rests).1 o.buy) _;rw[k];exact nP _ _ _
def AL{B:Bk}{k:Int}(h:(cE B o k).1=0):cE B o k=(0,eP B o (decide (k=1\/k=4)))/\o.may=true/\1<=k/\k<=4:=by
 unfold cE at h|-;split at h
 ·cases h
 ·rename_i c
  rw[aa c];split at h
  ·cases h
  ·rename_i a
   rw[aa a];split at h
   ·cases h
   ·rename_i d
    rw[aa d];split at h
    ·cases h
    ·rename_i b
     rw[aa b];split at h
     ·cases h
     ·grind
def mN(h:S.cal.Ok){n:Int}(a:bt S.cal.l n=0):gM n:=by
 obtain⟨k,e,d,c,b⟩:=pl a;have:=(h.ok k b).1.1.1;rw[c]at this;exact this
def Sa(h:S.Ok){c:Cm}(l:c.Fit)(d:c.acct≠0)(a:(S.place c).1=0):(S.place c).2.2.Ok:=by
 unfold ba.place at a|-;simp only at a|-;by_cases f:(S.order c).1≠0
 ·grind
 rw[aa f]at a|-;obtain⟨hp,m,g⟩:=pX d (by simpa using f);rw[g]at a|-;simp only at a|-;by_cases b:(cE (S.bk c.ct) (c.od S.next) c.ty).1≠0
 ·grind
 rw[aa b]at a|-;obtain⟨e,-⟩:=AL (by simpa using b:(cE (S.bk c.ct) (c.od S.next) c.ty).1=0);have i:=h.next
 have k:=tD h.ord (n:=c.ct) (o:=c.od S.next) (rests:=decide (c.ty=1\/c.ty=4)) (nx:=S.next+1) hp.alive (EO d qZ hp.price hp.qty) (Bz l ⟨qZ,by unfold ll at m;omega⟩)
  (by show S.next<_;omega) hp.stands (tz h.ord) qZ
 have j:({S with bk:=eR S.bk c.ct (eP (S.bk c.ct) (c.od S.next) (decide (c.ty=1\/c.ty=4))).1,next:=S.next+1}:ba).Ok:=⟨h.cal,h.led,k,⟨by grind,by grind⟩,h.fnd⟩
 rw[e]at a|-;exact yH j (mN h.cal hp.alive) hp.alive _ _
def Y7(h:S.Ok){c:Cm}(j:c.Fit)(b:c.acct≠0)(a:(S.bid c).1=0):(S.bid c).2.2.Ok:=by
 unfold ba.bid at a|-;simp only at a|-;by_cases d:(S.order c).1≠0
 ·grind
 rw[aa d]at a|-;obtain⟨hp,k,e⟩:=pX b (by simpa using d);rw[e]at a|-;simp only at a|-;have f:=h.next;by_cases g:50<=(S.bd c.ct).length
 ·grind
 rw[aa g]
 have i:=h.ord.addBd (n:=c.ct) (x:=c.od S.next) (nx:=S.next+1) hp.alive (EO b qZ hp.price hp.qty) (Bz j ⟨qZ,by unfold ll at k;omega⟩)
  (by show S.next<_;omega) hp.stands (tz h.ord) qZ qZ
 exact⟨h.cal,h.led,i,⟨by grind,by grind⟩,h.fnd⟩
def pN{num:Int}(h:S.find a num=some (o,n)):n∈S.nums/\o.acct=a/\o.num=num/\∃d,o∈S.bk n d/\(S.bk n).find num=some (o,d):=by
 unfold ba.find at h;obtain⟨m,e,b⟩:=List.exists_of_findSome?_eq_some h;unfold uy at b;cases c:(S.bk m).find num with
 |none=>rw[c]at b;cases b
 |some x=>
  obtain⟨y,d⟩:=x;rw[c]at b;simp only at b;split at b
  ·rename_i f
   cases b;have:=xg c;exact⟨e,f,this.2,d,this.1,c⟩
  ·cases b
def Y3(h:rE S){n:Int}{B:Bk}(c:∀d,gA (B d) (S.bk n d)):rE {S with bk:=eR S.bk n B}:=by
 refine h.mono (λn f=>.inl f) (λm d=>?_) (λm=>gA.refl (h.bdMay m)) (λ_ _ _ e=>e) (eh _);show gA (eR S.bk n B m d) _;by_cases a:m=n
 ·subst a;rw[cQ];exact c d
 ·rw[eT _ _ _ a];exact gA.refl λo b=>(h.bkMay m d o b).1
def YA(h:rE S){n:Int}{B:List Od}(c:gA B (S.bd n)):rE {S with bd:=eR S.bd n B}:=by
 refine h.mono (λn f=>.inl f) (λm d=>gA.refl λo b=>(h.bkMay m d o b).1) (λm=>?_) (λ_ _ _ e=>e) (eh _);show gA (eR S.bd n B m) _;by_cases a:m=n
 ·subst a;rw[cQ];exact c
 ·rw[eT _ _ _ a];exact gA.refl (h.bdMay m)
def ba.Ok.setBk(h:S.Ok){n:Int}{B:Bk}(a:∀d,gA (B d) (S.bk n d)):({S with bk:=eR S.bk n B}:ba).Ok:=⟨h.cal,h.led,Y3 h.ord a,h.next,h.fnd⟩
def ba.Ok.setBd(h:S.Ok){n:Int}{B:List Od}(a:gA B (S.bd n)):({S with bd:=eR S.bd n B}:ba).Ok:=⟨h.cal,h.led,YA h.ord a,h.next,h.fnd⟩
def L2{B:Bk}(h:Cd B)(p:Od->Bool):∀d,gA (B.flt p d) (B d):=λd=>gA.filter (λo a=>(h d o a).1) p
def NI(h:S.Ok){c:Cm}:(S.cancel c).2.2.Ok:=by
 unfold ba.cancel;cases a:S.find c.acct c.num with
 |some x=>
  obtain⟨o,n⟩:=x;obtain⟨g,e,j,d,f,b⟩:=pN a;simp only;rw[wi (h.ord.bkNd n) b];exact h.setBk (L2 (h.ord.bkMay n) _)
 |none=>
  simp only;cases k:S.nums.findSome? (uD S.bd c.acct c.num)with
  |none=>exact h
  |some x=>
   obtain⟨i,n⟩:=x;exact h.setBd (gA.of_sub (eO _ _) (h.ord.bdMay n))
def zN(h:S.Ok){c:Cm}(P:c.Fit)(L:c.acct≠0){o:Od}{n:Int}(C:S.find c.acct c.num=some (o,n))(I:S.pass c.acct n o.buy c.price c.qty o=0)(b:(co (S.bk n) c.num c.price c.qty).1=0):
  ({S with bk:=eR S.bk n (co (S.bk n) c.num c.price c.qty).2.1}:ba).Ok:=by
  obtain⟨N,M,F,d,t,u⟩:=pN C;have hp:=xY L I;have g:=h.ord.std n o (g8 t);unfold co at b|-;rw[u]at b|-;simp only at b|-;obtain⟨O,E⟩:=dW ({o with price:=c.price,left:=c.qty}:Od);by_cases w:({o with price:=c.price,left:=c.qty}:Od).may=false
  ·grind
  rw[aa w]at b|-;have s:({o with price:=c.price,left:=c.qty}:Od).may=true:=by simpa using w
  by_cases z:c.price=o.price/\c.qty<=o.left
  ·rw[ab z]at b|-;refine h.setBk λe=>?_;show gA (Bk.set _ _ _ e) _;by_cases r:e=d
   ·subst r;rw[Bk.set_self];unfold qs at b|-;cases G:(S.bk n e).findIdx? λx=>decide (x.num=c.num)with
    |none=>exact gA.refl λo p=>(h.ord.bkMay n e o p).1
    |some i=>
     obtain⟨q,-⟩:=bg.1 G;simp only;rw[ao q];simp only;split
     ·grind
     ·exact gA.set (λo p=>(h.ord.bkMay n e o p).1) q hp.qty
   ·rw[Bk.set_ne _ _ r];exact gA.refl λo p=>(h.ord.bkMay n e o p).1
  ·rw[aa z]at b|-;simp only
   have J:(S.bk n).set d (oB (S.bk n d) c.num)=(S.bk n).flt λo=>decide (o.num≠c.num):=by
    have:=wi (h.ord.bkNd n) u;unfold eY at this;rw[u]at this;exact this
   rw[J];have D:=h.setBk (L2 (h.ord.bkMay n) λo=>decide (o.num≠c.num))
   have v:=tD D.ord (n:=n) (o:={o with price:=c.price,left:=c.qty}) (rests:=true) (nx:=S.next) hp.alive s ⟨g.fit.1,g.fit.2.1,by constructor<;>show _<;>simp only<;>have:=hp.price<;>omega,by constructor<;>show _<;>simp only<;>have:=hp.qty<;>omega⟩
    (by show o.num<_;exact g.num) g.acc (λm y A H=>?_) (eh _)
   ·have B:eR (eR S.bk n ((S.bk n).flt λo=>decide (o.num≠c.num))) n (eP (eR S.bk n ((S.bk n).flt λo=>decide (o.num≠c.num)) n) {o with price:=c.price,left:=c.qty} true).1=eR S.bk n (eP ((S.bk n).flt λo=>decide (o.num≠c.num)) {o with price:=c.price,left:=c.qty} true).1:=by
     rw[cQ,Az]
    simp only at v;rw[B]at v;exact⟨h.cal,h.led,v,h.next,h.fnd⟩
   ·have k:y.num=o.num:=H
    have l:y∈S.ords m/\(m=n->∀d,y∈S.bk n d->y.num≠c.num):=by
     by_cases j:m=n
     ·subst j;rcases jN A with⟨e,a⟩|a
      ·replace a:y∈eR S.bk m ((S.bk m).flt λo=>decide (o.num≠c.num)) m e:=a;rw[cQ]at a;unfold Bk.flt at a;rw[aM,ax]at a;exact absurd (k.trans F) a.2
      ·refine⟨iV a,λ_ e K=>?_⟩;have f:=h.ord.nd m;unfold ba.ords at f;rw[aK,dg]at f;exact absurd rfl (f.2.2 _ (aV (qF.2 ⟨e,K⟩)) _ (aV a))
     ·refine⟨?_,λh=>absurd h j⟩
      have:({S with bk:=eR S.bk n ((S.bk n).flt λo=>decide (o.num≠c.num))}:ba).ords m=S.ords m:=by
       show(eR S.bk n _ m).all++_=_;rw[eT _ _ _ j];rfl
      rwa[this]at A
    have j:=h.ord.apart m n y o l.1 (g8 t) k;subst j;rcases jN l.1 with⟨e,a⟩|a
    ·grind
    ·have f:=h.ord.nd m;unfold ba.ords at f;rw[aK,dg]at f;exact absurd k.symm (f.2.2 _ (aV (qF.2 ⟨d,t⟩)) _ (aV a))
def Jz(h:S.Ok){c:Cm}(j:c.Fit)(i:c.acct≠0)(a:(S.replace c).1=0):(S.replace c).2.2.Ok:=by
 unfold ba.replace at a|-;cases b:S.find c.acct c.num with
 |none=>rw[b]at a;cases a
 |some x=>
  obtain⟨o,n⟩:=x;obtain⟨m,k,q,d,l,p⟩:=pN b;rw[b]at a;simp only at a|-;by_cases f:S.pass c.acct n o.buy c.price c.qty o≠0
  ·grind
  rw[aa f]at a|-;have hp:=xY i (by simpa using f:S.pass c.acct n o.buy c.price c.qty o=0);by_cases g:(co (S.bk n) c.num c.price c.qty).1≠0
  ·grind
  rw[aa g]at a|-;have e:(co (S.bk n) c.num c.price c.qty).1=0:=by simpa using g
  exact yH (zN h j i b (by simpa using f) e) (mN h.cal hp.alive) hp.alive _ _
def Ja(h:S.Ok){n m:Int}(f:gM n):({S with led:=(S.led.deposit n m).2}:ba).Ok:=by
 have b:=h.led.led;apply h.setLed (bq.deposit_Ok b f) (sD (bq.deposit_held _ _ _) h.led.zero) (λ_ o _ e=>Bl b e) (λp hp=>h.led.held p (by rw[bq.deposit_held]at hp;exact hp));rw[bq.deposit_funds b.sa];rcases bq.deposit_cases (S:=S.led) (n:=n) (m:=m)with⟨d,c⟩|⟨a,d,c,k,g,j,l,i⟩
 ·rw[aa c];have:=h.fnd;omega
 ·grind
def zj(h:S.Ok){n m:Int}:({S with led:=(S.led.withdraw n m).2}:ba).Ok:=by
 have b:=h.led.led;apply h.setLed (bq.withdraw_Ok b) (sD (bq.withdraw_held _ _ _) h.led.zero) (λ_ o _ e=>Ap b e) (λp hp=>h.led.held p (by rw[bq.withdraw_held]at hp;exact hp));rw[bq.withdraw_funds b.sa];have:=h.fnd;rcases bq.withdraw_cases (S:=S.led) (n:=n) (m:=m)with⟨d,c⟩|⟨a,d,c,i,f,g⟩
 ·rw[aa c];omega
 ·grind
def pL{l:List Ct}{f:Ct->Ct}(b:∀k∈l,(f k).spec.num=k.spec.num)(m:Int):bU (ik l n f) m=(bU l m).map λk=>if k.spec.num=n then f k else k:=by
 unfold bU ik;induction l with
 |nil=>rfl
 |cons k l c=>
  have a:(if k.spec.num=n then f k else k).spec.num=k.spec.num:=by grind
  rw[aH,iJ,iJ,a];split
  ·rfl
  ·grind
def xr{l:List Ct}{f:Ct->Ct}(b:∀k∈l,(f k).spec.num=k.spec.num)(e:∀k∈l,k.spec.num=n->((f k).st=3↔k.st=3))(m:Int):bt (ik l n f) m=bt l m:=by
 unfold bt;rw[pL b];cases c:bU l m with
 |none=>rfl
 |some k=>
  have d:=pI c;show(if(if k.spec.num=n then f k else k).st=3 then(50:Int)else 0)=if k.st=3 then 50 else 0
  by_cases a:k.spec.num=n
  ·rw[ab a];by_cases h:k.st=3
   ·grind
   ·grind
  ·rw[aa a]
def ba.Ok.setCal(h:S.Ok){C:oq}(hC:C.Ok)(b:∀n,bt C.l n=bt S.cal.l n):({S with cal:=C}:ba).Ok:=
 ⟨hC,⟨h.led.led,λp hp=>by show bt C.l _=0;rw[b];exact h.led.held p hp,h.led.zero⟩,h.ord.mono (λn e=>.inl (by grind)) (λn d=>gA.refl λo a=>(h.ord.bkMay n d o a).1) (λn=>gA.refl (h.ord.bdMay n)) (λ_ _ _ c=>c) (eh _),h.next,h.fnd⟩
def Uk(h:S.Ok)(n:Int)(on:Bool):({S with cal:=(jB S.cal n on).2}:ba).Ok:=by
 unfold jB;by_cases c:bt S.cal.l n≠0
 ·rw[ab c];exact h
 ·rw[aa c];have e:bt S.cal.l n=0:=by simpa using c
  obtain⟨k,b,p,s,t⟩:=pl e;have a:=pg (l:=S.cal.l) (n:=n) (f:=λk=>{k with st:=if on then 2 else 1}) (λk b _=>⟨AH (h.cal.ok k b) (by cases on<;>simp),rfl⟩) h.cal.ok h.cal.srt;refine h.setCal ⟨by show(ik _ _ _).length<=16;rw[a.2.2];exact h.cal.len,h.cal.day,a.1,a.2.1⟩ λm=>?_;refine xr (f:=λk=>{k with st:=if on then 2 else 1}) (λ_ _=>rfl) (λx q d=>?_) m
  have o:x.st≠3:=by
   have:bU S.cal.l n=some x:=by
    unfold bU;have:=h.cal.srt;rw[dE];obtain⟨i,g,rfl⟩:=bI q;refine⟨by simpa using d,i,g,rfl,λj r=>?_⟩;have:=bH.1 this j i qZ g r;simp;omega
   rw[b]at this;cases this;exact p
  constructor
  ·grind
  ·grind
def I6(h:S.Ok)(n price:Int):({S with cal:=(fF S.cal n price).2}:ba).Ok:=by
 unfold fF;cases g:bU S.cal.l n with
 |none=>exact h
 |some k=>
  simp only;split
  ·exact h
  ·rename_i q
   split
   ·exact h
   ·rename_i hp
    have e:k.spec.isPrice price=true:=by simpa using hp
    have c:∀x∈S.cal.l,x.spec.num=n->x=k:=λx d b=>by
     have:bU S.cal.l n=some x:=by
      unfold bU;have:=h.cal.srt;rw[dE];obtain⟨i,o,rfl⟩:=bI d;refine⟨by simpa using b,i,o,rfl,λj p=>?_⟩;have:=bH.1 this j i qZ o p;simp;omega
     rw[g]at this;cases this;rfl
    have a:=pg (l:=S.cal.l) (n:=n) (f:=λk=>{k with price:=price}) (λx d b=>⟨by rw[c x d b];exact BA (h.cal.ok k (pI g)) e,rfl⟩) h.cal.ok h.cal.srt;refine h.setCal ⟨by show(ik _ _ _).length<=16;rw[a.2.2];exact h.cal.len,h.cal.day,a.1,a.2.1⟩ λm=>?_;exact xr (f:=λk=>{k with price:=price}) (λ_ _=>rfl) (λx d b=>aI) m
def JA{l:List Ct}{p:Ct->Bool}(i:Nat)(k:Ct)(a:l.find? p=none\/p k=false):(l.take i++k::l.drop i).find? p=if p k=true then some k else l.find? p:=by
 rw[List.find?_append,iJ];cases hp:p k with
 |true=>
  rcases a with a|a
  ·grind
  ·rw[hp]at a;cases a
 |false=>
  simp only[bE,dB];rw[<-List.find?_append,ce]
def vW{l:List Ct}{k:Ct}(a:bU l k.spec.num=none)(i:Nat)(m:Int):bU (l.take i++k::l.drop i) m=if k.spec.num=m then some k else bU l m:=by
 unfold bU at*;rw[JA]
 ·simp
 ·by_cases h:k.spec.num=m
  ·subst h;exact .inl a
  ·grind
def Tx(h:S.Ok){s:Sp}(hs:s.Fit)(c:(fy S.cal s).1=0):({S with cal:=(fy S.cal s).2,bk:=eR S.bk s.num Bk.empty}:ba).Ok:=by
 unfold fy at c|-;by_cases r:s.may=false
 ·grind
 rw[aa r]at c|-;by_cases i:(bU S.cal.l s.num).isSome=true
 ·grind
 rw[aa i]at c|-;by_cases y:s.last<S.cal.day
 ·grind
 rw[aa y]at c|-;by_cases v:16<=S.cal.l.length
 ·grind
 rw[aa v];have a:s.may=true:=by simpa using r
 have j:bU S.cal.l s.num=none:=by
  cases z:bU S.cal.l s.num with
  |none=>rfl
  |some k=>rw[z]at i;exact absurd rfl i
 have u:(l9 s).Ok:=⟨⟨hs,⟨by show(0:Int)<=1;omega,by show(1:Int)<256;omega⟩,hs.2.2.2.2.2.2.2.2.2⟩,a,Sp.may_price a,by show(1:Int)<=1;omega,by show(1:Int)<=3;omega⟩
 obtain⟨B,t,E⟩:=D3 (k:=l9 s) h.cal.srt h.cal.ok u j;have f:=vW (k:=l9 s) j (iM S.cal.l s.num)
 have e:∀d,S.bk s.num d=[]:=λd=>by
  have:=h.ord.out s.num (by unfold bt;rw[j];simp);cases D:S.bk s.num d with
  |nil=>rfl
  |cons x l=>
   have b:x∈S.ords s.num:=g8 (d:=d) (by grind);rw[this]at b;cases b
 have q:eR S.bk s.num Bk.empty=S.bk:=by
  funext m d;by_cases b:m=s.num
  ·subst b;rw[cQ,e d];rfl
  ·rw[eT _ _ _ b]
 rw[q]
 have g:∀m,bt S.cal.l m=0->bt (S.cal.l.take (iM S.cal.l s.num)++l9 s::S.cal.l.drop (iM S.cal.l s.num)) m=0:=λm b=>by
  unfold bt at b|-;rw[f];by_cases c:(l9 s).spec.num=m
  ·rw[ab c];rfl
  ·grind
 refine⟨⟨?_,h.cal.day,B,t⟩,⟨h.led.led,λp hp=>g _ (h.led.held p hp),h.led.zero⟩,h.ord.mono (λn A=>.inl λC=>A (g n C)) (λn d=>gA.refl λo w=>(h.ord.bkMay n d o w).1) (λn=>gA.refl (h.ord.bdMay n)) (λ_ _ _ hs=>hs) (eh _),h.next,h.fnd⟩;show(List.take _ _++_::List.drop _ _).length<=16;rw[ad,aR,av,bi];omega
def ba.Ok.clear(h:S.Ok){a k:Int}(c:a≠0):(S.clear a k).2.Ok:=by
 obtain⟨b,d,e⟩:=tF h.ord (k:=k) c;exact⟨by rw[b];exact h.cal,by rw[b,d];exact h.led,yM h.ord c,by rw[e];exact h.next,by rw[d];exact h.fnd⟩
def VH(h:S.led.Ok){a:Int}(c:S.led.getO a≠none):(S.acc a).num=a/\S.led.getO a=some (S.acc a):=by
 unfold ba.acc;cases b:S.led.getO a with
 |none=>exact absurd b c
 |some x=>exact⟨(h.getO b).1,rfl⟩
def bq.set_ok1{S:bq}{a:Ac}(h:(S.set a).1=0):(S.set a).2=S.putA a:=by
 rcases bq.set_cases S a with⟨-,b⟩|⟨c,-⟩
 ·exact absurd h b
 ·rw[c]
def Zd(h:S.Ok){a:Ac}(f:gM a.num)(hs:∀n o,o∈S.ords n->S.led.Stands o.acct->o.acct=a.num->a.kil=false/\a.dfl=false)(c:(S.led.set a).2.funds<=MF):({S with led:=(S.led.set a).2}:ba).Ok:=
 h.setLed (bq.set_Ok h.led.led f) (sD (oG _ _) h.led.zero) (λn o d b=>wg h.led.led b λe=>hs n o d b e.symm) (λp hp=>h.led.held p (by rw[oG]at hp;exact hp)) c
def VD(h:S.Ok){a:Int}(f:a≠0)(s:gM a)(m:S.led.getO a≠none)(on:Bool):({(if on then(S.clear a 0).2 else S)with led:=((if on then(S.clear a 0).2 else S).led.set {S.acc a with kil:=on}).2}:ba).Ok:=by
 obtain⟨b,e⟩:=VH h.led.led m
 have key:∀T:ba,T.Ok->T.led=S.led->(∀n o,o∈T.ords n->T.led.Stands o.acct->o.acct=a->on=false)->({T with led:=(T.led.set {S.acc a with kil:=on}).2}:ba).Ok:=λT p k q=>by
  refine Zd p (a:={S.acc a with kil:=on}) (by grind) (λn o i c j=>?_) ?_
  ·have d:o.acct=a:=j.trans b;refine⟨q n o i c d,?_⟩;obtain⟨x,r,-,l⟩:=c
   have:S.acc a=x:=by
    unfold ba.acc;rw[ov f,<-d,<-k,r];rfl
   show(S.acc a).dfl=false;rw[this];exact l
  ·rw[k];rcases bq.set_cases S.led {S.acc a with kil:=on}with⟨g,-⟩|⟨g,-⟩
   ·rw[g];exact h.fnd
   ·rw[g];show(S.led.putA {S.acc a with kil:=on}).funds<=MF;rw[bq.funds_putA h.led.led.sa];show S.led.funds+(S.acc a).cash - ((S.led.getO (S.acc a).num).getD _).cash<=MF;rw[b,e];have:=h.fnd;simp only[cR];omega
 cases on with
 |true=>exact key _ (h.clear f) (tF h.ord f).2.1 λn o i _ j=>absurd j (Bv h.ord f i).1
 |false=>exact key S h rfl λ_ _ _ _ _=>rfl
end Go.Proofs
