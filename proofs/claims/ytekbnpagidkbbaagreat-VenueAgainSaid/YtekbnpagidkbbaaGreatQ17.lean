/- Part of a proof. -/
import Derived.Test.YtekbnpagidkbbaaGreatQ16
set_option linter.all false
namespace Go.Proofs
open Go Go.Vc
variable {cl:Bool}{a price n c:Int}{l:List Po}{o:Od}{x:Po}{g f:Po->Int}{S' :bE}{S:bo}
def iu(g:Po->Int)(l:List Po):Int:=(l.map g).sum
def Cu{a:List Po}(h:l.Perm a):iu g l=iu g a:=ue (h.map g)
def EU{a:List Po}:iu g (l++a)=iu g l+iu g a:=by simp[iu]
def Lz(hs:kr l)(k:Int×Int):l.Perm ((l.find? λx=>decide (x.key=k)).toList++l.filter λx=>decide (x.key≠k)):=by
 induction l with
 |nil=>exact cR _
 |cons p l c=>
  have a:kr l:=(bX.1 hs).2;have hp:=(bX.1 hs).1;by_cases h:p.key=k
  ·rw[im (by simpa using h),aU (by simpa using h)];simp only[Option.toList_some,List.singleton_append];refine List.Perm.cons _ (iv ?_);symm;refine cL.2 λx b=>?_;have:=tv (hp x b);simpa using λe:x.key=k=>this (h.trans e.symm)
  ·grind
def sJ{S:bE}(hs:kr S.held){g:Po->Int}(b:∀p,p.isZ=true->g p=0)(p:Po):iu g (S.putP p).held=iu g S.held+g p - g (S.position p.c p.a):=by
 have h1:=Cu (g:=g) (xY S.held p);have a:=Cu (g:=g) (Lz hs p.key);rw[EU]at h1 a
 have c:iu g (if p.isZ=true then []else [p])=g p:=by
  cases h:p.isZ with
  |true=>simp[iu,b p h]
  |false=>simp[iu]
 have d:iu g (S.held.find? λx=>decide (x.key=p.key)).toList=g (S.position p.c p.a):=by
  unfold bE.position bE.pos?;show _=g ((S.held.find? λx=>decide (x.key=p.key)).getD _);cases S.held.find? λx=>decide (x.key=p.key)with
  |none=>simp[iu,b ⟨p.c,p.a,0,0⟩ (by simp[Po.isZ])]
  |some x=>simp[iu]
 rw[c]at h1;rw[d]at a;show iu g (HR S.held p)=_;omega
def zgq(c:Int)(p:Po):Int:=if p.c=c then p.q else 0
def Ic(c:Int)(p:Po):Int:=if p.c=c then p.b else 0
def SO(c:Int):∀p,p.isZ=true->zgq c p=0:=λp h=>by
 unfold Po.isZ at h;simp only[aX]at h;unfold zgq;split<;>simp[h]
def SJ(c:Int):∀p,p.isZ=true->Ic c p=0:=λp h=>by
 unfold Po.isZ at h;simp only[aX]at h;unfold Ic;split<;>simp[h]
def yr(S:bE)(c:Int)(f:Po->Int):iu f (S.holders c)=iu (λp=>if p.c=c then f p else 0) S.held:=by
 unfold bE.holders iu;induction S.held with
 |nil=>rfl
 |cons p l a=>
  by_cases h:p.c=c
  ·grind
  ·grind
def bE.trade_sum{S:bE}(a:S.Ok){c b s p n:Int}(k:Int):
  iu (zgq k) (S.trade c b s p n).2.held=iu (zgq k) S.held/\iu (Ic k) (S.trade c b s p n).2.held=iu (Ic k) S.held:=by
 by_cases g:(S.trade c b s p n).1=0
 ·obtain⟨e,m⟩:=bE.trade_ok g;rw[m];have d:=rX a.sp ⟨c,b,(S.position c b).q+n,(S.position c b).b+p*n⟩;obtain⟨l,o,-⟩:=a.position c b;obtain⟨i,q,-⟩:=a.position c s
  have j:(S.putP ⟨c,b,(S.position c b).q+n,(S.position c b).b+p*n⟩).position c s=S.position c s:=by
   rw[bE.position_putP a.sp];rw[aa (λh=>e h.2.symm)]
  constructor
  ·rw[sJ d (SO k),sJ a.sp (SO k)];simp only[j];unfold zgq;rw[l,i];by_cases f:c=k<;>simp[f]<;>omega
  ·rw[sJ d (SJ k),sJ a.sp (SJ k)];simp only[j];unfold Ic;rw[l,i];by_cases f:c=k<;>simp[f]<;>omega
 ·have:(S.trade c b s p n).2=S:=by
   unfold bE.trade at g|-;split
   ·rfl
   ·split
    ·rfl
    ·simp only at g|-;split
     ·rfl
     ·grind
  rw[this];exact tF
def rg(p:Po)(price:Int)(cl:Bool):(p.mark price cl).c=p.c/\(p.mark price cl).a=p.a:=by
 unfold Po.mark;cases cl<;>exact tF
def HV:∀{l:List Po} {S:bE},kr S.held->kr l->∀c a,(S.marked l price cl).position c a=match l.find? (λx=>decide (x.key=(c,a)))with|some p=>p.mark price cl|none=>S.position c a:=by
 intro l;induction l with
 |nil=>intro S b f c a;rfl
 |cons p l i=>
  intro S b f c a;have hp:=(bX.1 f).1;show((S.putP (p.mark price cl)).marked l price cl).position c a=_;rw[i (rX b _) (bX.1 f).2];by_cases h:p.key=(c,a)
  ·rw[im (by simpa using h)]
   have d:l.find? (λx=>decide (x.key=(c,a)))=none:=by
    rw[dU];intro x g;have:=tv (hp x g);simpa using λe:x.key=(c,a)=>this (h.trans e.symm)
   rw[d];simp only;rw[bE.position_putP b];simp only[Po.key,mI]at h;rw[ae ⟨by rw[(rg p price cl).1];exact h.1.symm,by rw[(rg p price cl).2];exact h.2.symm⟩]
  ·rw[io (by simpa using h)];cases l.find? λx=>decide (x.key=(c,a))with
   |some x=>rfl
   |none=>
    simp only;rw[bE.position_putP b,(rg p price cl).1,(rg p price cl).2,aa];intro e;exact h (by simp[Po.key,e.1,e.2])
def ww{S:bE}(h:kr S.held)(c:Int):kr (S.holders c):=h.filter _
def DL(S:bE)(c a k:Int):(S.holders c).find? (λx=>decide (x.key=(k,a)))=if k=c then S.pos? (c,a)else none:=by
 unfold bE.holders bE.pos?;by_cases b:k=c
 ·subst b;rw[ae rfl];induction S.held with
  |nil=>rfl
  |cons p l d=>
   by_cases h:p.c=k
   ·grind
   ·rw[aU (by simpa using h),d,io];simp[Po.key];intro e;exact absurd e h
 ·rw[aa b,dU];intro x f;have:x.c=c:=by grind
  simp[Po.key];intro e;exact absurd (e.symm.trans this) b
def bE.mark_pos{S:bE}(hs:kr S.held)(c price:Int)(cl:Bool)(k a:Int):(S.marked (S.holders c) price cl).position k a=if k=c then(S.position c a).mark price cl else S.position k a:=by
 rw[HV hs (ww hs c),DL];by_cases b:k=c
 ·subst b;rw[ae rfl,ae rfl];unfold bE.position;cases S.pos? (k,a)with
  |some p=>rfl
  |none=>
   simp only[Option.getD_none];unfold Po.mark;cases cl<;>simp
 ·grind
def tD(f:∀p,p.isZ=true->g p=0){price:Int}{cl:Bool}:∀{l:List Po} {S:bE},kr S.held->kr l->(∀p∈l,S.position p.c p.a=p)->
  iu g (S.marked l price cl).held=iu g S.held+iu (λp=>g (p.mark price cl) - g p) l:=by
 intro l;induction l with
 |nil=>intro S _ _ _;simp[iu,bE.marked]
 |cons p l h=>
  intro S b c hp;have a:=(bX.1 c).1;show iu g ((S.putP (p.mark price cl)).marked l price cl).held=_;rw[h (rX b _) (bX.1 c).2 ?_,sJ b f,(rg p price cl).1,(rg p price cl).2,hp p ai]
  ·simp only[iu,aD,bC];omega
  ·intro x d;rw[bE.position_putP b,(rg p price cl).1,(rg p price cl).2,aa,hp x (af _ d)];intro e;have:=tv (a x d);exact this (by grind)
def vB(h:∀p∈l,f p=g p):iu f l=iu g l:=by
 unfold iu;rw[dZ h]
def xx(l:List Po):iu (λ_=>0) l=0:=by
 unfold iu;induction l with
 |nil=>rfl
 |cons p l a=>simp[a]
def OL(x:Int):iu (λp=>f p*x) l=iu f l*x:=by
 unfold iu;induction l with
 |nil=>simp
 |cons p l a=>simp[a,Int.add_mul]
def FC:iu (λp=>f p - g p) l=iu f l - iu g l:=by
 unfold iu;induction l with
 |nil=>simp
 |cons p l a=>simp[a];omega
def bE.Zero(S:bE):Prop:=∀c,iu (zgq c) S.held=0/\iu (Ic c) S.held=0
def bE.Zero.holders{S:bE}(h:S.Zero)(c:Int):iu (·.q) (S.holders c)=0/\iu (·.b) (S.holders c)=0:=by
 rw[yr,yr];exact h c
def bE.holders_self{S:bE}(hs:kr S.held){c:Int}{p:Po}(hp:p∈S.holders c):S.position p.c p.a=p/\p.c=c:=by
 obtain⟨h1,a⟩:=aT.1 hp;refine⟨?_,by simpa using a⟩;unfold bE.position;rw[show(p.c,p.a)=p.key from rfl,bE.pos_some hs h1];rfl
def bE.Zero.mark{S:bE}(a:S.Ok)(h:S.Zero)(c price:Int)(cl:Bool):(S.marked (S.holders c) price cl).Zero:=by
 intro k;have j:=ww a.sp c;have b:=λp (hp:p∈S.holders c)=>(bE.holders_self a.sp hp).1;obtain⟨l,n⟩:=h.holders c;by_cases m:k=c
 ·subst m;constructor
  ·rw[tD (SO k) a.sp j b,(h k).1]
   have:iu (λp=>zgq k (p.mark price cl) - zgq k p) (S.holders k)=iu (λp=>(if cl then 0 else p.q) - p.q) (S.holders k):=vB λp hp=>by
    have i:=(bE.holders_self a.sp hp).2;unfold zgq Po.mark;cases cl<;>simp[i]
   rw[this,FC,l];cases cl with
   |true=>simp only[cZ];rw[xx];rfl
   |false=>simp only[bj,da];rw[l];rfl
  ·rw[tD (SJ k) a.sp j b,(h k).2]
   have:iu (λp=>Ic k (p.mark price cl) - Ic k p) (S.holders k)=iu (λp=>(if cl then 0 else p.q*price) - p.b) (S.holders k):=vB λp hp=>by
    have i:=(bE.holders_self a.sp hp).2;unfold Ic Po.mark;cases cl<;>simp[i]
   rw[this,FC,n];cases cl with
   |true=>simp only[cZ];rw[xx];rfl
   |false=>
    simp only[bj,da];rw[OL (f:=λp=>p.q),l];simp
 ·have e:∀(g:Int->Po->Int),(g=zgq\/g=Ic)->iu (λp=>g k (p.mark price cl) - g k p) (S.holders c)=0:=λg o=>by
   have:iu (λp=>g k (p.mark price cl) - g k p) (S.holders c)=iu (λ_=>0) (S.holders c):=vB λp hp=>by
    have i:=(bE.holders_self a.sp hp).2;have d:¬p.c=k:=λe=>m (e.symm.trans i);rcases o with rfl|rfl
    ·unfold zgq;rw[(rg p price cl).1,aa d,aa d];rfl
    ·unfold Ic;rw[(rg p price cl).1,aa d,aa d];rfl
   rw[this];exact xx _
  constructor
  ·rw[tD (SO k) a.sp j b,(h k).1,e zgq (.inl rfl)];rfl
  ·rw[tD (SJ k) a.sp j b,(h k).2,e Ic (.inr rfl)];rfl
def ME{l:List Ac}(hs:mg l)(n:Int):l.Perm ((l.find? λx=>decide (x.num=n)).toList++l.filter λx=>decide (x.num≠n)):=by
 induction l with
 |nil=>exact cR _
 |cons p l c=>
  have a:mg l:=(bX.1 hs).2;have hp:=(bX.1 hs).1;by_cases h:p.num=n
  ·rw[im (by simpa using h),aU (by simpa using h)];simp only[Option.toList_some,List.singleton_append];refine List.Perm.cons _ (iv ?_);symm;refine cL.2 λx b=>?_;have:=hp x b;simp;omega
  ·grind
def bE.funds_putA{S:bE}(hs:mg S.all)(a:Ac):(S.putA a).funds=S.funds+a.cash - ((S.getO a.num).getD ⟨0,0,false,false⟩).cash:=by
 unfold bE.putA;by_cases b:a.num=0
 ·rw[ae b,b];simp[bE.funds,bE.getO,nu];omega
 ·rw[aa b];simp only[bE.funds,bE.getO,aa b,bE.find];have h1:=ue ((uK S.all a).map (·.cash));have c:=ue ((ME hs a.num).map (·.cash));rw[aM,fN]at c;simp only[aD,bC]at h1
  have e:((S.all.find? λx=>decide (x.num=a.num)).toList.map (·.cash)).sum=((S.all.find? λx=>decide (x.num=a.num)).getD ⟨0,0,false,false⟩).cash:=by
   cases S.all.find? λx=>decide (x.num=a.num)<;>simp
  omega
def bE.deposit_funds{S:bE}(hs:mg S.all)(n m:Int):(S.deposit n m).2.funds=S.funds+if(S.deposit n m).1=0 then m else 0:=by
 unfold bE.deposit;split
 ·split
  ·simp
  ·split
   ·simp
   ·rw[ae rfl];simp only;rw[bE.funds_putA hs];simp only;omega
 ·simp
def bE.withdraw_funds{S:bE}(hs:mg S.all)(n m:Int):(S.withdraw n m).2.funds=S.funds+if(S.withdraw n m).1=0 then -m else 0:=by
 unfold bE.withdraw;split
 ·simp
 ·rename_i f
  cases d:S.find n with
  |none=>simp
  |some a=>
   simp only;split
   ·simp
   ·rw[ae rfl];simp only;obtain⟨g,b⟩:=bE.find_mem d;have c:n≠0:=λe=>f (.inl e);rw[bE.funds_putA hs];simp only[bE.getO,b,aa c,d,dt];omega
def bE.funds_of{S:bE}(h:S'.all=S.all/\S'.fund=S.fund):S'.funds=S.funds:=by unfold bE.funds;rw[h.1,h.2]
def bE.putA_held(S:bE)(a:Ac):(S.putA a).held=S.held:=by unfold bE.putA;split<;>rfl
def bE.deposit_held(S:bE)(n m:Int):(S.deposit n m).2.held=S.held:=by
 unfold bE.deposit;split
 ·split
  ·rfl
  ·split
   ·rfl
   ·exact bE.putA_held _ _
 ·rfl
def bE.withdraw_held(S:bE)(n m:Int):(S.withdraw n m).2.held=S.held:=by
 unfold bE.withdraw;split
 ·rfl
 ·split
  ·rfl
  ·split
   ·rfl
   ·exact bE.putA_held _ _
def bE.empty_zero:bE.Zero ⟨0,[],[]⟩:=λc=>⟨rfl,rfl⟩
structure oe.Ok(C:oe):Prop where
 len:C.l.length<=16
 day:kV C.day
 ok:∀k∈C.l,k.Ok
 srt:nm C.l
def bo.ords(S:bo)(n:Int):List Od:=(S.bk n).all++S.bd n
def bE.Stands(L:bE)(a:Int):Prop:=∃x,L.find a=some x/\x.kil=false/\x.dfl=false
structure bo.Std(S:bo)(o:Od):Prop where
 may:o.may=true
 fit:o.Fit
 num:o.num<S.next
 acc:S.led.Stands o.acct
structure rC(S:bo):Prop where
 out:∀n,bt S.cal.l n≠0->S.ords n=[]
 side:∀n d,(S.bk n d).length<=100/\∀o∈S.bk n d,o.buy=d
 std:∀n,∀o∈S.ords n,S.Std o
 nd:∀n,((S.ords n).map (·.num)).Nodup
 apart:∀n m o o',o∈S.ords n->o' ∈S.ords m->o.num=o'.num->n=m
 bdl:∀n,(S.bd n).length<=50
structure HK(C:oe)(L:bE):Prop where
 led:L.Ok
 held:∀p∈L.held,bt C.l p.c=0
 zero:L.Zero
structure bo.Ok(S:bo):Prop where
 cal:S.cal.Ok
 led:HK S.cal S.led
 ord:rC S
 next:1<=S.next/\S.next<=jH+1
 fnd:S.led.funds<=MF
def ik{d:Bool}(h:o∈S.bk n d):o∈S.ords n:=cY _ (qJ.2 ⟨d,h⟩)
def iW(h:o∈S.bd n):o∈S.ords n:=fE _ h
def jN(h:o∈S.ords n):(∃d,o∈S.bk n d)\/o∈S.bd n:=(bm.1 h).imp qJ.1 id
def rC.bkMay(h:rC S)(n:Int):Bi (S.bk n):=λd o a=>⟨(h.std n o (ik a)).may,(h.side n d).2 o a⟩
def rC.bkNd(h:rC S)(n:Int):tT (S.bk n):=by
 have:=h.nd n;unfold bo.ords at this;rw[aM,du]at this;exact this.1
def rC.bdMay(h:rC S)(n:Int):∀o∈S.bd n,o.may=true:=λo a=>(h.std n o (iW a)).may
def rC.bdNd(h:rC S)(n:Int):((S.bd n).map (·.num)).Nodup:=by
 have:=h.nd n;unfold bo.ords at this;rw[aM,du]at this;exact this.2.1
def HQ{a d b f c e:List Int}(g:d.Sublist a)(i:f.Sublist b)(j:e.Sublist c)(h:(a++b++c).Nodup):(d++f++e).Nodup:=h.sublist ((g.append i).append j)
def zN(S:bo)(n:Int):(S.ords n).map (·.num)=(S.bk n true).map (·.num)++(S.bk n false).map (·.num)++(S.bd n).map (·.num):=by
 unfold bo.ords Bk.all;rw[aM,aM]
def JF{o' :Od}(h:o.key=o'.key)(a:o.Fit)(b:1<=o'.left/\o'.left<=1000000):o'.Fit:=by
 unfold Od.Fit at*;rw[<-oE h,<-wg h,<-qR h];exact⟨a.1,a.2.1,a.2.2.1,by grind⟩
def wz{S' :bo}(e:∀n d,gA (S'.bk n d) (S.bk n d))(f:∀n,gA (S'.bd n) (S.bd n)){n:Int}{o:Od}(g:o∈S'.ords n):∃a∈S.ords n,a.key=o.key/\1<=o.left/\o.left<=1000000:=by
 rcases jN g with⟨d,h1⟩|h1
 ·obtain⟨a,b,c⟩:=(e n d).mem h1;exact⟨a,ik b,c,(e n d).left o h1⟩
 ·obtain⟨a,b,c⟩:=(f n).mem h1;exact⟨a,iW b,c,(f n).left o h1⟩
def rC.mono{S' :bo}(h:rC S)(h1:∀n,bt S'.cal.l n≠0->bt S.cal.l n≠0\/S'.ords n=[])(f:∀n d,gA (S'.bk n d) (S.bk n d))(i:∀n,gA (S'.bd n) (S.bd n))
  (t:∀n o,o∈S'.ords n->S.led.Stands o.acct->S'.led.Stands o.acct)(q:S.next<=S'.next):rC S' where
 out n q:=by
  rcases h1 n q with e|e
  ·have c:=h.out n e;cases r:S'.ords n with
   |nil=>rfl
   |cons x l=>
    obtain⟨p,g,-⟩:=wz (S:=S) (S' :=S') f i (n:=n) (o:=x) (by grind);rw[c]at g;cases g
  ·exact e
 side n d:=⟨ci (f n d).len (h.side n d).1,λo j=>by
  obtain⟨p,e,c⟩:=(f n d).mem j;rw[<-JN c];exact(h.side n d).2 p e⟩
 std n o j:=by
  obtain⟨p,e,c,g⟩:=wz f i j;have k:=h.std n p e;exact⟨zf c k.may g,JF c k.fit g,by rw[<-oE c];exact lG k.num q,t n o j (by rw[<-wg c];exact k.acc)⟩
 nd n:=by
  have:=h.nd n;rw[zN]at this|-;exact HQ (f n true).nums (f n false).nums (i n).nums this
 apart n m o o' j ho' r:=by
  obtain⟨a,e,c,-⟩:=wz f i j;obtain⟨b,g,s,-⟩:=wz f i ho';exact h.apart n m a b e g (by rw[oE c,oE s];exact r)
 bdl n:=ci (i n).len (h.bdl n)
def rC.addBk(h:rC S){n:Int}{x:Od}{B:Bk}{nx:Int}(G:bt S.cal.l n=0)(O:x.may=true)(M:x.Fit)(A:x.num<nx)(C:S.led.Stands x.acct)(q:∀m,∀o∈S.ords m,o.num≠x.num)
  (opp:gA (B !x.buy) (S.bk n !x.buy))(own:B x.buy=S.bk n x.buy\/((B x.buy).Perm (x::S.bk n x.buy)/\(S.bk n x.buy).length<100))(F:S.next<=nx):rC {S with bk:=eL S.bk n B,next:=nx}:=by
 have p:=h.bkMay;have u:=h.bdMay
 have i:∀m,∀o∈({S with bk:=eL S.bk n B,next:=nx}:bo).ords m,(∃r∈S.ords m,r.key=o.key/\1<=o.left/\o.left<=1000000)\/(o=x/\m=n):=by
  intro m o k;by_cases c:m=n
  ·subst c;rcases jN k with⟨d,h1⟩|h1
   ·replace h1:o∈eL S.bk m B m d:=h1;rw[cO]at h1;by_cases s:d=x.buy
    ·subst s;rcases own with f|⟨f,-⟩
     ·rw[f]at h1;exact .inl ⟨o,ik h1,rfl,ir (p m _ o h1).1⟩
     ·rcases ar.1 (f.mem_iff.1 h1)with rfl|g
      ·grind
      ·exact .inl ⟨o,ik g,rfl,ir (p m _ o g).1⟩
    ·obtain rfl:d= !x.buy:=by cases d<;>cases A:x.buy<;>simp_all
     obtain⟨r,g,j⟩:=opp.mem h1;exact .inl ⟨r,ik g,j,opp.left o h1⟩
   ·exact .inl ⟨o,iW h1,rfl,ir (u m o h1)⟩
  ·have:o∈S.ords m:=by
    have e:({S with bk:=eL S.bk n B,next:=nx}:bo).ords m=S.ords m:=by
     show(eL S.bk n B m).all++S.bd m=_;rw[eJ _ _ _ c];rfl
    rwa[e]at k
   exact .inl ⟨o,this,rfl,ir (h.std m o this).may⟩
 have l:∀d,((B d).map (·.num)).Sublist ((S.bk n d).map (·.num))\/(d=x.buy/\((B d).map (·.num)).Perm (x.num::(S.bk n d).map (·.num))):=λd=>by
  by_cases s:d=x.buy
  ·subst s;rcases own with f|⟨f,-⟩
   ·grind
   ·grind
  ·obtain rfl:d= !x.buy:=by cases d<;>cases A:x.buy<;>simp_all
   exact .inl opp.nums
 refine⟨λm t=>?_,λm d=>?_,λm o k=>?_,λm=>?_,λN H o J k v w=>?_,h.bdl⟩
 ·have c:m≠n:=λe=>by subst e;exact t G
  show(eL S.bk n B m).all++S.bd m=[]
  rw[eJ _ _ _ c];exact h.out m t
 ·show(eL S.bk n B m d).length<=100/\∀o∈eL S.bk n B m d,_;by_cases c:m=n
  ·subst c;rw[cO];by_cases s:d=x.buy
   ·subst s;rcases own with f|⟨f,g⟩
    ·rw[f];exact h.side m _
    ·refine⟨by have:=f.length_eq;rw[be]at this;omega,λo k=>?_⟩;rcases ar.1 (f.mem_iff.1 k)with rfl|j
     ·rfl
     ·exact(h.side m _).2 o j
   ·obtain rfl:d= !x.buy:=by cases d<;>cases A:x.buy<;>simp_all
    refine⟨ci opp.len (h.side m _).1,λo k=>?_⟩;obtain⟨r,g,j⟩:=opp.mem k;rw[<-JN j];exact(h.side m _).2 r g
  ·rw[eJ _ _ _ c];exact h.side m d
 ·rcases i m o k with⟨r,f,g,j⟩|⟨rfl,rfl⟩
  ·have z:=h.std m r f;exact⟨zf g z.may j,JF g z.fit j,by rw[<-oE g];exact lG z.num F,by rw[<-wg g];exact z.acc⟩
  ·exact⟨O,M,A,C⟩
 ·by_cases c:m=n
  ·subst c;rw[zN];show(List.map _ (eL S.bk m B m true)++List.map _ (eL S.bk m B m false)++List.map _ (S.bd m)).Nodup;rw[cO];have I:=h.nd m
   have y:x.num ∉ (S.ords m).map (·.num):=λP=>by
    obtain⟨o,k,w⟩:=aL.1 P;exact q m o k w
   rw[zN]at I y;have h1:(x.num::((S.bk m true).map (·.num)++(S.bk m false).map (·.num)++(S.bd m).map (·.num))).Nodup:=bY.2 ⟨y,I⟩;rcases l true with L|⟨Q,L⟩
   ·rcases l false with E|⟨K,E⟩
    ·grind
    ·grind
   ·rcases l false with E|⟨K,E⟩
    ·grind
    ·grind
  ·show(((eL S.bk n B m).all++S.bd m).map (·.num)).Nodup;rw[eJ _ _ _ c];exact h.nd m
 ·rcases i N o k with⟨a,f,g,-⟩|⟨rfl,rfl⟩
  ·rcases i H J v with⟨b,j,D,-⟩|⟨rfl,rfl⟩
   ·exact h.apart _ _ a b f j (by rw[oE g,oE D];exact w)
   ·exact absurd ((oE g).trans w) (q _ a f)
  ·rcases i H J v with⟨b,j,D,-⟩|⟨rfl,rfl⟩
   ·exact absurd ((oE D).trans w.symm) (q _ b j)
   ·rfl
def rC.addBd(h:rC S){n:Int}{x:Od}{nx:Int}(t:bt S.cal.l n=0)(B:x.may=true)(y:x.Fit)(A:x.num<nx)(q:S.led.Stands x.acct)(p:∀m,∀o∈S.ords m,o.num≠x.num)
  (E:(S.bd n).length<50)(r:S.next<=nx):rC {S with bd:=eL S.bd n (S.bd n++[x]),next:=nx}:=by
 have f:∀m,∀o∈({S with bd:=eL S.bd n (S.bd n++[x]),next:=nx}:bo).ords m,o∈S.ords m\/(o=x/\m=n):=by
  intro m o g;by_cases c:m=n
  ·subst c;rcases jN g with⟨d,h1⟩|h1
   ·exact .inl (ik h1)
   ·replace h1:o∈eL S.bd m (S.bd m++[x]) m:=h1;rw[cO]at h1;rcases bm.1 h1 with i|i
    ·exact .inl (iW i)
    ·grind
  ·left
   have e:({S with bd:=eL S.bd n (S.bd n++[x]),next:=nx}:bo).ords m=S.ords m:=by
    show(S.bk m).all++eL S.bd n _ m=_;rw[eJ _ _ _ c];rfl
   rwa[e]at g
 refine⟨λm j=>?_,h.side,λm o g=>?_,λm=>?_,λz u o s g k C=>?_,λm=>?_⟩
 ·have c:m≠n:=λe=>by subst e;exact j t
  show(S.bk m).all++eL S.bd n _ m=[]
  rw[eJ _ _ _ c];exact h.out m j
 ·rcases f m o g with i|⟨rfl,rfl⟩
  ·have l:=h.std m o i;exact⟨l.may,l.fit,lG l.num r,l.acc⟩
  ·exact⟨B,y,A,q⟩
 ·by_cases c:m=n
  ·subst c;show(((S.bk m).all++eL S.bd m _ m).map (·.num)).Nodup;rw[cO,<-aH,aM,du];refine⟨h.nd m,by simp,λa D b v=>?_⟩;obtain⟨o,g,rfl⟩:=aL.1 D;rw[aD,fw,bN]at v;rw[v];exact p m o g
  ·show(((S.bk m).all++eL S.bd n _ m).map (·.num)).Nodup;rw[eJ _ _ _ c];exact h.nd m
 ·rcases f z o g with i|⟨rfl,rfl⟩
  ·rcases f u s k with w|⟨rfl,rfl⟩
   ·exact h.apart _ _ o s i w C
   ·grind
  ·rcases f u s k with w|⟨rfl,rfl⟩
   ·grind
   ·rfl
 ·show(eL S.bd n _ m).length<=50;by_cases c:m=n
  ·subst c;rw[cO,ag];show(S.bd m).length+1<=50;omega
  ·rw[eJ _ _ _ c];exact h.bdl m
def Ij(b:a≠0)(o:Od):ly a o=kO a o:=by unfold ly kO;rw[br b,fG]
def y9(a:Int)(ns:List Int)(n:Int)(o:Od):Bool:= !(ns.contains n&& kO a o)
def Ad{a:Int}(h:a≠0):∀(c:List Int) (S:bo) (g:List Int),(∀n,tT (S.bk n))->
  (c.foldl (tY a) (g,S)).2={S with bk:=λn=>(S.bk n).flt (y9 a c n),bd:=λn=>(S.bd n).filter (y9 a c n)}
 | [],S,g,_=>by
  have l:(λn=>(S.bk n).flt (y9 a [] n))=S.bk:=by
   funext n d;unfold Bk.flt;exact cL.2 λo _=>rfl
  have k:(λn=>(S.bd n).filter (y9 a [] n))=S.bd:=by
   funext n;exact cL.2 λo _=>rfl
  rw[l,k];rfl
 |m::c,S,g,f=>by
  rw[eV];obtain⟨j,e⟩:=df ((tY a (g,S) m).1)
  have i:tY a (g,S) m=(j,{S with bk:=eL S.bk m ((S.bk m).flt λo=> !kO a o),bd:=eL S.bd m ((S.bd m).filter λo=> !kO a o)}):=by
   rw[e];unfold tY;simp only;rw[Fm (f m)];congr 3;funext d;unfold Bk.flt;exact dH λo _=>by rw[Ij h]
  rw[i,Ad h c]
  ·congr 1
   ·funext n d;show List.filter _ (eL S.bk m _ n d)=List.filter _ (S.bk n d);by_cases b:n=m
    ·subst b;rw[cO];unfold Bk.flt;rw[gl];refine dH λo _=>?_;unfold y9;cases h1:kO a o<;>simp
    ·rw[eJ _ _ _ b];refine dH λo _=>?_;unfold y9;rw[lH];have:(n==m)=false:=by simpa using b
     rw[this,fG]
   ·funext n;show List.filter _ (eL S.bd m _ n)=List.filter _ (S.bd n);by_cases b:n=m
    ·subst b;rw[cO,gl];refine dH λo _=>?_;unfold y9;cases h1:kO a o<;>simp
    ·rw[eJ _ _ _ b];refine dH λo _=>?_;unfold y9;rw[lH];have:(n==m)=false:=by simpa using b
     rw[this,fG]
  ·intro n;show tT (eL S.bk m _ n);by_cases b:n=m
   ·subst b;rw[cO];exact(f n).flt _
   ·rw[eJ _ _ _ b];exact f n
def AQ(h:rC S){a k:Int}(b:a≠0):(S.clear a k).2={S with bk:=λn=>(S.bk n).flt (y9 a (S.nums.filter λn=>decide (k=0\/k=n)) n),bd:=λn=>(S.bd n).filter (y9 a (S.nums.filter λn=>decide (k=0\/k=n)) n)}:=
 Ad b _ _ _ h.bkNd
def tp(h:rC S){a k:Int}(b:a≠0):(S.clear a k).2.cal=S.cal/\(S.clear a k).2.led=S.led/\(S.clear a k).2.next=S.next:=by
 rw[AQ h b];exact⟨rfl,rfl,rfl⟩
def xU(h:rC S){a k:Int}(c:a≠0):rC (S.clear a k).2:=by
 rw[AQ h c];exact h.mono (λn f=>.inl f) (λn d=>gA.filter (λo b=>(h.bkMay n d o b).1) _) (λn=>gA.filter (h.bdMay n) _) (λn o b e=>e) (ed _)
def zU(h:bt S.cal.l n=0):n∈S.nums:=by
 unfold bt at h;unfold bo.nums;cases a:cg S.cal.l n with
 |none=>rw[a]at h;cases h
 |some k=>
  have b:=lh a;exact aL.2 ⟨k,rm a,by simpa using b⟩
def rC.alive(h:rC S){n:Int}{o:Od}(a:o∈S.ords n):bt S.cal.l n=0:=by
 apply aI;intro b;rw[h.out n b]at a;cases a
def AE(h:rC S){a:Int}(f:a≠0){n:Int}{o:Od}(c:o∈(S.clear a 0).2.ords n):o.acct≠a/\o∈S.ords n:=by
 have g:bt S.cal.l n=0:=by
  have:=(xU h (k:=0) f).alive c
  rwa[(tp h f).1]at this
 rw[AQ h f]at c
 have i:(S.nums.filter λm=>decide ((0:Int)=0\/0=m)).contains n=true:=by
  rw[List.contains_eq_mem,aX,aT];exact⟨zU g,by simp⟩
 have key:∀{l:List Od},o∈l.filter (y9 a (S.nums.filter λm=>decide ((0:Int)=0\/0=m)) n)->o∈l/\o.acct≠a:=λ{l} b=>by
  rw[aT]at b;refine⟨b.1,λe=>?_⟩;have:=b.2;unfold y9 kO at this;rw[i,aQ e]at this;cases this
 rcases jN c with⟨d,h1⟩|h1
 ·have:=key (l:=S.bk n d) h1;exact⟨this.2,ik this.1⟩
 ·have:=key (l:=S.bd n) h1;exact⟨this.2,iW this.1⟩
def vx{l:List Ac}(h:mg l){a:Ac}(b:a∈l):l.find? (λx=>decide (x.num=a.num))=some a:=by
 induction l with
 |nil=>cases b
 |cons x l d=>
  obtain⟨h1,c⟩:=bX.1 h;rcases ar.1 b with rfl|b
  ·grind
  ·have:=h1 a b;rw[io (by simp;omega)];exact d c b
def Lm{l:List Ac}(h:mg l)(a:Ac)(n:Int):(BH l a).find? (λx=>decide (x.num=n))=if n=a.num then some a else l.find? λx=>decide (x.num=n):=by
 by_cases d:n=a.num
 ·subst d;rw[ae rfl];exact vx (rZ h a) (rz.2 (.inr rfl))
 ·rw[aa d];cases b:l.find? λx=>decide (x.num=n)with
  |some x=>
   have c:=dz b;have e:x.num=n:=by grind
   have:=vx (rZ h a) (rz.2 (.inl ⟨c,qZ⟩));rw[e]at this;exact this
  |none=>
   rw[dU]at b|-;intro x c;rcases rz.1 c with⟨h1,-⟩|rfl
   ·exact b x h1
   ·simp;omega
def bE.find_putA{S:bE}(h:mg S.all){a:Ac}(b:a.num≠0)(n:Int):(S.putA a).find n=if n=a.num then some a else S.find n:=by
 unfold bE.putA bE.find;rw[aa b];exact Lm h a n
def bE.find_putA0{S:bE}{a:Ac}(b:a.num=0)(n:Int):(S.putA a).find n=S.find n:=by
 unfold bE.putA bE.find;rw[ae b]
def bE.find_ok{S:bE}(h:S.Ok){n:Int}{a:Ac}(b:S.find n=some a):a∈S.all/\a.num=n/\n≠0:=by
 obtain⟨h1,c⟩:=bE.find_mem b;have:=(h.acc a h1).1;exact⟨h1,c,qZ⟩
def og{S:bE}(h:n≠0):S.getO n=S.find n:=by unfold bE.getO;rw[aa h]
def bE.mem_find{S:bE}(h:S.Ok){a:Ac}(b:a∈S.all):S.find a.num=some a:=vx h.sa b
def bE.trade_Ok{S:bE}(h:S.Ok){c b s p n:Int}(i:kV c):(S.trade c b s p n).2.Ok:=by
 unfold bE.trade;split
 ·exact h
 ·rename_i h1
  split
  ·exact h
  ·rename_i d
   simp only;split
   ·exact h
   ·rename_i q
    obtain⟨F,z,v,y,w,A⟩:=h.position c b;obtain⟨C,H,D,G,E,B⟩:=h.position c s;simp only[lD]at h1 d q;obtain⟨k,o,l,j,hp,t⟩:=h1;have g:aW p 1 MP=true:=by simpa using hp
    have e:aW n 1 MP=true:=by simpa using t
    rw[eU]at g e;have u:0<=p*n:=iR qZ qZ
    have fnd:∀x,S.find x≠none->∃a∈S.all,a.num=x:=λx r=>by
     cases f:S.find x with
     |none=>exact absurd f r
     |some a=>exact⟨a,(bE.find_mem f).1,(bE.find_mem f).2⟩
    have m:=h.putP (p:=⟨c,b,(S.position c b).q+n,(S.position c b).b+p*n⟩) ⟨by show 0<c;omega,i.2⟩ ⟨by grind,by grind⟩ ⟨by grind,by grind⟩ (fnd b d.1);exact m.putP (p:=⟨c,s,(S.position c s).q - n,(S.position c s).b - p*n⟩) ⟨by show 0<c;omega,i.2⟩ ⟨by grind,by grind⟩ ⟨by grind,by grind⟩ (fnd s d.2)
def bE.set_cases(S:bE)(a:Ac):(S.set a).2=S/\(S.set a).1≠0\/((S.set a)=(0,S.putA a)/\0<=a.cash/\a.cash<=MF/\S.getO a.num≠none/\(a.num=0->a.kil=false/\a.dfl=false)):=by
 unfold bE.set;split
 ·grind
 ·rename_i h1
  split
  ·grind
  ·rename_i c
   simp only[lD,not_and]at h1;have b:aW a.cash 0 MF=true:=by simpa using h1.1
   rw[eU]at b;refine .inr ⟨rfl,b.1,b.2,c,λd=>?_⟩;have:=h1.2 d;exact⟨by simpa using this.1,by simpa using this.2⟩
def bE.set_Ok{S:bE}(h:S.Ok){a:Ac}(f:kV a.num):(S.set a).2.Ok:=by
 rcases bE.set_cases S a with⟨h1,-⟩|⟨h1,d,e,b,g⟩
 ·rw[h1];exact h
 ·rw[h1];apply h.putA f ⟨d,e⟩;by_cases c:a.num=0
  ·exact .inr (.inr c)
  ·rw[og c]at b;exact .inl b
def bE.deposit_cases{S:bE}{m:Int}:(S.deposit n m).2=S/\(S.deposit n m).1≠0\/∃a:Ac,S.deposit n m=(0,S.putA a)/\a.num=n/\a={(S.getO n).getD ⟨0,0,false,false⟩with num:=n,cash:=((S.getO n).getD ⟨0,0,false,false⟩).cash+m}/\1<=m/\m<=MF/\S.funds+m<=MF/\¬(S.getO n=none/\64<=S.all.length):=by
 unfold bE.deposit;split
 ·rename_i b
  rw[eU]at b;split
  ·grind
  ·rename_i h1
   split
   ·grind
   ·grind
 ·grind
def bE.deposit_Ok{S:bE}(h:S.Ok){n m:Int}(i:kV n):(S.deposit n m).2.Ok:=by
 rcases bE.deposit_cases (S:=S) (n:=n) (m:=m)with⟨h1,-⟩|⟨a,h1,e,d,j,k,q,g⟩
 ·rw[h1];exact h
 ·rw[h1]
  have b:0<=a.cash/\a.cash<=MF:=by
   cases c:S.getO n with
   |none=>
    rw[c]at d;rw[d];show 0<=0+m/\0+m<=MF;omega
   |some x=>
    have l:=h.cash_le c;have o:=(h.getO c).2.2.2.1;rw[c]at d;rw[d];show 0<=x.cash+m/\x.cash+m<=MF;omega
  apply h.putA (by rw[e];exact i) b;by_cases f:n=0
  ·grind
  ·rw[og f]at g;by_cases p:S.find n=none
   ·grind
   ·grind
def bE.withdraw_cases{S:bE}{m:Int}:(S.withdraw n m).2=S/\(S.withdraw n m).1≠0\/∃a,S.find n=some a/\S.withdraw n m=(0,S.putA {a with cash:=a.cash - m})/\n≠0/\1<=m/\m<=a.cash:=by
 unfold bE.withdraw;split
 ·grind
 ·rename_i b
  simp only[lD]at b;have c:aW m 1 MF=true:=by simpa using b.2
  rw[eU]at c;cases d:S.find n with
  |none=>exact .inl ⟨rfl,by simp⟩
  |some a=>
   simp only;split
   ·grind
   ·grind
def bE.withdraw_Ok{S:bE}(h:S.Ok){n m:Int}:(S.withdraw n m).2.Ok:=by
 rcases bE.withdraw_cases (S:=S) (n:=n) (m:=m)with⟨h1,-⟩|⟨a,h1,c,g,e,f⟩
 ·rw[h1];exact h
 ·rw[c];obtain⟨b,d,-⟩:=bE.find_ok h h1;have:=h.acc a b;refine h.putA ⟨by grind,this.2.1⟩ ⟨by grind,by grind⟩ (.inl ?_);show S.find a.num≠none;rw[d,h1];simp
def bE.mark_Ok{S:bE}(h:S.Ok){c price:Int}{cl:Bool}:(S.mark c price cl).2.2.Ok:=by
 unfold bE.mark;split
 ·exact h
 ·rename_i a
  simp only[lD]at a;have hp:aW price 1 MP=true:=by simpa using a.2
  rw[eU]at hp;exact Mf h hp cl _ _ (λp hp=>(aT.1 hp).1) h rfl
def bE.mark_all{S:bE}:(S.mark c price cl).2.2.all=S.all/\(S.mark c price cl).2.2.fund=S.fund:=by
 unfold bE.mark;split
 ·exact⟨rfl,rfl⟩
 ·exact zK
def th{S:bE}(h:S'.all=S.all)(n:Int):S'.Stands n↔S.Stands n:=by
 unfold bE.Stands bE.find;rw[h]
def vL{S:bE}(h:S.Ok){a:Ac}{n:Int}(hs:S.Stands n)(f:a.num=n->a.kil=false/\a.dfl=false):(S.set a).2.Stands n:=by
 rcases bE.set_cases S a with⟨h1,-⟩|⟨h1,g,k,i,j⟩
 ·rw[h1];exact hs
 ·rw[h1];obtain⟨x,e,d,c⟩:=hs;by_cases b:a.num=0
  ·exact⟨x,by rw[bE.find_putA0 b];exact e,d,c⟩
  ·unfold bE.Stands;rw[bE.find_putA h.sa b];by_cases l:n=a.num
   ·grind
   ·grind
def yQ{S:bE}(h:S.Ok){a:Ac}{n:Int}(hs:S.Stands n)(f:a.num=n->∃x,S.find n=some x/\a.kil=x.kil/\a.dfl=x.dfl):(S.putA a).Stands n:=by
 obtain⟨x,e,d,c⟩:=hs;by_cases b:a.num=0
 ·exact⟨x,by rw[bE.find_putA0 b];exact e,d,c⟩
 ·unfold bE.Stands;rw[bE.find_putA h.sa b];by_cases g:n=a.num
  ·grind
  ·grind
def Ar{S:bE}(h:S.Ok){n m k:Int}(hs:S.Stands k):(S.deposit n m).2.Stands k:=by
 rcases bE.deposit_cases (S:=S) (n:=n) (m:=m)with⟨h1,-⟩|⟨a,h1,f,c,j,o,p,l⟩
 ·rw[h1];exact hs
 ·rw[h1];refine yQ h hs λi=>?_;obtain⟨x,e,-,-⟩:=hs;have b:=(bE.find_ok h e).2.2;have d:n=k:=f.symm.trans i;have g:S.getO n=some x:=by rw[d,og b,e]
  rw[g]at c;exact⟨x,e,by rw[c];rfl,by rw[c];rfl⟩
def zd{S:bE}(h:S.Ok){n m k:Int}(hs:S.Stands k):(S.withdraw n m).2.Stands k:=by
 rcases bE.withdraw_cases (S:=S) (n:=n) (m:=m)with⟨h1,-⟩|⟨a,h1,c,g,e,f⟩
 ·rw[h1];exact hs
 ·rw[c];have d:=(bE.find_ok h h1).2.1;refine yQ h hs λb=>⟨a,?_,rfl,rfl⟩
  have:n=k:=d.symm.trans b;rw[<-this];exact h1
def Ff{S:bE}{p:Po}(h:x∈(S.putP p).held):x∈S.held\/x=p:=by
 unfold bE.putP at h;exact(rh.1 h).imp (·.1) (·.1)
def vy{S:bE}{b s p:Int}(h:x∈(S.trade c b s p n).2.held):x∈S.held\/(x.c=c/\(S.trade c b s p n).1=0):=by
 unfold bE.trade at h|-;split
 ·grind
 ·rename_i h1
  rw[aa h1]at h;split
  ·grind
  ·rename_i a
   rw[aa a]at h;simp only at h|-;split
   ·grind
   ·rename_i f
    rw[aa f]at h;rcases Ff h with d|rfl
    ·rcases Ff d with e|rfl
     ·exact .inl e
     ·grind
    ·grind
def yA{price:Int}{cl:Bool}:∀{l:List Po} {S:bE} {x:Po},x∈(S.marked l price cl).held->(x∈S.held/\∀p∈l,x.key≠p.key\/x.isZ=false)\/∃p∈l,x=p.mark price cl/\x.isZ=false
 | [],S,x,h=>.inl ⟨h,by simp⟩
 |p::l,S,x,h=>by
  have e:S.marked (p::l) price cl=(S.putP (p.mark price cl)).marked l price cl:=rfl;rw[e]at h;rcases yA h with⟨h1,c⟩|⟨q,a,c⟩
  ·unfold bE.putP at h1;rcases rh.1 h1 with⟨d,b⟩|⟨d,b⟩
   ·refine .inl ⟨d,λq a=>?_⟩;rcases ar.1 a with rfl|a
    ·rw[N4]at b;exact .inl b
    ·exact c q a
   ·grind
  ·grind
def xw{S:bE}(h:x∈(S.mark c price cl).2.2.held):∃p∈S.held,p.c=x.c:=by
 unfold bE.mark at h;split at h
 ·exact⟨x,h,rfl⟩
 ·rcases yA h with⟨h1,-⟩|⟨p,hp,h1,-⟩
  ·exact⟨x,h1,rfl⟩
  ·exact⟨p,(aT.1 hp).1,by rw[h1];exact(rg p price cl).1.symm⟩
def vN{S:bE}(a:S.Ok)(h:S.Zero)(c b s p n:Int):(S.trade c b s p n).2.Zero:=by
 intro k;have:=bE.trade_sum a (c:=c) (b:=b) (s:=s) (p:=p) (n:=n) k;rw[this.1,this.2];exact h k
def CM{S:bE}(a:S.Ok)(h:S.Zero)(c price:Int)(cl:Bool):(S.mark c price cl).2.2.Zero:=by
 unfold bE.mark;split
 ·exact h
 ·exact h.mark a c price cl
def oz(S:bE)(a:Ac):(S.set a).2.held=S.held:=by
 rcases bE.set_cases S a with⟨h1,-⟩|⟨h1,-⟩
 ·rw[h1]
 ·rw[h1];exact bE.putA_held _ _
def so{S:bE}(h:S'.held=S.held)(a:S.Zero):S'.Zero:=λc=>by rw[h];exact a c
def zj{α:Type}(f:Int->α)(n:Int)(x y:α):eL (eL f n x) n y=eL f n y:=by
 funext m;unfold eL;split<;>rfl
def Hb{α:Type}(f:Int->α)(n:Int):eL f n (f n)=f:=by
 funext m;unfold eL;split
 ·rename_i h;rw[h]
 ·rfl
def bo.Ok.setLed(h:S.Ok){L:bE}(e:L.Ok)(g:L.Zero)(hs:∀n o,o∈S.ords n->S.led.Stands o.acct->L.Stands o.acct)(c:∀p∈L.held,bt S.cal.l p.c=0)(b:L.funds<=MF):({S with led:=L}:bo).Ok:=
 ⟨h.cal,⟨e,c,g⟩,h.ord.mono (λn f=>.inl f) (λn d=>gA.refl λo a=>(h.ord.bkMay n d o a).1) (λn=>gA.refl (h.ord.bdMay n)) (λn o a=>hs n o a) (ed _),h.next,b⟩
def C0{n:Int}{o:Od}(f:kV n):∀(l:List Td) {L:bE},L.Ok->L.Zero->(oG n o l L).2.Ok/\(oG n o l L).2.Zero/\((oG n o l L).2.all=L.all/\(oG n o l L).2.fund=L.fund)/\∀p∈(oG n o l L).2.held,p∈L.held\/p.c=n
 | [],L,b,c=>⟨b,c,⟨rfl,rfl⟩,λp hp=>.inl hp⟩
 |t::l,L,b,c=>by
  unfold oG;simp only;obtain⟨X,a⟩:=df (L.trade n (if o.buy=true then o.acct else t.acct) (if o.buy=true then t.acct else o.acct) t.price t.qty);have h1:X.2.Ok:=by rw[a];exact bE.trade_Ok b f
  have g:X.2.Zero:=by rw[a];exact vN b c _ _ _ _ _
  have e:X.2.all=L.all/\X.2.fund=L.fund:=by rw[a];exact bE.trade_all
  have i:∀p∈X.2.held,p∈L.held\/p.c=n:=by rw[a];exact λp hp=>(vy hp).imp id (·.1)
  rw[<-a];split
  ·grind
  ·obtain⟨k,h,d,j⟩:=C0 f l h1 g;exact⟨k,h,⟨d.1.trans e.1,d.2.trans e.2⟩,λp hp=>(j p hp).elim (i p) .inr⟩
def AX(S:bo)(n:Int)(o:Od)(p:Pm):(S.traded n o p).2.2={S with led:=(oG n o p.trades S.led).2}:=by
 unfold bo.traded;simp only;split<;>rfl
def xO(h:S.Ok){n:Int}(i:kV n)(a:bt S.cal.l n=0)(o:Od)(p:Pm):(S.traded n o p).2.2.Ok:=by
 rw[AX];obtain⟨h1,e,c,f⟩:=C0 i (o:=o) p.trades h.led.led h.led.zero;refine h.setLed h1 e (λn o _ g=>(th c.1 _).2 g) (λq d=>?_) (by rw[bE.funds_of c];exact h.fnd);rcases f q d with b|b
 ·exact h.led.held q b
 ·rw[b];exact a
def nR{l:List Ct}(h:bt l n=0):∃k,cg l n=some k/\k.st≠3/\k.spec.num=n/\k∈l:=by
 unfold bt at h;cases a:cg l n with
 |none=>rw[a]at h;cases h
 |some k=>
  rw[a]at h;refine⟨k,rfl,λb=>?_,by simpa using lh a,rm a⟩;simp only at h;rw[ae b]at h;cases h
def LJ{l:List Ct}{k:Ct}(h:cg l n=some k)(a:k.st≠3):bt l n=0:=by
 unfold bt;rw[h];exact aa a
def LS{s:Sp}{q:Int}(h:s.isQty q=true):1<=q/\q<=1000000:=by
 unfold Sp.isQty at h;simp only[ao]at h;exact eU.1 h.2.1
structure Rc(S:bo)(a n:Int)(buy:Bool)(price qty:Int)(w:Od):Prop where
 stands:S.led.Stands a
 alive:bt S.cal.l n=0
 opn:∃k,cg S.cal.l n=some k/\k.st=1/\k.spec.isPrice price=true/\(Gt.mk k (S.acc a) (S.led.position n a).q ((S.opn n a).1 - (if w.buy then w.left else 0)) ((S.opn n a).2 - (if w.buy then 0 else w.left)) buy price qty).far=false
 price:1<=price/\price<=10000000
 qty:1<=qty/\qty<=1000000
def xe{buy:Bool}{qty:Int}{w:Od}(q:a≠0)(h:S.pass a n buy price qty w=0):Rc S a n buy price qty w:=by
 unfold bo.pass at h;by_cases h1:S.led.getO a=none
 ·grind
 rw[aa h1]at h;by_cases e:(dI S.cal.l n).2≠0
 ·grind
 rw[aa e]at h;unfold dI at h e;cases f:cg S.cal.l n with
 |none=>rw[f]at e;exact absurd (by simp) e
 |some k=>
  rw[f]at h;simp only at h;obtain⟨g,b⟩:=df (Gt.mk k (S.acc a) (S.led.position n a).q ((S.opn n a).1 - (if w.buy then w.left else 0)) ((S.opn n a).2 - (if w.buy then 0 else w.left)) buy price qty);rw[<-b]at h;have t:g.k=k:=by rw[b]
  have r:g.a=S.acc a:=by rw[b]
  have u:g.price=price:=by rw[b]
  have v:g.qty=qty:=by rw[b]
  unfold Gt.check at h;by_cases j:g.a.dfl=true
  ·grind
  rw[aa j]at h;by_cases l:g.a.kil=true
  ·grind
  rw[aa l]at h;by_cases p:g.k.st=3
  ·grind
  rw[aa p]at h;by_cases y:g.k.st=2
  ·grind
  rw[aa y]at h;split at h
  ·cases h
  rename_i s
  by_cases m:¬g.k.spec.isQty g.qty=true
  ·grind
  rw[aa m]at h;by_cases i:¬g.k.spec.isPrice g.price=true
  ·grind
  rw[aa i]at h;split at h
  ·cases h
  by_cases A:g.far=true
  ·grind
  have d:g.k.st=1:=by
   apply aI;intro z;exact s (.inl z)
  rw[t]at p d m i;rw[u]at i;rw[v]at m;rw[r]at j l;have c:k.spec.isPrice price=true:=by simpa using i
  refine⟨?_,LJ f p,⟨k,f,d,c,by grind⟩,uv c,LS (by simpa using m)⟩;rw[og q]at h1;cases o:S.led.find a with
  |none=>exact absurd o h1
  |some x=>
   have:S.acc a=x:=by unfold bo.acc;rw[og q,o];rfl
   rw[this]at j l;exact⟨x,o,by simpa using l,by simpa using j⟩
def pV{c:Cm}(a:c.acct≠0)(h:(S.order c).1=0):Rc S c.acct c.ct c.buy c.price c.qty nZ/\S.next<=jH/\S.order c=(0,c.od S.next,{S with next:=S.next+1}):=by
 unfold bo.order at h|-;simp only at h|-;by_cases h1:S.pass c.acct c.ct c.buy c.price c.qty nZ≠0
 ·grind
 rw[aa h1]at h|-;by_cases b:jH<S.next
 ·grind
 rw[aa b];exact⟨xe a (by simpa using h1),qZ,rfl⟩
def DE{c:Cm}(b:c.acct≠0)(d:n≠0)(hp:1<=c.price/\c.price<=10000000)(a:1<=c.qty/\c.qty<=1000000):(c.od n).may=true:=by
 unfold Od.may Cm.od MP;simp only[ao,aX,eU];exact⟨⟨⟨d,b⟩,hp⟩,a⟩
def AF{c:Cm}(e:c.Fit){n:Int}(f:OY n):(c.od n).Fit:=by
 obtain⟨h1,d,k,h,j,g,i,b,a⟩:=e;exact⟨f,d,b,a⟩
def tf(h:rC S):∀m,∀o∈S.ords m,o.num≠S.next:=λm o a b=>by
 have:=(h.std m o a).num;omega
def OH(h:o.Fit){x:Int}(a:0<=x/\x<=1000000):({o with left:=x}:Od).Fit:=⟨h.1,h.2.1,h.2.2.1,by grind⟩
def tn(h:rC S){n:Int}{o:Od}{rests:Bool}{nx:Int}(d:bt S.cal.l n=0)(e:o.may=true)(g:o.Fit)(i:o.num<nx)(b:S.led.Stands o.acct)(a:∀m,∀y∈S.ords m,y.num≠o.num)(c:S.next<=nx):
  rC {S with bk:=eL S.bk n (eW (S.bk n) o rests).1,next:=nx}:=by
 have f:=wV (B:=S.bk n) (o:=o) (rests:=rests) (h.bkMay n) e;have q:=ir e;rcases f.own with h1|⟨h1,j,k,p⟩
 ·exact h.addBk d e g i b a f.opp (.inl h1) c
 ·have l:=f.fill;refine h.addBk (x:={o with left:=(eW (S.bk n) o rests).2.left}) d (zf (o:=o) rfl e ⟨h1,?_⟩) (OH g ?_) i b a f.opp (.inr ⟨?_,k⟩) c
  ·grind
  ·omega
  ·show List.Perm ((eW (S.bk n) o rests).1 o.buy) _;rw[j];exact nM _ _ _
def zH{B:Bk}{k:Int}(h:(cV B o k).1=0):cV B o k=(0,eW B o (decide (k=1\/k=4)))/\o.may=true/\1<=k/\k<=4:=by
 unfold cV at h|-;split at h
 ·cases h
 ·rename_i h1
  rw[aa h1];split at h
  ·cases h
  ·rename_i a
   rw[aa a];split at h
   ·cases h
   ·rename_i c
    rw[aa c];split at h
    ·cases h
    ·rename_i b
     rw[aa b];split at h
     ·cases h
     ·grind
def mE(h:S.cal.Ok){n:Int}(a:bt S.cal.l n=0):kV n:=by
 obtain⟨k,h1,d,c,b⟩:=nR a;have:=(h.ok k b).1.1.1;rw[c]at this;exact this
def Qi(h:S.Ok){c:Cm}(k:c.Fit)(d:c.acct≠0)(a:(S.place c).1=0):(S.place c).2.2.Ok:=by
 unfold bo.place at a|-;simp only at a|-;by_cases h1:(S.order c).1≠0
 ·grind
 rw[aa h1]at a|-;obtain⟨hp,l,f⟩:=pV d (by simpa using h1);rw[f]at a|-;simp only at a|-;by_cases b:(cV (S.bk c.ct) (c.od S.next) c.ty).1≠0
 ·grind
 rw[aa b]at a|-;obtain⟨e,-⟩:=zH (by simpa using b:(cV (S.bk c.ct) (c.od S.next) c.ty).1=0);have g:=h.next
 have j:=tn h.ord (n:=c.ct) (o:=c.od S.next) (rests:=decide (c.ty=1\/c.ty=4)) (nx:=S.next+1) hp.alive (DE d qZ hp.price hp.qty) (AF k ⟨qZ,by unfold jH at l;omega⟩)
  (by show S.next<_;omega) hp.stands (tf h.ord) qZ
 have i:({S with bk:=eL S.bk c.ct (eW (S.bk c.ct) (c.od S.next) (decide (c.ty=1\/c.ty=4))).1,next:=S.next+1}:bo).Ok:=⟨h.cal,h.led,j,⟨by grind,by grind⟩,h.fnd⟩
 rw[e]at a|-;exact xO i (mE h.cal hp.alive) hp.alive _ _
def WU(h:S.Ok){c:Cm}(i:c.Fit)(b:c.acct≠0)(a:(S.bid c).1=0):(S.bid c).2.2.Ok:=by
 unfold bo.bid at a|-;simp only at a|-;by_cases h1:(S.order c).1≠0
 ·grind
 rw[aa h1]at a|-;obtain⟨hp,j,d⟩:=pV b (by simpa using h1);rw[d]at a|-;simp only at a|-;have e:=h.next;by_cases f:50<=(S.bd c.ct).length
 ·grind
 rw[aa f]
 have g:=h.ord.addBd (n:=c.ct) (x:=c.od S.next) (nx:=S.next+1) hp.alive (DE b qZ hp.price hp.qty) (AF i ⟨qZ,by unfold jH at j;omega⟩)
  (by show S.next<_;omega) hp.stands (tf h.ord) qZ qZ
 exact⟨h.cal,h.led,g,⟨by grind,by grind⟩,h.fnd⟩
def pM{num:Int}(h:S.find a num=some (o,n)):n∈S.nums/\o.acct=a/\o.num=num/\∃d,o∈S.bk n d/\(S.bk n).find num=some (o,d):=by
 unfold bo.find at h;obtain⟨m,e,b⟩:=List.exists_of_findSome?_eq_some h;unfold vF at b;cases c:(S.bk m).find num with
 |none=>rw[c]at b;cases b
 |some x=>
  obtain⟨y,d⟩:=x;rw[c]at b;simp only at b;split at b
  ·rename_i f
   cases b;have:=AJ c;exact⟨e,f,this.2,d,this.1,c⟩
  ·cases b
def WO(h:rC S){n:Int}{B:Bk}(c:∀d,gA (B d) (S.bk n d)):rC {S with bk:=eL S.bk n B}:=by
 refine h.mono (λn f=>.inl f) (λm d=>?_) (λm=>gA.refl (h.bdMay m)) (λ_ _ _ e=>e) (ed _);show gA (eL S.bk n B m d) _;by_cases a:m=n
 ·subst a;rw[cO];exact c d
 ·rw[eJ _ _ _ a];exact gA.refl λo b=>(h.bkMay m d o b).1
def Wh(h:rC S){n:Int}{B:List Od}(c:gA B (S.bd n)):rC {S with bd:=eL S.bd n B}:=by
 refine h.mono (λn f=>.inl f) (λm d=>gA.refl λo b=>(h.bkMay m d o b).1) (λm=>?_) (λ_ _ _ e=>e) (ed _);show gA (eL S.bd n B m) _;by_cases a:m=n
 ·subst a;rw[cO];exact c
 ·rw[eJ _ _ _ a];exact gA.refl (h.bdMay m)
def bo.Ok.setBk(h:S.Ok){n:Int}{B:Bk}(a:∀d,gA (B d) (S.bk n d)):({S with bk:=eL S.bk n B}:bo).Ok:=⟨h.cal,h.led,WO h.ord a,h.next,h.fnd⟩
def bo.Ok.setBd(h:S.Ok){n:Int}{B:List Od}(a:gA B (S.bd n)):({S with bd:=eL S.bd n B}:bo).Ok:=⟨h.cal,h.led,Wh h.ord a,h.next,h.fnd⟩
def J4{B:Bk}(h:Bi B)(p:Od->Bool):∀d,gA (B.flt p d) (B d):=λd=>gA.filter (λo a=>(h d o a).1) p
def LG(h:S.Ok){c:Cm}:(S.cancel c).2.2.Ok:=by
 unfold bo.cancel;cases a:S.find c.acct c.num with
 |some x=>
  obtain⟨o,n⟩:=x;obtain⟨h1,e,g,d,f,b⟩:=pM a;simp only;rw[vM (h.ord.bkNd n) b];exact h.setBk (J4 (h.ord.bkMay n) _)
 |none=>
  simp only;cases j:S.nums.findSome? (uq S.bd c.acct c.num)with
  |none=>exact h
  |some x=>
   obtain⟨i,n⟩:=x;exact h.setBd (gA.of_sub (eB _ _) (h.ord.bdMay n))
def yL(h:S.Ok){c:Cm}(O:c.Fit)(L:c.acct≠0){o:Od}{n:Int}(C:S.find c.acct c.num=some (o,n))(I:S.pass c.acct n o.buy c.price c.qty o=0)(b:(cC (S.bk n) c.num c.price c.qty).1=0):
  ({S with bk:=eL S.bk n (cC (S.bk n) c.num c.price c.qty).2.1}:bo).Ok:=by
  obtain⟨h1,M,F,d,t,u⟩:=pM C;have hp:=xe L I;have g:=h.ord.std n o (ik t);unfold cC at b|-;rw[u]at b|-;simp only at b|-;obtain⟨N,E⟩:=df ({o with price:=c.price,left:=c.qty}:Od);by_cases w:({o with price:=c.price,left:=c.qty}:Od).may=false
  ·grind
  rw[aa w]at b|-;have s:({o with price:=c.price,left:=c.qty}:Od).may=true:=by simpa using w
  by_cases z:c.price=o.price/\c.qty<=o.left
  ·rw[ae z]at b|-;refine h.setBk λe=>?_;show gA (Bk.set _ _ _ e) _;by_cases r:e=d
   ·subst r;rw[Bk.set_self];unfold qz at b|-;cases G:(S.bk n e).findIdx? λx=>decide (x.num=c.num)with
    |none=>exact gA.refl λo p=>(h.ord.bkMay n e o p).1
    |some i=>
     obtain⟨q,-⟩:=bp.1 G;simp only;rw[aq q];simp only;split
     ·grind
     ·exact gA.set (λo p=>(h.ord.bkMay n e o p).1) q hp.qty
   ·rw[Bk.set_ne _ _ r];exact gA.refl λo p=>(h.ord.bkMay n e o p).1
  ·rw[aa z]at b|-;simp only
   have J:(S.bk n).set d (ot (S.bk n d) c.num)=(S.bk n).flt λo=>decide (o.num≠c.num):=by
    have:=vM (h.ord.bkNd n) u;unfold fh at this;rw[u]at this;exact this
   rw[J];have D:=h.setBk (J4 (h.ord.bkMay n) λo=>decide (o.num≠c.num))
   have v:=tn D.ord (n:=n) (o:={o with price:=c.price,left:=c.qty}) (rests:=true) (nx:=S.next) hp.alive s ⟨g.fit.1,g.fit.2.1,by constructor<;>show _<;>simp only<;>have:=hp.price<;>omega,by constructor<;>show _<;>simp only<;>have:=hp.qty<;>omega⟩
    (by show o.num<_;exact g.num) g.acc (λm y A H=>?_) (ed _)
   ·have B:eL (eL S.bk n ((S.bk n).flt λo=>decide (o.num≠c.num))) n (eW (eL S.bk n ((S.bk n).flt λo=>decide (o.num≠c.num)) n) {o with price:=c.price,left:=c.qty} true).1=eL S.bk n (eW ((S.bk n).flt λo=>decide (o.num≠c.num)) {o with price:=c.price,left:=c.qty} true).1:=by
     rw[cO,zj]
    simp only at v;rw[B]at v;exact⟨h.cal,h.led,v,h.next,h.fnd⟩
   ·have k:y.num=o.num:=H
    have l:y∈S.ords m/\(m=n->∀d,y∈S.bk n d->y.num≠c.num):=by
     by_cases j:m=n
     ·subst j;rcases jN A with⟨e,a⟩|a
      ·replace a:y∈eL S.bk m ((S.bk m).flt λo=>decide (o.num≠c.num)) m e:=a;rw[cO]at a;unfold Bk.flt at a;rw[aT,aX]at a;exact absurd (k.trans F) a.2
      ·refine⟨iW a,λ_ e K=>?_⟩;have f:=h.ord.nd m;unfold bo.ords at f;rw[aM,du]at f;exact absurd rfl (f.2.2 _ (aR (qJ.2 ⟨e,K⟩)) _ (aR a))
     ·refine⟨?_,λh=>absurd h j⟩
      have:({S with bk:=eL S.bk n ((S.bk n).flt λo=>decide (o.num≠c.num))}:bo).ords m=S.ords m:=by
       show(eL S.bk n _ m).all++_=_;rw[eJ _ _ _ j];rfl
      rwa[this]at A
    have j:=h.ord.apart m n y o l.1 (ik t) k;subst j;rcases jN l.1 with⟨e,a⟩|a
    ·grind
    ·have f:=h.ord.nd m;unfold bo.ords at f;rw[aM,du]at f;exact absurd k.symm (f.2.2 _ (aR (qJ.2 ⟨d,t⟩)) _ (aR a))
def H2(h:S.Ok){c:Cm}(j:c.Fit)(i:c.acct≠0)(a:(S.replace c).1=0):(S.replace c).2.2.Ok:=by
 unfold bo.replace at a|-;cases b:S.find c.acct c.num with
 |none=>rw[b]at a;cases a
 |some x=>
  obtain⟨o,n⟩:=x;obtain⟨h1,k,p,d,l,m⟩:=pM b;rw[b]at a;simp only at a|-;by_cases f:S.pass c.acct n o.buy c.price c.qty o≠0
  ·grind
  rw[aa f]at a|-;have hp:=xe i (by simpa using f:S.pass c.acct n o.buy c.price c.qty o=0);by_cases g:(cC (S.bk n) c.num c.price c.qty).1≠0
  ·grind
  rw[aa g]at a|-;have e:(cC (S.bk n) c.num c.price c.qty).1=0:=by simpa using g
  exact xO (yL h j i b (by simpa using f) e) (mE h.cal hp.alive) hp.alive _ _
def HL(h:S.Ok){n m:Int}(e:kV n):({S with led:=(S.led.deposit n m).2}:bo).Ok:=by
 have b:=h.led.led;apply h.setLed (bE.deposit_Ok b e) (so (bE.deposit_held _ _ _) h.led.zero) (λ_ o _ d=>Ar b d) (λp hp=>h.led.held p (by rw[bE.deposit_held]at hp;exact hp));rw[bE.deposit_funds b.sa];rcases bE.deposit_cases (S:=S.led) (n:=n) (m:=m)with⟨h1,c⟩|⟨a,h1,c,j,f,i,k,g⟩
 ·rw[aa c];have:=h.fnd;omega
 ·grind
def yq(h:S.Ok){n m:Int}:({S with led:=(S.led.withdraw n m).2}:bo).Ok:=by
 have b:=h.led.led;apply h.setLed (bE.withdraw_Ok b) (so (bE.withdraw_held _ _ _) h.led.zero) (λ_ o _ d=>zd b d) (λp hp=>h.led.held p (by rw[bE.withdraw_held]at hp;exact hp));rw[bE.withdraw_funds b.sa];have:=h.fnd;rcases bE.withdraw_cases (S:=S.led) (n:=n) (m:=m)with⟨h1,c⟩|⟨a,h1,c,g,e,f⟩
 ·rw[aa c];omega
 ·grind
def pL{l:List Ct}{f:Ct->Ct}(b:∀k∈l,(f k).spec.num=k.spec.num)(m:Int):cg (ic l n f) m=(cg l m).map λk=>if k.spec.num=n then f k else k:=by
 unfold cg ic;induction l with
 |nil=>rfl
 |cons k l c=>
  have a:(if k.spec.num=n then f k else k).spec.num=k.spec.num:=by grind
  rw[aD,iz,iz,a];split
  ·rfl
  ·grind
def wy{l:List Ct}{f:Ct->Ct}(b:∀k∈l,(f k).spec.num=k.spec.num)(e:∀k∈l,k.spec.num=n->((f k).st=3↔k.st=3))(m:Int):bt (ic l n f) m=bt l m:=by
 unfold bt;rw[pL b];cases c:cg l m with
 |none=>rfl
 |some k=>
  have d:=rm c;show(if(if k.spec.num=n then f k else k).st=3 then(50:Int)else 0)=if k.st=3 then 50 else 0
  by_cases a:k.spec.num=n
  ·rw[ae a];by_cases h:k.st=3
   ·grind
   ·grind
  ·rw[aa a]
def bo.Ok.setCal(h:S.Ok){C:oe}(hC:C.Ok)(b:∀n,bt C.l n=bt S.cal.l n):({S with cal:=C}:bo).Ok:=
 ⟨hC,⟨h.led.led,λp hp=>by show bt C.l _=0;rw[b];exact h.led.held p hp,h.led.zero⟩,h.ord.mono (λn e=>.inl (by grind)) (λn d=>gA.refl λo a=>(h.ord.bkMay n d o a).1) (λn=>gA.refl (h.ord.bdMay n)) (λ_ _ _ c=>c) (ed _),h.next,h.fnd⟩
def Se(h:S.Ok)(n:Int)(on:Bool):({S with cal:=(jy S.cal n on).2}:bo).Ok:=by
 unfold jy;by_cases h1:bt S.cal.l n≠0
 ·rw[ae h1];exact h
 ·rw[aa h1];have d:bt S.cal.l n=0:=by simpa using h1
  obtain⟨k,b,o,r,s⟩:=nR d;have a:=pv (l:=S.cal.l) (n:=n) (f:=λk=>{k with st:=if on then 2 else 1}) (λk b _=>⟨zA (h.cal.ok k b) (by cases on<;>simp),rfl⟩) h.cal.ok h.cal.srt;refine h.setCal ⟨by show(ic _ _ _).length<=16;rw[a.2.2];exact h.cal.len,h.cal.day,a.1,a.2.1⟩ λm=>?_;refine wy (f:=λk=>{k with st:=if on then 2 else 1}) (λ_ _=>rfl) (λx p c=>?_) m
  have g:x.st≠3:=by
   have:cg S.cal.l n=some x:=by
    unfold cg;have:=h.cal.srt;rw[dJ];obtain⟨i,e,rfl⟩:=bM p;refine⟨by simpa using c,i,e,rfl,λj q=>?_⟩;have:=bL.1 this j i qZ e q;simp;omega
   rw[b]at this;cases this;exact o
  constructor
  ·grind
  ·grind
def HI(h:S.Ok)(n price:Int):({S with cal:=(fJ S.cal n price).2}:bo).Ok:=by
 unfold fJ;cases g:cg S.cal.l n with
 |none=>exact h
 |some k=>
  simp only;split
  ·exact h
  ·rename_i q
   split
   ·exact h
   ·rename_i hp
    have e:k.spec.isPrice price=true:=by simpa using hp
    have c:∀x∈S.cal.l,x.spec.num=n->x=k:=λx d b=>by
     have:cg S.cal.l n=some x:=by
      unfold cg;have:=h.cal.srt;rw[dJ];obtain⟨i,o,rfl⟩:=bM d;refine⟨by simpa using b,i,o,rfl,λj p=>?_⟩;have:=bL.1 this j i qZ o p;simp;omega
     rw[g]at this;cases this;rfl
    have a:=pv (l:=S.cal.l) (n:=n) (f:=λk=>{k with price:=price}) (λx d b=>⟨by rw[c x d b];exact AG (h.cal.ok k (rm g)) e,rfl⟩) h.cal.ok h.cal.srt;refine h.setCal ⟨by show(ic _ _ _).length<=16;rw[a.2.2];exact h.cal.len,h.cal.day,a.1,a.2.1⟩ λm=>?_;exact wy (f:=λk=>{k with price:=price}) (λ_ _=>rfl) (λx d b=>aG) m
def H3{l:List Ct}{p:Ct->Bool}(i:Nat)(k:Ct)(a:l.find? p=none\/p k=false):(l.take i++k::l.drop i).find? p=if p k=true then some k else l.find? p:=by
 rw[List.find?_append,iz];cases hp:p k with
 |true=>
  rcases a with a|a
  ·grind
  ·rw[hp]at a;cases a
 |false=>
  simp only[bj,da];rw[<-List.find?_append,cH]
def vC{l:List Ct}{k:Ct}(a:cg l k.spec.num=none)(i:Nat)(m:Int):cg (l.take i++k::l.drop i) m=if k.spec.num=m then some k else cg l m:=by
 unfold cg at*;rw[H3]
 ·simp
 ·by_cases h:k.spec.num=m
  ·subst h;exact .inl a
  ·grind
def Ry(h:S.Ok){s:Sp}(hs:s.Fit)(c:(fD S.cal s).1=0):({S with cal:=(fD S.cal s).2,bk:=eL S.bk s.num Bk.empty}:bo).Ok:=by
 unfold fD at c|-;by_cases h1:s.may=false
 ·grind
 rw[aa h1]at c|-;by_cases i:(cg S.cal.l s.num).isSome=true
 ·grind
 rw[aa i]at c|-;by_cases w:s.last<S.cal.day
 ·grind
 rw[aa w]at c|-;by_cases u:16<=S.cal.l.length
 ·grind
 rw[aa u];have a:s.may=true:=by simpa using h1
 have j:cg S.cal.l s.num=none:=by
  cases y:cg S.cal.l s.num with
  |none=>rfl
  |some k=>rw[y]at i;exact absurd rfl i
 have t:(mf s).Ok:=⟨⟨hs,⟨by show(0:Int)<=1;omega,by show(1:Int)<256;omega⟩,hs.2.2.2.2.2.2.2.2.2⟩,a,Sp.may_price a,by show(1:Int)<=1;omega,by show(1:Int)<=3;omega⟩
 obtain⟨A,r,D⟩:=CY (k:=mf s) h.cal.srt h.cal.ok t j;have f:=vC (k:=mf s) j (iB S.cal.l s.num)
 have e:∀d,S.bk s.num d=[]:=λd=>by
  have:=h.ord.out s.num (by unfold bt;rw[j];simp);cases C:S.bk s.num d with
  |nil=>rfl
  |cons x l=>
   have b:x∈S.ords s.num:=ik (d:=d) (by grind);rw[this]at b;cases b
 have q:eL S.bk s.num Bk.empty=S.bk:=by
  funext m d;by_cases b:m=s.num
  ·subst b;rw[cO,e d];rfl
  ·rw[eJ _ _ _ b]
 rw[q]
 have g:∀m,bt S.cal.l m=0->bt (S.cal.l.take (iB S.cal.l s.num)++mf s::S.cal.l.drop (iB S.cal.l s.num)) m=0:=λm b=>by
  unfold bt at b|-;rw[f];by_cases c:(mf s).spec.num=m
  ·rw[ae c];rfl
  ·grind
 refine⟨⟨?_,h.cal.day,A,r⟩,⟨h.led.led,λp hp=>g _ (h.led.held p hp),h.led.zero⟩,h.ord.mono (λn z=>.inl λB=>z (g n B)) (λn d=>gA.refl λo v=>(h.ord.bkMay n d o v).1) (λn=>gA.refl (h.ord.bdMay n)) (λ_ _ _ hs=>hs) (ed _),h.next,h.fnd⟩;show(List.take _ _++_::List.drop _ _).length<=16;rw[ag,be,aB,bq];omega
def bo.Ok.clear(h:S.Ok){a k:Int}(c:a≠0):(S.clear a k).2.Ok:=by
 obtain⟨b,d,e⟩:=tp h.ord (k:=k) c;exact⟨by rw[b];exact h.cal,by rw[b,d];exact h.led,xU h.ord c,by rw[e];exact h.next,by rw[d];exact h.fnd⟩
def Tz(h:S.led.Ok){a:Int}(c:S.led.getO a≠none):(S.acc a).num=a/\S.led.getO a=some (S.acc a):=by
 unfold bo.acc;cases b:S.led.getO a with
 |none=>exact absurd b c
 |some x=>exact⟨(h.getO b).1,rfl⟩
def bE.set_ok1{S:bE}{a:Ac}(h:(S.set a).1=0):(S.set a).2=S.putA a:=by
 rcases bE.set_cases S a with⟨-,b⟩|⟨h1,-⟩
 ·exact absurd h b
 ·rw[h1]
def WY(h:S.Ok){a:Ac}(f:kV a.num)(hs:∀n o,o∈S.ords n->S.led.Stands o.acct->o.acct=a.num->a.kil=false/\a.dfl=false)(c:(S.led.set a).2.funds<=MF):({S with led:=(S.led.set a).2}:bo).Ok:=
 h.setLed (bE.set_Ok h.led.led f) (so (oz _ _) h.led.zero) (λn o d b=>vL h.led.led b λe=>hs n o d b e.symm) (λp hp=>h.led.held p (by rw[oz]at hp;exact hp)) c
def Tv(h:S.Ok){a:Int}(f:a≠0)(r:kV a)(l:S.led.getO a≠none)(on:Bool):({(if on then(S.clear a 0).2 else S)with led:=((if on then(S.clear a 0).2 else S).led.set {S.acc a with kil:=on}).2}:bo).Ok:=by
 obtain⟨b,e⟩:=Tz h.led.led l
 have key:∀T:bo,T.Ok->T.led=S.led->(∀n o,o∈T.ords n->T.led.Stands o.acct->o.acct=a->on=false)->({T with led:=(T.led.set {S.acc a with kil:=on}).2}:bo).Ok:=λT m j p=>by
  refine WY m (a:={S.acc a with kil:=on}) (by grind) (λn o g c i=>?_) ?_
  ·have d:o.acct=a:=i.trans b;refine⟨p n o g c d,?_⟩;obtain⟨x,q,-,k⟩:=c
   have:S.acc a=x:=by
    unfold bo.acc;rw[og f,<-d,<-j,q];rfl
   show(S.acc a).dfl=false;rw[this];exact k
  ·rw[j];rcases bE.set_cases S.led {S.acc a with kil:=on}with⟨h1,-⟩|⟨h1,-⟩
   ·rw[h1];exact h.fnd
   ·rw[h1];show(S.led.putA {S.acc a with kil:=on}).funds<=MF;rw[bE.funds_putA h.led.led.sa];show S.led.funds+(S.acc a).cash - ((S.led.getO (S.acc a).num).getD _).cash<=MF;rw[b,e];have:=h.fnd;simp only[dt];omega
 cases on with
 |true=>exact key _ (h.clear f) (tp h.ord f).2.1 λn o g _ i=>absurd i (AE h.ord f g).1
 |false=>exact key S h rfl λ_ _ _ _ _=>rfl
end Go.Proofs
