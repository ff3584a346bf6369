/- Part of a proof. -/
import Derived.Test.YtekbnpagidkbbaaGreatQ25
set_option linter.all false
namespace Go.Proofs
open Go Go.Vc
variable {B:Bk}{buy rests:Bool}{a:Int}{A:List Ac}{U:List Int}{P:List Po}{o:Od}{s:Sp}{S T:bo}
structure mJ(S S' :bo):Prop where
 cal:∀n k',cg S'.cal.l n=some k' ->∃k,cg S.cal.l n=some k/\k'.spec=k.spec
 bk:∀n d,(S'.bk n d).Sublist (S.bk n d)
 bd:∀n,((S'.bd n).map Od.key).Sublist ((S.bd n).map Od.key)
def mJ.refl(S:bo):mJ S S:=⟨λn k h=>⟨k,h,rfl⟩,λ_ _=>bZ _,λ_=>bZ _⟩
def mJ.trans{U:bo}(h:mJ S T)(a:mJ T U):mJ S U:=
 ⟨λn k b=>by
  obtain⟨k1,e,f⟩:=a.cal n k b;obtain⟨k2,c,g⟩:=h.cal n k1 e;exact⟨k2,c,f.trans g⟩,λn d=>(a.bk n d).trans (h.bk n d),λn=>(a.bd n).trans (h.bd n)⟩
def mJ.led(h:mJ S T)(L:bE):mJ S {T with led:=L}:=⟨h.cal,h.bk,h.bd⟩
def mJ.bk1(h:mJ S T)(n:Int)(B:Bk)(b:∀d,(B d).Sublist (T.bk n d)):mJ S {T with bk:=eL T.bk n B}:=
 h.trans ⟨λn k h=>⟨k,h,rfl⟩,λm d=>by
  show(eL T.bk n B m d).Sublist _;by_cases a:m=n
  ·subst a;rw[cO];exact b d
  ·rw[eJ _ _ _ a];exact bZ _,λ_=>bZ _⟩
def mJ.bd1(h:mJ S T)(n:Int)(B:List Od)(b:(B.map Od.key).Sublist ((T.bd n).map Od.key)):mJ S {T with bd:=eL T.bd n B}:=
 h.trans ⟨λn k h=>⟨k,h,rfl⟩,λ_ _=>bZ _,λm=>by
  show((eL T.bd n B m).map Od.key).Sublist _;by_cases a:m=n
  ·subst a;rw[cO];exact b
  ·rw[eJ _ _ _ a];exact bZ _⟩
def mJ.cal1(h:mJ S T){C:oe}(hC:∀n a,cg C.l n=some a->∃k,cg T.cal.l n=some k/\a.spec=k.spec):mJ S {T with cal:=C}:=
 h.trans ⟨hC,λ_ _=>bZ _,λ_=>bZ _⟩
def mJ.set1(h:mJ S T)(n:Int){f:Ct->Ct}(b:∀k,(f k).spec=k.spec)(d:Int):mJ S {T with cal:=⟨d,ic T.cal.l n f⟩}:=by
 refine h.cal1 λm e a=>?_;replace a:cg (ic T.cal.l n f) m=some e:=a;rw[pL (λk _=>by rw[b])]at a;cases c:cg T.cal.l m with
 |none=>rw[c]at a;cases a
 |some k=>
  rw[c]at a;refine⟨k,rfl,?_⟩;have a:(if k.spec.num=n then f k else k)=e:=cS a;rw[<-a];split
  ·exact b k
  ·rfl
def zJ(l:List Od)(n:Int):(ot l n).Sublist l:=List.eraseP_sublist
def yu(B:Bk)(n:Int)(d:Bool):((fh B n).2.1 d).Sublist (B d):=by
 unfold fh;split
 ·exact bZ _
 ·rename_i o e _
  show(Bk.set _ _ _ d).Sublist _;by_cases h:d=e
  ·subst h;rw[Bk.set_self];exact zJ _ _
  ·rw[Bk.set_ne _ _ h];exact bZ _
def xz(a:Int):∀(l:List Od) (B:Bk) (d:Bool),(tR a B l d).Sublist (B d)
 | [],B,d=>bZ _
 |o::l,B,d=>by
  show(tR a (if ly a o then(fh B o.num).2.1 else B) l d).Sublist _;refine(xz a l _ d).trans ?_;split
  ·exact yu B o.num d
  ·exact bZ _
def SE(a:Int)(x:List Int×bo)(n:Int):mJ x.2 (tY a x n).2:=by
 have h1:=(mJ.refl x.2).bk1 n (iK (x.2.bk n) a).1 λd=>xz a _ _ d;exact h1.bd1 n ((x.2.bd n).filter λo=> !kO a o) (ew.map _)
def EQ(a:Int):∀(b:List Int) (x:List Int×bo),mJ x.2 (b.foldl (tY a) x).2
 | [],x=>mJ.refl _
 |n::b,x=>(SE a x n).trans (EQ a b (tY a x n))
def yk(S:bo)(a k:Int):mJ S (S.clear a k).2:=EQ a _ ([],S)
def wO:∀(l:List Sd) (r:Rp) (S:bo),mJ S (mR l r S).2.2
 | [],r,S=>mJ.refl S
 |s::l,r,S=>by
  have h1:=yk S s.acct 0;cases a:s.dfl<;>simp only[mR,a,cZ,da,bj]
  ·split
   ·exact(mJ.refl S).led _
   ·exact((mJ.refl S).led _).trans (wO l _ _)
  ·split
   ·exact h1.led _
   ·exact(h1.led _).trans (wO l _ _)
def zz(S:bo)(won:Int->Int):mJ S (S.pay won).2.2:=by
 unfold bo.pay;simp only;split
 ·exact mJ.refl S
 ·split
  ·exact wO _ _ _
  ·exact(wO _ _ _).led _
def IQ(S:bo):mJ S S.settle.2.2:=by
 have a:mJ S {S with cal:=(eS S.cal).2}:=(mJ.refl S).cal1 λn b h=>⟨b,by rw[<-Ix S.cal];exact h,rfl⟩
 unfold bo.settle;simp only;split
 ·exact a
 ·split
  ·exact a.led _
  ·split
   ·exact(a.led _).trans (zz _ _)
   ·exact((a.led _).trans (zz _ _)).led _
def Hs(S:bo)(n:Int):mJ S (S.expire n).2.2:=by
 have a:mJ S {S with cal:=(fq S.cal n).2}:=by
  unfold fq;split
  ·exact mJ.refl S
  ·exact(mJ.refl S).set1 n (f:=λk=>{k with st:=3}) (λ_=>rfl) _
 unfold bo.expire;simp only;split
 ·exact a
 ·split
  ·exact a.led _
  ·split
   ·exact(a.led _).trans (zz _ _)
   ·exact(((a.led _).trans (zz _ _)).bk1 n _ λd=>xz 0 _ _ d).bd1 n [] (List.nil_sublist _)
def NL(S:bo)(n:Int)(on:Bool):mJ S {S with cal:=(jy S.cal n on).2}:=by
 unfold jy;split
 ·exact mJ.refl S
 ·exact(mJ.refl S).set1 n (f:=λk=>{k with st:=if on then 2 else 1}) (λ_=>rfl) _
def EL(S:bo)(n p:Int):mJ S {S with cal:=(fJ S.cal n p).2}:=by
 unfold fJ;split
 ·exact mJ.refl S
 ·split
  ·exact mJ.refl S
  ·split
   ·exact mJ.refl S
   ·exact(mJ.refl S).set1 n (f:=λk=>{k with price:=p}) (λ_=>rfl) _
def Il(S:bo)(c:Cm):mJ S (S.cancel c).2.2:=by
 unfold bo.cancel;split
 ·exact(mJ.refl S).bk1 _ _ λd=>yu _ _ d
 ·split
  ·exact(mJ.refl S).bd1 _ _ ((eB _ _).map _)
  ·exact mJ.refl S
def FP(l:List Od)(num qty:Int):((kz l num qty).map Od.key).Sublist (l.map Od.key):=by
 unfold kz;split
 ·exact bZ _
 ·rename_i i b
  obtain⟨a,-⟩:=bp.1 b;simp only;split
  ·exact(eB _ _).map _
  ·rw[gy]
   have:Od.key {l.getD i nZ with left:=(l.getD i nZ).left - qty}=(l.map Od.key)[i]'(by simpa using a):=by
    rw[cD];simp[a,Od.key]
   rw[this,gw];exact bZ _
def AL{n a:Int}{long:Bool}{price:Int}:∀(l:List Fl) (left:Int) (r:Rp) (S:bo),mJ S (nr n a long price l left r S).2.2.2
 | [],left,r,S=>mJ.refl S
 |f::l,left,r,S=>by
  unfold nr;simp only;split
  ·exact(mJ.refl S).led _
  ·refine mJ.trans ?_ (AL l _ _ _);exact((mJ.refl S).led (lO S.led n a f.acct long price f.qty).2).bd1 n _ (FP (S.bd n) f.num f.qty)
def AY{n a:Int}{long:Bool}{price:Int}:∀(l:List Hd) (r:Rp) (S:bo),mJ S (mV n a long price l r S).2.2
 | [],r,S=>mJ.refl S
 |x::l,r,S=>by
  unfold mV;simp only;split
  ·exact(mJ.refl S).led _
  ·exact((mJ.refl S).led _).trans (AY l _ _)
def G9(S:bo)(k:Ct)(a q:Int)(r:Rp):mJ S (S.sell k a q r).2.2:=by
 unfold bo.sell
 dsimp only
 generalize iJ _ _ _=X;by_cases c:X.2.2≠0
 ·rw[ae c];exact mJ.refl S
 rw[aa c];have h:=AL (n:=k.spec.num) (a:=a) (long:=decide (0<q)) (price:=X.1) X.2.1 (max q (-q)) r S;generalize nr k.spec.num a _ _ _ _ r S=Y at h|-;by_cases h1:Y.1≠0
 ·rw[ae h1];exact h
 rw[aa h1];by_cases b:Y.2.1=0
 ·rw[ae b];exact h
 rw[aa b];generalize jR _ _=Z;by_cases d:Z.2≠0
 ·rw[ae d];exact h
 rw[aa d];exact h.trans (AY _ _ _)
def xA(a:Int):∀(l:List Ct) (r:Rp) (S:bo),mJ S (pf a l r S).2.2
 | [],r,S=>mJ.refl S
 |k::l,r,S=>by
  unfold pf;simp only;split
  ·exact xA a l r S
  ·split
   ·exact G9 S _ _ _ _
   ·exact(G9 S _ _ _ _).trans (xA a l _ _)
def SA(S:bo)(a:Ac):mJ S (S.liquidate a).2.2:=by
 unfold bo.liquidate;split
 ·exact mJ.refl S
 ·exact xA _ _ _ _
def vX(buy:Bool)(l:List Od):Prop:=l.Pairwise λa b=>ip buy b.price a.price=false
structure Yt(B:Bk):Prop where
 srt:∀d,vX d (B d)
 unc:∀b∈B true,∀s∈B false,b.price<s.price
structure uW(S:bo):Prop where
 bks:∀n,Yt (S.bk n)
 spc:∀n k,cg S.cal.l n=some k->(∀o∈S.ords n,k.spec.isPrice o.price=true)/\∀d,∀o∈S.bk n d,k.spec.isQty o.left=true
 bdn:∀n,(S.bd n).Pairwise λa b=>a.num<b.num
def GV{l c:List Od}(h:(c.map Od.key).Sublist (l.map Od.key))(hs:vX buy l):vX buy c:=by
 have h1:(l.map Od.key).Pairwise λa b=>ip buy b.2.2.2 a.2.2.2=false:=eA.2 hs;exact eA.1 (h1.sublist h)
def uW.sub{S' :bo}(h:uW S)(hs:mJ S S'):uW S' :=by
 refine⟨λn=>⟨λd=>(h.bks n).srt d |>.sublist (hs.bk n d),λb l s c=>(h.bks n).unc b ((hs.bk n _).mem l) s ((hs.bk n _).mem c)⟩,λn r m=>?_,λn=>?_⟩
 ·obtain⟨k,h1,j⟩:=hs.cal n r m;obtain⟨i,p⟩:=h.spc n k h1;rw[j];refine⟨λo g=>?_,λd o g=>p d o ((hs.bk n d).mem g)⟩;rcases jN g with⟨d,e⟩|e
  ·exact i o (ik ((hs.bk n d).mem e))
  ·obtain⟨u,t,q⟩:=aL.1 ((hs.bd n).mem (aR e));rw[<-qR q];exact i u (iW t)
 ·have h1:((S.bd n).map Od.key).Pairwise λa b=>a.1<b.1:=eA.2 (h.bdn n);exact(eA (f:=Od.key) (R:=λa b=>a.1<b.1)).1 (h1.sublist (hs.bd n))
def RP:uW bo.empty:=⟨λn=>⟨λd=>List.Pairwise.nil,λb c=>(by cases c)⟩,λn k a=>(by cases a),λn=>List.Pairwise.nil⟩
def PM{l:List Od}(h:vX buy l):vX buy (sk buy l o):=by
 unfold sk Ee;cases n:l.findIdx? λx=>ip buy o.price x.price with
 |none=>
  rw[dC]at n;simp only[Option.getD_none,aV,gi];refine de.2 ⟨h,List.pairwise_singleton ..,λa d b c=>?_⟩;rw[bN.1 c];simpa using n a d
 |some i=>
  obtain⟨m,hp,p⟩:=bp.1 n;simp only[dt];have g:=h;unfold vX at g;rw[<-cH i l,de]at g;obtain⟨h1,f,r⟩:=g
  have e:∀a∈l.take i,ip buy o.price a.price=false:=λa d=>by
   obtain⟨j,s,rfl⟩:=bM d;rw[aB]at s;rw[List.getElem_take];simpa using p j qZ
  have k:∀b∈l.drop i,ip buy b.price o.price=false:=λb c=>by
   have q:ip buy b.price l[i].price=false:=by
    rw[dA m]at c f;rcases ar.1 c with rfl|c
    ·unfold ip;cases buy<;>simp
    ·exact(bX.1 f).1 b c
   unfold ip at q hp|-;cases buy<;>simp at* <;>omega
  refine de.2 ⟨h1,bX.2 ⟨k,f⟩,λa d b c=>?_⟩;rcases ar.1 c with rfl|c
  ·exact e a d
  ·exact r a d b c
def xn{o:Od}:∀{L:List Od} {left:Int},0<(eN o left L).1->(eN o left L).2.1=[]\/∃b r,(eN o left L).2.1=b::r/\gt o b.price=false
 | [],left,h=>.inl rfl
 |b::r,left,h=>by
  unfold eN at h|-;by_cases h1:left<=0\/gt o b.price=false
  ·rw[ae h1]at h|-;rcases h1 with h1|h1
   ·simp only at h;omega
   ·exact .inr ⟨b,r,rfl,h1⟩
  rw[aa h1]at h|-;by_cases a:b.acct=o.acct
  ·rw[ae a]at h|-;exact xn (left:=left) h
  rw[aa a]at h|-;by_cases c:left<b.left
  ·rw[ae c]at h;cases h
  ·rw[aa c]at h|-;exact xn (left:=left - b.left) h
def L3{L:List Od}(hs:vX (!o.buy) L)(h:L=[]\/∃b r,L=b::r/\gt o b.price=false):∀x∈L,gt o x.price=false:=by
 intro x c;rcases h with rfl|⟨b,r,rfl,a⟩
 ·cases c
 ·rcases ar.1 c with rfl|c
  ·exact a
  ·have:=(bX.1 hs).1 x c;unfold ip at this;unfold gt at a|-;cases h:o.buy<;>rw[h]at this a<;>simp at this a|- <;>omega
def NJ(v:Bi B)(q:o.may=true)(hs:Yt B):Yt (eW B o rests).1:=by
 have m:=wV (rests:=rests) v q;have w:=ir q;have k:=GV m.opp.sub (hs.srt _)
 have c:0<(eW B o rests).2.left->∀x∈(eW B o rests).1 (!o.buy),gt o x.price=false:=by
  intro n;refine L3 k ?_;unfold eW at n|-;simp only at n|-;by_cases h1:rests=true/\0<(eN o o.left (B !o.buy)).1
  ·rw[ae h1];show Bk.set _ _ _ _=[]\/∃b r,Bk.set _ _ _ _=b::r/\_;rw[Bk.set_other,Bk.set_self];exact xn h1.2
  ·rw[aa h1]at n;simp only at n;omega
 have j:vX o.buy ((eW B o rests).1 o.buy):=by
  rcases m.own with h1|⟨-,h1,-⟩
  ·rw[h1];exact hs.srt _
  ·rw[h1];exact PM (hs.srt _)
 refine⟨λd=>?_,λb i s e=>?_⟩
 ·by_cases t:d=o.buy
  ·subst t;exact j
  ·obtain rfl:d= !o.buy:=by cases d<;>cases h:o.buy<;>simp_all
   exact k
 ·have old:∀x∈(eW B o rests).1 (!o.buy),∃y∈B (!o.buy),y.price=x.price:=λx u=>by
   obtain⟨y,h1,g⟩:=m.opp.mem u;exact⟨y,h1,qR g⟩
  cases a:o.buy with
  |true=>
   rw[a]at old c;obtain⟨y,h1,g⟩:=old s e;rcases m.own with f|⟨f,l,-⟩
   ·rw[a]at f;rw[f]at i;rw[<-g];exact hs.unc b i y h1
   ·rw[a]at l;rw[l]at i;rcases ar.1 ((nM _ _ _).mem_iff.1 i)with rfl|p
    ·have:=c f s e;unfold gt at this;rw[a]at this;simpa using this
    ·rw[<-g];exact hs.unc b p y h1
  |false=>
   rw[a]at old c;obtain⟨y,h1,g⟩:=old b i;rcases m.own with f|⟨f,l,-⟩
   ·rw[a]at f;rw[f]at e;rw[<-g];exact hs.unc y h1 s e
   ·rw[a]at l;rw[l]at e;rcases ar.1 ((nM _ _ _).mem_iff.1 e)with rfl|p
    ·have:=c f b i;unfold gt at this;rw[a]at this;simpa using this
    ·rw[<-g];exact hs.unc y h1 s p
def zG{q:Int}:s.isQty q=true↔s.may=true/\(1<=q/\q<=1000000)/\s.lot∣q:=by
 unfold Sp.isQty;rw[ao,ao,eU,aX,Int.dvd_iff_tmod_eq_zero]
def ym{s:Sp}{o:Od}:∀{L:List Od} {left:Int},0<=left->left<=1000000->s.lot∣left->(∀b∈L,s.isQty b.left=true)->s.lot∣(eN o left L).1/\∀b∈(eN o left L).2.1,s.isQty b.left=true
 | [],left,_,_,h1,_=>⟨h1,λb d=>(by cases d)⟩
 |b::r,left,l,f,h1,c=>by
  unfold eN;have d:=c b ai;have e:=λx a=>c x (af _ a);obtain⟨k,m,g⟩:=zG.1 d;by_cases h:left<=0\/gt o b.price=false
  ·rw[ae h];exact⟨h1,c⟩
  rw[aa h];by_cases i:b.acct=o.acct
  ·rw[ae i];exact ym (left:=left) l f h1 e
  rw[aa i];by_cases j:left<b.left
  ·rw[ae j];refine⟨Int.dvd_zero _,λx a=>?_⟩;rcases ar.1 a with rfl|a
   ·exact zG.2 ⟨k,⟨by show 1<=b.left - left;omega,by show b.left - left<=1000000;omega⟩,Int.dvd_sub g h1⟩
   ·exact e x a
  ·rw[aa j];exact ym (left:=left - b.left) qZ qZ (Int.dvd_sub h1 g) e
def KR(n:Bi B)(c:o.may=true)(i:s.isQty o.left=true)(b:∀d,∀x∈B d,s.isQty x.left=true):∀d,∀x∈(eW B o rests).1 d,s.isQty x.left=true:=by
 have e:=wV (rests:=rests) n c;have r:=ir c;obtain⟨j,t,l⟩:=zG.1 i;obtain⟨m,g⟩:=ym (s:=s) (o:=o) (L:=B !o.buy) (left:=o.left) qZ qZ l (b _);intro d x a;by_cases f:d=o.buy
 ·subst f;rcases e.own with h1|⟨p,h1,-⟩
  ·rw[h1]at a;exact b _ x a
  ·rw[h1]at a;rcases ar.1 ((nM _ _ _).mem_iff.1 a)with rfl|k
   ·have q:=e.fill;refine zG.2 ⟨j,⟨by show 1<=(eW B o rests).2.left;omega,by show(eW B o rests).2.left<=_;omega⟩,?_⟩;show s.lot∣(eW B o rests).2.left;unfold eW;simp only;split
    ·exact m
    ·exact Int.dvd_zero _
   ·exact b _ x k
 ·obtain rfl:d= !o.buy:=by cases d<;>cases h:o.buy<;>simp_all
  apply g;unfold eW at a;simp only at a;split at a
  ·replace a:x∈Bk.set _ _ _ (!o.buy):=a
   rwa[Bk.set_other,Bk.set_self]at a
  ·replace a:x∈Bk.set _ _ _ (!o.buy):=a
   rwa[Bk.set_self]at a
def Mr{g:Gt}(h:g.check=0):g.k.spec.isQty g.qty=true:=by
 unfold Gt.check at h
 repeat (split at h;·cases h)
 all_goals simp_all
def CX{n:Int}{price qty:Int}{w:Od}(b:a≠0)(h:S.pass a n buy price qty w=0):∃k,cg S.cal.l n=some k/\k.spec.isPrice price=true/\k.spec.isQty qty=true:=by
 obtain⟨k,h1,-,c,-⟩:=(xe b h).opn;refine⟨k,h1,c,?_⟩;unfold bo.pass at h;split at h
 ·cases h
 split at h
 ·rename_i d;exact absurd h d
 have:=Mr h;unfold dI at this;rw[h1]at this;exact this
def uW.bk1(h:uW S){n:Int}{k:Ct}(i:cg S.cal.l n=some k){B:Bk}{L:bE}{nx:Int}(h1:Yt B)(g:∀d,∀o∈B d,k.spec.isPrice o.price=true/\k.spec.isQty o.left=true):uW {S with bk:=eL S.bk n B,led:=L,next:=nx}:=by
 refine⟨λm=>?_,λm f e=>?_,h.bdn⟩
 ·show Yt (eL S.bk n B m);by_cases c:m=n
  ·subst c;rw[cO];exact h1
  ·rw[eJ _ _ _ c];exact h.bks m
 ·by_cases c:m=n
  ·subst c;have:f=k:=cS (e.symm.trans i);subst this;refine⟨λo b=>?_,λd o b=>?_⟩
   ·rcases jN b with⟨d,a⟩|a
    ·replace a:o∈eL S.bk m B m d:=a;rw[cO]at a;exact(g d o a).1
    ·exact(h.spc m f i).1 o (iW a)
   ·replace b:o∈eL S.bk m B m d:=b;rw[cO]at b;exact(g d o b).2
  ·have:=h.spc m f e;refine⟨λo b=>?_,λd o b=>?_⟩
   ·rcases jN b with⟨d,a⟩|a
    ·replace a:o∈eL S.bk n B m d:=a;rw[eJ _ _ _ c]at a;exact this.1 o (ik a)
    ·exact this.1 o (iW a)
   ·replace b:o∈eL S.bk n B m d:=b;rw[eJ _ _ _ c]at b;exact this.2 d o b
def Gr(e:Bi B)(c:o.may=true)(hp:s.isPrice o.price=true)(j:s.isQty o.left=true)(b:∀d,∀x∈B d,s.isPrice x.price=true/\s.isQty x.left=true):
  ∀d,∀x∈(eW B o rests).1 d,s.isPrice x.price=true/\s.isQty x.left=true:=by
 have f:=wV (rests:=rests) e c;intro d x a;refine⟨?_,KR e c j (λd x a=>(b d x a).2) d x a⟩;by_cases g:d=o.buy
 ·subst g;rcases f.own with h1|⟨l,h1,-⟩
  ·rw[h1]at a;exact(b _ x a).1
  ·rw[h1]at a;rcases ar.1 ((nM _ _ _).mem_iff.1 a)with rfl|k
   ·exact hp
   ·exact(b _ x k).1
 ·obtain rfl:d= !o.buy:=by cases d<;>cases h:o.buy<;>simp_all
  obtain⟨y,h1,i⟩:=f.opp.mem a;rw[<-qR i];exact(b _ y h1).1
def GJ(h:uW S)(n:Int)(o:Od)(p:Pm):uW (S.traded n o p).2.2:=by
 rw[AX];exact h.sub ((mJ.refl S).led _)
def uW.book(h:uW S){n:Int}{k:Ct}(a:cg S.cal.l n=some k):∀d,∀o∈S.bk n d,k.spec.isPrice o.price=true/\k.spec.isQty o.left=true:=
 λd o b=>⟨(h.spc n k a).1 o (ik b),(h.spc n k a).2 d o b⟩
def RV(h:S.Ok)(g:uW S){c:Cm}(l:c.acct≠0)(b:(S.place c).1=0):uW (S.place c).2.2:=by
 unfold bo.place at b|-;simp only at b|-;by_cases h1:(S.order c).1≠0
 ·rw[ae h1]at b;exact absurd b h1
 rw[aa h1]at b|-;have a:(S.order c).1=0:=by simpa using h1
 obtain⟨hp,o,n⟩:=pV l a
 have f:S.pass c.acct c.ct c.buy c.price c.qty nZ=0:=by
  unfold bo.order at a;simp only at a;apply aI;intro m;rw[ae m]at a;exact m a
 obtain⟨k,i,k1,k2⟩:=CX l f;rw[n]at b|-;simp only at b|-;by_cases d:(cV (S.bk c.ct) (c.od S.next) c.ty).1≠0
 ·rw[ae d]at b;exact absurd b d
 rw[aa d]at b|-;obtain⟨e,j,-⟩:=zH (by simpa using d:(cV (S.bk c.ct) (c.od S.next) c.ty).1=0);rw[e];exact GJ (g.bk1 i (NJ (h.ord.bkMay _) j (g.bks _)) (Gr (h.ord.bkMay _) j k1 k2 (g.book i))) _ _ _
def Zg(h:S.Ok)(i:uW S){c:Cm}(r:c.acct≠0)(f:(S.bid c).1=0):uW (S.bid c).2.2:=by
 unfold bo.bid at f|-;simp only at f|-;by_cases h1:(S.order c).1≠0
 ·rw[ae h1]at f;exact absurd f h1
 rw[aa h1]at f|-;have q:(S.order c).1=0:=by simpa using h1
 obtain⟨hp,w,g⟩:=pV r q;obtain⟨k,u,-,k1,-⟩:=hp.opn;rw[g]at f|-;simp only at f|-;by_cases s:50<=(S.bd c.ct).length
 ·rw[ae s]at f;cases f
 rw[aa s]
 have j:∀m,∀o∈eL S.bd c.ct (S.bd c.ct++[c.od S.next]) m,o∈S.bd m\/(o=c.od S.next/\m=c.ct):=λm o g=>by
  by_cases l:m=c.ct
  ·subst l;rw[cO]at g;exact(bm.1 g).imp id λh=>⟨bN.1 h,rfl⟩
  ·rw[eJ _ _ _ l]at g;exact .inl g
 refine⟨i.bks,λm n e=>⟨λo g=>?_,(i.spc m n e).2⟩,λm=>?_⟩
 ·rcases jN g with⟨d,p⟩|p
  ·exact(i.spc m n e).1 o (ik p)
  ·rcases j m o p with v|⟨rfl,rfl⟩
   ·exact(i.spc m n e).1 o (iW v)
   ·have:n=k:=cS (e.symm.trans u);rw[this];exact k1
 ·show(eL S.bd c.ct (S.bd c.ct++[c.od S.next]) m).Pairwise _;by_cases l:m=c.ct
  ·subst l;rw[cO];refine de.2 ⟨i.bdn _,List.pairwise_singleton ..,λa r b t=>?_⟩;rw[bN.1 t];exact(h.ord.std _ a (iW r)).num
  ·rw[eJ _ _ _ l];exact i.bdn m
def Lu(h:S.Ok)(u:uW S){c:Cm}(U:c.acct≠0)(a:(S.replace c).1=0):uW (S.replace c).2.2:=by
 unfold bo.replace at a|-;cases G:S.find c.acct c.num with
 |none=>rw[G]at a;cases a
 |some x=>
  obtain⟨o,n⟩:=x;obtain⟨h1,V,X,d,W,P⟩:=pM G;rw[G]at a;simp only at a|-;by_cases B:S.pass c.acct n o.buy c.price c.qty o≠0
  ·rw[ae B]at a;exact absurd a B
  rw[aa B]at a|-;obtain⟨k,D,k1,k2⟩:=CX U (by simpa using B:S.pass c.acct n o.buy c.price c.qty o=0);by_cases r:(cC (S.bk n) c.num c.price c.qty).1≠0
  ·rw[ae r]at a;exact absurd a r
  rw[aa r]at a|-;refine GJ ?_ _ _ _;have m:=u.book D;unfold cC at r|-;rw[P]at r|-;simp only at r|-;by_cases F:({o with price:=c.price,left:=c.qty}:Od).may=false
  ·rw[ae F]at r;exact absurd (show(2:Int)≠0 by decide) r
  rw[aa F];have w:({o with price:=c.price,left:=c.qty}:Od).may=true:=by simpa using F
  by_cases I:c.price=o.price/\c.qty<=o.left
  ·rw[ae I];simp only
   have p:((qz (S.bk n d) c.num c.qty).2.map Od.key=(S.bk n d).map Od.key)/\∀y∈(qz (S.bk n d) c.num c.qty).2,y∈S.bk n d\/y.left=c.qty:=by
    unfold qz;cases R:(S.bk n d).findIdx? λx=>decide (x.num=c.num)with
    |none=>exact⟨rfl,λy g=>.inl g⟩
    |some i=>
     obtain⟨A,-⟩:=bp.1 R;simp only;rw[aq A];simp only;split
     ·exact⟨rfl,λy g=>.inl g⟩
     ·refine⟨?_,λy g=>(ep g).imp id λh=>by rw[h]⟩;rw[gy];have:Od.key {(S.bk n d)[i]with left:=c.qty}=((S.bk n d).map Od.key)[i]'(by simpa using A):=by rw[cD];rfl
      rw[this,gw]
   have q:∀e,((S.bk n).set d (qz (S.bk n d) c.num c.qty).2 e).map Od.key=(S.bk n e).map Od.key:=λe=>by
    by_cases a:e=d
    ·subst a;rw[Bk.set_self];exact p.1
    ·rw[Bk.set_ne _ _ a]
   have l:∀e,∀y∈(S.bk n).set d (qz (S.bk n d) c.num c.qty).2 e,∃z∈S.bk n e,z.price=y.price:=λe y g=>by
    have v:=aR (f:=Od.key) g;rw[q e]at v;obtain⟨z,T,E⟩:=aL.1 v;exact⟨z,T,qR E⟩
   refine u.bk1 D ⟨λe=>GV (by rw[q e];exact bZ _) ((u.bks n).srt e),λb C s H=>?_⟩ λe y g=>?_
   ·obtain⟨L,K,Q⟩:=l _ b C;obtain⟨J,s1,N⟩:=l _ s H;rw[<-Q,<-N];exact(u.bks n).unc L K J s1
   ·obtain⟨z,O,M⟩:=l e y g;refine⟨by rw[<-M];exact(m e z O).1,?_⟩;by_cases a:e=d
    ·subst a;rw[Bk.set_self]at g;rcases p.2 y g with v|v
     ·exact(m e y v).2
     ·rw[v];exact k2
    ·rw[Bk.set_ne _ _ a]at g;exact(m e y g).2
  ·rw[aa I];simp only
   have j:∀e,((S.bk n).set d (ot (S.bk n d) c.num) e).Sublist (S.bk n e):=λe=>by
    by_cases a:e=d
    ·subst a;rw[Bk.set_self];exact zJ _ _
    ·rw[Bk.set_ne _ _ a];exact bZ _
   have t:Bi ((S.bk n).set d (ot (S.bk n d) c.num)):=λe y g=>h.ord.bkMay n e y ((j e).mem g);refine u.bk1 D (NJ t w ⟨λe=>((u.bks n).srt e).sublist (j e),λb C s H=>(u.bks n).unc b ((j _).mem C) s ((j _).mem H)⟩) (Gr t w k1 k2 λe y g=>m e y ((j e).mem g))
def WW(h:S.Ok)(i:uW S){s:Sp}(c:(fD S.cal s).1=0):uW {S with cal:=(fD S.cal s).2,bk:=eL S.bk s.num Bk.empty}:=by
 unfold fD at c|-;by_cases h1:s.may=false
 ·rw[ae h1]at c;cases c
 rw[aa h1]at c|-;by_cases l:(cg S.cal.l s.num).isSome=true
 ·rw[ae l]at c;cases c
 rw[aa l]at c|-;by_cases u:s.last<S.cal.day
 ·rw[ae u]at c;cases c
 rw[aa u]at c|-;by_cases r:16<=S.cal.l.length
 ·rw[ae r]at c;cases c
 rw[aa r]
 have q:cg S.cal.l s.num=none:=by
  cases i:cg S.cal.l s.num with
  |none=>rfl
  |some k=>rw[i]at l;exact absurd rfl l
 have a:∀m d,(eL S.bk s.num Bk.empty m d).Sublist (S.bk m d):=λm d=>by
  by_cases w:m=s.num
  ·subst w;rw[cO];exact List.nil_sublist _
  ·rw[eJ _ _ _ w];exact bZ _
 refine⟨λn=>⟨λd=>((i.bks n).srt d).sublist (a n d),λb y x z=>(i.bks n).unc b ((a n _).mem y) x ((a n _).mem z)⟩,λn t j=>?_,i.bdn⟩;replace j:cg (S.cal.l.take (iB S.cal.l s.num)++mf s::S.cal.l.drop (iB S.cal.l s.num)) n=some t:=j;rw[vC (k:=mf s) q]at j;by_cases v:(mf s).spec.num=n
 ·have e:S.ords n=[]:=h.ord.out n (by rw[<-v];unfold bt;show(match cg S.cal.l s.num with|none=>(7:Int)|some k=>if k.st=3 then 50 else 0)≠0;rw[q];decide);refine⟨λo g=>?_,λd o g=>?_⟩
  ·rcases jN g with⟨d,f⟩|f
   ·have:o∈S.ords n:=ik ((a n d).mem f);rw[e]at this;cases this
   ·have:o∈S.ords n:=iW f;rw[e]at this;cases this
  ·have:o∈S.ords n:=ik ((a n d).mem g);rw[e]at this;cases this
 ·rw[aa v]at j;have f:=i.spc n t j;refine⟨λo g=>?_,λd o g=>f.2 d o ((a n d).mem g)⟩;rcases jN g with⟨d,p⟩|p
  ·exact f.1 o (ik ((a n d).mem p))
  ·exact f.1 o (iW p)
def V5(h:S.Ok)(b:uW S){c:Cm}(a:(S.done c).1=0):uW (S.done c).2.2:=by
 have e:=mJ.refl S;unfold bo.done at a|-;by_cases k1:c.kind=1
 ·rw[ae k1];exact b.sub (e.led _)
 rw[aa k1]at a|-;by_cases k2:c.kind=2
 ·rw[ae k2];exact b.sub (e.led _)
 rw[aa k2]at a|-;by_cases k3:c.kind=3
 ·rw[ae k3]at a|-;simp only at a|-;rw[ae a];exact WW h b a
 rw[aa k3]at a|-;by_cases k4:c.kind=4
 ·rw[ae k4];exact b.sub (NL S _ _)
 rw[aa k4]at a|-;by_cases k11:c.kind=11
 ·rw[ae k11];exact b.sub (EL S _ _)
 rw[aa k11]at a|-;by_cases k12:c.kind=12
 ·rw[ae k12];exact b.sub (IQ S)
 rw[aa k12]at a|-;by_cases k14:c.kind=14
 ·rw[ae k14];exact b.sub (Hs S _)
 rw[aa k14]at a|-;by_cases d:c.acct=0
 ·rw[ae d]at a;cases a
 rw[aa d]at a|-;by_cases k6:c.kind=6
 ·rw[ae k6];exact b.sub (Il S c)
 rw[aa k6]at a|-;by_cases k7:c.kind=7
 ·rw[ae k7]at a|-;exact Lu h b d a
 rw[aa k7]at a|-;by_cases f:S.led.getO c.acct=none
 ·rw[ae f]at a;cases a
 rw[aa f]at a|-;by_cases k5:c.kind=5
 ·rw[ae k5]at a|-;exact RV h b d a
 rw[aa k5]at a|-;by_cases k9:c.kind=9
 ·rw[ae k9]at a|-;exact Zg h b d a
 rw[aa k9]at a|-;by_cases k8:c.kind=8
 ·rw[ae k8]at a|-;split
  ·exact b
  ·exact b.sub (yk S _ _)
 rw[aa k8]at a|-;by_cases k10:c.kind=10
 ·rw[ae k10];simp only;split
  ·exact b.sub ((yk S _ _).led _)
  ·exact b.sub (e.led _)
 rw[aa k10]at a|-;by_cases k13:c.kind=13
 ·rw[ae k13];exact b.sub (SA S _)
 rw[aa k13];exact b
def I5(h:S.Ok)(a:uW S)(c:Cm):uW (S.apply c).2:=by
 unfold bo.apply;split
 ·exact a
 ·simp only;split
  ·exact a
  ·rename_i h1
   exact V5 h a (by simpa using h1)
def mL(l:List Po)(c:Int):Int:=((l.filter λp=>decide (p.c=c)).map (·.q)).sum
def mN(l:List Po)(c:Int):Int:=((l.filter λp=>decide (p.c=c)).map (·.b)).sum
def wK(l a:List Po)(c:Int):mL (l++a) c=mL l c+mL a c:=by simp[mL]
def wH(l a:List Po)(c:Int):mN (l++a) c=mN l c+mN a c:=by simp[mN]
def AH(p:Po)(c:Int):mL [p] c=if p.c=c then p.q else 0:=by
 unfold mL;by_cases h:p.c=c
 ·rw[ae h,bI (by simpa using h)];simp
 ·rw[aa h,aU (by simpa using h)];simp
def Bg(p:Po)(c:Int):mN [p] c=if p.c=c then p.b else 0:=by
 unfold mN;by_cases h:p.c=c
 ·rw[ae h,bI (by simpa using h)];simp
 ·rw[aa h,aU (by simpa using h)];simp
def O8{l:List Po}{c:Int}(h:∀p∈l,p.c≠c):mL l c=0/\mN l c=0:=by
 have:l.filter (λp=>decide (p.c=c))=[]:=gf.2 λp hp=>by simpa using h p hp
 simp[mL,mN,this]
structure A8(A:List Ac)(p:Po):Prop where
 c:p.c≠0
 a:p.a≠0
 there:∃x∈A,x.num=p.a
 some:p.isZ=false
 q:aW p.q (-MP) MP=true
 b:aW p.b (-MF) MF=true
structure PA(A:List Ac):Prop where
 srt:mg A
 num:∀a∈A,0<a.num/\aW a.cash 0 MF=true
structure vq(f:Int)(A:List Ac)(P:List Po):Prop where
 len:A.length<=64
 fund:aW f 0 MF=true
 pa:PA A
 tot:f+(A.map (·.cash)).sum<=MF
 srt:kr P
 good:∀p∈P,A8 A p
 zero:∀c,mL P c=0/\mN P c=0
def fQ{n lo hi:Int}:aW n lo hi=true↔lo<=n/\n<=hi:=by simp[aW]
def vq.ok{f:Int}(h:vq f A P)(e:∀a∈A,0<=a.num/\a.num<4294967296)(d:∀p∈P,0<=p.c/\p.c<4294967296):(bE.mk f A P).Ok where
 fund:=fQ.1 h.fund
 sa:=h.pa.srt
 sp:=h.srt
 len:=h.len
 acc:=λa b=>⟨(h.pa.num a b).1,(e a b).2,fQ.1 (h.pa.num a b).2⟩
 pos:=λp hp=>by
  have g:=h.good p hp;have u:=d p hp;have h1:=fQ.1 g.q;have c:=fQ.1 g.b;exact⟨by have:=g.c;have:=u.1;omega,u.2,g.some,h1.1,h1.2,c.1,c.2,g.there⟩
def zo{α:Type}{R:α->α->Prop}{l:List α}(h:l.Pairwise R){i:Nat}(hi:i<l.length){b:α}(c:b∈l.take i):R b l[i]:=by
 obtain⟨j,a,rfl⟩:=bM c;rw[aB]at a;rw[List.getElem_take];exact bL.1 h _ _ _ _ qZ
structure yU(pre:List Ac)(last:Int):Prop where
 pa:PA pre
 top:∀a∈pre,a.num<=last
 hit:(pre=[]/\last=0)\/∃a∈pre,a.num=last
def yU.nil:yU [] 0:=⟨⟨List.Pairwise.nil,by simp⟩,by simp,.inl ⟨rfl,rfl⟩⟩
def yU.pos{b:List Ac}{last:Int}(h:yU b last):0<=last:=by
 rcases h.hit with⟨-,rfl⟩|⟨a,c,rfl⟩
 ·exact ed _
 ·have:=(h.pa.num a c).1;omega
def yU.step{c:List Ac}{last:Int}(h:yU c last){a:Ac}(h1:last<a.num)(e:aW a.cash 0 MF=true):yU (c++[a]) a.num:=by
 have f:=h.pos;refine⟨⟨de.2 ⟨h.pa.srt,List.pairwise_singleton ..,λx b y d=>?_⟩,λx b=>?_⟩,λx b=>?_,.inr ⟨a,by simp,rfl⟩⟩
 ·rw[bN]at d;subst d;have:=h.top x b;omega
 ·rcases bm.1 b with b|b
  ·exact h.pa.num x b
  ·rw[bN]at b;subst b;exact⟨qZ,e⟩
 ·rcases bm.1 b with b|b
  ·have:=h.top x b;omega
  ·rw[bN]at b;subst b;omega
def yU.bad{i:Nat}(hi:i<A.length){last:Int}(h:yU (A.take i) last)(b:A[i].num<=last\/aW A[i].cash 0 MF=false):¬PA A:=by
 intro hp;have c:=hp.num A[i] (av hi);rcases b with b|b
 ·rcases h.hit with⟨-,rfl⟩|⟨a,d,rfl⟩
  ·omega
  ·have:a.num<A[i].num:=zo hp.srt hi d;omega
 ·rw[c.2]at b;cases b
structure tA(pre:List Po)(lc la q b:Int):Prop where
 srt:kr pre
 top:∀p∈pre,uJ (lc,la) p.key=false
 hit:(pre=[]/\lc=0/\la=0)\/∃p∈pre,p.key=(lc,la)
 q:q=mL pre lc
 b:b=mN pre lc
 oth:∀c,c≠lc->mL pre c=0/\mN pre c=0
def tA.nil:tA [] 0 0 0 0:=⟨List.Pairwise.nil,by simp,.inl ⟨rfl,rfl,rfl⟩,rfl,rfl,λ_ _=>⟨rfl,rfl⟩⟩
def xp{x y z:Int×Int}(h:uJ y x=false)(a:uJ y z=true):uJ x z=true:=by
 rcases zn y x with h1|h1|h1
 ·rw[h1]at h;cases h
 ·rw[<-h1];exact a
 ·exact xC h1 a
def tA.step{a:List Po}{f l q b:Int}(h:tA a f l q b){p:Po}(h1:uJ (f,l) p.key=true)(i:p.c≠f->q=0/\b=0):tA (a++[p]) p.c p.a (q+p.q) (b+p.b):=by
 have n:f<=p.c:=by rw[nI]at h1;simp only[Po.key]at h1;omega
 have j:mL a p.c=q/\mN a p.c=b:=by
  by_cases e:p.c=f
  ·rw[e];exact⟨h.q.symm,h.b.symm⟩
  ·obtain⟨rfl,rfl⟩:=i e;exact h.oth _ e
 refine⟨de.2 ⟨h.srt,List.pairwise_singleton ..,λx d y k=>?_⟩,λx d=>?_,.inr ⟨p,by simp,rfl⟩,?_,?_,λc g=>?_⟩
 ·rw[bN]at k;subst k;exact xp (h.top x d) h1
 ·rcases bm.1 d with d|d
  ·exact xq (xp (h.top x d) h1)
  ·rw[bN]at d;subst d;exact Dy
 ·rw[wK,AH,ae rfl,j.1]
 ·rw[wH,Bg,ae rfl,j.2]
 ·rw[wK,wH,AH,Bg,aa (lv g),aa (lv g)];by_cases e:c=f
  ·obtain⟨rfl,rfl⟩:=i (λm=>g (e.trans m.symm));rw[e,<-h.q,<-h.b];exact⟨rfl,rfl⟩
  ·have:=h.oth c e;rw[this.1,this.2];exact⟨rfl,rfl⟩
def tA.done{b:Int}(h:tA P a b 0 0)(c:Int):mL P c=0/\mN P c=0:=by
 by_cases e:c=a
 ·rw[e];exact⟨h.q.symm,h.b.symm⟩
 ·exact h.oth c e
def tA.bad_end{d q b:Int}(h:tA P a d q b)(f:q≠0\/b≠0):¬∀c,mL P c=0/\mN P c=0:=by
 intro e;have:=e a;rw[<-h.q,<-h.b]at this;omega
def tA.bad_sum{P:List Po}{i:Nat}(hi:i<P.length){f s q b:Int}(h:tA (P.take i) f s q b)(v:P[i].c≠f)(d:q≠0\/b≠0):¬(kr P/\∀c,mL P c=0/\mN P c=0):=by
 rintro⟨l,r⟩;rcases h.hit with⟨e,-,-⟩|⟨x,t,o⟩
 ·have h1:=h.q;have k:=h.b;rw[e]at h1 k;rcases d with d|d
  ·exact d h1
  ·exact d k
 ·have a:uJ x.key P[i].key=true:=zo l hi t;rw[o,nI]at a;simp only[Po.key]at a
  have n:∀p∈P.drop i,p.c≠f:=by
   intro p hp;obtain⟨j,u,rfl⟩:=bM hp;rw[List.getElem_drop];rw[bq]at u;by_cases g:j=0
   ·subst g;exact v
   ·have:=bL.1 l i (i+j) hi qZ qZ;rw[nI]at this;simp only[Po.key]at this;omega
  have m:=O8 n;have:=r f;rw[<-cH i P,wK,wH,m.1,m.2,<-h.q,<-h.b]at this;omega
def tA.bad_key{A:List Ac}{P:List Po}{i:Nat}(hi:i<P.length){d e q b:Int}(h:tA (P.take i) d e q b)(m:0<=P[i].c/\0<=P[i].a)(c:uJ (d,e) P[i].key=false):¬(kr P/\∀p∈P,A8 A p):=by
 rintro⟨k,j⟩;have g:=j P[i] (av hi);rcases h.hit with⟨-,rfl,rfl⟩|⟨x,l,f⟩
 ·rw[ez,Ne,nI]at c;simp only[Po.key]at c;have:=g.c;omega
 ·have a:uJ x.key P[i].key=true:=zo k hi l;rw[f,c]at a;cases a
def DQ{l:List Int}{B:Int}(h:∀x∈l,-B<=x/\x<=B): -(B*l.length)<=l.sum/\l.sum<=B*l.length:=by
 induction l with
 |nil=>simp
 |cons x l a=>
  have h1:=h x ai;have c:=a λy b=>h y (af _ b)
  have e:B*((x::l).length:Int)=B*l.length+B:=by
   simp only[be,jp,Int.natCast_one,Int.mul_add,Int.mul_one]
  rw[e];simp only[bC];omega
def Sk(f:∀p∈P,A8 A p)(g:P.length<=1024)(c:Int):(-10240000000<=mL P c/\mL P c<=10240000000)/\(-1024000000000000000<=mN P c/\mN P c<=1024000000000000000):=by
 have a:∀p∈P.filter (λp=>decide (p.c=c)),A8 A p:=λp hp=>f p (aT.1 hp).1;have b:=bi (λp:Po=>decide (p.c=c)) P;unfold mL mN;generalize P.filter (λp=>decide (p.c=c))=L at a b
 have h1:=DQ (l:=L.map (·.q)) (B:=10000000) λx d=>by
  obtain⟨p,hp,rfl⟩:=aL.1 d;have:=fQ.1 (a p hp).q;simpa [MP]using this
 have e:=DQ (l:=L.map (·.b)) (B:=1000000000000000) λx d=>by
  obtain⟨p,hp,rfl⟩:=aL.1 d;have:=fQ.1 (a p hp).b;simpa [MF]using this
 rw[ah]at h1 e;omega
def sI:Int->List Ct->Bool
 |_,[]=>true
 |n,k::l=>decide (n<k.spec.num)&& (decide (1<=k.st)&& (decide (k.st<=3)&& (k.spec.isPrice k.price&& sI k.spec.num l)))
def tI:∀{l:List Ct} {n:Int},sI n l=true->(∀k∈l,n<k.spec.num/\1<=k.st/\k.st<=3/\k.spec.isPrice k.price=true)/\nm l
 | [],n,_=>⟨λk d=>(by cases d),List.Pairwise.nil⟩
 |k::l,n,h=>by
  unfold sI at h;simp only[ao,aX]at h;obtain⟨h1,c,i,e,g⟩:=h;obtain⟨b,f⟩:=tI g;refine⟨λx a=>?_,bX.2 ⟨λx a=>(b x a).1,f⟩⟩;rcases ar.1 a with rfl|a
  ·exact⟨h1,c,i,e⟩
  ·have:=b x a;exact⟨qZ,this.2⟩
def GS:∀{l:List Ct} {n:Int},(∀k∈l,n<k.spec.num/\1<=k.st/\k.st<=3/\k.spec.isPrice k.price=true)->nm l->sI n l=true
 | [],n,_,_=>rfl
 |k::l,n,h,f=>by
  obtain⟨h1,d,g,e⟩:=h k ai;obtain⟨a,b⟩:=bX.1 f;unfold sI;rw[aQ h1,aQ d,aQ g,e,GS (λx c=>⟨a x c,(h x (af _ c)).2⟩) b];rfl
def bE.stB(L:bE)(a:Int):Bool:=match L.getO a with|some x=> !x.dfl&& !x.kil|none=>false
def bo.stnd(S:bo)(lots:Bool)(U:List Int)(x:Int×Od):Bool:=
 decide (bt S.cal.l x.1=0)&& (S.led.stB x.2.acct&& (x.2.may&& ((dI S.cal.l x.1).1.spec.isPrice x.2.price&& ((!lots||(dI S.cal.l x.1).1.spec.isQty x.2.left)&& (decide (x.2.num<S.next)&& !U.contains x.2.num)))))
def nv:List (Int×Od)->List Int->bo->Option (List Int×bo)
 | [],U,S=>some (U,S)
 |x::l,U,S=>
  if S.stnd true U x=false then none
  else if(cV (S.bk x.1) x.2 4).1≠0\/(cV (S.bk x.1) x.2 4).2.2.gone≠ []then none
  else nv l (x.2.num::U) {S with bk:=eL S.bk x.1 (cV (S.bk x.1) x.2 4).2.1}
def oq:List (Int×Od)->Option Int->Int->List Int->bo->Option bo
 | [],pc,n,U,S=>some S
 |x::l,pc,n,U,S=>
  if S.stnd false U x=false then none
  else if x.2.num<=(if pc≠none/\pc≠some x.1 then 0 else n)then none
  else if 50<=(S.bd x.1).length then none
  else oq l (some x.1) x.2.num (x.2.num::U) {S with bd:=eL S.bd x.1 (S.bd x.1++[x.2])}
def sx(s:zg):bo:=⟨⟨s.day,s.cts⟩,⟨s.fund,s.accts,s.poss⟩,λ_=>Bk.empty,λ_=>[],s.next⟩
structure Bz(s:zg):Prop where
 len:s.cts.length<=16
 cts:sI 0 s.cts=true
 led:vq s.fund s.accts s.poss
 next:1<=s.next/\s.next<=jH+1
 poss:∀p∈s.poss,bt s.cts p.c=0
def Co(s:zg):Option bo:=(nv s.ords [] (sx s)).bind λx=>oq s.bids none 0 x.1 x.2
open Classical in
noncomputable def yw (s:zg):Option bo:=
 if Bz s then(Co s).bind λS=>if S.state.ords=s.ords/\S.state.bids=s.bids then some S else none else none
structure zg.Fit(s:zg):Prop where
 day:kV s.day
 next:OY s.next
 fund:eP s.fund
 accts:∀a∈s.accts,kV a.num/\eP a.cash
 cts:∀k∈s.cts,k.Fit
 poss:∀p∈s.poss,(kV p.c/\kV p.a)/\eP p.q/\eP p.b
 ords:∀x∈s.ords,kV x.1/\x.2.Fit
 bids:∀x∈s.bids,kV x.1/\x.2.Fit
def Qo{s:zg}(h:Bz s)(c:s.Fit):(sx s).cal.Ok:=by
 obtain⟨h1,d⟩:=tI h.cts;refine⟨h.len,c.day,λk b=>?_,d⟩;obtain⟨g,e,f,a⟩:=h1 k b;refine⟨c.cts k b,?_,a,e,f⟩;unfold Sp.isPrice at a;exact(ao _ _▸a).1
def GC(P:List Po)(c:Int):iu (zgq c) P=mL P c/\iu (Ic c) P=mN P c:=by
 induction P with
 |nil=>exact⟨rfl,rfl⟩
 |cons p P a=>
  have b:mL (p::P) c=mL [p] c+mL P c:=by rw[<-wK];rfl
  have d:mN (p::P) c=mN [p] c+mN P c:=by rw[<-wH];rfl
  rw[b,d,AH,Bg,<-a.1,<-a.2];constructor<;>simp only[iu,zgq,Ic,aD,bC]
def TW{s:zg}(h:Bz s)(e:s.Fit):(sx s).Ok:=by
 refine⟨Qo h e,⟨h.led.ok (λa f=>(e.accts a f).1) (λp hp=>(e.poss p hp).1.1),h.poss,λc=>?_⟩,⟨λn _=>rfl,λn d=>⟨by show(0:Nat)<=100;omega,λo b=>(by cases b)⟩,λn o b=>(by cases b),λn=>iP,λn m o g b=>(by cases b),λn=>(by show(0:Nat)<=50;omega)⟩,h.next,h.led.tot⟩;show iu (zgq c) s.poss=0/\iu (Ic c) s.poss=0;have:=GC s.poss c;rw[this.1,this.2];exact h.led.zero c
structure TL(S:bo)(U:List Int)(x:Int×Od):Prop where
 alive:bt S.cal.l x.1=0
 may:x.2.may=true
 acc:S.led.Stands x.2.acct
 num:x.2.num<S.next
 new:x.2.num ∉ U
def DD{lots:Bool}{x:Int×Od}(h:S.stnd lots U x=true):TL S U x:=by
 unfold bo.stnd at h;simp only[ao,aX]at h;obtain⟨h1,b,c,i,j,e,g⟩:=h;refine⟨h1,c,?_,e,by simpa using g⟩
 have f:x.2.acct≠0:=by
  unfold Od.may at c;simp only[ao,aX]at c;exact c.1.1.2
 unfold bE.stB at b;unfold bE.getO at b;rw[aa f]at b;unfold bE.Stands;cases d:S.led.find x.2.acct with
 |none=>rw[d]at b;cases b
 |some a=>
  rw[d]at b;simp only[ao,Bool.not_eq_true']at b;exact⟨a,rfl,b.2,b.1⟩
structure rH(S0 S:bo)(U:List Int):Prop where
 ok:S.Ok
 cal:S.cal=S0.cal
 led:S.led=S0.led
 next:S.next=S0.next
 nums:∀n,∀o∈S.ords n,o.num∈U
def rH.fresh{b:bo}(h:rH b S U){x:Int×Od}(c:TL S U x):∀m,∀y∈S.ords m,y.num≠x.2.num:=λm y a e=>c.new (e▸h.nums m y a)
def rH.order{f:bo}(h:rH f S U){x:Int×Od}(a:TL S U x)(m:x.2.Fit)(s:(cV (S.bk x.1) x.2 4).1=0):
  rH f {S with bk:=eL S.bk x.1 (cV (S.bk x.1) x.2 4).2.1} (x.2.num::U):=by
 obtain⟨e,q,-⟩:=zH s;rw[e];have l:=tn h.ok.ord (n:=x.1) (o:=x.2) (rests:=decide ((4:Int)=1\/(4:Int)=4)) (nx:=S.next) a.alive a.may m a.num a.acc (h.fresh a) (ed _);have i:=wV (B:=S.bk x.1) (o:=x.2) (rests:=decide ((4:Int)=1\/(4:Int)=4)) (h.ok.ord.bkMay x.1) q;refine⟨⟨h.ok.cal,h.ok.led,l,h.ok.next,h.ok.fnd⟩,h.cal,h.led,h.next,λn o p=>?_⟩;rcases jN p with⟨d,h1⟩|h1
 ·replace h1:o∈eL S.bk x.1 (eW (S.bk x.1) x.2 (decide ((4:Int)=1\/(4:Int)=4))).1 n d:=h1;by_cases g:n=x.1
  ·subst g;rw[cO]at h1;by_cases j:d=x.2.buy
   ·subst j;rcases i.own with b|⟨-,b,-⟩
    ·rw[b]at h1;exact af _ (h.nums _ o (ik h1))
    ·rw[b]at h1;rcases ar.1 ((nM _ _ _).mem_iff.1 h1)with rfl|c
     ·exact ai
     ·exact af _ (h.nums _ o (ik c))
   ·obtain rfl:d= !x.2.buy:=by cases d<;>cases t:x.2.buy<;>simp_all
    obtain⟨r,c,k⟩:=i.opp.mem h1;rw[<-oE k];exact af _ (h.nums _ r (ik c))
  ·rw[eJ _ _ _ g]at h1;exact af _ (h.nums n o (ik h1))
 ·exact af _ (h.nums n o (iW h1))
def rH.bid{c:bo}(h:rH c S U){x:Int×Od}(a:TL S U x)(g:x.2.Fit)(i:(S.bd x.1).length<50):
  rH c {S with bd:=eL S.bd x.1 (S.bd x.1++[x.2])} (x.2.num::U):=by
 have j:=h.ok.ord.addBd (n:=x.1) (x:=x.2) (nx:=S.next) a.alive a.may g a.num a.acc (h.fresh a) i (ed _);refine⟨⟨h.ok.cal,h.ok.led,j,h.ok.next,h.ok.fnd⟩,h.cal,h.led,h.next,λn o f=>?_⟩;rcases jN f with⟨d,h1⟩|h1
 ·exact af _ (h.nums n o (ik h1))
 ·replace h1:o∈eL S.bd x.1 (S.bd x.1++[x.2]) n:=h1;by_cases e:n=x.1
  ·subst e;rw[cO]at h1;rcases bm.1 h1 with b|b
   ·exact af _ (h.nums _ o (iW b))
   ·rw[bN.1 b];exact ai
  ·rw[eJ _ _ _ e]at h1;exact af _ (h.nums n o (iW h1))
def rH.zero{s:zg}(h:Bz s)(a:s.Fit):rH (sx s) (sx s) []:=⟨TW h a,rfl,rfl,rfl,λn o b=>(by cases b)⟩
end Go.Proofs
namespace Go.Proofs
open Go Go.Vc
variable {S:bo}
def ux{α β:Type}{f g:α->List β}:∀{l:List α},(∀x∈l,f x=g x)->l.flatMap f=l.flatMap g
 | [],_=>rfl
 |x::l,h=>by rw[bR,bR,h x ai,ux λy a=>h y (af _ a)]
def xZ:∀(l a:List (Int×Od)) (U:List Int) (S:bo),nv (l++a) U S=(nv l U S).bind λx=>nv a x.1 x.2
 | [],a,U,S=>rfl
 |x::l,a,U,S=>by
  simp only[fg,nv];split
  ·rfl
  ·split
   ·rfl
   ·exact xZ l a _ _
def LO{L:List Od}{o:Od}(h:∀x∈L,gt o x.price=false):iN (!o.buy) L o.price o.acct=0:=by
 unfold iN
 have:L.takeWhile (λx=> !ip (!o.buy) o.price x.price)=[]:=by
  cases L with
  |nil=>rfl
  |cons b r=>
   rw[List.takeWhile_cons_of_neg];have h1:=h b ai;unfold gt at h1;unfold ip;cases a:o.buy with
   |true=>rw[a]at h1;simp at h1|-;omega
   |false=>rw[a]at h1;simp at h1|-;omega
 rw[this];rfl
def Eg{B:Bk}{n:Int}(h:∀d,∀x∈B d,x.num≠n):B.find n=none:=by
 unfold Bk.find;rw[vm (h true),vm (h false)]
def TU{B:Bk}{o:Od}(e:o.may=true)(h:∀d,∀x∈B d,x.num≠o.num)(j:(B o.buy).length<100)(a:∀x∈B !o.buy,gt o x.price=false)(hs:∀x∈B o.buy,ip o.buy o.price x.price=false):
  cV B o 4=(0,B.set o.buy (B o.buy++[o]),⟨[],[],0,o.left⟩):=by
 have i:=ir e;have k:=LO a;unfold cV;rw[aa (by simp[e]),Eg h,aa (by simp),aa qZ,aa qZ,aa qZ]
 have c:eN o o.left (B !o.buy)=(o.left,B !o.buy,[],[],0):=tE (by
  cases g:B !o.buy with
  |nil=>exact .inr (.inl rfl)
  |cons b r=>exact .inr (.inr ⟨b,r,rfl,a b (by rw[g];exact ai)⟩))
 have f:(oX o.buy (B o.buy) {o with left:=o.left}).2=B o.buy++[o]:=by
  unfold oX;rw[aa (by simp[e]),aa,aa qZ]
  ·show sk o.buy (B o.buy) o=_;unfold sk Ee;have:(B o.buy).findIdx? (λx=>ip o.buy o.price x.price)=none:=dC.2 λx a=>hs x a;rw[this];simp
  ·grind
 unfold eW;simp only;rw[c];simp only;rw[ae ⟨by decide,qZ⟩,Bk.set_same,f]
def Kr{T:bo}(h:S.Ok)(s:uW S)(w:T.cal=S.cal)(q:T.led=S.led)(t:T.next=S.next){n:Int}{o:Od}(c:o∈S.ords n){lots:Bool}(j:lots=true->∃d,o∈S.bk n d){U:List Int}(l:o.num ∉ U):T.stnd lots U (n,o)=true:=by
 have a:=h.ord.alive c;obtain⟨k,e,-⟩:=nR a;have b:=h.ord.std n o c;obtain⟨p,i⟩:=s.spc n k e;unfold bo.stnd;rw[w,q,t]
 have u:S.led.stB o.acct=true:=by
  obtain⟨x,h1,g,r⟩:=b.acc;unfold bE.stB
  have:o.acct≠0:=by
   have:=b.may;unfold Od.may at this;simp only[ao,aX]at this;exact this.1.1.2
  rw[og this,h1];simp[g,r]
 have m:dI S.cal.l n=(k,0):=by unfold dI;rw[e]
 have v:(!lots||k.spec.isQty o.left)=true:=by
  cases lots with
  |false=>rfl
  |true=>
   obtain⟨d,f⟩:=j rfl;rw[i d o f];rfl
 show(decide (bt S.cal.l n=0)&& (S.led.stB o.acct&& (o.may&& ((dI S.cal.l n).1.spec.isPrice o.price&& ((!lots||(dI S.cal.l n).1.spec.isQty o.left)&& (decide (o.num<S.next)&& !U.contains o.num))))))=true;rw[u,m,aQ a,b.may,p o c,v,aQ b.num];simpa using l
def xK{S:bo}(h:S.Ok)(p:uW S){n:Int}{d:Bool}:∀(b l1:List Od) (U:List Int) (T:bo),S.bk n d=l1++b->T.cal=S.cal->T.led=S.led->T.next=S.next->T.bk n d=l1->(∀e,∀x∈T.bk n e,x∈S.bk n e)->(∀o∈b,o.num ∉ U)->(∀x∈T.bk n (!d),∀o∈b,x.num≠o.num)->
  nv (b.map λo=>(n,o)) U T=some ((b.map (·.num)).reverse++U,{T with bk:=eL T.bk n ((T.bk n).set d (l1++b))})
 | [],l1,U,T,h1,r,z,u,q,A,C,w=>by
  have:eL T.bk n ((T.bk n).set d (l1++[]))=T.bk:=by rw[bg,<-q,Bk.set_same,Hb]
  rw[this];rfl
 |o::b,l1,U,T,h1,r,z,u,q,A,C,w=>by
  have j:o∈S.bk n d:=by rw[h1];simp
  have m:=(h.ord.bkNd n).side d;rw[h1,aM,aD,du,bY]at m;obtain⟨E,⟨G,F⟩,v⟩:=m;have c:=(h.ord.side n d).2 o j;have l:=(h.ord.side n d).1;rw[h1,ag,be]at l;have t:=Kr (T:=T) (lots:=true) h p r z u (ik j) (λ_=>⟨d,j⟩) (C o ai);have i:=(p.bks n).srt d;unfold vX at i;rw[h1,de]at i
  have s:cV (T.bk n) o 4=(0,(T.bk n).set d (l1++[o]),⟨[],[],0,o.left⟩):=by
   have:=TU (B:=T.bk n) (o:=o) (h.ord.std n o (ik j)).may (λe x a=>?_) (by rw[c,q];omega) (λx a=>?_) (λx a=>?_)
   ·grind
   ·by_cases g:e=d
    ·subst g;rw[q]at a;exact λe=>v _ (aR (f:=(·.num)) a) _ ai e
    ·obtain rfl:e= !d:=by cases e<;>cases d<;>simp_all
     exact w x a o ai
   ·rw[c]at a;have k:=A _ x a;unfold gt;rw[c];cases d with
    |true=>have:=(p.bks n).unc o j x k;simp;omega
    |false=>have:=(p.bks n).unc x k o j;simp;omega
   ·grind
  rw[aD,nv];rw[aa (by rw[t];simp),s,aa (by simp)];have I:=xK h p b (l1++[o]) (o.num::U) {T with bk:=eL T.bk n ((T.bk n).set d (l1++[o]))} (by rw[h1];simp) r z u (by show eL T.bk n _ n d=_;rw[cO,Bk.set_self]) (λe x a=>?_) (λy D=>?_) λx a y D=>?_
  ·refine I.trans ?_
   have H:eL (eL T.bk n ((T.bk n).set d (l1++[o]))) n ((eL T.bk n ((T.bk n).set d (l1++[o])) n).set d (l1++[o]++b))=eL T.bk n ((T.bk n).set d (l1++o::b)):=by
    rw[zj,cO];congr 1;funext e;by_cases g:e=d
    ·subst g;rw[Bk.set_self,Bk.set_self];simp
    ·rw[Bk.set_ne _ _ g,Bk.set_ne _ _ g,Bk.set_ne _ _ g]
   show some (_,({T with bk:=eL (eL T.bk n ((T.bk n).set d (l1++[o]))) n ((eL T.bk n ((T.bk n).set d (l1++[o])) n).set d (l1++[o]++b))}:bo))=_;rw[H];simp
  ·replace a:x∈eL T.bk n ((T.bk n).set d (l1++[o])) n e:=a;rw[cO]at a;by_cases g:e=d
   ·subst g;rw[Bk.set_self]at a;rw[h1];rcases bm.1 a with k|k
    ·grind
    ·grind
   ·rw[Bk.set_ne _ _ g]at a;exact A e x a
  ·intro J;rcases ar.1 J with k|k
   ·grind
   ·grind
  ·replace a:x∈eL T.bk n ((T.bk n).set d (l1++[o])) n (!d):=a;rw[cO,Bk.set_other]at a;exact w x a y (af _ D)
def SQ(h:S.Ok)(m:uW S){n:Int}{U:List Int}{T:bo}(i:T.cal=S.cal)(l:T.led=S.led)(j:T.next=S.next)(c:T.bk n=Bk.empty)(k:∀o∈(S.bk n).all,o.num ∉ U):
  nv ((S.bk n).all.map λo=>(n,o)) U T=some (((S.bk n).all.map (·.num)).reverse++U,{T with bk:=eL T.bk n (S.bk n)}):=by
 have b:=h.ord.bkNd n;unfold tT Bk.all at b;rw[aM,du]at b;unfold Bk.all at k|-;rw[aM,xZ];rw[xK (d:=true) h m (S.bk n true) [] U T rfl i l j (by rw[c];rfl) (λe x a=>by rw[c]at a;cases a) (λo g=>k o (cY _ g)) (λx a=>by rw[c]at a;cases a)];rw[Option.bind_some]
 have:=xK (d:=false) h m (S.bk n false) [] (((S.bk n true).map (·.num)).reverse++U) {T with bk:=eL T.bk n ((T.bk n).set true ([]++S.bk n true))} rfl i l j
  (by show eL T.bk n _ n false=_;rw[cO,Bk.set_ne _ _ (by decide),c];rfl) (λe x a=>?_) (λo g=>?_) λx a o g=>?_
 ·refine this.trans ?_
  have q:eL (eL T.bk n ((T.bk n).set true ([]++S.bk n true))) n ((eL T.bk n ((T.bk n).set true ([]++S.bk n true)) n).set false ([]++S.bk n false))=eL T.bk n (S.bk n):=by
   rw[zj,cO];congr 1;funext e;cases e
   ·rw[Bk.set_self];rfl
   ·rw[Bk.set_ne _ _ (by decide),Bk.set_self];rfl
  show some (_,({T with bk:=eL (eL T.bk n ((T.bk n).set true ([]++S.bk n true))) n ((eL T.bk n ((T.bk n).set true ([]++S.bk n true)) n).set false ([]++S.bk n false))}:bo))=_;rw[q,aM,List.reverse_append,aH]
 ·replace a:x∈eL T.bk n ((T.bk n).set true ([]++S.bk n true)) n e:=a;rw[cO]at a;cases e
  ·rw[Bk.set_ne _ _ (by decide),c]at a;cases a
  ·rw[Bk.set_self]at a;exact a
 ·intro r;rcases bm.1 r with p|p
  ·grind
  ·grind
 ·replace a:x∈eL T.bk n ((T.bk n).set true ([]++S.bk n true)) n true:=a;rw[cO,Bk.set_self]at a;exact b.2.2 _ (aR (f:=(·.num)) a) _ (aR (f:=(·.num)) g)
def GH{S:bo}(h:S.Ok)(u:uW S):∀(b P:List Int) (U:List Int) (T:bo),(P++b).Nodup->T.cal=S.cal->T.led=S.led->T.next=S.next->T.bd=(λ_=>[])->(∀m,T.bk m=if m∈P then S.bk m else Bk.empty)->(∀x∈U,∃m∈P,∃o∈(S.bk m).all,o.num=x)->
  ∃p a,nv (b.flatMap λn=>(S.bk n).all.map λo=>(n,o)) U T=some (p,a)/\a.cal=S.cal/\a.led=S.led/\a.next=S.next/\a.bd=(λ_=>[])/\(∀m,a.bk m=if m∈P++b then S.bk m else Bk.empty)/\∀x∈p,∃m∈P++b,∃o∈(S.bk m).all,o.num=x
 | [],P,U,T,l,d,g,f,r,j,q=>⟨U,T,rfl,d,g,f,r,by rw[bg];exact j,by rw[bg];exact q⟩
 |n::b,P,U,T,l,d,g,f,r,j,q=>by
  have c:n ∉ P:=λt=>(du.1 l).2.2 n t n ai rfl
  have e:=SQ h u (n:=n) (U:=U) (T:=T) d g f (by rw[j,aa c]) λo v t=>by
   obtain⟨m,i,y,s,A⟩:=q _ t;have:=h.ord.apart m n y o (cY _ s) (cY _ v) A;exact c (this▸i)
  rw[bR,xZ,e,Option.bind_some];refine Exists.elim (GH h u b (P++[n]) (((S.bk n).all.map (·.num)).reverse++U) {T with bk:=eL T.bk n (S.bk n)} (by rw[aH];exact l) d g f r (λm=>?_) (λx k=>?_)) λp ⟨a,G,H,C,E,D,F,B⟩=>?_
  rotate_right 1
  ·grind
  ·show eL T.bk n (S.bk n) m=_;by_cases i:m=n
   ·subst i;rw[cO,ae (by simp)]
   ·rw[eJ _ _ _ i,j];by_cases w:m∈P
    ·grind
    ·grind
  ·rcases bm.1 k with z|z
   ·grind
   ·grind
def Ks{S:bo}(h:S.Ok)(i:uW S){n:Int}(rest:List (Int×Od)):∀(c l1:List Od) (d:Option Int) (last:Int) (U:List Int) (T:bo),S.bd n=l1++c->T.cal=S.cal->T.led=S.led->T.next=S.next->T.bd n=l1->(∀o∈c,o.num ∉ U)->(∀o∈c,(if d≠none/\d≠some n then 0 else last)<o.num)->
  ∃b a f,oq (c.map (λo=>(n,o))++rest) d last U T=oq rest b a f {T with bd:=eL T.bd n (l1++c)}/\((b=d/\a=last)\/b=some n)/\∀x∈f,x∈U\/∃o∈c,o.num=x
 | [],l1,d,last,U,T,h1,m,s,q,k,t,u=>⟨d,last,U,by
   have:eL T.bd n (l1++[])=T.bd:=by rw[bg,<-k,Hb]
   rw[this];rfl,.inl ⟨rfl,rfl⟩,λx i=>.inl i⟩
 |o::c,l1,d,last,U,T,h1,m,s,q,k,t,u=>by
  have z:o∈S.bd n:=by rw[h1];simp
  have p:=Kr (T:=T) (lots:=false) h i m s q (iW z) (λh=>by cases h) (t o ai);have g:=h.ord.bdl n;rw[h1,ag,be]at g;have A:=i.bdn n;rw[h1,de,bX]at A;have r:=h.ord.bdNd n;rw[h1,aM,aD,du,bY]at r;rw[aD,fg,oq];rw[aa (by rw[p];simp),aa (by have:=u o ai;simp only;omega),aa (by simp only;rw[k];omega)];refine Exists.elim (Ks (n:=n) h i rest c (l1++[o]) (some n) o.num (o.num::U) {T with bd:=eL T.bd n (T.bd n++[o])} (by rw[h1];simp) m s q (by show eL T.bd n _ n=_;rw[cO,k]) (λy v C=>?_) (λy v=>?_)) λb ⟨a,f,B,j,w⟩=>?_
  rotate_right 1
  ·refine⟨b,a,f,B.trans ?_,.inr (by rcases j with j|j;exact j.1;exact j),λx l=>?_⟩
   ·show oq rest b a f {T with bd:=eL (eL T.bd n (T.bd n++[o])) n (l1++[o]++c)}=_;rw[zj,aH];rfl
   ·rcases w x l with e|⟨y,v,D⟩
    ·rcases ar.1 e with e|e
     ·grind
     ·exact .inl e
    ·grind
  ·rcases ar.1 C with e|e
   ·grind
   ·grind
  ·grind
def GN{S:bo}(h:S.Ok)(F:uW S):∀(e P:List Int) (a:Option Int) (last:Int) (U:List Int) (T:bo),(P++e).Nodup->T.cal=S.cal->T.led=S.led->T.next=S.next->T.bk=S.bk->(∀m,T.bd m=if m∈P then S.bd m else [])->(∀x∈U,∃m o,o∈S.ords m/\o.num=x/\(m∈P\/o∈(S.bk m).all))->((a=none/\last=0)\/∃k∈P,a=some k)->
  ∃d,oq (e.flatMap λn=>(S.bd n).map λo=>(n,o)) a last U T=some d/\d.cal=S.cal/\d.led=S.led/\d.next=S.next/\d.bk=S.bk/\∀m,d.bd m=if m∈P++e then S.bd m else []
 | [],P,a,last,U,T,v,i,p,q,z,s,B,r=>⟨T,rfl,i,p,q,z,by rw[bg];exact s⟩
 |n::e,P,a,last,U,T,v,i,p,q,z,s,B,r=>by
  have j:n ∉ P:=λA=>(du.1 v).2.2 n A n ai rfl
  have w:(if a≠none/\a≠some n then 0 else last)=0:=by
   rcases r with⟨t,C⟩|⟨k,I,t⟩
   ·rw[t,C];simp
   ·grind
  refine Exists.elim (Ks h F (n:=n) (e.flatMap λn=>(S.bd n).map λo=>(n,o)) (S.bd n) [] a last U T rfl i p q (by rw[s,aa j]) (λo g A=>?_) (λo g=>?_)) λy ⟨b,H,O,Q,J⟩=>?_
  rotate_right 1
  ·rw[bR,O];refine Exists.elim (GN h F e (P++[n]) y b H {T with bd:=eL T.bd n ([]++S.bd n)} (by rw[aH];exact v) i p q z (λm=>?_) (λx u=>?_) ?_) λd ⟨R,Y,X,Z,V,W⟩=>?_
   rotate_right 1
   ·grind
   ·show eL T.bd n ([]++S.bd n) m=_;by_cases G:m=n
    ·subst G;rw[cO,ae (by simp)];rfl
    ·rw[eJ _ _ _ G,s];by_cases L:m∈P
     ·grind
     ·grind
   ·rcases J x u with h9|⟨o,g,N⟩
    ·grind
    ·exact⟨n,o,iW g,N,.inl (by simp)⟩
   ·rcases Q with⟨t,C⟩|t
    ·rcases r with r|⟨k,I,e3⟩
     ·grind
     ·grind
    ·grind
  ·obtain⟨m,M,K,D,l⟩:=B _ A;have:=h.ord.apart m n M o K (iW g) D;subst this;rcases l with l|l
   ·exact j l
   ·have c:=h.ord.nd m;unfold bo.ords at c;rw[aM,du]at c;exact c.2.2 _ (aR (f:=(·.num)) l) _ (aR (f:=(·.num)) g) D
  ·rw[w];have E:=h.ord.std n o (iW g);have h1:=E.may;unfold Od.may at h1;simp only[ao,aX]at h1;have i:=E.fit.1.1;have p:=h1.1.1.1;omega
def CT:∀(b:List Int) (H:List Po),b.Pairwise (· < ·)->kr H->(∀p∈H,p.c∈b)->(b.flatMap λn=>H.filter λp=>decide (p.c=n))=H
 | [],H,_,_,h=>by
  cases H with
  |nil=>rfl
  |cons p H=>exact absurd (h p ai) (by simp)
 |n::b,H,o,e,h=>by
  obtain⟨f,g⟩:=bX.1 o
  have key:∀H:List Po,kr H->(∀p∈H,p.c∈n::b)->H=(H.filter λp=>decide (p.c=n))++H.filter λp=>decide (p.c≠n):=by
   intro H;induction H with
   |nil=>intro _ _;rfl
   |cons p H i=>
    intro e h;obtain⟨s1,j⟩:=bX.1 e;by_cases hp:p.c=n
    ·rw[bI (by simpa using hp),aU (by simpa using hp)];have:=i j λq a=>h q (af _ a);rw[fg,<-this]
    ·have c:∀q∈H,q.c≠n:=λq a t=>by
      have h1:=s1 q a;rw[nI]at h1;simp only[Po.key]at h1;have d:=h p ai;rcases ar.1 d with d|d
      ·exact hp d
      ·grind
     rw[aU (by simpa using hp),bI (by simpa using hp)];have s:H.filter (λp=>decide (p.c=n))=[]:=gf.2 λq a=>by simpa using c q a
     have k:H.filter (λp=>decide (p.c≠n))=H:=cL.2 λq a=>by simpa using c q a
     rw[s,k];rfl
  have i:=CT b (H.filter λp=>decide (p.c≠n)) g (e.sublist ew) λp hp=>by
   rw[aT,aX]at hp;exact(ar.1 (h p hp.1)).resolve_left hp.2
  rw[bR]
  conv=>rhs;rw[key H e h]
  congr 1;rw[<-i];refine ux λm r=>?_;have l:=f m r;rw[gl];refine dH λp _=>?_;by_cases hp:p.c=m
  ·simp[hp];omega
  ·simp[hp]
def C2(h:S.Ok):S.nums.Pairwise (· < ·):=by
 unfold bo.nums;exact eA.2 h.cal.srt
def nN(h:S.Ok):S.state.poss=S.led.held:=
 CT S.nums S.led.held (C2 h) h.led.led.sp λp hp=>zU (h.led.held p hp)
def LR(h:S.Ok):S.state.Fit:=by
 have e:=h.next;have i:=h.led.led.fund;unfold MF at i;unfold jH at e;refine⟨h.cal.day,⟨by show 0<=S.next;omega,by show S.next<_;omega⟩,⟨by show _<=S.led.fund;omega,by show S.led.fund<_;omega⟩,λa f=>?_,λk g=>(h.cal.ok k g).1,λp hp=>?_,λx c=>?_,λx c=>?_⟩
 ·have:=h.led.led.acc a f;unfold MF at this;exact⟨⟨qZ,qZ⟩,by constructor<;>omega⟩
 ·rw[nN h]at hp;have:=h.led.led.pos p hp;obtain⟨a,f,l⟩:=this.2.2.2.2.2.2.2;have j:=h.led.led.acc a f;unfold MF MP at this;exact⟨⟨⟨qZ,qZ⟩,qZ,qZ⟩,by constructor<;>omega,by constructor<;>omega⟩
 ·replace c:x∈S.nums.flatMap λn=>(S.bk n).all.map λo=>(n,o):=c;obtain⟨n,e,c⟩:=List.mem_flatMap.1 c;obtain⟨o,d,rfl⟩:=aL.1 c;have b:o∈S.ords n:=cY _ d;exact⟨mE h.cal (h.ord.alive b),(h.ord.std n o b).fit⟩
 ·replace c:x∈S.nums.flatMap λn=>(S.bd n).map λo=>(n,o):=c;obtain⟨n,e,c⟩:=List.mem_flatMap.1 c;obtain⟨o,d,rfl⟩:=aL.1 c;have b:o∈S.ords n:=fE _ d;exact⟨mE h.cal (h.ord.alive b),(h.ord.std n o b).fit⟩
def GF(h:S.Ok):Bz S.state:=by
 have b:=h.led.led;refine⟨h.cal.len,?_,?_,h.next,λp hp=>?_⟩
 ·refine GS (λk m=>?_) h.cal.srt;obtain⟨k1,k2,k3,k4,k5⟩:=h.cal.ok k m;refine⟨?_,k4,k5,k3⟩;unfold Sp.may at k2;simp only[ao,aX]at k2;have h1:=k1.1.1.1;have e:k.spec.num≠0:=k2.1.1.1.1.1.1.1.2;omega
 ·refine⟨b.len,fQ.2 b.fund,⟨b.sa,λa d=>⟨(b.acc a d).1,fQ.2 (b.acc a d).2.2⟩⟩,h.fnd,by rw[nN h];exact b.sp,λp hp=>?_,λc=>?_⟩
  ·rw[nN h]at hp;obtain⟨r,q,f,i,g,j,l,n⟩:=b.pos p hp;obtain⟨a,d,o⟩:=n;exact⟨qZ,by have:=(b.acc a d).1;omega,⟨a,d,o⟩,f,fQ.2 ⟨i,g⟩,fQ.2 ⟨j,l⟩⟩
  ·rw[nN h];have h1:=h.led.zero c;have e:=GC S.led.held c;rw[e.1,e.2]at h1;exact h1
 ·rw[nN h]at hp;exact h.led.held p hp
def Ki(h:S.Ok){n:Int}(e:n ∉ S.nums):S.bk n=Bk.empty/\S.bd n=[]:=by
 have b:=h.ord.out n λc=>e (zU c);constructor
 ·funext d;cases a:S.bk n d with
  |nil=>rfl
  |cons x l=>
   have:x∈S.ords n:=ik (d:=d) (by rw[a];exact ai);rw[b]at this;cases this
 ·cases a:S.bd n with
  |nil=>rfl
  |cons x l=>
   have:x∈S.ords n:=iW (by rw[a];exact ai);rw[b]at this;cases this
def H7(h:S.Ok)(b:uW S):yw S.state=some S:=by
 have e:S.nums.Nodup:=(C2 h).imp λu=>by omega
 obtain⟨U,T,H,I,A,D,B,E,w⟩:=GH h b S.nums [] [] (sx S.state) e rfl (by show(⟨S.led.fund,S.led.all,S.state.poss⟩:bE)=_;rw[nN h]) rfl rfl (λm=>rfl) (λx b=>by cases b)
 have i:T.bk=S.bk:=by
  funext m;rw[E];by_cases a:m∈ []++S.nums
  ·rw[ae a]
  ·rw[aa a,(Ki h a).1]
 obtain⟨j,v,s,q,t,p,y⟩:=GN h b S.nums [] none 0 U T e I A D i (λm=>by rw[B];rfl) (λx b=>by
  obtain⟨m,-,o,r,G⟩:=w x b;exact⟨m,o,cY _ r,G,.inr r⟩) (.inl ⟨rfl,rfl⟩)
 have f:j.bd=S.bd:=by
  funext m;rw[y];by_cases a:m∈ []++S.nums
  ·rw[ae a]
  ·rw[aa a,(Ki h a).2]
 have z:j=S:=by
  obtain⟨c,l,k,d,n⟩:=j;simp only at s q t p f;subst s q t p f;rfl
 have g:Co S.state=some S:=by
  unfold Co;have F:nv S.state.ords [] (sx S.state)=some (U,T):=H;have C:oq S.state.bids none 0 U T=some S:=z▸v;rw[F,Option.bind_some];exact C
 unfold yw;rw[ae (GF h),g,Option.bind_some,ae ⟨rfl,rfl⟩]
end Go.Proofs
namespace Go.Proofs
open Go Go.Vc
attribute [local congr] aZ
variable {ss:Nat->Value}{w:Wt_}{s:zg}
abbrev tj(w:Wt_)(ss:Nat->Value)(s:zg):Prop:=∀i,3<=i->i<=7->Rd w (Np i) (ss i) (LN s.accts s.cts s.poss s.ords s.bids i) (LC s.accts s.cts s.poss s.ords s.bids i)
def ad4(s:zg)(ss:Nat->Value):Value:=BM s.day s.next s.fund ss
def tj.md0{w' :Wt_}(h:tj w ss s)(m:M0 w w'):tj w' ss s:=λi h1 a=>(h i h1 a).mod m dS
def tj.sl(h:tj w ss s):∀i,3<=i->i<=7->∃a n c,ss i=.slice a n c:=λi h1 b=>by
 obtain⟨a,c,e⟩:=(h i h1 b).isSl;exact⟨a,_,c,e⟩
def tj.accts(h:tj w ss s):Rd w 4 (ss 3) s.accts.length (s.accts.flatMap db):=h 3 qZ qZ
def tj.cts(h:tj w ss s):Rd w 27 (ss 4) s.cts.length (s.cts.flatMap dD):=h 4 qZ qZ
def tj.poss(h:tj w ss s):Rd w 4 (ss 5) s.poss.length (s.poss.flatMap dy):=h 5 qZ qZ
def tj.ords(h:tj w ss s):Rd w 6 (ss 6) s.ords.length (s.ords.flatMap jD):=h 6 qZ qZ
def tj.bids(h:tj w ss s):Rd w 6 (ss 7) s.bids.length (s.bids.flatMap jD):=h 7 qZ qZ
abbrev nS(w:Wt_)(b:Nat)(d nx fu:Int)(ss:Nat->Value):Prop:=hp w b=some (.cells (uE d nx fu ss).toArray uL (0,0))
def NI(d nx b:Int)(ss:Nat->Value)(w:Wt_):∃a,(Instr.box uL (BM d nx b ss)).run pQ w=.ok (bO w.heap.size 0) a/\nS a w.heap.size d nx b ss/\M0 w a:=
 ⟨w.alloc (.cells (uE d nx b ss).toArray uL),rfl,by show hp _ _=_;simp[go_sem],(aS.refl _ w).alloc _⟩
def Hh{b:Nat}{d nx g:Int}(h:nS w b d nx g ss)(hs:∀i,3<=i->i<=7->∃a n c,ss i=.slice a n c)(i:Nat)(hi:3<=i)(j:i<=7):(iL (BD i) (bO b i)).run pQ w=.ok (ss i) w:=by
 have f:hp w b=some (.cells (uE d nx g ss).toArray uL (0,0)):=h;obtain⟨a,n,c,e⟩:=hs i hi j;have:i=3\/i=4\/i=5\/i=6\/i=7:=qZ;rcases this with rfl|rfl|rfl|rfl|rfl<;>(simp only[BD];rw[e];simp only[uE]at f;rw[e]at f;simp[go_sem,f])
def GL{b:Nat}{d nx c:Int}(h:nS w b d nx c ss):(iL 45 (bO b 0)).run pQ w=.ok (gU d) w/\(iL 37 (bO b 1)).run pQ w=.ok (gQ nx) w/\(iL 2 (bO b 2)).run pQ w=.ok (gI c) w:=by
 have a:hp w b=some (.cells (uE d nx c ss).toArray uL (0,0)):=h;simp only[uE]at a;exact⟨by simp[go_sem,a],by simp[go_sem,a],by simp[go_sem,a]⟩
end Go.Proofs
