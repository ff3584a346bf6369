/- Part of a proof. -/
import Derived.Test.YtekbnpagidkbbaaGreatT22
set_option linter.all false
set_option maxRecDepth 100000
set_option maxHeartbeats 4000000
namespace Go.Proofs
open Go Go.Vc
section
variable{L L0 M:List As}{φ:WP}{K:Value->WP}{k0:WP}{v c l mb md b:Nat}{A:List (Int×Nat)}{D:List (Int×Value)}{S:ba}{n a:Int}{x:Cm}
def K0(f:x.Fit)(d:Gs L (K (.bool x.may))):Gs L (Cw pQ 47 #[Aa x] K):=⟨λw y=>UZ f λe m=>d.go e (y.md0 m)⟩
def uT{e:Int}(d:Gs L (K (Ka (uw e) (.slice none 0 0) (.slice none 0 0) (.slice none 0 0)))):Gs L (Cw pQ 41 #[.int .i64 e] K):=by
 refine sN Tryz.func41 ?_;refine au ?_;intro p;refine au ?_;exact d.fin
def OM(j:S.Ok)(H:x.Fit)(o:∀t g u,Yr (S.apply x).1->Gs (nB v (S.apply x).2::Ey (eM t (S.apply x).1.trades.length) (S.apply x).1.trades::tX (eM g (S.apply x).1.gone.length) (S.apply x).1.gone::CM (eM u (S.apply x).1.accts.length) (S.apply x).1.accts::L) (K (Ka (S.apply x).1 (eM t (S.apply x).1.trades.length) (eM g (S.apply x).1.gone.length) (eM u (S.apply x).1.accts.length)))):
  Gs (nB v S::L) (Cw pQ 15 #[eE v,Aa x] K):=by
 refine wN λc l mb md A D I=>?_
 have G:∀{e:Int} {M},S.apply x=(uw e,S)->Sb M (vs v c l mb md A D S L)->Gs M (K (Ka (uw e) (.slice none 0 0) (.slice none 0 0) (.slice none 0 0))):=λ{e M} h p=>by
  refine Gs.fin (M:=vs v c l mb md A D S L) ?_ p;refine pM (C:=S.cal) I ?_;refine Gs.tdn (Gs.idn (Gs.uin ?_));have:=o (none,0) (none,0) (none,0);rw[h]at this;have:=this ⟨aw _,aw _,aw _⟩
  dsimp only[uw,jo,List.length_nil]at this
  exact this.fin
 refine sN Tryz.func15 ?_;unfold eE;refine au ?_;intro p;refine au ?_;intro q;refine au ?_;refine sK ?_;refine au ?_;refine Gs.X (λw z=>eG gy FN Am (dV x) w z) ?_;refine K0 H ?_;refine au ?_;refine Gs.Ib (λi=>?_) λi=>?_
 ·have h:S.apply x=(uw 160,S):=by unfold ba.apply;rw[ab (by simpa using i)]
  refine uT ?_;refine au ?_;exact G h sbZ
 have i:x.may=true:=by simpa using i
 have d:S.apply x=if(S.done x).1≠0 then(uw (S.done x).1,S)else((S.done x).2.1,(S.done x).2.2):=by unfold ba.apply;rw[aa (by rw[i];decide)]
 refine HK I j (λR J P y s W X m=>?_);refine Gs.X (λw z=>eG (b:=p) (cs:=jI x) gy FN Am (dV x) w z) ?_;refine MG m j H (λO t g u N f k=>?_);generalize S.done x=Y at d f k|-;obtain⟨e,r,T⟩:=Y;obtain⟨U,Z,Q,V,F,B,E⟩:=r
 dsimp only at d f|-
 unfold eE;refine au ?_;intro r;refine au ?_;refine Gs.Ib (λh=>?_) λh=>?_
 ·rw[ab (by simpa using h)]at d;refine uT ?_;refine au ?_;exact G d sbZ
 rw[aa (by simpa using h)]at d;rw[d]at o;refine au ?_;refine Gs.fin (M:=vo v J P y s O N T.cal T.led T.bk T.bd T.next (Ey (eM t F.length) F::tX (eM g B.length) B::CM (eM u E.length) E::L)) ?_;refine pM f ?_;exact o t g u k
end
end Go.Proofs
namespace Go.Proofs
open Go Go.Vc
section
variable{P:Program}{L M:List As}{k:Value->WP}{s:Vt_}{t T:TypeId}{α:Type}{f:α->List Value}{vf:α->Value}{sz i n:Nat}{l:List α}
def Gs.itP(v:P.underlying t=some (.slice T))(A:P.cellsOf T=sz+1)(q:∀x,(f x).length=sz+1)(d:∀x w b a,At w b a (f x)->(iL T (cU b a)).run P w=.ok (vf x) w)
  (z:∀w,Ss w L->Rd w (sz+1) s n (l.flatMap f))(h:n=l.length)(hi:i<l.length)(j:Gs L (k (vf l[i]))):Gs L (Pw P (iX t s (gI (i:Int))) λp=>Ww P (iL T p) k):=⟨λw y=>by
 obtain⟨b,a,m,c,e,o⟩:=(z w y).item q hi h;refine eQ (cU b (a+i*(sz+1))) (λW=>by rw[c];subst h;simp[go_sem,hi,bQ,v,Go.Vc.kY A,Result.andThen]) (gC (d _ w _ _ o) (j.go w y))⟩
end
def Kx:Tryz.prog.cellsOf 37=0+1:=cH
def an2:Tryz.prog.cellsOf 45=0+1:=cH
def Bj(x:Int)(w:Wt_)(b off:Nat)(h:At w b off (oy x)):(iL 37 (cU b off)).run pQ w=.ok (gQ x) w:=by
 obtain⟨C,e,d,hC,c⟩:=h.get;have a:=c 0 (gQ x) rfl;simp only[bM]at a;simp[go_sem,cO hC,a]
def Z1(x:Int)(w:Wt_)(b off:Nat)(h:At w b off (Ic x)):(iL 45 (cU b off)).run pQ w=.ok (gU x) w:=by
 obtain⟨C,e,d,hC,c⟩:=h.get;have a:=c 0 (gU x) rfl;simp only[bM]at a;simp[go_sem,cO hC,a]
section
variable{L L0 M:List As}{K:Value->WP}{r:Rp}{t g u t' g' u' :Option Addr×Nat}
end
end Go.Proofs
namespace Go.Proofs
open Go Go.Vc
variable {B:Bk}{buy rests:Bool}{q:Int}{A:List Ac}{U:List Int}{P:List Po}{o:Od}{S T:ba}{s:zi}
structure mM(S S' :ba):Prop where
 cal:∀n k',bU S'.cal.l n=some k' ->∃k,bU S.cal.l n=some k/\k'.spec=k.spec
 bk:∀n d,(S'.bk n d).Sublist (S.bk n d)
 bd:∀n,((S'.bd n).map Od.key).Sublist ((S.bd n).map Od.key)
def mM.refl(S:ba):mM S S:=⟨λn k h=>⟨k,h,rfl⟩,λ_ _=>cB _,λ_=>cB _⟩
def mM.trans{U:ba}(h:mM S T)(a:mM T U):mM S U:=
 ⟨λn k b=>by
  obtain⟨k1,e,f⟩:=a.cal n k b;obtain⟨k2,c,g⟩:=h.cal n k1 e;exact⟨k2,c,f.trans g⟩,λn d=>(a.bk n d).trans (h.bk n d),λn=>(a.bd n).trans (h.bd n)⟩
def mM.led(h:mM S T)(L:bq):mM S {T with led:=L}:=⟨h.cal,h.bk,h.bd⟩
def mM.bk1(h:mM S T)(n:Int)(B:Bk)(b:∀d,(B d).Sublist (T.bk n d)):mM S {T with bk:=eR T.bk n B}:=
 h.trans ⟨λn k h=>⟨k,h,rfl⟩,λm d=>by
  show(eR T.bk n B m d).Sublist _;by_cases a:m=n
  ·subst a;rw[cQ];exact b d
  ·rw[eT _ _ _ a];exact cB _,λ_=>cB _⟩
def mM.bd1(h:mM S T)(n:Int)(B:List Od)(b:(B.map Od.key).Sublist ((T.bd n).map Od.key)):mM S {T with bd:=eR T.bd n B}:=
 h.trans ⟨λn k h=>⟨k,h,rfl⟩,λ_ _=>cB _,λm=>by
  show((eR T.bd n B m).map Od.key).Sublist _;by_cases a:m=n
  ·subst a;rw[cQ];exact b
  ·rw[eT _ _ _ a];exact cB _⟩
def mM.cal1(h:mM S T){C:oq}(hC:∀n a,bU C.l n=some a->∃k,bU T.cal.l n=some k/\a.spec=k.spec):mM S {T with cal:=C}:=
 h.trans ⟨hC,λ_ _=>cB _,λ_=>cB _⟩
def mM.set1(h:mM S T)(n:Int){f:Ct->Ct}(b:∀k,(f k).spec=k.spec)(d:Int):mM S {T with cal:=⟨d,ik T.cal.l n f⟩}:=by
 refine h.cal1 λm e a=>?_;replace a:bU (ik T.cal.l n f) m=some e:=a;rw[pL (λk _=>by rw[b])]at a;cases c:bU T.cal.l m with
 |none=>rw[c]at a;cases a
 |some k=>
  rw[c]at a;refine⟨k,rfl,?_⟩;have a:(if k.spec.num=n then f k else k)=e:=cM a;rw[<-a];split
  ·exact b k
  ·rfl
def xW(l:List Od)(n:Int):(oB l n).Sublist l:=List.eraseP_sublist
def zl(B:Bk)(n:Int)(d:Bool):((eY B n).2.1 d).Sublist (B d):=by
 unfold eY;split
 ·grind
 ·rename_i o e _
  show(Bk.set _ _ _ d).Sublist _;by_cases h:d=e
  ·subst h;rw[Bk.set_self];exact xW _ _
  ·rw[Bk.set_ne _ _ h];exact cB _
def yu(a:Int):∀(l:List Od) (B:Bk) (d:Bool),(tY a B l d).Sublist (B d)
 | [],B,d=>cB _
 |o::l,B,d=>by
  show(tY a (if lv a o then(eY B o.num).2.1 else B) l d).Sublist _;refine(yu a l _ d).trans ?_;split
  ·exact zl B o.num d
  ·grind
def Lo(a:Int)(x:List Int×ba)(n:Int):mM x.2 (rQ a x n).2:=by
 have b:=(mM.refl x.2).bk1 n (iU (x.2.bk n) a).1 λd=>yu a _ _ d;exact b.bd1 n ((x.2.bd n).filter λo=> !kP a o) (ep.map _)
def Gu(a:Int):∀(b:List Int) (x:List Int×ba),mM x.2 (b.foldl (rQ a) x).2
 | [],x=>mM.refl _
 |n::b,x=>(Lo a x n).trans (Gu a b (rQ a x n))
def vm(S:ba)(a k:Int):mM S (S.clear a k).2:=Gu a _ ([],S)
def xL:∀(l:List Sd) (r:Rp) (S:ba),mM S (mf l r S).2.2
 | [],r,S=>mM.refl S
 |s::l,r,S=>by
  have a:=vm S s.acct 0;cases b:s.dfl<;>simp only[mf,b,de,dB,bE]
  ·split
   ·exact(mM.refl S).led _
   ·exact((mM.refl S).led _).trans (xL l _ _)
  ·split
   ·exact a.led _
   ·exact(a.led _).trans (xL l _ _)
def xJ(S:ba)(won:Int->Int):mM S (S.pay won).2.2:=by
 unfold ba.pay;simp only;split
 ·exact mM.refl S
 ·split
  ·exact xL _ _ _
  ·exact(xL _ _ _).led _
def Ko(S:ba):mM S S.settle.2.2:=by
 have a:mM S {S with cal:=(eJ S.cal).2}:=(mM.refl S).cal1 λn b h=>⟨b,by rw[<-JY S.cal];exact h,rfl⟩
 unfold ba.settle;simp only;split
 ·exact a
 ·split
  ·exact a.led _
  ·split
   ·exact(a.led _).trans (xJ _ _)
   ·exact((a.led _).trans (xJ _ _)).led _
def IP(S:ba)(n:Int):mM S (S.expire n).2.2:=by
 have a:mM S {S with cal:=(eX S.cal n).2}:=by
  unfold eX;split
  ·exact mM.refl S
  ·exact(mM.refl S).set1 n (f:=λk=>{k with st:=3}) (λ_=>rfl) _
 unfold ba.expire;simp only;split
 ·exact a
 ·split
  ·exact a.led _
  ·split
   ·exact(a.led _).trans (xJ _ _)
   ·exact(((a.led _).trans (xJ _ _)).bk1 n _ λd=>yu 0 _ _ d).bd1 n [] (List.nil_sublist _)
def Pz(S:ba)(n:Int)(on:Bool):mM S {S with cal:=(jB S.cal n on).2}:=by
 unfold jB;split
 ·exact mM.refl S
 ·exact(mM.refl S).set1 n (f:=λk=>{k with st:=if on then 2 else 1}) (λ_=>rfl) _
def Gl(S:ba)(n p:Int):mM S {S with cal:=(fF S.cal n p).2}:=by
 unfold fF;split
 ·exact mM.refl S
 ·split
  ·exact mM.refl S
  ·split
   ·exact mM.refl S
   ·exact(mM.refl S).set1 n (f:=λk=>{k with price:=p}) (λ_=>rfl) _
def JN(S:ba)(c:Cm):mM S (S.cancel c).2.2:=by
 unfold ba.cancel;split
 ·exact(mM.refl S).bk1 _ _ λd=>zl _ _ d
 ·split
  ·exact(mM.refl S).bd1 _ _ ((eO _ _).map _)
  ·exact mM.refl S
def Hy(l:List Od)(num qty:Int):((kB l num qty).map Od.key).Sublist (l.map Od.key):=by
 unfold kB;split
 ·grind
 ·rename_i i b
  obtain⟨a,-⟩:=bg.1 b;simp only;split
  ·grind
  ·rw[fU]
   have:Od.key {l.getD i ou with left:=(l.getD i ou).left - qty}=(l.map Od.key)[i]'(by simpa using a):=by
    rw[cn];simp[a,Od.key]
   rw[this,gx];exact cB _
def BG{n a:Int}{long:Bool}{price:Int}:∀(l:List Fl) (left:Int) (r:Rp) (S:ba),mM S (lq n a long price l left r S).2.2.2
 | [],left,r,S=>mM.refl S
 |f::l,left,r,S=>by
  unfold lq;simp only;split
  ·exact(mM.refl S).led _
  ·refine mM.trans ?_ (BG l _ _ _);exact((mM.refl S).led (lQ S.led n a f.acct long price f.qty).2).bd1 n _ (Hy (S.bd n) f.num f.qty)
def BW{n a:Int}{long:Bool}{price:Int}:∀(l:List Hd) (r:Rp) (S:ba),mM S (lE n a long price l r S).2.2
 | [],r,S=>mM.refl S
 |x::l,r,S=>by
  unfold lE;simp only;split
  ·exact(mM.refl S).led _
  ·exact((mM.refl S).led _).trans (BW l _ _)
def Cz(S:ba)(k:Ct)(a q:Int)(r:Rp):mM S (S.sell k a q r).2.2:=by
 unfold ba.sell
 dsimp only
 generalize ij _ _ _=X;by_cases d:X.2.2≠0
 ·rw[ab d];exact mM.refl S
 rw[aa d];have h:=BG (n:=k.spec.num) (a:=a) (long:=decide (0<q)) (price:=X.1) X.2.1 (max q (-q)) r S;generalize lq k.spec.num a _ _ _ _ r S=Y at h|-;by_cases c:Y.1≠0
 ·rw[ab c];exact h
 rw[aa c];by_cases b:Y.2.1=0
 ·rw[ab b];exact h
 rw[aa b];generalize jE _ _=Z;by_cases e:Z.2≠0
 ·rw[ab e];exact h
 rw[aa e];exact h.trans (BW _ _ _)
def yv(a:Int):∀(l:List Ct) (r:Rp) (S:ba),mM S (og a l r S).2.2
 | [],r,S=>mM.refl S
 |k::l,r,S=>by
  unfold og;simp only;split
  ·exact yv a l r S
  ·split
   ·exact Cz S _ _ _ _
   ·exact(Cz S _ _ _ _).trans (yv a l _ _)
def UD(S:ba)(a:Ac):mM S (S.liquidate a).2.2:=by
 unfold ba.liquidate;split
 ·exact mM.refl S
 ·exact yv _ _ _ _
def wG(buy:Bool)(l:List Od):Prop:=l.Pairwise λa b=>iv buy b.price a.price=false
structure BkS(B:Bk):Prop where
 srt:∀d,wG d (B d)
 unc:∀b∈B true,∀s∈B false,b.price<s.price
structure ut(S:ba):Prop where
 bks:∀n,BkS (S.bk n)
 spc:∀n k,bU S.cal.l n=some k->(∀o∈S.ords n,k.spec.isPrice o.price=true)/\∀d,∀o∈S.bk n d,k.spec.isQty o.left=true
 bdn:∀n,(S.bd n).Pairwise λa b=>a.num<b.num
def Iq{l c:List Od}(h:(c.map Od.key).Sublist (l.map Od.key))(hs:wG buy l):wG buy c:=by
 have d:(l.map Od.key).Pairwise λa b=>iv buy b.2.2.2 a.2.2.2=false:=dA.2 hs;exact dA.1 (d.sublist h)
def ut.sub{S' :ba}(h:ut S)(hs:mM S S'):ut S' :=by
 refine⟨λn=>⟨λd=>(h.bks n).srt d |>.sublist (hs.bk n d),λb m s c=>(h.bks n).unc b ((hs.bk n _).mem m) s ((hs.bk n _).mem c)⟩,λn t p=>?_,λn=>?_⟩
 ·obtain⟨k,e,l⟩:=hs.cal n t p;obtain⟨j,q⟩:=h.spc n k e;rw[l];refine⟨λo i=>?_,λd o i=>q d o ((hs.bk n d).mem i)⟩;rcases jN i with⟨d,g⟩|g
  ·exact j o (g8 ((hs.bk n d).mem g))
  ·obtain⟨v,u,r⟩:=aD.1 ((hs.bd n).mem (aV g));rw[<-qN r];exact j v (iV u)
 ·have e:((S.bd n).map Od.key).Pairwise λa b=>a.1<b.1:=dA.2 (h.bdn n);exact(dA (f:=Od.key) (R:=λa b=>a.1<b.1)).1 (e.sublist (hs.bd n))
def TQ:ut ba.empty:=⟨λn=>⟨λd=>List.Pairwise.nil,λb c=>(by cases c)⟩,λn k a=>(by cases a),λn=>List.Pairwise.nil⟩
def Rv{l:List Od}(h:wG buy l):wG buy (su buy l o):=by
 unfold su Fz;cases n:l.findIdx? λx=>iv buy o.price x.price with
 |none=>
  rw[du]at n;simp only[Option.getD_none,aL,eg];refine dz.2 ⟨h,List.pairwise_singleton ..,λa d b c=>?_⟩;rw[bX.1 c];simpa using n a d
 |some i=>
  obtain⟨m,hp,p⟩:=bg.1 n;simp only[cR];have g:=h;unfold wG at g;rw[<-ce i l,dz]at g;obtain⟨q,f,s⟩:=g
  have e:∀a∈l.take i,iv buy o.price a.price=false:=λa d=>by
   obtain⟨j,t,rfl⟩:=bI d;rw[av]at t;rw[List.getElem_take];simpa using p j qZ
  have k:∀b∈l.drop i,iv buy b.price o.price=false:=λb c=>by
   have r:iv buy b.price l[i].price=false:=by
    rw[bN m]at c f;rcases aq.1 c with rfl|c
    ·unfold iv;cases buy<;>simp
    ·exact(bJ.1 f).1 b c
   unfold iv at r hp|-;cases buy<;>simp at* <;>omega
  refine dz.2 ⟨q,bJ.2 ⟨k,f⟩,λa d b c=>?_⟩;rcases aq.1 c with rfl|c
  ·exact e a d
  ·exact s a d b c
def yh{o:Od}:∀{L:List Od} {left:Int},0<(eu o left L).1->(eu o left L).2.1=[]\/∃b r,(eu o left L).2.1=b::r/\gu o b.price=false
 | [],left,h=>.inl rfl
 |b::r,left,h=>by
  unfold eu at h|-;by_cases a:left<=0\/gu o b.price=false
  ·rw[ab a]at h|-;rcases a with a|a
   ·simp only at h;omega
   ·grind
  rw[aa a]at h|-;by_cases c:b.acct=o.acct
  ·rw[ab c]at h|-;exact yh (left:=left) h
  rw[aa c]at h|-;by_cases d:left<b.left
  ·grind
  ·rw[aa d]at h|-;exact yh (left:=left - b.left) h
def NY{L:List Od}(hs:wG (!o.buy) L)(h:L=[]\/∃b r,L=b::r/\gu o b.price=false):∀x∈L,gu o x.price=false:=by
 intro x c;rcases h with rfl|⟨b,r,rfl,a⟩
 ·cases c
 ·rcases aq.1 c with rfl|c
  ·exact a
  ·have:=(bJ.1 hs).1 x c;unfold iv at this;unfold gu at a|-;cases h:o.buy<;>rw[h]at this a<;>simp at this a|- <;>omega
def Py(w:Cd B)(u:o.may=true)(hs:BkS B):BkS (eP B o rests).1:=by
 have n:=xP (rests:=rests) w u;have l:=Iq n.opp.sub (hs.srt _)
 have c:0<(eP B o rests).2.left->∀x∈(eP B o rests).1 (!o.buy),gu o x.price=false:=by
  intro q;refine NY l ?_;unfold eP at q|-;simp only at q|-;by_cases e:rests=true/\0<(eu o o.left (B !o.buy)).1
  ·rw[ab e];show Bk.set _ _ _ _=[]\/∃b r,Bk.set _ _ _ _=b::r/\_;rw[Bk.set_other,Bk.set_self];exact yh e.2
  ·grind
 have k:wG o.buy ((eP B o rests).1 o.buy):=by
  rcases n.own with e|⟨-,e,-⟩
  ·rw[e];exact hs.srt _
  ·rw[e];exact Rv (hs.srt _)
 refine⟨λd=>?_,λb j s f=>?_⟩
 ·by_cases t:d=o.buy
  ·subst t;exact k
  ·obtain rfl:d= !o.buy:=by cases d<;>cases h:o.buy<;>simp_all
   exact l
 ·have old:∀x∈(eP B o rests).1 (!o.buy),∃y∈B (!o.buy),y.price=x.price:=λx v=>by
   obtain⟨y,e,i⟩:=n.opp.mem v;exact⟨y,e,qN i⟩
  cases a:o.buy with
  |true=>
   rw[a]at old c;obtain⟨y,e,i⟩:=old s f;rcases n.own with g|⟨g,m,-⟩
   ·rw[a]at g;rw[g]at j;rw[<-i];exact hs.unc b j y e
   ·rw[a]at m;rw[m]at j;rcases aq.1 ((nP _ _ _).mem_iff.1 j)with rfl|p
    ·have:=c g s f;unfold gu at this;rw[a]at this;simpa using this
    ·rw[<-i];exact hs.unc b p y e
  |false=>
   rw[a]at old c;obtain⟨y,e,i⟩:=old b j;rcases n.own with g|⟨g,m,-⟩
   ·rw[a]at g;rw[g]at f;rw[<-i];exact hs.unc y e s f
   ·rw[a]at m;rw[m]at f;rcases aq.1 ((nP _ _ _).mem_iff.1 f)with rfl|p
    ·have:=c g b j;unfold gu at this;rw[a]at this;simpa using this
    ·rw[<-i];exact hs.unc y e s p
def AK{s:Sp}:s.isQty q=true↔s.may=true/\(1<=q/\q<=1000000)/\s.lot∣q:=by
 unfold Sp.isQty;rw[ah,ah,eL,ax,Int.dvd_iff_tmod_eq_zero]
def zd{s:Sp}{o:Od}:∀{L:List Od} {left:Int},0<=left->left<=1000000->s.lot∣left->(∀b∈L,s.isQty b.left=true)->s.lot∣(eu o left L).1/\∀b∈(eu o left L).2.1,s.isQty b.left=true
 | [],left,_,_,a,_=>⟨a,λb d=>(by cases d)⟩
 |b::r,left,l,f,a,g=>by
  unfold eu;have d:=g b ai;have e:=λx c=>g x (ae _ c);obtain⟨k,n,h⟩:=AK.1 d;by_cases m:left<=0\/gu o b.price=false
  ·grind
  rw[aa m];by_cases i:b.acct=o.acct
  ·rw[ab i];exact zd (left:=left) l f a e
  rw[aa i];by_cases j:left<b.left
  ·rw[ab j];refine⟨Int.dvd_zero _,λx c=>?_⟩;rcases aq.1 c with rfl|c
   ·exact AK.2 ⟨k,⟨by grind,by grind⟩,Int.dvd_sub h a⟩
   ·exact e x c
  ·rw[aa j];exact zd (left:=left - b.left) qZ qZ (Int.dvd_sub a h) e
def MQ{s:Sp}(p:Cd B)(m:o.may=true)(i:s.isQty o.left=true)(b:∀d,∀x∈B d,s.isQty x.left=true):∀d,∀x∈(eP B o rests).1 d,s.isQty x.left=true:=by
 have e:=xP (rests:=rests) p m;obtain⟨j,t,l⟩:=AK.1 i;obtain⟨n,g⟩:=zd (s:=s) (o:=o) (L:=B !o.buy) (left:=o.left) qZ qZ l (b _);intro d x a;by_cases f:d=o.buy
 ·subst f;rcases e.own with c|⟨q,c,-⟩
  ·grind
  ·rw[c]at a;rcases aq.1 ((nP _ _ _).mem_iff.1 a)with rfl|k
   ·have r:=e.fill;refine AK.2 ⟨j,⟨by grind,by grind⟩,?_⟩;show s.lot∣(eP B o rests).2.left;unfold eP;simp only;split
    ·exact n
    ·exact Int.dvd_zero _
   ·exact b _ x k
 ·obtain rfl:d= !o.buy:=by cases d<;>cases h:o.buy<;>simp_all
  apply g;unfold eP at a;simp only at a;split at a
  ·replace a:x∈Bk.set _ _ _ (!o.buy):=a
   rwa[Bk.set_other,Bk.set_self]at a
  ·replace a:x∈Bk.set _ _ _ (!o.buy):=a
   rwa[Bk.set_self]at a
def Oo{g:Gt}(h:g.check=0):g.k.spec.isQty g.qty=true:=by
 unfold Gt.check at h
 repeat (split at h;·cases h)
 all_goals simp_all
def D2{a n:Int}{price qty:Int}{w:Od}(c:a≠0)(h:S.pass a n buy price qty w=0):∃k,bU S.cal.l n=some k/\k.spec.isPrice price=true/\k.spec.isQty qty=true:=by
 obtain⟨k,b,-,d,-⟩:=(xY c h).opn;refine⟨k,b,d,?_⟩;unfold ba.pass at h;split at h
 ·cases h
 split at h
 ·grind
 have:=Oo h;unfold dw at this;rw[b]at this;exact this
def ut.bk1(h:ut S){n:Int}{k:Ct}(i:bU S.cal.l n=some k){B:Bk}{L:bq}{nx:Int}(j:BkS B)(g:∀d,∀o∈B d,k.spec.isPrice o.price=true/\k.spec.isQty o.left=true):ut {S with bk:=eR S.bk n B,led:=L,next:=nx}:=by
 refine⟨λm=>?_,λm f e=>?_,h.bdn⟩
 ·show BkS (eR S.bk n B m);by_cases c:m=n
  ·subst c;rw[cQ];exact j
  ·rw[eT _ _ _ c];exact h.bks m
 ·by_cases c:m=n
  ·subst c;have:f=k:=cM (e.symm.trans i);subst this;refine⟨λo b=>?_,λd o b=>?_⟩
   ·rcases jN b with⟨d,a⟩|a
    ·replace a:o∈eR S.bk m B m d:=a;rw[cQ]at a;exact(g d o a).1
    ·exact(h.spc m f i).1 o (iV a)
   ·replace b:o∈eR S.bk m B m d:=b;rw[cQ]at b;exact(g d o b).2
  ·have:=h.spc m f e;refine⟨λo b=>?_,λd o b=>?_⟩
   ·rcases jN b with⟨d,a⟩|a
    ·replace a:o∈eR S.bk n B m d:=a;rw[eT _ _ _ c]at a;exact this.1 o (g8 a)
    ·exact this.1 o (iV a)
   ·replace b:o∈eR S.bk n B m d:=b;rw[eT _ _ _ c]at b;exact this.2 d o b
def HV{s:Sp}(f:Cd B)(e:o.may=true)(hp:s.isPrice o.price=true)(k:s.isQty o.left=true)(c:∀d,∀x∈B d,s.isPrice x.price=true/\s.isQty x.left=true):
  ∀d,∀x∈(eP B o rests).1 d,s.isPrice x.price=true/\s.isQty x.left=true:=by
 have g:=xP (rests:=rests) f e;intro d x a;refine⟨?_,MQ f e k (λd x a=>(c d x a).2) d x a⟩;by_cases i:d=o.buy
 ·subst i;rcases g.own with b|⟨m,b,-⟩
  ·grind
  ·rw[b]at a;rcases aq.1 ((nP _ _ _).mem_iff.1 a)with rfl|l
   ·exact hp
   ·exact(c _ x l).1
 ·obtain rfl:d= !o.buy:=by cases d<;>cases h:o.buy<;>simp_all
  obtain⟨y,b,j⟩:=g.opp.mem a;rw[<-qN j];exact(c _ y b).1
def Ie(h:ut S)(n:Int)(o:Od)(p:Pm):ut (S.traded n o p).2.2:=by
 rw[BU];exact h.sub ((mM.refl S).led _)
def ut.book(h:ut S){n:Int}{k:Ct}(a:bU S.cal.l n=some k):∀d,∀o∈S.bk n d,k.spec.isPrice o.price=true/\k.spec.isQty o.left=true:=
 λd o b=>⟨(h.spc n k a).1 o (g8 b),(h.spc n k a).2 d o b⟩
def TW(h:S.Ok)(f:ut S){c:Cm}(m:c.acct≠0)(b:(S.place c).1=0):ut (S.place c).2.2:=by
 unfold ba.place at b|-;simp only at b|-;by_cases j:(S.order c).1≠0
 ·grind
 rw[aa j]at b|-;have a:(S.order c).1=0:=by simpa using j
 obtain⟨hp,p,o⟩:=pX m a
 have d:S.pass c.acct c.ct c.buy c.price c.qty ou=0:=by
  unfold ba.order at a;simp only at a;apply aS;intro n;rw[ab n]at a;exact n a
 obtain⟨k,i,k1,k2⟩:=D2 m d;rw[o]at b|-;simp only at b|-;by_cases g:(cE (S.bk c.ct) (c.od S.next) c.ty).1≠0
 ·grind
 rw[aa g]at b|-;obtain⟨e,l,-⟩:=AL (by simpa using g:(cE (S.bk c.ct) (c.od S.next) c.ty).1=0);rw[e];exact Ie (f.bk1 i (Py (h.ord.bkMay _) l (f.bks _)) (HV (h.ord.bkMay _) l k1 k2 (f.book i))) _ _ _
def af5(h:S.Ok)(g:ut S){c:Cm}(r:c.acct≠0)(l:(S.bid c).1=0):ut (S.bid c).2.2:=by
 unfold ba.bid at l|-;simp only at l|-;by_cases s:(S.order c).1≠0
 ·grind
 rw[aa s]at l|-;have q:(S.order c).1=0:=by simpa using s
 obtain⟨hp,x,f⟩:=pX r q;obtain⟨k,v,-,k1,-⟩:=hp.opn;rw[f]at l|-;simp only at l|-;by_cases t:50<=(S.bd c.ct).length
 ·grind
 rw[aa t]
 have i:∀m,∀o∈eR S.bd c.ct (S.bd c.ct++[c.od S.next]) m,o∈S.bd m\/(o=c.od S.next/\m=c.ct):=λm o f=>by
  by_cases j:m=c.ct
  ·subst j;rw[cQ]at f;exact(aN.1 f).imp id λh=>⟨bX.1 h,rfl⟩
  ·rw[eT _ _ _ j]at f;exact .inl f
 refine⟨g.bks,λm n e=>⟨λo f=>?_,(g.spc m n e).2⟩,λm=>?_⟩
 ·rcases jN f with⟨d,p⟩|p
  ·exact(g.spc m n e).1 o (g8 p)
  ·rcases i m o p with w|⟨rfl,rfl⟩
   ·exact(g.spc m n e).1 o (iV w)
   ·have:n=k:=cM (e.symm.trans v);rw[this];exact k1
 ·show(eR S.bd c.ct (S.bd c.ct++[c.od S.next]) m).Pairwise _;by_cases j:m=c.ct
  ·subst j;rw[cQ];refine dz.2 ⟨g.bdn _,List.pairwise_singleton ..,λa r b u=>?_⟩;rw[bX.1 u];exact(h.ord.std _ a (iV r)).num
  ·rw[eT _ _ _ j];exact g.bdn m
def ND(h:S.Ok)(r:ut S){c:Cm}(R:c.acct≠0)(g:(S.replace c).1=0):ut (S.replace c).2.2:=by
 unfold ba.replace at g|-;cases E:S.find c.acct c.num with
 |none=>rw[E]at g;cases g
 |some x=>
  obtain⟨o,n⟩:=x;obtain⟨X,T,Y,d,V,N⟩:=pN E;rw[E]at g;simp only at g|-;by_cases I:S.pass c.acct n o.buy c.price c.qty o≠0
  ·grind
  rw[aa I]at g|-;obtain⟨k,C,k1,k2⟩:=D2 R (by simpa using I:S.pass c.acct n o.buy c.price c.qty o=0);by_cases A:(co (S.bk n) c.num c.price c.qty).1≠0
  ·grind
  rw[aa A]at g|-;refine Ie ?_ _ _ _;have q:=r.book C;unfold co at A|-;rw[N]at A|-;simp only at A|-;by_cases G:({o with price:=c.price,left:=c.qty}:Od).may=false
  ·grind
  rw[aa G];have u:({o with price:=c.price,left:=c.qty}:Od).may=true:=by simpa using G
  by_cases H:c.price=o.price/\c.qty<=o.left
  ·rw[ab H];simp only
   have m:((qs (S.bk n d) c.num c.qty).2.map Od.key=(S.bk n d).map Od.key)/\∀y∈(qs (S.bk n d) c.num c.qty).2,y∈S.bk n d\/y.left=c.qty:=by
    unfold qs;cases P:(S.bk n d).findIdx? λx=>decide (x.num=c.num)with
    |none=>exact⟨rfl,λy j=>.inl j⟩
    |some i=>
     obtain⟨w,-⟩:=bg.1 P;simp only;rw[ao w];simp only;split
     ·grind
     ·refine⟨?_,λy j=>(ec j).imp id λh=>by rw[h]⟩;rw[fU];have:Od.key {(S.bk n d)[i]with left:=c.qty}=((S.bk n d).map Od.key)[i]'(by simpa using w):=by rw[cn];rfl
      rw[this,gx]
   have v:∀e,((S.bk n).set d (qs (S.bk n d) c.num c.qty).2 e).map Od.key=(S.bk n e).map Od.key:=λe=>by
    by_cases g:e=d
    ·subst g;rw[Bk.set_self];exact m.1
    ·rw[Bk.set_ne _ _ g]
   have l:∀e,∀y∈(S.bk n).set d (qs (S.bk n d) c.num c.qty).2 e,∃z∈S.bk n e,z.price=y.price:=λe y j=>by
    have t:=aV (f:=Od.key) j;rw[v e]at t;obtain⟨z,Q,D⟩:=aD.1 t;exact⟨z,Q,qN D⟩
   refine r.bk1 C ⟨λe=>Iq (by grind) ((r.bks n).srt e),λb B s F=>?_⟩ λe y j=>?_
   ·obtain⟨L,K,O⟩:=l _ b B;obtain⟨J,s1,M⟩:=l _ s F;rw[<-O,<-M];exact(r.bks n).unc L K J s1
   ·obtain⟨z,W,U⟩:=l e y j;refine⟨by grind,?_⟩;by_cases g:e=d
    ·subst g;rw[Bk.set_self]at j;rcases m.2 y j with t|t
     ·exact(q e y t).2
     ·rw[t];exact k2
    ·rw[Bk.set_ne _ _ g]at j;exact(q e y j).2
  ·rw[aa H];simp only
   have a:∀e,((S.bk n).set d (oB (S.bk n d) c.num) e).Sublist (S.bk n e):=λe=>by
    by_cases g:e=d
    ·subst g;rw[Bk.set_self];exact xW _ _
    ·rw[Bk.set_ne _ _ g];exact cB _
   have p:Cd ((S.bk n).set d (oB (S.bk n d) c.num)):=λe y j=>h.ord.bkMay n e y ((a e).mem j);refine r.bk1 C (Py p u ⟨λe=>((r.bks n).srt e).sublist (a e),λb B s F=>(r.bks n).unc b ((a _).mem B) s ((a _).mem F)⟩) (HV p u k1 k2 λe y j=>q e y ((a e).mem j))
def Zc(h:S.Ok)(g:ut S){s:Sp}(j:(fy S.cal s).1=0):ut {S with cal:=(fy S.cal s).2,bk:=eR S.bk s.num Bk.empty}:=by
 unfold fy at j|-;by_cases y:s.may=false
 ·grind
 rw[aa y]at j|-;by_cases l:(bU S.cal.l s.num).isSome=true
 ·grind
 rw[aa l]at j|-;by_cases z:s.last<S.cal.day
 ·grind
 rw[aa z]at j|-;by_cases x:16<=S.cal.l.length
 ·grind
 rw[aa x]
 have q:bU S.cal.l s.num=none:=by
  cases g:bU S.cal.l s.num with
  |none=>rfl
  |some k=>rw[g]at l;exact absurd rfl l
 have a:∀m d,(eR S.bk s.num Bk.empty m d).Sublist (S.bk m d):=λm d=>by
  by_cases u:m=s.num
  ·subst u;rw[cQ];exact List.nil_sublist _
  ·rw[eT _ _ _ u];exact cB _
 refine⟨λn=>⟨λd=>((g.bks n).srt d).sublist (a n d),λb w v A=>(g.bks n).unc b ((a n _).mem w) v ((a n _).mem A)⟩,λn r i=>?_,g.bdn⟩;replace i:bU (S.cal.l.take (iM S.cal.l s.num)++l9 s::S.cal.l.drop (iM S.cal.l s.num)) n=some r:=i;rw[vW (k:=l9 s) q]at i;by_cases t:(l9 s).spec.num=n
 ·have c:S.ords n=[]:=h.ord.out n (by rw[<-t];unfold bt;show(match bU S.cal.l s.num with|none=>(7:Int)|some k=>if k.st=3 then 50 else 0)≠0;rw[q];decide);refine⟨λo f=>?_,λd o f=>?_⟩
  ·rcases jN f with⟨d,e⟩|e
   ·have:o∈S.ords n:=g8 ((a n d).mem e);rw[c]at this;cases this
   ·have:o∈S.ords n:=iV e;rw[c]at this;cases this
  ·have:o∈S.ords n:=g8 ((a n d).mem f);rw[c]at this;cases this
 ·rw[aa t]at i;have e:=g.spc n r i;refine⟨λo f=>?_,λd o f=>e.2 d o ((a n d).mem f)⟩;rcases jN f with⟨d,p⟩|p
  ·exact e.1 o (g8 ((a n d).mem p))
  ·exact e.1 o (iV p)
def Yp(h:S.Ok)(b:ut S){c:Cm}(a:(S.done c).1=0):ut (S.done c).2.2:=by
 have e:=mM.refl S;unfold ba.done at a|-;by_cases k1:c.kind=1
 ·rw[ab k1];exact b.sub (e.led _)
 rw[aa k1]at a|-;by_cases k2:c.kind=2
 ·rw[ab k2];exact b.sub (e.led _)
 rw[aa k2]at a|-;by_cases k3:c.kind=3
 ·rw[ab k3]at a|-;simp only at a|-;rw[ab a];exact Zc h b a
 rw[aa k3]at a|-;by_cases k4:c.kind=4
 ·rw[ab k4];exact b.sub (Pz S _ _)
 rw[aa k4]at a|-;by_cases k11:c.kind=11
 ·rw[ab k11];exact b.sub (Gl S _ _)
 rw[aa k11]at a|-;by_cases k12:c.kind=12
 ·rw[ab k12];exact b.sub (Ko S)
 rw[aa k12]at a|-;by_cases k14:c.kind=14
 ·rw[ab k14];exact b.sub (IP S _)
 rw[aa k14]at a|-;by_cases d:c.acct=0
 ·grind
 rw[aa d]at a|-;by_cases k6:c.kind=6
 ·rw[ab k6];exact b.sub (JN S c)
 rw[aa k6]at a|-;by_cases k7:c.kind=7
 ·rw[ab k7]at a|-;exact ND h b d a
 rw[aa k7]at a|-;by_cases f:S.led.getO c.acct=none
 ·grind
 rw[aa f]at a|-;by_cases k5:c.kind=5
 ·rw[ab k5]at a|-;exact TW h b d a
 rw[aa k5]at a|-;by_cases k9:c.kind=9
 ·rw[ab k9]at a|-;exact af5 h b d a
 rw[aa k9]at a|-;by_cases k8:c.kind=8
 ·rw[ab k8]at a|-;split
  ·exact b
  ·exact b.sub (vm S _ _)
 rw[aa k8]at a|-;by_cases k10:c.kind=10
 ·rw[ab k10];simp only;split
  ·exact b.sub ((vm S _ _).led _)
  ·exact b.sub (e.led _)
 rw[aa k10]at a|-;by_cases k13:c.kind=13
 ·rw[ab k13];exact b.sub (UD S _)
 rw[aa k13];exact b
def Ty(h:S.Ok)(a:ut S)(c:Cm):ut (S.apply c).2:=by
 unfold ba.apply;split
 ·exact a
 ·simp only;split
  ·exact a
  ·rename_i b
   exact Yp h a (by simpa using b)
def nt(l:List Po)(c:Int):Int:=((l.filter λp=>decide (p.c=c)).map (·.q)).sum
def ny(l:List Po)(c:Int):Int:=((l.filter λp=>decide (p.c=c)).map (·.b)).sum
def xG(l a:List Po)(c:Int):nt (l++a) c=nt l c+nt a c:=by simp[nt]
def xE(l a:List Po)(c:Int):ny (l++a) c=ny l c+ny a c:=by simp[ny]
def BB(p:Po)(c:Int):nt [p] c=if p.c=c then p.q else 0:=by
 unfold nt;by_cases h:p.c=c
 ·rw[ab h,bF (by simpa using h)];simp
 ·rw[aa h,aU (by simpa using h)];simp
def Cb(p:Po)(c:Int):ny [p] c=if p.c=c then p.b else 0:=by
 unfold ny;by_cases h:p.c=c
 ·rw[ab h,bF (by simpa using h)];simp
 ·rw[aa h,aU (by simpa using h)];simp
def QP{l:List Po}{c:Int}(h:∀p∈l,p.c≠c):nt l c=0/\ny l c=0:=by
 have:l.filter (λp=>decide (p.c=c))=[]:=gf.2 λp hp=>by simpa using h p hp
 simp[nt,ny,this]
structure LX(A:List Ac)(p:Po):Prop where
 c:p.c≠0
 a:p.a≠0
 there:∃x∈A,x.num=p.a
 some:p.isZ=false
 q:aY p.q (-MP) MP=true
 b:aY p.b (-MF) MF=true
structure PA(A:List Ac):Prop where
 srt:mg A
 num:∀a∈A,0<a.num/\aY a.cash 0 MF=true
structure Es(f:Int)(A:List Ac)(P:List Po):Prop where
 len:A.length<=64
 fund:aY f 0 MF=true
 pa:PA A
 tot:f+(A.map (·.cash)).sum<=MF
 srt:kf P
 good:∀p∈P,LX A p
 zero:∀c,nt P c=0/\ny P c=0
def fE{n lo hi:Int}:aY n lo hi=true↔lo<=n/\n<=hi:=by simp[aY]
def Es.ok{f:Int}(h:Es f A P)(i:∀a∈A,0<=a.num/\a.num<4294967296)(e:∀p∈P,0<=p.c/\p.c<4294967296):(bq.mk f A P).Ok where
 fund:=fE.1 h.fund
 sa:=h.pa.srt
 sp:=h.srt
 len:=h.len
 acc:=λa b=>⟨(h.pa.num a b).1,(i a b).2,fE.1 (h.pa.num a b).2⟩
 pos:=λp hp=>by
  have g:=h.good p hp;have u:=e p hp;have d:=fE.1 g.q;have c:=fE.1 g.b;exact⟨by have:=g.c;have:=u.1;omega,u.2,g.some,d.1,d.2,c.1,c.2,g.there⟩
def wY{α:Type}{R:α->α->Prop}{l:List α}(h:l.Pairwise R){i:Nat}(hi:i<l.length){b:α}(c:b∈l.take i):R b l[i]:=by
 obtain⟨j,a,rfl⟩:=bI c;rw[av]at a;rw[List.getElem_take];exact bH.1 h _ _ _ _ qZ
structure xx(pre:List Po)(lc la q b:Int):Prop where
 srt:kf pre
 top:∀p∈pre,vD (lc,la) p.key=false
 hit:(pre=[]/\lc=0/\la=0)\/∃p∈pre,p.key=(lc,la)
 q:q=nt pre lc
 b:b=ny pre lc
 oth:∀c,c≠lc->nt pre c=0/\ny pre c=0
def xx.nil:xx [] 0 0 0 0:=⟨List.Pairwise.nil,by simp,.inl ⟨rfl,rfl,rfl⟩,rfl,rfl,λ_ _=>⟨rfl,rfl⟩⟩
def yj{x y z:Int×Int}(h:vD y x=false)(b:vD y z=true):vD x z=true:=by
 rcases AA y x with a|a|a
 ·rw[a]at h;cases h
 ·rw[<-a];exact b
 ·exact yx a b
def xx.step{a:List Po}{f la b:Int}(h:xx a f la q b){p:Po}(g:vD (f,la) p.key=true)(j:p.c≠f->q=0/\b=0):xx (a++[p]) p.c p.a (q+p.q) (b+p.b):=by
 have n:f<=p.c:=by rw[mY]at g;simp only[Po.key]at g;omega
 have k:nt a p.c=q/\ny a p.c=b:=by
  by_cases e:p.c=f
  ·rw[e];exact⟨h.q.symm,h.b.symm⟩
  ·obtain⟨rfl,rfl⟩:=j e;exact h.oth _ e
 refine⟨dz.2 ⟨h.srt,List.pairwise_singleton ..,λx d y l=>?_⟩,λx d=>?_,.inr ⟨p,by simp,rfl⟩,?_,?_,λc i=>?_⟩
 ·rw[bX]at l;subst l;exact yj (h.top x d) g
 ·rcases aN.1 d with d|d
  ·exact yk (yj (h.top x d) g)
  ·rw[bX]at d;subst d;exact EJ
 ·rw[xG,BB,ab rfl,k.1]
 ·rw[xE,Cb,ab rfl,k.2]
 ·rw[xG,xE,BB,Cb,aa (jW i),aa (jW i)];by_cases e:c=f
  ·obtain⟨rfl,rfl⟩:=j (λm=>i (e.trans m.symm));rw[e,<-h.q,<-h.b];exact⟨rfl,rfl⟩
  ·have:=h.oth c e;rw[this.1,this.2];exact⟨rfl,rfl⟩
def xx.bad_end{a la b:Int}(h:xx P a la q b)(e:q≠0\/b≠0):¬∀c,nt P c=0/\ny P c=0:=by
 intro d;have:=d a;rw[<-h.q,<-h.b]at this;omega
def xx.bad_sum{i:Nat}(hi:i<P.length){f la q b:Int}(h:xx (P.take i) f la q b)(v:P[i].c≠f)(d:q≠0\/b≠0):¬(kf P/\∀c,nt P c=0/\ny P c=0):=by
 rintro⟨m,s⟩;rcases h.hit with⟨e,-,-⟩|⟨x,t,r⟩
 ·have l:=h.q;have k:=h.b;rw[e]at l k;rcases d with d|d
  ·exact d l
  ·exact d k
 ·have a:vD x.key P[i].key=true:=wY m hi t;rw[r,mY]at a;simp only[Po.key]at a
  have o:∀p∈P.drop i,p.c≠f:=by
   intro p hp;obtain⟨j,u,rfl⟩:=bI hp;rw[List.getElem_drop];rw[bi]at u;by_cases g:j=0
   ·subst g;exact v
   ·have:=bH.1 m i (i+j) hi qZ qZ;rw[mY]at this;simp only[Po.key]at this;omega
  have n:=QP o;have:=s f;rw[<-ce i P,xG,xE,n.1,n.2,<-h.q,<-h.b]at this;omega
def xx.bad_key{i:Nat}(hi:i<P.length){d la q b:Int}(h:xx (P.take i) d la q b)(l:0<=P[i].c/\0<=P[i].a)(c:vD (d,la) P[i].key=false):¬(kf P/\∀p∈P,LX A p):=by
 rintro⟨j,f⟩;have g:=f P[i] (ar hi);rcases h.hit with⟨-,rfl,rfl⟩|⟨x,k,e⟩
 ·rw[fM,Ne,mY]at c;simp only[Po.key]at c;have:=g.c;omega
 ·have a:vD x.key P[i].key=true:=wY j hi k;rw[e,c]at a;cases a
def E4{l:List Int}{B:Int}(h:∀x∈l,-B<=x/\x<=B): -(B*l.length)<=l.sum/\l.sum<=B*l.length:=by
 induction l with
 |nil=>simp
 |cons x l a=>
  have d:=h x ai;have c:=a λy b=>h y (ae _ b)
  have e:B*((x::l).length:Int)=B*l.length+B:=by
   simp only[aR,jx,Int.natCast_one,Int.mul_add,Int.mul_one]
  rw[e];simp only[bp];omega
def Uq(g:∀p∈P,LX A p)(hl:P.length<=1024)(c:Int):(-10240000000<=nt P c/\nt P c<=10240000000)/\(-1024000000000000000<=ny P c/\ny P c<=1024000000000000000):=by
 have a:∀p∈P.filter (λp=>decide (p.c=c)),LX A p:=λp hp=>g p (aM.1 hp).1;have b:=aX (λp:Po=>decide (p.c=c)) P;unfold nt ny;generalize P.filter (λp=>decide (p.c=c))=L at a b
 have f:=E4 (l:=L.map (·.q)) (B:=10000000) λx d=>by
  obtain⟨p,hp,rfl⟩:=aD.1 d;have:=fE.1 (a p hp).q;simpa [MP]using this
 have e:=E4 (l:=L.map (·.b)) (B:=1000000000000000) λx d=>by
  obtain⟨p,hp,rfl⟩:=aD.1 d;have:=fE.1 (a p hp).b;simpa [MF]using this
 rw[af]at f e;omega
def vI:Int->List Ct->Bool
 |_,[]=>true
 |n,k::l=>decide (n<k.spec.num)&& (decide (1<=k.st)&& (decide (k.st<=3)&& (k.spec.isPrice k.price&& vI k.spec.num l)))
def rA:∀{l:List Ct} {n:Int},vI n l=true->(∀k∈l,n<k.spec.num/\1<=k.st/\k.st<=3/\k.spec.isPrice k.price=true)/\nU l
 | [],n,_=>⟨λk d=>(by cases d),List.Pairwise.nil⟩
 |k::l,n,h=>by
  unfold vI at h;simp only[ah,ax]at h;obtain⟨f,c,j,e,i⟩:=h;obtain⟨b,g⟩:=rA i;refine⟨λx a=>?_,bJ.2 ⟨λx a=>(b x a).1,g⟩⟩;rcases aq.1 a with rfl|a
  ·exact⟨f,c,j,e⟩
  ·have:=b x a;exact⟨qZ,this.2⟩
def Io:∀{l:List Ct} {n:Int},(∀k∈l,n<k.spec.num/\1<=k.st/\k.st<=3/\k.spec.isPrice k.price=true)->nU l->vI n l=true
 | [],n,_,_=>rfl
 |k::l,n,h,g=>by
  obtain⟨f,d,i,e⟩:=h k ai;obtain⟨a,b⟩:=bJ.1 g;unfold vI;rw[aA f,aA d,aA i,e,Io (λx c=>⟨a x c,(h x (ae _ c)).2⟩) b];rfl
def bq.stB(L:bq)(a:Int):Bool:=match L.getO a with|some x=> !x.dfl&& !x.kil|none=>false
def ba.stnd(S:ba)(lots:Bool)(U:List Int)(x:Int×Od):Bool:=
 decide (bt S.cal.l x.1=0)&& (S.led.stB x.2.acct&& (x.2.may&& ((dw S.cal.l x.1).1.spec.isPrice x.2.price&& ((!lots||(dw S.cal.l x.1).1.spec.isQty x.2.left)&& (decide (x.2.num<S.next)&& !U.contains x.2.num)))))
def oJ:List (Int×Od)->List Int->ba->Option (List Int×ba)
 | [],U,S=>some (U,S)
 |x::l,U,S=>
  if S.stnd true U x=false then none
  else if(cE (S.bk x.1) x.2 4).1≠0\/(cE (S.bk x.1) x.2 4).2.2.gone≠ []then none
  else oJ l (x.2.num::U) {S with bk:=eR S.bk x.1 (cE (S.bk x.1) x.2 4).2.1}
def qR:List (Int×Od)->Option Int->Int->List Int->ba->Option ba
 | [],pc,n,U,S=>some S
 |x::l,pc,n,U,S=>
  if S.stnd false U x=false then none
  else if x.2.num<=(if pc≠none/\pc≠some x.1 then 0 else n)then none
  else if 50<=(S.bd x.1).length then none
  else qR l (some x.1) x.2.num (x.2.num::U) {S with bd:=eR S.bd x.1 (S.bd x.1++[x.2])}
def tM(s:zi):ba:=⟨⟨s.day,s.cts⟩,⟨s.fund,s.accts,s.poss⟩,λ_=>Bk.empty,λ_=>[],s.next⟩
structure yd(s:zi):Prop where
 len:s.cts.length<=16
 cts:vI 0 s.cts=true
 led:Es s.fund s.accts s.poss
 next:1<=s.next/\s.next<=ll+1
 poss:∀p∈s.poss,bt s.cts p.c=0
def zp(s:zi):Option ba:=(oJ s.ords [] (tM s)).bind λx=>qR s.bids none 0 x.1 x.2
open Classical in
noncomputable def zn (s:zi):Option ba:=
 if yd s then(zp s).bind λS=>if S.state.ords=s.ords/\S.state.bids=s.bids then some S else none else none
structure zi.Fit(s:zi):Prop where
 day:gM s.day
 next:sB s.next
 fund:dM s.fund
 accts:∀a∈s.accts,gM a.num/\dM a.cash
 cts:∀k∈s.cts,k.Fit
 poss:∀p∈s.poss,(gM p.c/\gM p.a)/\dM p.q/\dM p.b
 ords:∀x∈s.ords,gM x.1/\x.2.Fit
 bids:∀x∈s.bids,gM x.1/\x.2.Fit
def Sl(h:yd s)(c:s.Fit):(tM s).cal.Ok:=by
 obtain⟨f,d⟩:=rA h.cts;refine⟨h.len,c.day,λk b=>?_,d⟩;obtain⟨i,e,g,a⟩:=f k b;refine⟨c.cts k b,?_,a,e,g⟩;unfold Sp.isPrice at a;exact(ah _ _▸a).1
def H5(P:List Po)(c:Int):iy (zgq c) P=nt P c/\iy (JH c) P=ny P c:=by
 induction P with
 |nil=>exact⟨rfl,rfl⟩
 |cons p P a=>
  have b:nt (p::P) c=nt [p] c+nt P c:=by rw[<-xG];rfl
  have d:ny (p::P) c=ny [p] c+ny P c:=by rw[<-xE];rfl
  rw[b,d,BB,Cb,<-a.1,<-a.2];constructor<;>simp only[iy,zgq,JH,aH,bp]
def Mx(h:yd s)(e:s.Fit):(tM s).Ok:=by
 refine⟨Sl h e,⟨h.led.ok (λa f=>(e.accts a f).1) (λp hp=>(e.poss p hp).1.1),h.poss,λc=>?_⟩,⟨λn _=>rfl,λn d=>⟨by show(0:Nat)<=100;omega,λo b=>(by cases b)⟩,λn o b=>(by cases b),λn=>je,λn m o g b=>(by cases b),λn=>(by show(0:Nat)<=50;omega)⟩,h.next,h.led.tot⟩;show iy (zgq c) s.poss=0/\iy (JH c) s.poss=0;have:=H5 s.poss c;rw[this.1,this.2];exact h.led.zero c
structure VS(S:ba)(U:List Int)(x:Int×Od):Prop where
 alive:bt S.cal.l x.1=0
 may:x.2.may=true
 acc:S.led.Stands x.2.acct
 num:x.2.num<S.next
 new:x.2.num ∉ U
def Ll{lots:Bool}{x:Int×Od}(h:S.stnd lots U x=true):VS S U x:=by
 unfold ba.stnd at h;simp only[ah,ax]at h;obtain⟨g,b,c,j,k,e,i⟩:=h;refine⟨g,c,?_,e,by simpa using i⟩
 have f:x.2.acct≠0:=by
  unfold Od.may at c;simp only[ah,ax]at c;exact c.1.1.2
 unfold bq.stB at b;unfold bq.getO at b;rw[aa f]at b;unfold bq.Stands;cases d:S.led.find x.2.acct with
 |none=>rw[d]at b;cases b
 |some a=>
  rw[d]at b;simp only[ah,Bool.not_eq_true']at b;exact⟨a,rfl,b.2,b.1⟩
structure qu(S0 S:ba)(U:List Int):Prop where
 ok:S.Ok
 cal:S.cal=S0.cal
 led:S.led=S0.led
 next:S.next=S0.next
 nums:∀n,∀o∈S.ords n,o.num∈U
def qu.fresh{b:ba}(h:qu b S U){x:Int×Od}(c:VS S U x):∀m,∀y∈S.ords m,y.num≠x.2.num:=λm y a e=>c.new (e▸h.nums m y a)
def qu.order{g:ba}(h:qu g S U){x:Int×Od}(b:VS S U x)(p:x.2.Fit)(t:(cE (S.bk x.1) x.2 4).1=0):
  qu g {S with bk:=eR S.bk x.1 (cE (S.bk x.1) x.2 4).2.1} (x.2.num::U):=by
 obtain⟨e,r,-⟩:=AL t;rw[e];have m:=tD h.ok.ord (n:=x.1) (o:=x.2) (rests:=decide ((4:Int)=1\/(4:Int)=4)) (nx:=S.next) b.alive b.may p b.num b.acc (h.fresh b) (eh _);have j:=xP (B:=S.bk x.1) (o:=x.2) (rests:=decide ((4:Int)=1\/(4:Int)=4)) (h.ok.ord.bkMay x.1) r;refine⟨⟨h.ok.cal,h.ok.led,m,h.ok.next,h.ok.fnd⟩,h.cal,h.led,h.next,λn o q=>?_⟩;rcases jN q with⟨d,a⟩|a
 ·replace a:o∈eR S.bk x.1 (eP (S.bk x.1) x.2 (decide ((4:Int)=1\/(4:Int)=4))).1 n d:=a;by_cases i:n=x.1
  ·subst i;rw[cQ]at a;by_cases k:d=x.2.buy
   ·subst k;rcases j.own with c|⟨-,c,-⟩
    ·rw[c]at a;exact ae _ (h.nums _ o (g8 a))
    ·rw[c]at a;rcases aq.1 ((nP _ _ _).mem_iff.1 a)with rfl|f
     ·exact ai
     ·exact ae _ (h.nums _ o (g8 f))
   ·obtain rfl:d= !x.2.buy:=by cases d<;>cases u:x.2.buy<;>simp_all
    obtain⟨s,f,l⟩:=j.opp.mem a;rw[<-nJ l];exact ae _ (h.nums _ s (g8 f))
  ·rw[eT _ _ _ i]at a;exact ae _ (h.nums n o (g8 a))
 ·exact ae _ (h.nums n o (iV a))
def qu.bid{e:ba}(h:qu e S U){x:Int×Od}(b:VS S U x)(i:x.2.Fit)(hl:(S.bd x.1).length<50):
  qu e {S with bd:=eR S.bd x.1 (S.bd x.1++[x.2])} (x.2.num::U):=by
 have j:=h.ok.ord.addBd (n:=x.1) (x:=x.2) (nx:=S.next) b.alive b.may i b.num b.acc (h.fresh b) hl (eh _);refine⟨⟨h.ok.cal,h.ok.led,j,h.ok.next,h.ok.fnd⟩,h.cal,h.led,h.next,λn o g=>?_⟩;rcases jN g with⟨d,a⟩|a
 ·exact ae _ (h.nums n o (g8 a))
 ·replace a:o∈eR S.bd x.1 (S.bd x.1++[x.2]) n:=a;by_cases f:n=x.1
  ·subst f;rw[cQ]at a;rcases aN.1 a with c|c
   ·exact ae _ (h.nums _ o (iV c))
   ·rw[bX.1 c];exact ai
  ·rw[eT _ _ _ f]at a;exact ae _ (h.nums n o (iV a))
def Hv{c:ba}:∀{l:List (Int×Od)} {U:List Int} {S:ba} {x:List Int×ba},qu c S U->(∀y∈l,y.2.Fit)->oJ l U S=some x->qu c x.2 x.1
 | [],U,S,x,h,_,e=>by cases e;exact h
 |y::l,U,S,x,h,d,e=>by
  unfold oJ at e;by_cases b:S.stnd true U y=false
  ·rw[ab b]at e;cases e
  rw[aa b]at e;by_cases a:(cE (S.bk y.1) y.2 4).1≠0\/(cE (S.bk y.1) y.2 4).2.2.gone≠ []
  ·rw[ab a]at e;cases e
  rw[aa a]at e;exact Hv (h.order (Ll (by simpa using b)) (d y ai) (aS λg=>a (.inl g))) (λz f=>d z (ae _ f)) e
def HG{d:ba}:∀{l:List (Int×Od)} {a:Option Int} {n:Int} {U:List Int} {S S' :ba},qu d S U->(∀y∈l,y.2.Fit)->qR l a n U S=some S' ->∃i,qu d S' i
 | [],a,n,U,S,S',h,_,e=>by cases e;exact⟨U,h⟩
 |y::l,a,n,U,S,S',h,f,e=>by
  unfold qR at e;by_cases b:S.stnd false U y=false
  ·rw[ab b]at e;cases e
  rw[aa b]at e;by_cases c:y.2.num<=(if a≠none/\a≠some y.1 then 0 else n)
  ·rw[ab c]at e;cases e
  rw[aa c]at e;by_cases g:50<=(S.bd y.1).length
  ·rw[ab g]at e;cases e
  rw[aa g]at e;exact HG (h.bid (Ll (by simpa using b)) (f y ai) qZ) (λz j=>f z (ae _ j)) e
def qu.zero(h:yd s)(a:s.Fit):qu (tM s) (tM s) []:=⟨Mx h a,rfl,rfl,rfl,λn o b=>(by cases b)⟩
def EZ(h:zn s=some S):yd s/\zp s=some S/\S.state.ords=s.ords/\S.state.bids=s.bids:=by
 unfold zn at h;by_cases a:yd s
 ·rw[ab a]at h;cases d:zp s with
  |none=>rw[d]at h;cases h
  |some c=>
   rw[d]at h;simp only[Option.bind_some]at h;by_cases b:c.state.ords=s.ords/\c.state.bids=s.bids
   ·rw[ab b]at h;cases h;exact⟨a,rfl,b⟩
   ·rw[aa b]at h;cases h
 ·rw[aa a]at h;cases h
def Q5(d:yd s)(a:s.Fit)(h:zp s=some S):∃U,qu (tM s) S U:=by
 unfold zp at h;cases c:oJ s.ords [] (tM s)with
 |none=>rw[c]at h;cases h
 |some x=>
  rw[c]at h;exact HG (Hv (qu.zero d a) (λy b=>(a.ords y b).2) c) (λy b=>(a.bids y b).2) h
def He(b:s.Fit)(h:zn s=some S):S.Ok/\S.cal=⟨s.day,s.cts⟩/\S.led=⟨s.fund,s.accts,s.poss⟩/\S.next=s.next/\S.state.ords=s.ords/\S.state.bids=s.bids:=by
 obtain⟨e,d,c,f⟩:=EZ h;obtain⟨U,a⟩:=Q5 e b d;exact⟨a.ok,a.cal,a.led,a.next,c,f⟩
end Go.Proofs
namespace Go.Proofs
open Go Go.Vc
variable {S:ba}
def uJ{α β:Type}{f g:α->List β}:∀{l:List α},(∀x∈l,f x=g x)->l.flatMap f=l.flatMap g
 | [],_=>rfl
 |x::l,h=>by rw[aT,aT,h x ai,uJ λy a=>h y (ae _ a)]
def yR:∀(l a:List (Int×Od)) (U:List Int) (S:ba),oJ (l++a) U S=(oJ l U S).bind λx=>oJ a x.1 x.2
 | [],a,U,S=>rfl
 |x::l,a,U,S=>by
  simp only[ej,oJ];split
  ·rfl
  ·split
   ·rfl
   ·exact yR l a _ _
def NN{L:List Od}{o:Od}(h:∀x∈L,gu o x.price=false):iY (!o.buy) L o.price o.acct=0:=by
 unfold iY
 have:L.takeWhile (λx=> !iv (!o.buy) o.price x.price)=[]:=by
  cases L with
  |nil=>rfl
  |cons b r=>
   rw[List.takeWhile_cons_of_neg];have a:=h b ai;unfold gu at a;unfold iv;cases c:o.buy with
   |true=>rw[c]at a;simp at a|-;omega
   |false=>rw[c]at a;simp at a|-;omega
 rw[this];rfl
def FB{B:Bk}{n:Int}(h:∀d,∀x∈B d,x.num≠n):B.find n=none:=by
 unfold Bk.find;rw[vK (h true),vK (h false)]
def V4{B:Bk}{o:Od}(e:o.may=true)(h:∀d,∀x∈B d,x.num≠o.num)(hl:(B o.buy).length<100)(a:∀x∈B !o.buy,gu o x.price=false)(hs:∀x∈B o.buy,iv o.buy o.price x.price=false):
  cE B o 4=(0,B.set o.buy (B o.buy++[o]),⟨[],[],0,o.left⟩):=by
 have i:=jm e;have j:=NN a;unfold cE;rw[aa (by simp[e]),FB h,aa (by simp),aa qZ,aa qZ,aa qZ]
 have c:eu o o.left (B !o.buy)=(o.left,B !o.buy,[],[],0):=tN (by
  cases g:B !o.buy with
  |nil=>exact .inr (.inl rfl)
  |cons b r=>exact .inr (.inr ⟨b,r,rfl,a b (by rw[g];exact ai)⟩))
 have f:(oX o.buy (B o.buy) {o with left:=o.left}).2=B o.buy++[o]:=by
  unfold oX;rw[aa (by simp[e]),aa,aa qZ]
  ·show su o.buy (B o.buy) o=_;unfold su Fz;have:(B o.buy).findIdx? (λx=>iv o.buy o.price x.price)=none:=du.2 λx a=>hs x a;rw[this];simp
  ·grind
 unfold eP;simp only;rw[c];simp only;rw[ab ⟨by decide,qZ⟩,Bk.set_same,f]
def Mo{T:ba}(h:S.Ok)(s:ut S)(w:T.cal=S.cal)(hl:T.led=S.led)(t:T.next=S.next){n:Int}{o:Od}(c:o∈S.ords n){lots:Bool}(j:lots=true->∃d,o∈S.bk n d){U:List Int}(m:o.num ∉ U):T.stnd lots U (n,o)=true:=by
 have a:=h.ord.alive c;obtain⟨k,e,-⟩:=pl a;have b:=h.ord.std n o c;obtain⟨q,i⟩:=s.spc n k e;unfold ba.stnd;rw[w,hl,t]
 have u:S.led.stB o.acct=true:=by
  obtain⟨x,l,g,r⟩:=b.acc;unfold bq.stB
  have:o.acct≠0:=by
   have:=b.may;unfold Od.may at this;simp only[ah,ax]at this;exact this.1.1.2
  rw[ov this,l];simp[g,r]
 have p:dw S.cal.l n=(k,0):=by unfold dw;rw[e]
 have v:(!lots||k.spec.isQty o.left)=true:=by
  cases lots with
  |false=>rfl
  |true=>
   obtain⟨d,f⟩:=j rfl;rw[i d o f];rfl
 show(decide (bt S.cal.l n=0)&& (S.led.stB o.acct&& (o.may&& ((dw S.cal.l n).1.spec.isPrice o.price&& ((!lots||(dw S.cal.l n).1.spec.isQty o.left)&& (decide (o.num<S.next)&& !U.contains o.num))))))=true;rw[u,p,aA a,b.may,q o c,v,aA b.num];simpa using m
def yF{S:ba}(h:S.Ok)(q:ut S){n:Int}{d:Bool}:∀(b l1:List Od) (U:List Int) (T:ba),S.bk n d=l1++b->T.cal=S.cal->T.led=S.led->T.next=S.next->T.bk n d=l1->(∀e,∀x∈T.bk n e,x∈S.bk n e)->(∀o∈b,o.num ∉ U)->(∀x∈T.bk n (!d),∀o∈b,x.num≠o.num)->
  oJ (b.map λo=>(n,o)) U T=some ((b.map (·.num)).reverse++U,{T with bk:=eR T.bk n ((T.bk n).set d (l1++b))})
 | [],l1,U,T,j,s,A,v,r,C,D,z=>by
  have:eR T.bk n ((T.bk n).set d (l1++[]))=T.bk:=by rw[aC,<-r,Bk.set_same,Iz]
  rw[this];rfl
 |o::b,l1,U,T,j,s,A,v,r,C,D,z=>by
  have k:o∈S.bk n d:=by rw[j];simp
  have p:=(h.ord.bkNd n).side d;rw[j,aK,aH,dg,bO]at p;obtain⟨F,⟨H,G⟩,w⟩:=p;have c:=(h.ord.side n d).2 o k;have m:=(h.ord.side n d).1;rw[j,ad,aR]at m;have u:=Mo (T:=T) (lots:=true) h q s A v (g8 k) (λ_=>⟨d,k⟩) (D o ai);have i:=(q.bks n).srt d;unfold wG at i;rw[j,dz]at i
  have t:cE (T.bk n) o 4=(0,(T.bk n).set d (l1++[o]),⟨[],[],0,o.left⟩):=by
   have:=V4 (B:=T.bk n) (o:=o) (h.ord.std n o (g8 k)).may (λe x a=>?_) (by rw[c,r];omega) (λx a=>?_) (λx a=>?_)
   ·grind
   ·by_cases g:e=d
    ·subst g;rw[r]at a;exact λe=>w _ (aV (f:=(·.num)) a) _ ai e
    ·obtain rfl:e= !d:=by cases e<;>cases d<;>simp_all
     exact z x a o ai
   ·rw[c]at a;have l:=C _ x a;unfold gu;rw[c];cases d with
    |true=>have:=(q.bks n).unc o k x l;simp;omega
    |false=>have:=(q.bks n).unc x l o k;simp;omega
   ·grind
  rw[aH,oJ];rw[aa (by rw[u];simp),t,aa (by simp)];have J:=yF h q b (l1++[o]) (o.num::U) {T with bk:=eR T.bk n ((T.bk n).set d (l1++[o]))} (by rw[j];simp) s A v (by show eR T.bk n _ n d=_;rw[cQ,Bk.set_self]) (λe x a=>?_) (λy E=>?_) λx a y E=>?_
  ·refine J.trans ?_
   have I:eR (eR T.bk n ((T.bk n).set d (l1++[o]))) n ((eR T.bk n ((T.bk n).set d (l1++[o])) n).set d (l1++[o]++b))=eR T.bk n ((T.bk n).set d (l1++o::b)):=by
    rw[Az,cQ];congr 1;funext e;by_cases g:e=d
    ·subst g;rw[Bk.set_self,Bk.set_self];simp
    ·rw[Bk.set_ne _ _ g,Bk.set_ne _ _ g,Bk.set_ne _ _ g]
   show some (_,({T with bk:=eR (eR T.bk n ((T.bk n).set d (l1++[o]))) n ((eR T.bk n ((T.bk n).set d (l1++[o])) n).set d (l1++[o]++b))}:ba))=_;rw[I];simp
  ·replace a:x∈eR T.bk n ((T.bk n).set d (l1++[o])) n e:=a;rw[cQ]at a;by_cases g:e=d
   ·subst g;rw[Bk.set_self]at a;rw[j];rcases aN.1 a with l|l
    ·grind
    ·grind
   ·rw[Bk.set_ne _ _ g]at a;exact C e x a
  ·intro K;rcases aq.1 K with l|l
   ·grind
   ·grind
  ·replace a:x∈eR T.bk n ((T.bk n).set d (l1++[o])) n (!d):=a;rw[cQ,Bk.set_other]at a;exact z x a y (ae _ E)
def UQ(h:S.Ok)(m:ut S){n:Int}{U:List Int}{T:ba}(i:T.cal=S.cal)(l:T.led=S.led)(j:T.next=S.next)(c:T.bk n=Bk.empty)(k:∀o∈(S.bk n).all,o.num ∉ U):
  oJ ((S.bk n).all.map λo=>(n,o)) U T=some (((S.bk n).all.map (·.num)).reverse++U,{T with bk:=eR T.bk n (S.bk n)}):=by
 have b:=h.ord.bkNd n;unfold t7 Bk.all at b;rw[aK,dg]at b;unfold Bk.all at k|-;rw[aK,yR];rw[yF (d:=true) h m (S.bk n true) [] U T rfl i l j (by rw[c];rfl) (λe x a=>by rw[c]at a;cases a) (λo g=>k o (cD _ g)) (λx a=>by rw[c]at a;cases a)];rw[Option.bind_some]
 have:=yF (d:=false) h m (S.bk n false) [] (((S.bk n true).map (·.num)).reverse++U) {T with bk:=eR T.bk n ((T.bk n).set true ([]++S.bk n true))} rfl i l j
  (by show eR T.bk n _ n false=_;rw[cQ,Bk.set_ne _ _ (by decide),c];rfl) (λe x a=>?_) (λo g=>?_) λx a o g=>?_
 ·refine this.trans ?_
  have q:eR (eR T.bk n ((T.bk n).set true ([]++S.bk n true))) n ((eR T.bk n ((T.bk n).set true ([]++S.bk n true)) n).set false ([]++S.bk n false))=eR T.bk n (S.bk n):=by
   rw[Az,cQ];congr 1;funext e;cases e
   ·rw[Bk.set_self];rfl
   ·rw[Bk.set_ne _ _ (by decide),Bk.set_self];rfl
  show some (_,({T with bk:=eR (eR T.bk n ((T.bk n).set true ([]++S.bk n true))) n ((eR T.bk n ((T.bk n).set true ([]++S.bk n true)) n).set false ([]++S.bk n false))}:ba))=_;rw[q,aK,List.reverse_append,ag]
 ·replace a:x∈eR T.bk n ((T.bk n).set true ([]++S.bk n true)) n e:=a;rw[cQ]at a;cases e
  ·rw[Bk.set_ne _ _ (by decide),c]at a;cases a
  ·rw[Bk.set_self]at a;exact a
 ·intro r;rcases aN.1 r with p|p
  ·grind
  ·grind
 ·replace a:x∈eR T.bk n ((T.bk n).set true ([]++S.bk n true)) n true:=a;rw[cQ,Bk.set_self]at a;exact b.2.2 _ (aV (f:=(·.num)) a) _ (aV (f:=(·.num)) g)
def H9{S:ba}(h:S.Ok)(u:ut S):∀(b P:List Int) (U:List Int) (T:ba),(P++b).Nodup->T.cal=S.cal->T.led=S.led->T.next=S.next->T.bd=(λ_=>[])->(∀m,T.bk m=if m∈P then S.bk m else Bk.empty)->(∀x∈U,∃m∈P,∃o∈(S.bk m).all,o.num=x)->
  ∃p a,oJ (b.flatMap λn=>(S.bk n).all.map λo=>(n,o)) U T=some (p,a)/\a.cal=S.cal/\a.led=S.led/\a.next=S.next/\a.bd=(λ_=>[])/\(∀m,a.bk m=if m∈P++b then S.bk m else Bk.empty)/\∀x∈p,∃m∈P++b,∃o∈(S.bk m).all,o.num=x
 | [],P,U,T,l,d,g,f,r,j,q=>⟨U,T,rfl,d,g,f,r,by rw[aC];exact j,by rw[aC];exact q⟩
 |n::b,P,U,T,l,d,g,f,r,j,q=>by
  have c:n ∉ P:=λt=>(dg.1 l).2.2 n t n ai rfl
  have e:=UQ h u (n:=n) (U:=U) (T:=T) d g f (by rw[j,aa c]) λo v t=>by
   obtain⟨m,i,y,s,A⟩:=q _ t;have:=h.ord.apart m n y o (cD _ s) (cD _ v) A;exact c (this▸i)
  rw[aT,yR,e,Option.bind_some];refine Exists.elim (H9 h u b (P++[n]) (((S.bk n).all.map (·.num)).reverse++U) {T with bk:=eR T.bk n (S.bk n)} (by rw[ag];exact l) d g f r (λm=>?_) (λx k=>?_)) λp ⟨a,G,H,C,E,D,F,B⟩=>?_
  rotate_right 1
  ·grind
  ·show eR T.bk n (S.bk n) m=_;by_cases i:m=n
   ·subst i;rw[cQ,ab (by simp)]
   ·rw[eT _ _ _ i,j];by_cases w:m∈P
    ·grind
    ·grind
  ·rcases aN.1 k with z|z
   ·grind
   ·grind
def Mq{S:ba}(h:S.Ok)(j:ut S){n:Int}(rest:List (Int×Od)):∀(c l1:List Od) (d:Option Int) (last:Int) (U:List Int) (T:ba),S.bd n=l1++c->T.cal=S.cal->T.led=S.led->T.next=S.next->T.bd n=l1->(∀o∈c,o.num ∉ U)->(∀o∈c,(if d≠none/\d≠some n then 0 else last)<o.num)->
  ∃b a g,qR (c.map (λo=>(n,o))++rest) d last U T=qR rest b a g {T with bd:=eR T.bd n (l1++c)}/\((b=d/\a=last)\/b=some n)/\∀x∈g,x∈U\/∃o∈c,o.num=x
 | [],l1,d,last,U,T,e,p,t,r,l,u,v=>⟨d,last,U,by
   have:eR T.bd n (l1++[])=T.bd:=by rw[aC,<-l,Iz]
   rw[this];rfl,.inl ⟨rfl,rfl⟩,λx j=>.inl j⟩
 |o::c,l1,d,last,U,T,e,p,t,r,l,u,v=>by
  have A:o∈S.bd n:=by rw[e];simp
  have q:=Mo (T:=T) (lots:=false) h j p t r (iV A) (λh=>by cases h) (u o ai);have i:=h.ord.bdl n;rw[e,ad,aR]at i;have B:=j.bdn n;rw[e,dz,bJ]at B;have s:=h.ord.bdNd n;rw[e,aK,aH,dg,bO]at s;rw[aH,ej,qR];rw[aa (by rw[q];simp),aa (by have:=v o ai;simp only;omega),aa (by simp only;rw[l];omega)];refine Exists.elim (Mq (n:=n) h j rest c (l1++[o]) (some n) o.num (o.num::U) {T with bd:=eR T.bd n (T.bd n++[o])} (by rw[e];simp) p t r (by show eR T.bd n _ n=_;rw[cQ,l]) (λy w D=>?_) (λy w=>?_)) λb ⟨a,g,C,k,z⟩=>?_
  rotate_right 1
  ·refine⟨b,a,g,C.trans ?_,.inr (by rcases k with k|k;exact k.1;exact k),λx m=>?_⟩
   ·show qR rest b a g {T with bd:=eR (eR T.bd n (T.bd n++[o])) n (l1++[o]++c)}=_;rw[Az,ag];rfl
   ·rcases z x m with f|⟨y,w,E⟩
    ·rcases aq.1 f with f|f
     ·grind
     ·exact .inl f
    ·grind
  ·rcases aq.1 D with f|f
   ·grind
   ·grind
  ·grind
def Ik{S:ba}(h:S.Ok)(G:ut S):∀(e P:List Int) (a:Option Int) (last:Int) (U:List Int) (T:ba),(P++e).Nodup->T.cal=S.cal->T.led=S.led->T.next=S.next->T.bk=S.bk->(∀m,T.bd m=if m∈P then S.bd m else [])->(∀x∈U,∃m o,o∈S.ords m/\o.num=x/\(m∈P\/o∈(S.bk m).all))->((a=none/\last=0)\/∃k∈P,a=some k)->
  ∃d,qR (e.flatMap λn=>(S.bd n).map λo=>(n,o)) a last U T=some d/\d.cal=S.cal/\d.led=S.led/\d.next=S.next/\d.bk=S.bk/\∀m,d.bd m=if m∈P++e then S.bd m else []
 | [],P,a,last,U,T,v,i,p,q,A,s,C,r=>⟨T,rfl,i,p,q,A,by rw[aC];exact s⟩
 |n::e,P,a,last,U,T,v,i,p,q,A,s,C,r=>by
  have j:n ∉ P:=λB=>(dg.1 v).2.2 n B n ai rfl
  have w:(if a≠none/\a≠some n then 0 else last)=0:=by
   rcases r with⟨t,D⟩|⟨k,J,t⟩
   ·rw[t,D];simp
   ·grind
  refine Exists.elim (Mq h G (n:=n) (e.flatMap λn=>(S.bd n).map λo=>(n,o)) (S.bd n) [] a last U T rfl i p q (by rw[s,aa j]) (λo g B=>?_) (λo g=>?_)) λy ⟨b,I,Q,R,K⟩=>?_
  rotate_right 1
  ·rw[aT,Q];refine Exists.elim (Ik h G e (P++[n]) y b I {T with bd:=eR T.bd n ([]++S.bd n)} (by rw[ag];exact v) i p q A (λm=>?_) (λx u=>?_) ?_) λd ⟨V,Z,Y,b4,W,X⟩=>?_
   rotate_right 1
   ·grind
   ·show eR T.bd n ([]++S.bd n) m=_;by_cases H:m=n
    ·subst H;rw[cQ,ab (by simp)];rfl
    ·rw[eT _ _ _ H,s];by_cases M:m∈P
     ·grind
     ·grind
   ·rcases K x u with h9|⟨o,g,O⟩
    ·grind
    ·exact⟨n,o,iV g,O,.inl (by simp)⟩
   ·rcases R with⟨t,D⟩|t
    ·rcases r with r|⟨k,J,e3⟩
     ·grind
     ·grind
    ·grind
  ·obtain⟨m,N,L,E,l⟩:=C _ B;have:=h.ord.apart m n N o L (iV g) E;subst this;rcases l with l|l
   ·exact j l
   ·have c:=h.ord.nd m;unfold ba.ords at c;rw[aK,dg]at c;exact c.2.2 _ (aV (f:=(·.num)) l) _ (aV (f:=(·.num)) g) E
  ·rw[w];have F:=h.ord.std n o (iV g);have z:=F.may;unfold Od.may at z;simp only[ah,ax]at z;have i:=F.fit.1.1;have p:=z.1.1.1;omega
def DZ:∀(b:List Int) (H:List Po),b.Pairwise (· < ·)->kf H->(∀p∈H,p.c∈b)->(b.flatMap λn=>H.filter λp=>decide (p.c=n))=H
 | [],H,_,_,h=>by
  cases H with
  |nil=>rfl
  |cons p H=>exact absurd (h p ai) (by simp)
 |n::b,H,r,e,h=>by
  obtain⟨f,g⟩:=bJ.1 r
  have key:∀H:List Po,kf H->(∀p∈H,p.c∈n::b)->H=(H.filter λp=>decide (p.c=n))++H.filter λp=>decide (p.c≠n):=by
   intro H;induction H with
   |nil=>intro _ _;rfl
   |cons p H i=>
    intro e h;obtain⟨s1,k⟩:=bJ.1 e;by_cases hp:p.c=n
    ·rw[bF (by simpa using hp),aU (by simpa using hp)];have:=i k λq a=>h q (ae _ a);rw[ej,<-this]
    ·have c:∀q∈H,q.c≠n:=λq a u=>by
      have j:=s1 q a;rw[mY]at j;simp only[Po.key]at j;have d:=h p ai;rcases aq.1 d with d|d
      ·exact hp d
      ·grind
     rw[aU (by simpa using hp),bF (by simpa using hp)];have t:H.filter (λp=>decide (p.c=n))=[]:=gf.2 λq a=>by simpa using c q a
     have l:H.filter (λp=>decide (p.c≠n))=H:=cC.2 λq a=>by simpa using c q a
     rw[t,l];rfl
  have i:=DZ b (H.filter λp=>decide (p.c≠n)) g (e.sublist ep) λp hp=>by
   rw[aM,ax]at hp;exact(aq.1 (h p hp.1)).resolve_left hp.2
  rw[aT]
  conv=>rhs;rw[key H e h]
  congr 1;rw[<-i];refine uJ λm s=>?_;have o:=f m s;rw[gl];refine dx λp _=>?_;by_cases hp:p.c=m
  ·simp[hp];omega
  ·simp[hp]
def D7(h:S.Ok):S.nums.Pairwise (· < ·):=by
 unfold ba.nums;exact dA.2 h.cal.srt
def nR(h:S.Ok):S.state.poss=S.led.held:=
 DZ S.nums S.led.held (D7 h) h.led.led.sp λp hp=>AZ (h.led.held p hp)
def qP(h:S.Ok):S.state.Fit:=by
 have e:=h.next;have i:=h.led.led.fund;unfold MF at i;unfold ll at e;refine⟨h.cal.day,⟨by show 0<=S.next;omega,by show S.next<_;omega⟩,⟨by show _<=S.led.fund;omega,by show S.led.fund<_;omega⟩,λa f=>?_,λk g=>(h.cal.ok k g).1,λp hp=>?_,λx c=>?_,λx c=>?_⟩
 ·have:=h.led.led.acc a f;unfold MF at this;exact⟨⟨qZ,qZ⟩,by constructor<;>omega⟩
 ·rw[nR h]at hp;have:=h.led.led.pos p hp;obtain⟨a,f,l⟩:=this.2.2.2.2.2.2.2;have j:=h.led.led.acc a f;unfold MF MP at this;exact⟨⟨⟨qZ,qZ⟩,qZ,qZ⟩,by constructor<;>omega,by constructor<;>omega⟩
 ·replace c:x∈S.nums.flatMap λn=>(S.bk n).all.map λo=>(n,o):=c;obtain⟨n,e,c⟩:=List.mem_flatMap.1 c;obtain⟨o,d,rfl⟩:=aD.1 c;have b:o∈S.ords n:=cD _ d;exact⟨mN h.cal (h.ord.alive b),(h.ord.std n o b).fit⟩
 ·replace c:x∈S.nums.flatMap λn=>(S.bd n).map λo=>(n,o):=c;obtain⟨n,e,c⟩:=List.mem_flatMap.1 c;obtain⟨o,d,rfl⟩:=aD.1 c;have b:o∈S.ords n:=er _ d;exact⟨mN h.cal (h.ord.alive b),(h.ord.std n o b).fit⟩
def H7(h:S.Ok):yd S.state:=by
 have b:=h.led.led;refine⟨h.cal.len,?_,?_,h.next,λp hp=>?_⟩
 ·refine Io (λk n=>?_) h.cal.srt;obtain⟨k1,k2,k3,k4,k5⟩:=h.cal.ok k n;refine⟨?_,k4,k5,k3⟩;unfold Sp.may at k2;simp only[ah,ax]at k2;have f:=k1.1.1.1;have e:k.spec.num≠0:=k2.1.1.1.1.1.1.1.2;omega
 ·refine⟨b.len,fE.2 b.fund,⟨b.sa,λa d=>⟨(b.acc a d).1,fE.2 (b.acc a d).2.2⟩⟩,h.fnd,by rw[nR h];exact b.sp,λp hp=>?_,λc=>?_⟩
  ·rw[nR h]at hp;obtain⟨s,r,g,j,i,l,m,o⟩:=b.pos p hp;obtain⟨a,d,q⟩:=o;exact⟨qZ,by have:=(b.acc a d).1;omega,⟨a,d,q⟩,g,fE.2 ⟨j,i⟩,fE.2 ⟨l,m⟩⟩
  ·rw[nR h];have f:=h.led.zero c;have e:=H5 S.led.held c;rw[e.1,e.2]at f;exact f
 ·rw[nR h]at hp;exact h.led.held p hp
def Mh(h:S.Ok){n:Int}(e:n ∉ S.nums):S.bk n=Bk.empty/\S.bd n=[]:=by
 have b:=h.ord.out n λc=>e (AZ c);constructor
 ·funext d;cases a:S.bk n d with
  |nil=>rfl
  |cons x l=>
   have:x∈S.ords n:=g8 (d:=d) (by rw[a];exact ai);rw[b]at this;cases this
 ·cases a:S.bd n with
  |nil=>rfl
  |cons x l=>
   have:x∈S.ords n:=iV (by rw[a];exact ai);rw[b]at this;cases this
def JD(h:S.Ok)(b:ut S):zn S.state=some S:=by
 have e:S.nums.Nodup:=(D7 h).imp λu=>by omega
 obtain⟨U,T,H,I,A,D,B,E,w⟩:=H9 h b S.nums [] [] (tM S.state) e rfl (by show(⟨S.led.fund,S.led.all,S.state.poss⟩:bq)=_;rw[nR h]) rfl rfl (λm=>rfl) (λx b=>by cases b)
 have i:T.bk=S.bk:=by
  funext m;rw[E];by_cases a:m∈ []++S.nums
  ·rw[ab a]
  ·rw[aa a,(Mh h a).1]
 obtain⟨j,v,s,q,t,p,y⟩:=Ik h b S.nums [] none 0 U T e I A D i (λm=>by rw[B];rfl) (λx b=>by
  obtain⟨m,-,o,r,G⟩:=w x b;exact⟨m,o,cD _ r,G,.inr r⟩) (.inl ⟨rfl,rfl⟩)
 have f:j.bd=S.bd:=by
  funext m;rw[y];by_cases a:m∈ []++S.nums
  ·rw[ab a]
  ·rw[aa a,(Mh h a).2]
 have z:j=S:=by
  obtain⟨c,l,k,d,n⟩:=j;simp only at s q t p f;subst s q t p f;rfl
 have g:zp S.state=some S:=by
  unfold zp;have F:oJ S.state.ords [] (tM S.state)=some (U,T):=H;have C:qR S.state.bids none 0 U T=some S:=z▸v;rw[F,Option.bind_some];exact C
 unfold zn;rw[ab (H7 h),g,Option.bind_some,ab ⟨rfl,rfl⟩]
end Go.Proofs
namespace Go.Proofs
open Go Go.Vc
attribute [local congr] bj
end Go.Proofs
namespace Go.Proofs
open Go Go.Vc
attribute [local congr] bj
def MM:Tryz.prog.underlying 53=some (.slice 100):=cH
def an8:fj pQ 100 4 24=true:=cH
def stE:Nat->TypeId
 |3=>100
 |4=>120
 |5=>124
 |_=>132
def stK:Nat->Nat
 |3=>4
 |4=>27
 |5=>4
 |_=>6
def Zy(d n f:Int)(ss:Nat->Value):List Value:=[.int .u32 d,gQ n,gI f,ss 3,ss 4,ss 5,ss 6,ss 7]
def RJ(d n f:Int)(ss:Nat->Value):Value:=.agg (Zy d n f ss).toArray
end Go.Proofs
namespace Go.Proofs
open Go Go.Vc
attribute [local congr] bj
def mH(x:Int×Od):List Value:=gU x.1::dp x.2
def LN(A:List Ac)(C:List Ct)(P:List Po)(O B:List (Int×Od)):Nat->Nat
 |3=>A.length
 |4=>C.length
 |5=>P.length
 |6=>O.length
 |7=>B.length
 |_=>0
def LC(A:List Ac)(C:List Ct)(P:List Po)(O B:List (Int×Od)):Nat->List Value
 |3=>A.flatMap dr
 |4=>C.flatMap dh
 |5=>P.flatMap dR
 |6=>O.flatMap mH
 |7=>B.flatMap mH
 |_=>[]
def XS(ss:Nat->Value)(b:Nat):Nat->Prop:=λy=>y=b\/∃i,3<=i/\i<=7/\aQ (ss i) y
section
variable{w:Wt_}{b lo:Nat}{d nx fu:Int}{ss:Nat->Value}{A:List Ac}{C:List Ct}{P:List Po}{O B:List (Int×Od)}
end
end Go.Proofs
