/- Part of a proof. -/
import Derived.Test.YtgebhcgmckjbbaaGreatP24
set_option linter.all false
namespace Go.Proofs
open Go Go.Vc
def ia(buy:Bool)(l:List Od):Nat->Option Nat
 |0=>none
 |i+1=>
  match ia buy l i with
  |none=>some i
  |some a=>if du buy (l.getD i fH).price (l.getD a fH).price then some i else some a
def lU(buy:Bool):Nat->List Od->List Od
 |0,_=>[]
 |n+1,l=>
  match ia buy l l.length with
  |none=>[]
  |some a=>l.getD a fH::lU buy n (l.eraseIdx a)
def gZ(buy:Bool)(l:List Od):List Od:=lU buy l.length l
def mM(buy:Bool)(n:Nat)(l:List Od):lU buy (n+1) l=match ia buy l l.length with
  |none=>[]
  |some a=>l.getD a fH::lU buy n (l.eraseIdx a):=rfl
def IJ{α:Type}{P:List α->Prop}(c:P [])(h1:∀l a,P l->P (l++[a]))(l:List α):P l:=by
 rw[<-List.reverse_reverse l];induction l.reverse with
 |nil=>exact c
 |cons a r b=>rw[List.reverse_cons];exact h1 _ _ b
def mJ{buy:Bool}{l:List Od}:∀{i a:Nat},ia buy l i=some a->a<i
 |0,a,h=>by cases h
 |i+1,a,h=>by
  unfold ia at h;cases c:ia buy l i with
  |none=>rw[c]at h;cases h;omega
  |some b=>
   rw[c]at h;simp only at h;have:=mJ c;split at h
   ·cases h;omega
   ·cases h;omega
def rT{buy:Bool}{l:List Od}:∀{i:Nat},0<i->∃a,ia buy l i=some a
 |0,h=>absurd h (by omega)
 |i+1,h=>by
  unfold ia;cases c:ia buy l i with
  |none=>exact⟨i,rfl⟩
  |some b=>
   simp only;split
   ·exact⟨_,rfl⟩
   ·exact⟨_,rfl⟩
def oK{l l' :List Od}{i:Nat}(h:i<l.length):(l++l').getD i fH=l.getD i fH:=by
 simp[List.getD,List.getElem?_append_left h]
def zG{buy:Bool}{l l' :List Od}:∀{i:Nat},i<=l.length->ia buy (l++l') i=ia buy l i
 |0,_=>rfl
 |i+1,h=>by
  unfold ia;rw[zG (i:=i) (by omega)];cases a:ia buy l i with
  |none=>rfl
  |some b=>
   have:=mJ a;simp only;rw[oK (by omega),oK (by omega)]
def uK{buy:Bool}{x o:Od}{L:List Od}(h:du buy o.price x.price=true):jd buy (x::L) o=o::x::L:=by
 unfold jd xK;rw[List.findIdx?_cons,h];rfl
def qL{buy:Bool}{x o:Od}{L:List Od}(h:du buy o.price x.price=false):jd buy (x::L) o=x::jd buy L o:=by
 unfold jd xK;rw[List.findIdx?_cons,h];simp only[Bool.false_eq_true,if_false];cases a:L.findIdx? λx=>du buy o.price x.price with
 |none=>simp
 |some i=>simp
def tX{buy:Bool}{o:Od}:∀(n:Nat) (l:List Od),l.length=n->lU buy (n+1) (l++[o])=jd buy (lU buy n l) o
 |0,l,h=>by
  obtain rfl:=List.length_eq_zero_iff.1 h;rfl
 |n+1,l,h=>by
  obtain⟨a,f⟩:=rT (buy:=buy) (l:=l) (i:=n+1) (by omega);have j:=mJ f;have b:(l++[o]).length=n+2:=by simp[h]
  have c:(l++[o]).getD (n+1) fH=o:=by simp[List.getD,<-h]
  have k:ia buy (l++[o]) (n+2)=if du buy o.price (l.getD a fH).price then some (n+1)else some a:=by
   show(match ia buy (l++[o]) (n+1)with
    |none=>some (n+1)
    |some a=>if du buy ((l++[o]).getD (n+1) fH).price ((l++[o]).getD a fH).price then some (n+1)else some a)=_
   rw[zG (by omega),f];simp only;rw[c,oK (by omega)]
  have g:lU buy (n+1) l=l.getD a fH::lU buy n (l.eraseIdx a):=by
   rw[mM,h,f]
  rw[mM,b,k];by_cases d:du buy o.price (l.getD a fH).price=true
  ·rw[if_pos d];simp only;rw[c];have m:(l++[o]).eraseIdx (n+1)=l:=by rw[List.eraseIdx_append_of_length_le (by omega),h];simp
   rw[m,g,uK d]
  ·have e:du buy o.price (l.getD a fH).price=false:=by simpa using d
   rw[if_neg d];simp only;rw[oK (by omega),List.eraseIdx_append_of_lt_length (by omega),tX n (l.eraseIdx a) (by rw[List.length_eraseIdx_of_lt (by omega)];omega)];rw[g,qL e]
def vZ{buy:Bool}{o:Od}{l:List Od}:gZ buy (l++[o])=jd buy (gZ buy l) o:=by
 unfold gZ;rw[List.length_append,List.length_singleton];exact tX _ l rfl
def Dm(buy:Bool)(l:List Od):Prop:=l.Pairwise λa b=>du buy b.price a.price=false
def wd{buy:Bool}{o:Od}:∀{L:List Od},Dm buy L->Dm buy (jd buy L o)
 | [],_=>by show Dm buy [o];exact List.pairwise_singleton _ _
 |x::L,h=>by
  obtain⟨h1,e⟩:=List.pairwise_cons.1 h;by_cases d:du buy o.price x.price=true
  ·rw[uK d];refine List.pairwise_cons.2 ⟨λy a=>?_,h⟩
   have c:du buy y.price x.price=false:=by
    rcases List.mem_cons.1 a with rfl|a
    ·unfold du;cases buy<;>simp
    ·exact h1 y a
   unfold du at d c|-;cases buy<;>simp at d c|- <;>omega
  ·have b:du buy o.price x.price=false:=by simpa using d
   rw[qL b];refine List.pairwise_cons.2 ⟨λy a=>?_,wd e⟩;rcases List.mem_cons.1 ((kB _ _ _).mem_iff.1 a)with rfl|a
   ·exact b
   ·exact h1 y a
def mL(buy:Bool)(l:List Od):Dm buy (gZ buy l)/\(gZ buy l).Perm l:=by
 refine IJ (P:=λl=>Dm buy (gZ buy l)/\(gZ buy l).Perm l) ⟨List.Pairwise.nil,List.Perm.refl _⟩ (λl o a=>?_) l;rw[vZ];exact⟨wd a.1,(kB _ _ _).trans ((List.Perm.cons o a.2).trans (List.perm_append_singleton o l).symm)⟩
def iU(buy:Bool)(l:List Od):(gZ buy l).length=l.length:=(mL buy l).2.length_eq
def Ga{L:List Od}{o:Od}(h:∀x∈L,ec o x.price=false):eJ (!o.buy) L o.price o.acct=0:=by
 unfold eJ
 have:L.takeWhile (λx=> !du (!o.buy) o.price x.price)=[]:=by
  cases L with
  |nil=>rfl
  |cons b r=>
   rw[List.takeWhile_cons_of_neg];have h1:=h b List.mem_cons_self;unfold ec at h1;unfold du;cases a:o.buy with
   |true=>rw[a]at h1;simp at h1|-;omega
   |false=>rw[a]at h1;simp at h1|-;omega
 rw[this];rfl
def zy{B:Bk}{n:Int}(h:∀d,∀x∈B d,x.num≠n):B.find n=none:=by
 have a:∀d,jS (B d) n=none:=λd=>by
  unfold jS;rw[List.find?_eq_none];intro x b;simpa using h d x b
 unfold Bk.find;rw[a,a]
def yd(B:Bk)(d:Bool):B.set d (B d)=B:=by
 funext x;unfold Bk.set;split
 ·rename_i h;rw[h]
 ·rfl
def Hq{B:Bk}{o:Od}(c:o.may=true)(g:∀d,∀x∈B d,x.num≠o.num)(l:(B o.buy).length<100)(f:∀x∈B !o.buy,ec o x.price=false):
  cY B o 4=(0,B.set o.buy (jd o.buy (B o.buy) o),⟨[],[],0,o.left⟩):=by
 have k:=fQ c;have m:=Ga f;unfold cY;rw[if_neg (by simp[c]),zy g,if_neg (by simp),if_neg (by omega),if_neg (by omega),if_neg (by omega)]
 have a:dY o o.left (B !o.buy)=(o.left,B !o.buy,[],[],0):=mK (by
  cases i:B !o.buy with
  |nil=>exact .inr (.inl rfl)
  |cons b r=>exact .inr (.inr ⟨b,r,rfl,f b (by rw[i];exact List.mem_cons_self)⟩))
 have e:(jq o.buy (B o.buy) {o with left:=o.left}).2=jd o.buy (B o.buy) o:=by
  unfold jq;rw[if_neg (by simp[c]),if_neg,if_neg (by omega)];intro j;obtain⟨x,h1,h⟩:=List.any_eq_true.1 j;exact g _ x h1 (of_decide_eq_true h)
 unfold fj;simp only;rw[a];simp only;rw[if_pos ⟨by decide,by omega⟩,yd,e]
def HN{B:Bk}{o:Od}(u:He B)(v:Dm (!o.buy) (B !o.buy))(h:(cY B o 4).1=0)(i:(cY B o 4).2.2.gone=[]):(∀x∈B !o.buy,ec o x.price=false)/\(B o.buy).length<100:=by
 obtain⟨e,p,-⟩:=CB h;have z:=fQ p
 have f:∀x∈B !o.buy,ec o x.price=false:=by
  cases j:B !o.buy with
  |nil=>intro x f;cases f
  |cons b r=>
   have a:ec o b.price=false:=by
    apply Classical.byContradiction;intro q;have d:ec o b.price=true:=by simpa using q
    by_cases t:b.acct=o.acct
    ·rw[e]at i;unfold fj at i;simp only at i;rw[j]at i
     have:(dY o o.left (b::r)).2.2.2.1≠ []:=by
      unfold dY;rw[if_neg (by simp only[not_or];exact⟨by omega,q⟩),if_pos t];simp
     split at i
     ·exact this i
     ·exact this i
    ·have k:0<eJ (!o.buy) (B !o.buy) o.price o.acct:=by
      rw[j];unfold eJ
      have m:du (!o.buy) o.price b.price=false:=by
       unfold ec at d;unfold du;cases c:o.buy with
       |true=>rw[c]at d;simp at d|-;omega
       |false=>rw[c]at d;simp at d|-;omega
      rw[List.takeWhile_cons_of_pos (by rw[m];rfl),List.filter_cons_of_pos (by simpa using t)];simp only[List.map_cons,List.sum_cons];have h1:1<=b.left:=(fQ (u _ b (by rw[j];exact List.mem_cons_self)).1).1
      have A:0<=(((r.takeWhile λg=> !du (!o.buy) o.price g.price).filter λg=>decide (g.acct≠o.acct)).map (·.left)).sum:=by
       have:∀L:List Od,(∀x∈L,0<=x.left)->0<=(L.map (·.left)).sum:=by
        intro L;induction L with
        |nil=>intro _;simp
        |cons y L w=>
         intro s;have E:=s y List.mem_cons_self;have C:=w λx f=>s x (List.mem_cons_of_mem _ f);simp only[List.map_cons,List.sum_cons];omega
       refine this _ λx f=>?_;have n:=(List.takeWhile_sublist _).mem ((List.mem_filter.1 f).1);have:=(fQ (u _ x (by rw[j];exact List.mem_cons_of_mem _ n)).1).1;omega
      omega
     unfold cY at h;rw[if_neg (by simp[p])]at h;split at h
     ·cases h
     ·rw[if_neg (by omega),if_pos ⟨rfl,k⟩]at h;cases h
   intro x f;rcases List.mem_cons.1 f with rfl|l
   ·exact a
   ·have:=v;rw[j]at this;have h1:=(List.pairwise_cons.1 this).1 x l;unfold ec at a|-;unfold du at h1;cases c:o.buy with
    |true=>rw[c]at a h1;simp at a h1|-;omega
    |false=>rw[c]at a h1;simp at a h1|-;omega
 refine⟨f,?_⟩;apply Classical.byContradiction;intro q;have D:=Ga f;unfold cY at h;rw[if_neg (by simp[p])]at h;split at h
 ·cases h
 ·rw[if_neg (by omega),if_neg (by omega),if_pos ⟨.inr rfl,by omega,by omega⟩]at h;cases h
end Go.Proofs
namespace Go.Proofs
open Go Go.Vc
attribute [local congr] cq
section
variable{w:World}{K:cm}
def zv{o:Od}(l:o.Fit)(a:∀b,cl (λ_=>False) w b->K (.bool o.may) b):Ca Tryz.prog 171 #[g9 o] w K:=by
 apply OB;obtain⟨c,r,i,n⟩:=qB o w;have a:=a _ n;refine ck r ?_;obtain⟨p,h⟩:∃p,p=w.heap.size:=⟨_,rfl⟩
 rw[<-h]at i|-;obtain⟨m,s,j,k⟩:=uJ (show Dr c p o from i)
 have q:o.may=(decide (0<o.num)&& (decide (0<o.acct)&& (decide (0<o.price)&& (decide (o.price<=10000000)&& (decide (0<o.left)&& decide (o.left<=1000000)))))):=by
  unfold Od.may cD MP;have h1:=l.1.1;have d:=l.2.1.1;rw[Bool.eq_iff_iff];simp only[Bool.and_eq_true,decide_eq_true_eq];omega
 rw[q]at a;refine ck (nQ 0 (by omega) p _) (ck m ?_);refine ck (v:=.bool (decide (0<o.num))) (w' :=c) (by simp[go_sem]) ?_;by_cases e:0<o.num
 rotate_left
 ·rw[decide_eq_false e,ci,if_neg Bool.false_ne_true];simpa [e]using a
 rw[decide_eq_true e,ci,if_pos rfl];refine ck (nQ 1 (by omega) p _) (ck s ?_);refine ck (v:=.bool (decide (0<o.acct))) (w' :=c) (by simp[go_sem]) ?_;by_cases h1:0<o.acct
 rotate_left
 ·rw[decide_eq_false h1,ci,if_neg Bool.false_ne_true];simpa [h1]using a
 rw[decide_eq_true h1,ci,if_pos rfl];refine ck (nQ 3 (by omega) p _) (ck j ?_);refine ck (v:=.bool (decide (0<o.price))) (w' :=c) (by simp[go_sem]) ?_;by_cases d:0<o.price
 rotate_left
 ·rw[decide_eq_false d,ci,if_neg Bool.false_ne_true];simpa [d]using a
 rw[decide_eq_true d,ci,if_pos rfl];refine ck (nQ 3 (by omega) p _) (ck j ?_);refine ck (v:=.bool (decide (o.price<=10000000))) (w' :=c) (by simp[go_sem]) ?_;by_cases g:o.price<=10000000
 rotate_left
 ·rw[decide_eq_false g,ci,if_neg Bool.false_ne_true];simpa [g]using a
 rw[decide_eq_true g,ci,if_pos rfl];refine ck (nQ 4 (by omega) p _) (ck k ?_);refine ck (v:=.bool (decide (0<o.left))) (w' :=c) (by simp[go_sem]) ?_;by_cases f:0<o.left
 rotate_left
 ·rw[decide_eq_false f,ci,if_neg Bool.false_ne_true];simpa [f]using a
 rw[decide_eq_true f,ci,if_pos rfl];refine ck (nQ 4 (by omega) p _) (ck k ?_);refine ck (v:=.bool (decide (o.left<=1000000))) (w' :=c) (by simp[go_sem]) ?_;simpa [e,h1,d,g,f]using a
def Bm{buy:Bool}{a b:Int}(c:K (.bool (du buy a b)) w):Ca Tryz.prog 241 #[.bool buy,.int .i64 a,.int .i64 b] w K:=by
 apply NH;unfold du at c;cases buy with
 |true=>
  rw[if_pos rfl]at c;rw[ci,if_pos rfl];refine ck (v:=.bool (decide (b<a))) (w' :=w) (by simp[go_sem]) ?_;by_cases h:b<a
  ·rw[decide_eq_true h]at c|-;rw[ci,if_pos rfl];exact c
  ·rw[decide_eq_false h]at c|-;rw[ci,if_neg Bool.false_ne_true];refine ck (v:=.bool false) (w' :=w) (by simp[go_sem]) ?_;rw[ci,if_neg Bool.false_ne_true];exact c
 |false=>
  rw[if_neg Bool.false_ne_true]at c;rw[ci,if_neg Bool.false_ne_true];refine ck (v:=.bool true) (w' :=w) (by simp[go_sem]) ?_;rw[ci,if_pos rfl];refine ck (v:=.bool (decide (a<b))) (w' :=w) (by simp[go_sem]) ?_;exact c
def yn{W:World}{s:Value}{L:List Od}(h:Rd W 5 s L.length (L.flatMap da)){i:Nat}(hi:i<L.length):
  ∃b a,(∀V k,(Instr.indexAt gO s (.int k (i:Int))).run Tryz.prog V=.ok (.pointer (some ⟨b,a,none⟩)) V)/\At W b a (da L[i]):=by
 obtain⟨b,a,e,c,d,f⟩:=h.item dF hi rfl;exact⟨b,a+i*5,λV k=>by rw[c];simp[go_sem,hi,cE,eV],f⟩
def zw{W:World}{b off:Nat}{o:Od}(h:At W b off (da o)):(∀V,(Instr.fieldAt iq (.pointer (some ⟨b,off,none⟩)) 3).run Tryz.prog V=.ok (.pointer (some ⟨b,off+3,none⟩)) V)/\(Instr.loadAt 2 (.pointer (some ⟨b,off+3,none⟩))).run Tryz.prog W=.ok (.int .i64 o.price) W/\
  (∀V,(Instr.fieldAt iq (.pointer (some ⟨b,off,none⟩)) 0).run Tryz.prog V=.ok (.pointer (some ⟨b,off,none⟩)) V)/\(Instr.loadAt 27 (.pointer (some ⟨b,off,none⟩))).run Tryz.prog W=.ok (.int .u64 o.num) W:=by
 obtain⟨C,e,f,h1,a⟩:=h.get;have d:=a 3 (.int .i64 o.price) rfl;have c:=a 0 (.int .u64 o.num) rfl;rw[Nat.add_zero]at c;exact⟨λV=>by simp[go_sem,cE],by simp[go_sem,h1,d],λV=>by simp[go_sem,cE],by simp[go_sem,h1,c]⟩
def pM{W:World}{s:Value}{n:Nat}{cs:List Value}(h:Rd W 5 s n cs)(V:World):(builtin .len #[gO] 3 #[false] #[s]).run Tryz.prog V=.ok (.value (.int .i64 (n:Int))) V:=by
 obtain⟨a,c,rfl⟩:=h.isSl;simp[go_sem]
def sR:Option Nat->Int
 |none=> -1
 |some i=>i
def C1(buy:Bool)(l:List Od)(i:Nat):ia buy l (i+1)=match ia buy l i with
  |none=>some i
  |some a=>if du buy (l.getD i fH).price (l.getD a fH).price then some i else some a:=rfl
set_option maxRecDepth 10000 in
def vM{s:Value}{buy:Bool}{l:List Od}(h:Rd w 5 s l.length (l.flatMap da))(D:l.length<=100000)(t:∀g,cl (λ_=>False) w g->K (.int .i64 (sR (ia buy l l.length))) g):Ca Tryz.prog 174 #[.bool buy,s] w K:=by
 apply P3
 refine dp (λst W=>∃i:Nat,i<=l.length/\st=(.int .i64 (sR (ia buy l i)),.int .i64 i,())/\cl (λ_=>False) w W)
  (λst _=>match st.2.1 with| .int _ i=>l.length - i.toNat|_=>0) ⟨0,by omega,rfl,cl.refl _ _⟩ ?_
 rintro _ W ⟨i,F,rfl,n⟩ z j;unfold ET;intro _;refine fI (pM h _) ?_;by_cases c:i<l.length
 ·have d:(i:Int)<(l.length:Int):=by omega
  refine ck (v:=.bool true) (by simp[go_sem,d]<;>first|exact⟨rfl,rfl⟩|exact rfl) ?_;rw[ci,if_pos rfl];have md:=n.drew;have k:=h.mod md λ_ _ h=>h;refine cy.at (λst f=>st=(.int .i64 (sR (ia buy l (i+1))),())/\W.drew=f) ?_ ?_
  ·generalize W.drew=V at md k|-;refine cy.at (λst f=>∃b:Bool,st=(.bool b,())/\V=f/\sR (ia buy l (i+1))=if b then(i:Int)else sR (ia buy l i)) ?_ ?_
   ·rw[C1];cases m:ia buy l i with
    |none=>
     refine co (v:=.bool true) (λW=>by simp[go_sem,sR]) ?_;rw[ci,if_pos rfl];exact⟨true,rfl,rfl,rfl⟩
    |some a=>
     have G:=mJ m;have e:a<l.length:=by omega
     refine co (v:=.bool false) (λW=>by simp[go_sem,sR]) ?_;rw[ci,if_neg Bool.false_ne_true];obtain⟨A,C,x,p⟩:=yn k c;obtain⟨E,B,r,q⟩:=yn k e;refine co (λW=>x W _) (co (zw p).1 (cB (zw p).2.1 ?_));refine co (λW=>r W _) (co (zw q).1 (cB (zw q).2.1 ?_));refine Bm ?_;have y:l.getD i fH=l[i]:=by simp[List.getD,List.getElem?_eq_getElem c]
     have u:l.getD a fH=l[a]:=by simp[List.getD,List.getElem?_eq_getElem e]
     simp only;rw[y,u];refine⟨_,rfl,by trivial,?_⟩;cases du buy l[i].price l[a].price<;>rfl
   rintro _ f ⟨b,rfl,rfl,o⟩;unfold HJ;intro _;cases b with
   |true=>rw[ci,if_pos rfl];exact⟨by rw[o];rfl,rfl⟩
   |false=>rw[ci,if_neg Bool.false_ne_true];exact⟨by rw[o];rfl,rfl⟩
  rintro _ f ⟨rfl,rfl⟩;unfold xn;intro _;refine ck (v:=.int .i64 ((i+1:Nat):Int)) (w' :=W.drew) (by simp[go_sem];rw[cS (by omega) (by omega)]) ?_;exact j _ _ ⟨i+1,by omega,rfl,md⟩ (by show l.length - (((i+1:Nat):Int)).toNat<l.length - ((i:Int)).toNat;omega)
 ·obtain rfl:i=l.length:=by omega
  refine ck (v:=.bool false) (by simp[go_sem]<;>first|exact⟨rfl,rfl⟩|exact rfl) ?_;rw[ci,if_neg Bool.false_ne_true];exact t _ n
def yP{P:Program}{t e:TypeId}{w:World}{sz n hi:Nat}{v:Value}{cs:List Value}(h:Rd w sz v n cs)(k:P.underlying t=some (.slice e))(p:hi<=n)(W:World):
  (Instr.sliceAt t v none (some (.int .i64 (hi:Int))) none).run P W=(Instr.sliceAt t v (some (.int .i64 ((0:Nat):Int))) (some (.int .i64 (hi:Int))) none).run P W:=by
 obtain⟨g,q⟩:=iE k;obtain⟨o,l⟩:=h
 obtain⟨a,d,rfl,f⟩:∃a d,v=.slice a n d/\(n<=d\/n=0):=by
  rcases l with⟨rfl,a,c,rfl⟩|⟨b,j,d,rfl,m,_⟩
  ·exact⟨a,c,rfl,.inr rfl⟩
  ·exact⟨_,d,rfl,.inl m⟩
 have i:hi<=d:=by rcases f with h|h<;>omega
 rw[run_sliceAt_slice W t _ _ _ _ g,run_sliceAt_slice W t _ _ _ _ g,run_slice_lh W t a n d g .i64 .i64 (0:Nat) hi (by omega) (by omega) (by omega),run_slice_h W t a n d g .i64 hi (by omega) (by omega)];rfl
def AE{l:List Od}{i:Nat}(hi:i<l.length):(l.eraseIdx i).flatMap da=(l.flatMap da).take (i*5)++(l.flatMap da).drop ((i+1)*5):=by
 rw[List.eraseIdx_eq_take_drop_succ,List.flatMap_append]
 have h1:∀(l:List Od) (k:Nat),(l.take k).flatMap da=(l.flatMap da).take (k*5)/\(l.drop k).flatMap da=(l.flatMap da).drop (k*5):=by
  intro l;induction l with
  |nil=>intro k;simp
  |cons x r a=>
   intro k;cases k with
   |zero=>simp
   |succ k=>
    obtain⟨b,c⟩:=a k;have e:(k+1)*5=(da x).length+k*5:=by rw[dF];omega
    simp only[List.take_succ_cons,List.drop_succ_cons,List.flatMap_cons];rw[e,List.take_length_add_append,List.drop_length_add_append,b,c];exact⟨rfl,rfl⟩
 rw[(h1 l i).1,(h1 l (i+1)).2]
set_option maxRecDepth 10000 in
def zi{s:Value}{l:List Od}{i:Nat}(h:Rd w 5 s l.length (l.flatMap da))(hi:i<l.length)(X:l.length<=100000)
  (G:∀j f,kV f j (l.eraseIdx i)->cl (λ_=>False) w f->(∀b,cv j b->w.heap.size<=b)->K j f):Ca Tryz.prog 287 #[s,.int .i64 (i:Int)] w K:=by
 apply Px;have N:=h.1;refine fE [] eV (cK BW) rfl rfl (by simp) (by omega) ?_;have g:cl (λ_=>False) w (w.alloc (.cells (([]:List Value).flatMap (·.cells.toList)).toArray iq)):=(cl.refl _ w).alloc _
 have t:d7 (w.alloc (.cells (([]:List Value).flatMap (·.cells.toList)).toArray iq)) iq 5 (.slice (some ⟨w.heap.size,0,none⟩) 0 0) 0 []:=by
  refine⟨by simp,.inr ⟨w.heap.size,0,[],rfl,Nat.le_refl _,?_,by simp⟩⟩;rw[cU,if_pos rfl];simp
 have u:∀b,cv (.slice (some ⟨w.heap.size,0,none⟩) 0 0) b->w.heap.size<=b:=λb a=>by
  simp only[cv,wE]at a;have:=Option.some.inj a;omega
 generalize w.alloc (.cells (([]:List Value).flatMap (·.cells.toList)).toArray iq)=e at g t|-;obtain⟨H,D,d1,U⟩:=h.part (P:=Tryz.prog) (lo:=0) (hi:=i) eV tj (by omega) (by omega) .i64 .i64;have Q:(Instr.sliceAt gO s none (some (.int .i64 (i:Int))) none).run Tryz.prog e=.ok H e:=by rw[<-D e];exact yP h eV (by omega) e
 refine ck Q ?_;simp only[Nat.zero_mul,List.drop_zero,Nat.sub_zero]at d1
 have c:∀(k:List Value),(∀x∈k,x∈l.flatMap da)->k.all (·.oneCell')=true:=λk T=>List.all_eq_true.2 λx d=>by
  obtain⟨o,-,L⟩:=List.mem_flatMap.1 (T x d);exact List.all_eq_true.1 (gY o) x L
 refine dz (n:=0) (m:=i) eV eV (cK BW) t (d1.mod g λ_ _ h=>h) (c _ λx d=>List.mem_of_mem_take d) (by omega) λF q I C S=>?_;have p:cl (λ_=>False) w q:=g.on C λb a=>.inr (u b a);have M:=g.size;have r:∀b,cv F b->w.heap.size<=b:=λb a=>(S b a).elim (u b) λh=>by omega
 refine ck (v:=.int .i64 ((i+1:Nat):Int)) (w' :=q) (by simp[go_sem];rw[cS (by omega) (by omega)]) ?_;obtain⟨V,A,d3,W⟩:=h.from_ (P:=Tryz.prog) (lo:=i+1) eV tj (by omega) .i64;refine ck (A q) ?_;refine dz (n:=0+i) (m:=l.length - (i+1)) eV eV (cK BW) I (d3.mod p λ_ _ h=>h) (c _ λx d=>List.mem_of_mem_drop d) (by omega) λB y O R E=>?_;have J:=p.size;refine G B y ?_ (p.on R λb a=>.inr (r b a)) λb a=>(E b a).elim (r b) λh=>by omega
 have z:(l.eraseIdx i).length=0+i+(l.length - (i+1)):=by rw[List.length_eraseIdx_of_lt hi];omega
 show d7 _ _ _ _ _ _;rw[z,AE hi];simpa using O
end
abbrev lA:TypeId:=272
abbrev pt(b:Nat):Value:=.pointer (some ⟨b,0,none⟩)
structure BM(w:World)(sb:Nat)(buy:Bool)(l:List Od)(G:Nat->Prop):Prop where
 out:∃sl,hp w sb=some (.cells #[.bool buy,sl] lA (0,0))/\Rd w 5 sl l.length (l.flatMap da)/\∀b,eh sl b->G b
section
variable{w w' :World}{K:cm}{sb:Nat}{buy:Bool}{l:List Od}{G F:Nat->Prop}
def BM.mod(h:BM w sb buy l G)(a:cl F w w')(h1:¬F sb)(f:∀b,G b->¬F b):BM w' sb buy l G:=by
 obtain⟨sl,e,d,c⟩:=h.out;exact⟨sl,a.keep e h1,d.mod a λb g=>f b (c b g),c⟩
def BM.md0(h:BM w sb buy l G)(a:cl (λ_=>False) w w'):BM w' sb buy l G:=h.mod a id λ_ _ h=>h
def uB(sb:Nat)(i:Nat)(hi:i<2)(W:World):(Instr.fieldAt lA (pt sb) i).run Tryz.prog W=.ok (.pointer (some ⟨sb,i,none⟩)) W:=by
 rcases(show i=0\/i=1 by omega)with rfl|rfl<;>simp[go_sem]
def vy{sl:Value}(h:hp w sb=some (.cells #[.bool buy,sl] lA (0,0)))(b:∃a n c,sl=.slice a n c):(Instr.loadAt 4 (.pointer (some ⟨sb,0,none⟩))).run Tryz.prog w=.ok (.bool buy) w/\(Instr.loadAt gO (.pointer (some ⟨sb,1,none⟩))).run Tryz.prog w=.ok sl w:=by
 obtain⟨a,n,c,rfl⟩:=b;exact⟨by simp[go_sem,h],by simp[go_sem,h]⟩
def gG{sz n:Nat}{v:Value}{cs:List Value}(h:Rd w sz v n cs):∃a n c,v=.slice a n c:=by obtain⟨a,c,e⟩:=h.isSl;exact⟨a,n,c,e⟩
set_option maxRecDepth 10000 in
def Cy(h:BM w sb buy l G)(hl:l.length<=100000)(V:∀u w',kV w' u (gZ buy l)->cl (λ_=>False) w w' ->(∀b,cv u b->w.heap.size<=b)->K u w'):Ca Tryz.prog 242 #[pt sb] w K:=by
 obtain⟨sl,c,s,-⟩:=h.out;apply Qp;unfold pt;rw[cr];refine ck (uB sb 1 (by omega) _) (ck (vy c (gG s)).2 ?_);have P:∀b,eh sl b->b<w.heap.size:=λb c=>s.lt c
 refine dp (λst W=>∃(j p:Value) (acc rest:List Od),st=(j,p,())/\kV W j acc/\(∀b,cv j b->w.heap.size<=b)/\Rd W 5 p rest.length (rest.flatMap da)/\(∀b,eh p b->¬cv j b)/\acc++lU buy rest.length rest=gZ buy l/\acc.length+rest.length=l.length/\cl (λ_=>False) w W)
  (λst _=>match st.2.1 with| .slice _ n _=>n|_=>0) ⟨_,_,[],l,rfl,d7.nil _ _ _,λb c=>(by cases c),s,λb _ D=>(by cases D),rfl,by simp,cl.refl _ _⟩ ?_
 rintro _ W ⟨j,p,acc,rest,rfl,t,C,q,Q,g,hln,o⟩ KN z;unfold HD;intro _;refine fI (pM q _) ?_;by_cases S:0<rest.length
 ·have E:(0:Int)<(rest.length:Int):=by omega
  refine ck (v:=.bool true) (w' :=W) (by simp[go_sem,E];omega) ?_;rw[ci,if_pos rfl,cr];have A:=o.hpk c id;refine ck (uB sb 0 (by omega) _) (ck (vy A (gG s)).1 ?_);refine vM q (by omega) λY r=>?_;obtain⟨a,B⟩:=rT (buy:=buy) (l:=rest) S;have d:=mJ B;rw[B];have m:=q.mod r λ_ _ h=>h;obtain⟨b1,o1,i1,U⟩:=yn m d;refine ck (i1 Y _) (ck (gL U) ?_);refine Eg (x:=rest[a]) (l:=acc) (f:=da) eV (cK BW) dF gY rfl (t.mod r λ_ _ h=>h) (by omega) (by omega) λJ W2 L H n2=>?_;have y:=m.mod H Q;have O:=r.size;have M:=o.size;have M2:cl (λ_=>False) w W2:=(o.trans r).on H λb c=>.inr (C b c);have R:∀b,cv J b->w.heap.size<=b:=λb c=>(n2 b c).elim (C b) λh=>by omega
  refine zi y d (by omega) λs3 W3 N I T=>?_;have k:(rest.eraseIdx a).length=rest.length - 1:=List.length_eraseIdx_of_lt d;obtain⟨q1,q2,X,-⟩:=N.isSl;obtain⟨z1,z2,q4⟩:=q.isSl;refine z _ _ ⟨J,s3,acc++[rest[a]],rest.eraseIdx a,rfl,L.mod I λ_ _ h=>h,R,N.rd,λb c D=>?_,?_,?_,M2.trans I⟩ ?_
  ·have h1:=T b (eh.sl c);have h2:=d7.lt L D;omega
  ·have e:lU buy rest.length rest=rest[a]::lU buy (rest.eraseIdx a).length (rest.eraseIdx a):=by
    rw[k];obtain⟨n,hn⟩:∃n,rest.length=n+1:=⟨rest.length - 1,by omega⟩
    rw[hn,mM,B];have:rest.getD a fH=rest[a]:=by simp[List.getD,List.getElem?_eq_getElem d]
    simp only[this];rfl
   rw[<-g,e];simp
  ·rw[List.length_append,k];simp;omega
  ·rw[X,q4];show(rest.eraseIdx a).length<rest.length;omega
 ·have Z:rest.length=0:=by omega
  rw[Z]at g|-;refine ck (v:=.bool false) (w' :=W) (by simp[go_sem]) ?_;rw[ci,if_neg Bool.false_ne_true];have i:acc=gZ buy l:=by rw[<-g];simp[lU]
  rw[i]at t;exact V _ _ t o C
set_option maxRecDepth 10000 in
def Bg{n:Int}(h:BM w sb buy l G)(A:l.length<=100000)(f:K (.int .i64 (sR (l.findIdx? λx=>decide (x.num=n)))) w):Ca Tryz.prog 173 #[pt sb,.int .u64 n] w K:=by
 obtain⟨sl,p,g,-⟩:=h.out;apply PS;unfold pt
 refine dp (λst W=>∃(i:Nat) (x:Value),i<=l.length/\st=(x,.int .i64 i,())/\W=w/\∀j (a:j<l.length),j<i->l[j].num≠n)
  (λst _=>match st.2.1 with| .int _ i=>l.length - i.toNat|_=>0) ⟨0,_,by omega,rfl,rfl,λj a h=>absurd h (Nat.not_lt_zero _)⟩ ?_
 rintro _ W ⟨i,x,B,rfl,rfl,b⟩ u m;unfold Gk;intro _;rw[cr];refine ck (uB sb 1 (by omega) _) (ck (vy p (gG g)).2 (fI (pM g _) ?_));by_cases c:i<l.length
 ·have d:(i:Int)<(l.length:Int):=by omega
  refine ck (v:=.bool true) (by simp[go_sem,d]<;>first|exact⟨rfl,rfl⟩|exact rfl) ?_;rw[ci,if_pos rfl];rw[cr];obtain⟨y,z,t,q⟩:=yn g c;refine ck (uB sb 1 (by omega) _) (ck (vy p (gG g)).2 (ck (t W _) (ck ((zw q).2.2.1 _) (ck (zw q).2.2.2 ?_))));by_cases e:l[i].num=n
  ·refine ck (v:=.bool true) (w' :=W) (by simp[go_sem,e]) ?_;rw[ci,if_pos rfl];rw[(List.findIdx?_eq_some_iff_getElem (i:=i)).2 ⟨c,by simpa using e,λj a=>by simpa using b j (by omega) a⟩]at f;exact f
  ·refine ck (v:=.bool false) (w' :=W) (by simp[go_sem,e]) ?_;rw[ci,if_neg Bool.false_ne_true];refine ck (v:=.int .i64 ((i+1:Nat):Int)) (w' :=W) (by simp[go_sem];rw[cS (by omega) (by omega)]) ?_;refine m _ _ ⟨i+1,_,by omega,rfl,rfl,λj a s=>?_⟩ (by show l.length - (((i+1:Nat):Int)).toNat<l.length - ((i:Int)).toNat;omega);by_cases o:j=i
   ·subst o;exact e
   ·exact b j a (by omega)
 ·obtain rfl:i=l.length:=by omega
  refine ck (v:=.bool false) (by simp[go_sem]<;>first|exact⟨rfl,rfl⟩|exact rfl) ?_;rw[ci,if_neg Bool.false_ne_true]
  rw[List.findIdx?_eq_none_iff.2 λk r=>by
    obtain⟨j,a,rfl⟩:=List.getElem_of_mem r;simpa using b j a a]at f
  exact f
set_option maxRecDepth 10000 in
def zO(h:BM w sb buy l G)(I:l.length<=100000)(f:∀w',cl (λ_=>False) w w' ->K (.tuple #[g9 (((ia buy l l.length).map λa=>l.getD a fH).getD fH),.bool (ia buy l l.length).isSome]) w'):Ca Tryz.prog 89 #[pt sb] w K:=by
 apply Rx;unfold pt;obtain⟨u,C,x,J⟩:=iR w;obtain⟨p,n⟩:∃p,p=w.heap.size:=⟨_,rfl⟩
 rw[<-n]at C x;refine ck C ?_;have md:=J.drew;have B:=((cl.refl (λ_=>False) u).drew).hpk x id;have y:=h.md0 md;generalize u.drew=N at md B y|-;obtain⟨sl,c,k,-⟩:=y.out;rw[cr];refine co (λW=>uB sb 0 (by omega) W) (cB (vy c (gG k)).1 ?_);rw[cr];refine co (λW=>uB sb 1 (by omega) W) (cB (vy c (gG k)).2 ?_);refine vM k I λj i=>?_;have z:=i.hpk B id;have t:=i.hpk c id;have d:=k.mod i λ_ _ h=>h;have A:=md.trans i;cases m:ia buy l l.length with
 |none=>
  rw[m]at f;refine ck (v:=.bool true) (w' :=j) (by simp[go_sem,sR]) ?_;rw[ci,if_pos rfl];refine ck (v:=g9 fH) (w' :=j) (by simp[go_sem,g9,da,fH]) ?_;obtain⟨D,r,q,s⟩:=gA (o' :=fH) z;refine dt r (cB (gL (o:=fH) (At.all q)) ?_);exact f _ (A.on s λb c=>.inr (by omega))
 |some a=>
  rw[m]at f;have g:=mJ m;refine ck (v:=.bool false) (w' :=j) (by simp[go_sem,sR]) ?_;rw[ci,if_neg Bool.false_ne_true,cr];obtain⟨L,M,E,H⟩:=yn d g;refine ck (uB sb 1 (by omega) _) (ck (vy t (gG d)).2 (ck (E j _) (ck (gL H) ?_)));obtain⟨D,r,q,s⟩:=gA (o' :=l[a]) z;refine dt r (cB (gL (o:=l[a]) (At.all q)) ?_);have e:l.getD a fH=l[a]:=by simp[List.getD,List.getElem?_eq_getElem g]
  simp only[Option.map_some,Option.getD_some,Option.isSome_some,e]at f;exact f _ (A.on s λb c=>.inr (by omega))
def Jz{o:Od}(d:∀v w',kV w' v [o]->cl (λ_=>False) w w' ->(∀b,cv v b->w.heap.size<=b)->K v w'):rx Tryz.prog (dQ gO 1 [(0,g9 o)]) w K:=by
 refine fE [g9 o] eV (cK BW) rfl rfl (by intro v c;rw[List.mem_singleton.1 c];rfl) (by omega) ?_;have a:(([g9 o]:List Value).flatMap (·.cells.toList)).toArray=(da o).toArray:=rfl;rw[a];exact d _ _ ⟨rfl,.inr ⟨_,1,[],rfl,Nat.le_refl _,by rw[cU,if_pos rfl];simp,by simp,by simp⟩⟩ ((cl.refl _ w).alloc _) λb e=>by cases e;exact Nat.le_refl _
def L7(c:∀v w',kV w' v []->cl (λ_=>False) w w' ->(∀b,cv v b->w.heap.size<=b)->K v w'):rx Tryz.prog (dQ gO 0 []) w K:=by
 refine fE [] eV (cK BW) rfl rfl (by simp) (by omega) ?_;refine c _ _ ⟨by simp,.inr ⟨w.heap.size,0,[],rfl,Nat.le_refl _,by rw[cU,if_pos rfl];simp,by simp⟩⟩ ((cl.refl _ w).alloc _) λb a=>?_;simp only[cv,wE]at a;have:=Option.some.inj a;omega
def xb{s x:Value}{a m:List Od}(h:kV w s a)(j:Rd w 5 x m.length (m.flatMap da))(k:a.length+m.length<=1000000)(g:∀c w',kV w' c (a++m)->cl (cv s) w w' ->(∀b,cv c b->cv s b\/w.heap.size<=b)->K c w'):rx Tryz.prog (cx #[gO,gO] gO [s,x]) w K:=by
 refine dz (n:=a.length) (m:=m.length) eV eV (cK BW) h j (IN gY m) (by omega) λc w' d i f=>g c w' ?_ i f;rw[<-List.flatMap_append]at d;have e:(a++m).length=a.length+m.length:=List.length_append;show d7 _ _ _ _ _ _;rw[e];exact d
def RU{sl s' :Value}(h:hp w sb=some (.cells #[.bool buy,sl] lA (0,0)))(g:∃a n c,sl=.slice a n c)(b:∃a n c,s' =.slice a n c):
  ∃w',(Instr.storeAt gO (.pointer (some ⟨sb,1,none⟩)) s').run Tryz.prog w=.ok () w' /\hp w' sb=some (.cells #[.bool buy,s'] lA (0,0))/\cl (λy=>y=sb) w w' :=by
 obtain⟨a,n,c,rfl⟩:=g;obtain⟨e,d,f,rfl⟩:=b;exact⟨w.setCell ⟨sb,1,none⟩ (.slice e d f),by simp[go_sem,h],by simp[go_sem,h],(cl.refl (λy=>y=sb) w).setCell (.inl rfl) _ _⟩
set_option maxRecDepth 10000 in
def IM{o:Od}(h:BM w sb o.buy l G)(hf:o.Fit)(hm:o.may=true)(hl:l.length<=1000)(hG:∀b,G b->b≠sb)(hge:∀b,w.heap.size<=b->G b)
  (Y:(l.any (λy=>decide (y.num=o.num)))=true\/100<=l.length->∀e:Int,e≠0->∀w',cl (λ_=>False) w w' ->K (.int .i64 e) w')
  (hok:¬((l.any (λy=>decide (y.num=o.num)))=true\/100<=l.length)->∀w',BM w' sb o.buy (l++[o]) G->cl (λy=>y=sb) w w' ->K (.int .i64 0) w'):Ca Tryz.prog 88 #[pt sb,g9 o] w K:=by
 apply Q7;unfold pt;obtain⟨w1,e1,b1,m1⟩:=qB o w;obtain⟨p,hp0⟩:∃p,p=w.heap.size:=⟨_,rfl⟩
 rw[<-hp0]at e1 b1;refine ck e1 ?_;have h1:=h.md0 m1;refine cy.at (λst W=>st=(.bool false,())/\cl (λ_=>False) w1 W) ?_ ?_
 ·have md:=(cl.refl (λ_=>False) w1).drew;have M:=md.hpk b1 id;have k:=h1.md0 md;generalize w1.drew=w2 at md M k|-;refine cB (gL (o:=o) (At.all M)) ?_;refine zv hf λw3 m3=>?_;have b3:=m3.hpk M id;obtain⟨sl,d,I,-⟩:=(k.md0 m3).out;rw[hm];refine co (v:=.bool false) (λW=>by simp[go_sem]) ?_;rw[ci,if_neg Bool.false_ne_true];refine co (λW=>nQ 2 (by omega) p W) (cB (v:=.bool o.buy) (by simp only[da]at b3;simp[go_sem,b3]) ?_);rw[cr];refine co (λW=>uB sb 0 (by omega) W) (cB (vy d (gG I)).1 ?_);refine co (v:=.bool false) (λW=>by simp[go_sem]) ?_;exact⟨rfl,md.trans m3⟩
 rintro _ W ⟨rfl,m2⟩;unfold Kw;intro _;rw[ci,if_neg Bool.false_ne_true];have M:=m2.hpk b1 id;have k:=h1.md0 m2;have M2:=m1.trans m2;refine ck (nQ 0 (by omega) p W) (ck (uJ (show Dr W p o from M)).1 ?_);refine Bg k (by omega) ?_
 have g:(l.any λy=>decide (y.num=o.num))=(l.findIdx? λx=>decide (x.num=o.num)).isSome:=by
  cases L:l.findIdx? λx=>decide (x.num=o.num)with
  |none=>
   rw[List.findIdx?_eq_none_iff]at L;show _=false;rw[Bool.eq_false_iff];intro j;obtain⟨x,hx,hxn⟩:=List.any_eq_true.1 j;rw[L x hx]at hxn;cases hxn
  |some i=>
   obtain⟨h1,k,-⟩:=List.findIdx?_eq_some_iff_getElem.1 L;exact List.any_eq_true.2 ⟨_,List.getElem_mem h1,k⟩
 cases L:l.findIdx? λx=>decide (x.num=o.num)with
 |some i=>
  rw[L]at g;refine ck (v:=.bool true) (w' :=W) (by simp[go_sem,sR]) ?_;rw[ci,if_pos rfl];exact Y (.inl g) 8 (by decide) W M2
 |none=>
 rw[L]at g;refine ck (v:=.bool false) (w' :=W) (by simp[go_sem,sR]) ?_;rw[ci,if_neg Bool.false_ne_true,cr];obtain⟨sl,d,I,hGs⟩:=k.out;refine ck (uB sb 1 (by omega) _) (ck (vy d (gG I)).2 (fI (pM I _) ?_));by_cases q:100<=l.length
 ·refine ck (v:=.bool true) (w' :=W) (by simp[go_sem];omega) ?_;rw[ci,if_pos rfl];exact Y (.inr q) 9 (by decide) W M2
 refine ck (v:=.bool false) (w' :=W) (by simp[go_sem];omega) ?_;rw[ci,if_neg Bool.false_ne_true,cr];have md:=(cl.refl (λ_=>False) W).drew;have MD:=M2.trans md;have bD:=md.hpk M id;have C:=md.hpk d id;have Z:=I.mod md λ_ _ h=>h;generalize W.drew=V at md MD bD C Z|-;have lo:∀{X:World},cl (λ_=>False) V X->(Instr.loadAt iq (.pointer (some ⟨p,0,none⟩))).run Tryz.prog X=.ok (g9 o) X:=λm=>gL (o:=o) (At.all (m.hpk bD id));have P:∀{X:World},cl (λ_=>False) V X->(Instr.loadAt gO (.pointer (some ⟨sb,1,none⟩))).run Tryz.prog X=.ok sl X:=λm=>(vy (m.hpk C id) (gG I)).2;have rS:∀{X:World},cl (λ_=>False) V X->Rd X 5 sl l.length (l.flatMap da):=λm=>Z.mod m λ_ _ h=>h
 have t:∀(X:World) (s a b:Value),cl (λ_=>False) V X->kV X s (l++[o])->(∀y,cv s y->V.heap.size<=y)->sm Tryz.prog (Instr.fieldAt lA (.pointer (some ⟨sb,0,none⟩)) 1) λv45=>ru Tryz.prog (Instr.storeAt gO v45 s) X λw46=>K (.int .i64 0) w46:=by
  intro X s _ _ mX oX nX;obtain⟨xa,xc,xe,-⟩:=oX.isSl;refine co (λW=>uB sb 1 (by omega) W) ?_;obtain⟨w4,e4,b4,m4⟩:=RU (s' :=s) (mX.hpk C id) (gG I) ⟨_,_,_,xe⟩;refine dt e4 ?_;have hV:=MD.size;have Q:∀y,cv s y->G y:=λy c=>hge y (by have:=nX y c;omega);refine hok (λj=>?_) w4 ⟨s,b4,(oX.mod m4 λy c e=>hG y (Q y c) e).rd,λy c=>Q y (eh.sl c)⟩ ((MD.trans mX).mono (G:=λy=>y=sb) (λ_ _ h=>h.elim) |>.trans m4);rcases j with j|j
  ·rw[g]at j;cases j
  ·exact q j
 refine co (λW=>uB sb 1 (by omega) W) (cB (P (cl.refl _ _)) (cB (lo (cl.refl _ _)) ⟨?_,?_⟩))
 ·refine L7 λv36 w37 J f n=>⟨lo f,P f,?_,?_⟩
  ·refine xb J (rS f) (by simp;omega) λv38 w39 o39 m39 n39=>?_;have M39:cl (λ_=>False) V w39:=f.on m39 λb d=>.inr (n b d);have U:=f.size;have N39:∀y,cv v38 y->V.heap.size<=y:=λy c=>(n39 y c).elim (n y) λh=>by omega
   refine⟨lo M39,?_⟩;refine Jz λv40 w41 o41 m41 n41=>?_;have M41:=M39.trans m41;refine xb (o39.mod m41 λ_ _ h=>h) o41.rd (by simp;omega) λH O o43 m43 n43=>?_;have M43:cl (λ_=>False) V O:=M41.on m43 λb d=>.inr (N39 b d);have hs41:=M41.size;rw[cr];exact t O H H H M43 (by simpa using o43) λy c=>(n43 y c).elim (N39 y) λh=>by omega
  ·refine Jz λv47 w48 o48 D n48=>?_;have u:=f.trans D;refine⟨P u,?_⟩;refine xb (J.mod D λ_ _ h=>h) (rS u) (by simp;omega) λv49 w50 o50 R n50=>?_;have M50:cl (λ_=>False) V w50:=u.on R λb d=>.inr (n b d);have U:=f.size;have hs48:=D.size;have N:∀y,cv v49 y->V.heap.size<=y:=λy c=>(n50 y c).elim (n y) λh=>by omega
   have S:=o48.mod R λy c j=>by have h1:=n48 y c;have k:=J.lt j;omega
   refine xb o50 S.rd (by simp;omega) λE w52 o52 m52 n52=>?_;have M52:cl (λ_=>False) V w52:=M50.on m52 λb d=>.inr (N b d);have hs50:=M50.size;rw[cr];exact t w52 E E E M52 (by simpa using o52) λy c=>(n52 y c).elim (N y) λh=>by omega
 ·refine Jz λv56 w57 o57 A n57=>⟨P A,?_⟩
  refine L7 λv58 w59 o59 z n59=>?_;have r:=A.trans z;refine⟨P r,?_⟩;refine xb o59 (rS r) (by simp;omega) λv60 w61 o61 m61 n61=>?_;have hs57:=A.size;have hs59:=z.size;have N59:∀y,cv v58 y->V.heap.size<=y:=λy c=>by have:=n59 y c;omega
  have T:cl (λ_=>False) V w61:=r.on m61 λb d=>.inr (N59 b d);have N61:∀y,cv v60 y->V.heap.size<=y:=λy c=>(n61 y c).elim (N59 y) λh=>by omega
  have o57' :=(o57.mod z λ_ _ h=>h).mod m61 λy c j=>by have h1:=n59 y j;have k:=o57.lt c;omega
  refine xb o61 o57'.rd (by simp;omega) λB w63 o63 m63 n63=>?_;have M63:cl (λ_=>False) V w63:=T.on m63 λb d=>.inr (N61 b d);have hs61:=T.size;rw[cr];exact t w63 B B B M63 (by simpa using o63) λy c=>(n63 y c).elim (N61 y) λh=>by omega
abbrev zu:TypeId:=175
def C9(b:Nat)(i:Nat)(hi:i<2)(W:World):(Instr.fieldAt zu (pt b) i).run Tryz.prog W=.ok (.pointer (some ⟨b,i,none⟩)) W:=by
 rcases(show i=0\/i=1 by omega)with rfl|rfl<;>simp[go_sem]
def Dh{b a c:Nat}(h:hp w b=some (.cells #[pt a,pt c] zu (0,0))):(Instr.loadAt 173 (.pointer (some ⟨b,0,none⟩))).run Tryz.prog w=.ok (pt a) w/\(Instr.loadAt 173 (.pointer (some ⟨b,1,none⟩))).run Tryz.prog w=.ok (pt c) w:=
 ⟨by simp[go_sem,h],by simp[go_sem,h]⟩
def yB(j:∀w',w'.heap.size=w.heap.size+3->hp w' (w.heap.size+2)=some (.cells #[pt w.heap.size,pt (w.heap.size+1)] zu (0,0))->hp w' w.heap.size=some (.cells #[.bool true,.slice none 0 0] lA (0,0))->hp w' (w.heap.size+1)=some (.cells #[.bool false,.slice none 0 0] lA (0,0))->cl (λ_=>False) w w' ->K (pt (w.heap.size+2)) w'):Ca Tryz.prog 85 #[] w K:=by
 apply RF;obtain⟨n,f⟩:∃n,n=w.heap.size:=⟨_,rfl⟩
 rw[<-f]at j;refine ck (v:=.agg #[.bool true,.slice none 0 0]) (w' :=w) (by simp[go_sem]) ?_;refine ck (v:=pt n) (w' :=w.alloc (.cells #[.bool true,.slice none 0 0] lA)) (by rw[f];rfl) ?_;have m:cl (λ_=>False) w (w.alloc (.cells #[.bool true,.slice none 0 0] lA)):=(cl.refl _ w).alloc _;have e:(w.alloc (.cells #[.bool true,.slice none 0 0] lA)).heap.size=n+1:=by rw[World.size_alloc,f]
 have i:hp (w.alloc (.cells #[.bool true,.slice none 0 0] lA)) n=some (.cells #[.bool true,.slice none 0 0] lA (0,0)):=by rw[f];simp[go_sem]
 generalize w.alloc (.cells #[.bool true,.slice none 0 0] lA)=a at m e i|-;refine ck (v:=.agg #[.bool false,.slice none 0 0]) (w' :=a) (by simp[go_sem]) ?_;refine ck (v:=pt (n+1)) (w' :=a.alloc (.cells #[.bool false,.slice none 0 0] lA)) (by rw[<-e];rfl) ?_;have g:cl (λ_=>False) a (a.alloc (.cells #[.bool false,.slice none 0 0] lA)):=(cl.refl _ a).alloc _;have d:(a.alloc (.cells #[.bool false,.slice none 0 0] lA)).heap.size=n+2:=by rw[World.size_alloc,e]
 have k:hp (a.alloc (.cells #[.bool false,.slice none 0 0] lA)) (n+1)=some (.cells #[.bool false,.slice none 0 0] lA (0,0)):=by rw[<-e];simp[go_sem]
 have c:=g.hpk i id;generalize a.alloc (.cells #[.bool false,.slice none 0 0] lA)=b at g d k c|-;refine ck (v:=.agg #[pt n,pt (n+1)]) (w' :=b) (by simp[go_sem]) ?_;refine ck (v:=pt (n+2)) (w' :=b.alloc (.cells #[pt n,pt (n+1)] zu)) (by rw[<-d];rfl) ?_;have h:cl (λ_=>False) b (b.alloc (.cells #[pt n,pt (n+1)] zu)):=(cl.refl _ b).alloc _;refine j _ (by rw[World.size_alloc,d]) (by rw[<-d];simp[go_sem]) (h.hpk c id) (h.hpk k id) ((m.trans g).trans h)
set_option maxRecDepth 10000 in
def zF{b A B:Nat}{j i:List Od}(z:hp w b=some (.cells #[pt A,pt B] zu (0,0)))(I:BM w A true j G)(h1:BM w B false i G)(V:j.length<=1000/\i.length<=1000)
  (L:∀k w',kV w' k (gZ true j++gZ false i)->cl (λ_=>False) w w' ->(∀b,cv k b->w.heap.size<=b)->K k w'):Ca Tryz.prog 175 #[pt b] w K:=by
 apply Qg;unfold pt;refine L7 λZ S M t C=>?_;have u:=t.hpk z id;rw[cr];refine ck (C9 b 0 (by omega) _) (ck (Dh u).1 ?_);refine Cy (I.md0 t) (by omega) λT X N D W=>?_;have x:=t.trans D;have U:=iU true j;have d1:=iU false i;refine xb (M.mod D λ_ _ h=>h) N.rd (by simp;omega) λJ v q r m=>?_;have a:cl (λ_=>False) w v:=x.on r λy c=>.inr (C y c);have Y:=x.size;have e:∀y,cv J y->w.heap.size<=y:=λy c=>(m y c).elim (C y) λh=>by omega
 have g:=a.hpk z id;rw[cr];refine ck (C9 b 1 (by omega) _) (ck (Dh g).2 ?_);refine Cy (h1.md0 a) (by omega) λP O s f E=>?_;have d:=a.trans f;refine xb (q.mod f λ_ _ h=>h) s.rd (by simp;omega) λQ R n o p=>?_;have H:=d.size;exact L _ _ (by simpa using n) (d.on o λy c=>.inr (e y c)) λy c=>(p y c).elim (e y) λh=>by omega
end
structure pO(w:World)(c:Nat)(F:Nat->Prop)(day:Int)(L:List Ct):Prop where
 out:∃sl,hp w c=some (.cells #[.int .u32 day,sl] 168 (0,0))/\Rd w 27 sl L.length (L.flatMap dU)/\(∀b,eh sl b->F b/\b≠c)
 self:F c
 lt:∀b,F b->b<w.heap.size
section
variable{w w' :World}{c:Nat}{F G:Nat->Prop}{day:Int}{L:List Ct}{K:cm}
def pO.mod(h:pO w c F day L)(a:cl G w w')(e:∀b,F b->¬G b):pO w' c F day L:=by
 obtain⟨⟨sl,h1,j,f⟩,g,i⟩:=h;exact⟨⟨sl,a.keep h1 (e c g),j.mod a λb d=>e b (f b d).1,f⟩,g,λb d=>Nat.lt_of_lt_of_le (i b d) a.size⟩
def pO.md0(h:pO w c F day L)(a:cl (λ_=>False) w w'):pO w' c F day L:=h.mod a λ_ _ h=>h
def Bl:Tryz.prog.underlying 45=some (.slice 108):=by kernel_rfl
def pO.ld(h:pO w c F day L):∃sl,(∀i:Nat,i<2->∀W,(Instr.fieldAt 168 (.pointer (some ⟨c,0,none⟩)) i).run Tryz.prog W=.ok (.pointer (some ⟨c,i,none⟩)) W)/\(Instr.loadAt 35 (.pointer (some ⟨c,0,none⟩))).run Tryz.prog w=.ok (.int .u32 day) w/\
  (Instr.loadAt 45 (.pointer (some ⟨c,1,none⟩))).run Tryz.prog w=.ok sl w/\Rd w 27 sl L.length (L.flatMap dU)/\(∀b,eh sl b->F b/\b≠c)/\∀W,(builtin .len #[45] 3 #[false] #[sl]).run Tryz.prog W=.ok (.value (.int .i64 (L.length:Int))) W:=by
 obtain⟨⟨sl,h1,d,e⟩,g,f⟩:=h;obtain⟨a,n,rfl⟩:=d.isSl;refine⟨_,λi j W=>?_,by simp[go_sem,h1],by simp[go_sem,h1],d,e,λW=>by simp[go_sem]⟩;rcases(show i=0\/i=1 by omega)with rfl|rfl<;>simp[go_sem]
def Bz{w:World}{b off:Nat}{k:Ct}(h:At w b off (dU k)):(Instr.loadAt 35 (.pointer (some ⟨b,off,none⟩))).run Tryz.prog w=.ok (.int .u32 k.spec.num) w:=by
 obtain⟨C,e,f,h1,d⟩:=h.get;have a:=d 0 (.int .u32 k.spec.num) rfl;rw[Nat.add_zero]at a;simp[go_sem,h1,a]
def Ck(L:List Ct)(n:Int):Option Nat:=L.findIdx? λk=>decide (k.spec.num=n)
def kT(L:List Ct)(n:Int):Int:=match Ck L n with|some i=>i|none=> -1
def zC{n:Int}{i:Nat}(h:Ck L n=some i):∃h:i<L.length,L[i].spec.num=n:=by
 unfold Ck at h;obtain⟨h1,a,-⟩:=List.findIdx?_eq_some_iff_getElem.1 h;exact⟨h1,by simpa using a⟩
set_option maxRecDepth 10000 in
def oF{n:Int}(h:pO w c F day L)(E:L.length<=100000)(r:K (.int .i64 (kT L n)) w):Ca Tryz.prog 86 #[.pointer (some ⟨c,0,none⟩),.int .u32 n] w K:=by
 obtain⟨sl,t,-,q,B,-,C⟩:=h.ld;apply Ss
 refine dp (λst W=>∃(i:Nat) (x:Value),i<=L.length/\st=(x,.int .i64 i,())/\W=w/\∀j (a:j<L.length),j<i->L[j].spec.num≠n)
  (λst _=>match st.2.1 with| .int _ i=>L.length - i.toNat|_=>0) ⟨0,_,by omega,rfl,rfl,λj a h=>absurd h (Nat.not_lt_zero _)⟩ ?_
 rintro _ W ⟨i,x,H,rfl,rfl,d⟩ D o;unfold KV;intro _;rw[cr];refine ck (t 1 (by omega) _) (ck q (fI (C _) ?_));by_cases f:i<L.length
 ·have l:(i:Int)<(L.length:Int):=by omega
  refine ck (v:=.bool true) (by simp[go_sem,l]<;>first|exact⟨rfl,rfl⟩|exact rfl) ?_;rw[ci,if_pos rfl];rw[cr];obtain⟨b,g,z,m,s,A⟩:=B.item cX f rfl;refine ck (t 1 (by omega) _) (ck q (ck (v:=.pointer (some ⟨b,g+i*27,none⟩)) (w' :=W) (by rw[m];simp[go_sem,f,cE,Bl]) ?_));refine ck (v:=.pointer (some ⟨b,g+i*27,none⟩)) (w' :=W) (by simp[go_sem,cE]) (ck (v:=.pointer (some ⟨b,g+i*27,none⟩)) (w' :=W) (by simp[go_sem,cE]) (ck (Bz A) ?_));by_cases e:L[i].spec.num=n
  ·refine ck (v:=.bool true) (w' :=W) (by simp[go_sem,e]) ?_;rw[ci,if_pos rfl]
   have:kT L n=i:=by
    unfold kT Ck;rw[(List.findIdx?_eq_some_iff_getElem (i:=i)).2 ⟨f,by simpa using e,λj a=>by simpa using d j (by omega) a⟩]
   rw[<-this];exact r
  ·refine ck (v:=.bool false) (w' :=W) (by simp[go_sem,e]) ?_;rw[ci,if_neg Bool.false_ne_true];refine ck (v:=.int .i64 ((i+1:Nat):Int)) (w' :=W) (by simp[go_sem];rw[cS (by omega) (by omega)]) ?_;refine o _ _ ⟨i+1,_,by omega,rfl,rfl,λj a y=>?_⟩ (by show L.length - (((i+1:Nat):Int)).toNat<L.length - ((i:Int)).toNat;omega);by_cases p:j=i
   ·subst p;exact e
   ·exact d j a (by omega)
 ·obtain rfl:i=L.length:=by omega
  refine ck (v:=.bool false) (by simp[go_sem]<;>first|exact⟨rfl,rfl⟩|exact rfl) ?_;rw[ci,if_neg Bool.false_ne_true]
  have:kT L n= -1:=by
   unfold kT Ck
   rw[List.findIdx?_eq_none_iff.2 λk u=>by
    obtain⟨j,a,rfl⟩:=List.getElem_of_mem u;simpa using d j a a]
  rw[<-this];exact r
end
def BQ{s:Sp}(b:s.Fit)(h:s.may=true):0<s.num:=by
 have h1:=tm s;rw[h]at h1;have a:=((Bool.and_eq_true ..).mp h1.symm).1;unfold Sp.pre at a;simp only[Bool.and_eq_true,decide_eq_true_eq]at a;have:=b.1.1;have:=a.1;omega
set_option maxRecDepth 10000 in
set_option maxHeartbeats 1000000 in
def zP{w:World}{K:cm}{sl:Value}{day:Int}{l:List Ct}(h:Rd w 27 sl l.length (l.flatMap dU))(hl:l.length<=100000)(hf:∀k∈l,k.Fit)
  (Y:l.length<=16->kP 0 l=true->∀c F w',pO w' c F day l->cl (λ_=>False) w w' ->(∀b,F b->w.heap.size<=b)->K (.tuple #[.pointer (some ⟨c,0,none⟩),.int .i64 0]) w')
  (I:¬(l.length<=16/\kP 0 l=true)->∀w',cl (λ_=>False) w w' ->K (.tuple #[.pointer none,.int .i64 2]) w'):Ca Tryz.prog 83 #[.int .u32 day,sl] w K:=by
 obtain⟨sa,sc,hsl⟩:=h.isSl;apply RB;have ln:∀W,(builtin .len #[45] 3 #[false] #[sl]).run Tryz.prog W=.ok (.value (.int .i64 (l.length:Int))) W:=λW=>by rw[hsl];simp[go_sem]
 refine fI (ln _) ?_;refine ck (v:=.bool (decide (16<l.length))) (w' :=w) (by simp[go_sem];omega) ?_;by_cases E:16<l.length
 ·rw[ci,if_pos (by simpa using E)];exact I (λg=>by omega) _ (cl.refl _ _)
 rw[ci,if_neg (by simpa using E)]
 refine dp (λst W=>∃(i:Nat) (last:Int) (x y:Value),i<=l.length/\st=(x,y,.int .i64 i,())/\kP 0 l=kP last (l.drop i)/\(i=0->last=0)/\(∀h:i - 1<l.length,0<i->l[i - 1].spec.num=last)/\cl (λ_=>False) w W)
  (λst _=>match st.2.2.1 with| .int _ i=>l.length - i.toNat|_=>0) ⟨0,0,_,_,by omega,rfl,rfl,λ_=>rfl,λ_ h=>absurd h (Nat.lt_irrefl _),cl.refl _ _⟩ ?_
 rintro _ W ⟨i,last,x,y,hi,rfl,d,hz0,z,T⟩ KN hKN;unfold Le;intro _;refine fI (ln _) ?_;have t:=h.mod T λ_ _ h=>h;by_cases m:i<l.length
 ·have O:(i:Int)<(l.length:Int):=by omega
  refine ck (v:=.bool true) (by simp[go_sem,O]<;>first|exact⟨rfl,rfl⟩|exact rfl) ?_;rw[ci,if_pos rfl];obtain⟨b,off,cap,hse,hcap,hA⟩:=t.item cX m rfl;have e:=hf l[i] (List.getElem_mem m);have hup0:=d;rw[List.drop_eq_getElem_cons m]at d;obtain⟨k,J⟩:∃k,k=l[i]:=⟨_,rfl⟩
  rw[<-J]at hA e d;refine ck (v:=.pointer (some ⟨b,off+i*27,none⟩)) (w' :=W) (by rw[hse];simp[go_sem,m,cE,Bl]) ?_;refine eK (dU k) 26 C4 zY (cX k) hA ?_;refine nL _ λo b1 U=>?_;obtain⟨p,hp0⟩:∃p,p=W.heap.size:=⟨_,rfl⟩
  rw[<-hp0]at b1|-;refine zp (k' :=k) b1 λr Q D=>?_;have M2:cl (λ_=>False) W r:=U.on D λy hy=>.inr (by omega);rw[tD]at d;refine cy.at (λst W' =>∃V:Bool,st=(.bool V,())/\cl (λ_=>False) r.drew W' /\((V=false/\(decide (last<k.spec.num)&& (decide (1<=k.st)&& (decide (k.st<=3)&& k.spec.isPrice k.price)))=true)\/(V=true/\(decide (last<k.spec.num)&& (decide (1<=k.st)&& (decide (k.st<=3)&& k.spec.isPrice k.price)))=false))) ?_ ?_
  ·have md:=(cl.refl (λ_=>False) r).drew;have B:tR r.drew p k:=md.hpk Q id;have M:=t.mod (M2.trans md) λ_ _ h=>h;generalize r.drew=w3 at md B M|-;by_cases hi0:i=0
   ·subst hi0;have hl0:last=0:=hz0 rfl;refine co (v:=.bool false) (λW=>by simp[go_sem]) ?_;rw[ci,if_neg Bool.false_ne_true];refine co (λW=>(lJ p W).1) (eX (dl k.spec) 24 ve ry (cJ _) (lw (At.all B)) ?_);refine qR e.1 λw4 f=>?_;refine co (v:=.bool (!k.spec.may)) (λW=>by simp[go_sem]) ?_;have q:tR w4 p k:=f.hpk B id;cases a:k.spec.may with
    |false=>
     rw[show(!false)=true from rfl,ci,if_pos rfl];exact⟨_,rfl,f,.inr ⟨rfl,(by simp[Sp.isPrice,a])⟩⟩
    |true=>
    rw[show(!true)=false from rfl,ci,if_neg Bool.false_ne_true];have R:=BQ e.1 a;refine co (λW=>(lJ p W).2.1) (cB (qj q) ?_);refine co (v:=.bool (decide (k.st<1))) (λW=>by simp[go_sem]) ?_;by_cases H:k.st<1
    ·rw[decide_eq_true H,ci,if_pos rfl];exact⟨_,rfl,f,.inr ⟨rfl,(by rw[decide_eq_false (p:=1<=k.st) (by omega)];simp)⟩⟩
    rw[decide_eq_false H,ci,if_neg Bool.false_ne_true];refine co (λW=>(lJ p W).2.1) (cB (qj q) ?_);refine co (v:=.bool (decide (3<k.st))) (λW=>by simp[go_sem]) ?_;by_cases N:3<k.st
    ·rw[decide_eq_true N,ci,if_pos rfl];exact⟨_,rfl,f,.inr ⟨rfl,(by rw[decide_eq_false (p:=k.st<=3) (by omega)];simp)⟩⟩
    rw[decide_eq_false N,ci,if_neg Bool.false_ne_true];refine co (λW=>(lJ p W).1) (eX (dl k.spec) 24 ve ry (cJ _) (lw (At.all q)) ?_);refine co (λW=>(lJ p W).2.2.1) (cB (GE q) ?_);refine ox e.1 λw5 s=>?_;refine co (v:=.bool (!k.spec.isPrice k.price)) (λW=>by simp[go_sem]) ?_;cases hpr:k.spec.isPrice k.price with
    |false=>exact⟨_,rfl,f.trans s,.inr ⟨rfl,(by simp)⟩⟩
    |true=>exact⟨_,rfl,f.trans s,.inl ⟨rfl,by rw[decide_eq_true (p:=last<k.spec.num) (by omega),decide_eq_true (p:=1<=k.st) (by omega),decide_eq_true (p:=k.st<=3) (by omega)];rfl⟩⟩
   ·have u:i - 1<l.length:=by omega
    have Z:=z u (by omega);obtain⟨b',j,cap',S,hcap',hA'⟩:=M.item cX u rfl;have hs:IntKind.i64.wrap ((i:Int) - 1)=((i - 1:Nat):Int):=by rw[IntKind.wrap_i64];omega
    refine co (v:=.bool true) (λW=>by simp[go_sem];omega) ?_;rw[ci,if_pos rfl];refine co (v:=.int .i64 ((i - 1:Nat):Int)) (λW=>by simp[go_sem,hs]) ?_;refine co (v:=.pointer (some ⟨b',j+(i - 1)*27,none⟩)) (λW=>by rw[S];simp[go_sem,u,cE,Bl]) ?_;refine co (v:=.pointer (some ⟨b',j+(i - 1)*27,none⟩)) (λW=>by simp[go_sem,cE]) (co (v:=.pointer (some ⟨b',j+(i - 1)*27,none⟩)) (λW=>by simp[go_sem,cE]) (cB (Bz hA') ?_));refine co (λW=>(lJ p W).1) (co (λW=>(lJ p W).2.2.2) (cB (E6 B) ?_));rw[Z];refine co (v:=.bool (decide (k.spec.num<=last))) (λW=>by simp[go_sem]) ?_;by_cases n:k.spec.num<=last
    ·rw[decide_eq_true n,ci,if_pos rfl];exact⟨_,rfl,cl.refl _ _,.inr ⟨rfl,(by rw[decide_eq_false (p:=last<k.spec.num) (by omega)];simp)⟩⟩
    rw[decide_eq_false n,ci,if_neg Bool.false_ne_true];refine co (λW=>(lJ p W).1) (eX (dl k.spec) 24 ve ry (cJ _) (lw (At.all B)) ?_);refine qR e.1 λw4 f=>?_;refine co (v:=.bool (!k.spec.may)) (λW=>by simp[go_sem]) ?_;have q:tR w4 p k:=f.hpk B id;cases a:k.spec.may with
    |false=>
     rw[show(!false)=true from rfl,ci,if_pos rfl];exact⟨_,rfl,f,.inr ⟨rfl,(by simp[Sp.isPrice,a])⟩⟩
    |true=>
    rw[show(!true)=false from rfl,ci,if_neg Bool.false_ne_true];have R:=BQ e.1 a;refine co (λW=>(lJ p W).2.1) (cB (qj q) ?_);refine co (v:=.bool (decide (k.st<1))) (λW=>by simp[go_sem]) ?_;by_cases H:k.st<1
    ·rw[decide_eq_true H,ci,if_pos rfl];exact⟨_,rfl,f,.inr ⟨rfl,(by rw[decide_eq_false (p:=1<=k.st) (by omega)];simp)⟩⟩
    rw[decide_eq_false H,ci,if_neg Bool.false_ne_true];refine co (λW=>(lJ p W).2.1) (cB (qj q) ?_);refine co (v:=.bool (decide (3<k.st))) (λW=>by simp[go_sem]) ?_;by_cases N:3<k.st
    ·rw[decide_eq_true N,ci,if_pos rfl];exact⟨_,rfl,f,.inr ⟨rfl,(by rw[decide_eq_false (p:=k.st<=3) (by omega)];simp)⟩⟩
    rw[decide_eq_false N,ci,if_neg Bool.false_ne_true];refine co (λW=>(lJ p W).1) (eX (dl k.spec) 24 ve ry (cJ _) (lw (At.all q)) ?_);refine co (λW=>(lJ p W).2.2.1) (cB (GE q) ?_);refine ox e.1 λw5 s=>?_;refine co (v:=.bool (!k.spec.isPrice k.price)) (λW=>by simp[go_sem]) ?_;cases hpr:k.spec.isPrice k.price with
    |false=>exact⟨_,rfl,f.trans s,.inr ⟨rfl,(by simp)⟩⟩
    |true=>exact⟨_,rfl,f.trans s,.inl ⟨rfl,by rw[decide_eq_true (p:=last<k.spec.num) (by omega),decide_eq_true (p:=1<=k.st) (by omega),decide_eq_true (p:=k.st<=3) (by omega)];rfl⟩⟩
  rintro _ w5 ⟨V,rfl,s,X⟩;unfold J83_0;intro _;have M5:=((T.trans M2).trans (cl.refl (λ_=>False) r).drew).trans s;rcases X with⟨rfl,g⟩|⟨rfl,g⟩
  ·rw[ci,if_neg Bool.false_ne_true];refine ck (v:=.int .i64 ((i+1:Nat):Int)) (w' :=w5) (by simp[go_sem];rw[cS (by omega) (by omega)]) ?_;refine hKN _ _ ⟨i+1,k.spec.num,_,_,by omega,rfl,?_,λh=>by omega,λ_ _=>?_,M5⟩ (by show l.length - (((i+1:Nat):Int)).toNat<l.length - ((i:Int)).toNat;omega)
   ·rw[d];simp only[Bool.and_eq_true]at g;rw[g.1,g.2.1,g.2.2.1,g.2.2.2];rfl
   ·rw[J];rfl
  ·rw[ci,if_pos rfl];refine I (λP=>?_) _ M5;rw[d]at P;have:=P.2;simp only[Bool.and_eq_true]at this;rw[this.1,this.2.1,this.2.2.1,this.2.2.2.1]at g;cases g
 ·obtain rfl:i=l.length:=by omega
  refine ck (v:=.bool false) (by simp[go_sem]<;>first|exact⟨rfl,rfl⟩|exact rfl) ?_;rw[ci,if_neg Bool.false_ne_true];rw[List.drop_length]at d;refine xy Bl (cK (by kernel_rfl:eO Tryz.prog 108 27 208=true)) t (by simp only[List.all_flatMap];exact List.all_eq_true.2 λk _=>qx k) (by omega) λs' o o1 U n1=>?_;obtain⟨C,n,rfl,-⟩:=o1.isSl;obtain⟨c,g⟩:∃c,c=o.heap.size:=⟨_,rfl⟩
  refine ck (v:=.agg #[.int .u32 day,.slice C l.length n]) (w' :=o) (by simp[go_sem]) ?_;refine ck (v:=.pointer (some ⟨c,0,none⟩)) (w' :=o.alloc (.cells #[.int .u32 day,.slice C l.length n] 168)) (by rw[g];rfl) ?_;have D:cl (λ_=>False) o (o.alloc (.cells #[.int .u32 day,.slice C l.length n] 168)):=(cl.refl _ o).alloc _;have Q:hp (o.alloc (.cells #[.int .u32 day,.slice C l.length n] 168)) c=some (.cells #[.int .u32 day,.slice C l.length n] 168 (0,0)):=by rw[g];simp[go_sem]
  generalize o.alloc (.cells #[.int .u32 day,.slice C l.length n] 168)=r at D Q|-;have hs0:=T.size;have hs1:=U.size;refine Y (by omega) d c (λb=>w.heap.size<=b/\b<r.heap.size) r ⟨⟨_,Q,(o1.mod D λ_ _ h=>h).rd,λb A=>?_⟩,⟨by omega,cn Q⟩,λb A=>A.2⟩ ((T.trans U).trans D) λb A=>A.1;have h1:=n1 b (eh.sl A);have h2:=o1.lt (eh.sl A);have h3:=D.size;exact⟨⟨by omega,by omega⟩,by omega⟩
end Go.Proofs
