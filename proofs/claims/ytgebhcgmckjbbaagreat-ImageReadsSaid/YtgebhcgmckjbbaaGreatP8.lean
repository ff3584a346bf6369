/- Part of a proof. -/
import Derived.Shelf.SlSortCmp.NoneTotal
import Derived.Ground.SlsfProg
import Derived.Test.YtgebhcgmckjbbaaGreatP7
set_option linter.all false
namespace Go.Proofs
open Go Go.Vc
attribute [local congr] cq
def Od.may(o:Od):Bool:=decide (o.num≠0)&& decide (o.acct≠0)&& cD o.price 1 MP&& cD o.left 1 1000000
def g9(o:Od):Value:=.agg (da o).toArray
def fH:Od:=⟨0,0,false,0,0⟩
def du(buy:Bool)(a b:Int):Bool:=if buy then decide (b<a)else decide (a<b)
def xK(buy:Bool)(l:List Od)(price:Int):Nat:=(l.findIdx? λx=>du buy price x.price).getD l.length
def jd(buy:Bool)(l:List Od)(o:Od):List Od:=l.take (xK buy l o.price)++o::l.drop (xK buy l o.price)
def jq(buy:Bool)(l:List Od)(o:Od):Int×List Od:=
 if¬o.may\/o.buy≠buy then(2,l)else if(l.any λx=>decide (x.num=o.num))then(8,l)else if 100<=l.length then(9,l)else(0,jd buy l o)
def jS(l:List Od)(n:Int):Option Od:=l.find? λx=>decide (x.num=n)
def qi(l:List Od)(n:Int):List Od:=l.eraseP λx=>decide (x.num=n)
def fP(l:List Od)(n:Int):List Od:=
 match l with
 | []=>[]
 |o::r=>if o.left - n=0 then r else{o with left:=o.left - n}::r
def eJ(buy:Bool)(l:List Od)(price:Int)(acct:Int):Int:=
 (((l.takeWhile λo=> !du buy price o.price).filter λo=>decide (o.acct≠acct)).map (·.left)).sum
def qB(o:Od)(w:World):∃a,(Instr.box iq (g9 o)).run Tryz.prog w=.ok (.pointer (some ⟨w.heap.size,0,none⟩)) a/\hp a w.heap.size=some (.cells (da o).toArray iq (0,0))/\cl (λ_=>False) w a:=
 ⟨w.alloc (.cells (da o).toArray iq),rfl,by simp[go_sem],(cl.refl _ w).alloc _⟩
def xD{o:Od}{w:World}{K:cm}(b:∀g,cl (λ_=>False) w g->K (.bool o.may) g):Ca Tryz.prog 222 #[g9 o] w K:=by
 apply P2;obtain⟨j,h,a,i⟩:=qB o w;have b:=b _ i;refine ck h ?_;unfold Od.may cD MP at b;unfold da at a;refine ck (by simp[-Int.natCast_add,go_sem,a]<;>first|exact⟨rfl,rfl⟩|exact rfl) ?_;refine ck (by simp[-Int.natCast_add,go_sem,a]<;>first|exact⟨rfl,rfl⟩|exact rfl) ?_;by_cases c:o.num=0
 ·refine ck (v:=.bool false) (by simp[go_sem,c]<;>first|exact⟨rfl,rfl⟩|exact rfl) ?_;rw[ci,if_neg Bool.false_ne_true];simpa [c]using b
 refine ck (v:=.bool true) (by simp[go_sem,c]<;>first|exact⟨rfl,rfl⟩|exact rfl) ?_;rw[ci,if_pos rfl];refine ck (by simp[-Int.natCast_add,go_sem,a]<;>first|exact⟨rfl,rfl⟩|exact rfl) ?_;refine ck (by simp[-Int.natCast_add,go_sem,a]<;>first|exact⟨rfl,rfl⟩|exact rfl) ?_;by_cases h1:o.acct=0
 ·refine ck (v:=.bool false) (by simp[go_sem,h1]<;>first|exact⟨rfl,rfl⟩|exact rfl) ?_;rw[ci,if_neg Bool.false_ne_true];simpa [h1]using b
 refine ck (v:=.bool true) (by simp[go_sem,h1]<;>first|exact⟨rfl,rfl⟩|exact rfl) ?_;rw[ci,if_pos rfl];refine ck (by simp[-Int.natCast_add,go_sem,a]<;>first|exact⟨rfl,rfl⟩|exact rfl) ?_;refine ck (by simp[-Int.natCast_add,go_sem,a]<;>first|exact⟨rfl,rfl⟩|exact rfl) ?_;by_cases d:1<=o.price
 ·refine ck (v:=.bool true) (by simp[go_sem,d]<;>first|exact⟨rfl,rfl⟩|exact rfl) ?_;rw[ci,if_pos rfl];refine ck (by simp[-Int.natCast_add,go_sem,a]<;>first|exact⟨rfl,rfl⟩|exact rfl) ?_;refine ck (by simp[-Int.natCast_add,go_sem,a]<;>first|exact⟨rfl,rfl⟩|exact rfl) ?_;by_cases e:o.price<=10000000
  ·refine ck (v:=.bool true) (by simp[go_sem,e]<;>first|exact⟨rfl,rfl⟩|exact rfl) ?_;rw[ci,if_pos rfl];refine ck (by simp[-Int.natCast_add,go_sem,a]<;>first|exact⟨rfl,rfl⟩|exact rfl) ?_;refine ck (by simp[-Int.natCast_add,go_sem,a]<;>first|exact⟨rfl,rfl⟩|exact rfl) ?_;by_cases f:1<=o.left
   ·refine ck (v:=.bool true) (by simp[go_sem,f]<;>first|exact⟨rfl,rfl⟩|exact rfl) ?_;rw[ci,if_pos rfl];refine ck (by simp[-Int.natCast_add,go_sem,a]<;>first|exact⟨rfl,rfl⟩|exact rfl) ?_;refine ck (by simp[-Int.natCast_add,go_sem,a]<;>first|exact⟨rfl,rfl⟩|exact rfl) ?_;refine ck (by simp[-Int.natCast_add,go_sem]<;>first|exact⟨rfl,rfl⟩|exact rfl) ?_;simpa [c,h1,d,e,f]using b
   ·refine ck (v:=.bool false) (by simp[go_sem,f]<;>first|exact⟨rfl,rfl⟩|exact rfl) ?_;rw[ci,if_neg Bool.false_ne_true];simpa [c,h1,d,e,f]using b
  ·refine ck (v:=.bool false) (by simp[go_sem,e]<;>first|exact⟨rfl,rfl⟩|exact rfl) ?_;rw[ci,if_neg Bool.false_ne_true];simpa [c,h1,d,e]using b
 ·refine ck (v:=.bool false) (by simp[go_sem,d]<;>first|exact⟨rfl,rfl⟩|exact rfl) ?_;rw[ci,if_neg Bool.false_ne_true];simpa [c,h1,d]using b
structure eM(w:World)(s:Nat)(F:Nat->Prop)(buy:Bool)(l:List Od):Prop where
 out:∃sl,hp w s=some (.cells #[.bool true,.bool buy,sl] 320 (0,0))/\kV w sl l/\(∀b,F b↔b=s\/cv sl b)/\¬cv sl s
 len:l.length<=100
 may:∀o∈l,o.may=true/\o.buy=buy/\o.Fit
def eM.mod{F G:Nat->Prop}{w w' :World}{s:Nat}{buy:Bool}{l:List Od}(h:eM w s F buy l)(d:cl G w w')(c:∀b,F b->¬G b):eM w' s F buy l:=by
 obtain⟨⟨sl,h1,e,a,g⟩,i,j⟩:=h;exact⟨⟨sl,d.hpk h1 (c s ((a s).2 (.inl rfl))),e.mod d λb f=>c b ((a b).2 (.inr f)),a,g⟩,i,j⟩
def eM.lt{F:Nat->Prop}{w:World}{s:Nat}{buy:Bool}{l:List Od}(h:eM w s F buy l){b:Nat}(a:F b):b<w.heap.size:=by
 obtain⟨⟨sl,h1,c,d,f⟩,g,e⟩:=h;rcases(d b).1 a with rfl|a
 ·exact cn h1
 ·exact c.lt a
def eM.self{F:Nat->Prop}{w:World}{s:Nat}{buy:Bool}{l:List Od}(h:eM w s F buy l):F s:=by
 obtain⟨⟨sl,h1,c,a,d⟩,e,b⟩:=h;exact(a s).2 (.inl rfl)
def cQ(s:Nat):Value:=.pointer (some ⟨s,0,none⟩)
def yA{w:World}{K:cm}{buy:Bool}(c:∀s F a,eM a s F buy []->cl (λ_=>False) w a->(∀b,F b->w.heap.size<=b)->K (cQ s) a):Ca Tryz.prog 133 #[.bool buy] w K:=by
 apply Qt;simp[go_sem];refine c _ (λb=>b=w.heap.size) _ ⟨⟨.slice none 0 0,by simp[go_sem],d7.nil _ _ _,λb=>⟨λh=>.inl h,λh=>by rcases h with h|h;exact h;cases h⟩,λh=>by cases h⟩,by simp,λo h=>by cases h⟩ ((cl.refl _ w).alloc _) λb d=>by rw[d];exact Nat.le_refl _
def ju{w:World}{K:cm}{s:Nat}{F:Nat->Prop}{buy:Bool}{l:List Od}(h:eM w s F buy l)(a:K (.bool true) w):Ca Tryz.prog 237 #[cQ s] w K:=by
 obtain⟨⟨sl,h1,c,f,d⟩,e,b⟩:=h;apply P5;unfold cQ;refine ck (v:=.bool true) (by simp[go_sem]<;>first|exact⟨rfl,rfl⟩|exact rfl) ?_;rw[ci,if_pos rfl];simp only[cr];refine ck (by simp[-Int.natCast_add,go_sem,h1]<;>first|exact⟨rfl,rfl⟩|exact rfl) ?_;refine ck (by simp[-Int.natCast_add,go_sem,h1]<;>first|exact⟨rfl,rfl⟩|exact rfl) ?_;exact a
def uT{w:World}{K:cm}{s:Nat}{F:Nat->Prop}{buy:Bool}{l:List Od}{x y:Int}(h:eM w s F buy l)(a:K (.bool (du buy x y)) w):Ca Tryz.prog 270 #[cQ s,.int .i64 x,.int .i64 y] w K:=by
 obtain⟨⟨sl,h1,b,e,c⟩,d,f⟩:=h;apply O5;unfold cQ;simp only[cr];refine ck (by simp[-Int.natCast_add,go_sem,h1]<;>first|exact⟨rfl,rfl⟩|exact rfl) ?_;refine ck (by simp[-Int.natCast_add,go_sem,h1]<;>first|exact⟨rfl,rfl⟩|exact rfl) ?_;unfold du at a;cases buy with
 |true=>
  rw[ci,if_pos rfl];refine ck (by simp[-Int.natCast_add,go_sem]<;>first|exact⟨rfl,rfl⟩|exact rfl) ?_;simpa using a
 |false=>
  rw[ci,if_neg Bool.false_ne_true];refine ck (by simp[-Int.natCast_add,go_sem]<;>first|exact⟨rfl,rfl⟩|exact rfl) ?_;simpa using a
def G0{w:World}{K:cm}{s:Nat}{F:Nat->Prop}{buy:Bool}{l:List Od}{n:Int}(h:eM w s F buy l)
  (o:∀c,cl (λ_=>False) w c->K (.int .i64 (vk l λx=>decide (x.num=n))) c):Ca Tryz.prog 310 #[cQ s,.int .u64 n] w K:=by
 obtain⟨⟨sl,h1,m,A,y⟩,z,C⟩:=h;apply OX;unfold cQ;have d:cl (λ_=>False) w (w.alloc (.cells #[.int .u64 n] 27)):=(cl.refl _ w).alloc _;obtain⟨p,b⟩:∃p,p=w.heap.size:=⟨_,rfl⟩
 refine ck (v:=.pointer (some ⟨p,0,none⟩)) (w' :=w.alloc (.cells #[.int .u64 n] 27)) (by rw[b];simp[go_sem]) ?_;have g:hp (w.alloc (.cells #[.int .u64 n] 27)) p=some (.cells #[.int .u64 n] 27 (0,0)):=by rw[b];simp[go_sem]
 generalize w.alloc (.cells #[.int .u64 n] 27)=u at d g|-;have a:=d.hpk h1 id;simp only[cr];refine ck (by simp[-Int.natCast_add,go_sem,a]<;>first|exact⟨rfl,rfl⟩|exact rfl) ?_;refine ck (by simp[-Int.natCast_add,go_sem,a]<;>first|exact⟨rfl,rfl⟩|exact rfl) ?_;refine tZ (m.mod d λ_ _ h=>h).rd (by omega) ⟨_,_,rfl,λx B W j E f=>?_⟩ λD k=>o _ (d.trans k);apply NL;obtain⟨q,t,e,i⟩:=qB x W;refine ck t ?_;unfold da at e;have r:=i.hpk (j.hpk g id) id;refine ck (by simp[-Int.natCast_add,go_sem,e]<;>first|exact⟨rfl,rfl⟩|exact rfl) ?_;refine ck (by simp[-Int.natCast_add,go_sem,e]<;>first|exact⟨rfl,rfl⟩|exact rfl) ?_;refine ck (by simp[-Int.natCast_add,go_sem,r]<;>first|exact⟨rfl,rfl⟩|exact rfl) ?_;refine ck (v:=.bool (decide (x.num=n))) (w' :=q) (by simp[go_sem];rw[Bool.eq_iff_iff];simp) ?_;exact f _ i
def nU{α:Type}{l:List α}{p:α->Bool}{i:Nat}(h:l.findIdx? p=some i):∃a:i<l.length,p l[i]=true/\l.find? p=some l[i]/\vk l p=(i:Int):=by
 obtain⟨a,h1,c⟩:=List.findIdx?_eq_some_iff_getElem.1 h;refine⟨a,h1,?_,by unfold vk;rw[h]⟩;rw[List.find?_eq_some_iff_getElem];exact⟨h1,i,a,rfl,λj b=>by simpa using c j b⟩
def qh{α:Type}{l:List α}{p:α->Bool}(h:l.findIdx? p=none):l.find? p=none/\vk l p= -1:=by
 refine⟨?_,by unfold vk;rw[h]⟩;rw[List.findIdx?_eq_none_iff]at h;rw[List.find?_eq_none];exact λx a=>by rw[h x a];simp
def FE{w:World}{K:cm}{s:Nat}{F:Nat->Prop}{buy:Bool}{l:List Od}{n:Int}(h:eM w s F buy l)
  (a:∀c,cl (λ_=>False) w c->K (.tuple #[.int .i64 ((l.findIdx? λx=>decide (x.num=n)).getD 0:Nat),.int .i64 (if(l.findIdx? λx=>decide (x.num=n)).isSome then 0 else 7)]) c):Ca Tryz.prog 299 #[cQ s,.int .u64 n] w K:=by
 apply ON;refine ju h ?_;refine ck (v:=.bool false) (by simp[go_sem]<;>first|exact⟨rfl,rfl⟩|exact rfl) ?_;rw[ci,if_neg Bool.false_ne_true];refine G0 h λf d=>?_;have a:=a _ d;cases b:l.findIdx? λx=>decide (x.num=n)with
 |none=>
  rw[b]at a;rw[(qh b).2];refine ck (v:=.bool false) (by simp[go_sem]<;>first|exact⟨rfl,rfl⟩|exact rfl) ?_;rw[ci,if_neg Bool.false_ne_true];simpa using a
 |some i=>
  rw[b]at a;obtain⟨_,_,_,e⟩:=nU b;rw[e];refine ck (v:=.bool true) (by simp[go_sem]<;>first|exact⟨rfl,rfl⟩|exact rfl) ?_;rw[ci,if_pos rfl];simpa using a
def Rl{W:World}{p off:Nat}{C:Array Value}{T:TypeId}{o:Od}(h:hp W p=some (.cells C T (0,0)))(a:off+5<=C.size):
  (Instr.storeAt iq (.pointer (some ⟨p,off,none⟩)) (g9 o)).run Tryz.prog W=.ok () (W.setRow p (iJ C.toList off (da o)).toArray):=by
 have h1:=qT (P:=Tryz.prog) (t:=iq) (w:=W) (b:=p) (off:=off) (cs:=da o) (n:=4) tj rfl h a (gY o);exact h1
def gL{W:World}{p off:Nat}{o:Od}(h:At W p off (da o)):(Instr.loadAt iq (.pointer (some ⟨p,off,none⟩))).run Tryz.prog W=.ok (g9 o) W:=
 fw (P:=Tryz.prog) (t:=iq) (by kernel_rfl) tj rfl h
def iR(w:World):∃a,(Instr.alloc iq true (.tuple #[])).run Tryz.prog w=.ok (.pointer (some ⟨w.heap.size,0,none⟩)) a/\hp a w.heap.size=some (.cells (da fH).toArray iq (0,0))/\cl (λ_=>False) w a:=
 ⟨w.alloc (.cells (da fH).toArray iq),by simp[go_sem,da,fH],by simp[go_sem],(cl.refl _ w).alloc _⟩
def gA{W:World}{p:Nat}{o o' :Od}{T:TypeId}(h:hp W p=some (.cells (da o).toArray T (0,0))):
  ∃a,(Instr.storeAt iq (.pointer (some ⟨p,0,none⟩)) (g9 o')).run Tryz.prog W=.ok () a/\hp a p=some (.cells (da o').toArray T (0,0))/\cl (λb=>b=p) W a:=by
 refine⟨_,Rl h (Nat.le_refl _),?_,(cl.refl (λb=>b=p) W).setRow (.inl rfl) _⟩;show(W.setRow p _).heap[p]? =_;have c:W.heap[p]? =some (.cells (da o).toArray T (0,0)):=h;rw[dw,if_pos rfl,c,iZ (by rfl)]
def kV.load{w:World}{sl:Value}{l:List Od}(h:kV w sl l){i:Nat}(hi:i<l.length):
  ∃b a,sl=.slice (some ⟨b,0,none⟩) l.length a/\(∀k:IntKind,(Instr.indexAt gO sl (.int k (i:Int))).run Tryz.prog w=.ok (.pointer (some ⟨b,i*5,none⟩)) w)/\(Instr.loadAt iq (.pointer (some ⟨b,i*5,none⟩))).run Tryz.prog w=.ok (g9 l[i]) w:=by
 obtain⟨b,a,rest,rfl,g,e,f⟩:=h.pos (by omega);have c:At w b 0 (l.flatMap da++rest):=At.all (cN e);have d:=h.1;have h1:=c.sub (i*5) 5 (by rw[List.length_append,d];omega);rw[List.drop_append_of_le_length (by rw[d];omega),List.take_append_of_le_length (by rw[List.length_drop,d];omega),ji da 5 l i (λx _=>dF x) hi,Nat.zero_add]at h1;refine⟨b,a,rfl,λk=>?_,gL h1⟩;simp[go_sem,hi,cE,eV]
def vG{w:World}{K:cm}{s:Nat}{F:Nat->Prop}{buy:Bool}{l:List Od}{n:Int}(h:eM w s F buy l)
  (f:jS l n=none->l.findIdx? (λx=>decide (x.num=n))=none->∀a,cl (λ_=>False) w a->K (.tuple #[.int .i64 0,.int .i64 7]) a)
  (e:∀i:Nat,∀b:i<l.length,jS l n=some l[i]->l.findIdx? (λx=>decide (x.num=n))=some i->∀a,cl (λ_=>False) w a->K (.tuple #[.int .i64 (i:Int),.int .i64 0]) a):Ca Tryz.prog 299 #[cQ s,.int .u64 n] w K:=by
 refine FE h λg c=>?_;cases b:l.findIdx? λx=>decide (x.num=n)with
 |none=>exact f (qh b).1 b _ c
 |some i=>
  obtain⟨h1,j,d,k⟩:=nU b;exact e i h1 d b _ c
def Io{w:World}{K:cm}{s:Nat}{F:Nat->Prop}{buy:Bool}{l:List Od}{n:Int}(h:eM w s F buy l)
  (c:∀f,cl (λ_=>False) w f->K (.tuple #[g9 ((jS l n).getD fH),.int .i64 (if(jS l n).isSome then 0 else 7)]) f):Ca Tryz.prog 269 #[cQ s,.int .u64 n] w K:=by
 apply Pf;obtain⟨I,H,e,q⟩:=iR w;refine ck H ?_;obtain⟨p,r⟩:∃p,p=w.heap.size:=⟨_,rfl⟩
 rw[<-r]at e|-;have h1:=h.mod q λ_ _ h=>h;refine vG h1 (λk _ y a=>?_) λi G k _ y a=>?_
 ·have m:=a.hpk e id;rw[k]at c;refine ck (by simp[-Int.natCast_add,go_sem]<;>first|exact⟨rfl,rfl⟩|exact rfl) ?_;refine ck (by simp[-Int.natCast_add,go_sem]<;>first|exact⟨rfl,rfl⟩|exact rfl) ?_;refine ck (v:=.bool true) (by simp[go_sem]<;>first|exact⟨rfl,rfl⟩|exact rfl) ?_;rw[ci,if_pos rfl];refine ck (v:=g9 fH) (w' :=y) (by simp[go_sem,g9,da,fH]) ?_;obtain⟨A,u,j,g⟩:=gA (o' :=fH) m;refine dt u ?_;refine cB (gL (o:=fH) (At.all j)) ?_;exact c _ ((q.trans a).on g λb B=>.inr (by omega))
 ·have m:=a.hpk e id;have z:=h1.mod a λ_ _ h=>h;obtain⟨⟨sl,x,E,J,N⟩,L,M⟩:=z;obtain⟨b,D,C,d,t⟩:=E.load G;rw[k]at c;refine ck (by simp[-Int.natCast_add,go_sem]<;>first|exact⟨rfl,rfl⟩|exact rfl) ?_;refine ck (by simp[-Int.natCast_add,go_sem]<;>first|exact⟨rfl,rfl⟩|exact rfl) ?_;refine ck (v:=.bool false) (by simp[go_sem]<;>first|exact⟨rfl,rfl⟩|exact rfl) ?_;rw[ci,if_neg Bool.false_ne_true];simp only[cQ,cr];refine ck (by simp[-Int.natCast_add,go_sem,x]<;>first|exact⟨rfl,rfl⟩|exact rfl) ?_;refine ck (by simp[-Int.natCast_add,go_sem,x]<;>first|exact⟨rfl,rfl⟩|exact rfl) ?_;refine ck (d _) ?_;refine ck t ?_;obtain⟨A,u,j,g⟩:=gA (o' :=l[i]) m;refine dt u ?_;refine cB (gL (o:=l[i]) (At.all j)) ?_;exact c _ ((q.trans a).on g λb B=>.inr (by omega))
def Gm{w:World}{K:cm}{s:Nat}{F:Nat->Prop}{buy:Bool}{l:List Od}(h:eM w s F buy l)
  (x:∀c,cl (λ_=>False) w c->K (.tuple #[g9 (l.head?.getD fH),.bool l.head?.isSome]) c):Ca Tryz.prog 271 #[cQ s] w K:=by
 apply ND;obtain⟨a,C,f,m⟩:=iR w;refine ck C ?_;obtain⟨p,n⟩:∃p,p=w.heap.size:=⟨_,rfl⟩
 rw[<-n]at f|-;have h1:=h.mod m λ_ _ h=>h;obtain⟨⟨sl,d,y,D,I⟩,E,H⟩:=id h1;obtain⟨sa,G,k,-⟩:=y.isSl;refine cy.at (λst W=>st=(.bool (decide (l.length=0)),())/\W=a) ?_ ?_
 ·refine ju h1 ?_;refine ck (v:=.bool false) (by simp[go_sem]<;>first|exact⟨rfl,rfl⟩|exact rfl) ?_;rw[ci,if_neg Bool.false_ne_true];simp only[cQ,cr];refine ck (by simp[-Int.natCast_add,go_sem,d]<;>first|exact⟨rfl,rfl⟩|exact rfl) ?_;refine ck (by simp[-Int.natCast_add,go_sem,d]<;>first|exact⟨rfl,rfl⟩|exact rfl) ?_;refine fI (v:=.int .i64 (l.length:Int)) (w' :=a) (by rw[k];simp[go_sem]) ?_;refine ck (v:=.bool (decide (l.length=0))) (w' :=a) (by simp[go_sem];rw[Bool.eq_iff_iff];simp) ?_;exact⟨rfl,rfl⟩
 rintro _ a ⟨rfl,rfl⟩;unfold GJ;intro _;cases l with
 |nil=>
  rw[ci,if_pos (by simp)];refine ck (v:=g9 fH) (w' :=a) (by simp[go_sem,g9,da,fH]) ?_;obtain⟨z,t,j,g⟩:=gA (o' :=fH) f;refine dt t ?_;refine cB (gL (o:=fH) (At.all j)) ?_;exact x _ (m.on g λb A=>.inr (by omega))
 |cons o r=>
  rw[ci,if_neg (by simp)];obtain⟨b,B,u,e,q⟩:=y.load (i:=0) (by simp);simp only[cQ,cr];refine ck (by simp[-Int.natCast_add,go_sem,d]<;>first|exact⟨rfl,rfl⟩|exact rfl) ?_;refine ck (by simp[-Int.natCast_add,go_sem,d]<;>first|exact⟨rfl,rfl⟩|exact rfl) ?_;refine ck (e .i64) ?_;refine ck q ?_;obtain⟨z,t,j,g⟩:=gA (o' :=o) f;refine dt t ?_;refine cB (gL (o:=o) (At.all j)) ?_;exact x _ (m.on g λb A=>.inr (by omega))
def II{w:World}{K:cm}{s:Nat}{F:Nat->Prop}{buy:Bool}{l:List Od}(h:eM w s F buy l)(d:K (.int .i64 (l.length:Int)) w):Ca Tryz.prog 227 #[cQ s] w K:=by
 obtain⟨⟨sl,b,c,f,j⟩,g,i⟩:=id h;obtain⟨sa,e,a,-⟩:=c.isSl;apply OO;refine ju h ?_;refine ck (v:=.bool false) (by simp[go_sem]<;>first|exact⟨rfl,rfl⟩|exact rfl) ?_;rw[ci,if_neg Bool.false_ne_true];simp only[cQ,cr];refine ck (by simp[-Int.natCast_add,go_sem,b]<;>first|exact⟨rfl,rfl⟩|exact rfl) ?_;refine ck (by simp[-Int.natCast_add,go_sem,b]<;>first|exact⟨rfl,rfl⟩|exact rfl) ?_;refine fI (v:=.int .i64 (l.length:Int)) (w' :=w) (by rw[a];simp[go_sem]) ?_;exact d
def xX{w:World}{K:cm}{s:Nat}{F:Nat->Prop}{buy:Bool}{l:List Od}(h:eM w s F buy l)
  (p:∀j n e,eM e j n buy l->cl (λ_=>False) w e->(∀b,n b->w.heap.size<=b)->K (cQ j) e):Ca Tryz.prog 193 #[cQ s] w K:=by
 obtain⟨⟨sl,q,r,z,y⟩,t,u⟩:=id h;apply OY;refine ju h ?_;refine ck (v:=.bool false) (by simp[go_sem]<;>first|exact⟨rfl,rfl⟩|exact rfl) ?_;rw[ci,if_neg Bool.false_ne_true];have md:cl (λ_=>False) w w.drew:=(cl.refl _ w).drew;have d1:=md.hpk q id;simp only[cQ,cr];refine co (λ_=>by simp[-Int.natCast_add,go_sem]<;>first|exact⟨rfl,rfl⟩|exact rfl) ?_;refine cB (by simp[-Int.natCast_add,go_sem,d1]<;>first|exact⟨rfl,rfl⟩|exact rfl) ?_;refine co (λ_=>by simp[-Int.natCast_add,go_sem]<;>first|exact⟨rfl,rfl⟩|exact rfl) ?_;refine cB (by simp[-Int.natCast_add,go_sem,d1]<;>first|exact⟨rfl,rfl⟩|exact rfl) ?_;refine pJ (l:=l) (r.mod md λ_ _ h=>h).rd (by omega) λd a f k x=>?_;have o:=md.trans k;have d2:=k.hpk d1 id;refine⟨by simp[go_sem,d2],?_⟩;obtain⟨sa,A,i,-⟩:=f.isSl;refine co (v:=.agg #[.bool true,.bool buy,d]) (λW=>by rw[i];simp[go_sem]) ?_;have m:cl (λ_=>False) a (a.alloc (.cells #[.bool true,.bool buy,d] 320)):=(cl.refl _ a).alloc _;refine ck (v:=cQ a.heap.size) (w' :=a.alloc (.cells #[.bool true,.bool buy,d] 320)) rfl ?_;have g:=o.size;refine p a.heap.size (λb=>b=a.heap.size\/cv d b) _ ⟨⟨d,by simp[go_sem],f.mod m λ_ _ h=>h,λb=>Iff.rfl,λc=>?_⟩,t,u⟩ (o.trans m) λb c=>?_
 ·have:=f.lt c;omega
 ·rcases c with rfl|c
  ·exact g
  ·exact x b c
def Bo{W:World}{s:Nat}{e f i v:Value}(h:hp W s=some (.cells #[e,f,i] 320 (0,0)))(g:∃a n c,v=.slice a n c):
  ∃d,(Instr.storeAt gO (.pointer (some ⟨s,2,none⟩)) v).run Tryz.prog W=.ok () d/\hp d s=some (.cells #[e,f,v] 320 (0,0))/\cl (λb=>b=s) W d:=by
 obtain⟨a,n,c,rfl⟩:=g;refine⟨W.setCell ⟨s,2,none⟩ (.slice a n c),by simp[go_sem,h],by simp[go_sem,h],(cl.refl (λb=>b=s) W).setCell (.inl rfl) _ _⟩
def rm{l:List Od}{n:Int}{i:Nat}(h:l.findIdx? (λx=>decide (x.num=n))=some i):qi l n=l.take i++l.drop (i+1):=by
 unfold qi;rw[List.eraseP_eq_eraseIdx,h];exact List.eraseIdx_eq_take_drop_succ l i
def DO(l:List Od)(n:Int):(qi l n).length<=l.length:=List.length_eraseP_le
def DI{l:List Od}{n:Int}{o:Od}(h:o∈qi l n):o∈l:=List.mem_of_mem_eraseP h
def Hm{w:World}{K:cm}{s:Nat}{F:Nat->Prop}{buy:Bool}{l:List Od}{n:Int}(h:eM w s F buy l)
  (G:∀F' t,eM t s F' buy (qi l n)->cl F w t->(∀b,F' b->F b\/w.heap.size<=b)->K (.tuple #[g9 ((jS l n).getD fH),.int .i64 (if(jS l n).isSome then 0 else 7)]) t):Ca Tryz.prog 259 #[cQ s,.int .u64 n] w K:=by
 apply Oh;obtain⟨w1,e1,N,Z⟩:=iR w;refine ck e1 ?_;obtain⟨p,u⟩:∃p,p=w.heap.size:=⟨_,rfl⟩
 rw[<-u]at N|-;have h1:=h.mod Z λ_ _ h=>h;have k:∀{W W' :World},cl (λ_=>False) W W' ->cl F W W' :=λm=>m.mono λ_ _ h=>h.elim;have X:∀{b},F b->b<p:=λa=>by rw[u];exact h.lt a
 refine vG h1 (λQ d y g=>?_) λi hi Q c y g=>?_
 ·have H:=g.hpk N id
  have Y:qi l n=l:=by
   unfold qi;rw[List.eraseP_eq_eraseIdx,d]
  rw[Q,Y]at G;refine ck (by simp[-Int.natCast_add,go_sem]<;>first|exact⟨rfl,rfl⟩|exact rfl) ?_;refine ck (by simp[-Int.natCast_add,go_sem]<;>first|exact⟨rfl,rfl⟩|exact rfl) ?_;refine ck (v:=.bool true) (by simp[go_sem]<;>first|exact⟨rfl,rfl⟩|exact rfl) ?_;rw[ci,if_pos rfl];refine ck (v:=g9 fH) (w' :=y) (by simp[go_sem,g9,da,fH]) ?_;obtain⟨w3,e3,z,E⟩:=gA (o' :=fH) H;refine dt e3 ?_;refine cB (gL (o:=fH) (At.all z)) ?_;have M2:=Z.trans g;exact G F _ ((h.mod M2 λ_ _ h=>h).mod E λb a e=>by have:=X a;omega) ((k M2).on E λb a=>.inr (by omega)) λb a=>.inl a
 ·have H:=g.hpk N id;have h2:=h1.mod g λ_ _ h=>h;obtain⟨⟨sl,U,J,V,c4⟩,c5,c6⟩:=id h2;obtain⟨b,cap,hsl,d,M⟩:=J.load hi;rw[Q,rm c]at G;refine ck (by simp[-Int.natCast_add,go_sem]<;>first|exact⟨rfl,rfl⟩|exact rfl) ?_;refine ck (by simp[-Int.natCast_add,go_sem]<;>first|exact⟨rfl,rfl⟩|exact rfl) ?_;refine ck (v:=.bool false) (by simp[go_sem]<;>first|exact⟨rfl,rfl⟩|exact rfl) ?_;rw[ci,if_neg Bool.false_ne_true];simp only[cQ,cr];refine ck (by simp[-Int.natCast_add,go_sem,U]<;>first|exact⟨rfl,rfl⟩|exact rfl) ?_;refine ck (by simp[-Int.natCast_add,go_sem,U]<;>first|exact⟨rfl,rfl⟩|exact rfl) ?_;refine ck (d _) ?_;refine ck M ?_;obtain⟨w3,e3,z,E⟩:=iR y;refine ck e3 ?_;obtain⟨q,T⟩:∃q,q=y.heap.size:=⟨_,rfl⟩
  rw[<-T]at z|-;obtain⟨w4,e4,b4,m4⟩:=gA (o' :=l[i]) z;refine dt e4 ?_;have D:cl (λ_=>False) y w4:=E.on m4 λb a=>.inr (by omega);have f:=D.hpk U id;have R:=D.hpk H id;have S:=J.mod D λ_ _ h=>h;refine ck (by simp[-Int.natCast_add,go_sem,f]<;>first|exact⟨rfl,rfl⟩|exact rfl) ?_;refine ck (by simp[-Int.natCast_add,go_sem,f]<;>first|exact⟨rfl,rfl⟩|exact rfl) ?_;refine ck (v:=.int .i64 ((i+1:Nat):Int)) (w' :=w4) (by simp[go_sem];rw[cS (by omega) (by omega)]) ?_;refine sq S (Nat.lt_succ_self i) hi (by omega) λr w5 o5 A C=>?_;obtain⟨sa,sc,O,-⟩:=o5.isSl;have P:¬cv sl s:=c4;have x:¬cv sl p:=λa=>by have:=X ((V p).2 (.inr a));omega
  have hqn:¬cv sl q:=λa=>by have:=J.lt a;omega
  have j:=A.hpk f P;have p5:=A.hpk R x;have q5:=A.hpk b4 hqn;refine ck (by simp[-Int.natCast_add,go_sem,j]<;>first|exact⟨rfl,rfl⟩|exact rfl) ?_;obtain⟨w6,e6,b6,B⟩:=Bo (v:=r) j ⟨_,_,_,O⟩;refine dt e6 ?_;have hsp:s<p:=X h.self;have hpq:p<q:=by have:=cn H;omega
  have q6:=B.hpk q5 (by omega);have p6:=B.hpk p5 (by omega);refine ck (gL (o:=l[i]) (At.all q6)) ?_;obtain⟨I,e7,b7,L⟩:=gA (o' :=l[i]) p6;refine dt e7 ?_;refine cB (gL (o:=l[i]) (At.all b7)) ?_;have s7:=L.hpk b6 (by omega);have o6:kV w6 r (l.take i++l.drop (i+1)):=o5.mod B λb a e=>c4 (by rw[<-e];exact C b a);have o7:kV I r (l.take i++l.drop (i+1)):=o6.mod L λb a e=>x (by rw[<-e];exact C b a)
  have MF:cl F w I:=by
   have a1:=k ((Z.trans g).trans D);have a2:cl F w w5:=a1.on A λb a=>.inl ((V b).2 (.inr a));have a3:cl F w w6:=a2.on B λb a=>.inl (by rw[a];exact h.self);exact a3.on L λb a=>.inr (by omega)
  refine G (λb=>b=s\/cv r b) I ⟨⟨r,s7,o7,λb=>Iff.rfl,λa=>c4 (C s a)⟩,?_,?_⟩ MF λb a=>?_
  ·rw[<-rm c];exact Nat.le_trans (DO l n) c5
  ·intro o ho;rw[<-rm c]at ho;exact c6 o (DI ho)
  ·rcases a with rfl|a
   ·exact .inl h.self
   ·exact .inl ((V b).2 (.inr (C b a)))
def qy:∀(l:List Od) (i:Nat) (hi:i<l.length) (x:Int),(l.flatMap da).set (i*5+4) (.int .i64 x)=(l.set i {l[i]with left:=x}).flatMap da
 |o::l,0,_,x=>rfl
 |o::l,i+1,hi,x=>by
  have e:(i+1)*5+4=(da o).length+(i*5+4):=by rw[dF];omega
  rw[List.flatMap_cons,e,List.set_append_right _ _ (by omega),Nat.add_sub_cancel_left,qy l i (by simpa using hi) x];simp
def kV.setLeft{w:World}{sl:Value}{l:List Od}(h:kV w sl l){i:Nat}(hi:i<l.length)(x:Int):
  ∃b a e,sl=.slice (some ⟨b,0,none⟩) l.length a/\(∀k:IntKind,(Instr.indexAt gO sl (.int k (i:Int))).run Tryz.prog w=.ok (.pointer (some ⟨b,i*5,none⟩)) w)/\
   (Instr.fieldAt iq (.pointer (some ⟨b,i*5,none⟩)) 4).run Tryz.prog w=.ok (.pointer (some ⟨b,i*5+4,none⟩)) w/\(Instr.loadAt 2 (.pointer (some ⟨b,i*5+4,none⟩))).run Tryz.prog w=.ok (.int .i64 l[i].left) w/\
   (Instr.storeAt 2 (.pointer (some ⟨b,i*5+4,none⟩)) (.int .i64 x)).run Tryz.prog w=.ok () e/\kV e sl (l.set i {l[i]with left:=x})/\cl (cv sl) w e:=by
 obtain⟨b,a,rest,rfl,o,f,g,j⟩:=h.pos (by omega);have n:=h.1
 have c:(l.flatMap da++rest)[i*5+4]? =some (.int .i64 l[i].left):=by
  rw[List.getElem?_append_left (by rw[n];omega)];have h1:=ji da 5 l i (λx _=>dF x) hi;have m:(((l.flatMap da).drop (i*5)).take 5)[4]? =(da l[i])[4]? :=by rw[h1]
  rw[List.getElem?_take,if_pos (by omega),List.getElem?_drop]at m;rw[m];rfl
 have d:((l.flatMap da++rest).toArray.setIfInBounds (i*5+4) (.int .i64 x))=((l.set i {l[i]with left:=x}).flatMap da++rest).toArray:=by
  rw[List.setIfInBounds_toArray,List.set_append_left _ _ (by rw[n];omega),qy l i hi x]
 refine⟨b,a,w.setCell ⟨b,i*5+4,none⟩ (.int .i64 x),rfl,λk=>by simp[go_sem,hi,cE,eV],by simp[go_sem,cE],by simp[go_sem,cN f,c],by simp[go_sem,cN f,c],⟨by rw[Bj dF,List.length_set],.inr ⟨b,a,rest,by rw[List.length_set],by rw[List.length_set];exact o,?_,by rw[List.length_set];exact g,j⟩⟩,(cl.refl _ w).setCell (.inl (show cv (.slice (some ⟨b,0,none⟩) l.length a) b from rfl)) _ _⟩;rw[mN,if_pos rfl,f,eN,d]
def Ge{w:World}{K:cm}{s:Nat}{F:Nat->Prop}{buy:Bool}{o:Od}{r:List Od}{n:Int}(h:eM w s F buy (o::r))(h1:1<=n)(h2:n<=o.left)
  (hK:∀F' y,eM y s F' buy (fP (o::r) n)->cl F w y->(∀b,F' b->F b\/w.heap.size<=b)->K (.tuple #[g9 {o with left:=o.left - n},.int .i64 0]) y):Ca Tryz.prog 273 #[cQ s,.int .i64 n] w K:=by
 have G:=h.may o (by simp)
 have hm:1<=o.left/\o.left<=1000000:=by
  have:=G.1;unfold Od.may at this;simp only[Bool.and_eq_true]at this;exact of_decide_eq_true this.2
 apply Nw;obtain⟨C,e1,b1,m1⟩:=iR w;refine ck e1 ?_;obtain⟨p,M⟩:∃p,p=w.heap.size:=⟨_,rfl⟩
 rw[<-M]at b1|-;have q1:=h.mod m1 λ_ _ h=>h;have I:∀{W W' :World},cl (λ_=>False) W W' ->cl F W W' :=λm=>m.mono λ_ _ h=>h.elim;have pF:∀{b},F b->b<p:=λa=>by rw[M];exact h.lt a
 have hsp:s<p:=pF h.self;obtain⟨⟨sl,u,T,P,R⟩,c5,c6⟩:=id q1;obtain⟨sa,sc,Y,-⟩:=T.isSl;have B:¬cv sl p:=λa=>by have:=pF ((P p).2 (.inr a));omega
 obtain⟨b,cap,w2,hsl',d,f,t,E,o2,S⟩:=T.setLeft (i:=0) (by simp) (o.left - n);simp only[List.getElem_cons_zero,Nat.zero_mul,Nat.zero_add,List.set_cons_zero]at d f t E o2;refine ju q1 ?_;refine ck (v:=.bool false) (by simp[go_sem]<;>first|exact⟨rfl,rfl⟩|exact rfl) ?_;rw[ci,if_neg Bool.false_ne_true];simp only[cQ,cr];refine ck (by simp[-Int.natCast_add,go_sem,u]<;>first|exact⟨rfl,rfl⟩|exact rfl) ?_;refine ck (by simp[-Int.natCast_add,go_sem,u]<;>first|exact⟨rfl,rfl⟩|exact rfl) ?_;refine fI (v:=.int .i64 ((o::r).length:Int)) (w' :=C) (by rw[Y];simp[go_sem]) ?_;have hne:¬(((o::r).length:Nat):Int)=0:=by simp;omega
 refine ck (v:=.bool false) (w' :=C) (by simp only[go_sem];simp;omega) ?_;rw[ci,if_neg Bool.false_ne_true];refine cy.at (λst W=>st=(.bool false,())/\W=C) ?_ ?_
 ·have h1' :¬n<1:=by omega
  refine ck (v:=.bool false) (by simp[go_sem,h1']<;>first|exact⟨rfl,rfl⟩|exact rfl) ?_;rw[ci,if_neg Bool.false_ne_true];refine ck (by simp[-Int.natCast_add,go_sem,u]<;>first|exact⟨rfl,rfl⟩|exact rfl) ?_;refine ck (by simp[-Int.natCast_add,go_sem,u]<;>first|exact⟨rfl,rfl⟩|exact rfl) ?_;refine ck (d .i64) (ck f (ck t ?_));have h2' :¬o.left<n:=by omega
  refine ck (v:=.bool false) (w' :=C) (by simp[go_sem,h2']) ?_;exact⟨rfl,rfl⟩
 rintro _ C ⟨rfl,rfl⟩;unfold Ef;intro _;rw[ci,if_neg Bool.false_ne_true];simp only[cr];refine ck (by simp[-Int.natCast_add,go_sem,u]<;>first|exact⟨rfl,rfl⟩|exact rfl) ?_;refine ck (by simp[-Int.natCast_add,go_sem,u]<;>first|exact⟨rfl,rfl⟩|exact rfl) ?_;refine ck (d .i64) (ck f (ck t ?_));refine ck (v:=.int .i64 (o.left - n)) (w' :=C) (by simp[go_sem];rw[cS (by omega) (by omega)]) ?_;refine ck (d .i64) (ck f ?_);refine dt E ?_;have A:=S.hpk u R;have p2:=S.hpk b1 B;refine ck (by simp[-Int.natCast_add,go_sem,A]<;>first|exact⟨rfl,rfl⟩|exact rfl) ?_;refine ck (by simp[-Int.natCast_add,go_sem,A]<;>first|exact⟨rfl,rfl⟩|exact rfl) ?_;obtain⟨b',cap',hsl2,J,D⟩:=o2.load (i:=0) (by simp);refine ck (J .i64) (ck D ?_);simp only[List.getElem_cons_zero];obtain⟨w3,e3,b3,m3⟩:=iR w2;refine ck e3 ?_;obtain⟨q,Z⟩:∃q,q=w2.heap.size:=⟨_,rfl⟩
 rw[<-Z]at b3|-;obtain⟨w4,e4,b4,m4⟩:=gA (o' :={o with left:=o.left - n}) b3;refine dt e4 ?_;have Q:cl (λ_=>False) w2 w4:=m3.on m4 λb a=>.inr (by omega);have k:=Q.hpk A id;have p4:=Q.hpk p2 id;have o4:=o2.mod Q λ_ _ h=>h;have hpq:p<q:=by have:=cn p2;omega
 have hqn:¬cv sl q:=λa=>by have:=T.lt a;have:=S.size;omega
 have L:cl F w w4:=((I m1).on S λb a=>.inl ((P b).2 (.inr a))).trans (I Q)
 have V:∀(g:List Od) (c:Value) (W:World),hp W s=some (.cells #[.bool true,.bool buy,c] 320 (0,0))->kV W c g->(∀b,cv c b->cv sl b)->hp W q=some (.cells (da {o with left:=o.left - n}).toArray iq (0,0))->hp W p=some (.cells (da fH).toArray iq (0,0))->
   cl F w W->g=fP (o::r) n->Bx (.pointer (some ⟨q,0,none⟩)) (.pointer (some ⟨p,0,none⟩)) K () W:=by
  intro g c W k1 k2 k3 k4 k5 k6 k7;unfold Bx;intro _;refine ck (gL (o:={o with left:=o.left - n}) (At.all k4)) ?_;obtain⟨w7,e7,b7,U⟩:=gA (o' :={o with left:=o.left - n}) k5;refine dt e7 ?_;refine cB (gL (o:={o with left:=o.left - n}) (At.all b7)) ?_;have s7:=U.hpk k1 (by omega);have o7:kV w7 c g:=k2.mod U λb a e=>B (by rw[<-e];exact k3 b a);subst k7;refine hK (λb=>b=s\/cv c b) w7 ⟨⟨c,s7,o7,λb=>Iff.rfl,λa=>R (k3 s a)⟩,?_,?_⟩ (k6.on U λb a=>.inr (by omega)) λb a=>?_
  ·unfold fP;simp only;have:=c5;simp only[List.length_cons]at this;split
   ·omega
   ·simp only[List.length_cons];omega
  ·intro x l;unfold fP at l;simp only at l;by_cases z:o.left - n=0
   ·rw[if_pos z]at l;exact c6 x (List.mem_cons_of_mem _ l)
   ·rw[if_neg z]at l;rcases List.mem_cons.1 l with rfl|l
    ·obtain⟨a1,a2,a3⟩:=G;refine⟨?_,a2,a3.1,a3.2.1,a3.2.2.1,by unfold fW;simp only;omega⟩;unfold Od.may at a1|-;simp only[Bool.and_eq_true]at a1|-;exact⟨a1.1,by unfold cD;rw[decide_eq_true_eq];omega⟩
    ·exact c6 x (List.mem_cons_of_mem _ l)
  ·rcases a with rfl|a
   ·exact .inl h.self
   ·exact .inl ((P b).2 (.inr (k3 b a)))
 refine cy.at (λst W=>∃c g,hp W s=some (.cells #[.bool true,.bool buy,c] 320 (0,0))/\kV W c g/\(∀b,cv c b->cv sl b)/\hp W q=some (.cells (da {o with left:=o.left - n}).toArray iq (0,0))/\hp W p=some (.cells (da fH).toArray iq (0,0))/\cl F w W/\g=fP (o::r) n) ?_ ?_
 ·have q4:=b4;unfold da at q4;refine ck (by simp[-Int.natCast_add,go_sem,q4]<;>first|exact⟨rfl,rfl⟩|exact rfl) ?_;refine ck (by simp[-Int.natCast_add,go_sem,q4]<;>first|exact⟨rfl,rfl⟩|exact rfl) ?_;by_cases z:o.left - n=0
  ·refine ck (v:=.bool true) (by simp[go_sem,z]<;>first|exact⟨rfl,rfl⟩|exact rfl) ?_;rw[ci,if_pos rfl];refine ck (by simp[-Int.natCast_add,go_sem,k]<;>first|exact⟨rfl,rfl⟩|exact rfl) ?_;refine ck (by simp[-Int.natCast_add,go_sem,k]<;>first|exact⟨rfl,rfl⟩|exact rfl) ?_;refine sq (i:=0) (j:=1) o4 (by omega) (by simp) (by simp only[List.length_cons]at c5|-;omega) λc w5 o5 N n5=>?_;obtain⟨xa,xc,X,-⟩:=o5.isSl;have H:=N.hpk k R;refine ck (by simp[-Int.natCast_add,go_sem,H]<;>first|exact⟨rfl,rfl⟩|exact rfl) ?_;obtain⟨w6,e6,b6,O⟩:=Bo (v:=c) H ⟨_,_,_,X⟩;refine dt e6 ?_;refine⟨c,_,b6,o5.mod O λb a e=>R (by rw[<-e];exact n5 b a),n5,O.hpk (N.hpk b4 hqn) (by omega),O.hpk (N.hpk p4 B) (by omega),(L.on N λb a=>.inl ((P b).2 (.inr a))).on O λb a=>.inl (by rw[a];exact h.self),?_⟩;unfold fP;simp[z]
  ·refine ck (v:=.bool false) (by simp[go_sem,z]<;>first|exact⟨rfl,rfl⟩|exact rfl) ?_;rw[ci,if_neg Bool.false_ne_true];refine⟨sl,_,k,o4,λb a=>a,b4,p4,L,?_⟩;unfold fP;simp[z]
 ·rintro⟨⟩ W ⟨c,g,k1,k2,k3,k4,k5,k6,k7⟩;exact V g c W k1 k2 k3 k4 k5 k6 k7
def uo{l:List Od}{n:Int}:(l.findIdx? λx=>decide (x.num=n)).isSome=l.any λx=>decide (x.num=n):=by
 rw[List.findIdx?_isSome]
set_option maxRecDepth 10000 in
def JE{w:World}{K:cm}{s:Nat}{F:Nat->Prop}{buy:Bool}{l:List Od}{o:Od}(h:eM w s F buy l)(hof:o.Fit)
  (C:∀F' t,eM t s F' buy (jq buy l o).2->cl F w t->(∀b,F' b->F b\/w.heap.size<=b)->K (.int .i64 (jq buy l o).1) t):Ca Tryz.prog 274 #[cQ s,g9 o] w K:=by
 apply OQ;have y:∀{W W' :World},cl (λ_=>False) W W' ->cl F W W' :=λm=>m.mono λ_ _ h=>h.elim;have m0:cl (λ_=>False) w (w.alloc (.cells #[cQ s] 228)):=(cl.refl _ w).alloc _;obtain⟨p,L⟩:∃p,p=w.heap.size:=⟨_,rfl⟩
 refine ck (v:=.pointer (some ⟨p,0,none⟩)) (w' :=w.alloc (.cells #[cQ s] 228)) (by rw[L];simp[go_sem,cQ]) ?_;have b0:hp (w.alloc (.cells #[cQ s] 228)) p=some (.cells #[cQ s] 228 (0,0)):=by rw[L];simp[go_sem]
 generalize w.alloc (.cells #[cQ s] 228)=w0 at m0 b0|-;obtain⟨O,e1,b1,m1⟩:=qB o w0;refine ck e1 ?_;obtain⟨q,hq0⟩:∃q,q=w0.heap.size:=⟨_,rfl⟩
 rw[<-hq0]at b1|-;have p1:=m1.hpk b0 id;have M1:=m0.trans m1;have h1:=h.mod M1 λ_ _ h=>h;have hpq:p<q:=by have:=cn b0;omega
 have pF:∀{b},F b->b<p:=λc=>by rw[L];exact h.lt c
 have j:∀{W},cl (λ_=>False) O W->hp W p=some (.cells #[cQ s] 228 (0,0)):=λm=>m.hpk p1 id;have n:∀{W},cl (λ_=>False) O W->hp W q=some (.cells (da o).toArray iq (0,0)):=λm=>m.hpk b1 id;refine ck (by simp[-Int.natCast_add,go_sem,p1]<;>first|exact⟨rfl,rfl⟩|exact rfl) ?_;refine ju h1 ?_;refine ck (v:=.bool false) (by simp[go_sem]<;>first|exact⟨rfl,rfl⟩|exact rfl) ?_;rw[ci,if_neg Bool.false_ne_true];refine cy.at (λst W=>st=(.bool (decide (¬o.may\/o.buy≠buy)),())/\cl (λ_=>False) O W) ?_ ?_
 ·have md:cl (λ_=>False) O O.drew:=(cl.refl _ O).drew;refine cB (gL (o:=o) (At.all (n md))) ?_;refine xD λw2 I=>?_;have H:=md.trans I;refine co (v:=.bool (!o.may)) (λW=>by simp[go_sem]) ?_;cases hm:o.may with
  |false=>
   rw[ci,if_pos (by simp)];exact⟨by simp,H⟩
  |true=>
   rw[ci,if_neg (by simp)];have N:=n H;unfold da at N;obtain⟨⟨sl,D,c2,c3,c4⟩,c5,c6⟩:=h1.mod H λ_ _ h=>h;have p2:=j H;refine co (λ_=>by simp[-Int.natCast_add,go_sem]<;>first|exact⟨rfl,rfl⟩|exact rfl) ?_;refine cB (by simp[-Int.natCast_add,go_sem,N]<;>first|exact⟨rfl,rfl⟩|exact rfl) ?_;refine cB (v:=cQ s) (by simp[go_sem,p2]) ?_;simp only[cQ,cr];refine co (λ_=>by simp[-Int.natCast_add,go_sem]<;>first|exact⟨rfl,rfl⟩|exact rfl) ?_;refine cB (by simp[-Int.natCast_add,go_sem,D]<;>first|exact⟨rfl,rfl⟩|exact rfl) ?_;refine co (v:=.bool (decide (o.buy≠buy))) (λW=>by cases o.buy<;>cases buy<;>simp[go_sem]) ?_;exact⟨by simp,H⟩
 rintro _ w2 ⟨rfl,I⟩;unfold EI;intro _;have H:=M1.trans I;have T:=h1.mod I λ_ _ h=>h;by_cases d:¬o.may\/o.buy≠buy
 ·have J:jq buy l o=(2,l):=by unfold jq;rw[if_pos d]
  rw[J]at C;rw[ci,if_pos (by simpa using d)];exact C F _ T (y H) λb c=>.inl c
 rw[ci,if_neg (by simpa using d)];have p2:=j I;have N:=n I;refine ck (by simp[-Int.natCast_add,go_sem,p2]<;>first|exact⟨rfl,rfl⟩|exact rfl) ?_;unfold da at N;refine ck (by simp[-Int.natCast_add,go_sem,N]<;>first|exact⟨rfl,rfl⟩|exact rfl) ?_;refine ck (by simp[-Int.natCast_add,go_sem,N]<;>first|exact⟨rfl,rfl⟩|exact rfl) ?_;refine G0 T λw3 m3=>?_;have M3:=I.trans m3;have X:=M1.trans M3;have h3:=T.mod m3 λ_ _ h=>h;by_cases k:(l.any λx=>decide (x.num=o.num))=true
 ·have J:jq buy l o=(8,l):=by unfold jq;rw[if_neg d,if_pos k]
  rw[J]at C;rw[<-uo]at k;obtain⟨i,hi⟩:=Option.isSome_iff_exists.1 k;obtain⟨_,_,_,e⟩:=nU hi;rw[e];refine ck (v:=.bool true) (by simp[go_sem]<;>first|exact⟨rfl,rfl⟩|exact rfl) ?_;rw[ci,if_pos rfl];exact C F _ h3 (y X) λb c=>.inl c
 have hno:(l.findIdx? λx=>decide (x.num=o.num))=none:=by
  cases A:l.findIdx? λx=>decide (x.num=o.num)with
  |none=>rfl
  |some i=>exact absurd (by rw[<-uo,A];rfl) k
 rw[(qh hno).2];refine ck (v:=.bool false) (by simp[go_sem]<;>first|exact⟨rfl,rfl⟩|exact rfl) ?_;rw[ci,if_neg Bool.false_ne_true];obtain⟨⟨sl,D,c2,c3,c4⟩,c5,c6⟩:=id h3;obtain⟨sa,sc,P,-⟩:=c2.isSl;have p3:=j M3;refine ck (v:=cQ s) (w' :=w3) (by simp[go_sem,p3]) ?_;simp only[cQ,cr];refine ck (by simp[-Int.natCast_add,go_sem,D]<;>first|exact⟨rfl,rfl⟩|exact rfl) ?_;refine ck (by simp[-Int.natCast_add,go_sem,D]<;>first|exact⟨rfl,rfl⟩|exact rfl) ?_;refine fI (v:=.int .i64 (l.length:Int)) (w' :=w3) (by rw[P];simp[go_sem]) ?_;by_cases r:100<=l.length
 ·have J:jq buy l o=(9,l):=by unfold jq;rw[if_neg d,if_neg k,if_pos r]
  rw[J]at C;have f:(100:Int)<=(l.length:Int):=by omega
  refine ck (v:=.bool true) (by simp[go_sem,f]<;>first|exact⟨rfl,rfl⟩|exact rfl) ?_;rw[ci,if_pos rfl];exact C F _ h3 (y X) λb c=>.inl c
 have f:¬(100:Int)<=(l.length:Int):=by omega
 refine ck (v:=.bool false) (by simp[go_sem,f]<;>first|exact⟨rfl,rfl⟩|exact rfl) ?_;rw[ci,if_neg Bool.false_ne_true];have J:jq buy l o=(0,jd buy l o):=by unfold jq;rw[if_neg d,if_neg k,if_neg r]
 rw[J]at C;refine ck (v:=cQ s) (w' :=w3) (by simp[go_sem,p3]) ?_;simp only[cQ,cr];refine ck (by simp[-Int.natCast_add,go_sem,D]<;>first|exact⟨rfl,rfl⟩|exact rfl) ?_;refine ck (by simp[-Int.natCast_add,go_sem,D]<;>first|exact⟨rfl,rfl⟩|exact rfl) ?_;refine tZ (p:=λx=>du buy o.price x.price) c2.rd (by omega) ⟨_,_,rfl,λx u W mW K' hK' =>?_⟩ λg m4=>?_
 ·apply Qx;obtain⟨W1,e1,d1,n1⟩:=qB x W;refine ck e1 ?_;have MW:=(M3.trans mW).trans n1;have pW:=j MW;have qW:=n MW;unfold da at d1 qW;refine ck (v:=cQ s) (w' :=W1) (by simp[go_sem,pW]) ?_;refine ck (by simp[-Int.natCast_add,go_sem,qW]<;>first|exact⟨rfl,rfl⟩|exact rfl) ?_;refine ck (by simp[-Int.natCast_add,go_sem,qW]<;>first|exact⟨rfl,rfl⟩|exact rfl) ?_;refine ck (by simp[-Int.natCast_add,go_sem,d1]<;>first|exact⟨rfl,rfl⟩|exact rfl) ?_;refine ck (by simp[-Int.natCast_add,go_sem,d1]<;>first|exact⟨rfl,rfl⟩|exact rfl) ?_;refine uT (h1.mod MW λ_ _ h=>h) ?_;exact hK' _ n1
 have S:=M3.trans m4;have h4:=h3.mod m4 λ_ _ h=>h;have z:=m4.hpk D id
 have Y:xK buy l o.price<=l.length:=by
  unfold xK;cases A:l.findIdx? λx=>du buy o.price x.price with
  |none=>exact Nat.le_refl _
  |some i=>
   obtain⟨hi,_⟩:=nU A;simp only[Option.getD_some];omega
 refine cy.at (λst W=>st=(.int .i64 (xK buy l o.price:Nat),())/\W=g) ?_ ?_
 ·cases A:l.findIdx? λx=>du buy o.price x.price with
  |none=>
   rw[(qh A).2];refine ck (v:=.bool true) (by simp[go_sem]<;>first|exact⟨rfl,rfl⟩|exact rfl) ?_;rw[ci,if_pos rfl];have p4:=j S;refine ck (v:=cQ s) (w' :=g) (by simp[go_sem,p4]) ?_;simp only[cQ,cr];refine ck (by simp[-Int.natCast_add,go_sem,z]<;>first|exact⟨rfl,rfl⟩|exact rfl) ?_;refine ck (by simp[-Int.natCast_add,go_sem,z]<;>first|exact⟨rfl,rfl⟩|exact rfl) ?_;refine fI (v:=.int .i64 (l.length:Int)) (w' :=g) (by rw[P];simp[go_sem]) ?_;refine⟨?_,rfl⟩;unfold xK;rw[A];rfl
  |some i=>
   obtain⟨_,_,_,e⟩:=nU A;rw[e];refine ck (v:=.bool false) (by simp[go_sem]<;>first|exact⟨rfl,rfl⟩|exact rfl) ?_;rw[ci,if_neg Bool.false_ne_true];refine⟨?_,rfl⟩;unfold xK;rw[A];rfl
 rintro _ g ⟨rfl,rfl⟩;unfold EG;intro _;have md:cl (λ_=>False) g g.drew:=(cl.refl _ g).drew;have pd:=j (S.trans md);have qd:=n (S.trans md);have cd:=md.hpk z id;refine cB (v:=cQ s) (by simp[go_sem,pd]) ?_;refine cB (v:=cQ s) (by simp[go_sem,pd]) ?_;simp only[cQ,cr];refine co (λ_=>by simp[-Int.natCast_add,go_sem]<;>first|exact⟨rfl,rfl⟩|exact rfl) ?_;refine cB (by simp[-Int.natCast_add,go_sem,cd]<;>first|exact⟨rfl,rfl⟩|exact rfl) ?_;refine cB (gL (o:=o) (At.all qd)) ?_;refine fE [g9 o] eV (cK BW) rfl rfl (by intro v hv;rw[List.mem_singleton.1 hv];rfl) (by omega) ?_;have e0:(([g9 o]:List Value).flatMap (·.cells.toList)).toArray=(da o).toArray:=rfl;rw[e0];have m5:cl (λ_=>False) g.drew (g.drew.alloc (.cells (da o).toArray iq)):=(cl.refl _ g.drew).alloc _;have U:=md.trans m5
 have R:kV (g.drew.alloc (.cells (da o).toArray iq)) (.slice (some ⟨g.drew.heap.size,0,none⟩) 1 1) [o]:=
  ⟨rfl,.inr ⟨_,1,[],rfl,Nat.le_refl _,by rw[cU,if_pos rfl];simp,by simp,by simp⟩⟩
 have Z:∀b,cv (.slice (some ⟨g.drew.heap.size,0,none⟩) 1 1) b->b=g.drew.heap.size:=λb c=>by cases c;rfl
 generalize g.drew.alloc (.cells (da o).toArray iq)=w5 at m5 U R|-;have p5:=j (S.trans U);have E:=U.hpk z id;refine⟨by simp[go_sem,E],by simp[go_sem,p5,cQ],by simp[go_sem,p5,cQ],?_⟩;obtain⟨⟨M,k1,k2,k3,k4⟩,k5,k6⟩:=h4.mod U λ_ _ h=>h
 have esl:M=sl:=by
  have:=E.symm.trans k1;simp only[Option.some.injEq,Obj.cells.injEq]at this;have:=congrArg (λa:Array Value=>a[2]?) this.1;simp at this;exact this.symm
 subst esl;have Q:∀b,cv M b->b<w3.heap.size:=λb c=>c2.lt c;have hsz43:=m4.size;refine yf k2 R (λb c hb' =>by have h1:=Q b c;have T:=Z b hb';rw[vK]at T;omega) Y (by omega) λs6 w6 o6 m6 n6=>?_;obtain⟨xa,xc,hs6,-⟩:=o6.isSl;have hps:¬cv M p:=λc=>by have:=pF ((k3 p).2 (.inr c));omega
 have p6:=m6.hpk p5 hps;have c6' :=m6.hpk E k4;refine⟨by simp[go_sem,p6,cQ],?_⟩;refine co (λ_=>by simp[-Int.natCast_add,go_sem]<;>first|exact⟨rfl,rfl⟩|exact rfl) ?_;obtain⟨w7,e7,b7,m7⟩:=Bo (v:=s6) c6' ⟨_,_,_,hs6⟩;refine dt e7 ?_;have G:=M1.trans (S.trans U)
 have B:¬cv s6 s:=λc=>by
  rcases n6 s c with V|V
  ·exact k4 V
  ·have:=pF h.self;have:=G.size;omega
 have MF:cl F w w7:=((y G).on m6 λb c=>.inl ((k3 b).2 (.inr c))).on m7 λb c=>.inl (by rw[c];exact h.self);refine C (λb=>b=s\/cv s6 b) w7 ⟨⟨s6,b7,o6.mod m7 λb c e=>B (by rw[<-e];exact c),λb=>Iff.rfl,B⟩,?_,?_⟩ MF λb c=>?_
 ·unfold jd;rw[List.length_append,List.length_take,List.length_cons,List.length_drop,Nat.min_eq_left Y];omega
 ·intro x u;unfold jd at u;rcases List.mem_append.1 u with u|u
  ·exact k6 x (List.mem_of_mem_take u)
  ·rcases List.mem_cons.1 u with rfl|u
   ·have:x.may=true/\x.buy=buy:=by
     constructor
     ·apply Classical.byContradiction;intro hc;exact d (.inl hc)
     ·apply Classical.byContradiction;intro hc;exact d (.inr hc)
    exact⟨this.1,this.2,hof⟩
   ·exact k6 x (List.mem_of_mem_drop u)
 ·rcases c with rfl|c
  ·exact .inl h.self
  ·rcases n6 b c with V|V
   ·exact .inl ((k3 b).2 (.inr V))
   ·have:=G.size;exact .inr (by omega)
end Go.Proofs
namespace Go.Proofs
open Go Go.Vc
def Mi:eO Tryz.prog 112 4 24=true:=by kernel_rfl
end Go.Proofs
namespace Go.Vc
open Go Go.Shelf Go.RowKit Go.Lib Go.Sort Go.Proofs
def uw{P:Program}(h:ni P=true){g:FuncId}(e:∃fn,P.funcs[g]? =some fn/\fn.body.isSome=true)(c:Array Value)(w:World):(callFunc g c).run P w=.ok (.enter g c) w:=by
 obtain⟨fn,f,e⟩:=e
 have d:(fn.name== "runtime.NumGoroutine")=false:=by
  have:=(Array.all_eq_true'.1 h) fn (Array.mem_of_getElem? f);simpa using this
 have a:¬fn.name= "runtime.NumGoroutine" :=by simpa using d
 have b:¬fn.body=none:=by intro i;rw[i]at e;exact absurd e (by simp)
 unfold callFunc;simp[Sem.run_bind,Result.andThen,f,a,b]
def qU{α:Type} [Inhabited α](enc:α->List Value)(k:Nat)(e:0<k)(a:∀x,(enc x).length=k)(d:Array α):(flatK enc k d).toList=d.toList.flatMap enc:=by
 have j:(d.toList.flatMap enc).length=d.size*k:=by rw[ky enc k _ λx _=>a x];simp
 apply List.ext_getElem?;intro t;by_cases b:t<d.size*k
 ·have h1:(flatK enc k d).toList[t]? =some (flatK enc k d)[t]! :=by
   rw[Array.getElem?_toList,Array.getElem?_eq_getElem (by simpa using b),getElem!_pos _ t (by simpa using b)]
  rw[h1,get_flatK enc k d t b];have f:t / k<d.size:=Nat.div_lt_of_lt_mul (by rw[Nat.mul_comm];exact b);have c:t%k<k:=Nat.mod_lt _ e;have g:=ji enc k d.toList (t / k) (λx _=>a x) (by simpa using f)
  have i:(d.toList.flatMap enc)[t]? =((d.toList.flatMap enc).drop (t / k*k) |>.take k)[t%k]? :=by
   rw[List.getElem?_take,if_pos c,List.getElem?_drop,Nat.div_add_mod']
  rw[i,g]
  have h:d[t / k]! =d.toList[t / k]'(by simpa using f):=by
   rw[getElem!_pos d _ f];simp
  rw[h,getElem!_pos _ _ (by rw[a];exact c),List.getElem?_eq_getElem (by rw[a];exact c)]
 ·rw[List.getElem?_eq_none (by simp;omega),List.getElem?_eq_none (by omega)]
def xL(F rest cs:List Value)(h:F.length=cs.length):putCells id 0 F.toArray (cs++rest).toArray=(F++rest).toArray:=by
 apply Array.ext_getElem?;intro t;simp only[putCells,Array.getElem?_mapIdx,List.getElem?_toArray,List.size_toArray,Nat.zero_le,true_and,Nat.zero_add,Nat.sub_zero,id];by_cases a:t<F.length
 ·rw[List.getElem?_append_left (by omega),List.getElem?_append_left a,List.getElem?_eq_getElem (show t<cs.length by omega),Option.map_some,if_pos a,List.getElem?_eq_getElem a];rw[getElem!_pos _ t (by simpa using a)];simp
 ·rw[List.getElem?_append_right (by omega),List.getElem?_append_right (by omega),h];cases rest[t - cs.length]? with
  |none=>rfl
  |some v=>rw[Option.map_some,if_neg (by omega)]
section
variable{P:Program}{ρ:Ren}{α:Type} [Inhabited α]
def yN(hP:ni P=true)(L:SlLaysF0.n6 P ρ)(k:Nat)(U:iD P (ρ.t 24)=true)(V:P.cellsOf (ρ.t 24)=k+1)(enc:α->List Value)(u:∀x,(enc x).length=k+1)(h1:∀x,(enc x).all (·.oneCell')=true)
  (A:α->α->Int)(X:SWO (ltOf A))(g:Nat)(D:∀(x y:α) (W:World),Ca P g #[.agg (enc x).toArray,.agg (enc y).toArray] W λv w' =>v=.int .i64 (A x y)/\∃q os,w' =grow (W.drewN q) os)
  {e:TypeId}{w:World}{sl:Value}{n:Nat}{d:List α}{K:cm}(S:d7 w e (k+1) sl n (d.flatMap enc))(hn:n<4611686018427387904)
  (R:∀(w' :World) (a:List α),d7 w' e (k+1) sl n (a.flatMap enc)->a.Perm d->a.Pairwise (λx y=>ltOf A y x=false)->cl (cv sl) w w' ->K (.tuple #[]) w'):
  Ca P (ρ.f 6) #[sl,.func (.func g) #[] #[]] w K:=by
 have c:d.length=n:=by
  have:=S.1;rw[ky enc (k+1) d λx _=>u x]at this;exact Nat.eq_of_mul_eq_mul_right (Nat.succ_pos k) this
 obtain⟨F,⟨rfl,rfl⟩|⟨b,p,rest,rfl,hc,G,hr,N⟩⟩:=S
 ·have T:d=[]:=List.length_eq_zero_iff.1 c;subst T;have:=AnyF.slices_SortFunc_none L none 0 (.func (.func g) #[] #[]) w;exact⟨Calls.mono this λe w' ⟨B,I⟩=>⟨_,B,by subst I;exact R _ [] (d7.nil ..) (List.Perm.refl _) List.Pairwise.nil (cl.refl _ _)⟩⟩
 ·have Q:b<w.heap.size:=cn G;have O:=uw hP (D default default w).bodied
  have hH:HoldsK enc (k+1) w b 0 d.toArray:=by
   intro j t;rw[size_flatK]at t
   have Z:(flatK enc (k+1) d.toArray)[j]! =(d.flatMap enc)[j]'(by rw[F,<-c];simpa using t):=by
    rw[getElem!_pos _ j (by rw[size_flatK];exact t),<-Array.getElem_toList];congr 1;exact qU enc (k+1) (Nat.succ_pos k) u d.toArray
   have J:j<(d.flatMap enc).length:=by rw[F,<-c];simpa using t
   constructor
   ·simp only[World.cell?,G,Nat.zero_add];rw[Z];simp[List.getElem?_append_left J]
   ·simp[World.frozen?,G]
  have C:CmpLays P g #[] enc (k+1) A b 0 d.toArray.size w:=λm os dk _ x y=>by
   refine Calls.mono (D x y _).out ?_;rintro e w' ⟨v,rfl,rfl,I⟩;exact⟨rfl,I⟩
  have o:=AnyQ.slices_SortFunc L (k+1) (rM U) (fY V) enc u (λx v hv=>List.all_eq_true.1 (h1 x) v hv) A X g #[] b 0 p d.toArray w O C hH Q (by simpa [c]using hn);rw[show d.toArray.size=n by simpa using c]at o;refine⟨Calls.mono o ?_⟩;rintro e' w' ⟨rfl,a,m,os,hp,hs,rfl⟩;refine⟨_,rfl,?_⟩;have r:a.size=n:=by rw[hp.1];simpa using c
  have M:(flatK enc (k+1) a).toList=a.toList.flatMap enc:=qU enc (k+1) (Nat.succ_pos k) u a;have E:flatK enc (k+1) a=(a.toList.flatMap enc).toArray:=by rw[<-M]
  have h:(a.toList.flatMap enc).length=(d.flatMap enc).length:=by
   rw[F,ky enc (k+1) _ λx _=>u x];simp[r]
  have f:∀l,l<w.heap.size->(sortWorldK enc (k+1) w b 0 m a os).heap[l]? =if l=b then some (.cells (a.toList.flatMap enc++rest).toArray e (0,0))else w.heap[l]? :=by
   intro l s;show((w.heap.modify b (onCells (putCells id 0 (flatK enc (k+1) a))))++os)[l]? =_;rw[Array.getElem?_append_left (by simpa using s),Array.getElem?_modify];by_cases B:l=b
   ·subst B;rw[if_pos rfl,if_pos rfl,G];simp only[Option.map_some,onCells];rw[E,xL _ _ _ h]
   ·rw[if_neg (λe=>B e.symm),if_neg B]
  have z:cl (cv (.slice (some ⟨b,0,none⟩) n p)) w (sortWorldK enc (k+1) w b 0 m a os):=by
   refine⟨?_,rfl,rfl,λl s hf=>?_⟩
   ·show w.heap.size<=((w.heap.modify b _)++os).size;simp
   ·rw[f l s,if_neg (λe=>hf (by subst e;rfl))]
  refine R _ a.toList ⟨by rw[h,F],.inr ⟨b,p,rest,rfl,hc,by rw[f b Q,if_pos rfl],hr,N⟩⟩ ?_ ?_ z
  ·have:=hp.2.2;have e1:a.extract 0 n=a:=by rw[<-r];simp
   have Y:d.toArray.extract 0 n=d.toArray:=by rw[<-c];simp
   rw[e1,Y]at this;simpa using this
  ·rw[List.pairwise_iff_getElem];intro i j hi t H;have:=hs i j (Nat.zero_le _) H (by rw[<-r];simpa using t);rw[getElem!_pos a i (by simpa using hi),getElem!_pos a j (by simpa using t)]at this;simpa using this
end
end Go.Vc
namespace Go.Proofs
open Go Go.Vc Go.Shelf Go.RowKit Go.Lib Go.Sort
def S3{p:Prop}(h:p:=by first|kernel_rfl|(intro _;kernel_rfl)):p:=h
def Tl{f:FuncId}{B:Func}(h:((Tryz.prog.funcs[f]?.elim "" (·.name))== "runtime.NumGoroutine")=false:=by kernel_rfl)(g:Tryz.prog.funcs[f]? =some {B with name:=Tryz.prog.funcs[f]?.elim "" (·.name)}:=by kernel_rfl):Bears Tryz.prog f B:=⟨_,h,g⟩
def Tryz.sortAc_ren:Ren:=⟨λ|6=>139|15=>230|14=>229|28=>283|29=>284|20=>275|21=>276|22=>277|23=>278|24=>279|25=>280|26=>281|27=>282|46=>313|47=>314|48=>315|49=>316|50=>317|57=>353|n=>n,λ|22=>44|24=>92|25=>241|3=>3|39=>249|0=>0|53=>35|55=>27|4=>4|46=>385|45=>384|50=>292|5=>5|9=>9|66=>421|70=>424|76=>453|77=>454|n=>n,λn=>n⟩
def Tryz.sortAc:SlLaysF0.n6 Tryz.prog Tryz.sortAc_ren:=by constructor<;>first|exact S3|exact Tl
def Tryz.sortPo_ren:Ren:=⟨λ|6=>233|15=>230|14=>285|28=>283|29=>284|20=>318|21=>319|22=>320|23=>321|24=>322|25=>323|26=>324|27=>325|46=>354|47=>314|48=>315|49=>355|50=>356|57=>370|n=>n,λ|22=>46|24=>112|25=>330|3=>3|39=>249|0=>0|53=>35|55=>27|4=>4|46=>385|45=>384|50=>292|5=>5|9=>9|66=>421|70=>424|76=>453|77=>454|n=>n,λn=>n⟩
def Tryz.sortPo:SlLaysF0.n6 Tryz.prog Tryz.sortPo_ren:=by constructor<;>first|exact S3|exact Tl
end Go.Proofs
namespace Go.Proofs
open Go Go.Vc Go.Sort
def nR(W:World)(o o' :Obj):∃q os,(W.alloc o).alloc o' =grow (W.drewN q) os:=
 ⟨0,#[o]++ #[o'],by rw[alloc_eq_grow,alloc_eq_grow,grow_grow];rfl⟩
def sy(x y:Ac):Int:=if x.num<y.num then -1 else 1
def qu(x y:Po):Int:=if nu x.key y.key then -1 else if x=y then 0 else 1
def FG(x y:Ac):ltOf sy x y=decide (x.num<y.num):=by
 unfold ltOf sy;split<;>simp_all
def Gn(x y:Po):ltOf qu x y=nu x.key y.key:=by
 unfold ltOf qu;cases h:nu x.key y.key
 ·by_cases a:x=y<;>simp[a]
 ·simp
def OW:SWO (ltOf sy) where
 irrefl x:=by rw[FG];simp
 trans x y z h1 h2:=by rw[FG]at*;simp at*;omega
 ntrans x y z h1 h2:=by rw[FG]at*;simp at*;omega
def PT:SWO (ltOf qu) where
 irrefl x:=by rw[Gn];exact wY
 trans x y z h1 h2:=by rw[Gn]at*;exact rr h1 h2
 ntrans x y z h1 h2:=by
  rw[Gn]at*;rw[Bool.eq_false_iff,Ne,iB]at*;omega
def E5(x y:Ac)(W:World):Ca Tryz.prog 140 #[.agg (cM x).toArray,.agg (cM y).toArray] W λv a=>v=.int .i64 (sy x y)/\∃q os,a=grow (W.drewN q) os:=by
 apply P9;simp[go_sem,cM];unfold sy;split
 ·exact⟨rfl,nR ..⟩
 ·exact⟨rfl,nR ..⟩
def GR(x y:Po)(W:World):Ca Tryz.prog 234 #[.agg (cL x).toArray,.agg (cL y).toArray] W λv n=>v=.int .i64 (qu x y)/\∃q os,n=grow (W.drewN q) os:=by
 apply NP;simp[go_sem,cL];generalize d:World.alloc _ _=e;have g:∃q os,e=grow (W.drewN q) os:=by subst d;exact nR ..
 have m:hp e W.heap.size=some (.cells #[.int .u32 x.c,.int .u32 x.a,.int .i64 x.q,.int .i64 x.b] 112 (0,0)):=by subst d;simp[go_sem]
 have k:hp e (W.heap.size+1)=some (.cells #[.int .u32 y.c,.int .u32 y.a,.int .i64 y.q,.int .i64 y.b] 112 (0,0)):=by subst d;simp[go_sem]
 refine cy.at (λs o=>s=(.bool (nu x.key y.key),())/\o=e) ?_ ?_
 ·simp[go_sem,cN m,cN k];unfold nu Po.key;by_cases h1:x.c<y.c
  ·simp[h1]
  ·by_cases f:x.c=y.c
   ·simp[h1,f]
   ·simp[h1,f]
 rintro _ e ⟨rfl,rfl⟩;unfold GN;intro _;cases i:nu x.key y.key
 ·simp[go_sem,cN m,cN k]
  have h:x=y↔x.c=y.c/\x.a=y.a/\x.q=y.q/\x.b=y.b:=by
   obtain⟨c,a,q,b⟩:=x;obtain⟨p,t,u,r⟩:=y;simp
  by_cases h1:x.c=y.c<;>by_cases f:x.a=y.a<;>by_cases l:x.q=y.q<;>by_cases j:x.b=y.b<;>simp[h1,f,l,j]<;>exact⟨by simp[qu,i,h,h1,f,l,j],g⟩
 ·simp;exact⟨by simp[qu,i],g⟩
def Pc:eO Tryz.prog 92 4 24=true:=by kernel_rfl
def Di{w:World}{sl:Value}{n:Nat}{d:List Ac}{K:cm}(b:d7 w 92 4 sl n (d.flatMap cM))(e:n<4611686018427387904)
  (c:∀(w' :World) (a:List Ac),d7 w' 92 4 sl n (a.flatMap cM)->a.Perm d->a.Pairwise (λx y=>ltOf sy y x=false)->cl (cv sl) w w' ->K (.tuple #[]) w'):
  Ca Tryz.prog 139 #[sl,.func (.func 140) #[] #[]] w K:=
 yN (P:=Tryz.prog) (α:=Ac) Tryz.noNum Tryz.sortAc 3 (by kernel_rfl) (by kernel_rfl) cM (λ_=>rfl) (λ_=>rfl) sy OW 140 E5 b e c
def Aq{y sl:Value}{b n:Nat}{T:TypeId}{xs:List Ac}(J:Nat->World->Prop)(I:World->Prop){W:World}{K:cm}(O:hp W b=some (.cells #[sl] T (0,0)))(z:d7 W 92 4 sl n (xs.flatMap cM))(hn:n<4611686018427387904)
  (N:J 0 W)(m:∀i W a,J i W->cl (λ_=>False) W a->J i a)
  (d:∀i x W,xs[i]? =some x->J i W->∀D:cm,(∀a,J (i+1) a->(∀b,cv sl b->a.heap[b]? =W.heap[b]?)->D (.bool true) a)->(∀a,I a->D (.bool false) a)->ew Tryz.prog y [ii x] W D)
  (g:∀W,J xs.length W->K (.tuple #[]) W)(B:∀W,I W->K (.tuple #[]) W):Ca Tryz.prog 231 #[y,.pointer (some ⟨b,0,none⟩)] W K:=by
 have w:xs.length=n:=by
  have:=z.1;rw[ky cM 4 xs λx _=>rfl]at this;omega
 obtain⟨sa,H,rfl,X⟩:=z.isSl;apply OD;simp[go_sem,cN O]
 refine jR (λs a=>∃i:Nat,i<=n/\s=(.int .i64 i,())/\J i a/\d7 a 92 4 (.slice sa n H) n (xs.flatMap cM))
  (λs _=>match s.1 with| .int _ i=>n - i.toNat|_=>0) ⟨0,by omega,rfl,N,z⟩ ?_
 rintro⟨_,_⟩ a ⟨i,hi,⟨⟩,F,E⟩ Y r;unfold ED;intro _;by_cases f:i<n
 ·obtain⟨M,v,u,p⟩:=d7.elem E f;obtain⟨rfl,-,rfl⟩:sa=some ⟨M,0,none⟩/\True/\H=v:=by injection u with U e2 V;exact⟨U,trivial,V⟩
  rw[ji cM 4 _ _ (λ_ _=>rfl) (by omega)]at p;obtain⟨C,e,Z,L,c⟩:=p.get;have k:=c 0 _ rfl;have q:=c 1 _ rfl;have j:=c 2 _ rfl;have l:=c 3 _ rfl;simp only[Nat.zero_add,Nat.add_zero]at k q j l;have A:IntKind.i64.wrap ((i:Int)+1)=((i+1:Nat):Int):=by rw[IntKind.wrap_i64];omega
  simp[-Int.natCast_add,go_sem,f,L,k,q,j,l];have R:xs[i]? =some xs[i]:=List.getElem?_eq_getElem (by omega);have G:∀o,cl (λ_=>False) a (a.alloc o):=λo=>(cl.refl _ a).alloc o;refine d i _ _ R (m _ _ _ F (G _)) _ (λS t P=>?_) (λS Q=>?_)
  ·simp[-Int.natCast_add,go_sem,A];refine r _ _ ⟨i+1,by omega,rfl,t,(E.mod (G _) λ_ _ h=>h).keep P⟩ (by simp;omega)
  ·simp[go_sem];exact B _ Q
 ·obtain rfl:i=n:=by omega
  simp[go_sem];exact g _ (w▸F)
def DJ{w:World}{sl:Value}{n:Nat}{d:List Po}{K:cm}(b:d7 w 112 4 sl n (d.flatMap cL))(e:n<4611686018427387904)
  (c:∀(w' :World) (a:List Po),d7 w' 112 4 sl n (a.flatMap cL)->a.Perm d->a.Pairwise (λx y=>ltOf qu y x=false)->cl (cv sl) w w' ->K (.tuple #[]) w'):
  Ca Tryz.prog 233 #[sl,.func (.func 234) #[] #[]] w K:=
 yN (P:=Tryz.prog) (α:=Po) Tryz.noNum Tryz.sortPo 3 (by kernel_rfl) (by kernel_rfl) cL (λ_=>rfl) (λ_=>rfl) qu PT 234 GR b e c
def Au{y sl:Value}{b n:Nat}{T:TypeId}{xs:List Po}(J:Nat->World->Prop)(I:World->Prop){W:World}{K:cm}(O:hp W b=some (.cells #[sl] T (0,0)))(z:d7 W 112 4 sl n (xs.flatMap cL))(hn:n<4611686018427387904)
  (N:J 0 W)(m:∀i W a,J i W->cl (λ_=>False) W a->J i a)
  (d:∀i x W,xs[i]? =some x->J i W->∀D:cm,(∀a,J (i+1) a->(∀b,cv sl b->a.heap[b]? =W.heap[b]?)->D (.bool true) a)->(∀a,I a->D (.bool false) a)->ew Tryz.prog y [lK x] W D)
  (g:∀W,J xs.length W->K (.tuple #[]) W)(B:∀W,I W->K (.tuple #[]) W):Ca Tryz.prog 286 #[y,.pointer (some ⟨b,0,none⟩)] W K:=by
 have w:xs.length=n:=by
  have:=z.1;rw[ky cL 4 xs λx _=>rfl]at this;omega
 obtain⟨sa,H,rfl,X⟩:=z.isSl;apply PQ;simp[go_sem,cN O]
 refine jR (λs a=>∃i:Nat,i<=n/\s=(.int .i64 i,())/\J i a/\d7 a 112 4 (.slice sa n H) n (xs.flatMap cL))
  (λs _=>match s.1 with| .int _ i=>n - i.toNat|_=>0) ⟨0,by omega,rfl,N,z⟩ ?_
 rintro⟨_,_⟩ a ⟨i,hi,⟨⟩,F,E⟩ Y r;unfold Gx;intro _;by_cases f:i<n
 ·obtain⟨M,v,u,p⟩:=d7.elem E f;obtain⟨rfl,-,rfl⟩:sa=some ⟨M,0,none⟩/\True/\H=v:=by injection u with U e2 V;exact⟨U,trivial,V⟩
  rw[ji cL 4 _ _ (λ_ _=>rfl) (by omega)]at p;obtain⟨C,e,Z,L,c⟩:=p.get;have k:=c 0 _ rfl;have q:=c 1 _ rfl;have j:=c 2 _ rfl;have l:=c 3 _ rfl;simp only[Nat.zero_add,Nat.add_zero]at k q j l;have A:IntKind.i64.wrap ((i:Int)+1)=((i+1:Nat):Int):=by rw[IntKind.wrap_i64];omega
  simp[-Int.natCast_add,go_sem,f,L,k,q,j,l];have R:xs[i]? =some xs[i]:=List.getElem?_eq_getElem (by omega);have G:∀o,cl (λ_=>False) a (a.alloc o):=λo=>(cl.refl _ a).alloc o;refine d i _ _ R (m _ _ _ F (G _)) _ (λS t P=>?_) (λS Q=>?_)
  ·simp[-Int.natCast_add,go_sem,A];refine r _ _ ⟨i+1,by omega,rfl,t,(E.mod (G _) λ_ _ h=>h).keep P⟩ (by simp;omega)
  ·simp[go_sem];exact B _ Q
 ·obtain rfl:i=n:=by omega
  simp[go_sem];exact g _ (w▸F)
end Go.Proofs
