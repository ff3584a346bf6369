/- Part of a proof. -/
import Derived.Test.YtgebhcgmckjbbaaGreatP9
set_option linter.all false
namespace Go.Proofs
open Go Go.Vc
attribute [local congr] cq
def nP(sT sG:Value)(f l:Int):Array Value:=#[sT,sG,.int .i64 f,.int .i64 l]
def CE{W:World}{p:Nat}{a c e d:Value}{i:Nat}{v:Value}(h:hp W p=some (.cells #[a,c,e,d] 235 (0,0)))(hi:i<4):
  hp (W.setCell ⟨p,i,none⟩ v) p=some (.cells ((#[a,c,e,d]:Array Value).setIfInBounds i v) 235 (0,0))/\cl (λb=>b=p) W (W.setCell ⟨p,i,none⟩ v):=
 ⟨by simp[go_sem,h],(cl.refl (λb=>b=p) W).setCell (.inl rfl) _ _⟩
structure Mg(w0:World)(b:Nat)(s:Bool->Nat)(G:Bool->Nat->Prop)(B:Bk)(o:Od)(p q:Nat)(W:World)(left:Int)(L:List Od)(t:List Td)(g:List Int)(f:Int):Prop where
 od:hp W p=some (.cells (da {o with left:=left}).toArray iq (0,0))
 mem:∃G' sT sG,ik W b s (fG G (!o.buy) G') (B.set (!o.buy) L)/\(∀x,G' x->G (!o.buy) x\/(w0.heap.size<=x/\x≠p/\x≠q))/\
  hp W q=some (.cells #[sT,sG,.int .i64 f,.int .i64 0] 235 (0,0))/\IR W sT sG t g/\(∀x,cv sT x\/cv sG x->w0.heap.size<=x/\x≠p/\x≠q/\¬G' x)
 md:cl (G (!o.buy)) w0 W
 eq:dY o o.left (B (!o.buy))=sZ t g f (dY o left L)
 lf:0<=left/\left<=1000000/\f+left=o.left/\0<=f
 len:t.length+g.length<=101/\(0<left->t.length+g.length+L.length<=100)
def Ba(b:Od)(r:List Od):qi (b::r) b.num=r:=by
 unfold qi;rw[List.eraseP_cons_of_pos (by simp)]
def DN{o b:Od}{r:List Od}{left:Int}{t:List Td}{g:List Int}{f:Int}(h1:0<left)(a:ec o b.price=true)(c:b.acct=o.acct):
  sZ t g f (dY o left (b::r))=sZ t (g++[b.num]) f (dY o left r):=by
 conv=>lhs;unfold dY
 rw[if_neg (by rw[a];simp;omega),if_pos c];simp[sZ]
def Dp{o b:Od}{r:List Od}{left:Int}{t:List Td}{g:List Int}{f:Int}(h1:0<left)(a:ec o b.price=true)(d:b.acct≠o.acct)(c:left<b.left):
  sZ t g f (dY o left (b::r))=sZ (t++[⟨b.price,left,b.num,b.acct⟩]) g (f+left) (dY o 0 ({b with left:=b.left - left}::r)):=by
 conv=>lhs;unfold dY
 rw[if_neg (by rw[a];simp;omega),if_neg d,if_pos c,mK (.inl (Int.le_refl 0))];simp[sZ]
def Dl{o b:Od}{r:List Od}{left:Int}{t:List Td}{g:List Int}{f:Int}(h1:0<left)(a:ec o b.price=true)(d:b.acct≠o.acct)(c:¬left<b.left):
  sZ t g f (dY o left (b::r))=sZ (t++[⟨b.price,b.left,b.num,b.acct⟩]) g (f+b.left) (dY o (left - b.left) r):=by
 conv=>lhs;unfold dY
 rw[if_neg (by rw[a];simp;omega),if_neg d,if_neg c];simp[sZ,Int.add_assoc]
def GB(W:World)(p:Nat):Int:=match hp W p with|some (.cells c _ _)=>(match (c[4]? :Option Value)with|some (.int _ x)=>x|_=>0)|_=>0
def KL(W:World)(p:Nat):Nat:=match hp W p with|some (.cells c _ _)=>(match (c[2]? :Option Value)with|some (.slice _ n _)=>n|_=>0)|_=>0
def Ry(W:World)(p sd:Nat):Nat:=2*KL W sd+(if 0<GB W p then 1 else 0)
def Mg.m{w0:World}{b:Nat}{s:Bool->Nat}{G:Bool->Nat->Prop}{B:Bk}{o:Od}{p q:Nat}{W:World}{left:Int}{L:List Od}{t:List Td}{g:List Int}{f:Int}(h:Mg w0 b s G B o p q W left L t g f):
  Ry W p (s (!o.buy))=2*L.length+(if 0<left then 1 else 0):=by
 obtain⟨k,l,m,j,-⟩:=h.mem;have e:=j.sd (!o.buy);rw[Bk.set_self]at e;obtain⟨⟨sl,h1,i,-⟩,-⟩:=e;obtain⟨a,c,d,-⟩:=i.isSl;unfold Ry KL GB;rw[h1,h.od,d];rfl
set_option maxRecDepth 10000 in
set_option maxHeartbeats 1000000 in
def JI{w:World}{K:cm}{b:Nat}{B:Bk}{s:Bool->Nat}{G:Bool->Nat->Prop}{o:Od}{rests:Bool}(h:ik w b s G B)(hof:o.Fit)(hmay:o.may=true)
  (hK:∀D A C J,ik J b s D (fj B o rests).1->IR J A C (fj B o rests).2.trades (fj B o rests).2.gone->cl (λx=>G true x\/G false x) w J->(∀d x,D d x->G d x\/w.heap.size<=x)->
   (∀x,cv A x\/cv C x->w.heap.size<=x/\∀d,¬D d x)->K (.agg (nP A C (fj B o rests).2.filled (fj B o rests).2.left)) J):Ca Tryz.prog 228 #[eY b,g9 o,.bool rests] w K:=by
 have hol:=Od.left_bd hmay;apply PL;obtain⟨w1,e1,b1,m1⟩:=qB o w;refine ck e1 ?_;obtain⟨p,hp0⟩:∃p,p=w.heap.size:=⟨_,rfl⟩
 rw[<-hp0]at b1|-;obtain⟨q,hq0⟩:∃q,q=w1.heap.size:=⟨_,rfl⟩
 have hpq:p<q:=by have:=cn b1;omega
 have m2:cl (λ_=>False) w1 (w1.alloc (.cells #[.slice none 0 0,.slice none 0 0,.int .i64 0,.int .i64 0] 235)):=(cl.refl _ w1).alloc _;refine ck (v:=.pointer (some ⟨q,0,none⟩)) (w' :=w1.alloc (.cells #[.slice none 0 0,.slice none 0 0,.int .i64 0,.int .i64 0] 235)) (by rw[hq0];simp[go_sem]) ?_;have b2:hp (w1.alloc (.cells #[.slice none 0 0,.slice none 0 0,.int .i64 0,.int .i64 0] 235)) q=some (.cells #[.slice none 0 0,.slice none 0 0,.int .i64 0,.int .i64 0] 235 (0,0)):=by rw[hq0];simp[go_sem]
 generalize w1.alloc (.cells #[.slice none 0 0,.slice none 0 0,.int .i64 0,.int .i64 0] 235)=w2 at m2 b2|-;have c1:=m2.hpk b1 id;have M2:=m1.trans m2;have c1' :=c1;unfold da at c1';refine ck (by simp[-Int.natCast_add,go_sem,c1']<;>first|exact⟨rfl,rfl⟩|exact rfl) ?_;refine ck (by simp[-Int.natCast_add,go_sem,c1']<;>first|exact⟨rfl,rfl⟩|exact rfl) ?_;have h2:=h.mod M2 id λ_ _ _ h=>h;refine uY (s:=s) h2.blk ?_;have md:cl (λ_=>False) w2 w2.drew:=(cl.refl _ w2).drew;have M3:=M2.trans md;have h3:=h2.mod md id λ_ _ _ h=>h;have d1:=md.hpk c1 id;have d2:=md.hpk b2 id;generalize w2.drew=w3 at M3 h3 d1 d2|-;refine ck (v:=cQ (s o.buy)) (w' :=w3) (by simp[go_sem]) ?_;refine ck (v:=cQ (s !o.buy)) (w' :=w3) (by simp[go_sem]) ?_;have hlen:=(h.sd (!o.buy)).len;have m:∀d x,G d x->x<p:=λd x c=>by rw[hp0];exact h.lt c
 have hbp:b<p:=by rw[hp0];exact cn h.blk
 have hspl:∀d,s d<p:=λd=>m d _ ((h.sd d).self);have hu:fG G (!o.buy) (G !o.buy)=G:=by funext x;unfold fG;by_cases h:x= !o.buy<;>simp[h]
 have I0:Mg w b s G B o p q w3 o.left (B !o.buy) [] [] 0:=by
  refine⟨d1,⟨G !o.buy,.slice none 0 0,.slice none 0 0,?_,λx c=>.inl c,d2,⟨d7.nil _ _ _,d7.nil _ _ _,λx c=>by cases c⟩,λx c=>by rcases c with c|c<;>cases c⟩,M3.mono λ_ _ h=>h.elim,?_,by omega,by simp,λ_=>by simpa using hlen⟩
  ·rw[hu,Bk.set_same];exact h3
  ·unfold sZ;simp
 refine cy.at (λ_ W=>∃left L t g f,Mg w b s G B o p q W left L t g f/\dY o left L=(left,L,[],[],0)) ?_ ?_
 ·refine dp (λ_ W=>∃left L t g f,Mg w b s G B o p q W left L t g f) (λ_ W=>Ry W p (s !o.buy)) ⟨_,_,_,_,_,I0⟩ ?_;rintro _ W ⟨left,L,t,g,f,hI⟩ KN hKN;have hm:=hI.m;obtain⟨i1,⟨D,A,C,i2,i3,i4,i5,l⟩,i7,i8,i9,i10⟩:=id hI;have hs:=i2.sd (!o.buy);rw[Bk.set_self,eF]at hs
  have hGx:∀d x,fG G (!o.buy) D d x->x≠p/\x≠q:=λd x c=>by
   by_cases N:d= !o.buy
   ·subst N;rw[eF]at c;rcases i3 x c with j|j
    ·have:=m _ x j;omega
    ·exact j.2
   ·unfold fG at c;rw[if_neg N]at c;have:=m _ x c;omega
  have hG'x:∀x,D x->x≠p/\x≠q:=λx c=>hGx (!o.buy) x (by rw[eF];exact c);unfold H7;intro _;have P:=i1;unfold da at P;refine ck (by simp[-Int.natCast_add,go_sem,P]<;>first|exact⟨rfl,rfl⟩|exact rfl) ?_;refine ck (by simp[-Int.natCast_add,go_sem,P]<;>first|exact⟨rfl,rfl⟩|exact rfl) ?_;by_cases z:0<left
  ·refine ck (v:=.bool true) (by simp[go_sem,z]<;>first|exact⟨rfl,rfl⟩|exact rfl) ?_;rw[ci,if_pos rfl];refine Gm hs λw4 m4=>?_;have i4a:=m4.hpk i1 id;have i4b:=m4.hpk i4 id;refine ck (v:=g9 (L.head?.getD fH)) (w' :=w4) (by simp[go_sem]) ?_;refine ck (v:=.bool L.head?.isSome) (w' :=w4) (by simp[go_sem]) ?_;obtain⟨w5,e5,b5,m5⟩:=iR w4;refine ck e5 ?_;obtain⟨r0,hr0⟩:∃r0,r0=w4.heap.size:=⟨_,rfl⟩
   rw[<-hr0]at b5|-;obtain⟨w6,e6,b6,m6⟩:=gA (o' :=L.head?.getD fH) b5;refine dt e6 ?_;have M46:cl (λ_=>False) w4 w6:=m5.on m6 λb k=>.inr (by omega);have M6:cl (λ_=>False) W w6:=m4.trans M46;have hqr:q<r0:=by have:=cn i4b;omega
   have i6a:=M46.hpk i4a id;have i6b:=M46.hpk i4b id;have hWr:W.heap.size<=r0:=by have:=m4.size;omega
   refine cy.at (λst S=>st=(.bool (decide (L.head? =none\/ec o (L.head?.getD fH).price=false)),())/\cl (λ_=>False) w6 S) ?_ ?_
   ·cases L with
    |nil=>
     refine ck (v:=.bool true) (by simp[go_sem]<;>first|exact⟨rfl,rfl⟩|exact rfl) ?_;rw[ci,if_pos rfl];exact⟨by simp,cl.refl _ _⟩
    |cons x r=>
     refine ck (v:=.bool false) (by simp[go_sem]<;>first|exact⟨rfl,rfl⟩|exact rfl) ?_;rw[ci,if_neg Bool.false_ne_true];refine ck (gL (o:={o with left:=left}) (At.all i6a)) ?_;have b6' :=b6;unfold da at b6';refine ck (by simp[-Int.natCast_add,go_sem,b6']<;>first|exact⟨rfl,rfl⟩|exact rfl) ?_;refine ck (by simp[-Int.natCast_add,go_sem,b6']<;>first|exact⟨rfl,rfl⟩|exact rfl) ?_;refine Bq (o:={o with left:=left}) (price:=x.price) λw7 m7=>?_;rw[yY];refine ck (v:=.bool (!ec o x.price)) (w' :=w7) (by simp[go_sem]) ?_;refine⟨?_,m7⟩;simp only[List.head?_cons,Option.getD_some];rcases Bool.eq_false_or_eq_true (ec o x.price)with hc|hc<;>simp[hc]
   rintro _ w7 ⟨rfl,m7⟩;unfold Fz;intro _;have M7:=M6.trans m7;have k1:=m7.hpk i6a id;have k2:=m7.hpk i6b id;have k3:=m7.hpk b6 id;by_cases H:L.head? =none\/ec o (L.head?.getD fH).price=false
   ·rw[ci,if_pos (by simpa using H)];refine⟨left,L,t,g,f,⟨k1,⟨D,A,C,i2.mod M7 id λ_ _ _ h=>h,i3,k2,i5.mod M7 (λ_ _ h=>h) λ_ _ h=>h,l⟩,i7.trans (M7.mono λ_ _ h=>h.elim),i8,i9,i10⟩,?_⟩;refine mK (.inr ?_);cases L with
    |nil=>exact .inl rfl
    |cons x r=>
     refine .inr ⟨x,r,rfl,?_⟩;rcases H with j|j
     ·cases j
     ·exact j
   rw[ci,if_neg (by simpa using H)];cases L with
   |nil=>exact absurd (.inl rfl) H
   |cons x r=>
   have hcr:ec o x.price=true:=by
    cases hc:ec o x.price with
    |true=>rfl
    |false=>exact absurd (.inr hc) H
   have hxb:=hs.may x (by simp);have hxl:=Od.left_bd hxb.1;replace i10:=i10.2 z;simp only[List.length_cons]at i10;simp only[List.head?_cons,Option.getD_some]at k3;have M:=k3;unfold da at M;have Y:=k1;unfold da at Y;have hs7:=hs.mod M7 λ_ _ h=>h;have i27:=i2.mod M7 id λ_ _ _ h=>h;have p7:=i5.mod M7 (λ_ _ h=>h) λ_ _ h=>h;have MW:cl (G (!o.buy)) w w7:=i7.trans (M7.mono λ_ _ h=>h.elim);have hsz:=i7.size;have hqW:q<W.heap.size:=cn i4;have hsz7:=M7.size
   have U:∀x,cv A x\/cv C x->x<W.heap.size:=λx c=>by
    rcases c with c|c
    ·exact i5.tr.lt c
    ·exact i5.go.lt c
   refine ck (by simp[-Int.natCast_add,go_sem,M]<;>first|exact⟨rfl,rfl⟩|exact rfl) ?_;refine ck (by simp[-Int.natCast_add,go_sem,M]<;>first|exact⟨rfl,rfl⟩|exact rfl) ?_;refine ck (by simp[-Int.natCast_add,go_sem,Y]<;>first|exact⟨rfl,rfl⟩|exact rfl) ?_;refine ck (by simp[-Int.natCast_add,go_sem,Y]<;>first|exact⟨rfl,rfl⟩|exact rfl) ?_;by_cases hac:x.acct=o.acct
   ·refine ck (v:=.bool true) (by simp[go_sem,hac]<;>first|exact⟨rfl,rfl⟩|exact rfl) ?_;rw[ci,if_pos rfl];refine ck (by simp[-Int.natCast_add,go_sem,M]<;>first|exact⟨rfl,rfl⟩|exact rfl) ?_;refine ck (by simp[-Int.natCast_add,go_sem,M]<;>first|exact⟨rfl,rfl⟩|exact rfl) ?_;refine Hm hs7 λO w8 q8 T n8=>?_;rw[Ba]at q8;have u8:=ik.upd (d:= !o.buy) i27 (by rw[eF];exact T) q8 (by rw[eF];exact n8)
    have R:∀y,y=p\/y=q\/y=r0->¬D y:=λy a u=>by
     have h1:=hG'x y u;rcases a with rfl|rfl|rfl
     ·exact h1.1 rfl
     ·exact h1.2 rfl
     ·have:=hs.lt u;omega
    have j1:=T.hpk k1 (R p (.inl rfl));have j2:=T.hpk k2 (R q (.inr (.inl rfl)));have j3:=T.hpk M (R r0 (.inr (.inr rfl)));have p8:=p7.mod T (λy a=>(l y (.inl a)).2.2.2) λy a=>(l y (.inr a)).2.2.2;refine ck (by simp[-Int.natCast_add,go_sem,j2]<;>first|exact⟨rfl,rfl⟩|exact rfl) ?_;refine ck (by simp[-Int.natCast_add,go_sem,j2]<;>first|exact⟨rfl,rfl⟩|exact rfl) ?_;refine ck (by simp[-Int.natCast_add,go_sem,j3]<;>first|exact⟨rfl,rfl⟩|exact rfl) ?_;refine ck (by simp[-Int.natCast_add,go_sem,j3]<;>first|exact⟨rfl,rfl⟩|exact rfl) ?_;refine Eg (x:=x.num) (f:=Ip) PV (cK Sq) (λ_=>rfl) Em rfl p8.go (by omega) (by omega) λX w9 o9 m9 n9=>?_;have hq9:¬cv C q:=λk=>(l q (.inr k)).2.2.1 rfl;have hp9:¬cv C p:=λk=>(l p (.inr k)).2.1 rfl;have j1' :=m9.hpk j1 hp9;have j2' :=m9.hpk j2 hq9;obtain⟨ga,gc,hsG',-⟩:=o9.isSl;refine ck (by simp[-Int.natCast_add,go_sem,j2']<;>first|exact⟨rfl,rfl⟩|exact rfl) ?_;obtain⟨j4,m10⟩:=CE (i:=1) (v:=X) j2' (by omega);refine dt (w' :=w9.setCell ⟨q,1,none⟩ X) (by rw[hsG'];simp[go_sem,j2']) ?_;have hw8:=T.size;have hw9:=m9.size
    have hnew9:∀y,cv X y->w.heap.size<=y/\y≠p/\y≠q:=λy a=>by
     rcases n9 y a with j|j
     ·have:=l y (.inr j);exact⟨this.1,this.2.1,this.2.2.1⟩
     ·exact⟨by omega,by omega,by omega⟩
    have V:∀y,O y->G (!o.buy) y\/(w.heap.size<=y/\y≠p/\y≠q):=λy a=>by
     rcases n8 y a with j|j
     ·exact i3 y j
     ·exact .inr ⟨by omega,by omega,by omega⟩
    have E:∀y,cv A y\/cv C y->¬O y:=λy a u=>by
     rcases n8 y u with j|j
     ·exact(l y a).2.2.2 j
     ·have:=U y a;omega
    have F:∀d y,fG (fG G (!o.buy) D) (!o.buy) O d y->y≠q/\¬cv C y:=λd y a=>by
     by_cases N:d= !o.buy
     ·subst N;rw[eF]at a;refine⟨?_,λk=>E y (.inr k) a⟩;rcases V y a with j|j
      ·have:=m _ y j;omega
      ·exact j.2.2
     ·unfold fG at a;rw[if_neg N,if_neg N]at a;have:=m _ y a;exact⟨by omega,λk=>by have:=(l y (.inr k)).1;omega⟩
    have e2:fG (fG G (!o.buy) D) (!o.buy) O=fG G (!o.buy) O:=by funext x;unfold fG;by_cases h:x= !o.buy<;>simp[h]
    have e3:(B.set (!o.buy) (x::r)).set (!o.buy) r=B.set (!o.buy) r:=by funext x;unfold Bk.set;by_cases h:x= !o.buy<;>simp[h]
    have u9:=(u8.mod m9 (λk=>by have:=(l b (.inr k)).1;omega) λd y a=>(F d y a).2).mod m10 (by omega) λd y a=>(F d y a).1;rw[e2,e3]at u9
    have MW10:cl (G (!o.buy)) w (w9.setCell ⟨q,1,none⟩ X):=
     ((MW.on T λy a=>(i3 y a).elim .inl λj=>.inr j.1).on m9 λy a=>.inr (l y (.inr a)).1).on m10 λy a=>.inr (by omega)
    have hI' :Mg w b s G B o p q (w9.setCell ⟨q,1,none⟩ X) left r t (g++[x.num]) f:=by
     refine⟨m10.hpk j1' (by omega),⟨O,A,X,u9,V,by simpa using j4,⟨(p8.tr.mod m9 λy a Q=>p8.dj y a Q).mod m10 λy a e=>(l y (.inl a)).2.2.1 e,o9.mod m10 λy a e=>(hnew9 y a).2.2 e,λy a Q=>?_⟩,λy a=>?_⟩,MW10,?_,i9,by simp;omega,λ_=>by simp;omega⟩
     ·rcases n9 y Q with j|j
      ·exact p8.dj y a j
      ·have:=U y (.inl a);omega
     ·rcases a with a|a
      ·have:=l y (.inl a);exact⟨this.1,this.2.1,this.2.2.1,E y (.inl a)⟩
      ·have h1:=hnew9 y a;refine⟨h1.1,h1.2.1,h1.2.2,λu=>?_⟩;rcases n9 y a with j|j
       ·exact E y (.inr j) u
       ·have:=q8.lt u;omega
     ·rw[i8,DN z hcr hac]
    refine hKN _ _ ⟨_,_,_,_,_,hI'⟩ ?_;rw[hI'.m,hm];simp only[List.length_cons];split<;>omega
   ·refine ck (v:=.bool false) (by simp[go_sem,hac]<;>first|exact⟨rfl,rfl⟩|exact rfl) ?_;rw[ci,if_neg Bool.false_ne_true];obtain⟨n,hn⟩:∃n:Int,n=if left<x.left then left else x.left:=⟨_,rfl⟩
    have hn1:1<=n/\n<=x.left/\n<=left:=by rw[hn];split<;>omega
    refine ck (by simp[-Int.natCast_add,go_sem,Y]<;>first|exact⟨rfl,rfl⟩|exact rfl) ?_;refine ck (by simp[-Int.natCast_add,go_sem,Y]<;>first|exact⟨rfl,rfl⟩|exact rfl) ?_;refine ck (by simp[-Int.natCast_add,go_sem,M]<;>first|exact⟨rfl,rfl⟩|exact rfl) ?_;refine ck (by simp[-Int.natCast_add,go_sem,M]<;>first|exact⟨rfl,rfl⟩|exact rfl) ?_;refine fI (v:=.int .i64 n) (w' :=w7) (by rw[hn];simp[go_sem];split<;>omega) ?_;refine Ge hs7 hn1.1 hn1.2.1 λO w8 q8 T n8=>?_;have u8:=ik.upd (d:= !o.buy) i27 (by rw[eF];exact T) q8 (by rw[eF];exact n8)
    have R:∀y,y=p\/y=q\/y=r0->¬D y:=λy a u=>by
     have h1:=hG'x y u;rcases a with rfl|rfl|rfl
     ·exact h1.1 rfl
     ·exact h1.2 rfl
     ·have:=hs.lt u;omega
    have j1:=T.hpk Y (R p (.inl rfl));have j2:=T.hpk k2 (R q (.inr (.inl rfl)));have j3:=T.hpk M (R r0 (.inr (.inr rfl)));have p8:=p7.mod T (λy a=>(l y (.inl a)).2.2.2) λy a=>(l y (.inr a)).2.2.2;have hw8:=T.size;refine ck (by simp[-Int.natCast_add,go_sem,j1]<;>first|exact⟨rfl,rfl⟩|exact rfl) ?_;refine ck (by simp[-Int.natCast_add,go_sem,j1]<;>first|exact⟨rfl,rfl⟩|exact rfl) ?_;refine ck (v:=.int .i64 (left - n)) (w' :=w8) (by simp[go_sem];rw[cS (by omega) (by omega)]) ?_;refine ck (by simp[-Int.natCast_add,go_sem,j1]<;>first|exact⟨rfl,rfl⟩|exact rfl) ?_;refine dt (w' :=w8.setCell ⟨p,4,none⟩ (.int .i64 (left - n))) (by simp[go_sem,j1]) ?_;have ma:cl (λb=>b=p) w8 (w8.setCell ⟨p,4,none⟩ (.int .i64 (left - n))):=(cl.refl (λb=>b=p) w8).setCell (.inl rfl) _ _;have ja:hp (w8.setCell ⟨p,4,none⟩ (.int .i64 (left - n))) p=some (.cells (da {o with left:=left - n}).toArray iq (0,0)):=by simp[go_sem,j1,da]
    have jb:=ma.hpk j2 (by omega);have jc:=ma.hpk j3 (by omega);generalize w8.setCell ⟨p,4,none⟩ (.int .i64 (left - n))=wa at ma ja jb jc|-;refine ck (by simp[-Int.natCast_add,go_sem,jb]<;>first|exact⟨rfl,rfl⟩|exact rfl) ?_;refine ck (by simp[-Int.natCast_add,go_sem,jb]<;>first|exact⟨rfl,rfl⟩|exact rfl) ?_;refine ck (v:=.int .i64 (f+n)) (w' :=wa) (by simp[go_sem];rw[cS (by omega) (by omega)]) ?_;refine ck (by simp[-Int.natCast_add,go_sem,jb]<;>first|exact⟨rfl,rfl⟩|exact rfl) ?_;refine dt (w' :=wa.setCell ⟨q,2,none⟩ (.int .i64 (f+n))) (by simp[go_sem,jb]) ?_;obtain⟨kb,mb⟩:=CE (i:=2) (v:=.int .i64 (f+n)) jb (by omega);have kb' :hp (wa.setCell ⟨q,2,none⟩ (.int .i64 (f+n))) q=some (.cells #[A,C,.int .i64 (f+n),.int .i64 0] 235 (0,0)):=by simpa using kb
    have ka:=mb.hpk ja (by omega);have kc:=mb.hpk jc (by omega);generalize wa.setCell ⟨q,2,none⟩ (.int .i64 (f+n))=wb at mb kb' ka kc|-;have mab:cl (λy=>y=p\/y=q) w8 wb:=(ma.mono λy _ h=>.inl h).trans (mb.mono λy _ h=>.inr h)
    have hpl:∀y,cv A y\/cv C y->¬(y=p\/y=q):=λy a e=>by
     have:=l y a;rcases e with e|e
     ·exact this.2.1 e
     ·exact this.2.2.1 e
    have pb:=p8.mod mab (λy a=>hpl y (.inl a)) λy a=>hpl y (.inr a);have hsb:=mab.size;refine ck (by simp[-Int.natCast_add,go_sem,kb']<;>first|exact⟨rfl,rfl⟩|exact rfl) ?_;refine ck (by simp[-Int.natCast_add,go_sem,kb']<;>first|exact⟨rfl,rfl⟩|exact rfl) ?_;refine ck (by simp[-Int.natCast_add,go_sem,kc]<;>first|exact⟨rfl,rfl⟩|exact rfl) ?_;refine ck (by simp[-Int.natCast_add,go_sem,kc]<;>first|exact⟨rfl,rfl⟩|exact rfl) ?_;refine ck (by simp[-Int.natCast_add,go_sem,kc]<;>first|exact⟨rfl,rfl⟩|exact rfl) ?_;refine ck (by simp[-Int.natCast_add,go_sem,kc]<;>first|exact⟨rfl,rfl⟩|exact rfl) ?_;refine ck (by simp[-Int.natCast_add,go_sem,kc]<;>first|exact⟨rfl,rfl⟩|exact rfl) ?_;refine ck (by simp[-Int.natCast_add,go_sem,kc]<;>first|exact⟨rfl,rfl⟩|exact rfl) ?_;refine ck (v:=.agg (Nb ⟨x.price,n,x.num,x.acct⟩).toArray) (w' :=wb) (by simp[go_sem,Nb]) ?_;refine Eg (x:=(⟨x.price,n,x.num,x.acct⟩:Td)) (f:=Nb) RY (cK Tt) (λ_=>rfl) J1 rfl pb.tr (by omega) (by omega) λZ wc oc mc nc=>?_;have hqc:¬cv A q:=λk=>(l q (.inl k)).2.2.1 rfl;have hpc:¬cv A p:=λk=>(l p (.inl k)).2.1 rfl;have la:=mc.hpk ka hpc;have lb:=mc.hpk kb' hqc;have hsc:=mc.size;obtain⟨ga,gc,hsT',-⟩:=oc.isSl;refine ck (by simp[-Int.natCast_add,go_sem,lb]<;>first|exact⟨rfl,rfl⟩|exact rfl) ?_;obtain⟨ld,mdd⟩:=CE (i:=0) (v:=Z) lb (by omega);refine dt (w' :=wc.setCell ⟨q,0,none⟩ Z) (by rw[hsT'];simp[go_sem,lb]) ?_
    have hnewc:∀y,cv Z y->w.heap.size<=y/\y≠p/\y≠q:=λy a=>by
     rcases nc y a with j|j
     ·have:=l y (.inl j);exact⟨this.1,this.2.1,this.2.2.1⟩
     ·exact⟨by omega,by omega,by omega⟩
    have V:∀y,O y->G (!o.buy) y\/(w.heap.size<=y/\y≠p/\y≠q):=λy a=>by
     rcases n8 y a with j|j
     ·exact i3 y j
     ·exact .inr ⟨by omega,by omega,by omega⟩
    have E:∀y,cv A y\/cv C y->¬O y:=λy a u=>by
     rcases n8 y u with j|j
     ·exact(l y a).2.2.2 j
     ·have:=U y a;omega
    have F:∀d y,fG (fG G (!o.buy) D) (!o.buy) O d y->y≠p/\y≠q/\¬cv A y:=λd y a=>by
     by_cases N:d= !o.buy
     ·subst N;rw[eF]at a;refine⟨?_,?_,λk=>E y (.inl k) a⟩
      ·rcases V y a with j|j
       ·have:=m _ y j;omega
       ·exact j.2.1
      ·rcases V y a with j|j
       ·have:=m _ y j;omega
       ·exact j.2.2
     ·unfold fG at a;rw[if_neg N,if_neg N]at a;have:=m _ y a;exact⟨by omega,by omega,λk=>by have:=(l y (.inl k)).1;omega⟩
    have e2:fG (fG G (!o.buy) D) (!o.buy) O=fG G (!o.buy) O:=by funext x;unfold fG;by_cases h:x= !o.buy<;>simp[h]
    have e3:(B.set (!o.buy) (x::r)).set (!o.buy) (fP (x::r) n)=B.set (!o.buy) (fP (x::r) n):=by funext x;unfold Bk.set;by_cases h:x= !o.buy<;>simp[h]
    have u9:=((u8.mod mab (λk=>by rcases k with k|k<;>omega) λd y a k=>by rcases k with k|k;exact(F d y a).1 k;exact(F d y a).2.1 k).mod mc (λk=>by have:=(l b (.inl k)).1;omega) λd y a=>(F d y a).2.2).mod mdd (by omega) λd y a=>(F d y a).2.1;rw[e2,e3]at u9
    have MW10:cl (G (!o.buy)) w (wc.setCell ⟨q,0,none⟩ Z):=
     (((MW.on T λy a=>(i3 y a).elim .inl λj=>.inr j.1).on mab λy a=>.inr (by rcases a with a|a<;>omega)).on mc λy a=>.inr (l y (.inl a)).1).on mdd λy a=>.inr (by omega)
    have hfl:(fP (x::r) n).length<=r.length+1:=by unfold fP;simp only;split<;>simp
    have hI' :Mg w b s G B o p q (wc.setCell ⟨q,0,none⟩ Z) (left - n) (fP (x::r) n) (t++[⟨x.price,n,x.num,x.acct⟩]) g (f+n):=by
     refine⟨mdd.hpk la (by omega),⟨O,Z,C,u9,V,by simpa using ld,⟨oc.mod mdd λy a e=>(hnewc y a).2.2 e,(pb.go.mod mc λy a Q=>pb.dj y Q a).mod mdd λy a e=>(l y (.inr a)).2.2.1 e,λy a Q=>?_⟩,λy a=>?_⟩,MW10,?_,by omega,?_⟩
     ·rcases nc y a with j|j
      ·exact pb.dj y j Q
      ·have:=U y (.inr Q);omega
     ·rcases a with a|a
      ·have h1:=hnewc y a;refine⟨h1.1,h1.2.1,h1.2.2,λu=>?_⟩;rcases nc y a with j|j
       ·exact E y (.inl j) u
       ·have:=q8.lt u;omega
      ·have:=l y (.inr a);exact⟨this.1,this.2.1,this.2.2.1,E y (.inr a)⟩
     ·rw[i8];by_cases I:left<x.left
      ·rw[if_pos I]at hn;subst hn;rw[Dp z hcr hac I];have e1:fP (x::r) n={x with left:=x.left - n}::r:=by unfold fP;simp only;rw[if_neg (by omega)]
       rw[e1,Int.sub_self]
      ·rw[if_neg I]at hn;subst hn;rw[Dl z hcr hac I];have e1:fP (x::r) x.left=r:=by unfold fP;simp
       rw[e1]
     ·rw[List.length_append,List.length_singleton];refine⟨by omega,λhl' =>?_⟩;by_cases I:left<x.left
      ·rw[if_pos I]at hn;omega
      ·rw[if_neg I]at hn;have e1:fP (x::r) n=r:=by unfold fP;rw[hn];simp
       rw[e1];omega
    refine hKN _ _ ⟨_,_,_,_,_,hI'⟩ ?_;rw[hI'.m,hm];simp only[List.length_cons];by_cases I:left<x.left
    ·rw[if_pos I]at hn;have:¬0<left - n:=by omega
     rw[if_neg this,if_pos z];omega
    ·rw[if_neg I]at hn;have e1:fP (x::r) n=r:=by unfold fP;rw[hn];simp
     rw[e1];split<;>omega
  ·refine ck (v:=.bool false) (by simp[go_sem,z]<;>first|exact⟨rfl,rfl⟩|exact rfl) ?_;rw[ci,if_neg Bool.false_ne_true];exact⟨left,L,t,g,f,hI,mK (.inl (by omega))⟩
 rintro⟨⟩ W ⟨left,L,t,g,f,hI,hdone⟩;obtain⟨i1,⟨D,A,C,i2,i3,i4,i5,l⟩,i7,i8,i9,i10⟩:=id hI;rw[hdone]at i8;have c:dY o o.left (B !o.buy)=(left,L,t,g,f):=by rw[i8];simp[sZ]
 unfold HS;intro _;have P:=i1;unfold da at P
 have fin:∀(S:World) (O:Bool->Nat->Prop) (B' :Bk) (lf:Int),hp S q=some (.cells (nP A C f lf) 235 (0,0))->ik S b s O B' ->IR S A C t g->cl (λx=>G true x\/G false x) w S->(∀d x,O d x->x≠q/\(G d x\/w.heap.size<=x))->
   (∀x,cv A x\/cv C x->∀d,¬O d x)->(fj B o rests)=(B',⟨t,g,f,lf⟩)->
   rv Tryz.prog (Instr.loadAt 235 (.pointer (some ⟨q,0,none⟩))) S λv156 w157=>
    ru Tryz.prog (Instr.storeAt 235 (.pointer (some ⟨q,0,none⟩)) v156) w157 λw158=>
    sI Tryz.prog (Instr.loadAt 235 (.pointer (some ⟨q,0,none⟩))) w158 λv159=>K v159 w158:=by
  intro S O B' lf k1 k2 k3 k4 k5 k6 k7;obtain⟨ta,tc,hsT,-⟩:=k3.tr.isSl;obtain⟨ga,gc,hsG,-⟩:=k3.go.isSl;unfold nP at k1;refine ck (v:=.agg (nP A C f lf)) (w' :=S) (by simp[go_sem,k1,nP]) ?_
  obtain⟨W2,hst,hW2,m2⟩:∃W2,(Instr.storeAt 235 (.pointer (some ⟨q,0,none⟩)) (.agg (nP A C f lf))).run Tryz.prog S=.ok () W2/\hp W2 q=some (.cells (nP A C f lf) 235 (0,0))/\cl (λb=>b=q) S W2:=by
   refine⟨(((S.setCell ⟨q,0,none⟩ A).setCell ⟨q,1,none⟩ C).setCell ⟨q,2,none⟩ (.int .i64 f)).setCell ⟨q,3,none⟩ (.int .i64 lf),?_,?_,((((cl.refl (λb=>b=q) S).setCell (.inl rfl) _ _).setCell (.inl rfl) _ _).setCell (.inl rfl) _ _).setCell (.inl rfl) _ _⟩
   ·rw[hsT,hsG]at k1|-;simp[go_sem,k1,nP]
   ·simp[go_sem,k1,nP]
  refine dt hst ?_;unfold nP at hW2;refine cB (v:=.agg (nP A C f lf)) (by simp[go_sem,hW2,nP]) ?_;have hk:=hK O A C W2;rw[k7]at hk;refine hk (k2.mod m2 (by omega) λd x c=>(k5 d x c).1) (k3.mod m2 (λx c=>(l x (.inl c)).2.2.1) λx c=>(l x (.inr c)).2.2.1) (k4.on m2 λx c=>.inr (by omega)) (λd x c=>(k5 d x c).2) λx c=>⟨(l x c).1,k6 x c⟩
 have mfull:cl (λx=>G true x\/G false x) w W:=i7.mono λx _ c=>by
  cases k:o.buy<;>rw[k]at c
  ·exact .inl c
  ·exact .inr c
 have hG1:∀d x,fG G (!o.buy) D d x->x≠p/\x≠q/\(G d x\/w.heap.size<=x):=λd x c=>by
  by_cases N:d= !o.buy
  ·subst N;rw[eF]at c;rcases i3 x c with j|j
   ·have:=m _ x j;exact⟨by omega,by omega,.inl j⟩
   ·exact⟨j.2.1,j.2.2,.inr j.1⟩
  ·unfold fG at c;rw[if_neg N]at c;have:=m _ x c;exact⟨by omega,by omega,.inl c⟩
 have hS1:∀x,cv A x\/cv C x->∀d,¬fG G (!o.buy) D d x:=λx c d u=>by
  by_cases N:d= !o.buy
  ·subst N;rw[eF]at u;exact(l x c).2.2.2 u
  ·unfold fG at u;rw[if_neg N]at u;have:=m _ x u;have:=(l x c).1;omega
 refine cy.at (λst S=>st=(.bool (decide (rests=true/\0<left)),())/\S=W) ?_ ?_
 ·cases rests with
  |true=>
   rw[ci,if_pos rfl];refine ck (by simp[-Int.natCast_add,go_sem,P]<;>first|exact⟨rfl,rfl⟩|exact rfl) ?_;refine ck (by simp[-Int.natCast_add,go_sem,P]<;>first|exact⟨rfl,rfl⟩|exact rfl) ?_;refine ck (v:=.bool (decide (0<left))) (w' :=W) (by simp[go_sem]) ?_;exact⟨by simp,rfl⟩
  |false=>
   rw[ci,if_neg Bool.false_ne_true];exact⟨by simp,rfl⟩
 rintro _ W ⟨rfl,rfl⟩;unfold Fs;intro _;by_cases hr:rests=true/\0<left
 ·rw[ci,if_pos (by simpa using hr)];refine ck (gL (o:={o with left:=left}) (At.all i1)) ?_;have hown:=i2.sd o.buy;have hbn:(o.buy= !o.buy)=False:=by cases o.buy<;>simp
  have e1:B.set (!o.buy) L o.buy=B o.buy:=by unfold Bk.set;rw[if_neg (by rw[hbn];exact id)]
  have e2:fG G (!o.buy) D o.buy=G o.buy:=by unfold fG;rw[if_neg (by rw[hbn];exact id)]
  rw[e1,e2]at hown;have hf' :Od.Fit {o with left:=left}:=⟨hof.1,hof.2.1,hof.2.2.1,by unfold fW;simp only;omega⟩
  refine JE hown hf' λG3 w4 q4 m4 n4=>?_;have u4:=ik.upd (d:=o.buy) i2 (by rw[e2];exact m4) q4 (by rw[e2];exact n4);have hp4:¬G o.buy p:=λu=>by have:=m _ p u;omega
  have hq4:¬G o.buy q:=λu=>by have:=m _ q u;omega
  have j1:=m4.hpk P hp4;have j2:=m4.hpk i4 hq4;refine ck (by simp[-Int.natCast_add,go_sem,j1]<;>first|exact⟨rfl,rfl⟩|exact rfl) ?_;refine ck (by simp[-Int.natCast_add,go_sem,j1]<;>first|exact⟨rfl,rfl⟩|exact rfl) ?_;refine ck (by simp[-Int.natCast_add,go_sem,j2]<;>first|exact⟨rfl,rfl⟩|exact rfl) ?_;refine dt (w' :=w4.setCell ⟨q,3,none⟩ (.int .i64 left)) (by simp[go_sem,j2]) ?_;obtain⟨j3,m5⟩:=CE (i:=3) (v:=.int .i64 left) j2 (by omega);have hsW:=i7.size;have hqW:q<W.heap.size:=cn i4
  have h2G:∀d x,fG (fG G (!o.buy) D) o.buy G3 d x->x≠q/\(G d x\/w.heap.size<=x)/\¬cv A x/\¬cv C x:=λd x c=>by
   by_cases N:d=o.buy
   ·subst N;rw[eF]at c;rcases n4 x c with j|j
    ·have:=m _ x j;exact⟨by omega,.inl j,λk=>by have:=(l x (.inl k)).1;omega,λk=>by have:=(l x (.inr k)).1;omega⟩
    ·exact⟨by omega,.inr (by omega),λk=>by have:=i5.tr.lt k;omega,λk=>by have:=i5.go.lt k;omega⟩
   ·have hx' :fG G (!o.buy) D d x:=by
     have:fG (fG G (!o.buy) D) o.buy G3 d=fG G (!o.buy) D d:=by
      conv=>lhs;unfold fG
      rw[if_neg N];rfl
     rw[this]at c;exact c
    have h1:=hG1 d x hx';exact⟨h1.2.1,h1.2.2,λk=>hS1 x (.inl k) d hx',λk=>hS1 x (.inr k) d hx'⟩
  refine fin _ (fG (fG G (!o.buy) D) o.buy G3) _ left (by simpa [nP]using j3) (u4.mod m5 (by omega) λd x c=>(h2G d x c).1)
   ((i5.mod m4 (λx c u=>by have:=m _ x u;have:=(l x (.inl c)).1;omega) λx c u=>by have:=m _ x u;have:=(l x (.inr c)).1;omega).mod m5 (λx c=>(l x (.inl c)).2.2.1) λx c=>(l x (.inr c)).2.2.1)
   ((mfull.on m4 λx c=>.inl (by cases k:o.buy<;>rw[k]at c;exact .inr c;exact .inl c)).on m5 λx c=>.inr (by omega)) (λd x c=>⟨(h2G d x c).1,(h2G d x c).2.1⟩) (λx c d u=>by rcases c with c|c;exact(h2G d x u).2.2.1 c;exact(h2G d x u).2.2.2 c) ?_
  unfold fj;rw[c];simp only;rw[if_pos hr,e1]
 ·rw[ci,if_neg (by simpa using hr)];refine fin W (fG G (!o.buy) D) _ 0 i4 i2 i5 mfull (λd x c=>⟨(hG1 d x c).2.1,(hG1 d x c).2.2⟩) hS1 ?_;unfold fj;rw[c];simp only;rw[if_neg hr]
def cG:Value:=.slice none 0 0
def OU{W:World}{q:Nat}{e t m g sT sG:Value}{f l:Int}(h:hp W q=some (.cells #[e,t,m,g] 235 (0,0)))(i:∃a n c,sT=.slice a n c)(o:∃a n c,sG=.slice a n c):
  ∃d,(Instr.storeAt 235 (.pointer (some ⟨q,0,none⟩)) (.agg (nP sT sG f l))).run Tryz.prog W=.ok () d/\hp d q=some (.cells #[sT,sG,.int .i64 f,.int .i64 l] 235 (0,0))/\cl (λb=>b=q) W d:=by
 obtain⟨p,s,j,rfl⟩:=i;obtain⟨r,u,k,rfl⟩:=o;refine⟨(((W.setCell ⟨q,0,none⟩ (.slice p s j)).setCell ⟨q,1,none⟩ (.slice r u k)).setCell ⟨q,2,none⟩ (.int .i64 f)).setCell ⟨q,3,none⟩ (.int .i64 l),by simp[go_sem,h,nP],by simp[go_sem,h],((((cl.refl (λb=>b=q) W).setCell (.inl rfl) _ _).setCell (.inl rfl) _ _).setCell (.inl rfl) _ _).setCell (.inl rfl) _ _⟩
def NO{W:World}{q:Nat}{sT sG:Value}{f l:Int}(h:hp W q=some (.cells #[sT,sG,.int .i64 f,.int .i64 l] 235 (0,0))):(Instr.loadAt 235 (.pointer (some ⟨q,0,none⟩))).run Tryz.prog W=.ok (.agg (nP sT sG f l)) W:=by
 simp[go_sem,h,nP]
def O7(W:World):(Instr.build 235 #[]).run Tryz.prog W=.ok (.agg (nP cG cG 0 0)) W:=by
 simp[go_sem,nP,cG]
def Qk(w:World):∃a,(Instr.alloc 235 true (.tuple #[])).run Tryz.prog w=.ok (.pointer (some ⟨w.heap.size,0,none⟩)) a/\hp a w.heap.size=some (.cells #[cG,cG,.int .i64 0,.int .i64 0] 235 (0,0))/\cl (λ_=>False) w a:=
 ⟨w.alloc (.cells #[cG,cG,.int .i64 0,.int .i64 0] 235),by simp[go_sem,cG],by simp[go_sem],(cl.refl _ w).alloc _⟩
def L9(w:World):IR w cG cG [] []:=⟨d7.nil _ _ _,d7.nil _ _ _,λx a=>by cases a⟩
def cY(B:Bk)(o:Od)(k:Int):Int×Bk×Pm:=
 if¬o.may\/k<1\/4<k then(2,B,⟨[],[],0,0⟩)
 else if(B.find o.num).isSome then(8,B,⟨[],[],0,0⟩)
 else if k=3/\eJ (!o.buy) (B !o.buy) o.price o.acct<o.left then(70,B,⟨[],[],0,0⟩)
 else if k=4/\0<eJ (!o.buy) (B !o.buy) o.price o.acct then(71,B,⟨[],[],0,0⟩)
 else if(k=1\/k=4)/\eJ (!o.buy) (B !o.buy) o.price o.acct<o.left/\100<=(B o.buy).length then(9,B,⟨[],[],0,0⟩)
 else(0,fj B o (decide (k=1\/k=4)))
set_option maxRecDepth 10000 in
set_option maxHeartbeats 1000000 in
def GC{w:World}{K:cm}{b:Nat}{B:Bk}{s:Bool->Nat}{G:Bool->Nat->Prop}{o:Od}{k:Int}(h:ik w b s G B)(hof:o.Fit)(hk:0<=k/\k<256)
  (hK:∀U I J g,ik g b s U (cY B o k).2.1->IR g I J (cY B o k).2.2.trades (cY B o k).2.2.gone->cl (λx=>G true x\/G false x) w g->(∀d x,U d x->G d x\/w.heap.size<=x)->
   (∀x,cv I x\/cv J x->w.heap.size<=x/\∀d,¬U d x)->K (.tuple #[.agg (nP I J (cY B o k).2.2.filled (cY B o k).2.2.left),.int .i64 (cY B o k).1]) g):Ca Tryz.prog 135 #[eY b,g9 o,.int .u8 k] w K:=by
 apply Nr;obtain⟨w1,e1,b1,m1⟩:=qB o w;refine ck e1 ?_;obtain⟨p,R⟩:∃p,p=w.heap.size:=⟨_,rfl⟩
 rw[<-R]at b1|-;obtain⟨w2,e2,b2,m2⟩:=Qk w1;refine ck e2 ?_;obtain⟨q,hq0⟩:∃q,q=w1.heap.size:=⟨_,rfl⟩
 rw[<-hq0]at b2|-;have hpq:p<q:=by have:=cn b1;omega
 have c1:=m2.hpk b1 id;have M2:=m1.trans m2;have X:∀{W W' :World},cl (λ_=>False) W W' ->cl (λx=>G true x\/G false x) W W' :=λm=>m.mono λ_ _ h=>h.elim;have t:∀d x,G d x->x<p:=λd x a=>by rw[R];exact h.lt a
 have hbp:b<p:=by rw[R];exact cn h.blk
 have bad:∀(e:Int) (W:World),cY B o k=(e,B,⟨[],[],0,0⟩)->cl (λ_=>False) w2 W->
   rv Tryz.prog (Instr.build 235 #[]) W λv25 w26=>ru Tryz.prog (Instr.storeAt 235 (.pointer (some ⟨q,0,none⟩)) v25) w26 λV=>
    sI Tryz.prog (Instr.loadAt 235 (.pointer (some ⟨q,0,none⟩))) V λv28=>K (.tuple #[v28,.int .i64 e]) V:=by
  intro e W T mW;refine ck (O7 W) ?_;obtain⟨W2,N,hW2,n⟩:=OU (sT:=cG) (sG:=cG) (f:=0) (l:=0) (mW.hpk b2 id) ⟨_,_,_,rfl⟩ ⟨_,_,_,rfl⟩;refine dt N ?_;refine cB (NO hW2) ?_;have r:=hK G cG cG W2;rw[T]at r;have M:=M2.trans mW;exact r ((h.mod M id λ_ _ _ h=>h).mod n (by omega) λd x a=>by have:=t d x a;omega) (L9 _) ((X M).on n λx a=>.inr (by omega)) (λd x a=>.inl a) λx a=>by rcases a with a|a<;>cases a
 have h2:=h.mod M2 id λ_ _ _ h=>h;refine pT h2.q ?_;refine ck (v:=.bool false) (by simp[go_sem]<;>first|exact⟨rfl,rfl⟩|exact rfl) ?_;rw[ci,if_neg Bool.false_ne_true];refine cy.at (λst W=>st=(.bool (decide (¬o.may\/k<1\/4<k)),())/\cl (λ_=>False) w2 W) ?_ ?_
 ·refine ck (gL (o:=o) (At.all c1)) ?_;refine xD λw3 n=>?_;refine ck (v:=.bool (!o.may)) (w' :=w3) (by simp[go_sem]) ?_;cases hm:o.may with
  |false=>
   rw[ci,if_pos (show(!false)=true from rfl)];exact⟨by simp,n⟩
  |true=>
   rw[ci,if_neg (by simp)];by_cases h1:k<1
   ·refine ck (v:=.bool true) (by simp[go_sem,h1]<;>first|exact⟨rfl,rfl⟩|exact rfl) ?_;rw[ci,if_pos rfl];exact⟨by simp[h1],n⟩
   ·refine ck (v:=.bool false) (by simp[go_sem,h1]<;>first|exact⟨rfl,rfl⟩|exact rfl) ?_;rw[ci,if_neg Bool.false_ne_true];refine ck (v:=.bool (decide (4<k))) (w' :=w3) (by simp[go_sem]) ?_;exact⟨by simp[h1],n⟩
 rintro _ w3 ⟨rfl,n⟩;unfold FA;intro _;by_cases c:¬o.may\/k<1\/4<k
 ·rw[ci,if_pos (by simpa using c)];exact bad 2 w3 (by unfold cY;rw[if_pos c]) n
 rw[ci,if_neg (by simpa using c)]
 have Y:o.may=true:=by
  apply Classical.byContradiction;intro z;exact c (.inl z)
 have d1:=n.hpk c1 id;have D:=d1;unfold da at D;refine ck (by simp[-Int.natCast_add,go_sem,D]<;>first|exact⟨rfl,rfl⟩|exact rfl) ?_;refine ck (by simp[-Int.natCast_add,go_sem,D]<;>first|exact⟨rfl,rfl⟩|exact rfl) ?_;have h3:=h2.mod n id λ_ _ _ h=>h;refine Dj h3.blk h3.sd (λhnf C m4=>?_) λfo d hfo _ C m4=>?_
 ·refine ck (v:=g9 fH) (w' :=C) (by simp[go_sem]) ?_;refine ck (v:=.pointer none) (w' :=C) (by simp[go_sem]) ?_;obtain⟨w5,e5,b5,m5⟩:=iR C;refine ck e5 ?_;obtain⟨A,e6,b6,m6⟩:=gA (o' :=fH) b5;refine dt e6 ?_;have P:cl (λ_=>False) C A:=m5.on m6 λb hb=>.inr (by omega);have O:=m4.trans P;have M6:=n.trans O;have f1:=O.hpk D id;have hs6:=M6.size;refine ck (v:=.bool false) (by simp[go_sem]<;>first|exact⟨rfl,rfl⟩|exact rfl) ?_;rw[ci,if_neg Bool.false_ne_true];refine ck (by simp[-Int.natCast_add,go_sem,f1]<;>first|exact⟨rfl,rfl⟩|exact rfl) ?_;refine ck (by simp[-Int.natCast_add,go_sem,f1]<;>first|exact⟨rfl,rfl⟩|exact rfl) ?_;have h6:=h3.mod O id λ_ _ _ h=>h;refine uY (s:=s) h6.blk ?_;have md:cl (λ_=>False) A A.drew:=(cl.refl _ A).drew;have h7:=h6.mod md id λ_ _ _ h=>h;have L:=md.hpk f1 id;have f2o:hp A.drew p=some (.cells (da o).toArray iq (0,0)):=L;have M7:=M6.trans md;generalize A.drew=w7 at h7 L f2o M7|-;refine ck (v:=cQ (s o.buy)) (w' :=w7) (by simp[go_sem]) ?_;refine ck (v:=cQ (s !o.buy)) (w' :=w7) (by simp[go_sem]) ?_;refine ck (by simp[-Int.natCast_add,go_sem,L]<;>first|exact⟨rfl,rfl⟩|exact rfl) ?_;refine ck (by simp[-Int.natCast_add,go_sem,L]<;>first|exact⟨rfl,rfl⟩|exact rfl) ?_;refine ck (by simp[-Int.natCast_add,go_sem,L]<;>first|exact⟨rfl,rfl⟩|exact rfl) ?_;refine ck (by simp[-Int.natCast_add,go_sem,L]<;>first|exact⟨rfl,rfl⟩|exact rfl) ?_;refine Do (h7.sd (!o.buy)) λi m8=>?_;have h8:=h7.mod m8 id λ_ _ _ h=>h;have f3:=m8.hpk L id;have f3o:hp i p=some (.cells (da o).toArray iq (0,0)):=f3;have Q:=M7.trans m8;obtain⟨j,Z⟩:∃j,j=eJ (!o.buy) (B !o.buy) o.price o.acct:=⟨_,rfl⟩
  rw[<-Z]
  have y:cY B o k=if k=3/\j<o.left then(70,B,⟨[],[],0,0⟩)else if k=4/\0<j then(71,B,⟨[],[],0,0⟩)else if(k=1\/k=4)/\j<o.left/\100<=(B o.buy).length then(9,B,⟨[],[],0,0⟩)else(0,fj B o (decide (k=1\/k=4))):=by
   unfold cY;rw[if_neg c,if_neg (by rw[hnf];simp),<-Z]
  refine cy.at (λst W=>st=(.bool (decide (k=1\/k=4)),())/\W=i) ?_ ?_
  ·by_cases F:k=1
   ·refine ck (v:=.bool true) (by simp[go_sem,F]<;>first|exact⟨rfl,rfl⟩|exact rfl) ?_;rw[ci,if_pos rfl];exact⟨by simp[F],rfl⟩
   ·refine ck (v:=.bool false) (by simp[go_sem,F]<;>first|exact⟨rfl,rfl⟩|exact rfl) ?_;rw[ci,if_neg Bool.false_ne_true];refine ck (v:=.bool (decide (k=4))) (w' :=i) (by simp[go_sem];rw[Bool.eq_iff_iff];simp) ?_;exact⟨by simp[F],rfl⟩
  rintro _ i ⟨rfl,rfl⟩;unfold Ea;intro _;refine cy.at (λst W=>st=(.bool (decide (k=3/\j<o.left)),())/\W=i) ?_ ?_
  ·by_cases E:k=3
   ·refine ck (v:=.bool true) (by simp[go_sem,E]<;>first|exact⟨rfl,rfl⟩|exact rfl) ?_;rw[ci,if_pos rfl];refine ck (by simp[-Int.natCast_add,go_sem,f3]<;>first|exact⟨rfl,rfl⟩|exact rfl) ?_;refine ck (by simp[-Int.natCast_add,go_sem,f3]<;>first|exact⟨rfl,rfl⟩|exact rfl) ?_;refine ck (v:=.bool (decide (j<o.left))) (w' :=i) (by simp[go_sem]) ?_;exact⟨by simp[E],rfl⟩
   ·refine ck (v:=.bool false) (by simp[go_sem,E]<;>first|exact⟨rfl,rfl⟩|exact rfl) ?_;rw[ci,if_neg Bool.false_ne_true];exact⟨by simp[E],rfl⟩
  rintro _ i ⟨rfl,rfl⟩;unfold D7;intro _;by_cases S:k=3/\j<o.left
  ·rw[ci,if_pos (by simpa using S)];exact bad 70 i (by rw[y,if_pos S]) Q
  rw[ci,if_neg (by simpa using S)];refine cy.at (λst W=>st=(.bool (decide (k=4/\0<j)),())/\W=i) ?_ ?_
  ·by_cases H:k=4
   ·refine ck (v:=.bool true) (by simp[go_sem,H]<;>first|exact⟨rfl,rfl⟩|exact rfl) ?_;rw[ci,if_pos rfl];refine ck (v:=.bool (decide (0<j))) (w' :=i) (by simp[go_sem]) ?_;exact⟨by simp[H],rfl⟩
   ·refine ck (v:=.bool false) (by simp[go_sem,H]<;>first|exact⟨rfl,rfl⟩|exact rfl) ?_;rw[ci,if_neg Bool.false_ne_true];exact⟨by simp[H],rfl⟩
  rintro _ i ⟨rfl,rfl⟩;unfold En;intro _;by_cases u:k=4/\0<j
  ·rw[ci,if_pos (by simpa using u)];exact bad 71 i (by rw[y,if_neg S,if_pos u]) Q
  rw[ci,if_neg (by simpa using u)];refine cy.at (λst W=>st=(.bool (decide ((k=1\/k=4)/\j<o.left/\100<=(B o.buy).length)),())/\W=i) ?_ ?_
  ·by_cases T:k=1\/k=4
   ·rw[ci,if_pos (by simpa using T)];refine ck (by simp[-Int.natCast_add,go_sem,f3]<;>first|exact⟨rfl,rfl⟩|exact rfl) ?_;refine ck (by simp[-Int.natCast_add,go_sem,f3]<;>first|exact⟨rfl,rfl⟩|exact rfl) ?_;by_cases hl:j<o.left
    ·refine ck (v:=.bool true) (by simp[go_sem,hl]<;>first|exact⟨rfl,rfl⟩|exact rfl) ?_;rw[ci,if_pos rfl];refine II (h8.sd o.buy) ?_;refine ck (v:=.bool (decide ((100:Int)<=((B o.buy).length:Int)))) (w' :=i) (by simp[go_sem]) ?_;refine⟨?_,rfl⟩
     have e:decide ((100:Int)<=((B o.buy).length:Int))=decide ((k=1\/k=4)/\j<o.left/\100<=(B o.buy).length):=by
      rw[decide_eq_decide];exact⟨λh=>⟨T,hl,by omega⟩,λh=>by omega⟩
     rw[e]
    ·refine ck (v:=.bool false) (by simp[go_sem,hl]<;>first|exact⟨rfl,rfl⟩|exact rfl) ?_;rw[ci,if_neg Bool.false_ne_true];refine⟨?_,rfl⟩;rw[decide_eq_false (λz=>hl z.2.1)]
   ·rw[ci,if_neg (by simpa using T)];refine⟨?_,rfl⟩;rw[decide_eq_false (λz=>T z.1)]
  rintro _ i ⟨rfl,rfl⟩;unfold HU;intro _;by_cases z:(k=1\/k=4)/\j<o.left/\100<=(B o.buy).length
  ·rw[ci,if_pos (decide_eq_true z)];exact bad 9 i (by rw[y,if_neg S,if_neg u,if_pos z]) Q
  rw[ci,if_neg (by rw[decide_eq_true_eq];exact z)];rw[if_neg S,if_neg u,if_neg z]at y;refine ck (gL (o:=o) (At.all f3o)) ?_;refine JI h8 hof Y λU I J w9 r9 p9 m9 n9 s9=>?_;obtain⟨ta,tc,hsT,-⟩:=p9.tr.isSl;obtain⟨ga,gc,hsG,-⟩:=p9.go.isSl;have hq8:¬(G true q\/G false q):=λhg=>by rcases hg with hg|hg<;>(have:=t _ q hg;omega)
  have f4:=m9.hpk (Q.hpk b2 id) hq8;have hs8:=Q.size;have hq2:=cn b2;obtain⟨wa,N,ja,ma⟩:=OU (sT:=I) (sG:=J) (f:=(fj B o (decide (k=1\/k=4))).2.filled) (l:=(fj B o (decide (k=1\/k=4))).2.left) f4 ⟨_,_,_,hsT⟩ ⟨_,_,_,hsG⟩;refine dt N ?_;refine cB (NO ja) ?_;have r:=hK U I J wa;rw[y]at r;have hsw:=(M2.trans Q).size;refine r (r9.mod ma (by omega) λd x a=>?_) (p9.mod ma (λx a=>?_) λx a=>?_) (((X (M2.trans Q)).trans m9).on ma λx a=>.inr (by omega)) (λd x a=>?_) λx a=>⟨by have:=(s9 x a).1;omega,(s9 x a).2⟩
  ·rcases n9 d x a with h' |h'
   ·have:=t d x h';omega
   ·omega
  ·have:=(s9 x (.inl a)).1;omega
  ·have:=(s9 x (.inr a)).1;omega
  ·rcases n9 d x a with h' |h'
   ·exact .inl h'
   ·exact .inr (by omega)
 ·refine ck (v:=g9 fo) (w' :=C) (by simp[go_sem]) ?_;refine ck (v:=cQ (s d)) (w' :=C) (by simp[go_sem]) ?_;obtain⟨w5,e5,b5,m5⟩:=iR C;refine ck e5 ?_;obtain⟨A,e6,b6,m6⟩:=gA (o' :=fo) b5;refine dt e6 ?_;have P:cl (λ_=>False) C A:=m5.on m6 λb hb=>.inr (by omega);refine ck (v:=.bool true) (w' :=A) (by simp[go_sem,cQ]) ?_;rw[ci,if_pos rfl];exact bad 8 A (by unfold cY;rw[if_neg c,if_pos (by rw[hfo];rfl)]) ((n.trans m4).trans P)
def wx{w:World}{K:cm}{b:Nat}{F:Nat->Prop}{B:Bk}(h:eT w b F B)
  (A:∀o q e,eT e o q B->cl (λ_=>False) w e->(∀x,q x->w.heap.size<=x)->K (eY o) e):Ca Tryz.prog 110 #[eY b] w K:=by
 apply QB;refine pT h ?_;obtain⟨s,G,E,-⟩:=h.r;refine ck (v:=.bool false) (by simp[go_sem]<;>first|exact⟨rfl,rfl⟩|exact rfl) ?_;rw[ci,if_neg Bool.false_ne_true];have md:cl (λ_=>False) w w.drew:=(cl.refl _ w).drew;have j:=E.mod md id λ_ _ _ h=>h;have n:=j.blk;simp only[eY,cr];refine co (λ_=>by simp[-Int.natCast_add,go_sem]<;>first|exact⟨rfl,rfl⟩|exact rfl) ?_;refine cB (v:=cQ (s true)) (by simp[go_sem,n]) ?_;refine co (λ_=>by simp[-Int.natCast_add,go_sem]<;>first|exact⟨rfl,rfl⟩|exact rfl) ?_;refine cB (v:=cQ (s false)) (by simp[go_sem,n]) ?_;refine xX (j.sd true) λg r J m i I=>?_;have C:=i.hpk n id;refine⟨by simp[go_sem,C],?_⟩;have h1:=j.mod i id λ_ _ _ h=>h;refine xX (h1.sd false) λf p a u k t=>?_;refine co (v:=.agg #[cQ g,cQ f]) (λ_=>by simp[go_sem,cQ]) ?_;have l:cl (λ_=>False) a (a.alloc (.cells #[cQ g,cQ f] 231)):=(cl.refl _ a).alloc _;refine ck (v:=eY a.heap.size) (w' :=a.alloc (.cells #[cQ g,cQ f] 231)) rfl ?_;have z:=md.size;have D:=i.size;have H:=k.size;refine A a.heap.size (λx=>x=a.heap.size\/r x\/p x) _ ⟨λd=>if d then g else f,λd=>if d then r else p,by simp[go_sem],λd=>?_,λx=>Iff.rfl,λd=>?_,λx h1 y=>?_⟩ (((md.trans i).trans k).trans l) λx c=>?_
 ·cases d
  ·exact u.mod l λ_ _ h=>h
  ·exact(m.mod k λ_ _ h=>h).mod l λ_ _ h=>h
 ·cases d
  ·intro h;have:=u.lt h;omega
  ·intro h;have:=m.lt h;omega
 ·have L:=m.lt h1;have M:=t x y;omega
 ·rcases c with rfl|c|c
  ·omega
  ·have:=I x c;omega
  ·have:=t x c;omega
structure Hy(P:Program)(gv:Value)(xs:List (List Value))(Ok:World->Prop):Prop where
 out:∃f first captured,gv=.func (.func f) first captured/\∀(yl:Nat) (J:(Nat->Prop)->Nat->World->Prop) (Js:(Nat->Prop)->World->Prop) (W:World) (K:cm),Ok W->
  (∀Q W1,cl (λ_=>False) W W1->(∀b,Q b->W.heap.size<=b/\b<W1.heap.size)->J Q 0 W1)->
  (∀Q Q' i W W',J Q i W->cl Q W W' ->(∀b,Q' b->(Q b\/W.heap.size<=b)/\b<W'.heap.size)->J Q' i W')->
  (∀Q Q' W W',Js Q W->cl Q W W' ->(∀b,Q' b->(Q b\/W.heap.size<=b)/\b<W'.heap.size)->Js Q' W')->
  (∀Q i x W,xs[i]? =some x->J Q i W->∀K' :cm,(∀W',J Q (i+1) W' ->W.heap.size<=W'.heap.size->(∀b,Q b->W'.heap[b]? =W.heap[b]?)->K' (.bool true) W')->(∀W',Js Q W' ->W.heap.size<=W'.heap.size->(∀b,Q b->W'.heap[b]? =W.heap[b]?)->K' (.bool false) W')->ew P (.func (.yield yl) #[] #[]) x W K')->
  (∀Q W,J Q xs.length W->K (.tuple #[]) W)->(∀Q W,Js Q W->K (.tuple #[]) W)->Ca P f ⟨first.toList++((.func (.yield yl) #[] #[])::captured.toList)⟩ W K
def FJ{P:Program}{gv:Value}{xs:List (List Value)}{Ok:World->Prop}(h:ud P gv xs Ok):Hy P gv xs Ok:=by
 obtain⟨f,first,n,e,A⟩:=h.out;refine⟨f,first,n,e,λE J C W K r t k p g j q=>?_⟩;refine A _ (λQ i W=>J Q i W/\∀b,Q b->b<W.heap.size) (λW=>∃Q,C Q W) W K r (λQ y l c=>⟨t Q y l c,λb a=>(c b a).2⟩) ?_ ?_ (λQ W h=>j Q W h.1) λW ⟨Q,h⟩=>q Q W h
 ·rintro Q i W m ⟨o,c⟩ l;exact⟨k Q Q i W m o (l.mono λ_ _ h=>h.elim) λb a=>⟨.inl a,Nat.lt_of_lt_of_le (c b a) l.size⟩,λb a=>Nat.lt_of_lt_of_le (c b a) l.size⟩
 ·rintro Q i x W B ⟨o,c⟩ D v z;refine g Q i x W B o D (λm d s u=>v m ⟨d,λb a=>?_⟩ u) λm d s _=>z m ⟨Q,d⟩;exact Nat.lt_of_lt_of_le (c b a) s
structure jy(gv:Value)(xs:List (List Value))(w:World):Prop where
 out:∃Ok,Hy Tryz.prog gv xs Ok/\∀W,cl (λ_=>False) w W->Ok W
 fn:∃f cap,gv=.func (.func f) #[] cap
def yr.m{gv:Value}{xs:List (List Value)}{w:World}(h:yr gv xs w):jy gv xs w:=by
 obtain⟨⟨Ok,h1,a⟩,b⟩:=h;exact⟨⟨Ok,FJ h1,a⟩,b⟩
def jy.mod{gv:Value}{xs:List (List Value)}{w w' :World}(h:jy gv xs w)(a:cl (λ_=>False) w w'):jy gv xs w' :=by
 obtain⟨⟨Ok,h1,b⟩,c⟩:=h;exact⟨⟨Ok,h1,λW m=>b W (a.trans m)⟩,c⟩
def lI(T:TypeId){α:Type}(fv:α->Value)(fc:α->List Value)(xs:List α):Prop:=
 ∀a∈xs,∀W:World,∃w1 w2,(Instr.alloc T true (.tuple #[])).run Tryz.prog W=.ok (.pointer (some ⟨W.heap.size,0,none⟩)) w1/\(Instr.storeAt T (.pointer (some ⟨W.heap.size,0,none⟩)) (fv a)).run Tryz.prog w1=.ok () w2/\
  hp w2 W.heap.size=some (.cells (fc a).toArray T (0,0))/\cl (λ_=>False) W w2
section
variable{w:World}{gv:Value}{α:Type}{xs:List α}{T:TypeId}{fv:α->Value}{fc:α->List Value}{body:Value->World->(World->Prop)->(Code->World->Prop)->Prop}{after:List Nat->Option Code->World->Prop}{X0:Nat->Prop}
def Iq(ht:jy gv (xs.map λa=>[fv a]) w)(hv:lI T fv fc xs)
  (I:(Nat->Prop)->Nat->World->Prop)(Ex:Code->(Nat->Prop)->World->Prop)
  (D:∀X i W m H,I X i W->cl H W m->(∀b,X b->¬H b)->I X i m)
  (hsx:∀c X W m H,Ex c X W->cl H W m->(∀b,X b->¬H b)->Ex c X m)
  (O:∀b,X0 b->b<w.heap.size)(h0:I X0 0 w)
  (V:∀X i (hi:i<xs.length) W q,I X i W->cl X0 w W->(∀b,X b->b<q/\(X0 b\/w.heap.size+1<b))->w.heap.size+1<q->q<W.heap.size->hp W q=some (.cells (fc xs[i]).toArray T (0,0))->∀KN KJ,
   (∀y m,I y (i+1) m->cl X W m->(∀b,y b->(X b\/W.heap.size<=b)/\b<m.heap.size)->KN m)->
   (∀c y m,Ex c y m->cl X W m->(∀b,y b->(X b\/W.heap.size<=b)/\b<m.heap.size)->KJ c m)->body (.pointer (some ⟨q,0,none⟩)) W KN KJ)
  (hend:∀X W d,d=w.heap.size->I X xs.length W->cl X0 w W->hp W d=some (.deferred (some []))->(∀b,X b->b<W.heap.size/\(X0 b\/d+1<b))->after [d] none W)
  (Z:∀c X W d,d=w.heap.size->Ex c X W->cl X0 w W->hp W d=some (.deferred (some []))->(∀b,X b->b<W.heap.size/\(X0 b\/d+1<b))->after [d] (some c) W):
  xR Tryz.prog none gv w 1 (λl x W KN KJ=>rv Tryz.prog (Instr.alloc T true (.tuple #[])) W λv w1=>ru Tryz.prog (Instr.storeAt T v (x.getD 0 undef)) w1 λw2=>iK l w2 λw3=>body v w3 KN KJ) after:=by
 obtain⟨⟨Ok,hit,hok⟩,-⟩:=ht;obtain⟨f,first,captured,rfl,hit0⟩:=hit.out;refine mi.2 ?_;show∀k:Loop,_;intro k s K hD hY;obtain⟨d,z⟩:∃d,d=w.heap.size:=⟨_,rfl⟩
 have U:(w.alloc (.deferred (some []))).heap.size=d+1:=by rw[World.size_alloc,z]
 obtain⟨wr,F⟩:∃wr,wr=(w.alloc (.deferred (some []))).alloc (.loop k):=⟨_,rfl⟩
 have S:wr.heap[d+1]? =some (.loop k):=by rw[F,cU,if_pos U.symm]
 have hszr:wr.heap.size=d+2:=by rw[F,World.size_alloc,U]
 have Y:hp wr d=some (.deferred (some [])):=by rw[F];simp[go_sem,z]
 have hmr:cl (λ_=>False) w wr:=by rw[F];exact((cl.refl _ w).alloc _).alloc _
 have p:∀(W:World) (o:Obj),cl (λb=>b=d+1) W (W.putObj (d+1) o):=λW o=>(cl.refl (λb=>b=d+1) W).putObj (b:=d+1) (.inl rfl) o;rw[U]at hY|-;rw[<-F];let J:(Nat->Prop)->Nat->World->Prop:=λQ i W=>∃X,I X i W/\cl X0 w W/\hp W d=some (.deferred (some []))/\(∀b,X b->b<W.heap.size/\(X0 b\/d+1<b)/\¬Q b)/\W.heap[d+1]? =some (.loop k)/\∀b,Q b->d+1<b/\b<W.heap.size;let Js:(Nat->Prop)->World->Prop:=λQ W=>∃c X r,Ex c X W/\cl X0 w W/\hp W d=some (.deferred (some []))/\(∀b,X b->b<W.heap.size/\(X0 b\/d+1<b)/\¬Q b)/\W.heap[d+1]? =some (.loop r)/\(∀b,Q b->d+1<b/\b<W.heap.size)/\r.state=.done/\r.pending=some c;refine hit0 _ J Js _ _ (hok _ hmr) ?_ ?_ ?_ ?_ ?_ ?_
 ·intro Q W1 j hQ;refine⟨X0,D _ _ _ _ _ h0 (hmr.trans j) λ_ _ h=>h,(hmr.trans j).mono λ_ _ h=>h.elim,j.hpk Y id,λb g=>?_,j.keep S id,λb g=>?_⟩
  ·have h1:=O b g;have G:=j.size;exact⟨by omega,.inl g,λR=>by have:=(hQ b R).1;omega⟩
  ·have:=hQ b g;omega
 ·rintro Q Q' i W m ⟨X,h1,G,M,n,C,B⟩ j L;have hl:=cn C;refine⟨X,D _ _ _ _ _ h1 j λb g=>(n b g).2.2,G.on j λb g=>.inr (by have:=B b g;omega),j.hpk M λg=>by have:=B _ g;omega,λb g=>?_,j.keep C λg=>by have:=B _ g;omega,λb g=>?_⟩
  ·have u:=n b g;refine⟨Nat.lt_of_lt_of_le u.1 j.size,u.2.1,λR=>?_⟩;rcases(L b R).1 with h|h
   ·exact u.2.2 h
   ·have:=u.1;omega
  ·have u:=L b g;refine⟨?_,u.2⟩;rcases u.1 with h|h
   ·exact(B b h).1
   ·omega
 ·rintro Q Q' W m ⟨c,X,r,h1,G,M,n,C,B,h7⟩ j L;have hl:=cn C;refine⟨c,X,r,hsx _ _ _ _ _ h1 j λb g=>(n b g).2.2,G.on j λb g=>.inr (by have:=B b g;omega),j.hpk M λg=>by have:=B _ g;omega,λb g=>?_,j.keep C λg=>by have:=B _ g;omega,λb g=>?_,h7⟩
  ·have u:=n b g;refine⟨Nat.lt_of_lt_of_le u.1 j.size,u.2.1,λR=>?_⟩;rcases(L b R).1 with h|h
   ·exact u.2.2 h
   ·have:=u.1;omega
  ·have u:=L b g;refine⟨?_,u.2⟩;rcases u.1 with h|h
   ·exact(B b h).1
   ·omega
 ·rintro Q i x W N ⟨X,h1,G,M,n,C,B⟩ K' hT hF;refine iQ.2 ?_;show Yl Tryz.prog (d+1) ⟨_⟩ W K';have e1:(#[]:Array Value).toList++x=x:=rfl;rw[e1]
  obtain⟨hi,rfl⟩:∃hi:i<xs.length,x=[fv xs[i]]:=by
   rw[List.getElem?_map]at N;cases hh:xs[i]? with
   |none=>rw[hh]at N;cases N
   |some o=>
    obtain⟨hj,he⟩:=List.getElem?_eq_some_iff.1 hh;rw[hh]at N;exact⟨hj,by rw[he];exact(Option.some.inj N).symm⟩
  refine hY _ W K' rfl ⟨k.state,k.pending,C⟩ ?_;obtain⟨w1,w2,v1,v2,v3,v4⟩:=hv xs[i] (List.getElem_mem hi) W;obtain⟨q,hq0⟩:∃q,q=W.heap.size:=⟨_,rfl⟩
  rw[<-hq0]at v1 v2 v3;refine ck v1 ?_;show ru Tryz.prog (Instr.storeAt T (.pointer (some ⟨q,0,none⟩)) (fv xs[i])) w1 _;refine dt v2 ?_;have r2:w2.heap[d+1]? =some (.loop k):=v4.keep C id;refine lM r2 s ?_;have m3:=p w2 (.loop {k with state:=.busy});have r3:(w2.putObj (d+1) (.loop {k with state:=.busy})).heap[d+1]? =some (.loop {k with state:=.busy}):=by rw[db,if_pos rfl,r2];rfl
  generalize w2.putObj (d+1) (.loop {k with state:=.busy})=w3 at m3 r3|-;have hdl:d+1<q:=by rw[hq0];exact cn C
  have q3:=m3.hpk v3 (by omega);have hql:=cn q3;have hw3:=m3.size;have hw4:=v4.size;have M3:cl (λb=>b=d+1) W w3:=(v4.mono λ_ _ h=>h.elim).trans m3;have hXq:∀b,X b->b<q/\(X0 b\/d+1<b):=λb g=>⟨by have:=(n b g).1;omega,(n b g).2.1⟩
  have t:∀b,X b->b≠d+1/\b≠d:=λb g=>by
   rcases(n b g).2.1 with h|h
   ·have:=O b h;omega
   ·omega
  have E:∀(m:World) (y:Nat->Prop) (o:Obj),cl X w3 m->(∀b,y b->(X b\/w3.heap.size<=b)/\b<m.heap.size)->
    cl X0 w (m.putObj (d+1) o)/\hp (m.putObj (d+1) o) d=some (.deferred (some []))/\(∀b,y b->b<(m.putObj (d+1) o).heap.size/\(X0 b\/d+1<b)/\¬Q b)/\(∀b,Q b->d+1<b/\b<(m.putObj (d+1) o).heap.size)/\
    (∀b,Q b->(m.putObj (d+1) o).heap[b]? =W.heap[b]?)/\W.heap.size<=(m.putObj (d+1) o).heap.size/\m.heap[d+1]? =some (.loop {k with state:=.busy}):=by
   intro m y o j A;have P:=p m o;have hsW:=j.size;have hsP:=P.size;refine⟨?_,P.hpk (j.hpk (m3.hpk (v4.hpk M id) (by omega)) λg=>(t _ g).2 rfl) (by omega),λb g=>?_,λb g=>?_,λb g=>?_,by omega,j.keep r3 λg=>(t _ g).1 rfl⟩
   ·refine(((G.on M3 λb g=>.inr (by omega)).on j λb g=>?_)).on P λb g=>.inr (by omega);rcases(n b g).2.1 with h|h
    ·exact .inl h
    ·exact .inr (by omega)
   ·have u:=A b g;refine⟨by omega,?_,λR=>?_⟩
    ·rcases u.1 with h|h
     ·exact(n b h).2.1
     ·exact .inr (by omega)
    ·rcases u.1 with h|h
     ·exact(n b h).2.2 R
     ·have:=(B b R).2;omega
   ·have:=B b g;omega
   ·have hb' :=B b g;rw[P.blk b (by omega) (by omega),j.blk b (by omega) λN=>(n b N).2.2 g,M3.blk b hb'.2 (by omega)]
  refine V X i hi w3 q (D _ _ _ _ _ h1 M3 λb g=>(t b g).1) (G.on M3 λb g=>.inr (by omega)) (by rw[<-z];exact hXq) (by omega) hql q3 _ _ ?_ ?_
  ·intro y m hI' j A;obtain⟨k1,k2,k3,k4,k5,k6,k7⟩:=E m y (.loop {{k with state:=.busy}with state:=.ready,pending:=none}) j A;refine⟨_,k7,hT _ ⟨y,?_,k1,k2,k3,?_,k4⟩ k6 k5⟩
   ·refine D _ _ _ _ _ hI' (p m _) λb g e=>?_;rcases(A b g).1 with h|h
    ·exact(t b h).1 e
    ·omega
   ·rw[db,if_pos rfl,k7];simp[<-s,<-K]
  ·intro c y m hI' j A;obtain⟨k1,k2,k3,k4,k5,k6,k7⟩:=E m y (.loop {{k with state:=.busy}with state:=.done,pending:=some c}) j A;refine⟨_,k7,hF _ ⟨c,y,{k with state:=.done,pending:=some c},?_,k1,k2,k3,?_,k4,rfl,rfl⟩ k6 k5⟩
   ·refine hsx _ _ _ _ _ hI' (p m _) λb g e=>?_;rcases(A b g).1 with h|h
    ·exact(t b h).1 e
    ·omega
   ·rw[db,if_pos rfl,k7];rfl
 ·rintro Q W ⟨X,h1,G,M,n,C,B⟩;refine⟨k,C,by rw[s];decide,?_⟩;rw[<-z];have j:=p W (.loop {k with state:=.exhausted});generalize W.putObj (d+1) (.loop {k with state:=.exhausted})=W8 at j|-;rw[K]
  have t:∀b,X b->b≠d+1:=λb g=>by
   rcases(n b g).2.1 with h|h
   ·have:=O b h;omega
   ·omega
  refine hend X _ d z ?_ (G.on j λb g=>.inr (by omega)) (j.hpk M (by omega)) λb g=>⟨Nat.lt_of_lt_of_le (n b g).1 j.size,(n b g).2.1⟩
  have N:I X xs.length W:=by have:=h1;rwa[List.length_map]at this
  exact D _ _ _ _ _ N j λb g=>t b g
 ·rintro Q W ⟨c,X,r,h1,G,M,n,C,B,h7,h8⟩;refine⟨r,C,by rw[h7];decide,?_⟩;rw[<-z];have j:=p W (.loop {r with state:=.exhausted});generalize W.putObj (d+1) (.loop {r with state:=.exhausted})=W8 at j|-;rw[h8]
  have t:∀b,X b->b≠d+1:=λb g=>by
   rcases(n b g).2.1 with h|h
   ·have:=O b h;omega
   ·omega
  exact Z c X _ d z (hsx _ _ _ _ _ h1 j λb g=>t b g) (G.on j λb g=>.inr (by omega)) (j.hpk M (by omega)) λb g=>⟨Nat.lt_of_lt_of_le (n b g).1 j.size,(n b g).2.1⟩
end
def wo{W:World}{d:Nat}{K:World->Prop}(h:hp W d=some (.deferred (some [])))(e:∀a,cl (λb=>b=d) W a->K a):jC ([d]++[]) W K:=
 Jc (by simp) (λx c=>by rw[List.mem_singleton.1 c];exact h) λa m=>e a (m.mono λx _ c=>by simpa using c)
def lI.od{xs:List Od}:lI iq g9 da xs:=λa _ W=>by
 obtain⟨c,e,d,h⟩:=iR W;obtain⟨i,j,g,f⟩:=gA (o' :=a) d;exact⟨c,i,e,j,g,h.on f λb k=>.inr (by omega)⟩
end Go.Proofs
