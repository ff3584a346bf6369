/- Part of a proof. -/
import Derived.Test.YtekbnpagidkbbaaGreatR9
set_option linter.all false
set_option maxRecDepth 100000
set_option maxHeartbeats 4000000
namespace Go.Proofs
open Go Go.Vc
attribute [local congr] bj
variable {left f:Int}{g:List Int}{r:List Od}{t:List Td}{o b:Od}
def sw(sT sG:Vt_)(f l:Int):Array Value:=#[sT,sG,gI f,gI l]
def L9{W:Wt_}{p:Nat}{a c e d:Vt_}{i:Nat}{v:Vt_}(h:hC W p #[a,c,e,d] 246)(hi:i<4):
  hC (W.setCell ⟨p,i,none⟩ v) p ((#[a,c,e,d]:Array Value).setIfInBounds i v) 246/\aR (λb=>b=p) W (W.setCell ⟨p,i,none⟩ v):=
 ⟨by simp[go_sem,h],(aR.refl (λb=>b=p) W).sc⟩
structure Xr(w0:Wt_)(b:Nat)(s:Bool->Nat)(G:Bool->Nat->Prop)(B:Bk)(o:Od)(p q:Nat)(W:Wt_)(left:Int)(L:List Od)(t:List Td)(g:List Int)(f:Int):Prop where
 od:hC W p (dF {o with left:=left}).toArray jG
 mem:∃G' sT sG,kW W b s (jy G (!o.buy) G') (B.set (!o.buy) L)/\(∀x,G' x->G (!o.buy) x\/(w0.heap.size<=x/\x≠p/\x≠q))/\
  hC W q #[sT,sG,gI f,gI 0] 246/\Qh W sT sG t g/\(∀x,aF sT x\/aF sG x->w0.heap.size<=x/\x≠p/\x≠q/\¬G' x)
 md:aR (G (!o.buy)) w0 W
 eq:eT o o.left (B (!o.buy))=Ai t g f (eT o left L)
 lf:0<=left/\left<=1000000/\f+left=o.left/\0<=f
 len:t.length+g.length<=101/\(0<left->t.length+g.length+L.length<=100)
def JD(b:Od)(r:List Od):oX (b::r) b.num=r:=by
 unfold oX;rw[List.eraseP_cons_of_pos (by simp)]
def OI(h1:0<left)(c:gz o b.price=true)(a:b.acct=o.acct):
  Ai t g f (eT o left (b::r))=Ai t (g++[b.num]) f (eT o left r):=by
 conv=>lhs;unfold eT
 rw[aa (by grind),ae a];simp[Ai]
def NK(h1:0<left)(d:gz o b.price=true)(c:b.acct≠o.acct)(a:left<b.left):
  Ai t g f (eT o left (b::r))=Ai (t++[⟨b.price,left,b.num,b.acct⟩]) g (f+left) (eT o 0 ({b with left:=b.left - left}::r)):=by
 conv=>lhs;unfold eT
 rw[aa (by grind),aa c,ae a,ur (.inl (eu 0))];simp[Ai]
def NH(h1:0<left)(d:gz o b.price=true)(c:b.acct≠o.acct)(a:¬left<b.left):
  Ai t g f (eT o left (b::r))=Ai (t++[⟨b.price,b.left,b.num,b.acct⟩]) g (f+b.left) (eT o (left - b.left) r):=by
 conv=>lhs;unfold eT
 rw[aa (by grind),aa c,aa a];simp[Ai,Int.add_assoc]
def Rz(W:Wt_)(p:Nat):Int:=match hp W p with|some (.cells c _ _)=>(match (c[4]? :Option Value)with|some (.int _ x)=>x|_=>0)|_=>0
def Wb(W:Wt_)(p:Nat):Nat:=match hp W p with|some (.cells c _ _)=>(match (c[2]? :Option Value)with|some (.slice _ n _)=>n|_=>0)|_=>0
def cmM(W:Wt_)(p sd:Nat):Nat:=2*Wb W sd+(if 0<Rz W p then 1 else 0)
def Xr.m{k:Wt_}{b:Nat}{s:Bool->Nat}{G:Bool->Nat->Prop}{B:Bk}{p q:Nat}{W:Wt_}{L:List Od}(h:Xr k b s G B o p q W left L t g f):
  cmM W p (s (!o.buy))=2*L.length+(if 0<left then 1 else 0):=by
 obtain⟨l,sT,m,j,-⟩:=h.mem;have e:=j.sd (!o.buy);rw[Bk.set_self]at e;obtain⟨⟨sl,h1,i,-⟩,-⟩:=e;obtain⟨a,c,d,-⟩:=i.isSl;unfold cmM Wb Rz;rw[h1,h.od,d];rfl
def LP{w:Wt_}{K:aZ}{b:Nat}{B:Bk}{s:Bool->Nat}{G:Bool->Nat->Prop}{rests:Bool}(h:kW w b s G B)(hof:o.Fit)(hmay:o.may=true)
  (hK:∀C sT A w',kW w' b s C (fC B o rests).1->Qh w' sT A (fC B o rests).2.trades (fC B o rests).2.gone->aR (λx=>G true x\/G false x) w w' ->(∀d x,C d x->G d x\/w.heap.size<=x)->
   (∀x,aF sT x\/aF A x->w.heap.size<=x/\∀d,¬C d x)->K (.agg (sw sT A (fC B o rests).2.filled (fC B o rests).2.left)) w'):Ca pQ 231 #[fi b,kx o,.bool rests] w K:=by
 have hol:=Od.left_bd hmay;unfold fi;refine cN Tryz.func231 ?_;obtain⟨w1,Y,b1,m1⟩:=ux o w;apply bo Y;obtain⟨p,hp0⟩:=di w.heap.size;rw[<-hp0]at b1|-;obtain⟨q,hq0⟩:=di w1.heap.size;have hpq:p<q:=by have:=aB b1;omega
 have m2:M0 w1 (w1.alloc (.cells #[.slice none 0 0,.slice none 0 0,gI 0,gI 0] 246)):=mG;apply ao (bO q 0) (w1.alloc (.cells #[.slice none 0 0,.slice none 0 0,gI 0,gI 0] 246)) (by rw[hq0];simp[go_sem]);have b2:hC (w1.alloc (.cells #[.slice none 0 0,.slice none 0 0,gI 0,gI 0] 246)) q #[.slice none 0 0,.slice none 0 0,gI 0,gI 0] 246:=by rw[hq0];simp[go_sem]
 generalize w1.alloc (.cells #[.slice none 0 0,.slice none 0 0,gI 0,gI 0] 246)=w2 at m2 b2|-;have c1:=m2.hpk b1 id;have M2:=m1.trans m2;have c1' :=c1;unfold dF at c1';refine dN c1' ?_;refine dN c1' ?_;have h2:=h.mod M2 id λ_ _ _ h=>h;apply CI (s:=s) h2.blk;have md:M0 w2 w2.drew:=vz;have M3:=M2.trans md;have h3:=h2.mod md id λ_ _ _ h=>h;have d1:=md.hpk c1 id;have d2:=md.hpk b2 id;generalize w2.drew=w3 at M3 h3 d1 d2|-;refine dI ?_;refine dI ?_;have hlen:=(h.sd (!o.buy)).len;have m:∀d x,G d x->x<p:=λd x c=>by rw[hp0];exact h.lt c
 have hbp:b<p:=by rw[hp0];exact aB h.blk
 have hspl:∀d,s d<p:=λd=>m d _ ((h.sd d).self);have hu:jy G (!o.buy) (G !o.buy)=G:=by funext x;unfold jy;by_cases h:x= !o.buy<;>simp[h]
 have I0:Xr w b s G B o p q w3 o.left (B !o.buy) [] [] 0:=by
  refine⟨d1,⟨G !o.buy,.slice none 0 0,.slice none 0 0,?_,λx c=>.inl c,d2,⟨ic.nil _ _ _,ic.nil _ _ _,λx c=>by cases c⟩,λx c=>by rcases c with c|c<;>cases c⟩,M3.to,?_,qZ,by simp,λ_=>by simpa using hlen⟩
  ·rw[hu,Bk.set_same];exact h3
  ·unfold Ai;simp
 refine cT.at (λ_ W=>∃left L t g f,Xr w b s G B o p q W left L t g f/\eT o left L=(left,L,[],[],0)) ?_ ?_
 ·apply d8 (λ_ W=>∃left L t g f,Xr w b s G B o p q W left L t g f) (λ_ W=>cmM W p (s !o.buy)) ⟨_,_,_,_,_,I0⟩;rintro _ W ⟨left,L,t,g,f,hI⟩ KN hKN;have hm:=hI.m;obtain⟨i1,⟨C,sT,A,i2,i3,i4,i5,l⟩,i7,i8,i9,i10⟩:=id hI;have hs:=i2.sd (!o.buy);rw[Bk.set_self,gi]at hs
  have hGx:∀d x,jy G (!o.buy) C d x->x≠p/\x≠q:=λd x c=>by
   by_cases J:d= !o.buy
   ·subst J;rw[gi]at c;rcases i3 x c with j|j
    ·have:=m _ x j;omega
    ·exact j.2
   ·unfold jy at c;rw[aa J]at c;have:=m _ x c;omega
  have hG'x:∀x,C x->x≠p/\x≠q:=λx c=>hGx (!o.buy) x (by rw[gi];exact c);refine lV ?_;intro _;have N:=i1;unfold dF at N;refine dN N ?_;refine dN N ?_;by_cases z:0<left
  ·refine dY z ?_;refine Rc hs λw4 m4=>?_;have i4a:=m4.hpk i1 id;have i4b:=m4.hpk i4 id;refine dI ?_;refine dI ?_;obtain⟨w5,e5,b5,m5⟩:=jY w4;apply bo e5;obtain⟨r0,hr0⟩:=di w4.heap.size;rw[<-hr0]at b5|-;obtain⟨w6,e6,b6,m6⟩:=jE (o' :=L.head?.getD oQ) b5;apply iE e6;have M46:M0 w4 w6:=m5.on m6 λb k=>gr;have M6:M0 W w6:=m4.trans M46;have i6a:=M46.hpk i4a id;have i6b:=M46.hpk i4b id;have hWr:W.heap.size<=r0:=by have:=m4.size;omega
   refine cT.at (λst Q=>st=(.bool (decide (L.head? =none\/gz o (L.head?.getD oQ).price=false)),())/\M0 w6 Q) ?_ ?_
   ·cases L with
    |nil=>
     refine lh ?_;exact⟨by simp,rZ⟩
    |cons x r=>
     refine eU ?_;apply bo (lE (o:={o with left:=left}) (At.all i6a));have b6' :=b6;unfold dF at b6';refine dN b6' ?_;refine dN b6' ?_;refine J4 (o:={o with left:=left}) (price:=x.price) λw7 m7=>?_;rw[Hp];refine dI ?_;refine⟨?_,m7⟩;simp only[List.head?_cons,dC];rcases Bool.eq_false_or_eq_true (gz o x.price)with hc|hc<;>simp[hc]
   rintro _ w7 ⟨rfl,m7⟩;refine kR ?_;intro _;have M7:=M6.trans m7;have k1:=m7.hpk i6a id;have k2:=m7.hpk i6b id;have k3:=m7.hpk b6 id;by_cases F:L.head? =none\/gz o (L.head?.getD oQ).price=false
   ·rw[oB F];refine⟨left,L,t,g,f,⟨k1,⟨C,sT,A,i2.mod M7 id λ_ _ _ h=>h,i3,k2,i5.mod M7 d9 d9,l⟩,i7.trans (M7.to),i8,i9,i10⟩,?_⟩;refine ur (.inr ?_);cases L with
    |nil=>exact .inl rfl
    |cons x r=>
     refine .inr ⟨x,r,rfl,?_⟩;rcases F with j|j
     ·cases j
     ·exact j
   rw[JP F];cases L with
   |nil=>exact absurd (.inl rfl) F
   |cons x r=>
   have hcr:gz o x.price=true:=by
    cases hc:gz o x.price with
    |true=>rfl
    |false=>exact absurd (.inr hc) F
   have hxb:=hs.may x (by simp);have hxl:=Od.left_bd hxb.1;replace i10:=i10.2 z;simp only[be]at i10;simp only[List.head?_cons,dC]at k3;have I:=k3;unfold dF at I;have V:=k1;unfold dF at V;have hs7:=hs.mod M7 d9;have i27:=i2.mod M7 id λ_ _ _ h=>h;have p7:=i5.mod M7 d9 d9;have MW:aR (G (!o.buy)) w w7:=i7.trans (M7.to);have hsz:=i7.size;have hqW:q<W.heap.size:=aB i4;have hsz7:=M7.size
   have S:∀x,aF sT x\/aF A x->x<W.heap.size:=λx c=>by
    rcases c with c|c
    ·exact i5.tr.lt c
    ·exact i5.go.lt c
   refine dN I ?_;refine dN I ?_;refine dN V ?_;refine dN V ?_;by_cases hac:x.acct=o.acct
   ·refine dY hac ?_;refine dN I ?_;refine dN I ?_;refine Cp hs7 λM w8 q8 R n8=>?_;rw[JD]at q8;have u8:=kW.upd (d:= !o.buy) i27 (by rw[gi];exact R) q8 (by rw[gi];exact n8)
    have P:∀y,y=p\/y=q\/y=r0->¬C y:=λy a u=>by
     have h1:=hG'x y u;rcases a with rfl|rfl|rfl
     ·exact h1.1 rfl
     ·exact h1.2 rfl
     ·have:=hs.lt u;omega
    have j1:=R.hpk k1 (P p (.inl rfl));have j2:=R.hpk k2 (P q (.inr (.inl rfl)));have j3:=R.hpk I (P r0 (.inr (.inr rfl)));have p8:=p7.mod R (λy a=>(l y (.inl a)).2.2.2) λy a=>(l y (.inr a)).2.2.2;refine dN j2 ?_;refine dN j2 ?_;refine dN j3 ?_;refine dN j3 ?_;refine wj (x:=x.num) (f:=vZ) yf (dB Oa) (λ_=>rfl) Gi rfl p8.go qZ qZ λU w9 o9 m9 n9=>?_;have hq9:¬aF A q:=λk=>(l q (.inr k)).2.2.1 rfl;have hp9:¬aF A p:=λk=>(l p (.inr k)).2.1 rfl;have j1' :=m9.hpk j1 hp9;have j2' :=m9.hpk j2 hq9;obtain⟨ga,gc,hsG',-⟩:=o9.isSl;refine dN j2' ?_;obtain⟨j4,m10⟩:=L9 (i:=1) (v:=U) j2' qZ;apply nE (w9.setCell ⟨q,1,none⟩ U) (by rw[hsG'];simp[go_sem,j2']);have hw8:=R.size;have hw9:=m9.size
    have hnew9:∀y,aF U y->w.heap.size<=y/\y≠p/\y≠q:=λy a=>by
     rcases n9 y a with j|j
     ·have:=l y (.inr j);exact⟨this.1,this.2.1,this.2.2.1⟩
     ·exact⟨qZ,qZ,qZ⟩
    have T:∀y,M y->G (!o.buy) y\/(w.heap.size<=y/\y≠p/\y≠q):=λy a=>by
     rcases n8 y a with j|j
     ·exact i3 y j
     ·exact .inr ⟨qZ,qZ,qZ⟩
    have D:∀y,aF sT y\/aF A y->¬M y:=λy a u=>by
     rcases n8 y u with j|j
     ·exact(l y a).2.2.2 j
     ·have:=S y a;omega
    have E:∀d y,jy (jy G (!o.buy) C) (!o.buy) M d y->y≠q/\¬aF A y:=λd y a=>by
     by_cases J:d= !o.buy
     ·subst J;rw[gi]at a;refine⟨?_,λk=>D y (.inr k) a⟩;rcases T y a with j|j
      ·have:=m _ y j;omega
      ·exact j.2.2
     ·unfold jy at a;rw[aa J,aa J]at a;have:=m _ y a;exact⟨qZ,λk=>by have:=(l y (.inr k)).1;omega⟩
    have e2:jy (jy G (!o.buy) C) (!o.buy) M=jy G (!o.buy) M:=by funext x;unfold jy;by_cases h:x= !o.buy<;>simp[h]
    have e3:(B.set (!o.buy) (x::r)).set (!o.buy) r=B.set (!o.buy) r:=by funext x;unfold Bk.set;by_cases h:x= !o.buy<;>simp[h]
    have u9:=(u8.mod m9 (λk=>by have:=(l b (.inr k)).1;omega) λd y a=>(E d y a).2).mod m10 qZ λd y a=>(E d y a).1;rw[e2,e3]at u9
    have MW10:aR (G (!o.buy)) w (w9.setCell ⟨q,1,none⟩ U):=
     ((MW.on R λy a=>(i3 y a).elim .inl λj=>.inr j.1).on m9 λy a=>.inr (l y (.inr a)).1).on m10 λy a=>gr
    have hI' :Xr w b s G B o p q (w9.setCell ⟨q,1,none⟩ U) left r t (g++[x.num]) f:=by
     refine⟨m10.hpk j1' qZ,⟨M,sT,U,u9,T,by simpa using j4,⟨(p8.tr.mod m9 λy a O=>p8.dj y a O).mod m10 λy a e=>(l y (.inl a)).2.2.1 e,o9.mod m10 λy a e=>(hnew9 y a).2.2 e,λy a O=>?_⟩,λy a=>?_⟩,MW10,?_,i9,by simp;omega,λ_=>by simp;omega⟩
     ·rcases n9 y O with j|j
      ·exact p8.dj y a j
      ·have:=S y (.inl a);omega
     ·rcases a with a|a
      ·have:=l y (.inl a);exact⟨this.1,this.2.1,this.2.2.1,D y (.inl a)⟩
      ·have h1:=hnew9 y a;refine⟨h1.1,h1.2.1,h1.2.2,λu=>?_⟩;rcases n9 y a with j|j
       ·exact D y (.inr j) u
       ·have:=q8.lt u;omega
     ·rw[i8,OI z hcr hac]
    apply hKN _ _ ⟨_,_,_,_,_,hI'⟩;rw[hI'.m,hm];simp only[be];split<;>omega
   ·refine fF hac ?_;obtain⟨n,Z⟩:=di (if left<x.left then left else x.left:Int);have hn1:1<=n/\n<=x.left/\n<=left:=by rw[Z];split<;>omega
    refine dN V ?_;refine dN V ?_;refine dN I ?_;refine dN I ?_;apply iI (gI n) w7 (by rw[Z];simp[go_sem];split<;>omega);refine Q6 hs7 hn1.1 hn1.2.1 λM w8 q8 R n8=>?_;have u8:=kW.upd (d:= !o.buy) i27 (by rw[gi];exact R) q8 (by rw[gi];exact n8)
    have P:∀y,y=p\/y=q\/y=r0->¬C y:=λy a u=>by
     have h1:=hG'x y u;rcases a with rfl|rfl|rfl
     ·exact h1.1 rfl
     ·exact h1.2 rfl
     ·have:=hs.lt u;omega
    have j1:=R.hpk V (P p (.inl rfl));have j2:=R.hpk k2 (P q (.inr (.inl rfl)));have j3:=R.hpk I (P r0 (.inr (.inr rfl)));have p8:=p7.mod R (λy a=>(l y (.inl a)).2.2.2) λy a=>(l y (.inr a)).2.2.2;have hw8:=R.size;refine dN j1 ?_;refine dN j1 ?_;apply ao (gI (left - n)) w8 (by simp[go_sem];rw[mR]);refine dN j1 ?_;refine S6 j1 ?_;have ma:aR (λb=>b=p) w8 (w8.setCell ⟨p,4,none⟩ (gI (left - n))):=(aR.refl (λb=>b=p) w8).sc;have ja:hC (w8.setCell ⟨p,4,none⟩ (gI (left - n))) p (dF {o with left:=left - n}).toArray jG:=by simp[go_sem,j1,dF]
    have jb:=ma.hpk j2 qZ;have jc:=ma.hpk j3 qZ;generalize w8.setCell ⟨p,4,none⟩ (gI (left - n))=wa at ma ja jb jc|-;refine dN jb ?_;refine dN jb ?_;apply ao (gI (f+n)) wa (by simp[go_sem];rw[mR]);refine dN jb ?_;refine S6 jb ?_;obtain⟨kb,mb⟩:=L9 (i:=2) (v:=gI (f+n)) jb qZ;have kb' :hC (wa.setCell ⟨q,2,none⟩ (gI (f+n))) q #[sT,A,gI (f+n),gI 0] 246:=by simpa using kb
    have ka:=mb.hpk ja qZ;have kc:=mb.hpk jc qZ;generalize wa.setCell ⟨q,2,none⟩ (gI (f+n))=wb at mb kb' ka kc|-;have mab:aR (λy=>y=p\/y=q) w8 wb:=(ma.mono λy _ h=>.inl h).trans (mb.mono λy _ h=>.inr h)
    have hpl:∀y,aF sT y\/aF A y->¬(y=p\/y=q):=λy a e=>by
     have:=l y a;rcases e with e|e
     ·exact this.2.1 e
     ·exact this.2.2.1 e
    have pb:=p8.mod mab (λy a=>hpl y (.inl a)) λy a=>hpl y (.inr a);have hsb:=mab.size;refine dN kb' ?_;refine dN kb' ?_;refine dN kc ?_;refine dN kc ?_;refine dN kc ?_;refine dN kc ?_;refine dN kc ?_;refine dN kc ?_;apply ao (.agg (FJ ⟨x.price,n,x.num,x.acct⟩).toArray) wb (by simp[go_sem,FJ]);refine wj (x:=(⟨x.price,n,x.num,x.acct⟩:Td)) (f:=FJ) Hu (dB Zv) (λ_=>rfl) VC rfl pb.tr qZ qZ λX wc oc mc nc=>?_;have hqc:¬aF sT q:=λk=>(l q (.inl k)).2.2.1 rfl;have hpc:¬aF sT p:=λk=>(l p (.inl k)).2.1 rfl;have la:=mc.hpk ka hpc;have lb:=mc.hpk kb' hqc;have hsc:=mc.size;obtain⟨ga,gc,hsT',-⟩:=oc.isSl;refine dN lb ?_;obtain⟨ld,mdd⟩:=L9 (i:=0) (v:=X) lb qZ;apply nE (wc.setCell ⟨q,0,none⟩ X) (by rw[hsT'];simp[go_sem,lb])
    have hnewc:∀y,aF X y->w.heap.size<=y/\y≠p/\y≠q:=λy a=>by
     rcases nc y a with j|j
     ·have:=l y (.inl j);exact⟨this.1,this.2.1,this.2.2.1⟩
     ·exact⟨qZ,qZ,qZ⟩
    have T:∀y,M y->G (!o.buy) y\/(w.heap.size<=y/\y≠p/\y≠q):=λy a=>by
     rcases n8 y a with j|j
     ·exact i3 y j
     ·exact .inr ⟨qZ,qZ,qZ⟩
    have D:∀y,aF sT y\/aF A y->¬M y:=λy a u=>by
     rcases n8 y u with j|j
     ·exact(l y a).2.2.2 j
     ·have:=S y a;omega
    have E:∀d y,jy (jy G (!o.buy) C) (!o.buy) M d y->y≠p/\y≠q/\¬aF sT y:=λd y a=>by
     by_cases J:d= !o.buy
     ·subst J;rw[gi]at a;refine⟨?_,?_,λk=>D y (.inl k) a⟩
      ·rcases T y a with j|j
       ·have:=m _ y j;omega
       ·exact j.2.1
      ·rcases T y a with j|j
       ·have:=m _ y j;omega
       ·exact j.2.2
     ·unfold jy at a;rw[aa J,aa J]at a;have:=m _ y a;exact⟨qZ,qZ,λk=>by have:=(l y (.inl k)).1;omega⟩
    have e2:jy (jy G (!o.buy) C) (!o.buy) M=jy G (!o.buy) M:=by funext x;unfold jy;by_cases h:x= !o.buy<;>simp[h]
    have e3:(B.set (!o.buy) (x::r)).set (!o.buy) (kZ (x::r) n)=B.set (!o.buy) (kZ (x::r) n):=by funext x;unfold Bk.set;by_cases h:x= !o.buy<;>simp[h]
    have u9:=((u8.mod mab (λk=>by rcases k with k|k<;>omega) λd y a k=>by rcases k with k|k;exact(E d y a).1 k;exact(E d y a).2.1 k).mod mc (λk=>by have:=(l b (.inl k)).1;omega) λd y a=>(E d y a).2.2).mod mdd qZ λd y a=>(E d y a).2.1;rw[e2,e3]at u9
    have MW10:aR (G (!o.buy)) w (wc.setCell ⟨q,0,none⟩ X):=
     (((MW.on R λy a=>(i3 y a).elim .inl λj=>.inr j.1).on mab λy a=>.inr (by rcases a with a|a<;>omega)).on mc λy a=>.inr (l y (.inl a)).1).on mdd λy a=>gr
    have hfl:(kZ (x::r) n).length<=r.length+1:=by unfold kZ;simp only;split<;>simp
    have hI' :Xr w b s G B o p q (wc.setCell ⟨q,0,none⟩ X) (left - n) (kZ (x::r) n) (t++[⟨x.price,n,x.num,x.acct⟩]) g (f+n):=by
     refine⟨mdd.hpk la qZ,⟨M,X,A,u9,T,by simpa using ld,⟨oc.mod mdd λy a e=>(hnewc y a).2.2 e,(pb.go.mod mc λy a O=>pb.dj y O a).mod mdd λy a e=>(l y (.inr a)).2.2.1 e,λy a O=>?_⟩,λy a=>?_⟩,MW10,?_,qZ,?_⟩
     ·rcases nc y a with j|j
      ·exact pb.dj y j O
      ·have:=S y (.inr O);omega
     ·rcases a with a|a
      ·have h1:=hnewc y a;refine⟨h1.1,h1.2.1,h1.2.2,λu=>?_⟩;rcases nc y a with j|j
       ·exact D y (.inl j) u
       ·have:=q8.lt u;omega
      ·have:=l y (.inr a);exact⟨this.1,this.2.1,this.2.2.1,D y (.inr a)⟩
     ·rw[i8];by_cases H:left<x.left
      ·rw[ae H]at Z;subst Z;rw[NK z hcr hac H];have Y:kZ (x::r) n={x with left:=x.left - n}::r:=by unfold kZ;simp only;rw[aa qZ]
       rw[Y,Int.sub_self]
      ·rw[aa H]at Z;subst Z;rw[NH z hcr hac H];have Y:kZ (x::r) x.left=r:=by unfold kZ;simp
       rw[Y]
     ·rw[af,ee];refine⟨qZ,λhl' =>?_⟩;by_cases H:left<x.left
      ·rw[ae H]at Z;omega
      ·rw[aa H]at Z;have Y:kZ (x::r) n=r:=by unfold kZ;rw[Z];simp
       rw[Y];omega
    apply hKN _ _ ⟨_,_,_,_,_,hI'⟩;rw[hI'.m,hm];simp only[be];by_cases H:left<x.left
    ·rw[ae H]at Z;have:¬0<left - n:=qZ;rw[aa this,ae z];omega
    ·rw[aa H]at Z;have Y:kZ (x::r) n=r:=by unfold kZ;rw[Z];simp
     rw[Y];split<;>omega
  ·refine fF z ?_;exact⟨left,L,t,g,f,hI,ur (.inl qZ)⟩
 rintro⟨⟩ W ⟨left,L,t,g,f,hI,hdone⟩;obtain⟨i1,⟨C,sT,A,i2,i3,i4,i5,l⟩,i7,i8,i9,i10⟩:=id hI;rw[hdone]at i8;have c:eT o o.left (B !o.buy)=(left,L,t,g,f):=by rw[i8];simp[Ai]
 refine kR ?_;intro _;have N:=i1;unfold dF at N
 have fin:∀(Q:Wt_) (M:Bool->Nat->Prop) (B' :Bk) (lf:Int),hC Q q (sw sT A f lf) 246->kW Q b s M B' ->Qh Q sT A t g->aR (λx=>G true x\/G false x) w Q->(∀d x,M d x->x≠q/\(G d x\/w.heap.size<=x))->
   (∀x,aF sT x\/aF A x->∀d,¬M d x)->(fC B o rests)=(B',⟨t,g,f,lf⟩)->
   rv pQ (iL 246 (bO q 0)) Q λv156 w157=>
    ru pQ (iS 246 (bO q 0) v156) w157 λw158=>
    nV pQ (iL 246 (bO q 0)) w158 λv159=>K v159 w158:=by
  intro Q M B' lf k1 k2 k3 k4 k5 k6 k7;obtain⟨ta,tc,hsT,-⟩:=k3.tr.isSl;obtain⟨ga,gc,hsG,-⟩:=k3.go.isSl;unfold sw at k1;apply ao (.agg (sw sT A f lf)) Q (by simp[go_sem,k1,sw])
  obtain⟨W2,hst,hW2,m2⟩:∃W2,(iS 246 (bO q 0) (.agg (sw sT A f lf))).run pQ Q=.ok () W2/\hC W2 q (sw sT A f lf) 246/\aR (λb=>b=q) Q W2:=by
   refine⟨(((Q.setCell ⟨q,0,none⟩ sT).setCell ⟨q,1,none⟩ A).setCell ⟨q,2,none⟩ (gI f)).setCell ⟨q,3,none⟩ (gI lf),?_,?_,((((aR.refl (λb=>b=q) Q).sc).sc).sc).sc⟩
   ·rw[hsT,hsG]at k1|-;simp[go_sem,k1,sw]
   ·simp[go_sem,k1,sw]
  apply iE hst;unfold sw at hW2;apply lN (.agg (sw sT A f lf)) (by simp[go_sem,hW2,sw]);have hk:=hK M sT A W2;rw[k7]at hk;refine hk (k2.mod m2 qZ λd x c=>(k5 d x c).1) (k3.mod m2 (λx c=>(l x (.inl c)).2.2.1) λx c=>(l x (.inr c)).2.2.1) (k4.on m2 λx c=>gr) (λd x c=>(k5 d x c).2) λx c=>⟨(l x c).1,k6 x c⟩
 have mfull:aR (λx=>G true x\/G false x) w W:=i7.mono λx _ c=>by
  cases k:o.buy<;>rw[k]at c
  ·exact .inl c
  ·exact .inr c
 have hG1:∀d x,jy G (!o.buy) C d x->x≠p/\x≠q/\(G d x\/w.heap.size<=x):=λd x c=>by
  by_cases J:d= !o.buy
  ·subst J;rw[gi]at c;rcases i3 x c with j|j
   ·have:=m _ x j;exact⟨qZ,qZ,.inl j⟩
   ·exact⟨j.2.1,j.2.2,.inr j.1⟩
  ·unfold jy at c;rw[aa J]at c;have:=m _ x c;exact⟨qZ,qZ,.inl c⟩
 have hS1:∀x,aF sT x\/aF A x->∀d,¬jy G (!o.buy) C d x:=λx c d u=>by
  by_cases J:d= !o.buy
  ·subst J;rw[gi]at u;exact(l x c).2.2.2 u
  ·unfold jy at u;rw[aa J]at u;have:=m _ x u;have:=(l x c).1;omega
 refine cT.at (λst Q=>st=(.bool (decide (rests=true/\0<left)),())/\Q=W) ?_ ?_
 ·cases rests with
  |true=>
   rw[kJ];refine dN N ?_;refine dN N ?_;refine dI ?_;exact⟨by simp,rfl⟩
  |false=>
   rw[jO];exact⟨by simp,rfl⟩
 rintro _ W ⟨rfl,rfl⟩;refine kR ?_;intro _;by_cases hr:rests=true/\0<left
 ·rw[oB hr];apply bo (lE (o:={o with left:=left}) (At.all i1));have hown:=i2.sd o.buy;have hbn:(o.buy= !o.buy)=False:=by cases o.buy<;>simp
  have Y:B.set (!o.buy) L o.buy=B o.buy:=by unfold Bk.set;rw[aa (by rw[hbn];exact id)]
  have e2:jy G (!o.buy) C o.buy=G o.buy:=by unfold jy;rw[aa (by rw[hbn];exact id)]
  rw[Y,e2]at hown;have hf' :Od.Fit {o with left:=left}:=⟨hof.1,hof.2.1,hof.2.2.1,by unfold ed;simp only;omega⟩
  refine Vd hown hf' λG3 w4 q4 m4 n4=>?_;have u4:=kW.upd (d:=o.buy) i2 (by rw[e2];exact m4) q4 (by rw[e2];exact n4);have hp4:¬G o.buy p:=λu=>by have:=m _ p u;omega
  have hq4:¬G o.buy q:=λu=>by have:=m _ q u;omega
  have j1:=m4.hpk N hp4;have j2:=m4.hpk i4 hq4;refine dN j1 ?_;refine dN j1 ?_;refine dN j2 ?_;refine S6 j2 ?_;obtain⟨j3,m5⟩:=L9 (i:=3) (v:=gI left) j2 qZ;have hsW:=i7.size;have hqW:q<W.heap.size:=aB i4
  have h2G:∀d x,jy (jy G (!o.buy) C) o.buy G3 d x->x≠q/\(G d x\/w.heap.size<=x)/\¬aF sT x/\¬aF A x:=λd x c=>by
   by_cases J:d=o.buy
   ·subst J;rw[gi]at c;rcases n4 x c with j|j
    ·have:=m _ x j;exact⟨qZ,.inl j,λk=>by have:=(l x (.inl k)).1;omega,λk=>by have:=(l x (.inr k)).1;omega⟩
    ·exact⟨qZ,gr,λk=>by have:=i5.tr.lt k;omega,λk=>by have:=i5.go.lt k;omega⟩
   ·have hx' :jy G (!o.buy) C d x:=by
     have:jy (jy G (!o.buy) C) o.buy G3 d=jy G (!o.buy) C d:=by
      conv=>lhs;unfold jy
      rw[aa J];rfl
     rw[this]at c;exact c
    have h1:=hG1 d x hx';exact⟨h1.2.1,h1.2.2,λk=>hS1 x (.inl k) d hx',λk=>hS1 x (.inr k) d hx'⟩
  refine fin _ (jy (jy G (!o.buy) C) o.buy G3) _ left (by simpa [sw]using j3) (u4.mod m5 qZ λd x c=>(h2G d x c).1)
   ((i5.mod m4 (λx c u=>by have:=m _ x u;have:=(l x (.inl c)).1;omega) λx c u=>by have:=m _ x u;have:=(l x (.inr c)).1;omega).mod m5 (λx c=>(l x (.inl c)).2.2.1) λx c=>(l x (.inr c)).2.2.1)
   ((mfull.on m4 λx c=>.inl (by cases k:o.buy<;>rw[k]at c;exact .inr c;exact .inl c)).on m5 λx c=>gr) (λd x c=>⟨(h2G d x c).1,(h2G d x c).2.1⟩) (λx c d u=>by rcases c with c|c;exact(h2G d x u).2.2.1 c;exact(h2G d x u).2.2.2 c) ?_
  unfold fC;rw[c];simp only;rw[ae hr,Y]
 ·rw[JP hr];apply fin W (jy G (!o.buy) C) _ 0 i4 i2 i5 mfull (λd x c=>⟨(hG1 d x c).2.1,(hG1 d x c).2.2⟩) hS1;unfold fC;rw[c];simp only;rw[aa hr]
end Go.Proofs
namespace Go.Proofs
open Go Go.Vc
attribute [local congr] bj
def gm:Value:=.slice none 0 0
def Xx{W:Wt_}{q:Nat}{e t m g sT sG:Vt_}{f l:Int}(h:hC W q #[e,t,m,g] 246)(i:∃a n c,sT=.slice a n c)(o:∃a n c,sG=.slice a n c):
  ∃d,(iS 246 (bO q 0) (.agg (sw sT sG f l))).run pQ W=.ok () d/\hC d q #[sT,sG,gI f,gI l] 246/\aR (λb=>b=q) W d:=by
 obtain⟨p,s,j,rfl⟩:=i;obtain⟨r,u,k,rfl⟩:=o;refine⟨(((W.setCell ⟨q,0,none⟩ (.slice p s j)).setCell ⟨q,1,none⟩ (.slice r u k)).setCell ⟨q,2,none⟩ (gI f)).setCell ⟨q,3,none⟩ (gI l),by simp[go_sem,h,sw],by simp[go_sem,h],((((aR.refl (λb=>b=q) W).sc).sc).sc).sc⟩
def WL{W:Wt_}{q:Nat}{sT sG:Vt_}{f l:Int}(h:hC W q #[sT,sG,gI f,gI l] 246):(iL 246 (bO q 0)).run pQ W=.ok (.agg (sw sT sG f l)) W:=by
 simp[go_sem,h,sw]
def Wd(W:Wt_):(Instr.build 246 #[]).run pQ W=.ok (.agg (sw gm gm 0 0)) W:=by
 simp[go_sem,sw,gm]
def Wz(w:Wt_):∃a,(iA 246 true (.tuple #[])).run pQ w=.ok (bO w.heap.size 0) a/\hC a w.heap.size #[gm,gm,gI 0,gI 0] 246/\M0 w a:=
 ⟨w.alloc (.cells #[gm,gm,gI 0,gI 0] 246),by simp[go_sem,gm],by simp[go_sem],(aR.refl _ w).alloc _⟩
def Jr(w:Wt_):Qh w gm gm [] []:=⟨ic.nil _ _ _,ic.nil _ _ _,λx a=>by cases a⟩
def db(B:Bk)(o:Od)(k:Int):Int×Bk×Pm:=
 if¬o.may\/k<1\/4<k then(2,B,⟨[],[],0,0⟩)
 else if(B.find o.num).isSome then(8,B,⟨[],[],0,0⟩)
 else if k=3/\jr (!o.buy) (B !o.buy) o.price o.acct<o.left then(70,B,⟨[],[],0,0⟩)
 else if k=4/\0<jr (!o.buy) (B !o.buy) o.price o.acct then(71,B,⟨[],[],0,0⟩)
 else if(k=1\/k=4)/\jr (!o.buy) (B !o.buy) o.price o.acct<o.left/\100<=(B o.buy).length then(9,B,⟨[],[],0,0⟩)
 else(0,fC B o (decide (k=1\/k=4)))
def RA{w:Wt_}{K:aZ}{b:Nat}{B:Bk}{s:Bool->Nat}{G:Bool->Nat->Prop}{o:Od}{k:Int}(h:kW w b s G B)(hof:o.Fit)(hk:0<=k/\k<256)
  (hK:∀O sT z Z,kW Z b s O (db B o k).2.1->Qh Z sT z (db B o k).2.2.trades (db B o k).2.2.gone->aR (λx=>G true x\/G false x) w Z->(∀d x,O d x->G d x\/w.heap.size<=x)->
   (∀x,aF sT x\/aF z x->w.heap.size<=x/\∀d,¬O d x)->K (.tuple #[.agg (sw sT z (db B o k).2.2.filled (db B o k).2.2.left),gI (db B o k).1]) Z):Ca pQ 155 #[fi b,kx o,gB k] w K:=by
 unfold fi;refine cN Tryz.func155 ?_;obtain⟨w1,e1,b1,m1⟩:=ux o w;apply bo e1;obtain⟨p,J⟩:=di w.heap.size;rw[<-J]at b1|-;obtain⟨w2,e2,b2,m2⟩:=Wz w1;apply bo e2;obtain⟨q,hq0⟩:=di w1.heap.size;rw[<-hq0]at b2|-;have hpq:p<q:=by have:=aB b1;omega
 have c1:=m2.hpk b1 id;have X:=m1.trans m2;have Q:∀{W W' :Wt_},M0 W W' ->aR (λx=>G true x\/G false x) W W' :=λm=>m.to;have hGlt:∀d x,G d x->x<p:=λd x c=>by rw[J];exact h.lt c
 have hbp:b<p:=by rw[J];exact aB h.blk
 have bad:∀e W,db B o k=(e,B,⟨[],[],0,0⟩)->M0 w2 W->
   rv pQ (Instr.build 246 #[]) W λv25 w26=>ru pQ (iS 246 (bO q 0) v25) w26 λP=>
    nV pQ (iL 246 (bO q 0)) P λv28=>K (.tuple #[v28,gI e]) P:=by
  intro e W N mW;apply bo (Wd W);obtain⟨W2,C,hW2,g⟩:=Xx (sT:=gm) (sG:=gm) (f:=0) (l:=0) (mW.hpk b2 id) ⟨_,_,_,rfl⟩ ⟨_,_,_,rfl⟩;apply iE C;apply cK (WL hW2);have j:=hK G gm gm W2;rw[N]at j;have M:=X.trans mW;exact j ((h.mod M id λ_ _ _ h=>h).mod g qZ λd x c=>by grind) (Jr _) ((Q M).on g λx c=>gr) (λd x c=>.inl c) λx c=>by rcases c with c|c<;>cases c
 have h2:=h.mod X id λ_ _ _ h=>h;apply qj h2.q;refine eU ?_;refine cT.at (λst W=>st=(.bool (decide (¬o.may\/k<1\/4<k)),())/\M0 w2 W) ?_ ?_
 ·apply bo (lE (o:=o) (At.all c1));refine vS λw3 g=>?_;refine dI ?_;cases hm:o.may with
  |false=>
   rw[ay,ae (show(!false)=true from rfl)];exact⟨by simp,g⟩
  |true=>
   rw[ay,aa (by simp)];by_cases h1:k<1
   ·refine dY h1 ?_;exact⟨by simp[h1],g⟩
   ·refine fF h1 ?_;refine dI ?_;exact⟨by simp[h1],g⟩
 rintro _ w3 ⟨rfl,g⟩;refine kR ?_;intro _;by_cases a:¬o.may\/k<1\/4<k
 ·rw[oB a];exact bad 2 w3 (by unfold db;rw[ae a]) g
 rw[JP a]
 have R:o.may=true:=by
  apply aQ;intro y;exact a (.inl y)
 have d1:=g.hpk c1 id;have r:=d1;unfold dF at r;refine dN r ?_;refine dN r ?_;have h3:=h2.mod g id λ_ _ _ h=>h;refine vQ h3.blk h3.sd (λhnf w4 m4=>?_) λfo d hfo _ w4 m4=>?_
 ·refine dI ?_;refine dI ?_;obtain⟨w5,e5,b5,m5⟩:=jY w4;apply bo e5;obtain⟨L,e6,b6,m6⟩:=jE (o' :=oQ) b5;apply iE e6;have H:=m5.on m6 λb hb=>gr;have E:=m4.trans H;have M6:=g.trans E;have f1:=E.hpk r id;have hs6:=M6.size;refine eU ?_;refine dN f1 ?_;refine dN f1 ?_;have h6:=h3.mod E id λ_ _ _ h=>h;apply CI (s:=s) h6.blk;have md:M0 L L.drew:=vz;have h7:=h6.mod md id λ_ _ _ h=>h;have A:=md.hpk f1 id;have f2o:=A;have M7:=M6.trans md;generalize L.drew=w7 at h7 A f2o M7|-;refine dI ?_;refine dI ?_;refine dN A ?_;refine dN A ?_;refine dN A ?_;refine dN A ?_;refine NJ (h7.sd (!o.buy)) λi m8=>?_;have h8:=h7.mod m8 id λ_ _ _ h=>h;have T:=m8.hpk A id;have f3o:=T;have I:=M7.trans m8;obtain⟨n,S⟩:=di (jr (!o.buy) (B !o.buy) o.price o.acct);rw[<-S]
  have F:db B o k=if k=3/\n<o.left then(70,B,⟨[],[],0,0⟩)else if k=4/\0<n then(71,B,⟨[],[],0,0⟩)else if(k=1\/k=4)/\n<o.left/\100<=(B o.buy).length then(9,B,⟨[],[],0,0⟩)else(0,fC B o (decide (k=1\/k=4))):=by
   unfold db;rw[aa a,aa (by rw[hnf];simp),<-S]
  refine cT.at (λst W=>st=(.bool (decide (k=1\/k=4)),())/\W=i) ?_ ?_
  ·by_cases u:k=1
   ·refine dY u ?_;exact⟨by simp[u],rfl⟩
   ·refine fF u ?_;apply ao (.bool (decide (k=4))) i (by simp[go_sem];rw[dh];simp);exact⟨by simp[u],rfl⟩
  rintro _ i ⟨rfl,rfl⟩;refine kR ?_;intro _;refine cT.at (λst W=>st=(.bool (decide (k=3/\n<o.left)),())/\W=i) ?_ ?_
  ·by_cases t:k=3
   ·refine dY t ?_;refine dN T ?_;refine dN T ?_;refine dI ?_;exact⟨by simp[t],rfl⟩
   ·refine fF t ?_;exact⟨by simp[t],rfl⟩
  rintro _ i ⟨rfl,rfl⟩;refine kR ?_;intro _;by_cases Y:k=3/\n<o.left
  ·rw[oB Y];exact bad 70 i (by rw[F,ae Y]) I
  rw[JP Y];refine cT.at (λst W=>st=(.bool (decide (k=4/\0<n)),())/\W=i) ?_ ?_
  ·by_cases v:k=4
   ·refine dY v ?_;refine dI ?_;exact⟨by simp[v],rfl⟩
   ·refine fF v ?_;exact⟨by simp[v],rfl⟩
  rintro _ i ⟨rfl,rfl⟩;refine kR ?_;intro _;by_cases D:k=4/\0<n
  ·rw[oB D];exact bad 71 i (by grind) I
  rw[JP D];refine cT.at (λst W=>st=(.bool (decide ((k=1\/k=4)/\n<o.left/\100<=(B o.buy).length)),())/\W=i) ?_ ?_
  ·by_cases N:k=1\/k=4
   ·rw[oB N];refine dN T ?_;refine dN T ?_;by_cases V:n<o.left
    ·refine dY V ?_;apply TX (h8.sd o.buy);refine dI ?_;refine⟨?_,rfl⟩
     have e:decide ((100:Int)<=((B o.buy).length:Int))=decide ((k=1\/k=4)/\n<o.left/\100<=(B o.buy).length):=by
      rw[kU];exact⟨λh=>⟨N,V,qZ⟩,λh=>qZ⟩
     rw[e]
    ·refine fF V ?_;refine⟨?_,rfl⟩;rw[bD (λy=>V y.2.1)]
   ·rw[JP N];refine⟨?_,rfl⟩;rw[bD (λy=>N y.1)]
  rintro _ i ⟨rfl,rfl⟩;refine kR ?_;intro _;by_cases y:(k=1\/k=4)/\n<o.left/\100<=(B o.buy).length
  ·rw[oB y];exact bad 9 i (by grind) I
  rw[ay,aa (by grind)];rw[aa Y,aa D,aa y]at F;apply bo (lE (o:=o) (At.all f3o));refine LP h8 hof R λO sT z w9 r9 p9 m9 n9 s9=>?_;obtain⟨ta,tc,hsT,-⟩:=p9.tr.isSl;obtain⟨ga,gc,hsG,-⟩:=p9.go.isSl;have hq8:¬(G true q\/G false q):=λhg=>by grind
  have f4:=m9.hpk (I.hpk b2 id) hq8;have hs8:=I.size;have hq2:=aB b2;obtain⟨wa,C,ja,ma⟩:=Xx (sT:=sT) (sG:=z) (f:=(fC B o (decide (k=1\/k=4))).2.filled) (l:=(fC B o (decide (k=1\/k=4))).2.left) f4 ⟨_,_,_,hsT⟩ ⟨_,_,_,hsG⟩;apply iE C;apply cK (WL ja);have j:=hK O sT z wa;rw[F]at j;have hsw:=(X.trans I).size;refine j (r9.mod ma qZ λd x c=>?_) (p9.mod ma (λx c=>?_) λx c=>?_) (((Q (X.trans I)).trans m9).on ma λx c=>gr) (λd x c=>?_) λx c=>⟨by grind,(s9 x c).2⟩
  ·rcases n9 d x c with U|U
   ·grind
   ·omega
  ·grind
  ·grind
  ·rcases n9 d x c with U|U
   ·exact .inl U
   ·exact gr
 ·refine dI ?_;refine dI ?_;obtain⟨w5,e5,b5,m5⟩:=jY w4;apply bo e5;obtain⟨L,e6,b6,m6⟩:=jE (o' :=fo) b5;apply iE e6;have H:=m5.on m6 λb hb=>gr;apply ao (.bool true) L (by simp[go_sem,dz]);rw[kJ];exact bad 8 L (by unfold db;rw[aa a,ae (by rw[hfo];rfl)]) ((g.trans m4).trans H)
end Go.Proofs
namespace Go.Proofs
open Go Go.Vc
attribute [local congr] bj
variable {B:Bk}{b:Nat}{w:Wt_}{K:aZ}
def Ll{W:Wt_}{q:Nat}{e o:Od}{K:Value->World->Prop}(h:hC W q (dF e).toArray jG)
  (g:∀c,aR (λb=>b=q) W c->K (kx o) c):
  ru pQ (iS jG (bO q 0) (kx o)) W λa=>nV pQ (iL jG (bO q 0)) a λj=>K j a:=by
 obtain⟨k,d,f,i⟩:=jE (o' :=o) h;apply iE d;apply cK (lE (o:=o) (At.all f));exact g _ i
def fq(B:Bk)(n:Int):Int×Bk×Od:=
 match B.find n with
 |none=>(7,B,oQ)
 |some (o,d)=>(0,B.set d (oX (B d) n),o)
def PD{s:Bool->Nat}{G:Bool->Nat->Prop}{n:Int}(h:kW w b s G B)
  (g:∀v,M0 w v->K (.tuple #[kx (match B.find n with|none=>oQ|some (o,_)=>o),gI (match B.find n with|none=>7|some _=>0)]) v):Ca pQ 268 #[fi b,gQ n] w K:=by
 unfold fi;refine cN Tryz.func268 ?_;obtain⟨E,C,j,p⟩:=jY w;apply bo C;obtain⟨q,l⟩:=di w.heap.size;rw[<-l]at j|-;have h1:=h.mod p id λ_ _ _ h=>h;apply qj h1.q;refine eU ?_;refine vQ h1.blk h1.sd (λA u a=>?_) λo d z F u a=>?_
 ·rw[A]at g;refine dI ?_;refine dI ?_;obtain⟨y,r,k,c⟩:=jY u;apply bo r;obtain⟨i,t,x,f⟩:=jE (o' :=oQ) k;apply iE t;refine lh ?_;apply ao (kx oQ) i (by simp[go_sem,kx,dF,oQ]);have M:=p.trans (a.trans (c.on f λb e=>gr));refine Ll ((a.trans (c.on f λb e=>gr)).hpk j id) λD m=>?_;exact g _ (M.on m λb e=>gr)
 ·rw[z]at g;refine dI ?_;refine dI ?_;obtain⟨y,r,k,c⟩:=jY u;apply bo r;obtain⟨i,t,x,f⟩:=jE (o' :=o) k;apply iE t;apply ao (.bool false) i (by simp[go_sem,dz]);rw[jO];apply bo (lE (o:=o) (At.all x));have M:=p.trans (a.trans (c.on f λb e=>gr));refine Ll ((a.trans (c.on f λb e=>gr)).hpk j id) λD m=>?_;exact g _ (M.on m λb e=>gr)
def GJ{s:Bool->Nat}{G:Bool->Nat->Prop}{n:Int}(h:kW w b s G B)
  (t:∀N z,kW z b s N (fq B n).2.1->aR (λx=>G true x\/G false x) w z->(∀d x,N d x->G d x\/w.heap.size<=x)->
   K (.tuple #[kx (fq B n).2.2,gI (fq B n).1]) z):Ca pQ 212 #[fi b,gQ n] w K:=by
 unfold fi;refine cN Tryz.func212 ?_;obtain⟨w1,e1,y,D⟩:=jY w;apply bo e1;obtain⟨q,c⟩:=di w.heap.size;rw[<-c]at y|-;have k:∀{W U:Wt_},M0 W U->aR (λx=>G true x\/G false x) W U:=λm=>m.to;have P:∀d x,G d x->x<q:=λd x a=>by rw[c];exact h.lt a
 have Y:b<q:=by rw[c];exact aB h.blk
 have h1:=h.mod D id λ_ _ _ h=>h;apply qj h1.q;refine eU ?_;refine vQ h1.blk h1.sd (λhn H l=>?_) λo d hf X H l=>?_
 ·refine dI ?_;refine dI ?_;obtain⟨V,E,C,p⟩:=jY H;apply bo E;obtain⟨v,F,b4,u⟩:=jE (o' :=oQ) C;apply iE F;refine lh ?_;apply ao (kx oQ) v (by simp[go_sem,kx,dF,oQ]);have M:=D.trans (l.trans (p.on u λb A=>gr));refine Ll ((l.trans (p.on u λb A=>gr)).hpk y id) λT i=>?_;have r:=M.on i λb A=>gr;have e:fq B n=(7,B,oQ):=by unfold fq;rw[hn]
  rw[e]at t;exact t G _ (h.mod r id λ_ _ _ h=>h) (k r) λd x a=>.inl a
 ·refine dI ?_;refine dI ?_;obtain⟨V,E,C,p⟩:=jY H;apply bo E;obtain⟨v,F,b4,u⟩:=jE (o' :=o) C;apply iE F;apply ao (.bool false) v (by simp[go_sem,dz]);rw[jO];have j:=l.trans (p.on u λb A=>gr);have I:=D.trans j;have Q:=h.mod I id λ_ _ _ h=>h;have hs4:=I.size;have R:=j.hpk y id;refine Cp (Q.sd d) λO T s5 i L=>?_;rw[X];refine dI ?_;refine dI ?_;have q5:=i.hpk R λa=>by grind
  refine Ll q5 λw6 J=>?_;have e:fq B n=(0,B.set d (oX (B d) n),o):=by unfold fq;rw[hf]
  rw[e]at t;have r:aR (λx=>G true x\/G false x) w T:=(k I).trans (i.mono λx _ a=>by cases d;exact .inr a;exact .inl a);have h5:=Q.upd i s5 L
  have g:∀e x,jy G d O e x->G e x\/(w.heap.size<=x/\x≠q):=λe x a=>by
   by_cases S:e=d
   ·subst S;rw[gi]at a;rcases L x a with f|f
    ·exact .inl f
    ·exact .inr ⟨qZ,by have:=aB R;omega⟩
   ·unfold jy at a;rw[aa S]at a;exact .inl a
  refine t (jy G d O) _ (h5.mod J qZ λe x a Z=>?_) (r.on J λx a=>gr) λe x a=>(g e x a).imp id (·.1);rcases g e x a with f|f
  ·grind
  ·exact f.2 Z
def cF(B:Bk)(n price left:Int):Int×Bk×Pm:=
 match B.find n with
 |none=>(7,B,⟨[],[],0,0⟩)
 |some (o,d)=>
  if({o with price:=price,left:=left}:Od).may=false then(2,B,⟨[],[],0,0⟩)
  else if price=o.price/\left<=o.left then((rh (B d) n left).1,B.set d (rh (B d) n left).2,⟨[],[],0,left⟩)
  else(0,fC (B.set d (oX (B d) n)) {o with price:=price,left:=left} true)
def Yn(W:Wt_)(x:Int):(Instr.build 246 #[(3,gI x)]).run pQ W=.ok (.agg (sw gm gm 0 x)) W:=by
 simp[go_sem,sw,gm]
def D5{F:NP_}(h:gg w b F B)
  (y:∀n p j,gg j n p B->M0 w j->(∀x,p x->w.heap.size<=x)->K (fi n) j):Ca pQ 93 #[fi b] w K:=by
 unfold fi;refine cN Tryz.func93 ?_;apply qj h;obtain⟨s,G,C,-⟩:=h.r;refine eU ?_;have md:M0 w w.drew:=vz;have g:=C.mod md id λ_ _ _ h=>h;have m:=g.blk;simp only[fi,bU];refine sB ?_;refine AV m ?_;refine sB ?_;refine AV m ?_;refine FV (g.sd true) λs1 q H l f E=>?_;have z:=f.hpk m id;refine⟨by simp[go_sem,z],?_⟩;have h1:=g.mod f id λ_ _ _ h=>h;refine FV (h1.sd false) λe o a t i r=>?_;apply du (.agg #[dz s1,dz e]) (λ_=>by simp[go_sem,dz]);have k:M0 a (a.alloc (.cells #[dz s1,dz e] 242)):=mG;apply ao (fi a.heap.size) (a.alloc (.cells #[dz s1,dz e] 242)) rfl;have v:=md.size;have A:=f.size;have D:=i.size;refine y a.heap.size (λx=>x=a.heap.size\/q x\/o x) _ ⟨λd=>if d then s1 else e,λd=>if d then q else o,by simp[go_sem],λd=>?_,λx=>aG,λd=>?_,λx h1 u=>?_⟩ (((md.trans f).trans i).trans k) λx c=>?_
 ·cases d
  ·exact t.mod k d9
  ·exact(l.mod i d9).mod k d9
 ·cases d
  ·intro h;have:=t.lt h;omega
  ·intro h;have:=l.lt h;omega
 ·have I:=l.lt h1;have J:=r x u;omega
 ·rcases c with rfl|c|c
  ·omega
  ·have:=E x c;omega
  ·have:=r x c;omega
end Go.Proofs
namespace Go.Proofs
open Go Go.Vc
attribute [local congr] bj
variable {W:Wt_}
def TJ{p:Nat}{o:Od}(h:hC W p (dF o).toArray jG)(x:Int):
  ∃a,(iF jG (bO p 0) 3).run pQ W=.ok (bO p 3) W/\(iS 2 (bO p 3) (gI x)).run pQ W=.ok () a/\
   hC a p (dF {o with price:=x}).toArray jG/\aR (λb=>b=p) W a:=by
 unfold dF at h;exact⟨W.setCell ⟨p,3,none⟩ (gI x),by simp[go_sem],by simp[go_sem,h],by simp[go_sem,h,dF],(aR.refl (λb=>b=p) W).sc⟩
def WN{p:Nat}{o:Od}(h:hC W p (dF o).toArray jG)(x:Int):
  ∃a,(iF jG (bO p 0) 4).run pQ W=.ok (bO p 4) W/\(iS 2 (bO p 4) (gI x)).run pQ W=.ok () a/\
   hC a p (dF {o with left:=x}).toArray jG/\aR (λb=>b=p) W a:=by
 unfold dF at h;exact⟨W.setCell ⟨p,4,none⟩ (gI x),by simp[go_sem],by simp[go_sem,h],by simp[go_sem,h,dF],(aR.refl (λb=>b=p) W).sc⟩
def Rm{q:Nat}{i u s m sT sG:Vt_}{f l:Int}{K:Value->World->Prop}(h:hC W q #[i,u,s,m] 246)(o:∃a n c,sT=.slice a n c)(t:∃a n c,sG=.slice a n c)
  (p:∀g,aR (λb=>b=q) W g->K (.agg (sw sT sG f l)) g):
  ru pQ (iS 246 (bO q 0) (.agg (sw sT sG f l))) W λe=>nV pQ (iL 246 (bO q 0)) e λk=>K k e:=by
 obtain⟨v,d,j,r⟩:=Xx (f:=f) (l:=l) h o t;apply iE d;apply cK (WL j);exact p _ r
def Lb:∃a n c,gm=.slice a n c:=⟨_,_,_,rfl⟩
def JO{w:Wt_}{K:aZ}{b:Nat}{B:Bk}{s:Bool->Nat}{G:Bool->Nat->Prop}{n price left:Int}(h:kW w b s G B)(P:ed price)(v:ed left)
  (M:∀L sT Q w',kW w' b s L (cF B n price left).2.1->Qh w' sT Q (cF B n price left).2.2.trades (cF B n price left).2.2.gone->aR (λx=>G true x\/G false x) w w' ->(∀d x,L d x->G d x\/w.heap.size<=x)->
   (∀x,aF sT x\/aF Q x->w.heap.size<=x/\∀d,¬L d x)->K (.tuple #[.agg (sw sT Q (cF B n price left).2.2.filled (cF B n price left).2.2.left),gI (cF B n price left).1]) w'):Ca pQ 217 #[fi b,gQ n,gI price,gI left] w K:=by
 unfold fi;refine cN Tryz.func217 ?_;obtain⟨w1,e1,b1,U⟩:=Wz w;apply bo e1;obtain⟨q,C⟩:=di w.heap.size;rw[<-C]at b1|-;have E:∀{W W' :Wt_},M0 W W' ->aR (λx=>G true x\/G false x) W W' :=λm=>m.to;have hGlt:∀d x,G d x->x<q:=λd x a=>by rw[C];exact h.lt a
 have hbq:b<q:=by rw[C];exact aB h.blk
 have hs1:=U.size;have hq1:=aB b1;have h1:=h.mod U id λ_ _ _ h=>h;apply qj h1.q;refine eU ?_
 have bad:∀(e:Int) (W:Wt_),cF B n price left=(e,B,⟨[],[],0,0⟩)->M0 w1 W->
   rv pQ (Instr.build 246 #[]) W λv25 w26=>ru pQ (iS 246 (bO q 0) v25) w26 λN=>
    nV pQ (iL 246 (bO q 0)) N λv28=>K (.tuple #[v28,gI e]) N:=by
  intro e W hr mW;apply bo (Wd W);refine Rm (mW.hpk b1 id) Lb Lb λw5 m5=>?_;rw[hr]at M;have M5:=(U.trans mW).on m5 λx a=>gr;exact M G gm gm _ (h.mod M5 id λ_ _ _ h=>h) (Jr _) (E M5) (λd x a=>.inl a) λx a=>by rcases a with a|a<;>cases a
 refine vQ h1.blk h1.sd (λhn Z m2=>?_) λo d hf hg Z m2=>?_
 ·refine dI ?_;refine dI ?_;obtain⟨w3,e3,b3,m3⟩:=jY Z;apply bo e3;obtain⟨S,e4,b4,m4⟩:=jE (o' :=oQ) b3;apply iE e4;refine lh ?_;exact bad 7 S (by unfold cF;rw[hn]) (m2.trans (m3.on m4 λb O=>gr))
 ·have R:=(h.sd d).may o (dG hg);refine dI ?_;refine dI ?_;obtain⟨w3,e3,b3,m3⟩:=jY Z;apply bo e3;obtain⟨p,hp0⟩:=di Z.heap.size;rw[<-hp0]at b3|-;obtain⟨S,e4,b4,m4⟩:=jE (o' :=o) b3;apply iE e4;apply ao (.bool false) S (by simp[go_sem,dz]);rw[jO];apply bo (lE (o:=o) (At.all b4));have m24:=m3.on m4 λb O=>gr;have hs2:=m2.size;obtain⟨w5,e5,b5,m5⟩:=jY S;apply bo e5;obtain⟨r,T⟩:=di S.heap.size;rw[<-T]at b5|-;obtain⟨w6,e6,b6,m6⟩:=jE (o' :=o) b5;apply iE e6;have hpr:p<r:=by rw[T];exact aB b4
  have p6:=(m5.on m6 λb O=>gr).hpk b4 id;obtain⟨w7,f7,e7,b7,m7⟩:=TJ p6 price;apply bo f7;apply iE e7;obtain⟨w8,f8,e8,b8,m8⟩:=WN b7 left;apply bo f8;apply iE e8;apply bo (lE (At.all b8));have hpq:q<p:=qZ;have M28:M0 Z w8:=(((m24.trans (m5.on m6 λb O=>gr)).on m7 λb O=>gr).on m8 λb O=>gr)
  have r8:=m8.hpk (m7.hpk b6 qZ) qZ;refine vS λw9 m9=>?_;have k:M0 w1 w9:=(m2.trans M28).trans m9;have b9:=m9.hpk b8 id;have r9:=m9.hpk r8 id;cases g:({o with price:=price,left:=left}:Od).may with
  |false=>
   have hmay' :({num:=o.num,acct:=o.acct,buy:=o.buy,price:=price,left:=left}:Od).may=false:=g;refine lh ?_;exact bad 2 w9 (by unfold cF;rw[hf];simp only;rw[ae g]) k
  |true=>
   refine eU ?_;have q9:=k.hpk b1 id;have hs9:=k.size;have h9:=h1.mod k id λ_ _ _ h=>h;have hq9:=aB q9;have hr9' :=aB r9;refine cT.at (λst W=>st=(.bool (decide (price=o.price/\left<=o.left)),())/\W=w9) ?_ ?_
   ·have D:=r9;unfold dF at D;refine dI ?_;refine dN D ?_;by_cases u:price=o.price
    ·refine dY u ?_;refine dI ?_;refine dN D ?_;refine dI ?_;exact⟨by simp[u],rfl⟩
    ·refine fF u ?_;exact⟨by simp[u],rfl⟩
   rintro _ w9 ⟨rfl,rfl⟩;refine kR ?_;intro _;by_cases j:price=o.price/\left<=o.left
   ·rw[oB j];apply bo (Yn _ left);refine OP (h9.sd d) v λX H z f t=>?_;have J:=f.hpk q9 λa=>by grind
    have e:cF B n price left=((rh (B d) n left).1,B.set d (rh (B d) n left).2,⟨[],[],0,left⟩):=by
     unfold cF;rw[hf];simp only;rw[aa (by rw[g];simp),ae j]
    rw[e]at M;refine Rm J Lb Lb λw11 l=>?_;have F:aR (λx=>G true x\/G false x) w H:=(E (U.trans k)).trans (f.mono λx _ a=>by cases d;exact .inr a;exact .inl a);have A:=h9.upd f z t
    have i:∀e x,jy G d X e x->G e x\/(w.heap.size<=x/\x≠q):=λe x a=>by
     by_cases V:e=d
     ·subst V;rw[gi]at a;rcases t x a with c|c
      ·exact .inl c
      ·grind
     ·unfold jy at a;rw[aa V]at a;exact .inl a
    refine M (jy G d X) gm gm _ (A.mod l qZ λe x a hq=>?_) (Jr _) (F.on l λx a=>gr) (λe x a=>(i e x a).imp id (·.1)) λx a=>by rcases a with a|a<;>cases a
    rcases i e x a with c|c
    ·grind
    ·exact c.2 hq
   ·rw[JP j];refine Cp (h9.sd d) λX H z f t=>?_;have J:=f.hpk q9 λa=>by grind
    have p10:=f.hpk b9 λa=>by grind
    have hs10:=f.size;have F:aR (λx=>G true x\/G false x) w H:=(E (U.trans k)).trans (f.mono λx _ a=>by cases d;exact .inr a;exact .inl a);have A:=h9.upd f z t
    have i:∀e x,jy G d X e x->G e x\/(w.heap.size<=x/\x≠q):=λe x a=>by
     by_cases V:e=d
     ·subst V;rw[gi]at a;rcases t x a with c|c
      ·exact .inl c
      ·grind
     ·unfold jy at a;rw[aa V]at a;exact .inl a
    have hxq:∀e x,jy G d X e x->x≠q:=λe x a=>by
     rcases i e x a with c|c
     ·grind
     ·exact c.2
    apply bo (lE (At.all p10));refine LP A ⟨R.2.2.1,R.2.2.2.1,P,v⟩ g λL sT Q w11 r11 I l n11 s11=>?_
    have e:cF B n price left=(0,fC (B.set d (oX (B d) n)) {o with price:=price,left:=left} true):=by
     unfold cF;rw[hf];simp only;rw[aa (by rw[g];simp),aa j]
    rw[e]at M;obtain⟨ta,tc,hsT,-⟩:=I.tr.isSl;obtain⟨ga,gc,hsG,-⟩:=I.go.isSl;have q11:=l.hpk J (by grind);refine Rm q11 ⟨_,_,_,hsT⟩ ⟨_,_,_,hsG⟩ λw12 y=>?_
    have Y:∀e x,L e x->G e x\/(w.heap.size<=x/\x≠q):=λe x a=>by
     rcases n11 e x a with c|c
     ·exact i e x c
     ·grind
    refine M L sT Q w12 (r11.mod y qZ λe x a hq=>?_) (I.mod y (λx a=>?_) λx a=>?_) ((F.on l λx a=>?_).on y λx a=>gr) (λe x a=>(Y e x a).imp id (·.1)) λx a=>⟨by grind,(s11 x a).2⟩
    ·rcases Y e x a with c|c
     ·grind
     ·exact c.2 hq
    ·grind
    ·grind
    ·rcases a with a|a
     ·rcases i _ x a with c|c
      ·exact .inl (.inl c)
      ·exact .inr c.1
     ·rcases i _ x a with c|c
      ·exact .inl (.inr c)
      ·exact .inr c.1
end Go.Proofs
namespace Go.Proofs
open Go Go.Vc
attribute [local congr] bj
variable {xs:List (List Value)}{gv:Vt_}
structure Sl(P:Program)(gv:Vt_)(xs:List (List Value))(Ok:World->Prop):Prop where
 out:∃f first captured,gv=.func (.func f) first captured/\∀(yl:Nat) (J:(Nat->Prop)->Nat->World->Prop) (Js:(Nat->Prop)->World->Prop) (W:Wt_) (K:aZ),Ok W->
  (∀Q W1,M0 W W1->(∀b,Q b->W.heap.size<=b/\b<W1.heap.size)->J Q 0 W1)->
  (∀Q Q' i W W',J Q i W->aR Q W W' ->(∀b,Q' b->(Q b\/W.heap.size<=b)/\b<W'.heap.size)->J Q' i W')->
  (∀Q Q' W W',Js Q W->aR Q W W' ->(∀b,Q' b->(Q b\/W.heap.size<=b)/\b<W'.heap.size)->Js Q' W')->
  (∀Q i x W,xs[i]? =some x->J Q i W->∀K' :aZ,(∀W',J Q (i+1) W' ->W.heap.size<=W'.heap.size->(∀b,Q b->W'.heap[b]? =W.heap[b]?)->K' (.bool true) W')->(∀W',Js Q W' ->W.heap.size<=W'.heap.size->(∀b,Q b->W'.heap[b]? =W.heap[b]?)->K' (.bool false) W')->lA P (.func (.yield yl) #[] #[]) x W K')->
  (∀Q W,J Q xs.length W->K (.tuple #[]) W)->(∀Q W,Js Q W->K (.tuple #[]) W)->Ca P f ⟨first.toList++((.func (.yield yl) #[] #[])::captured.toList)⟩ W K
def QI{P:Program}{Ok:World->Prop}(h:BB P gv xs Ok):Sl P gv xs Ok:=by
 obtain⟨f,first,k,e,r⟩:=h.out;refine⟨f,first,k,e,λv J t W K o p g m l c n=>?_⟩;refine r _ (λQ i W=>J Q i W/\∀b,Q b->b<W.heap.size) (λW=>∃Q,t Q W) W K o (λQ q j d=>⟨p Q q j d,λb a=>(d b a).2⟩) ?_ ?_ (λQ W h=>c Q W h.1) λW ⟨Q,h⟩=>n Q W h
 ·rintro Q i W u ⟨s,d⟩ j;exact⟨g Q Q i W u s (j.to) λb a=>⟨.inl a,bI (d b a) j.size⟩,λb a=>bI (d b a) j.size⟩
 ·grind
structure pE(gv:Vt_)(xs:List (List Value))(w:Wt_):Prop where
 out:∃Ok,Sl pQ gv xs Ok/\∀W,M0 w W->Ok W
 fn:∃f cap,gv=.func (.func f) #[] cap
def Dn.m{w:Wt_}(h:Dn gv xs w):pE gv xs w:=by
 obtain⟨⟨Ok,h1,a⟩,b⟩:=h;exact⟨⟨Ok,QI h1,a⟩,b⟩
def pE.mod{w w' :Wt_}(h:pE gv xs w)(a:M0 w w'):pE gv xs w' :=by
 obtain⟨⟨Ok,h1,b⟩,c⟩:=h;exact⟨⟨Ok,h1,λW m=>b W (a.trans m)⟩,c⟩
def oH(T:TypeId){α:Type}(fv:α->Value)(fc:α->List Value)(xs:List α):Prop:=
 ∀a∈xs,∀W:World,∃w1 w2,(iA T true (.tuple #[])).run pQ W=.ok (bO W.heap.size 0) w1/\(iS T (bO W.heap.size 0) (fv a)).run pQ w1=.ok () w2/\
  hC w2 W.heap.size (fc a).toArray T/\M0 W w2
section
variable{w:Wt_}{gv:Vt_}{α:Type}{xs:List α}{T:TypeId}{fv:α->Value}{fc:α->List Value}{body:Value->World->(World->Prop)->(Code->World->Prop)->Prop}{after:List Nat->Option Code->World->Prop}{X0:NP_}
def Ek(ht:pE gv (xs.map λa=>[fv a]) w)(hv:oH T fv fc xs)
  (I:(Nat->Prop)->Nat->World->Prop)(Ex:Code->(Nat->Prop)->World->Prop)
  (C:∀X i W m H,I X i W->aR H W m->(∀b,X b->¬H b)->I X i m)
  (hsx:∀c X W m H,Ex c X W->aR H W m->(∀b,X b->¬H b)->Ex c X m)
  (M:∀b,X0 b->b<w.heap.size)(h0:I X0 0 w)
  (U:∀X i (hi:i<xs.length) W q,I X i W->aR X0 w W->(∀b,X b->b<q/\(X0 b\/w.heap.size+1<b))->w.heap.size+1<q->q<W.heap.size->hC W q (fc xs[i]).toArray T->∀KN KJ,
   (∀y m,I y (i+1) m->aR X W m->(∀b,y b->(X b\/W.heap.size<=b)/\b<m.heap.size)->KN m)->
   (∀c y m,Ex c y m->aR X W m->(∀b,y b->(X b\/W.heap.size<=b)/\b<m.heap.size)->KJ c m)->body (bO q 0) W KN KJ)
  (hend:∀X W d,d=w.heap.size->I X xs.length W->aR X0 w W->hp W d=some (.deferred (some []))->(∀b,X b->b<W.heap.size/\(X0 b\/d+1<b))->after [d] none W)
  (Y:∀c X W d,d=w.heap.size->Ex c X W->aR X0 w W->hp W d=some (.deferred (some []))->(∀b,X b->b<W.heap.size/\(X0 b\/d+1<b))->after [d] (some c) W):
  FO pQ none gv w 1 (λl x W KN KJ=>rv pQ (iA T true (.tuple #[])) W λv w1=>ru pQ (iS T v (x.getD 0 undef)) w1 λw2=>qt l w2 λw3=>body v w3 KN KJ) after:=by
 obtain⟨⟨Ok,hit,hok⟩,-⟩:=ht;obtain⟨f,first,captured,rfl,hit0⟩:=hit.out;apply t0.2;show∀k:Loop,_;intro k s G hD hY;obtain⟨d,A⟩:=di w.heap.size;have S:(w.alloc (.deferred (some []))).heap.size=d+1:=by rw[cw,A]
 obtain⟨wr,E⟩:=di ((w.alloc (.deferred (some []))).alloc (.loop k));have R:wr.heap[d+1]? =some (.loop k):=by rw[E,er,ae S.symm]
 have hszr:wr.heap.size=d+2:=by rw[E,cw,S]
 have V:hp wr d=some (.deferred (some [])):=by rw[E];simp[go_sem,A]
 have hmr:M0 w wr:=by rw[E];exact mG.alloc _
 have p:∀(W:Wt_) (o:Obj),aR (λb=>b=d+1) W (W.putObj (d+1) o):=λW o=>(aR.refl (λb=>b=d+1) W).putObj (b:=d+1) (.inl rfl) o;rw[S]at hY|-;rw[<-E];let J:(Nat->Prop)->Nat->World->Prop:=λQ i W=>∃X,I X i W/\aR X0 w W/\hp W d=some (.deferred (some []))/\(∀b,X b->b<W.heap.size/\(X0 b\/d+1<b)/\¬Q b)/\W.heap[d+1]? =some (.loop k)/\∀b,Q b->d+1<b/\b<W.heap.size;let Js:(Nat->Prop)->World->Prop:=λQ W=>∃c X r,Ex c X W/\aR X0 w W/\hp W d=some (.deferred (some []))/\(∀b,X b->b<W.heap.size/\(X0 b\/d+1<b)/\¬Q b)/\W.heap[d+1]? =some (.loop r)/\(∀b,Q b->d+1<b/\b<W.heap.size)/\r.state=.done/\r.pending=some c;refine hit0 _ J Js _ _ (hok _ hmr) ?_ ?_ ?_ ?_ ?_ ?_
 ·intro Q W1 j hQ;refine⟨X0,C _ _ _ _ _ h0 (hmr.trans j) d9,(hmr.trans j).to,j.hpk V id,λb g=>?_,j.keep R id,λb g=>?_⟩
  ·have h1:=M b g;have F:=j.size;exact⟨qZ,.inl g,λhq=>by grind⟩
  ·have:=hQ b g;omega
 ·rintro Q Q' i W m ⟨X,h1,F,L,n,B,P⟩ j K;have hl:=aB B;refine⟨X,C _ _ _ _ _ h1 j λb g=>(n b g).2.2,F.on j λb g=>.inr (by grind),j.hpk L λg=>by grind,λb g=>?_,j.keep B λg=>by grind,λb g=>?_⟩
  ·have u:=n b g;refine⟨bI u.1 j.size,u.2.1,λhq=>?_⟩;rcases(K b hq).1 with h|h
   ·exact u.2.2 h
   ·have:=u.1;omega
  ·have u:=K b g;refine⟨?_,u.2⟩;rcases u.1 with h|h
   ·exact(P b h).1
   ·omega
 ·rintro Q Q' W m ⟨c,X,r,h1,F,L,n,B,P,h7⟩ j K;have hl:=aB B;refine⟨c,X,r,hsx _ _ _ _ _ h1 j λb g=>(n b g).2.2,F.on j λb g=>.inr (by grind),j.hpk L λg=>by grind,λb g=>?_,j.keep B λg=>by grind,λb g=>?_,h7⟩
  ·have u:=n b g;refine⟨bI u.1 j.size,u.2.1,λhq=>?_⟩;rcases(K b hq).1 with h|h
   ·exact u.2.2 h
   ·have:=u.1;omega
  ·have u:=K b g;refine⟨?_,u.2⟩;rcases u.1 with h|h
   ·exact(P b h).1
   ·omega
 ·rintro Q i x W O ⟨X,h1,F,L,n,B,P⟩ K' hT hF;apply kf.2;show Yl pQ (d+1) ⟨_⟩ W K';have e1:(#[]:Array Value).toList++x=x:=rfl;rw[e1]
  obtain⟨hi,rfl⟩:∃hi:i<xs.length,x=[fv xs[i]]:=by
   rw[cz]at O;cases hh:xs[i]? with
   |none=>rw[hh]at O;cases O
   |some o=>
    obtain⟨hj,he⟩:=aJ.1 hh;rw[hh]at O;exact⟨hj,by grind⟩
  apply hY _ W K' rfl ⟨k.state,k.pending,B⟩;obtain⟨w1,w2,v1,v2,v3,v4⟩:=hv xs[i] (aq hi) W;obtain⟨q,hq0⟩:=di W.heap.size;rw[<-hq0]at v1 v2 v3;apply bo v1;show ru pQ (iS T (bO q 0) (fv xs[i])) w1 _;apply iE v2;have r2:w2.heap[d+1]? =some (.loop k):=v4.keep B id;apply rI r2 s;have m3:=p w2 (.loop {k with state:=.busy});have r3:(w2.putObj (d+1) (.loop {k with state:=.busy})).heap[d+1]? =some (.loop {k with state:=.busy}):=by rw[dR,ae rfl,r2];rfl
  generalize w2.putObj (d+1) (.loop {k with state:=.busy})=w3 at m3 r3|-;have hdl:d+1<q:=by grind
  have q3:=m3.hpk v3 qZ;have hql:=aB q3;have M3:aR (λb=>b=d+1) W w3:=(v4.to).trans m3;have hXq:∀b,X b->b<q/\(X0 b\/d+1<b):=λb g=>⟨by grind,(n b g).2.1⟩
  have t:∀b,X b->b≠d+1/\b≠d:=λb g=>by
   rcases(n b g).2.1 with h|h
   ·have:=M b h;omega
   ·omega
  have D:∀(m:Wt_) (y:NP_) (o:Obj),aR X w3 m->(∀b,y b->(X b\/w3.heap.size<=b)/\b<m.heap.size)->
    aR X0 w (m.putObj (d+1) o)/\hp (m.putObj (d+1) o) d=some (.deferred (some []))/\(∀b,y b->b<(m.putObj (d+1) o).heap.size/\(X0 b\/d+1<b)/\¬Q b)/\(∀b,Q b->d+1<b/\b<(m.putObj (d+1) o).heap.size)/\
    (∀b,Q b->(m.putObj (d+1) o).heap[b]? =W.heap[b]?)/\W.heap.size<=(m.putObj (d+1) o).heap.size/\m.heap[d+1]? =some (.loop {k with state:=.busy}):=by
   intro m y o j z;have N:=p m o;have hsW:=j.size;have hsP:=N.size;refine⟨?_,N.hpk (j.hpk (m3.hpk (v4.hpk L id) qZ) λg=>(t _ g).2 rfl) qZ,λb g=>?_,λb g=>?_,λb g=>?_,qZ,j.keep r3 λg=>(t _ g).1 rfl⟩
   ·refine(((F.on M3 λb g=>gr).on j λb g=>?_)).on N λb g=>gr;rcases(n b g).2.1 with h|h
    ·exact .inl h
    ·exact gr
   ·have u:=z b g;refine⟨qZ,?_,λhq=>?_⟩
    ·rcases u.1 with h|h
     ·exact(n b h).2.1
     ·exact gr
    ·rcases u.1 with h|h
     ·exact(n b h).2.2 hq
     ·grind
   ·have:=P b g;omega
   ·have hb' :=P b g;rw[N.blk b qZ qZ,j.blk b qZ λO=>(n b O).2.2 g,M3.blk b hb'.2 qZ]
  refine U X i hi w3 q (C _ _ _ _ _ h1 M3 λb g=>(t b g).1) (F.on M3 λb g=>gr) (by grind) qZ hql q3 _ _ ?_ ?_
  ·intro y m Z j z;obtain⟨k1,k2,k3,k4,k5,k6,k7⟩:=D m y (.loop {{k with state:=.busy}with state:=.ready,pending:=none}) j z;refine⟨_,k7,hT _ ⟨y,?_,k1,k2,k3,?_,k4⟩ k6 k5⟩
   ·refine C _ _ _ _ _ Z (p m _) λb g e=>?_;rcases(z b g).1 with h|h
    ·exact(t b h).1 e
    ·omega
   ·rw[dR,ae rfl,k7];simp[<-s,<-G]
  ·intro c y m Z j z;obtain⟨k1,k2,k3,k4,k5,k6,k7⟩:=D m y (.loop {{k with state:=.busy}with state:=.done,pending:=some c}) j z;refine⟨_,k7,hF _ ⟨c,y,{k with state:=.done,pending:=some c},?_,k1,k2,k3,?_,k4,rfl,rfl⟩ k6 k5⟩
   ·refine hsx _ _ _ _ _ Z (p m _) λb g e=>?_;rcases(z b g).1 with h|h
    ·exact(t b h).1 e
    ·omega
   ·rw[dR,ae rfl,k7];rfl
 ·rintro Q W ⟨X,h1,F,L,n,B,P⟩;refine⟨k,B,by rw[s];decide,?_⟩;rw[<-A];have j:=p W (.loop {k with state:=.exhausted});generalize W.putObj (d+1) (.loop {k with state:=.exhausted})=W8 at j|-;rw[G]
  have t:∀b,X b->b≠d+1:=λb g=>by
   rcases(n b g).2.1 with h|h
   ·have:=M b h;omega
   ·omega
  refine hend X _ d A ?_ (F.on j λb g=>gr) (j.hpk L qZ) λb g=>⟨bI (n b g).1 j.size,(n b g).2.1⟩
  have O:I X xs.length W:=by grind
  exact C _ _ _ _ _ O j λb g=>t b g
 ·rintro Q W ⟨c,X,r,h1,F,L,n,B,P,h7,h8⟩;refine⟨r,B,by rw[h7];decide,?_⟩;rw[<-A];have j:=p W (.loop {r with state:=.exhausted});generalize W.putObj (d+1) (.loop {r with state:=.exhausted})=W8 at j|-;rw[h8]
  have t:∀b,X b->b≠d+1:=λb g=>by
   rcases(n b g).2.1 with h|h
   ·have:=M b h;omega
   ·omega
  exact Y c X _ d A (hsx _ _ _ _ _ h1 j λb g=>t b g) (F.on j λb g=>gr) (j.hpk L qZ) λb g=>⟨bI (n b g).1 j.size,(n b g).2.1⟩
end
def zQ{W:Wt_}{d:Nat}{K:World->Prop}(h:hp W d=some (.deferred (some [])))(e:∀a,aR (λb=>b=d) W a->K a):Ap ([d]++[]) W K:=
 UC (by simp) (λx c=>by grind) λa m=>e a (m.mono λx _ c=>by simpa using c)
def oH.od{xs:List Od}:oH jG kx dF xs:=λa _ W=>by
 obtain⟨c,e,d,h⟩:=jY W;obtain⟨i,j,g,f⟩:=jE (o' :=a) d;exact⟨c,i,e,j,g,h.on f λb k=>gr⟩
end Go.Proofs
