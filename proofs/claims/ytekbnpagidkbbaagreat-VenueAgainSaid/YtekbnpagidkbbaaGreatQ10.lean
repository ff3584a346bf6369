/- Part of a proof. -/
import Derived.Test.YtekbnpagidkbbaaGreatQ9
set_option linter.all false
set_option maxRecDepth 100000
set_option maxHeartbeats 1000000
namespace Go.Proofs
open Go Go.Vc
attribute [local congr] aZ
variable {left f:Int}{g:List Int}{r:List Od}{t:List Td}{o b:Od}
def rB(sT sG:Vt_)(f l:Int):Array Value:=#[sT,sG,gI f,gI l]
def Kv{W:Wt_}{p:Nat}{a c e d:Vt_}{i:Nat}{v:Vt_}(h:hC W p #[a,c,e,d] 246)(hi:i<4):
  hC (W.setCell ⟨p,i,none⟩ v) p ((#[a,c,e,d]:Array Value).setIfInBounds i v) 246/\aS (λb=>b=p) W (W.setCell ⟨p,i,none⟩ v):=
 ⟨by simp[go_sem,h],(aS.refl (λb=>b=p) W).sc⟩
structure VO(w0:Wt_)(b:Nat)(s:Bool->Nat)(G:Bool->Nat->Prop)(B:Bk)(o:Od)(p q:Nat)(W:Wt_)(left:Int)(L:List Od)(t:List Td)(g:List Int)(f:Int):Prop where
 od:hC W p (dx {o with left:=left}).toArray ji
 mem:∃G' sT sG,kC W b s (iV G (!o.buy) G') (B.set (!o.buy) L)/\(∀x,G' x->G (!o.buy) x\/(w0.heap.size<=x/\x≠p/\x≠q))/\
  hC W q #[sT,sG,gI f,gI 0] 246/\OK W sT sG t g/\(∀x,aK sT x\/aK sG x->w0.heap.size<=x/\x≠p/\x≠q/\¬G' x)
 md:aS (G (!o.buy)) w0 W
 eq:eN o o.left (B (!o.buy))=yY t g f (eN o left L)
 lf:0<=left/\left<=1000000/\f+left=o.left/\0<=f
 len:t.length+g.length<=101/\(0<left->t.length+g.length+L.length<=100)
def Ii(b:Od)(r:List Od):ot (b::r) b.num=r:=by
 unfold ot;rw[List.eraseP_cons_of_pos (by simp)]
def MX(h1:0<left)(c:gt o b.price=true)(a:b.acct=o.acct):
  yY t g f (eN o left (b::r))=yY t (g++[b.num]) f (eN o left r):=by
 conv=>lhs;unfold eN
 rw[aa (by grind),ae a];simp[yY]
def L7(h1:0<left)(d:gt o b.price=true)(c:b.acct≠o.acct)(a:left<b.left):
  yY t g f (eN o left (b::r))=yY (t++[⟨b.price,left,b.num,b.acct⟩]) g (f+left) (eN o 0 ({b with left:=b.left - left}::r)):=by
 conv=>lhs;unfold eN
 rw[aa (by grind),aa c,ae a,tE (.inl (ed 0))];simp[yY]
def L4(h1:0<left)(d:gt o b.price=true)(c:b.acct≠o.acct)(a:¬left<b.left):
  yY t g f (eN o left (b::r))=yY (t++[⟨b.price,b.left,b.num,b.acct⟩]) g (f+b.left) (eN o (left - b.left) r):=by
 conv=>lhs;unfold eN
 rw[aa (by grind),aa c,aa a];simp[yY,Int.add_assoc]
def P3(W:Wt_)(p:Nat):Int:=match hp W p with|some (.cells c _ _)=>(match (c[4]? :Option Value)with|some (.int _ x)=>x|_=>0)|_=>0
def Uy(W:Wt_)(p:Nat):Nat:=match hp W p with|some (.cells c _ _)=>(match (c[2]? :Option Value)with|some (.slice _ n _)=>n|_=>0)|_=>0
def cmM(W:Wt_)(p sd:Nat):Nat:=2*Uy W sd+(if 0<P3 W p then 1 else 0)
def VO.m{k:Wt_}{b:Nat}{s:Bool->Nat}{G:Bool->Nat->Prop}{B:Bk}{p q:Nat}{W:Wt_}{L:List Od}(h:VO k b s G B o p q W left L t g f):
  cmM W p (s (!o.buy))=2*L.length+(if 0<left then 1 else 0):=by
 obtain⟨l,m,n,j,-⟩:=h.mem;have e:=j.sd (!o.buy);rw[Bk.set_self]at e;obtain⟨⟨sl,h1,i,-⟩,-⟩:=e;obtain⟨a,c,d,-⟩:=i.isSl;unfold cmM Uy P3;rw[h1,h.od,d];rfl
def Kd{w:Wt_}{K:aY}{b:Nat}{B:Bk}{s:Bool->Nat}{G:Bool->Nat->Prop}{rests:Bool}(h:kC w b s G B)(hof:o.Fit)(hmay:o.may=true)
  (hK:∀D A C w',kC w' b s D (eW B o rests).1->OK w' A C (eW B o rests).2.trades (eW B o rests).2.gone->aS (λx=>G true x\/G false x) w w' ->(∀d x,D d x->G d x\/w.heap.size<=x)->
   (∀x,aK A x\/aK C x->w.heap.size<=x/\∀d,¬D d x)->K (.agg (rB A C (eW B o rests).2.filled (eW B o rests).2.left)) w'):Ca pQ 231 #[fa b,jQ o,.bool rests] w K:=by
 have hol:=Od.left_bd hmay;unfold fa;refine cN Tryz.func231 ?_;obtain⟨w1,Z,b1,m1⟩:=tK o w;apply bh Z;obtain⟨p,hp0⟩:=df w.heap.size;rw[<-hp0]at b1|-;obtain⟨q,hq0⟩:=df w1.heap.size;have hpq:p<q:=by have:=ay b1;omega
 have m2:M0 w1 (w1.alloc (.cells #[.slice none 0 0,.slice none 0 0,gI 0,gI 0] 246)):=kU;apply ax (bO q 0) (w1.alloc (.cells #[.slice none 0 0,.slice none 0 0,gI 0,gI 0] 246)) (by rw[hq0];simp[go_sem]);have b2:hC (w1.alloc (.cells #[.slice none 0 0,.slice none 0 0,gI 0,gI 0] 246)) q #[.slice none 0 0,.slice none 0 0,gI 0,gI 0] 246:=by rw[hq0];simp[go_sem]
 generalize w1.alloc (.cells #[.slice none 0 0,.slice none 0 0,gI 0,gI 0] 246)=w2 at m2 b2|-;have c1:=m2.hpk b1 id;have M2:=m1.trans m2;have c1' :=c1;unfold dx at c1';refine dE c1' ?_;refine dE c1' ?_;have h2:=h.mod M2 id λ_ _ _ h=>h;apply BB (s:=s) h2.blk;have md:M0 w2 w2.drew:=sK;have M3:=M2.trans md;have h3:=h2.mod md id λ_ _ _ h=>h;have d1:=md.hpk c1 id;have d2:=md.hpk b2 id;generalize w2.drew=w3 at M3 h3 d1 d2|-;refine dq ?_;refine dq ?_;have hlen:=(h.sd (!o.buy)).len;have m:∀d x,G d x->x<p:=λd x c=>by rw[hp0];exact h.lt c
 have hbp:b<p:=by rw[hp0];exact ay h.blk
 have hspl:∀d,s d<p:=λd=>m d _ ((h.sd d).self);have hu:iV G (!o.buy) (G !o.buy)=G:=by funext x;unfold iV;by_cases h:x= !o.buy<;>simp[h]
 have I0:VO w b s G B o p q w3 o.left (B !o.buy) [] [] 0:=by
  refine⟨d1,⟨G !o.buy,.slice none 0 0,.slice none 0 0,?_,λx c=>.inl c,d2,⟨gD.nil _ _ _,gD.nil _ _ _,λx c=>by cases c⟩,λx c=>by rcases c with c|c<;>cases c⟩,M3.to,?_,qZ,by simp,λ_=>by simpa using hlen⟩
  ·rw[hu,Bk.set_same];exact h3
  ·unfold yY;simp
 refine cG.at (λ_ W=>∃left L t g f,VO w b s G B o p q W left L t g f/\eN o left L=(left,L,[],[],0)) ?_ ?_
 ·apply d8 (λ_ W=>∃left L t g f,VO w b s G B o p q W left L t g f) (λ_ W=>cmM W p (s !o.buy)) ⟨_,_,_,_,_,I0⟩;rintro _ W ⟨left,L,t,g,f,hI⟩ KN hKN;have hm:=hI.m;obtain⟨i1,⟨D,A,C,i2,i3,i4,i5,l⟩,i7,i8,i9,i10⟩:=id hI;have hs:=i2.sd (!o.buy);rw[Bk.set_self,fY]at hs
  have hGx:∀d x,iV G (!o.buy) D d x->x≠p/\x≠q:=λd x c=>by
   by_cases M:d= !o.buy
   ·subst M;rw[fY]at c;rcases i3 x c with j|j
    ·have:=m _ x j;omega
    ·exact j.2
   ·unfold iV at c;rw[aa M]at c;have:=m _ x c;omega
  have hG'x:∀x,D x->x≠p/\x≠q:=λx c=>hGx (!o.buy) x (by rw[fY];exact c);refine lE ?_;intro _;have O:=i1;unfold dx at O;refine dE O ?_;refine dE O ?_;by_cases z:0<left
  ·refine dB z ?_;refine PK hs λw4 m4=>?_;have i4a:=m4.hpk i1 id;have i4b:=m4.hpk i4 id;refine dq ?_;refine dq ?_;obtain⟨w5,e5,b5,m5⟩:=jE w4;apply bh e5;obtain⟨r0,hr0⟩:=df w4.heap.size;rw[<-hr0]at b5|-;obtain⟨w6,e6,b6,m6⟩:=jf (o' :=L.head?.getD nZ) b5;apply gg e6;have M46:M0 w4 w6:=m5.on m6 λb k=>fM;have M6:M0 W w6:=m4.trans M46;have i6a:=M46.hpk i4a id;have i6b:=M46.hpk i4b id;have hWr:W.heap.size<=r0:=by have:=m4.size;omega
   refine cG.at (λst R=>st=(.bool (decide (L.head? =none\/gt o (L.head?.getD nZ).price=false)),())/\M0 w6 R) ?_ ?_
   ·cases L with
    |nil=>
     refine jZ ?_;exact⟨by simp,oU⟩
    |cons x r=>
     refine eK ?_;apply bh (kX (o:={o with left:=left}) (At.all i6a));have b6' :=b6;unfold dx at b6';refine dE b6' ?_;refine dE b6' ?_;refine IH (o:={o with left:=left}) (price:=x.price) λw7 m7=>?_;rw[FF];refine dq ?_;refine⟨?_,m7⟩;simp only[List.head?_cons,dt];rcases Bool.eq_false_or_eq_true (gt o x.price)with hc|hc<;>simp[hc]
   rintro _ w7 ⟨rfl,m7⟩;refine jG ?_;intro _;have M7:=M6.trans m7;have k1:=m7.hpk i6a id;have k2:=m7.hpk i6b id;have k3:=m7.hpk b6 id;by_cases H:L.head? =none\/gt o (L.head?.getD nZ).price=false
   ·rw[mP H];refine⟨left,L,t,g,f,⟨k1,⟨D,A,C,i2.mod M7 id λ_ _ _ h=>h,i3,k2,i5.mod M7 dS dS,l⟩,i7.trans (M7.to),i8,i9,i10⟩,?_⟩;refine tE (.inr ?_);cases L with
    |nil=>exact .inl rfl
    |cons x r=>
     refine .inr ⟨x,r,rfl,?_⟩;rcases H with j|j
     ·cases j
     ·exact j
   rw[Hm H];cases L with
   |nil=>exact absurd (.inl rfl) H
   |cons x r=>
   have hcr:gt o x.price=true:=by
    cases hc:gt o x.price with
    |true=>rfl
    |false=>exact absurd (.inr hc) H
   have hxb:=hs.may x (by simp);have hxl:=Od.left_bd hxb.1;replace i10:=i10.2 z;simp only[be]at i10;simp only[List.head?_cons,dt]at k3;have J:=k3;unfold dx at J;have X:=k1;unfold dx at X;have hs7:=hs.mod M7 dS;have i27:=i2.mod M7 id λ_ _ _ h=>h;have p7:=i5.mod M7 dS dS;have MW:aS (G (!o.buy)) w w7:=i7.trans (M7.to);have hsz:=i7.size;have hqW:q<W.heap.size:=ay i4;have hsz7:=M7.size
   have T:∀x,aK A x\/aK C x->x<W.heap.size:=λx c=>by
    rcases c with c|c
    ·exact i5.tr.lt c
    ·exact i5.go.lt c
   refine dE J ?_;refine dE J ?_;refine dE X ?_;refine dE X ?_;by_cases hac:x.acct=o.acct
   ·refine dB hac ?_;refine dE J ?_;refine dE J ?_;refine Bm hs7 λN w8 q8 S n8=>?_;rw[Ii]at q8;have u8:=kC.upd (d:= !o.buy) i27 (by rw[fY];exact S) q8 (by rw[fY];exact n8)
    have Q:∀y,y=p\/y=q\/y=r0->¬D y:=λy a u=>by
     have h1:=hG'x y u;rcases a with rfl|rfl|rfl
     ·exact h1.1 rfl
     ·exact h1.2 rfl
     ·have:=hs.lt u;omega
    have j1:=S.hpk k1 (Q p (.inl rfl));have j2:=S.hpk k2 (Q q (.inr (.inl rfl)));have j3:=S.hpk J (Q r0 (.inr (.inr rfl)));have p8:=p7.mod S (λy a=>(l y (.inl a)).2.2.2) λy a=>(l y (.inr a)).2.2.2;refine dE j2 ?_;refine dE j2 ?_;refine dE j3 ?_;refine dE j3 ?_;refine uZ (x:=x.num) (f:=ua) wS (dp Ms) (λ_=>rfl) EI rfl p8.go qZ qZ λV w9 o9 m9 n9=>?_;have hq9:¬aK C q:=λk=>(l q (.inr k)).2.2.1 rfl;have hp9:¬aK C p:=λk=>(l p (.inr k)).2.1 rfl;have j1' :=m9.hpk j1 hp9;have j2' :=m9.hpk j2 hq9;obtain⟨ga,gc,hsG',-⟩:=o9.isSl;refine dE j2' ?_;obtain⟨j4,m10⟩:=Kv (i:=1) (v:=V) j2' qZ;apply pl (w9.setCell ⟨q,1,none⟩ V) (by rw[hsG'];simp[go_sem,j2']);have hw8:=S.size;have hw9:=m9.size
    have hnew9:∀y,aK V y->w.heap.size<=y/\y≠p/\y≠q:=λy a=>by
     rcases n9 y a with j|j
     ·have:=l y (.inr j);exact⟨this.1,this.2.1,this.2.2.1⟩
     ·exact⟨qZ,qZ,qZ⟩
    have U:∀y,N y->G (!o.buy) y\/(w.heap.size<=y/\y≠p/\y≠q):=λy a=>by
     rcases n8 y a with j|j
     ·exact i3 y j
     ·exact .inr ⟨qZ,qZ,qZ⟩
    have E:∀y,aK A y\/aK C y->¬N y:=λy a u=>by
     rcases n8 y u with j|j
     ·exact(l y a).2.2.2 j
     ·have:=T y a;omega
    have F:∀d y,iV (iV G (!o.buy) D) (!o.buy) N d y->y≠q/\¬aK C y:=λd y a=>by
     by_cases M:d= !o.buy
     ·subst M;rw[fY]at a;refine⟨?_,λk=>E y (.inr k) a⟩;rcases U y a with j|j
      ·have:=m _ y j;omega
      ·exact j.2.2
     ·unfold iV at a;rw[aa M,aa M]at a;have:=m _ y a;exact⟨qZ,λk=>by have:=(l y (.inr k)).1;omega⟩
    have e2:iV (iV G (!o.buy) D) (!o.buy) N=iV G (!o.buy) N:=by funext x;unfold iV;by_cases h:x= !o.buy<;>simp[h]
    have e3:(B.set (!o.buy) (x::r)).set (!o.buy) r=B.set (!o.buy) r:=by funext x;unfold Bk.set;by_cases h:x= !o.buy<;>simp[h]
    have u9:=(u8.mod m9 (λk=>by have:=(l b (.inr k)).1;omega) λd y a=>(F d y a).2).mod m10 qZ λd y a=>(F d y a).1;rw[e2,e3]at u9
    have MW10:aS (G (!o.buy)) w (w9.setCell ⟨q,1,none⟩ V):=
     ((MW.on S λy a=>(i3 y a).elim .inl λj=>.inr j.1).on m9 λy a=>.inr (l y (.inr a)).1).on m10 λy a=>fM
    have hI' :VO w b s G B o p q (w9.setCell ⟨q,1,none⟩ V) left r t (g++[x.num]) f:=by
     refine⟨m10.hpk j1' qZ,⟨N,A,V,u9,U,by simpa using j4,⟨(p8.tr.mod m9 λy a P=>p8.dj y a P).mod m10 λy a e=>(l y (.inl a)).2.2.1 e,o9.mod m10 λy a e=>(hnew9 y a).2.2 e,λy a P=>?_⟩,λy a=>?_⟩,MW10,?_,i9,by simp;omega,λ_=>by simp;omega⟩
     ·rcases n9 y P with j|j
      ·exact p8.dj y a j
      ·have:=T y (.inl a);omega
     ·rcases a with a|a
      ·have:=l y (.inl a);exact⟨this.1,this.2.1,this.2.2.1,E y (.inl a)⟩
      ·have h1:=hnew9 y a;refine⟨h1.1,h1.2.1,h1.2.2,λu=>?_⟩;rcases n9 y a with j|j
       ·exact E y (.inr j) u
       ·have:=q8.lt u;omega
     ·rw[i8,MX z hcr hac]
    apply hKN _ _ ⟨_,_,_,_,_,hI'⟩;rw[hI'.m,hm];simp only[be];split<;>omega
   ·refine ey hac ?_;obtain⟨n,hn⟩:=df (if left<x.left then left else x.left:Int);have hn1:1<=n/\n<=x.left/\n<=left:=by rw[hn];split<;>omega
    refine dE X ?_;refine dE X ?_;refine dE J ?_;refine dE J ?_;apply iq (gI n) w7 (by rw[hn];simp[go_sem];split<;>omega);refine PD hs7 hn1.1 hn1.2.1 λN w8 q8 S n8=>?_;have u8:=kC.upd (d:= !o.buy) i27 (by rw[fY];exact S) q8 (by rw[fY];exact n8)
    have Q:∀y,y=p\/y=q\/y=r0->¬D y:=λy a u=>by
     have h1:=hG'x y u;rcases a with rfl|rfl|rfl
     ·exact h1.1 rfl
     ·exact h1.2 rfl
     ·have:=hs.lt u;omega
    have j1:=S.hpk X (Q p (.inl rfl));have j2:=S.hpk k2 (Q q (.inr (.inl rfl)));have j3:=S.hpk J (Q r0 (.inr (.inr rfl)));have p8:=p7.mod S (λy a=>(l y (.inl a)).2.2.2) λy a=>(l y (.inr a)).2.2.2;have hw8:=S.size;refine dE j1 ?_;refine dE j1 ?_;apply ax (gI (left - n)) w8 (by simp[go_sem];rw[lL]);refine dE j1 ?_;refine MU j1 ?_;have ma:aS (λb=>b=p) w8 (w8.setCell ⟨p,4,none⟩ (gI (left - n))):=(aS.refl (λb=>b=p) w8).sc;have ja:hC (w8.setCell ⟨p,4,none⟩ (gI (left - n))) p (dx {o with left:=left - n}).toArray ji:=by simp[go_sem,j1,dx]
    have jb:=ma.hpk j2 qZ;have jc:=ma.hpk j3 qZ;generalize w8.setCell ⟨p,4,none⟩ (gI (left - n))=wa at ma ja jb jc|-;refine dE jb ?_;refine dE jb ?_;apply ax (gI (f+n)) wa (by simp[go_sem];rw[lL]);refine dE jb ?_;refine MU jb ?_;obtain⟨kb,mb⟩:=Kv (i:=2) (v:=gI (f+n)) jb qZ;have kb' :hC (wa.setCell ⟨q,2,none⟩ (gI (f+n))) q #[A,C,gI (f+n),gI 0] 246:=by simpa using kb
    have ka:=mb.hpk ja qZ;have kc:=mb.hpk jc qZ;generalize wa.setCell ⟨q,2,none⟩ (gI (f+n))=wb at mb kb' ka kc|-;have mab:aS (λy=>y=p\/y=q) w8 wb:=(ma.mono λy _ h=>.inl h).trans (mb.mono λy _ h=>.inr h)
    have hpl:∀y,aK A y\/aK C y->¬(y=p\/y=q):=λy a e=>by
     have:=l y a;rcases e with e|e
     ·exact this.2.1 e
     ·exact this.2.2.1 e
    have pb:=p8.mod mab (λy a=>hpl y (.inl a)) λy a=>hpl y (.inr a);have hsb:=mab.size;refine dE kb' ?_;refine dE kb' ?_;refine dE kc ?_;refine dE kc ?_;refine dE kc ?_;refine dE kc ?_;refine dE kc ?_;refine dE kc ?_;apply ax (.agg (Di ⟨x.price,n,x.num,x.acct⟩).toArray) wb (by simp[go_sem,Di]);refine uZ (x:=(⟨x.price,n,x.num,x.acct⟩:Td)) (f:=Di) FK (dp Ye) (λ_=>rfl) TR rfl pb.tr qZ qZ λY wc oc mc nc=>?_;have hqc:¬aK A q:=λk=>(l q (.inl k)).2.2.1 rfl;have hpc:¬aK A p:=λk=>(l p (.inl k)).2.1 rfl;have la:=mc.hpk ka hpc;have lb:=mc.hpk kb' hqc;have hsc:=mc.size;obtain⟨ga,gc,hsT',-⟩:=oc.isSl;refine dE lb ?_;obtain⟨ld,mdd⟩:=Kv (i:=0) (v:=Y) lb qZ;apply pl (wc.setCell ⟨q,0,none⟩ Y) (by rw[hsT'];simp[go_sem,lb])
    have hnewc:∀y,aK Y y->w.heap.size<=y/\y≠p/\y≠q:=λy a=>by
     rcases nc y a with j|j
     ·have:=l y (.inl j);exact⟨this.1,this.2.1,this.2.2.1⟩
     ·exact⟨qZ,qZ,qZ⟩
    have U:∀y,N y->G (!o.buy) y\/(w.heap.size<=y/\y≠p/\y≠q):=λy a=>by
     rcases n8 y a with j|j
     ·exact i3 y j
     ·exact .inr ⟨qZ,qZ,qZ⟩
    have E:∀y,aK A y\/aK C y->¬N y:=λy a u=>by
     rcases n8 y u with j|j
     ·exact(l y a).2.2.2 j
     ·have:=T y a;omega
    have F:∀d y,iV (iV G (!o.buy) D) (!o.buy) N d y->y≠p/\y≠q/\¬aK A y:=λd y a=>by
     by_cases M:d= !o.buy
     ·subst M;rw[fY]at a;refine⟨?_,?_,λk=>E y (.inl k) a⟩
      ·rcases U y a with j|j
       ·have:=m _ y j;omega
       ·exact j.2.1
      ·rcases U y a with j|j
       ·have:=m _ y j;omega
       ·exact j.2.2
     ·unfold iV at a;rw[aa M,aa M]at a;have:=m _ y a;exact⟨qZ,qZ,λk=>by have:=(l y (.inl k)).1;omega⟩
    have e2:iV (iV G (!o.buy) D) (!o.buy) N=iV G (!o.buy) N:=by funext x;unfold iV;by_cases h:x= !o.buy<;>simp[h]
    have e3:(B.set (!o.buy) (x::r)).set (!o.buy) (kG (x::r) n)=B.set (!o.buy) (kG (x::r) n):=by funext x;unfold Bk.set;by_cases h:x= !o.buy<;>simp[h]
    have u9:=((u8.mod mab (λk=>by rcases k with k|k<;>omega) λd y a k=>by rcases k with k|k;exact(F d y a).1 k;exact(F d y a).2.1 k).mod mc (λk=>by have:=(l b (.inl k)).1;omega) λd y a=>(F d y a).2.2).mod mdd qZ λd y a=>(F d y a).2.1;rw[e2,e3]at u9
    have MW10:aS (G (!o.buy)) w (wc.setCell ⟨q,0,none⟩ Y):=
     (((MW.on S λy a=>(i3 y a).elim .inl λj=>.inr j.1).on mab λy a=>.inr (by rcases a with a|a<;>omega)).on mc λy a=>.inr (l y (.inl a)).1).on mdd λy a=>fM
    have hfl:(kG (x::r) n).length<=r.length+1:=by unfold kG;simp only;split<;>simp
    have hI' :VO w b s G B o p q (wc.setCell ⟨q,0,none⟩ Y) (left - n) (kG (x::r) n) (t++[⟨x.price,n,x.num,x.acct⟩]) g (f+n):=by
     refine⟨mdd.hpk la qZ,⟨N,Y,C,u9,U,by simpa using ld,⟨oc.mod mdd λy a e=>(hnewc y a).2.2 e,(pb.go.mod mc λy a P=>pb.dj y P a).mod mdd λy a e=>(l y (.inr a)).2.2.1 e,λy a P=>?_⟩,λy a=>?_⟩,MW10,?_,qZ,?_⟩
     ·rcases nc y a with j|j
      ·exact pb.dj y j P
      ·have:=T y (.inr P);omega
     ·rcases a with a|a
      ·have h1:=hnewc y a;refine⟨h1.1,h1.2.1,h1.2.2,λu=>?_⟩;rcases nc y a with j|j
       ·exact E y (.inl j) u
       ·have:=q8.lt u;omega
      ·have:=l y (.inr a);exact⟨this.1,this.2.1,this.2.2.1,E y (.inr a)⟩
     ·rw[i8];by_cases I:left<x.left
      ·rw[ae I]at hn;subst hn;rw[L7 z hcr hac I];have Z:kG (x::r) n={x with left:=x.left - n}::r:=by unfold kG;simp only;rw[aa qZ]
       rw[Z,Int.sub_self]
      ·rw[aa I]at hn;subst hn;rw[L4 z hcr hac I];have Z:kG (x::r) x.left=r:=by unfold kG;simp
       rw[Z]
     ·rw[ag,ke];refine⟨qZ,λhl' =>?_⟩;by_cases I:left<x.left
      ·rw[ae I]at hn;omega
      ·rw[aa I]at hn;have Z:kG (x::r) n=r:=by unfold kG;rw[hn];simp
       rw[Z];omega
    apply hKN _ _ ⟨_,_,_,_,_,hI'⟩;rw[hI'.m,hm];simp only[be];by_cases I:left<x.left
    ·rw[ae I]at hn;have:¬0<left - n:=qZ;rw[aa this,ae z];omega
    ·rw[aa I]at hn;have Z:kG (x::r) n=r:=by unfold kG;rw[hn];simp
     rw[Z];split<;>omega
  ·refine ey z ?_;exact⟨left,L,t,g,f,hI,tE (.inl qZ)⟩
 rintro⟨⟩ W ⟨left,L,t,g,f,hI,hdone⟩;obtain⟨i1,⟨D,A,C,i2,i3,i4,i5,l⟩,i7,i8,i9,i10⟩:=id hI;rw[hdone]at i8;have c:eN o o.left (B !o.buy)=(left,L,t,g,f):=by rw[i8];simp[yY]
 refine jG ?_;intro _;have O:=i1;unfold dx at O
 have fin:∀(R:Wt_) (N:Bool->Nat->Prop) (B' :Bk) (lf:Int),hC R q (rB A C f lf) 246->kC R b s N B' ->OK R A C t g->aS (λx=>G true x\/G false x) w R->(∀d x,N d x->x≠q/\(G d x\/w.heap.size<=x))->
   (∀x,aK A x\/aK C x->∀d,¬N d x)->(eW B o rests)=(B',⟨t,g,f,lf⟩)->
   rv pQ (iL 246 (bO q 0)) R λv156 w157=>
    ru pQ (iS 246 (bO q 0) v156) w157 λw158=>
    l8 pQ (iL 246 (bO q 0)) w158 λv159=>K v159 w158:=by
  intro R N B' lf k1 k2 k3 k4 k5 k6 k7;obtain⟨ta,tc,hsT,-⟩:=k3.tr.isSl;obtain⟨ga,gc,hsG,-⟩:=k3.go.isSl;unfold rB at k1;apply ax (.agg (rB A C f lf)) R (by simp[go_sem,k1,rB])
  obtain⟨W2,hst,hW2,m2⟩:∃W2,(iS 246 (bO q 0) (.agg (rB A C f lf))).run pQ R=.ok () W2/\hC W2 q (rB A C f lf) 246/\aS (λb=>b=q) R W2:=by
   refine⟨(((R.setCell ⟨q,0,none⟩ A).setCell ⟨q,1,none⟩ C).setCell ⟨q,2,none⟩ (gI f)).setCell ⟨q,3,none⟩ (gI lf),?_,?_,((((aS.refl (λb=>b=q) R).sc).sc).sc).sc⟩
   ·rw[hsT,hsG]at k1|-;simp[go_sem,k1,rB]
   ·simp[go_sem,k1,rB]
  apply gg hst;unfold rB at hW2;apply qy (.agg (rB A C f lf)) (by simp[go_sem,hW2,rB]);have hk:=hK N A C W2;rw[k7]at hk;refine hk (k2.mod m2 qZ λd x c=>(k5 d x c).1) (k3.mod m2 (λx c=>(l x (.inl c)).2.2.1) λx c=>(l x (.inr c)).2.2.1) (k4.on m2 λx c=>fM) (λd x c=>(k5 d x c).2) λx c=>⟨(l x c).1,k6 x c⟩
 have mfull:aS (λx=>G true x\/G false x) w W:=i7.mono λx _ c=>by
  cases k:o.buy<;>rw[k]at c
  ·exact .inl c
  ·exact .inr c
 have hG1:∀d x,iV G (!o.buy) D d x->x≠p/\x≠q/\(G d x\/w.heap.size<=x):=λd x c=>by
  by_cases M:d= !o.buy
  ·subst M;rw[fY]at c;rcases i3 x c with j|j
   ·have:=m _ x j;exact⟨qZ,qZ,.inl j⟩
   ·exact⟨j.2.1,j.2.2,.inr j.1⟩
  ·unfold iV at c;rw[aa M]at c;have:=m _ x c;exact⟨qZ,qZ,.inl c⟩
 have hS1:∀x,aK A x\/aK C x->∀d,¬iV G (!o.buy) D d x:=λx c d u=>by
  by_cases M:d= !o.buy
  ·subst M;rw[fY]at u;exact(l x c).2.2.2 u
  ·unfold iV at u;rw[aa M]at u;have:=m _ x u;have:=(l x c).1;omega
 refine cG.at (λst R=>st=(.bool (decide (rests=true/\0<left)),())/\R=W) ?_ ?_
 ·cases rests with
  |true=>
   rw[jV];refine dE O ?_;refine dE O ?_;refine dq ?_;exact⟨by simp,rfl⟩
  |false=>
   rw[ij];exact⟨by simp,rfl⟩
 rintro _ W ⟨rfl,rfl⟩;refine jG ?_;intro _;by_cases hr:rests=true/\0<left
 ·rw[mP hr];apply bh (kX (o:={o with left:=left}) (At.all i1));have hown:=i2.sd o.buy;have hbn:(o.buy= !o.buy)=False:=by cases o.buy<;>simp
  have Z:B.set (!o.buy) L o.buy=B o.buy:=by unfold Bk.set;rw[aa (by rw[hbn];exact id)]
  have e2:iV G (!o.buy) D o.buy=G o.buy:=by unfold iV;rw[aa (by rw[hbn];exact id)]
  rw[Z,e2]at hown;have hf' :Od.Fit {o with left:=left}:=⟨hof.1,hof.2.1,hof.2.2.1,by unfold eP;simp only;omega⟩
  refine Ts hown hf' λG3 w4 q4 m4 n4=>?_;have u4:=kC.upd (d:=o.buy) i2 (by rw[e2];exact m4) q4 (by rw[e2];exact n4);have hp4:¬G o.buy p:=λu=>by have:=m _ p u;omega
  have hq4:¬G o.buy q:=λu=>by have:=m _ q u;omega
  have j1:=m4.hpk O hp4;have j2:=m4.hpk i4 hq4;refine dE j1 ?_;refine dE j1 ?_;refine dE j2 ?_;refine MU j2 ?_;obtain⟨j3,m5⟩:=Kv (i:=3) (v:=gI left) j2 qZ;have hsW:=i7.size;have hqW:q<W.heap.size:=ay i4
  have h2G:∀d x,iV (iV G (!o.buy) D) o.buy G3 d x->x≠q/\(G d x\/w.heap.size<=x)/\¬aK A x/\¬aK C x:=λd x c=>by
   by_cases M:d=o.buy
   ·subst M;rw[fY]at c;rcases n4 x c with j|j
    ·have:=m _ x j;exact⟨qZ,.inl j,λk=>by have:=(l x (.inl k)).1;omega,λk=>by have:=(l x (.inr k)).1;omega⟩
    ·exact⟨qZ,fM,λk=>by have:=i5.tr.lt k;omega,λk=>by have:=i5.go.lt k;omega⟩
   ·have hx' :iV G (!o.buy) D d x:=by
     have:iV (iV G (!o.buy) D) o.buy G3 d=iV G (!o.buy) D d:=by
      conv=>lhs;unfold iV
      rw[aa M];rfl
     rw[this]at c;exact c
    have h1:=hG1 d x hx';exact⟨h1.2.1,h1.2.2,λk=>hS1 x (.inl k) d hx',λk=>hS1 x (.inr k) d hx'⟩
  refine fin _ (iV (iV G (!o.buy) D) o.buy G3) _ left (by simpa [rB]using j3) (u4.mod m5 qZ λd x c=>(h2G d x c).1)
   ((i5.mod m4 (λx c u=>by have:=m _ x u;have:=(l x (.inl c)).1;omega) λx c u=>by have:=m _ x u;have:=(l x (.inr c)).1;omega).mod m5 (λx c=>(l x (.inl c)).2.2.1) λx c=>(l x (.inr c)).2.2.1)
   ((mfull.on m4 λx c=>.inl (by cases k:o.buy<;>rw[k]at c;exact .inr c;exact .inl c)).on m5 λx c=>fM) (λd x c=>⟨(h2G d x c).1,(h2G d x c).2.1⟩) (λx c d u=>by rcases c with c|c;exact(h2G d x u).2.2.1 c;exact(h2G d x u).2.2.2 c) ?_
  unfold eW;rw[c];simp only;rw[ae hr,Z]
 ·rw[Hm hr];apply fin W (iV G (!o.buy) D) _ 0 i4 i2 i5 mfull (λd x c=>⟨(hG1 d x c).2.1,(hG1 d x c).2.2⟩) hS1;unfold eW;rw[c];simp only;rw[aa hr]
end Go.Proofs
set_option maxRecDepth 100000
set_option maxHeartbeats 1000000
namespace Go.Proofs
open Go Go.Vc
attribute [local congr] aZ
def dQ:Value:=.slice none 0 0
def VR{W:Wt_}{q:Nat}{e t m g sT sG:Vt_}{f l:Int}(h:hC W q #[e,t,m,g] 246)(i:∃a n c,sT=.slice a n c)(o:∃a n c,sG=.slice a n c):
  ∃d,(iS 246 (bO q 0) (.agg (rB sT sG f l))).run pQ W=.ok () d/\hC d q #[sT,sG,gI f,gI l] 246/\aS (λb=>b=q) W d:=by
 obtain⟨p,s,j,rfl⟩:=i;obtain⟨r,u,k,rfl⟩:=o;refine⟨(((W.setCell ⟨q,0,none⟩ (.slice p s j)).setCell ⟨q,1,none⟩ (.slice r u k)).setCell ⟨q,2,none⟩ (gI f)).setCell ⟨q,3,none⟩ (gI l),by simp[go_sem,h,rB],by simp[go_sem,h],((((aS.refl (λb=>b=q) W).sc).sc).sc).sc⟩
def Vi{W:Wt_}{q:Nat}{sT sG:Vt_}{f l:Int}(h:hC W q #[sT,sG,gI f,gI l] 246):(iL 246 (bO q 0)).run pQ W=.ok (.agg (rB sT sG f l)) W:=by
 simp[go_sem,h,rB]
def UA(W:Wt_):(Instr.build 246 #[]).run pQ W=.ok (.agg (rB dQ dQ 0 0)) W:=by
 simp[go_sem,rB,dQ]
def UV(w:Wt_):∃a,(iA 246 true (.tuple #[])).run pQ w=.ok (bO w.heap.size 0) a/\hC a w.heap.size #[dQ,dQ,gI 0,gI 0] 246/\M0 w a:=
 ⟨w.alloc (.cells #[dQ,dQ,gI 0,gI 0] 246),by simp[go_sem,dQ],by simp[go_sem],(aS.refl _ w).alloc _⟩
def H5(w:Wt_):OK w dQ dQ [] []:=⟨gD.nil _ _ _,gD.nil _ _ _,λx a=>by cases a⟩
def cV(B:Bk)(o:Od)(k:Int):Int×Bk×Pm:=
 if¬o.may\/k<1\/4<k then(2,B,⟨[],[],0,0⟩)
 else if(B.find o.num).isSome then(8,B,⟨[],[],0,0⟩)
 else if k=3/\iN (!o.buy) (B !o.buy) o.price o.acct<o.left then(70,B,⟨[],[],0,0⟩)
 else if k=4/\0<iN (!o.buy) (B !o.buy) o.price o.acct then(71,B,⟨[],[],0,0⟩)
 else if(k=1\/k=4)/\iN (!o.buy) (B !o.buy) o.price o.acct<o.left/\100<=(B o.buy).length then(9,B,⟨[],[],0,0⟩)
 else(0,eW B o (decide (k=1\/k=4)))
def P4{w:Wt_}{K:aY}{b:Nat}{B:Bk}{s:Bool->Nat}{G:Bool->Nat->Prop}{o:Od}{k:Int}(h:kC w b s G B)(hof:o.Fit)(hk:0<=k/\k<256)
  (hK:∀P y A w',kC w' b s P (cV B o k).2.1->OK w' y A (cV B o k).2.2.trades (cV B o k).2.2.gone->aS (λx=>G true x\/G false x) w w' ->(∀d x,P d x->G d x\/w.heap.size<=x)->
   (∀x,aK y x\/aK A x->w.heap.size<=x/\∀d,¬P d x)->K (.tuple #[.agg (rB y A (cV B o k).2.2.filled (cV B o k).2.2.left),gI (cV B o k).1]) w'):Ca pQ 155 #[fa b,jQ o,gB k] w K:=by
 unfold fa;refine cN Tryz.func155 ?_;obtain⟨w1,e1,b1,m1⟩:=tK o w;apply bh e1;obtain⟨p,L⟩:=df w.heap.size;rw[<-L]at b1|-;obtain⟨w2,e2,b2,m2⟩:=UV w1;apply bh e2;obtain⟨q,hq0⟩:=df w1.heap.size;rw[<-hq0]at b2|-;have hpq:p<q:=by have:=ay b1;omega
 have c1:=m2.hpk b1 id;have Y:=m1.trans m2;have R:∀{W W' :Wt_},M0 W W' ->aS (λx=>G true x\/G false x) W W' :=λm=>m.to;have hGlt:∀d x,G d x->x<p:=λd x c=>by rw[L];exact h.lt c
 have hbp:b<p:=by rw[L];exact ay h.blk
 have bad:∀e W,cV B o k=(e,B,⟨[],[],0,0⟩)->M0 w2 W->
   rv pQ (Instr.build 246 #[]) W λv25 w26=>ru pQ (iS 246 (bO q 0) v25) w26 λQ=>
    l8 pQ (iL 246 (bO q 0)) Q λv28=>K (.tuple #[v28,gI e]) Q:=by
  intro e W O mW;apply bh (UA W);obtain⟨W2,D,hW2,g⟩:=VR (sT:=dQ) (sG:=dQ) (f:=0) (l:=0) (mW.hpk b2 id) ⟨_,_,_,rfl⟩ ⟨_,_,_,rfl⟩;apply gg D;apply cK (Vi hW2);have j:=hK G dQ dQ W2;rw[O]at j;have M:=Y.trans mW;exact j ((h.mod M id λ_ _ _ h=>h).mod g qZ λd x c=>by grind) (H5 _) ((R M).on g λx c=>fM) (λd x c=>.inl c) λx c=>by rcases c with c|c<;>cases c
 have h2:=h.mod Y id λ_ _ _ h=>h;apply pG h2.q;refine eK ?_;refine cG.at (λst W=>st=(.bool (decide (¬o.may\/k<1\/4<k)),())/\M0 w2 W) ?_ ?_
 ·apply bh (kX (o:=o) (At.all c1));refine uN λw3 g=>?_;refine dq ?_;cases hm:o.may with
  |false=>
   rw[aw,ae (show(!false)=true from rfl)];exact⟨by simp,g⟩
  |true=>
   rw[aw,aa (by simp)];by_cases h1:k<1
   ·refine dB h1 ?_;exact⟨by simp[h1],g⟩
   ·refine ey h1 ?_;refine dq ?_;exact⟨by simp[h1],g⟩
 rintro _ w3 ⟨rfl,g⟩;refine jG ?_;intro _;by_cases a:¬o.may\/k<1\/4<k
 ·rw[mP a];exact bad 2 w3 (by unfold cV;rw[ae a]) g
 rw[Hm a]
 have S:o.may=true:=by
  apply aI;intro z;exact a (.inl z)
 have d1:=g.hpk c1 id;have r:=d1;unfold dx at r;refine dE r ?_;refine dE r ?_;have h3:=h2.mod g id λ_ _ _ h=>h;refine uM h3.blk h3.sd (λhnf w4 m4=>?_) λfo d hfo _ w4 m4=>?_
 ·refine dq ?_;refine dq ?_;obtain⟨w5,e5,b5,m5⟩:=jE w4;apply bh e5;obtain⟨N,e6,b6,m6⟩:=jf (o' :=nZ) b5;apply gg e6;have I:=m5.on m6 λb hb=>fM;have F:=m4.trans I;have M6:=g.trans F;have f1:=F.hpk r id;have hs6:=M6.size;refine eK ?_;refine dE f1 ?_;refine dE f1 ?_;have h6:=h3.mod F id λ_ _ _ h=>h;apply BB (s:=s) h6.blk;have md:M0 N N.drew:=sK;have h7:=h6.mod md id λ_ _ _ h=>h;have C:=md.hpk f1 id;have f2o:=C;have M7:=M6.trans md;generalize N.drew=w7 at h7 C f2o M7|-;refine dq ?_;refine dq ?_;refine dE C ?_;refine dE C ?_;refine dE C ?_;refine dE C ?_;refine L6 (h7.sd (!o.buy)) λi m8=>?_;have h8:=h7.mod m8 id λ_ _ _ h=>h;have U:=m8.hpk C id;have f3o:=U;have J:=M7.trans m8;obtain⟨n,T⟩:=df (iN (!o.buy) (B !o.buy) o.price o.acct);rw[<-T]
  have H:cV B o k=if k=3/\n<o.left then(70,B,⟨[],[],0,0⟩)else if k=4/\0<n then(71,B,⟨[],[],0,0⟩)else if(k=1\/k=4)/\n<o.left/\100<=(B o.buy).length then(9,B,⟨[],[],0,0⟩)else(0,eW B o (decide (k=1\/k=4))):=by
   unfold cV;rw[aa a,aa (by rw[hnf];simp),<-T]
  refine cG.at (λst W=>st=(.bool (decide (k=1\/k=4)),())/\W=i) ?_ ?_
  ·by_cases u:k=1
   ·refine dB u ?_;exact⟨by simp[u],rfl⟩
   ·refine ey u ?_;apply ax (.bool (decide (k=4))) i (by simp[go_sem];rw[dr];simp);exact⟨by simp[u],rfl⟩
  rintro _ i ⟨rfl,rfl⟩;refine jG ?_;intro _;refine cG.at (λst W=>st=(.bool (decide (k=3/\n<o.left)),())/\W=i) ?_ ?_
  ·by_cases t:k=3
   ·refine dB t ?_;refine dE U ?_;refine dE U ?_;refine dq ?_;exact⟨by simp[t],rfl⟩
   ·refine ey t ?_;exact⟨by simp[t],rfl⟩
  rintro _ i ⟨rfl,rfl⟩;refine jG ?_;intro _;by_cases Z:k=3/\n<o.left
  ·rw[mP Z];exact bad 70 i (by rw[H,ae Z]) J
  rw[Hm Z];refine cG.at (λst W=>st=(.bool (decide (k=4/\0<n)),())/\W=i) ?_ ?_
  ·by_cases v:k=4
   ·refine dB v ?_;refine dq ?_;exact⟨by simp[v],rfl⟩
   ·refine ey v ?_;exact⟨by simp[v],rfl⟩
  rintro _ i ⟨rfl,rfl⟩;refine jG ?_;intro _;by_cases E:k=4/\0<n
  ·rw[mP E];exact bad 71 i (by grind) J
  rw[Hm E];refine cG.at (λst W=>st=(.bool (decide ((k=1\/k=4)/\n<o.left/\100<=(B o.buy).length)),())/\W=i) ?_ ?_
  ·by_cases O:k=1\/k=4
   ·rw[mP O];refine dE U ?_;refine dE U ?_;by_cases X:n<o.left
    ·refine dB X ?_;apply Si (h8.sd o.buy);refine dq ?_;refine⟨?_,rfl⟩
     have e:decide ((100:Int)<=((B o.buy).length:Int))=decide ((k=1\/k=4)/\n<o.left/\100<=(B o.buy).length):=by
      rw[kA];exact⟨λh=>⟨O,X,qZ⟩,λh=>qZ⟩
     rw[e]
    ·refine ey X ?_;refine⟨?_,rfl⟩;rw[br (λz=>X z.2.1)]
   ·rw[Hm O];refine⟨?_,rfl⟩;rw[br (λz=>O z.1)]
  rintro _ i ⟨rfl,rfl⟩;refine jG ?_;intro _;by_cases z:(k=1\/k=4)/\n<o.left/\100<=(B o.buy).length
  ·rw[mP z];exact bad 9 i (by grind) J
  rw[aw,aa (by grind)];rw[aa Z,aa E,aa z]at H;apply bh (kX (o:=o) (At.all f3o));refine Kd h8 hof S λP y A w9 r9 p9 m9 n9 s9=>?_;obtain⟨ta,tc,hsT,-⟩:=p9.tr.isSl;obtain⟨ga,gc,hsG,-⟩:=p9.go.isSl;have hq8:¬(G true q\/G false q):=λhg=>by grind
  have f4:=m9.hpk (J.hpk b2 id) hq8;have hs8:=J.size;have hq2:=ay b2;obtain⟨wa,D,ja,ma⟩:=VR (sT:=y) (sG:=A) (f:=(eW B o (decide (k=1\/k=4))).2.filled) (l:=(eW B o (decide (k=1\/k=4))).2.left) f4 ⟨_,_,_,hsT⟩ ⟨_,_,_,hsG⟩;apply gg D;apply cK (Vi ja);have j:=hK P y A wa;rw[H]at j;have hsw:=(Y.trans J).size;refine j (r9.mod ma qZ λd x c=>?_) (p9.mod ma (λx c=>?_) λx c=>?_) (((R (Y.trans J)).trans m9).on ma λx c=>fM) (λd x c=>?_) λx c=>⟨by grind,(s9 x c).2⟩
  ·rcases n9 d x c with V|V
   ·grind
   ·omega
  ·grind
  ·grind
  ·rcases n9 d x c with V|V
   ·exact .inl V
   ·exact fM
 ·refine dq ?_;refine dq ?_;obtain⟨w5,e5,b5,m5⟩:=jE w4;apply bh e5;obtain⟨N,e6,b6,m6⟩:=jf (o' :=fo) b5;apply gg e6;have I:=m5.on m6 λb hb=>fM;apply ax (.bool true) N (by simp[go_sem,dg]);rw[jV];exact bad 8 N (by unfold cV;rw[aa a,ae (by rw[hfo];rfl)]) ((g.trans m4).trans I)
end Go.Proofs
set_option maxRecDepth 100000
set_option maxHeartbeats 1000000
namespace Go.Proofs
open Go Go.Vc
attribute [local congr] aZ
variable {B:Bk}{b:Nat}{w:Wt_}{K:aY}
def JT{W:Wt_}{q:Nat}{e o:Od}{K:Value->World->Prop}(h:hC W q (dx e).toArray ji)
  (g:∀c,aS (λb=>b=q) W c->K (jQ o) c):
  ru pQ (iS ji (bO q 0) (jQ o)) W λa=>l8 pQ (iL ji (bO q 0)) a λj=>K j a:=by
 obtain⟨k,d,f,i⟩:=jf (o' :=o) h;apply gg d;apply cK (kX (o:=o) (At.all f));exact g _ i
def fh(B:Bk)(n:Int):Int×Bk×Od:=
 match B.find n with
 |none=>(7,B,nZ)
 |some (o,d)=>(0,B.set d (ot (B d) n),o)
def NY{s:Bool->Nat}{G:Bool->Nat->Prop}{n:Int}(h:kC w b s G B)
  (g:∀v,M0 w v->K (.tuple #[jQ (match B.find n with|none=>nZ|some (o,_)=>o),gI (match B.find n with|none=>7|some _=>0)]) v):Ca pQ 268 #[fa b,gQ n] w K:=by
 unfold fa;refine cN Tryz.func268 ?_;obtain⟨E,C,j,p⟩:=jE w;apply bh C;obtain⟨q,l⟩:=df w.heap.size;rw[<-l]at j|-;have h1:=h.mod p id λ_ _ _ h=>h;apply pG h1.q;refine eK ?_;refine uM h1.blk h1.sd (λA u a=>?_) λo d z F u a=>?_
 ·rw[A]at g;refine dq ?_;refine dq ?_;obtain⟨y,r,k,c⟩:=jE u;apply bh r;obtain⟨i,t,x,f⟩:=jf (o' :=nZ) k;apply gg t;refine jZ ?_;apply ax (jQ nZ) i (by simp[go_sem,jQ,dx,nZ]);have M:=p.trans (a.trans (c.on f λb e=>fM));refine JT ((a.trans (c.on f λb e=>fM)).hpk j id) λD m=>?_;exact g _ (M.on m λb e=>fM)
 ·rw[z]at g;refine dq ?_;refine dq ?_;obtain⟨y,r,k,c⟩:=jE u;apply bh r;obtain⟨i,t,x,f⟩:=jf (o' :=o) k;apply gg t;apply ax (.bool false) i (by simp[go_sem,dg]);rw[ij];apply bh (kX (o:=o) (At.all x));have M:=p.trans (a.trans (c.on f λb e=>fM));refine JT ((a.trans (c.on f λb e=>fM)).hpk j id) λD m=>?_;exact g _ (M.on m λb e=>fM)
def E0{s:Bool->Nat}{G:Bool->Nat->Prop}{n:Int}(h:kC w b s G B)
  (t:∀N z,kC z b s N (fh B n).2.1->aS (λx=>G true x\/G false x) w z->(∀d x,N d x->G d x\/w.heap.size<=x)->
   K (.tuple #[jQ (fh B n).2.2,gI (fh B n).1]) z):Ca pQ 212 #[fa b,gQ n] w K:=by
 unfold fa;refine cN Tryz.func212 ?_;obtain⟨w1,e1,y,D⟩:=jE w;apply bh e1;obtain⟨q,c⟩:=df w.heap.size;rw[<-c]at y|-;have k:∀{W U:Wt_},M0 W U->aS (λx=>G true x\/G false x) W U:=λm=>m.to;have P:∀d x,G d x->x<q:=λd x a=>by rw[c];exact h.lt a
 have Y:b<q:=by rw[c];exact ay h.blk
 have h1:=h.mod D id λ_ _ _ h=>h;apply pG h1.q;refine eK ?_;refine uM h1.blk h1.sd (λhn H l=>?_) λo d hf X H l=>?_
 ·refine dq ?_;refine dq ?_;obtain⟨V,E,C,p⟩:=jE H;apply bh E;obtain⟨v,F,b4,u⟩:=jf (o' :=nZ) C;apply gg F;refine jZ ?_;apply ax (jQ nZ) v (by simp[go_sem,jQ,dx,nZ]);have M:=D.trans (l.trans (p.on u λb A=>fM));refine JT ((l.trans (p.on u λb A=>fM)).hpk y id) λT i=>?_;have r:=M.on i λb A=>fM;have e:fh B n=(7,B,nZ):=by unfold fh;rw[hn]
  rw[e]at t;exact t G _ (h.mod r id λ_ _ _ h=>h) (k r) λd x a=>.inl a
 ·refine dq ?_;refine dq ?_;obtain⟨V,E,C,p⟩:=jE H;apply bh E;obtain⟨v,F,b4,u⟩:=jf (o' :=o) C;apply gg F;apply ax (.bool false) v (by simp[go_sem,dg]);rw[ij];have j:=l.trans (p.on u λb A=>fM);have I:=D.trans j;have Q:=h.mod I id λ_ _ _ h=>h;have hs4:=I.size;have R:=j.hpk y id;refine Bm (Q.sd d) λO T s5 i L=>?_;rw[X];refine dq ?_;refine dq ?_;have q5:=i.hpk R λa=>by grind
  refine JT q5 λw6 J=>?_;have e:fh B n=(0,B.set d (ot (B d) n),o):=by unfold fh;rw[hf]
  rw[e]at t;have r:aS (λx=>G true x\/G false x) w T:=(k I).trans (i.mono λx _ a=>by cases d;exact .inr a;exact .inl a);have h5:=Q.upd i s5 L
  have g:∀e x,iV G d O e x->G e x\/(w.heap.size<=x/\x≠q):=λe x a=>by
   by_cases S:e=d
   ·subst S;rw[fY]at a;rcases L x a with f|f
    ·exact .inl f
    ·exact .inr ⟨qZ,by have:=ay R;omega⟩
   ·unfold iV at a;rw[aa S]at a;exact .inl a
  refine t (iV G d O) _ (h5.mod J qZ λe x a Z=>?_) (r.on J λx a=>fM) λe x a=>(g e x a).imp id (·.1);rcases g e x a with f|f
  ·grind
  ·exact f.2 Z
def cC(B:Bk)(n price left:Int):Int×Bk×Pm:=
 match B.find n with
 |none=>(7,B,⟨[],[],0,0⟩)
 |some (o,d)=>
  if({o with price:=price,left:=left}:Od).may=false then(2,B,⟨[],[],0,0⟩)
  else if price=o.price/\left<=o.left then((qz (B d) n left).1,B.set d (qz (B d) n left).2,⟨[],[],0,left⟩)
  else(0,eW (B.set d (ot (B d) n)) {o with price:=price,left:=left} true)
def WJ(W:Wt_)(x:Int):(Instr.build 246 #[(3,gI x)]).run pQ W=.ok (.agg (rB dQ dQ 0 x)) W:=by
 simp[go_sem,rB,dQ]
def C1{F:NP_}(h:fU w b F B)
  (y:∀n p j,fU j n p B->M0 w j->(∀x,p x->w.heap.size<=x)->K (fa n) j):Ca pQ 93 #[fa b] w K:=by
 unfold fa;refine cN Tryz.func93 ?_;apply pG h;obtain⟨s,G,C,-⟩:=h.r;refine eK ?_;have md:M0 w w.drew:=sK;have g:=C.mod md id λ_ _ _ h=>h;have m:=g.blk;simp only[fa,cj];refine rD ?_;refine xj m ?_;refine rD ?_;refine xj m ?_;refine Ez (g.sd true) λs1 q H l f E=>?_;have z:=f.hpk m id;refine⟨by simp[go_sem,z],?_⟩;have h1:=g.mod f id λ_ _ _ h=>h;refine Ez (h1.sd false) λe o a t i r=>?_;apply cT (.agg #[dg s1,dg e]) (λ_=>by simp[go_sem,dg]);have k:M0 a (a.alloc (.cells #[dg s1,dg e] 242)):=kU;apply ax (fa a.heap.size) (a.alloc (.cells #[dg s1,dg e] 242)) rfl;have v:=md.size;have A:=f.size;have D:=i.size;refine y a.heap.size (λx=>x=a.heap.size\/q x\/o x) _ ⟨λd=>if d then s1 else e,λd=>if d then q else o,by simp[go_sem],λd=>?_,λx=>aG,λd=>?_,λx h1 u=>?_⟩ (((md.trans f).trans i).trans k) λx c=>?_
 ·cases d
  ·exact t.mod k dS
  ·exact(l.mod i dS).mod k dS
 ·cases d
  ·intro h;have:=t.lt h;omega
  ·intro h;have:=l.lt h;omega
 ·have I:=l.lt h1;have J:=r x u;omega
 ·rcases c with rfl|c|c
  ·omega
  ·have:=E x c;omega
  ·have:=r x c;omega
end Go.Proofs
set_option maxRecDepth 100000
set_option maxHeartbeats 1000000
namespace Go.Proofs
open Go Go.Vc
attribute [local congr] aZ
variable {W:Wt_}
def R1{p:Nat}{o:Od}(h:hC W p (dx o).toArray ji)(x:Int):
  ∃a,(iF ji (bO p 0) 3).run pQ W=.ok (bO p 3) W/\(iS 2 (bO p 3) (gI x)).run pQ W=.ok () a/\
   hC a p (dx {o with price:=x}).toArray ji/\aS (λb=>b=p) W a:=by
 unfold dx at h;exact⟨W.setCell ⟨p,3,none⟩ (gI x),by simp[go_sem],by simp[go_sem,h],by simp[go_sem,h,dx],(aS.refl (λb=>b=p) W).sc⟩
def Vk{p:Nat}{o:Od}(h:hC W p (dx o).toArray ji)(x:Int):
  ∃a,(iF ji (bO p 0) 4).run pQ W=.ok (bO p 4) W/\(iS 2 (bO p 4) (gI x)).run pQ W=.ok () a/\
   hC a p (dx {o with left:=x}).toArray ji/\aS (λb=>b=p) W a:=by
 unfold dx at h;exact⟨W.setCell ⟨p,4,none⟩ (gI x),by simp[go_sem],by simp[go_sem,h],by simp[go_sem,h,dx],(aS.refl (λb=>b=p) W).sc⟩
def PT{q:Nat}{i u s m sT sG:Vt_}{f l:Int}{K:Value->World->Prop}(h:hC W q #[i,u,s,m] 246)(o:∃a n c,sT=.slice a n c)(t:∃a n c,sG=.slice a n c)
  (p:∀g,aS (λb=>b=q) W g->K (.agg (rB sT sG f l)) g):
  ru pQ (iS 246 (bO q 0) (.agg (rB sT sG f l))) W λe=>l8 pQ (iL 246 (bO q 0)) e λk=>K k e:=by
 obtain⟨v,d,j,r⟩:=VR (f:=f) (l:=l) h o t;apply gg d;apply cK (Vi j);exact p _ r
def JK:∃a n c,dQ=.slice a n c:=⟨_,_,_,rfl⟩
def Iu{w:Wt_}{K:aY}{b:Nat}{B:Bk}{s:Bool->Nat}{G:Bool->Nat->Prop}{n price left:Int}(h:kC w b s G B)(Q:eP price)(v:eP left)
  (M:∀L P R w',kC w' b s L (cC B n price left).2.1->OK w' P R (cC B n price left).2.2.trades (cC B n price left).2.2.gone->aS (λx=>G true x\/G false x) w w' ->(∀d x,L d x->G d x\/w.heap.size<=x)->
   (∀x,aK P x\/aK R x->w.heap.size<=x/\∀d,¬L d x)->K (.tuple #[.agg (rB P R (cC B n price left).2.2.filled (cC B n price left).2.2.left),gI (cC B n price left).1]) w'):Ca pQ 217 #[fa b,gQ n,gI price,gI left] w K:=by
 unfold fa;refine cN Tryz.func217 ?_;obtain⟨w1,e1,b1,V⟩:=UV w;apply bh e1;obtain⟨q,C⟩:=df w.heap.size;rw[<-C]at b1|-;have E:∀{W W' :Wt_},M0 W W' ->aS (λx=>G true x\/G false x) W W' :=λm=>m.to;have hGlt:∀d x,G d x->x<q:=λd x a=>by rw[C];exact h.lt a
 have hbq:b<q:=by rw[C];exact ay h.blk
 have hs1:=V.size;have hq1:=ay b1;have h1:=h.mod V id λ_ _ _ h=>h;apply pG h1.q;refine eK ?_
 have bad:∀(e:Int) (W:Wt_),cC B n price left=(e,B,⟨[],[],0,0⟩)->M0 w1 W->
   rv pQ (Instr.build 246 #[]) W λv25 w26=>ru pQ (iS 246 (bO q 0) v25) w26 λN=>
    l8 pQ (iL 246 (bO q 0)) N λv28=>K (.tuple #[v28,gI e]) N:=by
  intro e W hr mW;apply bh (UA W);refine PT (mW.hpk b1 id) JK JK λw5 m5=>?_;rw[hr]at M;have M5:=(V.trans mW).on m5 λx a=>fM;exact M G dQ dQ _ (h.mod M5 id λ_ _ _ h=>h) (H5 _) (E M5) (λd x a=>.inl a) λx a=>by rcases a with a|a<;>cases a
 refine uM h1.blk h1.sd (λhn w2 m2=>?_) λo d hf hg w2 m2=>?_
 ·refine dq ?_;refine dq ?_;obtain⟨w3,e3,b3,m3⟩:=jE w2;apply bh e3;obtain⟨T,e4,b4,m4⟩:=jf (o' :=nZ) b3;apply gg e4;refine jZ ?_;exact bad 7 T (by unfold cC;rw[hn]) (m2.trans (m3.on m4 λb O=>fM))
 ·have S:=(h.sd d).may o (dz hg);refine dq ?_;refine dq ?_;obtain⟨w3,e3,b3,m3⟩:=jE w2;apply bh e3;obtain⟨p,hp0⟩:=df w2.heap.size;rw[<-hp0]at b3|-;obtain⟨T,e4,b4,m4⟩:=jf (o' :=o) b3;apply gg e4;apply ax (.bool false) T (by simp[go_sem,dg]);rw[ij];apply bh (kX (o:=o) (At.all b4));have m24:=m3.on m4 λb O=>fM;have hs2:=m2.size;obtain⟨w5,e5,b5,m5⟩:=jE T;apply bh e5;obtain⟨r,U⟩:=df T.heap.size;rw[<-U]at b5|-;obtain⟨w6,e6,b6,m6⟩:=jf (o' :=o) b5;apply gg e6;have hpr:p<r:=by rw[U];exact ay b4
  have p6:=(m5.on m6 λb O=>fM).hpk b4 id;obtain⟨w7,f7,e7,b7,m7⟩:=R1 p6 price;apply bh f7;apply gg e7;obtain⟨w8,f8,e8,b8,m8⟩:=Vk b7 left;apply bh f8;apply gg e8;apply bh (kX (At.all b8));have hpq:q<p:=qZ;have M28:M0 w2 w8:=(((m24.trans (m5.on m6 λb O=>fM)).on m7 λb O=>fM).on m8 λb O=>fM)
  have r8:=m8.hpk (m7.hpk b6 qZ) qZ;refine uN λw9 m9=>?_;have k:M0 w1 w9:=(m2.trans M28).trans m9;have b9:=m9.hpk b8 id;have r9:=m9.hpk r8 id;cases g:({o with price:=price,left:=left}:Od).may with
  |false=>
   have hmay' :({num:=o.num,acct:=o.acct,buy:=o.buy,price:=price,left:=left}:Od).may=false:=g;refine jZ ?_;exact bad 2 w9 (by unfold cC;rw[hf];simp only;rw[ae g]) k
  |true=>
   refine eK ?_;have q9:=k.hpk b1 id;have hs9:=k.size;have h9:=h1.mod k id λ_ _ _ h=>h;have hq9:=ay q9;have hr9' :=ay r9;refine cG.at (λst W=>st=(.bool (decide (price=o.price/\left<=o.left)),())/\W=w9) ?_ ?_
   ·have D:=r9;unfold dx at D;refine dq ?_;refine dE D ?_;by_cases u:price=o.price
    ·refine dB u ?_;refine dq ?_;refine dE D ?_;refine dq ?_;exact⟨by simp[u],rfl⟩
    ·refine ey u ?_;exact⟨by simp[u],rfl⟩
   rintro _ w9 ⟨rfl,rfl⟩;refine jG ?_;intro _;by_cases j:price=o.price/\left<=o.left
   ·rw[mP j];apply bh (WJ _ left);refine Ng (h9.sd d) v λY H z f t=>?_;have J:=f.hpk q9 λa=>by grind
    have e:cC B n price left=((qz (B d) n left).1,B.set d (qz (B d) n left).2,⟨[],[],0,left⟩):=by
     unfold cC;rw[hf];simp only;rw[aa (by rw[g];simp),ae j]
    rw[e]at M;refine PT J JK JK λw11 l=>?_;have F:aS (λx=>G true x\/G false x) w H:=(E (V.trans k)).trans (f.mono λx _ a=>by cases d;exact .inr a;exact .inl a);have A:=h9.upd f z t
    have i:∀e x,iV G d Y e x->G e x\/(w.heap.size<=x/\x≠q):=λe x a=>by
     by_cases X:e=d
     ·subst X;rw[fY]at a;rcases t x a with c|c
      ·exact .inl c
      ·grind
     ·unfold iV at a;rw[aa X]at a;exact .inl a
    refine M (iV G d Y) dQ dQ _ (A.mod l qZ λe x a hq=>?_) (H5 _) (F.on l λx a=>fM) (λe x a=>(i e x a).imp id (·.1)) λx a=>by rcases a with a|a<;>cases a
    rcases i e x a with c|c
    ·grind
    ·exact c.2 hq
   ·rw[Hm j];refine Bm (h9.sd d) λY H z f t=>?_;have J:=f.hpk q9 λa=>by grind
    have p10:=f.hpk b9 λa=>by grind
    have hs10:=f.size;have F:aS (λx=>G true x\/G false x) w H:=(E (V.trans k)).trans (f.mono λx _ a=>by cases d;exact .inr a;exact .inl a);have A:=h9.upd f z t
    have i:∀e x,iV G d Y e x->G e x\/(w.heap.size<=x/\x≠q):=λe x a=>by
     by_cases X:e=d
     ·subst X;rw[fY]at a;rcases t x a with c|c
      ·exact .inl c
      ·grind
     ·unfold iV at a;rw[aa X]at a;exact .inl a
    have hxq:∀e x,iV G d Y e x->x≠q:=λe x a=>by
     rcases i e x a with c|c
     ·grind
     ·exact c.2
    apply bh (kX (At.all p10));refine Kd A ⟨S.2.2.1,S.2.2.2.1,Q,v⟩ g λL P R w11 r11 I l n11 s11=>?_
    have e:cC B n price left=(0,eW (B.set d (ot (B d) n)) {o with price:=price,left:=left} true):=by
     unfold cC;rw[hf];simp only;rw[aa (by rw[g];simp),aa j]
    rw[e]at M;obtain⟨ta,tc,hsT,-⟩:=I.tr.isSl;obtain⟨ga,gc,hsG,-⟩:=I.go.isSl;have q11:=l.hpk J (by grind);refine PT q11 ⟨_,_,_,hsT⟩ ⟨_,_,_,hsG⟩ λw12 y=>?_
    have Z:∀e x,L e x->G e x\/(w.heap.size<=x/\x≠q):=λe x a=>by
     rcases n11 e x a with c|c
     ·exact i e x c
     ·grind
    refine M L P R w12 (r11.mod y qZ λe x a hq=>?_) (I.mod y (λx a=>?_) λx a=>?_) ((F.on l λx a=>?_).on y λx a=>fM) (λe x a=>(Z e x a).imp id (·.1)) λx a=>⟨by grind,(s11 x a).2⟩
    ·rcases Z e x a with c|c
     ·grind
     ·exact c.2 hq
    ·grind
    ·grind
    ·rcases a with a|a
     ·rcases i _ x a with c|c
      ·exact .inl (.inl c)
      ·exact .inr c.1
     ·rcases i _ x a with c|c
      ·exact .inl (.inr c)
      ·exact .inr c.1
end Go.Proofs
namespace Go.Proofs
open Go Go.Vc
attribute [local congr] aZ
variable {xs:List (List Value)}{gv:Vt_}
structure QH(P:Program)(gv:Vt_)(xs:List (List Value))(Ok:World->Prop):Prop where
 out:∃f first captured,gv=.func (.func f) first captured/\∀(yl:Nat) (J:(Nat->Prop)->Nat->World->Prop) (Js:(Nat->Prop)->World->Prop) (W:Wt_) (K:aY),Ok W->
  (∀Q W1,M0 W W1->(∀b,Q b->W.heap.size<=b/\b<W1.heap.size)->J Q 0 W1)->
  (∀Q Q' i W W',J Q i W->aS Q W W' ->(∀b,Q' b->(Q b\/W.heap.size<=b)/\b<W'.heap.size)->J Q' i W')->
  (∀Q Q' W W',Js Q W->aS Q W W' ->(∀b,Q' b->(Q b\/W.heap.size<=b)/\b<W'.heap.size)->Js Q' W')->
  (∀Q i x W,xs[i]? =some x->J Q i W->∀K' :aY,(∀W',J Q (i+1) W' ->W.heap.size<=W'.heap.size->(∀b,Q b->W'.heap[b]? =W.heap[b]?)->K' (.bool true) W')->(∀W',Js Q W' ->W.heap.size<=W'.heap.size->(∀b,Q b->W'.heap[b]? =W.heap[b]?)->K' (.bool false) W')->mM P (.func (.yield yl) #[] #[]) x W K')->
  (∀Q W,J Q xs.length W->K (.tuple #[]) W)->(∀Q W,Js Q W->K (.tuple #[]) W)->Ca P f ⟨first.toList++((.func (.yield yl) #[] #[])::captured.toList)⟩ W K
def O7{P:Program}{Ok:World->Prop}(h:AD P gv xs Ok):QH P gv xs Ok:=by
 obtain⟨f,first,k,e,r⟩:=h.out;refine⟨f,first,k,e,λv J t W K o p g m l c n=>?_⟩;refine r _ (λQ i W=>J Q i W/\∀b,Q b->b<W.heap.size) (λW=>∃Q,t Q W) W K o (λQ q j d=>⟨p Q q j d,λb a=>(d b a).2⟩) ?_ ?_ (λQ W h=>c Q W h.1) λW ⟨Q,h⟩=>n Q W h
 ·rintro Q i W u ⟨s,d⟩ j;exact⟨g Q Q i W u s (j.to) λb a=>⟨.inl a,bJ (d b a) j.size⟩,λb a=>bJ (d b a) j.size⟩
 ·grind
structure oM(gv:Vt_)(xs:List (List Value))(w:Wt_):Prop where
 out:∃Ok,QH pQ gv xs Ok/\∀W,M0 w W->Ok W
 fn:∃f cap,gv=.func (.func f) #[] cap
def Ch.m{w:Wt_}(h:Ch gv xs w):oM gv xs w:=by
 obtain⟨⟨Ok,h1,a⟩,b⟩:=h;exact⟨⟨Ok,O7 h1,a⟩,b⟩
def oM.mod{w w' :Wt_}(h:oM gv xs w)(a:M0 w w'):oM gv xs w' :=by
 obtain⟨⟨Ok,h1,b⟩,c⟩:=h;exact⟨⟨Ok,h1,λW m=>b W (a.trans m)⟩,c⟩
def nQ(T:TypeId){α:Type}(fv:α->Value)(fc:α->List Value)(xs:List α):Prop:=
 ∀a∈xs,∀W:World,∃w1 w2,(iA T true (.tuple #[])).run pQ W=.ok (bO W.heap.size 0) w1/\(iS T (bO W.heap.size 0) (fv a)).run pQ w1=.ok () w2/\
  hC w2 W.heap.size (fc a).toArray T/\M0 W w2
section
variable{w:Wt_}{gv:Vt_}{α:Type}{xs:List α}{T:TypeId}{fv:α->Value}{fc:α->List Value}{body:Value->World->(World->Prop)->(Code->World->Prop)->Prop}{after:List Nat->Option Code->World->Prop}{X0:NP_}
def Dh(ht:oM gv (xs.map λa=>[fv a]) w)(hv:nQ T fv fc xs)
  (I:(Nat->Prop)->Nat->World->Prop)(Ex:Code->(Nat->Prop)->World->Prop)
  (C:∀X i W m H,I X i W->aS H W m->(∀b,X b->¬H b)->I X i m)
  (hsx:∀c X W m H,Ex c X W->aS H W m->(∀b,X b->¬H b)->Ex c X m)
  (M:∀b,X0 b->b<w.heap.size)(h0:I X0 0 w)
  (U:∀X i (hi:i<xs.length) W q,I X i W->aS X0 w W->(∀b,X b->b<q/\(X0 b\/w.heap.size+1<b))->w.heap.size+1<q->q<W.heap.size->hC W q (fc xs[i]).toArray T->∀KN KJ,
   (∀y m,I y (i+1) m->aS X W m->(∀b,y b->(X b\/W.heap.size<=b)/\b<m.heap.size)->KN m)->
   (∀c y m,Ex c y m->aS X W m->(∀b,y b->(X b\/W.heap.size<=b)/\b<m.heap.size)->KJ c m)->body (bO q 0) W KN KJ)
  (hend:∀X W d,d=w.heap.size->I X xs.length W->aS X0 w W->hp W d=some (.deferred (some []))->(∀b,X b->b<W.heap.size/\(X0 b\/d+1<b))->after [d] none W)
  (Y:∀c X W d,d=w.heap.size->Ex c X W->aS X0 w W->hp W d=some (.deferred (some []))->(∀b,X b->b<W.heap.size/\(X0 b\/d+1<b))->after [d] (some c) W):
  Et pQ none gv w 1 (λl x W KN KJ=>rv pQ (iA T true (.tuple #[])) W λv w1=>ru pQ (iS T v (x.getD 0 undef)) w1 λw2=>pP l w2 λw3=>body v w3 KN KJ) after:=by
 obtain⟨⟨Ok,hit,hok⟩,-⟩:=ht;obtain⟨f,first,captured,rfl,hit0⟩:=hit.out;apply sV.2;show∀k:Loop,_;intro k s G hD hY;obtain⟨d,A⟩:=df w.heap.size;have S:(w.alloc (.deferred (some []))).heap.size=d+1:=by rw[cm,A]
 obtain⟨wr,E⟩:=df ((w.alloc (.deferred (some []))).alloc (.loop k));have R:wr.heap[d+1]? =some (.loop k):=by rw[E,ec,ae S.symm]
 have hszr:wr.heap.size=d+2:=by rw[E,cm,S]
 have V:hp wr d=some (.deferred (some [])):=by rw[E];simp[go_sem,A]
 have hmr:M0 w wr:=by rw[E];exact kU.alloc _
 have p:∀(W:Wt_) (o:Obj),aS (λb=>b=d+1) W (W.putObj (d+1) o):=λW o=>(aS.refl (λb=>b=d+1) W).putObj (b:=d+1) (.inl rfl) o;rw[S]at hY|-;rw[<-E];let J:(Nat->Prop)->Nat->World->Prop:=λQ i W=>∃X,I X i W/\aS X0 w W/\hp W d=some (.deferred (some []))/\(∀b,X b->b<W.heap.size/\(X0 b\/d+1<b)/\¬Q b)/\W.heap[d+1]? =some (.loop k)/\∀b,Q b->d+1<b/\b<W.heap.size;let Js:(Nat->Prop)->World->Prop:=λQ W=>∃c X r,Ex c X W/\aS X0 w W/\hp W d=some (.deferred (some []))/\(∀b,X b->b<W.heap.size/\(X0 b\/d+1<b)/\¬Q b)/\W.heap[d+1]? =some (.loop r)/\(∀b,Q b->d+1<b/\b<W.heap.size)/\r.state=.done/\r.pending=some c;refine hit0 _ J Js _ _ (hok _ hmr) ?_ ?_ ?_ ?_ ?_ ?_
 ·intro Q W1 j hQ;refine⟨X0,C _ _ _ _ _ h0 (hmr.trans j) dS,(hmr.trans j).to,j.hpk V id,λb g=>?_,j.keep R id,λb g=>?_⟩
  ·have h1:=M b g;have F:=j.size;exact⟨qZ,.inl g,λhq=>by grind⟩
  ·have:=hQ b g;omega
 ·rintro Q Q' i W m ⟨X,h1,F,L,n,B,P⟩ j K;have hl:=ay B;refine⟨X,C _ _ _ _ _ h1 j λb g=>(n b g).2.2,F.on j λb g=>.inr (by grind),j.hpk L λg=>by grind,λb g=>?_,j.keep B λg=>by grind,λb g=>?_⟩
  ·have u:=n b g;refine⟨bJ u.1 j.size,u.2.1,λhq=>?_⟩;rcases(K b hq).1 with h|h
   ·exact u.2.2 h
   ·have:=u.1;omega
  ·have u:=K b g;refine⟨?_,u.2⟩;rcases u.1 with h|h
   ·exact(P b h).1
   ·omega
 ·rintro Q Q' W m ⟨c,X,r,h1,F,L,n,B,P,h7⟩ j K;have hl:=ay B;refine⟨c,X,r,hsx _ _ _ _ _ h1 j λb g=>(n b g).2.2,F.on j λb g=>.inr (by grind),j.hpk L λg=>by grind,λb g=>?_,j.keep B λg=>by grind,λb g=>?_,h7⟩
  ·have u:=n b g;refine⟨bJ u.1 j.size,u.2.1,λhq=>?_⟩;rcases(K b hq).1 with h|h
   ·exact u.2.2 h
   ·have:=u.1;omega
  ·have u:=K b g;refine⟨?_,u.2⟩;rcases u.1 with h|h
   ·exact(P b h).1
   ·omega
 ·rintro Q i x W O ⟨X,h1,F,L,n,B,P⟩ K' hT hF;apply kE.2;show Yl pQ (d+1) ⟨_⟩ W K';have e1:(#[]:Array Value).toList++x=x:=rfl;rw[e1]
  obtain⟨hi,rfl⟩:∃hi:i<xs.length,x=[fv xs[i]]:=by
   rw[cz]at O;cases hh:xs[i]? with
   |none=>rw[hh]at O;cases O
   |some o=>
    obtain⟨hj,he⟩:=aF.1 hh;rw[hh]at O;exact⟨hj,by grind⟩
  apply hY _ W K' rfl ⟨k.state,k.pending,B⟩;obtain⟨w1,w2,v1,v2,v3,v4⟩:=hv xs[i] (av hi) W;obtain⟨q,hq0⟩:=df W.heap.size;rw[<-hq0]at v1 v2 v3;apply bh v1;show ru pQ (iS T (bO q 0) (fv xs[i])) w1 _;apply gg v2;have r2:w2.heap[d+1]? =some (.loop k):=v4.keep B id;apply qQ r2 s;have m3:=p w2 (.loop {k with state:=.busy});have r3:(w2.putObj (d+1) (.loop {k with state:=.busy})).heap[d+1]? =some (.loop {k with state:=.busy}):=by rw[dM,ae rfl,r2];rfl
  generalize w2.putObj (d+1) (.loop {k with state:=.busy})=w3 at m3 r3|-;have hdl:d+1<q:=by grind
  have q3:=m3.hpk v3 qZ;have hql:=ay q3;have M3:aS (λb=>b=d+1) W w3:=(v4.to).trans m3;have hXq:∀b,X b->b<q/\(X0 b\/d+1<b):=λb g=>⟨by grind,(n b g).2.1⟩
  have t:∀b,X b->b≠d+1/\b≠d:=λb g=>by
   rcases(n b g).2.1 with h|h
   ·have:=M b h;omega
   ·omega
  have D:∀(m:Wt_) (y:NP_) (o:Obj),aS X w3 m->(∀b,y b->(X b\/w3.heap.size<=b)/\b<m.heap.size)->
    aS X0 w (m.putObj (d+1) o)/\hp (m.putObj (d+1) o) d=some (.deferred (some []))/\(∀b,y b->b<(m.putObj (d+1) o).heap.size/\(X0 b\/d+1<b)/\¬Q b)/\(∀b,Q b->d+1<b/\b<(m.putObj (d+1) o).heap.size)/\
    (∀b,Q b->(m.putObj (d+1) o).heap[b]? =W.heap[b]?)/\W.heap.size<=(m.putObj (d+1) o).heap.size/\m.heap[d+1]? =some (.loop {k with state:=.busy}):=by
   intro m y o j z;have N:=p m o;have hsW:=j.size;have hsP:=N.size;refine⟨?_,N.hpk (j.hpk (m3.hpk (v4.hpk L id) qZ) λg=>(t _ g).2 rfl) qZ,λb g=>?_,λb g=>?_,λb g=>?_,qZ,j.keep r3 λg=>(t _ g).1 rfl⟩
   ·refine(((F.on M3 λb g=>fM).on j λb g=>?_)).on N λb g=>fM;rcases(n b g).2.1 with h|h
    ·exact .inl h
    ·exact fM
   ·have u:=z b g;refine⟨qZ,?_,λhq=>?_⟩
    ·rcases u.1 with h|h
     ·exact(n b h).2.1
     ·exact fM
    ·rcases u.1 with h|h
     ·exact(n b h).2.2 hq
     ·grind
   ·have:=P b g;omega
   ·have hb' :=P b g;rw[N.blk b qZ qZ,j.blk b qZ λO=>(n b O).2.2 g,M3.blk b hb'.2 qZ]
  refine U X i hi w3 q (C _ _ _ _ _ h1 M3 λb g=>(t b g).1) (F.on M3 λb g=>fM) (by grind) qZ hql q3 _ _ ?_ ?_
  ·intro y m Z j z;obtain⟨k1,k2,k3,k4,k5,k6,k7⟩:=D m y (.loop {{k with state:=.busy}with state:=.ready,pending:=none}) j z;refine⟨_,k7,hT _ ⟨y,?_,k1,k2,k3,?_,k4⟩ k6 k5⟩
   ·refine C _ _ _ _ _ Z (p m _) λb g e=>?_;rcases(z b g).1 with h|h
    ·exact(t b h).1 e
    ·omega
   ·rw[dM,ae rfl,k7];simp[<-s,<-G]
  ·intro c y m Z j z;obtain⟨k1,k2,k3,k4,k5,k6,k7⟩:=D m y (.loop {{k with state:=.busy}with state:=.done,pending:=some c}) j z;refine⟨_,k7,hF _ ⟨c,y,{k with state:=.done,pending:=some c},?_,k1,k2,k3,?_,k4,rfl,rfl⟩ k6 k5⟩
   ·refine hsx _ _ _ _ _ Z (p m _) λb g e=>?_;rcases(z b g).1 with h|h
    ·exact(t b h).1 e
    ·omega
   ·rw[dM,ae rfl,k7];rfl
 ·rintro Q W ⟨X,h1,F,L,n,B,P⟩;refine⟨k,B,by rw[s];decide,?_⟩;rw[<-A];have j:=p W (.loop {k with state:=.exhausted});generalize W.putObj (d+1) (.loop {k with state:=.exhausted})=W8 at j|-;rw[G]
  have t:∀b,X b->b≠d+1:=λb g=>by
   rcases(n b g).2.1 with h|h
   ·have:=M b h;omega
   ·omega
  refine hend X _ d A ?_ (F.on j λb g=>fM) (j.hpk L qZ) λb g=>⟨bJ (n b g).1 j.size,(n b g).2.1⟩
  have O:I X xs.length W:=by grind
  exact C _ _ _ _ _ O j λb g=>t b g
 ·rintro Q W ⟨c,X,r,h1,F,L,n,B,P,h7,h8⟩;refine⟨r,B,by rw[h7];decide,?_⟩;rw[<-A];have j:=p W (.loop {r with state:=.exhausted});generalize W.putObj (d+1) (.loop {r with state:=.exhausted})=W8 at j|-;rw[h8]
  have t:∀b,X b->b≠d+1:=λb g=>by
   rcases(n b g).2.1 with h|h
   ·have:=M b h;omega
   ·omega
  exact Y c X _ d A (hsx _ _ _ _ _ h1 j λb g=>t b g) (F.on j λb g=>fM) (j.hpk L qZ) λb g=>⟨bJ (n b g).1 j.size,(n b g).2.1⟩
end
def yH{W:Wt_}{d:Nat}{K:World->Prop}(h:hp W d=some (.deferred (some [])))(e:∀a,aS (λb=>b=d) W a->K a):zb ([d]++[]) W K:=
 SX (by simp) (λx c=>by grind) λa m=>e a (m.mono λx _ c=>by simpa using c)
def nQ.od{xs:List Od}:nQ ji jQ dx xs:=λa _ W=>by
 obtain⟨c,e,d,h⟩:=jE W;obtain⟨i,j,g,f⟩:=jf (o' :=a) d;exact⟨c,i,e,j,g,h.on f λb k=>fM⟩
end Go.Proofs
