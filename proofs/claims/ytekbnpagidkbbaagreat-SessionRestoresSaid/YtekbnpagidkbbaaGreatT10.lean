/- Part of a proof. -/
import Derived.Test.YtekbnpagidkbbaaGreatT9
set_option linter.all false
set_option maxRecDepth 100000
set_option maxHeartbeats 4000000
namespace Go.Proofs
open Go Go.Vc
attribute [local congr] bj
variable {left f:Int}{g:List Int}{r:List Od}{t:List Td}{o b:Od}
def uX(sT sG:Vt_)(f l:Int):Array Value:=#[sT,sG,gI f,gI l]
def Mr{W:Wt_}{p:Nat}{a c e d:Vt_}{i:Nat}{v:Vt_}(h:hC W p #[a,c,e,d] 246)(hi:i<4):
  hC (W.setCell ⟨p,i,none⟩ v) p ((#[a,c,e,d]:Array Value).setIfInBounds i v) 246/\bn (λb=>b=p) W (W.setCell ⟨p,i,none⟩ v):=
 ⟨by simp[go_sem,h],(bn.refl (λb=>b=p) W).sc⟩
structure Ya(w0:Wt_)(b:Nat)(s:Bool->Nat)(G:Bool->Nat->Prop)(B:Bk)(o:Od)(p q:Nat)(W:Wt_)(left:Int)(L:List Od)(t:List Td)(g:List Int)(f:Int):Prop where
 od:hC W p (dp {o with left:=left}).toArray kQ
 mem:∃G' sT sG,kG W b s (jk G (!o.buy) G') (B.set (!o.buy) L)/\(∀x,G' x->G (!o.buy) x\/(w0.heap.size<=x/\x≠p/\x≠q))/\
  hC W q #[sT,sG,gI f,gI 0] 246/\Qr W sT sG t g/\(∀x,aQ sT x\/aQ sG x->w0.heap.size<=x/\x≠p/\x≠q/\¬G' x)
 md:bn (G (!o.buy)) w0 W
 eq:eu o o.left (B (!o.buy))=Af t g f (eu o left L)
 lf:0<=left/\left<=1000000/\f+left=o.left/\0<=f
 len:t.length+g.length<=101/\(0<left->t.length+g.length+L.length<=100)
def JK(b:Od)(r:List Od):oB (b::r) b.num=r:=by
 unfold oB;rw[List.eraseP_cons_of_pos (by simp)]
def OV(d:0<left)(c:gu o b.price=true)(a:b.acct=o.acct):
  Af t g f (eu o left (b::r))=Af t (g++[b.num]) f (eu o left r):=by
 conv=>lhs;unfold eu
 rw[aa (by grind),ab a];simp[Af]
def N3(e:0<left)(d:gu o b.price=true)(c:b.acct≠o.acct)(a:left<b.left):
  Af t g f (eu o left (b::r))=Af (t++[⟨b.price,left,b.num,b.acct⟩]) g (f+left) (eu o 0 ({b with left:=b.left - left}::r)):=by
 conv=>lhs;unfold eu
 rw[aa (by grind),aa c,ab a,tN (.inl (eh 0))];simp[Af]
def N0(e:0<left)(d:gu o b.price=true)(c:b.acct≠o.acct)(a:¬left<b.left):
  Af t g f (eu o left (b::r))=Af (t++[⟨b.price,b.left,b.num,b.acct⟩]) g (f+b.left) (eu o (left - b.left) r):=by
 conv=>lhs;unfold eu
 rw[aa (by grind),aa c,aa a];simp[Af,pP]
def RO(W:Wt_)(p:Nat):Int:=match hp W p with|some (.cells c _ _)=>(match (c[4]? :Option Value)with|some (.int _ x)=>x|_=>0)|_=>0
def WB(W:Wt_)(p:Nat):Nat:=match hp W p with|some (.cells c _ _)=>(match (c[2]? :Option Value)with|some (.slice _ n _)=>n|_=>0)|_=>0
def cmM(W:Wt_)(p sd:Nat):Nat:=2*WB W sd+(if 0<RO W p then 1 else 0)
def Ya.m{l:Wt_}{b:Nat}{s:Bool->Nat}{G:Bool->Nat->Prop}{B:Bk}{p q:Nat}{W:Wt_}{L:List Od}(h:Ya l b s G B o p q W left L t g f):
  cmM W p (s (!o.buy))=2*L.length+(if 0<left then 1 else 0):=by
 obtain⟨m,sT,n,j,-⟩:=h.mem;have e:=j.sd (!o.buy);rw[Bk.set_self]at e;obtain⟨⟨sl,k,i,-⟩,-⟩:=e;obtain⟨a,c,d,-⟩:=i.isSl;unfold cmM WB RO;rw[k,h.od,d];rfl
def Mb{w:Wt_}{K:be}{b:Nat}{B:Bk}{s:Bool->Nat}{G:Bool->Nat->Prop}{rests:Bool}(h:kG w b s G B)(hof:o.Fit)(hmay:o.may=true)
  (hK:∀C sT A w',kG w' b s C (eP B o rests).1->Qr w' sT A (eP B o rests).2.trades (eP B o rests).2.gone->bn (λx=>G true x\/G false x) w w' ->(∀d x,C d x->G d x\/w.heap.size<=x)->
   (∀x,aQ sT x\/aQ A x->w.heap.size<=x/\∀d,¬C d x)->K (.agg (uX sT A (eP B o rests).2.filled (eP B o rests).2.left)) w'):Ca pQ 231 #[fe b,mi o,.bool rests] w K:=by
 have hol:=Od.left_bd hmay;unfold fe;refine cN Tryz.func231 ?_;obtain⟨w1,Z,b1,m1⟩:=tQ o w;apply dy Z;obtain⟨p,hp0⟩:=dW w.heap.size;rw[<-hp0]at b1|-;obtain⟨q,hq0⟩:=dW w1.heap.size;have hpq:p<q:=by have:=aJ b1;omega
 have m2:M0 w1 (w1.alloc (.cells #[.slice none 0 0,.slice none 0 0,gI 0,gI 0] 246)):=nl;apply az (cU q 0) (w1.alloc (.cells #[.slice none 0 0,.slice none 0 0,gI 0,gI 0] 246)) (by rw[hq0];simp[go_sem]);have b2:hC (w1.alloc (.cells #[.slice none 0 0,.slice none 0 0,gI 0,gI 0] 246)) q #[.slice none 0 0,.slice none 0 0,gI 0,gI 0] 246:=by rw[hq0];simp[go_sem]
 generalize w1.alloc (.cells #[.slice none 0 0,.slice none 0 0,gI 0,gI 0] 246)=w2 at m2 b2|-;have c1:=m2.hpk b1 id;have M2:=m1.trans m2;have c1' :=c1;unfold dp at c1';refine dD c1' ?_;refine dD c1' ?_;have h2:=h.mod M2 id λ_ _ _ h=>h;apply CD (s:=s) h2.blk;have md:M0 w2 w2.drew:=wl;have M3:=M2.trans md;have h3:=h2.mod md id λ_ _ _ h=>h;have d1:=md.hpk c1 id;have d2:=md.hpk b2 id;generalize w2.drew=w3 at M3 h3 d1 d2|-;refine dF ?_;refine dF ?_;have hlen:=(h.sd (!o.buy)).len;have m:∀d x,G d x->x<p:=λd x c=>by rw[hp0];exact h.lt c
 have hbp:b<p:=by rw[hp0];exact aJ h.blk
 have hspl:∀d,s d<p:=λd=>m d _ ((h.sd d).self);have hu:jk G (!o.buy) (G !o.buy)=G:=by funext x;unfold jk;by_cases h:x= !o.buy<;>simp[h]
 have I0:Ya w b s G B o p q w3 o.left (B !o.buy) [] [] 0:=by
  refine⟨d1,⟨G !o.buy,.slice none 0 0,.slice none 0 0,?_,λx c=>.inl c,d2,⟨il.nil _ _ _,il.nil _ _ _,λx c=>by cases c⟩,λx c=>by rcases c with c|c<;>cases c⟩,M3.to,?_,qZ,by simp,λ_=>by simpa using hlen⟩
  ·rw[hu,Bk.set_same];exact h3
  ·unfold Af;simp
 refine dU.at (λ_ W=>∃left L t g f,Ya w b s G B o p q W left L t g f/\eu o left L=(left,L,[],[],0)) ?_ ?_
 ·apply iz (λ_ W=>∃left L t g f,Ya w b s G B o p q W left L t g f) (λ_ W=>cmM W p (s !o.buy)) ⟨_,_,_,_,_,I0⟩;rintro _ W ⟨left,L,t,g,f,hI⟩ KN hKN;have hm:=hI.m;obtain⟨i1,⟨C,sT,A,i2,i3,i4,i5,l⟩,i7,i8,i9,i10⟩:=id hI;have hs:=i2.sd (!o.buy);rw[Bk.set_self,fY]at hs
  have hGx:∀d x,jk G (!o.buy) C d x->x≠p/\x≠q:=λd x c=>by
   by_cases J:d= !o.buy
   ·subst J;rw[fY]at c;rcases i3 x c with j|j
    ·have:=m _ x j;omega
    ·exact j.2
   ·unfold jk at c;rw[aa J]at c;have:=m _ x c;omega
  have hG'x:∀x,C x->x≠p/\x≠q:=λx c=>hGx (!o.buy) x (by rw[fY];exact c);refine rT ?_;intro _;have N:=i1;unfold dp at N;refine dD N ?_;refine dD N ?_;by_cases z:0<left
  ·refine ee z ?_;refine Rr hs λw4 m4=>?_;have i4a:=m4.hpk i1 id;have i4b:=m4.hpk i4 id;refine dF ?_;refine dF ?_;obtain⟨w5,e5,b5,m5⟩:=kg w4;apply dy e5;obtain⟨r0,hr0⟩:=dW w4.heap.size;rw[<-hr0]at b5|-;obtain⟨w6,e6,b6,m6⟩:=jA (o' :=L.head?.getD ou) b5;apply lO e6;have M46:M0 w4 w6:=m5.on m6 λb k=>gT;have M6:M0 W w6:=m4.trans M46;have i6a:=M46.hpk i4a id;have i6b:=M46.hpk i4b id;have hWr:W.heap.size<=r0:=by have:=m4.size;omega
   refine dU.at (λst R=>st=(.bool (decide (L.head? =none\/gu o (L.head?.getD ou).price=false)),())/\M0 w6 R) ?_ ?_
   ·cases L with
    |nil=>
     refine lV ?_;exact⟨by simp,rC⟩
    |cons x r=>
     refine fh ?_;apply dy (me (o:={o with left:=left}) (At.all i6a));have b6' :=b6;unfold dp at b6';refine dD b6' ?_;refine dD b6' ?_;refine Kb (o:={o with left:=left}) (price:=x.price) λw7 m7=>?_;rw[Ho];refine dF ?_;refine⟨?_,m7⟩;simp only[List.head?_cons,cR];rcases Bool.eq_false_or_eq_true (gu o x.price)with hc|hc<;>simp[hc]
   rintro _ w7 ⟨rfl,m7⟩;refine qk ?_;intro _;have M7:=M6.trans m7;have k1:=m7.hpk i6a id;have k2:=m7.hpk i6b id;have k3:=m7.hpk b6 id;by_cases F:L.head? =none\/gu o (L.head?.getD ou).price=false
   ·rw[zZ F];refine⟨left,L,t,g,f,⟨k1,⟨C,sT,A,i2.mod M7 id λ_ _ _ h=>h,i3,k2,i5.mod M7 eI eI,l⟩,i7.trans (M7.to),i8,i9,i10⟩,?_⟩;refine tN (.inr ?_);cases L with
    |nil=>exact .inl rfl
    |cons x r=>
     refine .inr ⟨x,r,rfl,?_⟩;rcases F with j|j
     ·cases j
     ·exact j
   rw[JV F];cases L with
   |nil=>exact absurd (.inl rfl) F
   |cons x r=>
   have hcr:gu o x.price=true:=by
    cases hc:gu o x.price with
    |true=>rfl
    |false=>exact absurd (.inr hc) F
   have hxb:=hs.may x (by simp);have hxl:=Od.left_bd hxb.1;replace i10:=i10.2 z;simp only[aR]at i10;simp only[List.head?_cons,cR]at k3;have I:=k3;unfold dp at I;have X:=k1;unfold dp at X;have hs7:=hs.mod M7 eI;have i27:=i2.mod M7 id λ_ _ _ h=>h;have p7:=i5.mod M7 eI eI;have MW:bn (G (!o.buy)) w w7:=i7.trans (M7.to);have hsz:=i7.size;have hqW:q<W.heap.size:=aJ i4;have hsz7:=M7.size
   have T:∀x,aQ sT x\/aQ A x->x<W.heap.size:=λx c=>by
    rcases c with c|c
    ·exact i5.tr.lt c
    ·exact i5.go.lt c
   refine dD I ?_;refine dD I ?_;refine dD X ?_;refine dD X ?_;by_cases hac:x.acct=o.acct
   ·refine ee hac ?_;refine dD I ?_;refine dD I ?_;refine Ch hs7 λM w8 q8 S n8=>?_;rw[JK]at q8;have u8:=kG.upd (d:= !o.buy) i27 (by rw[fY];exact S) q8 (by rw[fY];exact n8)
    have Q:∀y,y=p\/y=q\/y=r0->¬C y:=λy a u=>by
     have P:=hG'x y u;rcases a with rfl|rfl|rfl
     ·exact P.1 rfl
     ·exact P.2 rfl
     ·have:=hs.lt u;omega
    have j1:=S.hpk k1 (Q p (.inl rfl));have j2:=S.hpk k2 (Q q (.inr (.inl rfl)));have j3:=S.hpk I (Q r0 (.inr (.inr rfl)));have p8:=p7.mod S (λy a=>(l y (.inl a)).2.2.2) λy a=>(l y (.inr a)).2.2.2;refine dD j2 ?_;refine dD j2 ?_;refine dD j3 ?_;refine dD j3 ?_;refine vz (x:=x.num) (f:=oy) Ce (dG Oq) (λ_=>rfl) Gi rfl p8.go qZ qZ λV w9 o9 m9 n9=>?_;have hq9:¬aQ A q:=λk=>(l q (.inr k)).2.2.1 rfl;have hp9:¬aQ A p:=λk=>(l p (.inr k)).2.1 rfl;have j1' :=m9.hpk j1 hp9;have j2' :=m9.hpk j2 hq9;obtain⟨ga,gc,hsG',-⟩:=o9.isSl;refine dD j2' ?_;obtain⟨j4,m10⟩:=Mr (i:=1) (v:=V) j2' qZ;apply nz (w9.setCell ⟨q,1,none⟩ V) (by rw[hsG'];simp[go_sem,j2']);have hw8:=S.size;have hw9:=m9.size
    have hnew9:∀y,aQ V y->w.heap.size<=y/\y≠p/\y≠q:=λy a=>by
     rcases n9 y a with j|j
     ·have:=l y (.inr j);exact⟨this.1,this.2.1,this.2.2.1⟩
     ·exact⟨qZ,qZ,qZ⟩
    have U:∀y,M y->G (!o.buy) y\/(w.heap.size<=y/\y≠p/\y≠q):=λy a=>by
     rcases n8 y a with j|j
     ·exact i3 y j
     ·exact .inr ⟨qZ,qZ,qZ⟩
    have D:∀y,aQ sT y\/aQ A y->¬M y:=λy a u=>by
     rcases n8 y u with j|j
     ·exact(l y a).2.2.2 j
     ·have:=T y a;omega
    have E:∀d y,jk (jk G (!o.buy) C) (!o.buy) M d y->y≠q/\¬aQ A y:=λd y a=>by
     by_cases J:d= !o.buy
     ·subst J;rw[fY]at a;refine⟨?_,λk=>D y (.inr k) a⟩;rcases U y a with j|j
      ·have:=m _ y j;omega
      ·exact j.2.2
     ·unfold jk at a;rw[aa J,aa J]at a;have:=m _ y a;exact⟨qZ,λk=>by have:=(l y (.inr k)).1;omega⟩
    have e2:jk (jk G (!o.buy) C) (!o.buy) M=jk G (!o.buy) M:=by funext x;unfold jk;by_cases h:x= !o.buy<;>simp[h]
    have e3:(B.set (!o.buy) (x::r)).set (!o.buy) r=B.set (!o.buy) r:=by funext x;unfold Bk.set;by_cases h:x= !o.buy<;>simp[h]
    have u9:=(u8.mod m9 (λk=>by have:=(l b (.inr k)).1;omega) λd y a=>(E d y a).2).mod m10 qZ λd y a=>(E d y a).1;rw[e2,e3]at u9
    have MW10:bn (G (!o.buy)) w (w9.setCell ⟨q,1,none⟩ V):=
     ((MW.on S λy a=>(i3 y a).elim .inl λj=>.inr j.1).on m9 λy a=>.inr (l y (.inr a)).1).on m10 λy a=>gT
    have hI' :Ya w b s G B o p q (w9.setCell ⟨q,1,none⟩ V) left r t (g++[x.num]) f:=by
     refine⟨m10.hpk j1' qZ,⟨M,sT,V,u9,U,by simpa using j4,⟨(p8.tr.mod m9 λy a O=>p8.dj y a O).mod m10 λy a e=>(l y (.inl a)).2.2.1 e,o9.mod m10 λy a e=>(hnew9 y a).2.2 e,λy a O=>?_⟩,λy a=>?_⟩,MW10,?_,i9,by simp;omega,λ_=>by simp;omega⟩
     ·rcases n9 y O with j|j
      ·exact p8.dj y a j
      ·have:=T y (.inl a);omega
     ·rcases a with a|a
      ·have:=l y (.inl a);exact⟨this.1,this.2.1,this.2.2.1,D y (.inl a)⟩
      ·have P:=hnew9 y a;refine⟨P.1,P.2.1,P.2.2,λu=>?_⟩;rcases n9 y a with j|j
       ·exact D y (.inr j) u
       ·have:=q8.lt u;omega
     ·rw[i8,OV z hcr hac]
    apply hKN _ _ ⟨_,_,_,_,_,hI'⟩;rw[hI'.m,hm];simp only[aR];split<;>omega
   ·refine fH hac ?_;obtain⟨n,hn⟩:=dW (if left<x.left then left else x.left:Int);have hn1:1<=n/\n<=x.left/\n<=left:=by rw[hn];split<;>omega
    refine dD X ?_;refine dD X ?_;refine dD I ?_;refine dD I ?_;apply ke (gI n) w7 (by rw[hn];simp[go_sem];split<;>omega);refine Rk hs7 hn1.1 hn1.2.1 λM w8 q8 S n8=>?_;have u8:=kG.upd (d:= !o.buy) i27 (by rw[fY];exact S) q8 (by rw[fY];exact n8)
    have Q:∀y,y=p\/y=q\/y=r0->¬C y:=λy a u=>by
     have P:=hG'x y u;rcases a with rfl|rfl|rfl
     ·exact P.1 rfl
     ·exact P.2 rfl
     ·have:=hs.lt u;omega
    have j1:=S.hpk X (Q p (.inl rfl));have j2:=S.hpk k2 (Q q (.inr (.inl rfl)));have j3:=S.hpk I (Q r0 (.inr (.inr rfl)));have p8:=p7.mod S (λy a=>(l y (.inl a)).2.2.2) λy a=>(l y (.inr a)).2.2.2;have hw8:=S.size;refine dD j1 ?_;refine dD j1 ?_;apply az (gI (left - n)) w8 (by simp[go_sem];rw[mL]);refine dD j1 ?_;refine Tr j1 ?_;have ma:bn (λb=>b=p) w8 (w8.setCell ⟨p,4,none⟩ (gI (left - n))):=(bn.refl (λb=>b=p) w8).sc;have ja:hC (w8.setCell ⟨p,4,none⟩ (gI (left - n))) p (dp {o with left:=left - n}).toArray kQ:=by simp[go_sem,j1,dp]
    have jb:=ma.hpk j2 qZ;have jc:=ma.hpk j3 qZ;generalize w8.setCell ⟨p,4,none⟩ (gI (left - n))=wa at ma ja jb jc|-;refine dD jb ?_;refine dD jb ?_;apply az (gI (f+n)) wa (by simp[go_sem];rw[mL]);refine dD jb ?_;refine Tr jb ?_;obtain⟨kb,mb⟩:=Mr (i:=2) (v:=gI (f+n)) jb qZ;have kb' :hC (wa.setCell ⟨q,2,none⟩ (gI (f+n))) q #[sT,A,gI (f+n),gI 0] 246:=by simpa using kb
    have ka:=mb.hpk ja qZ;have kc:=mb.hpk jc qZ;generalize wa.setCell ⟨q,2,none⟩ (gI (f+n))=wb at mb kb' ka kc|-;have mab:bn (λy=>y=p\/y=q) w8 wb:=(ma.mono λy _ h=>.inl h).trans (mb.mono λy _ h=>.inr h)
    have hpl:∀y,aQ sT y\/aQ A y->¬(y=p\/y=q):=λy a e=>by
     have:=l y a;rcases e with e|e
     ·exact this.2.1 e
     ·exact this.2.2.1 e
    have pb:=p8.mod mab (λy a=>hpl y (.inl a)) λy a=>hpl y (.inr a);have hsb:=mab.size;refine dD kb' ?_;refine dD kb' ?_;refine dD kc ?_;refine dD kc ?_;refine dD kc ?_;refine dD kc ?_;refine dD kc ?_;refine dD kc ?_;apply az (.agg (Gv ⟨x.price,n,x.num,x.acct⟩).toArray) wb (by simp[go_sem,Gv]);refine vz (x:=(⟨x.price,n,x.num,x.acct⟩:Td)) (f:=Gv) JL (dG eTd) (λ_=>rfl) V1 rfl pb.tr qZ qZ λY wc oc mc nc=>?_;have hqc:¬aQ sT q:=λk=>(l q (.inl k)).2.2.1 rfl;have hpc:¬aQ sT p:=λk=>(l p (.inl k)).2.1 rfl;have la:=mc.hpk ka hpc;have lb:=mc.hpk kb' hqc;have hsc:=mc.size;obtain⟨ga,gc,hsT',-⟩:=oc.isSl;refine dD lb ?_;obtain⟨ld,mdd⟩:=Mr (i:=0) (v:=Y) lb qZ;apply nz (wc.setCell ⟨q,0,none⟩ Y) (by rw[hsT'];simp[go_sem,lb])
    have hnewc:∀y,aQ Y y->w.heap.size<=y/\y≠p/\y≠q:=λy a=>by
     rcases nc y a with j|j
     ·have:=l y (.inl j);exact⟨this.1,this.2.1,this.2.2.1⟩
     ·exact⟨qZ,qZ,qZ⟩
    have U:∀y,M y->G (!o.buy) y\/(w.heap.size<=y/\y≠p/\y≠q):=λy a=>by
     rcases n8 y a with j|j
     ·exact i3 y j
     ·exact .inr ⟨qZ,qZ,qZ⟩
    have D:∀y,aQ sT y\/aQ A y->¬M y:=λy a u=>by
     rcases n8 y u with j|j
     ·exact(l y a).2.2.2 j
     ·have:=T y a;omega
    have E:∀d y,jk (jk G (!o.buy) C) (!o.buy) M d y->y≠p/\y≠q/\¬aQ sT y:=λd y a=>by
     by_cases J:d= !o.buy
     ·subst J;rw[fY]at a;refine⟨?_,?_,λk=>D y (.inl k) a⟩
      ·rcases U y a with j|j
       ·have:=m _ y j;omega
       ·exact j.2.1
      ·rcases U y a with j|j
       ·have:=m _ y j;omega
       ·exact j.2.2
     ·unfold jk at a;rw[aa J,aa J]at a;have:=m _ y a;exact⟨qZ,qZ,λk=>by have:=(l y (.inl k)).1;omega⟩
    have e2:jk (jk G (!o.buy) C) (!o.buy) M=jk G (!o.buy) M:=by funext x;unfold jk;by_cases h:x= !o.buy<;>simp[h]
    have e3:(B.set (!o.buy) (x::r)).set (!o.buy) (kJ (x::r) n)=B.set (!o.buy) (kJ (x::r) n):=by funext x;unfold Bk.set;by_cases h:x= !o.buy<;>simp[h]
    have u9:=((u8.mod mab (λk=>by rcases k with k|k<;>omega) λd y a k=>by rcases k with k|k;exact(E d y a).1 k;exact(E d y a).2.1 k).mod mc (λk=>by have:=(l b (.inl k)).1;omega) λd y a=>(E d y a).2.2).mod mdd qZ λd y a=>(E d y a).2.1;rw[e2,e3]at u9
    have MW10:bn (G (!o.buy)) w (wc.setCell ⟨q,0,none⟩ Y):=
     (((MW.on S λy a=>(i3 y a).elim .inl λj=>.inr j.1).on mab λy a=>.inr (by rcases a with a|a<;>omega)).on mc λy a=>.inr (l y (.inl a)).1).on mdd λy a=>gT
    have hfl:(kJ (x::r) n).length<=r.length+1:=by unfold kJ;simp only;split<;>simp
    have hI' :Ya w b s G B o p q (wc.setCell ⟨q,0,none⟩ Y) (left - n) (kJ (x::r) n) (t++[⟨x.price,n,x.num,x.acct⟩]) g (f+n):=by
     refine⟨mdd.hpk la qZ,⟨M,Y,A,u9,U,by simpa using ld,⟨oc.mod mdd λy a e=>(hnewc y a).2.2 e,(pb.go.mod mc λy a O=>pb.dj y O a).mod mdd λy a e=>(l y (.inr a)).2.2.1 e,λy a O=>?_⟩,λy a=>?_⟩,MW10,?_,qZ,?_⟩
     ·rcases nc y a with j|j
      ·exact pb.dj y j O
      ·have:=T y (.inr O);omega
     ·rcases a with a|a
      ·have P:=hnewc y a;refine⟨P.1,P.2.1,P.2.2,λu=>?_⟩;rcases nc y a with j|j
       ·exact D y (.inl j) u
       ·have:=q8.lt u;omega
      ·have:=l y (.inr a);exact⟨this.1,this.2.1,this.2.2.1,D y (.inr a)⟩
     ·rw[i8];by_cases H:left<x.left
      ·rw[ab H]at hn;subst hn;rw[N3 z hcr hac H];have Z:kJ (x::r) n={x with left:=x.left - n}::r:=by unfold kJ;simp only;rw[aa qZ]
       rw[Z,Int.sub_self]
      ·rw[aa H]at hn;subst hn;rw[N0 z hcr hac H];have Z:kJ (x::r) x.left=r:=by unfold kJ;simp
       rw[Z]
     ·rw[ad,dq];refine⟨qZ,λhl' =>?_⟩;by_cases H:left<x.left
      ·rw[ab H]at hn;omega
      ·rw[aa H]at hn;have Z:kJ (x::r) n=r:=by unfold kJ;rw[hn];simp
       rw[Z];omega
    apply hKN _ _ ⟨_,_,_,_,_,hI'⟩;rw[hI'.m,hm];simp only[aR];by_cases H:left<x.left
    ·rw[ab H]at hn;have:¬0<left - n:=qZ;rw[aa this,ab z];omega
    ·rw[aa H]at hn;have Z:kJ (x::r) n=r:=by unfold kJ;rw[hn];simp
     rw[Z];split<;>omega
  ·refine fH z ?_;exact⟨left,L,t,g,f,hI,tN (.inl qZ)⟩
 rintro⟨⟩ W ⟨left,L,t,g,f,hI,hdone⟩;obtain⟨i1,⟨C,sT,A,i2,i3,i4,i5,l⟩,i7,i8,i9,i10⟩:=id hI;rw[hdone]at i8;have c:eu o o.left (B !o.buy)=(left,L,t,g,f):=by rw[i8];simp[Af]
 refine qk ?_;intro _;have N:=i1;unfold dp at N
 have fin:∀(R:Wt_) (M:Bool->Nat->Prop) (B' :Bk) (lf:Int),hC R q (uX sT A f lf) 246->kG R b s M B' ->Qr R sT A t g->bn (λx=>G true x\/G false x) w R->(∀d x,M d x->x≠q/\(G d x\/w.heap.size<=x))->
   (∀x,aQ sT x\/aQ A x->∀d,¬M d x)->(eP B o rests)=(B',⟨t,g,f,lf⟩)->
   rv pQ (iL 246 (cU q 0)) R λv156 w157=>
    ru pQ (iS 246 (cU q 0) v156) w157 λw158=>
    rV pQ (iL 246 (cU q 0)) w158 λv159=>K v159 w158:=by
  intro R M B' lf k1 k2 k3 k4 k5 k6 k7;obtain⟨ta,tc,hsT,-⟩:=k3.tr.isSl;obtain⟨ga,gc,hsG,-⟩:=k3.go.isSl;unfold uX at k1;apply az (.agg (uX sT A f lf)) R (by simp[go_sem,k1,uX])
  obtain⟨W2,hst,hW2,m2⟩:∃W2,(iS 246 (cU q 0) (.agg (uX sT A f lf))).run pQ R=.ok () W2/\hC W2 q (uX sT A f lf) 246/\bn (λb=>b=q) R W2:=by
   refine⟨(((R.setCell ⟨q,0,none⟩ sT).setCell ⟨q,1,none⟩ A).setCell ⟨q,2,none⟩ (gI f)).setCell ⟨q,3,none⟩ (gI lf),?_,?_,((((bn.refl (λb=>b=q) R).sc).sc).sc).sc⟩
   ·rw[hsT,hsG]at k1|-;simp[go_sem,k1,uX]
   ·simp[go_sem,k1,uX]
  apply lO hst;unfold uX at hW2;apply mE (.agg (uX sT A f lf)) (by simp[go_sem,hW2,uX]);have hk:=hK M sT A W2;rw[k7]at hk;refine hk (k2.mod m2 qZ λd x c=>(k5 d x c).1) (k3.mod m2 (λx c=>(l x (.inl c)).2.2.1) λx c=>(l x (.inr c)).2.2.1) (k4.on m2 λx c=>gT) (λd x c=>(k5 d x c).2) λx c=>⟨(l x c).1,k6 x c⟩
 have mfull:bn (λx=>G true x\/G false x) w W:=i7.mono λx _ c=>by
  cases k:o.buy<;>rw[k]at c
  ·exact .inl c
  ·exact .inr c
 have hG1:∀d x,jk G (!o.buy) C d x->x≠p/\x≠q/\(G d x\/w.heap.size<=x):=λd x c=>by
  by_cases J:d= !o.buy
  ·subst J;rw[fY]at c;rcases i3 x c with j|j
   ·have:=m _ x j;exact⟨qZ,qZ,.inl j⟩
   ·exact⟨j.2.1,j.2.2,.inr j.1⟩
  ·unfold jk at c;rw[aa J]at c;have:=m _ x c;exact⟨qZ,qZ,.inl c⟩
 have hS1:∀x,aQ sT x\/aQ A x->∀d,¬jk G (!o.buy) C d x:=λx c d u=>by
  by_cases J:d= !o.buy
  ·subst J;rw[fY]at u;exact(l x c).2.2.2 u
  ·unfold jk at u;rw[aa J]at u;have:=m _ x u;have:=(l x c).1;omega
 refine dU.at (λst R=>st=(.bool (decide (rests=true/\0<left)),())/\R=W) ?_ ?_
 ·cases rests with
  |true=>
   rw[nO];refine dD N ?_;refine dD N ?_;refine dF ?_;exact⟨by simp,rfl⟩
  |false=>
   rw[lW];exact⟨by simp,rfl⟩
 rintro _ W ⟨rfl,rfl⟩;refine qk ?_;intro _;by_cases hr:rests=true/\0<left
 ·rw[zZ hr];apply dy (me (o:={o with left:=left}) (At.all i1));have hown:=i2.sd o.buy;have hbn:(o.buy= !o.buy)=False:=by cases o.buy<;>simp
  have Z:B.set (!o.buy) L o.buy=B o.buy:=by unfold Bk.set;rw[aa (by rw[hbn];exact id)]
  have e2:jk G (!o.buy) C o.buy=G o.buy:=by unfold jk;rw[aa (by rw[hbn];exact id)]
  rw[Z,e2]at hown;have hf' :Od.Fit {o with left:=left}:=⟨hof.1,hof.2.1,hof.2.2.1,by unfold dM;simp only;omega⟩
  refine VA hown hf' λG3 w4 q4 m4 n4=>?_;have u4:=kG.upd (d:=o.buy) i2 (by rw[e2];exact m4) q4 (by rw[e2];exact n4);have hp4:¬G o.buy p:=λu=>by have:=m _ p u;omega
  have hq4:¬G o.buy q:=λu=>by have:=m _ q u;omega
  have j1:=m4.hpk N hp4;have j2:=m4.hpk i4 hq4;refine dD j1 ?_;refine dD j1 ?_;refine dD j2 ?_;refine Tr j2 ?_;obtain⟨j3,m5⟩:=Mr (i:=3) (v:=gI left) j2 qZ;have hsW:=i7.size;have hqW:q<W.heap.size:=aJ i4
  have h2G:∀d x,jk (jk G (!o.buy) C) o.buy G3 d x->x≠q/\(G d x\/w.heap.size<=x)/\¬aQ sT x/\¬aQ A x:=λd x c=>by
   by_cases J:d=o.buy
   ·subst J;rw[fY]at c;rcases n4 x c with j|j
    ·have:=m _ x j;exact⟨qZ,.inl j,λk=>by have:=(l x (.inl k)).1;omega,λk=>by have:=(l x (.inr k)).1;omega⟩
    ·exact⟨qZ,gT,λk=>by have:=i5.tr.lt k;omega,λk=>by have:=i5.go.lt k;omega⟩
   ·have hx' :jk G (!o.buy) C d x:=by
     have:jk (jk G (!o.buy) C) o.buy G3 d=jk G (!o.buy) C d:=by
      conv=>lhs;unfold jk
      rw[aa J];rfl
     rw[this]at c;exact c
    have P:=hG1 d x hx';exact⟨P.2.1,P.2.2,λk=>hS1 x (.inl k) d hx',λk=>hS1 x (.inr k) d hx'⟩
  refine fin _ (jk (jk G (!o.buy) C) o.buy G3) _ left (by simpa [uX]using j3) (u4.mod m5 qZ λd x c=>(h2G d x c).1)
   ((i5.mod m4 (λx c u=>by have:=m _ x u;have:=(l x (.inl c)).1;omega) λx c u=>by have:=m _ x u;have:=(l x (.inr c)).1;omega).mod m5 (λx c=>(l x (.inl c)).2.2.1) λx c=>(l x (.inr c)).2.2.1)
   ((mfull.on m4 λx c=>.inl (by cases k:o.buy<;>rw[k]at c;exact .inr c;exact .inl c)).on m5 λx c=>gT) (λd x c=>⟨(h2G d x c).1,(h2G d x c).2.1⟩) (λx c d u=>by rcases c with c|c;exact(h2G d x u).2.2.1 c;exact(h2G d x u).2.2.2 c) ?_
  unfold eP;rw[c];simp only;rw[ab hr,Z]
 ·rw[JV hr];apply fin W (jk G (!o.buy) C) _ 0 i4 i2 i5 mfull (λd x c=>⟨(hG1 d x c).2.1,(hG1 d x c).2.2⟩) hS1;unfold eP;rw[c];simp only;rw[aa hr]
end Go.Proofs
namespace Go.Proofs
open Go Go.Vc
attribute [local congr] bj
def jq:Value:=.slice none 0 0
def Yf{W:Wt_}{q:Nat}{e t m g sT sG:Vt_}{f l:Int}(h:hC W q #[e,t,m,g] 246)(i:∃a n c,sT=.slice a n c)(o:∃a n c,sG=.slice a n c):
  ∃d,(iS 246 (cU q 0) (.agg (uX sT sG f l))).run pQ W=.ok () d/\hC d q #[sT,sG,gI f,gI l] 246/\bn (λb=>b=q) W d:=by
 obtain⟨p,s,j,rfl⟩:=i;obtain⟨r,u,k,rfl⟩:=o;refine⟨(((W.setCell ⟨q,0,none⟩ (.slice p s j)).setCell ⟨q,1,none⟩ (.slice r u k)).setCell ⟨q,2,none⟩ (gI f)).setCell ⟨q,3,none⟩ (gI l),by simp[go_sem,h,uX],by simp[go_sem,h],((((bn.refl (λb=>b=q) W).sc).sc).sc).sc⟩
def Xq{W:Wt_}{q:Nat}{sT sG:Vt_}{f l:Int}(h:hC W q #[sT,sG,gI f,gI l] 246):(iL 246 (cU q 0)).run pQ W=.ok (.agg (uX sT sG f l)) W:=by
 simp[go_sem,h,uX]
def WD(W:Wt_):(Instr.build 246 #[]).run pQ W=.ok (.agg (uX jq jq 0 0)) W:=by
 simp[go_sem,uX,jq]
def WU(w:Wt_):∃a,(iA 246 true (.tuple #[])).run pQ w=.ok (cU w.heap.size 0) a/\hC a w.heap.size #[jq,jq,gI 0,gI 0] 246/\M0 w a:=
 ⟨w.alloc (.cells #[jq,jq,gI 0,gI 0] 246),by simp[go_sem,jq],by simp[go_sem],(bn.refl _ w).alloc _⟩
def JC(w:Wt_):Qr w jq jq [] []:=⟨il.nil _ _ _,il.nil _ _ _,λx a=>by cases a⟩
def cE(B:Bk)(o:Od)(k:Int):Int×Bk×Pm:=
 if¬o.may\/k<1\/4<k then(2,B,⟨[],[],0,0⟩)
 else if(B.find o.num).isSome then(8,B,⟨[],[],0,0⟩)
 else if k=3/\iY (!o.buy) (B !o.buy) o.price o.acct<o.left then(70,B,⟨[],[],0,0⟩)
 else if k=4/\0<iY (!o.buy) (B !o.buy) o.price o.acct then(71,B,⟨[],[],0,0⟩)
 else if(k=1\/k=4)/\iY (!o.buy) (B !o.buy) o.price o.acct<o.left/\100<=(B o.buy).length then(9,B,⟨[],[],0,0⟩)
 else(0,eP B o (decide (k=1\/k=4)))
def RP{w:Wt_}{K:be}{b:Nat}{B:Bk}{s:Bool->Nat}{G:Bool->Nat->Prop}{o:Od}{k:Int}(h:kG w b s G B)(hof:o.Fit)(hk:0<=k/\k<256)
  (hK:∀O sT z Z,kG Z b s O (cE B o k).2.1->Qr Z sT z (cE B o k).2.2.trades (cE B o k).2.2.gone->bn (λx=>G true x\/G false x) w Z->(∀d x,O d x->G d x\/w.heap.size<=x)->
   (∀x,aQ sT x\/aQ z x->w.heap.size<=x/\∀d,¬O d x)->K (.tuple #[.agg (uX sT z (cE B o k).2.2.filled (cE B o k).2.2.left),gI (cE B o k).1]) Z):Ca pQ 155 #[fe b,mi o,gB k] w K:=by
 unfold fe;refine cN Tryz.func155 ?_;obtain⟨w1,e1,b1,m1⟩:=tQ o w;apply dy e1;obtain⟨p,J⟩:=dW w.heap.size;rw[<-J]at b1|-;obtain⟨w2,e2,b2,m2⟩:=WU w1;apply dy e2;obtain⟨q,hq0⟩:=dW w1.heap.size;rw[<-hq0]at b2|-;have hpq:p<q:=by have:=aJ b1;omega
 have c1:=m2.hpk b1 id;have X:=m1.trans m2;have Q:∀{W W' :Wt_},M0 W W' ->bn (λx=>G true x\/G false x) W W' :=λm=>m.to;have hGlt:∀d x,G d x->x<p:=λd x c=>by rw[J];exact h.lt c
 have hbp:b<p:=by rw[J];exact aJ h.blk
 have bad:∀e W,cE B o k=(e,B,⟨[],[],0,0⟩)->M0 w2 W->
   rv pQ (Instr.build 246 #[]) W λv25 w26=>ru pQ (iS 246 (cU q 0) v25) w26 λP=>
    rV pQ (iL 246 (cU q 0)) P λv28=>K (.tuple #[v28,gI e]) P:=by
  intro e W N mW;apply dy (WD W);obtain⟨W2,C,hW2,g⟩:=Yf (sT:=jq) (sG:=jq) (f:=0) (l:=0) (mW.hpk b2 id) ⟨_,_,_,rfl⟩ ⟨_,_,_,rfl⟩;apply lO C;apply gC (Xq hW2);have j:=hK G jq jq W2;rw[N]at j;have M:=X.trans mW;exact j ((h.mod M id λ_ _ _ h=>h).mod g qZ λd x c=>by grind) (JC _) ((Q M).on g λx c=>gT) (λd x c=>.inl c) λx c=>by rcases c with c|c<;>cases c
 have h2:=h.mod X id λ_ _ _ h=>h;apply pB h2.q;refine fh ?_;refine dU.at (λst W=>st=(.bool (decide (¬o.may\/k<1\/4<k)),())/\M0 w2 W) ?_ ?_
 ·apply dy (me (o:=o) (At.all c1));refine vh λw3 g=>?_;refine dF ?_;cases hm:o.may with
  |false=>
   rw[bG,ab (show(!false)=true from rfl)];exact⟨by simp,g⟩
  |true=>
   rw[bG,aa (by simp)];by_cases h1:k<1
   ·refine ee h1 ?_;exact⟨by simp[h1],g⟩
   ·refine fH h1 ?_;refine dF ?_;exact⟨by simp[h1],g⟩
 rintro _ w3 ⟨rfl,g⟩;refine qk ?_;intro _;by_cases a:¬o.may\/k<1\/4<k
 ·rw[zZ a];exact bad 2 w3 (by unfold cE;rw[ab a]) g
 rw[JV a]
 have R:o.may=true:=by
  apply aS;intro y;exact a (.inl y)
 have d1:=g.hpk c1 id;have r:=d1;unfold dp at r;refine dD r ?_;refine dD r ?_;have h3:=h2.mod g id λ_ _ _ h=>h;refine ve h3.blk h3.sd (λhnf w4 m4=>?_) λfo d hfo _ w4 m4=>?_
 ·refine dF ?_;refine dF ?_;obtain⟨w5,e5,b5,m5⟩:=kg w4;apply dy e5;obtain⟨L,e6,b6,m6⟩:=jA (o' :=ou) b5;apply lO e6;have H:=m5.on m6 λb hb=>gT;have E:=m4.trans H;have M6:=g.trans E;have f1:=E.hpk r id;have hs6:=M6.size;refine fh ?_;refine dD f1 ?_;refine dD f1 ?_;have h6:=h3.mod E id λ_ _ _ h=>h;apply CD (s:=s) h6.blk;have md:M0 L L.drew:=wl;have h7:=h6.mod md id λ_ _ _ h=>h;have A:=md.hpk f1 id;have f2o:=A;have M7:=M6.trans md;generalize L.drew=w7 at h7 A f2o M7|-;refine dF ?_;refine dF ?_;refine dD A ?_;refine dD A ?_;refine dD A ?_;refine dD A ?_;refine N2 (h7.sd (!o.buy)) λi m8=>?_;have h8:=h7.mod m8 id λ_ _ _ h=>h;have T:=m8.hpk A id;have f3o:=T;have I:=M7.trans m8;obtain⟨n,S⟩:=dW (iY (!o.buy) (B !o.buy) o.price o.acct);rw[<-S]
  have F:cE B o k=if k=3/\n<o.left then(70,B,⟨[],[],0,0⟩)else if k=4/\0<n then(71,B,⟨[],[],0,0⟩)else if(k=1\/k=4)/\n<o.left/\100<=(B o.buy).length then(9,B,⟨[],[],0,0⟩)else(0,eP B o (decide (k=1\/k=4))):=by
   unfold cE;rw[aa a,aa (by rw[hnf];simp),<-S]
  refine dU.at (λst W=>st=(.bool (decide (k=1\/k=4)),())/\W=i) ?_ ?_
  ·by_cases u:k=1
   ·refine ee u ?_;exact⟨by simp[u],rfl⟩
   ·refine fH u ?_;apply az (.bool (decide (k=4))) i (by simp[go_sem];rw[bT];simp);exact⟨by simp[u],rfl⟩
  rintro _ i ⟨rfl,rfl⟩;refine qk ?_;intro _;refine dU.at (λst W=>st=(.bool (decide (k=3/\n<o.left)),())/\W=i) ?_ ?_
  ·by_cases t:k=3
   ·refine ee t ?_;refine dD T ?_;refine dD T ?_;refine dF ?_;exact⟨by simp[t],rfl⟩
   ·refine fH t ?_;exact⟨by simp[t],rfl⟩
  rintro _ i ⟨rfl,rfl⟩;refine qk ?_;intro _;by_cases Y:k=3/\n<o.left
  ·rw[zZ Y];exact bad 70 i (by rw[F,ab Y]) I
  rw[JV Y];refine dU.at (λst W=>st=(.bool (decide (k=4/\0<n)),())/\W=i) ?_ ?_
  ·by_cases v:k=4
   ·refine ee v ?_;refine dF ?_;exact⟨by simp[v],rfl⟩
   ·refine fH v ?_;exact⟨by simp[v],rfl⟩
  rintro _ i ⟨rfl,rfl⟩;refine qk ?_;intro _;by_cases D:k=4/\0<n
  ·rw[zZ D];exact bad 71 i (by grind) I
  rw[JV D];refine dU.at (λst W=>st=(.bool (decide ((k=1\/k=4)/\n<o.left/\100<=(B o.buy).length)),())/\W=i) ?_ ?_
  ·by_cases N:k=1\/k=4
   ·rw[zZ N];refine dD T ?_;refine dD T ?_;by_cases V:n<o.left
    ·refine ee V ?_;apply Up (h8.sd o.buy);refine dF ?_;refine⟨?_,rfl⟩
     have e:decide ((100:Int)<=((B o.buy).length:Int))=decide ((k=1\/k=4)/\n<o.left/\100<=(B o.buy).length):=by
      rw[kC];exact⟨λh=>⟨N,V,qZ⟩,λh=>qZ⟩
     rw[e]
    ·refine fH V ?_;refine⟨?_,rfl⟩;rw[aG (λy=>V y.2.1)]
   ·rw[JV N];refine⟨?_,rfl⟩;rw[aG (λy=>N y.1)]
  rintro _ i ⟨rfl,rfl⟩;refine qk ?_;intro _;by_cases y:(k=1\/k=4)/\n<o.left/\100<=(B o.buy).length
  ·rw[zZ y];exact bad 9 i (by grind) I
  rw[bG,aa (by grind)];rw[aa Y,aa D,aa y]at F;apply dy (me (o:=o) (At.all f3o));refine Mb h8 hof R λO sT z w9 r9 p9 m9 n9 s9=>?_;obtain⟨ta,tc,hsT,-⟩:=p9.tr.isSl;obtain⟨ga,gc,hsG,-⟩:=p9.go.isSl;have hq8:¬(G true q\/G false q):=λhg=>by grind
  have f4:=m9.hpk (I.hpk b2 id) hq8;have hs8:=I.size;have hq2:=aJ b2;obtain⟨wa,C,ja,ma⟩:=Yf (sT:=sT) (sG:=z) (f:=(eP B o (decide (k=1\/k=4))).2.filled) (l:=(eP B o (decide (k=1\/k=4))).2.left) f4 ⟨_,_,_,hsT⟩ ⟨_,_,_,hsG⟩;apply lO C;apply gC (Xq ja);have j:=hK O sT z wa;rw[F]at j;have hsw:=(X.trans I).size;refine j (r9.mod ma qZ λd x c=>?_) (p9.mod ma (λx c=>?_) λx c=>?_) (((Q (X.trans I)).trans m9).on ma λx c=>gT) (λd x c=>?_) λx c=>⟨by grind,(s9 x c).2⟩
  ·rcases n9 d x c with U|U
   ·grind
   ·omega
  ·grind
  ·grind
  ·rcases n9 d x c with U|U
   ·exact .inl U
   ·exact gT
 ·refine dF ?_;refine dF ?_;obtain⟨w5,e5,b5,m5⟩:=kg w4;apply dy e5;obtain⟨L,e6,b6,m6⟩:=jA (o' :=fo) b5;apply lO e6;have H:=m5.on m6 λb hb=>gT;apply az (.bool true) L (by simp[go_sem,dc]);rw[nO];exact bad 8 L (by unfold cE;rw[aa a,ab (by rw[hfo];rfl)]) ((g.trans m4).trans H)
end Go.Proofs
namespace Go.Proofs
open Go Go.Vc
attribute [local congr] bj
variable {B:Bk}{b:Nat}{w:Wt_}{K:be}
def LL{W:Wt_}{q:Nat}{e o:Od}{K:Value->World->Prop}(h:hC W q (dp e).toArray kQ)
  (g:∀c,bn (λb=>b=q) W c->K (mi o) c):
  ru pQ (iS kQ (cU q 0) (mi o)) W λa=>rV pQ (iL kQ (cU q 0)) a λj=>K j a:=by
 obtain⟨k,d,f,i⟩:=jA (o' :=o) h;apply lO d;apply gC (me (o:=o) (At.all f));exact g _ i
def eY(B:Bk)(n:Int):Int×Bk×Od:=
 match B.find n with
 |none=>(7,B,ou)
 |some (o,d)=>(0,B.set d (oB (B d) n),o)
def PP{s:Bool->Nat}{G:Bool->Nat->Prop}{n:Int}(h:kG w b s G B)
  (g:∀x,M0 w x->K (.tuple #[mi (match B.find n with|none=>ou|some (o,_)=>o),gI (match B.find n with|none=>7|some _=>0)]) x):Ca pQ 268 #[fe b,gQ n] w K:=by
 unfold fe;refine cN Tryz.func268 ?_;obtain⟨F,D,j,r⟩:=kg w;apply dy D;obtain⟨q,m⟩:=dW w.heap.size;rw[<-m]at j|-;have l:=h.mod r id λ_ _ _ h=>h;apply pB l.q;refine fh ?_;refine ve l.blk l.sd (λC v a=>?_) λo d A H v a=>?_
 ·rw[C]at g;refine dF ?_;refine dF ?_;obtain⟨z,t,k,c⟩:=kg v;apply dy t;obtain⟨i,u,y,f⟩:=jA (o' :=ou) k;apply lO u;refine lV ?_;apply az (mi ou) i (by simp[go_sem,mi,dp,ou]);have M:=r.trans (a.trans (c.on f λb e=>gT));refine LL ((a.trans (c.on f λb e=>gT)).hpk j id) λE p=>?_;exact g _ (M.on p λb e=>gT)
 ·rw[A]at g;refine dF ?_;refine dF ?_;obtain⟨z,t,k,c⟩:=kg v;apply dy t;obtain⟨i,u,y,f⟩:=jA (o' :=o) k;apply lO u;apply az (.bool false) i (by simp[go_sem,dc]);rw[lW];apply dy (me (o:=o) (At.all y));have M:=r.trans (a.trans (c.on f λb e=>gT));refine LL ((a.trans (c.on f λb e=>gT)).hpk j id) λE p=>?_;exact g _ (M.on p λb e=>gT)
def GI{s:Bool->Nat}{G:Bool->Nat->Prop}{n:Int}(h:kG w b s G B)
  (t:∀O z,kG z b s O (eY B n).2.1->bn (λx=>G true x\/G false x) w z->(∀d x,O d x->G d x\/w.heap.size<=x)->
   K (.tuple #[mi (eY B n).2.2,gI (eY B n).1]) z):Ca pQ 212 #[fe b,gQ n] w K:=by
 unfold fe;refine cN Tryz.func212 ?_;obtain⟨w1,e1,y,E⟩:=kg w;apply dy e1;obtain⟨q,c⟩:=dW w.heap.size;rw[<-c]at y|-;have k:∀{W V:Wt_},M0 W V->bn (λx=>G true x\/G false x) W V:=λm=>m.to;have Q:∀d x,G d x->x<q:=λd x a=>by rw[c];exact h.lt a
 have Z:b<q:=by rw[c];exact aJ h.blk
 have D:=h.mod E id λ_ _ _ h=>h;apply pB D.q;refine fh ?_;refine ve D.blk D.sd (λhn I l=>?_) λo d hf Y I l=>?_
 ·refine dF ?_;refine dF ?_;obtain⟨X,F,C,p⟩:=kg I;apply dy F;obtain⟨v,H,b4,u⟩:=jA (o' :=ou) C;apply lO H;refine lV ?_;apply az (mi ou) v (by simp[go_sem,mi,dp,ou]);have M:=E.trans (l.trans (p.on u λb A=>gT));refine LL ((l.trans (p.on u λb A=>gT)).hpk y id) λU i=>?_;have r:=M.on i λb A=>gT;have e:eY B n=(7,B,ou):=by unfold eY;rw[hn]
  rw[e]at t;exact t G _ (h.mod r id λ_ _ _ h=>h) (k r) λd x a=>.inl a
 ·refine dF ?_;refine dF ?_;obtain⟨X,F,C,p⟩:=kg I;apply dy F;obtain⟨v,H,b4,u⟩:=jA (o' :=o) C;apply lO H;apply az (.bool false) v (by simp[go_sem,dc]);rw[lW];have j:=l.trans (p.on u λb A=>gT);have J:=E.trans j;have R:=h.mod J id λ_ _ _ h=>h;have hs4:=J.size;have S:=j.hpk y id;refine Ch (R.sd d) λP U s5 i N=>?_;rw[Y];refine dF ?_;refine dF ?_;have q5:=i.hpk S λa=>by grind
  refine LL q5 λw6 L=>?_;have e:eY B n=(0,B.set d (oB (B d) n),o):=by unfold eY;rw[hf]
  rw[e]at t;have r:bn (λx=>G true x\/G false x) w U:=(k J).trans (i.mono λx _ a=>by cases d;exact .inr a;exact .inl a);have h5:=R.upd i s5 N
  have g:∀e x,jk G d P e x->G e x\/(w.heap.size<=x/\x≠q):=λe x a=>by
   by_cases T:e=d
   ·subst T;rw[fY]at a;rcases N x a with f|f
    ·exact .inl f
    ·exact .inr ⟨qZ,by have:=aJ S;omega⟩
   ·unfold jk at a;rw[aa T]at a;exact .inl a
  refine t (jk G d P) _ (h5.mod L qZ λe x a hq=>?_) (r.on L λx a=>gT) λe x a=>(g e x a).imp id (·.1);rcases g e x a with f|f
  ·grind
  ·exact f.2 hq
def co(B:Bk)(n price left:Int):Int×Bk×Pm:=
 match B.find n with
 |none=>(7,B,⟨[],[],0,0⟩)
 |some (o,d)=>
  if({o with price:=price,left:=left}:Od).may=false then(2,B,⟨[],[],0,0⟩)
  else if price=o.price/\left<=o.left then((qs (B d) n left).1,B.set d (qs (B d) n left).2,⟨[],[],0,left⟩)
  else(0,eP (B.set d (oB (B d) n)) {o with price:=price,left:=left} true)
def YZ(W:Wt_)(x:Int):(Instr.build 246 #[(3,gI x)]).run pQ W=.ok (.agg (uX jq jq 0 x)) W:=by
 simp[go_sem,uX,jq]
def D6{F:NP_}(h:gW w b F B)
  (z:∀o q j,gW j o q B->M0 w j->(∀x,q x->w.heap.size<=x)->K (fe o) j):Ca pQ 93 #[fe b] w K:=by
 unfold fe;refine cN Tryz.func93 ?_;apply pB h;obtain⟨s,G,D,-⟩:=h.r;refine fh ?_;have md:M0 w w.drew:=wl;have g:=D.mod md id λ_ _ _ h=>h;have n:=g.blk;simp only[fe,cJ];refine vn ?_;refine AN n ?_;refine vn ?_;refine AN n ?_;refine FQ (g.sd true) λs1 r I l f H=>?_;have A:=f.hpk n id;refine⟨by simp[go_sem,A],?_⟩;have m:=g.mod f id λ_ _ _ h=>h;refine FQ (m.sd false) λe p a u i t=>?_;apply eQ (.agg #[dc s1,dc e]) (λ_=>by simp[go_sem,dc]);have k:M0 a (a.alloc (.cells #[dc s1,dc e] 242)):=nl;apply az (fe a.heap.size) (a.alloc (.cells #[dc s1,dc e] 242)) rfl;have y:=md.size;have C:=f.size;have E:=i.size;refine z a.heap.size (λx=>x=a.heap.size\/r x\/p x) _ ⟨λd=>if d then s1 else e,λd=>if d then r else p,by simp[go_sem],λd=>?_,λx=>aI,λd=>?_,λx m v=>?_⟩ (((md.trans f).trans i).trans k) λx c=>?_
 ·cases d
  ·exact u.mod k eI
  ·exact(l.mod i eI).mod k eI
 ·cases d
  ·intro h;have:=u.lt h;omega
  ·intro h;have:=l.lt h;omega
 ·have J:=l.lt m;have L:=t x v;omega
 ·rcases c with rfl|c|c
  ·omega
  ·have:=H x c;omega
  ·have:=t x c;omega
end Go.Proofs
namespace Go.Proofs
open Go Go.Vc
attribute [local congr] bj
variable {W:Wt_}
def T5{p:Nat}{o:Od}(h:hC W p (dp o).toArray kQ)(x:Int):
  ∃a,(iF kQ (cU p 0) 3).run pQ W=.ok (cU p 3) W/\(iS 2 (cU p 3) (gI x)).run pQ W=.ok () a/\
   hC a p (dp {o with price:=x}).toArray kQ/\bn (λb=>b=p) W a:=by
 unfold dp at h;exact⟨W.setCell ⟨p,3,none⟩ (gI x),by simp[go_sem],by simp[go_sem,h],by simp[go_sem,h,dp],(bn.refl (λb=>b=p) W).sc⟩
def Xt{p:Nat}{o:Od}(h:hC W p (dp o).toArray kQ)(x:Int):
  ∃a,(iF kQ (cU p 0) 4).run pQ W=.ok (cU p 4) W/\(iS 2 (cU p 4) (gI x)).run pQ W=.ok () a/\
   hC a p (dp {o with left:=x}).toArray kQ/\bn (λb=>b=p) W a:=by
 unfold dp at h;exact⟨W.setCell ⟨p,4,none⟩ (gI x),by simp[go_sem],by simp[go_sem,h],by simp[go_sem,h,dp],(bn.refl (λb=>b=p) W).sc⟩
def RC{q:Nat}{i u s m sT sG:Vt_}{f l:Int}{K:Value->World->Prop}(h:hC W q #[i,u,s,m] 246)(o:∃a n c,sT=.slice a n c)(t:∃a n c,sG=.slice a n c)
  (p:∀g,bn (λb=>b=q) W g->K (.agg (uX sT sG f l)) g):
  ru pQ (iS 246 (cU q 0) (.agg (uX sT sG f l))) W λe=>rV pQ (iL 246 (cU q 0)) e λk=>K k e:=by
 obtain⟨v,d,j,r⟩:=Yf (f:=f) (l:=l) h o t;apply lO d;apply gC (Xq j);exact p _ r
def Lz:∃a n c,jq=.slice a n c:=⟨_,_,_,rfl⟩
def JS{w:Wt_}{K:be}{b:Nat}{B:Bk}{s:Bool->Nat}{G:Bool->Nat->Prop}{n price left:Int}(h:kG w b s G B)(P:dM price)(v:dM left)
  (M:∀L sT Q w',kG w' b s L (co B n price left).2.1->Qr w' sT Q (co B n price left).2.2.trades (co B n price left).2.2.gone->bn (λx=>G true x\/G false x) w w' ->(∀d x,L d x->G d x\/w.heap.size<=x)->
   (∀x,aQ sT x\/aQ Q x->w.heap.size<=x/\∀d,¬L d x)->K (.tuple #[.agg (uX sT Q (co B n price left).2.2.filled (co B n price left).2.2.left),gI (co B n price left).1]) w'):Ca pQ 217 #[fe b,gQ n,gI price,gI left] w K:=by
 unfold fe;refine cN Tryz.func217 ?_;obtain⟨w1,e1,b1,U⟩:=WU w;apply dy e1;obtain⟨q,C⟩:=dW w.heap.size;rw[<-C]at b1|-;have E:∀{W W' :Wt_},M0 W W' ->bn (λx=>G true x\/G false x) W W' :=λm=>m.to;have hGlt:∀d x,G d x->x<q:=λd x a=>by rw[C];exact h.lt a
 have hbq:b<q:=by rw[C];exact aJ h.blk
 have hs1:=U.size;have hq1:=aJ b1;have h1:=h.mod U id λ_ _ _ h=>h;apply pB h1.q;refine fh ?_
 have bad:∀(e:Int) (W:Wt_),co B n price left=(e,B,⟨[],[],0,0⟩)->M0 w1 W->
   rv pQ (Instr.build 246 #[]) W λv25 w26=>ru pQ (iS 246 (cU q 0) v25) w26 λN=>
    rV pQ (iL 246 (cU q 0)) N λv28=>K (.tuple #[v28,gI e]) N:=by
  intro e W hr mW;apply dy (WD W);refine RC (mW.hpk b1 id) Lz Lz λw5 m5=>?_;rw[hr]at M;have M5:=(U.trans mW).on m5 λx a=>gT;exact M G jq jq _ (h.mod M5 id λ_ _ _ h=>h) (JC _) (E M5) (λd x a=>.inl a) λx a=>by rcases a with a|a<;>cases a
 refine ve h1.blk h1.sd (λhn Z m2=>?_) λo d hf hg Z m2=>?_
 ·refine dF ?_;refine dF ?_;obtain⟨w3,e3,b3,m3⟩:=kg Z;apply dy e3;obtain⟨S,e4,b4,m4⟩:=jA (o' :=ou) b3;apply lO e4;refine lV ?_;exact bad 7 S (by unfold co;rw[hn]) (m2.trans (m3.on m4 λb O=>gT))
 ·have R:=(h.sd d).may o (dt hg);refine dF ?_;refine dF ?_;obtain⟨w3,e3,b3,m3⟩:=kg Z;apply dy e3;obtain⟨p,hp0⟩:=dW Z.heap.size;rw[<-hp0]at b3|-;obtain⟨S,e4,b4,m4⟩:=jA (o' :=o) b3;apply lO e4;apply az (.bool false) S (by simp[go_sem,dc]);rw[lW];apply dy (me (o:=o) (At.all b4));have m24:=m3.on m4 λb O=>gT;have hs2:=m2.size;obtain⟨w5,e5,b5,m5⟩:=kg S;apply dy e5;obtain⟨r,T⟩:=dW S.heap.size;rw[<-T]at b5|-;obtain⟨w6,e6,b6,m6⟩:=jA (o' :=o) b5;apply lO e6;have hpr:p<r:=by rw[T];exact aJ b4
  have p6:=(m5.on m6 λb O=>gT).hpk b4 id;obtain⟨w7,f7,e7,b7,m7⟩:=T5 p6 price;apply dy f7;apply lO e7;obtain⟨w8,f8,e8,b8,m8⟩:=Xt b7 left;apply dy f8;apply lO e8;apply dy (me (At.all b8));have hpq:q<p:=qZ;have M28:M0 Z w8:=(((m24.trans (m5.on m6 λb O=>gT)).on m7 λb O=>gT).on m8 λb O=>gT)
  have r8:=m8.hpk (m7.hpk b6 qZ) qZ;refine vh λw9 m9=>?_;have k:M0 w1 w9:=(m2.trans M28).trans m9;have b9:=m9.hpk b8 id;have r9:=m9.hpk r8 id;cases g:({o with price:=price,left:=left}:Od).may with
  |false=>
   have hmay' :({num:=o.num,acct:=o.acct,buy:=o.buy,price:=price,left:=left}:Od).may=false:=g;refine lV ?_;exact bad 2 w9 (by unfold co;rw[hf];simp only;rw[ab g]) k
  |true=>
   refine fh ?_;have q9:=k.hpk b1 id;have hs9:=k.size;have h9:=h1.mod k id λ_ _ _ h=>h;have hq9:=aJ q9;have hr9' :=aJ r9;refine dU.at (λst W=>st=(.bool (decide (price=o.price/\left<=o.left)),())/\W=w9) ?_ ?_
   ·have D:=r9;unfold dp at D;refine dF ?_;refine dD D ?_;by_cases u:price=o.price
    ·refine ee u ?_;refine dF ?_;refine dD D ?_;refine dF ?_;exact⟨by simp[u],rfl⟩
    ·refine fH u ?_;exact⟨by simp[u],rfl⟩
   rintro _ w9 ⟨rfl,rfl⟩;refine qk ?_;intro _;by_cases j:price=o.price/\left<=o.left
   ·rw[zZ j];apply dy (YZ _ left);refine O3 (h9.sd d) v λX H z f t=>?_;have J:=f.hpk q9 λa=>by grind
    have e:co B n price left=((qs (B d) n left).1,B.set d (qs (B d) n left).2,⟨[],[],0,left⟩):=by
     unfold co;rw[hf];simp only;rw[aa (by rw[g];simp),ab j]
    rw[e]at M;refine RC J Lz Lz λw11 l=>?_;have F:bn (λx=>G true x\/G false x) w H:=(E (U.trans k)).trans (f.mono λx _ a=>by cases d;exact .inr a;exact .inl a);have A:=h9.upd f z t
    have i:∀e x,jk G d X e x->G e x\/(w.heap.size<=x/\x≠q):=λe x a=>by
     by_cases V:e=d
     ·subst V;rw[fY]at a;rcases t x a with c|c
      ·exact .inl c
      ·grind
     ·unfold jk at a;rw[aa V]at a;exact .inl a
    refine M (jk G d X) jq jq _ (A.mod l qZ λe x a hq=>?_) (JC _) (F.on l λx a=>gT) (λe x a=>(i e x a).imp id (·.1)) λx a=>by rcases a with a|a<;>cases a
    rcases i e x a with c|c
    ·grind
    ·exact c.2 hq
   ·rw[JV j];refine Ch (h9.sd d) λX H z f t=>?_;have J:=f.hpk q9 λa=>by grind
    have p10:=f.hpk b9 λa=>by grind
    have hs10:=f.size;have F:bn (λx=>G true x\/G false x) w H:=(E (U.trans k)).trans (f.mono λx _ a=>by cases d;exact .inr a;exact .inl a);have A:=h9.upd f z t
    have i:∀e x,jk G d X e x->G e x\/(w.heap.size<=x/\x≠q):=λe x a=>by
     by_cases V:e=d
     ·subst V;rw[fY]at a;rcases t x a with c|c
      ·exact .inl c
      ·grind
     ·unfold jk at a;rw[aa V]at a;exact .inl a
    have hxq:∀e x,jk G d X e x->x≠q:=λe x a=>by
     rcases i e x a with c|c
     ·grind
     ·exact c.2
    apply dy (me (At.all p10));refine Mb A ⟨R.2.2.1,R.2.2.2.1,P,v⟩ g λL sT Q w11 r11 I l n11 s11=>?_
    have e:co B n price left=(0,eP (B.set d (oB (B d) n)) {o with price:=price,left:=left} true):=by
     unfold co;rw[hf];simp only;rw[aa (by rw[g];simp),aa j]
    rw[e]at M;obtain⟨ta,tc,hsT,-⟩:=I.tr.isSl;obtain⟨ga,gc,hsG,-⟩:=I.go.isSl;have q11:=l.hpk J (by grind);refine RC q11 ⟨_,_,_,hsT⟩ ⟨_,_,_,hsG⟩ λw12 y=>?_
    have Y:∀e x,L e x->G e x\/(w.heap.size<=x/\x≠q):=λe x a=>by
     rcases n11 e x a with c|c
     ·exact i e x c
     ·grind
    refine M L sT Q w12 (r11.mod y qZ λe x a hq=>?_) (I.mod y (λx a=>?_) λx a=>?_) ((F.on l λx a=>?_).on y λx a=>gT) (λe x a=>(Y e x a).imp id (·.1)) λx a=>⟨by grind,(s11 x a).2⟩
    ·rcases Y e x a with c|c
     ·grind
     ·exact c.2 hq
    ·grind
    ·grind
    ·rcases a with a|a
     ·rcases i _ x a with c|c
      ·exact .inl (.inl c)
      ·exact .inr c.1
     ·rcases i _ x a with c|c
      ·exact .inl (.inr c)
      ·exact .inr c.1
end Go.Proofs
namespace Go.Proofs
open Go Go.Vc
attribute [local congr] bj
structure SK(P:Program)(gv:Vt_)(xs:List (List Value))(Ok:World->Prop):Prop where
 out:∃f first captured,gv=.func (.func f) first captured/\∀(yl:Nat) (J:(Nat->Prop)->Nat->World->Prop) (Js:(Nat->Prop)->World->Prop) (W:Wt_) (K:be),Ok W->
  (∀Q W1,M0 W W1->(∀b,Q b->W.heap.size<=b/\b<W1.heap.size)->J Q 0 W1)->
  (∀Q Q' i W W',J Q i W->bn Q W W' ->(∀b,Q' b->(Q b\/W.heap.size<=b)/\b<W'.heap.size)->J Q' i W')->
  (∀Q Q' W W',Js Q W->bn Q W W' ->(∀b,Q' b->(Q b\/W.heap.size<=b)/\b<W'.heap.size)->Js Q' W')->
  (∀Q i x W,xs[i]? =some x->J Q i W->∀K' :be,(∀W',J Q (i+1) W' ->W.heap.size<=W'.heap.size->(∀b,Q b->W'.heap[b]? =W.heap[b]?)->K' (.bool true) W')->(∀W',Js Q W' ->W.heap.size<=W'.heap.size->(∀b,Q b->W'.heap[b]? =W.heap[b]?)->K' (.bool false) W')->om P (.func (.yield yl) #[] #[]) x W K')->
  (∀Q W,J Q xs.length W->K (.tuple #[]) W)->(∀Q W,Js Q W->K (.tuple #[]) W)->Ca P f ⟨first.toList++((.func (.yield yl) #[] #[])::captured.toList)⟩ W K
def JE{P:Program}{gv:Vt_}{xs:List (List Value)}{Ok:World->Prop}(h:Bt P gv xs Ok):SK P gv xs Ok:=by
 obtain⟨f,first,k,e,r⟩:=h.out;refine⟨f,first,k,e,λv J t W K o p g m l c n=>?_⟩;refine r _ (λQ i W=>J Q i W/\∀b,Q b->b<W.heap.size) (λW=>∃Q,t Q W) W K o (λQ q j d=>⟨p Q q j d,λb a=>(d b a).2⟩) ?_ ?_ (λQ W h=>c Q W h.1) λW ⟨Q,h⟩=>n Q W h
 ·rintro Q i W u ⟨s,d⟩ j;exact⟨g Q Q i W u s (j.to) λb a=>⟨.inl a,br (d b a) j.size⟩,λb a=>br (d b a) j.size⟩
 ·grind
structure uK(gv:Vt_)(xs:List (List Value))(w:Wt_):Prop where
 out:∃Ok,SK pQ gv xs Ok/\∀W,M0 w W->Ok W
 fn:∃f cap,gv=.func (.func f) #[] cap
def Dk.m{gv:Vt_}{xs:List (List Value)}{w:Wt_}(h:Dk gv xs w):uK gv xs w:=by
 obtain⟨⟨Ok,b,a⟩,c⟩:=h;exact⟨⟨Ok,JE b,a⟩,c⟩
def oC(T:TypeId){α:Type}(fv:α->Value)(fc:α->List Value)(xs:List α):Prop:=
 ∀a∈xs,∀W:World,∃w1 w2,(iA T true (.tuple #[])).run pQ W=.ok (cU W.heap.size 0) w1/\(iS T (cU W.heap.size 0) (fv a)).run pQ w1=.ok () w2/\
  hC w2 W.heap.size (fc a).toArray T/\M0 W w2
section
variable{w:Wt_}{gv:Vt_}{α:Type}{xs:List α}{T:TypeId}{fv:α->Value}{fc:α->List Value}{body:Value->World->(World->Prop)->(Code->World->Prop)->Prop}{after:List Nat->Option Code->World->Prop}{X0:NP_}
def KF(ht:uK gv (xs.map λa=>[fv a]) w)(hv:oC T fv fc xs)
  (I:(Nat->Prop)->Nat->World->Prop)(Ex:Code->(Nat->Prop)->World->Prop)
  (C:∀X i W m H,I X i W->bn H W m->(∀b,X b->¬H b)->I X i m)
  (hsx:∀c X W m H,Ex c X W->bn H W m->(∀b,X b->¬H b)->Ex c X m)
  (M:∀b,X0 b->b<w.heap.size)(h0:I X0 0 w)
  (V:∀X i (hi:i<xs.length) W q,I X i W->bn X0 w W->(∀b,X b->b<q/\(X0 b\/w.heap.size+1<b))->w.heap.size+1<q->q<W.heap.size->hC W q (fc xs[i]).toArray T->∀KN KJ,
   (∀y m,I y (i+1) m->bn X W m->(∀b,y b->(X b\/W.heap.size<=b)/\b<m.heap.size)->KN m)->
   (∀c y m,Ex c y m->bn X W m->(∀b,y b->(X b\/W.heap.size<=b)/\b<m.heap.size)->KJ c m)->body (cU q 0) W KN KJ)
  (hend:∀X W d,d=w.heap.size->I X xs.length W->bn X0 w W->hp W d=some (.deferred (some []))->(∀b,X b->b<W.heap.size/\(X0 b\/d+1<b))->after [d] none W)
  (Z:∀c X W d,d=w.heap.size->Ex c X W->bn X0 w W->hp W d=some (.deferred (some []))->(∀b,X b->b<W.heap.size/\(X0 b\/d+1<b))->after [d] (some c) W):
  HD pQ none gv w 1 (λl x W KN KJ=>rv pQ (iA T true (.tuple #[])) W λv w1=>ru pQ (iS T v (x.getD 0 undef)) w1 λw2=>qr l w2 λw3=>body v w3 KN KJ) after:=by
 obtain⟨⟨Ok,hit,hok⟩,-⟩:=ht;obtain⟨f,first,captured,rfl,hit0⟩:=hit.out;apply rG.2;show∀k:Loop,_;intro k s G hD hY;obtain⟨d,A⟩:=dW w.heap.size;have U:(w.alloc (.deferred (some []))).heap.size=d+1:=by rw[ci,A]
 obtain⟨wr,E⟩:=dW ((w.alloc (.deferred (some []))).alloc (.loop k));have S:wr.heap[d+1]? =some (.loop k):=by rw[E,dZ,ab U.symm]
 have hszr:wr.heap.size=d+2:=by rw[E,ci,U]
 have Y:hp wr d=some (.deferred (some [])):=by rw[E];simp[go_sem,A]
 have hmr:M0 w wr:=by rw[E];exact nl.alloc _
 have p:∀(W:Wt_) (o:Obj),bn (λb=>b=d+1) W (W.putObj (d+1) o):=λW o=>(bn.refl (λb=>b=d+1) W).putObj (b:=d+1) (.inl rfl) o;rw[U]at hY|-;rw[<-E];let J:(Nat->Prop)->Nat->World->Prop:=λQ i W=>∃X,I X i W/\bn X0 w W/\hp W d=some (.deferred (some []))/\(∀b,X b->b<W.heap.size/\(X0 b\/d+1<b)/\¬Q b)/\W.heap[d+1]? =some (.loop k)/\∀b,Q b->d+1<b/\b<W.heap.size;let Js:(Nat->Prop)->World->Prop:=λQ W=>∃c X r,Ex c X W/\bn X0 w W/\hp W d=some (.deferred (some []))/\(∀b,X b->b<W.heap.size/\(X0 b\/d+1<b)/\¬Q b)/\W.heap[d+1]? =some (.loop r)/\(∀b,Q b->d+1<b/\b<W.heap.size)/\r.state=.done/\r.pending=some c;refine hit0 _ J Js _ _ (hok _ hmr) ?_ ?_ ?_ ?_ ?_ ?_
 ·intro Q W1 j hQ;refine⟨X0,C _ _ _ _ _ h0 (hmr.trans j) eI,(hmr.trans j).to,j.hpk Y id,λb g=>?_,j.keep S id,λb g=>?_⟩
  ·have O:=M b g;have F:=j.size;exact⟨qZ,.inl g,λhq=>by grind⟩
  ·have:=hQ b g;omega
 ·rintro Q Q' i W m ⟨X,O,F,L,n,B,R⟩ j K;have hl:=aJ B;refine⟨X,C _ _ _ _ _ O j λb g=>(n b g).2.2,F.on j λb g=>.inr (by grind),j.hpk L λg=>by grind,λb g=>?_,j.keep B λg=>by grind,λb g=>?_⟩
  ·have u:=n b g;refine⟨br u.1 j.size,u.2.1,λhq=>?_⟩;rcases(K b hq).1 with h|h
   ·exact u.2.2 h
   ·have:=u.1;omega
  ·have u:=K b g;refine⟨?_,u.2⟩;rcases u.1 with h|h
   ·exact(R b h).1
   ·omega
 ·rintro Q Q' W m ⟨c,X,r,O,F,L,n,B,R,h7⟩ j K;have hl:=aJ B;refine⟨c,X,r,hsx _ _ _ _ _ O j λb g=>(n b g).2.2,F.on j λb g=>.inr (by grind),j.hpk L λg=>by grind,λb g=>?_,j.keep B λg=>by grind,λb g=>?_,h7⟩
  ·have u:=n b g;refine⟨br u.1 j.size,u.2.1,λhq=>?_⟩;rcases(K b hq).1 with h|h
   ·exact u.2.2 h
   ·have:=u.1;omega
  ·have u:=K b g;refine⟨?_,u.2⟩;rcases u.1 with h|h
   ·exact(R b h).1
   ·omega
 ·rintro Q i x W P ⟨X,O,F,L,n,B,R⟩ K' hT hF;apply jf.2;show Yl pQ (d+1) ⟨_⟩ W K';have e1:(#[]:Array Value).toList++x=x:=rfl;rw[e1]
  obtain⟨hi,rfl⟩:∃hi:i<xs.length,x=[fv xs[i]]:=by
   rw[bY]at P;cases hh:xs[i]? with
   |none=>rw[hh]at P;cases P
   |some o=>
    obtain⟨hj,he⟩:=aF.1 hh;rw[hh]at P;exact⟨hj,by grind⟩
  apply hY _ W K' rfl ⟨k.state,k.pending,B⟩;obtain⟨w1,w2,v1,v2,v3,v4⟩:=hv xs[i] (ar hi) W;obtain⟨q,hq0⟩:=dW W.heap.size;rw[<-hq0]at v1 v2 v3;apply dy v1;show ru pQ (iS T (cU q 0) (fv xs[i])) w1 _;apply lO v2;have r2:w2.heap[d+1]? =some (.loop k):=v4.keep B id;apply pu r2 s;have m3:=p w2 (.loop {k with state:=.busy});have r3:(w2.putObj (d+1) (.loop {k with state:=.busy})).heap[d+1]? =some (.loop {k with state:=.busy}):=by rw[dJ,ab rfl,r2];rfl
  generalize w2.putObj (d+1) (.loop {k with state:=.busy})=w3 at m3 r3|-;have hdl:d+1<q:=by grind
  have q3:=m3.hpk v3 qZ;have hql:=aJ q3;have M3:bn (λb=>b=d+1) W w3:=(v4.to).trans m3;have hXq:∀b,X b->b<q/\(X0 b\/d+1<b):=λb g=>⟨by grind,(n b g).2.1⟩
  have t:∀b,X b->b≠d+1/\b≠d:=λb g=>by
   rcases(n b g).2.1 with h|h
   ·have:=M b h;omega
   ·omega
  have D:∀(m:Wt_) (y:NP_) (o:Obj),bn X w3 m->(∀b,y b->(X b\/w3.heap.size<=b)/\b<m.heap.size)->
    bn X0 w (m.putObj (d+1) o)/\hp (m.putObj (d+1) o) d=some (.deferred (some []))/\(∀b,y b->b<(m.putObj (d+1) o).heap.size/\(X0 b\/d+1<b)/\¬Q b)/\(∀b,Q b->d+1<b/\b<(m.putObj (d+1) o).heap.size)/\
    (∀b,Q b->(m.putObj (d+1) o).heap[b]? =W.heap[b]?)/\W.heap.size<=(m.putObj (d+1) o).heap.size/\m.heap[d+1]? =some (.loop {k with state:=.busy}):=by
   intro m y o j z;have N:=p m o;have hsW:=j.size;have hsP:=N.size;refine⟨?_,N.hpk (j.hpk (m3.hpk (v4.hpk L id) qZ) λg=>(t _ g).2 rfl) qZ,λb g=>?_,λb g=>?_,λb g=>?_,qZ,j.keep r3 λg=>(t _ g).1 rfl⟩
   ·refine(((F.on M3 λb g=>gT).on j λb g=>?_)).on N λb g=>gT;rcases(n b g).2.1 with h|h
    ·exact .inl h
    ·exact gT
   ·have u:=z b g;refine⟨qZ,?_,λhq=>?_⟩
    ·rcases u.1 with h|h
     ·exact(n b h).2.1
     ·exact gT
    ·rcases u.1 with h|h
     ·exact(n b h).2.2 hq
     ·grind
   ·have:=R b g;omega
   ·have hb' :=R b g;rw[N.blk b qZ qZ,j.blk b qZ λP=>(n b P).2.2 g,M3.blk b hb'.2 qZ]
  refine V X i hi w3 q (C _ _ _ _ _ O M3 λb g=>(t b g).1) (F.on M3 λb g=>gT) (by grind) qZ hql q3 _ _ ?_ ?_
  ·intro y m hI' j z;obtain⟨k1,k2,k3,k4,k5,k6,k7⟩:=D m y (.loop {{k with state:=.busy}with state:=.ready,pending:=none}) j z;refine⟨_,k7,hT _ ⟨y,?_,k1,k2,k3,?_,k4⟩ k6 k5⟩
   ·refine C _ _ _ _ _ hI' (p m _) λb g e=>?_;rcases(z b g).1 with h|h
    ·exact(t b h).1 e
    ·omega
   ·rw[dJ,ab rfl,k7];simp[<-s,<-G]
  ·intro c y m hI' j z;obtain⟨k1,k2,k3,k4,k5,k6,k7⟩:=D m y (.loop {{k with state:=.busy}with state:=.done,pending:=some c}) j z;refine⟨_,k7,hF _ ⟨c,y,{k with state:=.done,pending:=some c},?_,k1,k2,k3,?_,k4,rfl,rfl⟩ k6 k5⟩
   ·refine hsx _ _ _ _ _ hI' (p m _) λb g e=>?_;rcases(z b g).1 with h|h
    ·exact(t b h).1 e
    ·omega
   ·rw[dJ,ab rfl,k7];rfl
 ·rintro Q W ⟨X,O,F,L,n,B,R⟩;refine⟨k,B,by rw[s];decide,?_⟩;rw[<-A];have j:=p W (.loop {k with state:=.exhausted});generalize W.putObj (d+1) (.loop {k with state:=.exhausted})=W8 at j|-;rw[G]
  have t:∀b,X b->b≠d+1:=λb g=>by
   rcases(n b g).2.1 with h|h
   ·have:=M b h;omega
   ·omega
  refine hend X _ d A ?_ (F.on j λb g=>gT) (j.hpk L qZ) λb g=>⟨br (n b g).1 j.size,(n b g).2.1⟩
  have P:I X xs.length W:=by grind
  exact C _ _ _ _ _ P j λb g=>t b g
 ·rintro Q W ⟨c,X,r,O,F,L,n,B,R,h7,h8⟩;refine⟨r,B,by rw[h7];decide,?_⟩;rw[<-A];have j:=p W (.loop {r with state:=.exhausted});generalize W.putObj (d+1) (.loop {r with state:=.exhausted})=W8 at j|-;rw[h8]
  have t:∀b,X b->b≠d+1:=λb g=>by
   rcases(n b g).2.1 with h|h
   ·have:=M b h;omega
   ·omega
  exact Z c X _ d A (hsx _ _ _ _ _ O j λb g=>t b g) (F.on j λb g=>gT) (j.hpk L qZ) λb g=>⟨br (n b g).1 j.size,(n b g).2.1⟩
end
def WK{W:Wt_}{d:Nat}{K:World->Prop}(h:hp W d=some (.deferred (some [])))(e:∀a,bn (λb=>b=d) W a->K a):Ao ([d]++[]) W K:=
 UV (by simp) (λx c=>by grind) λa m=>e a (m.mono λx _ c=>by simpa using c)
def oC.od{xs:List Od}:oC kQ mi dp xs:=λa _ W=>by
 obtain⟨c,e,d,h⟩:=kg W;obtain⟨i,j,g,f⟩:=jA (o' :=a) d;exact⟨c,i,e,j,g,h.on f λb k=>gT⟩
end Go.Proofs
