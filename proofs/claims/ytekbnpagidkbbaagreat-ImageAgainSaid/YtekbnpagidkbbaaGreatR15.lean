/- Part of a proof. -/
import Derived.Test.YtekbnpagidkbbaaGreatR14
set_option linter.all false
set_option maxRecDepth 100000
set_option maxHeartbeats 4000000
namespace Go.Proofs
open Go Go.Vc
attribute [local congr] bj
variable {l:List Du}
def EN:∀{l:List Du} {last:Int},HQ last l=true->∀d∈l,d.ok=true
 |d::l,last,h,x,a=>by
  rw[HQ,ai,ai]at h;rcases ax.1 a with rfl|a
  ·exact h.1.2
  ·exact EN h.2 x a
def Du.rng{d:Du}(h:d.ok=true):0<=d.cash/\d.cash<=1000000000000000/\ -100000000000000000<=d.v/\d.v<=100000000000000000:=by
 unfold Du.ok yA aY at h;simp only[ai,aS]at h;omega
def L3(h:∀d∈l,d.ok=true):0<=(l.map iY).sum/\(l.map iY).sum<=l.length*100000000000000000:=by
 have:=sL (l:=l.map iY) (B:=100000000000000000) λx b=>by
  obtain⟨d,a,rfl⟩:=aL.1 b;have:=Du.rng (h d a);unfold iY;split<;>omega
 rwa[ah]at this
def eSd:fY pQ 374 4 32=true:=cV
def ac8(h:∀d∈l,d.ok=true):(∀x∈lB l,ed x)/\(lB l).length<=l.length:=by
 refine⟨λx b=>?_,by unfold lB;rw[ah];exact bh _ _⟩;obtain⟨d,a,rfl⟩:=aL.1 b;have:=Du.rng (h d (aU.1 a).1);constructor<;>omega
def ZZ(n:Nat):(madeCells (xn JX).toArray (n*4)).toList=(List.replicate n JX).flatMap xn:=by
 unfold madeCells;rw[Array.toList_map,Array.toList_range];induction n with
 |zero=>rfl
 |succ n a=>
  have e:(n+1)*4=n*4+1+1+1+1:=qZ;rw[e,lQ,lQ,lQ,lQ,aM,aM,aM,aM,a,List.replicate_succ',cE];have c:(n*4)%4=0:=qZ;have h1:(n*4+1)%4=1:=qZ;have b:(n*4+1+1)%4=2:=qZ;have d:(n*4+1+1+1)%4=3:=qZ;simp[xn,JX,c,h1,b,d,ar]
def ai4{w:Wt_}{K:aZ}{n:Nat}(g:n<=1000000)(e:∀a c,J1 c a (List.replicate n JX)->M0 w c->(∀b,aF a b->w.heap.size<=b)->K a c):
  rx pQ (Ec 370 (gI (n:Int)) (gI (n:Int))) w K:=by
 apply Lm (z:=S4 JX) XH (dB eSd) qZ qZ qZ cV;rw[show(n:Int).toNat=n from rfl]
 have d:madeCells (S4 JX).cells (n*4)=((List.replicate n JX).flatMap xn).toArray:=by
  apply kM;rw[show(S4 JX).cells=(xn JX).toArray from rfl];exact ZZ n
 rw[d];refine e _ _ ?_ mG λb f=>?_
 ·unfold J1;rw[dx];exact⟨by rw[uB oU,dx],.inr ⟨w.heap.size,n,[],rfl,aD _,by rw[er,ae rfl,aN],by simp,rfl⟩⟩
 ·have:b=w.heap.size:=by cases f;rfl
  omega
def FG{x y:Int}{W:Wt_}(h:ed (x - y)):(io .sub 2 false (gI x) (gI y)).run pQ W=.ok (gI (x - y)) W:=by
 simp[go_sem];rw[ew h.1 h.2]
def wX:∀ix p,(qV ix p).length=p.length
 | [],p=>rfl
 |i::ix,p=>by rw[qV,wX ix,bN]
def wM{t:Int}{l:List Int}(h:(fJ t l).2=0):(fJ t l).1.length=l.length:=by
 unfold fJ at h|-;split at h
 ·cases h
 split at h
 ·cases h
 split at h
 ·cases h
 split at h
 ·grind
 split at h
 ·cases h
 ·rename_i h1 a d b c
  rw[aa h1,aa a,aa d,aa b,aa c];unfold tG;rw[wX,ah];unfold pK;rw[ah,ah]
structure StI(w0 W:Wt_)(l:List Du)(i:Nat)(v10 sA sW sP:Vt_):Prop where
 out:J1 W v10 ((l.take i).map AK++List.replicate (l.length - i) JX)
 a:ub W sA ((l.take i).map (·.v))
 wn:ub W sW (lB (l.take i))
 ix:GS W sP ((mj 0 (l.take i)).map λx:Nat=>(x:Int))
 md:M0 w0 W
 nw:∀b,aF v10 b\/aF sA b\/aF sW b\/aF sP b->w0.heap.size<=b
 d1:∀b,aF v10 b->¬aF sA b/\¬aF sW b/\¬aF sP b
 d2:∀b,aF sA b->¬aF sW b/\¬aF sP b
 d3:∀b,aF sW b->¬aF sP b
def Oj{w:Wt_}{K:aZ}{s:Vt_}{fund:Int}(h:Rd w 3 s l.length (l.flatMap Kp))(hn:l.length<=100000)(hl:∀d∈l,d.Fit)(hf:ed fund)
  (hK:∀s' w',J1 w' s' (ie fund l).1->M0 w w' ->(∀b,aF s' b->w.heap.size<=b)->K (.tuple #[s',gI (ie fund l).2.1,gI (ie fund l).2.2]) w'):Ca pQ 264 #[.int .i64 fund,s] w K:=by
 refine cN Tryz.func264 ?_;obtain⟨a,c,hs⟩:=h.isSl;have S:∀{W:Wt_},(builtin .len #[367] 3 #[false] #[s]).run pQ W=.ok (.value (gI (l.length:Int))) W:=λ{W}=>by rw[hs];simp[go_sem]
 have bad:∀e W,ie fund l=([],0,e)->M0 w W->K (.tuple #[.slice none 0 0,gI 0,gI e]) W:=λe W he m=>by
  have hk:=hK (.slice none 0 0) W (by rw[he];exact ic.nil _ _ _) m λb g=>by cases g
  rw[he]at hk;exact hk
 apply uz S;by_cases h64:64<l.length
 ·have T:(64:Int)<(l.length:Int):=qZ;refine dY T ?_;exact bad 3 w (by unfold ie;rw[ae h64]) rZ
 have T:¬(64:Int)<(l.length:Int):=qZ;refine fF T ?_;refine JK h qZ hl λw1 m1=>?_;cases I:rG fund l with
 |false=>
  refine lh ?_;exact bad 2 w1 (by unfold ie;rw[aa h64,ae I]) m1
 |true=>
 refine eU ?_;have E:=I;unfold rG at E;rw[ai]at E;have hok:=EN E.1;have hfr:=bE E.2;apply uz S;refine ai4 qZ λF w2 o2 m2 n2=>?_;apply uz S;obtain⟨n,hnd⟩:=di l.length;have hs1:=m1.size
 refine d8 (λst W=>∃(i:Nat) (sA sW sP:Vt_),st=(sA,sW,sP,gI (((l.take i).map iY).sum),gI i,())/\i<=l.length/\StI w W l i F sA sW sP)
  (λst _=>match st.2.2.2.2.1 with| .int _ i=>l.length - i.toNat|_=>0) ⟨0,.slice none 0 0,.slice none 0 0,.slice none 0 0,by simp,qZ,?_⟩ ?_
 ·refine⟨by simpa using o2,ic.nil _ _ _,ic.nil _ _ _,ic.nil _ _ _,m1.trans m2,λb g=>?_,λb g=>⟨λh=>(by cases h),λh=>(by cases h),λh=>(by cases h)⟩,λb g=>(by cases g),λb g=>(by cases g)⟩;rcases g with g|g|g|g
  ·have:=n2 b g;omega
  ·cases g
  ·cases g
  ·cases g
 rintro⟨sA,sW,sP,_,_,_⟩ W ⟨i,sA0,sW0,sP0,⟨⟩,hi,t⟩ KN hKN;refine lV ?_;intro _;have hokT:∀d∈l.take i,d.ok=true:=λd hd=>hok d (bF hd);have hmb:=L3 hokT;have htl:(l.take i).length<=64:=by rw[az];omega
 by_cases hlt:i<l.length
 ·have hlt' :(i:Int)<(l.length:Int):=qZ;refine dY hlt' ?_;obtain⟨p,e1,e2⟩:=ab1 (h.mod t.md d9) hlt;refine bo e1 (bo e2 ?_);obtain⟨wv,w3,v1,v2,v3,v4⟩:=VT l[i] W;obtain⟨q,hq⟩:=di W.heap.size;rw[<-hq]at v1 v2 v3;refine bo v1 (iE v2 ?_);obtain⟨d,hd⟩:=di (l[i]);rw[<-hd]at v3;have hdl:d∈l:=by rw[hd];exact aq hlt
  have hdr:=Du.rng (hok d hdl);have O:l.take (i+1)=l.take i++[d]:=by rw[hd];exact bR hlt
  unfold Kp at v3
  have u:∀b,aF F b\/aF sA b\/aF sW b\/aF sP b->b<q:=λb g=>by
   rw[hq];rcases g with g|g|g|g
   ·exact t.out.lt g
   ·exact t.a.lt g
   ·exact t.wn.lt g
   ·exact t.ix.lt g
  have hq3:=aB v3;refine dI ?_;refine dN v3 ?_;have own3:=t.a.mod v4 d9;refine wj (x:=d.v) (f:=t8) xQ (dB VN) (λ_=>rfl) vA rfl own3 (by rw[ah];omega) qZ λY w4 o4 m4 n4=>?_;have c4:=m4.hpk v3 λg=>by have:=u _ (.inr (.inl g));omega
  have out4:J1 w4 F _:=(t.out.mod v4 d9).mod m4 λb g j=>(t.d1 b g).1 j;have wn4:ub w4 sW _:=(t.wn.mod v4 d9).mod m4 λb g j=>(t.d2 b j).1 g;have ix4:GS w4 sP _:=(t.ix.mod v4 d9).mod m4 λb g j=>(t.d2 b j).2 g;have v:∀b,aF Y b->aF sA b\/q<b:=λb g=>(n4 b g).imp id λ_=>by omega
  refine dI ?_;refine dN c4 ?_;refine dI ?_;refine dN c4 ?_;refine dI ?_;refine dN c4 ?_;apply ao (gI (d.cash+d.v)) w4 (by simp[go_sem];rw[mR]);apply ao (S4 ⟨d.acct,d.cash+d.v,false,0⟩) w4 (by simp[go_sem,S4,xn]);have hol:((l.take i).map AK++List.replicate (l.length - i) JX).length=l.length:=by rw[af,ah,az,dx];omega
  obtain⟨b,hbin,f1,g1⟩:=out4.el (i:=i) qZ;apply bo (f1 _);obtain⟨-,-,-,-,t1⟩:=g1 _ _ out4 qZ;obtain⟨w5,s5,o5,m5⟩:=t1 ⟨d.acct,d.cash+d.v,false,0⟩;apply iE s5
  have U:((l.take i).map AK++List.replicate (l.length - i) JX).set i (AK d)=(l.take (i+1)).map AK++List.replicate (l.length - (i+1)) JX:=by
   have e1:=AG (A:=l.map AK) (z:=JX) (n:=l.length) (by simp) hlt;rw[cG,<-hd,<-List.map_take,<-List.map_take]at e1;exact e1
  refine cT.at (λst W' =>st=(gI (((l.take (i+1)).map iY).sum),())/\J1 W' F ((l.take (i+1)).map AK++List.replicate (l.length - (i+1)) JX)/\aR (aF F) w4 W') ?_ ?_
  ·obtain⟨g2,t2,t3,-,-⟩:=g1 _ _ o5 (by rw[bN];omega);rw[eg]at g2;replace g2:(iL 2 (bO b (i*4+1))).run pQ w5=.ok (gI (d.cash+d.v)) w5:=g2;apply bo (f1 _);refine dN bK ?_;apply bo g2;have hms:((l.take (i+1)).map iY).sum=((l.take i).map iY).sum+iY d:=by rw[O];simp
   by_cases C:d.cash+d.v<0
   ·refine dY C ?_;apply bo (f1 _);refine dN bK ?_;apply bo g2;have hdm:iY d= -(d.cash+d.v):=by unfold iY;rw[ae C]
    apply bo (FG (W:=w5) ⟨qZ,qZ⟩);apply bo (f1 _);refine dN bK ?_;obtain⟨w6,s6,o6,Q⟩:=t2 0;apply iE s6;obtain⟨-,-,t4,-,-⟩:=g1 _ _ o6 (by rw[bN,bN];omega);apply bo (f1 _);refine dN bK ?_;obtain⟨w7,s7,o7,m7⟩:=t4 true;apply iE s7;refine⟨by rw[hms,hdm];congr 2,?_,(m5.trans Q).trans m7⟩;have e:AK d=⟨d.acct,0,true,0⟩:=by unfold AK;rw[ae C]
    rw[<-U,e];simp only[eg,ke]at o7;exact o7
   ·refine fF C ?_;have hdm:iY d=0:=by unfold iY;rw[aa C]
    refine⟨by rw[hms,hdm,iq],?_,m5⟩;have e:AK d=⟨d.acct,d.cash+d.v,false,0⟩:=by unfold AK;rw[aa C]
    rw[<-U,e];exact o5
  rintro _ W5 ⟨rfl,o6,Q⟩;refine kR ?_;intro _;have c6:=Q.hpk c4 λg=>by have:=u _ (.inl g);omega
  have wn6:=wn4.mod Q λb g j=>(t.d1 b j).2.1 g;have ix6:=ix4.mod Q λb g j=>(t.d1 b j).2.2 g
  have a6:=o4.mod Q λb g j=>by
   rcases v b g with r|r
   ·exact(t.d1 b j).1 r
   ·have:=u _ (.inl j);omega
  have hA1:(l.take (i+1)).map (·.v)=(l.take i).map (·.v)++[d.v]:=by rw[O];simp
  rw[<-hA1]at a6;have M6:=((t.md.trans v4).on m4 λb g=>.inr (t.nw b (.inr (.inl g)))).on Q λb g=>.inr (t.nw b (.inl g));have hs46:=Q.size;have hs34:=m4.size;have hqn:w.heap.size<=q:=by rw[hq];exact t.md.size
  refine dI ?_;refine dN c6 ?_;by_cases D:0<d.v
  ·refine dY D ?_;have hwl:(lB (l.take i)).length<=64:=by have:=(ac8 hokT).2;omega
   have hil:((mj 0 (l.take i)).map λx:Nat=>(x:Int)).length<=64:=by rw[ah,xR];exact hwl
   refine wj (x:=(i:Int)) (f:=t8) LU (dB YU) (λ_=>rfl) vA rfl ix6 qZ qZ λsP' w8 o8 Z n8=>?_;have X:∀b,aF sP' b->aF sP b\/w4.heap.size<=b:=λb g=>(n8 b g).imp id λ_=>by omega
   have c8:=Z.hpk c6 λg=>by have:=u _ (.inr (.inr (.inr g)));omega
   refine dI ?_;refine dN c8 ?_;have wn8:=wn6.mod Z λb g j=>t.d3 b g j;refine wj (x:=d.v) (f:=t8) xQ (dB VN) (λ_=>rfl) vA rfl wn8 qZ qZ λsW' w9 o9 m9 n9=>?_;apply VE i;have hs8:=Z.size;have hW' :=n9;have hA4:∀b,aF Y b->b<w4.heap.size:=λb g=>o4.lt g;have hP8:∀b,aF sP' b->b<w8.heap.size:=λb g=>o8.lt g;refine hKN _ _ ⟨i+1,Y,sW',sP',rfl,qZ,?_,?_,?_,?_,?_,?_,?_,?_,?_⟩ (by show l.length - (((i+1:Nat):Int)).toNat<l.length - ((i:Int)).toNat;omega)
   ·exact(o6.mod Z λb g j=>(t.d1 b g).2.2 j).mod m9 λb g j=>(t.d1 b g).2.1 j
   ·refine(a6.mod Z λb g j=>?_).mod m9 λb g j=>?_
    ·rcases v b g with r|r
     ·exact(t.d2 b r).2 j
     ·have:=u _ (.inr (.inr (.inr j)));omega
    ·rcases v b g with r|r
     ·exact(t.d2 b r).1 j
     ·have:=u _ (.inr (.inr (.inl j)));omega
   ·have e:lB (l.take (i+1))=lB (l.take i)++[d.v]:=by rw[O,DY,ae D]
    rw[e];exact o9
   ·have e:(mj 0 (l.take (i+1))).map (λx:Nat=>(x:Int))=(mj 0 (l.take i)).map (λx:Nat=>(x:Int))++[(i:Int)]:=by
     rw[O,AX,ae D,aM,az,cX,dK hi];rfl
    rw[e];refine o8.mod m9 λb g j=>?_;rcases X b g with r|r
    ·exact t.d3 b j r
    ·have:=u _ (.inr (.inr (.inl j)));omega
   ·exact(M6.on Z λb g=>.inr (t.nw b (.inr (.inr (.inr g))))).on m9 λb g=>.inr (t.nw b (.inr (.inr (.inl g))))
   ·intro b g;rcases g with g|g|g|g
    ·exact t.nw b (.inl g)
    ·rcases v b g with r|r
     ·exact t.nw b (.inr (.inl r))
     ·omega
    ·rcases hW' b g with r|r
     ·exact t.nw b (.inr (.inr (.inl r)))
     ·omega
    ·rcases X b g with r|r
     ·exact t.nw b (.inr (.inr (.inr r)))
     ·omega
   ·intro b g;have hbq:=u b (.inl g);refine⟨λB=>?_,λB=>?_,λB=>?_⟩
    ·rcases v b B with r|r
     ·exact(t.d1 b g).1 r
     ·omega
    ·rcases hW' b B with r|r
     ·exact(t.d1 b g).2.1 r
     ·omega
    ·rcases X b B with r|r
     ·exact(t.d1 b g).2.2 r
     ·omega
   ·intro b g;have hb4:=hA4 b g;refine⟨λB=>?_,λB=>?_⟩
    ·rcases hW' b B with r|r
     ·rcases v b g with J|J
      ·exact(t.d2 b J).1 r
      ·have:=u _ (.inr (.inr (.inl r)));omega
     ·omega
    ·rcases X b B with r|r
     ·rcases v b g with J|J
      ·exact(t.d2 b J).2 r
      ·have:=u _ (.inr (.inr (.inr r)));omega
     ·omega
   ·intro b g B;have h8:=hP8 b B;rcases hW' b g with r|r
    ·rcases X b B with J|J
     ·exact t.d3 b r J
     ·have:=u _ (.inr (.inr (.inl r)));omega
    ·omega
  ·refine fF D ?_;apply VE i;have hA4:∀b,aF Y b->b<w4.heap.size:=λb g=>o4.lt g;refine hKN _ _ ⟨i+1,Y,sW,sP,rfl,qZ,o6,a6,?_,?_,M6,?_,?_,?_,t.d3⟩ (by show l.length - (((i+1:Nat):Int)).toNat<l.length - ((i:Int)).toNat;omega)
   ·have e:lB (l.take (i+1))=lB (l.take i):=by rw[O,DY,aa D,aN]
    rw[e];exact wn6
   ·have e:mj 0 (l.take (i+1))=mj 0 (l.take i):=by rw[O,AX,aa D,aN]
    rw[e];exact ix6
   ·intro b g;rcases g with g|g|g|g
    ·exact t.nw b (.inl g)
    ·rcases v b g with r|r
     ·exact t.nw b (.inr (.inl r))
     ·omega
    ·exact t.nw b (.inr (.inr (.inl g)))
    ·exact t.nw b (.inr (.inr (.inr g)))
   ·intro b g;have hbq:=u b (.inl g);refine⟨λB=>?_,(t.d1 b g).2⟩;rcases v b B with r|r
    ·exact(t.d1 b g).1 r
    ·omega
   ·intro b g;refine⟨λB=>?_,λB=>?_⟩
    ·rcases v b g with J|J
     ·exact(t.d2 b J).1 B
     ·have:=u _ (.inr (.inr (.inl B)));omega
    ·rcases v b g with J|J
     ·exact(t.d2 b J).2 B
     ·have:=u _ (.inr (.inr (.inr B)));omega
 ·obtain rfl:i=l.length:=qZ;refine eU ?_;obtain⟨j1,j2,j3,j4,j5,j6,j7,j8,j9⟩:=t;rw[aK]at j1 j2 j3 j4 hmb;rw[ou,List.replicate_zero,aN]at j1;rw[aK];apply Eh j2.rd (by rw[ah];omega) (λx B=>by obtain⟨d,hd,rfl⟩:=aL.1 B;exact(hl d hd).2.2);refine dI ?_;refine dI ?_;refine cT.at (λst W' =>st=(.bool (decide ((tC (l.map (·.v))).2≠0\/(tC (l.map (·.v))).1≠0)),())/\W' =W) ?_ ?_
  ·by_cases hc:(tC (l.map (·.v))).2=0
   ·refine fF hc ?_;by_cases hc2:(tC (l.map (·.v))).1=0
    ·refine dN hc2 ?_;exact⟨by rw[bD (λh=>h.elim (λh=>h hc) (λh=>h hc2))],rfl⟩
    ·refine wL (.bool true) hc2 ?_;exact⟨by rw[aW (.inr hc2)],rfl⟩
   ·refine dY hc ?_;exact⟨by rw[aW (.inl hc)],rfl⟩
  rintro _ W' ⟨rfl,rfl⟩;refine kR ?_;intro _;by_cases L:(tC (l.map (·.v))).2≠0\/(tC (l.map (·.v))).1≠0
  ·rw[oB L];exact bad 130 W' (by unfold ie;rw[aa h64,aa (by rw[I];simp),ae L]) j5
  rw[JP L];obtain⟨M,hM⟩:=di ((l.map iY).sum)
  have G:ie fund l=if(fJ (M - min fund M) (lB l)).2≠0 then([],0,(fJ (M - min fund M) (lB l)).2)else(lC (mj 0 l) (fJ (M - min fund M) (lB l)).1 (l.map AK),fund - min fund M,0):=by
   unfold ie;rw[aa h64,aa (by rw[I];simp),aa L,hM]
  rw[<-hM]at hmb|-;refine IF ?_;have hmin:0<=min fund M/\min fund M<=fund/\min fund M<=M:=qZ;apply bo (FG (W:=W') ⟨qZ,qZ⟩);have hwr:=ac8 hok;refine Hl j3.rd hwr.1 ⟨qZ,qZ⟩ qZ λH w6 o6 Q n6=>?_;have M6:=j5.trans Q;obtain⟨R,hR⟩:=di (fJ (M - min fund M) (lB l));rw[<-hR]at o6 G|-;obtain⟨va,vc,hva,-⟩:=o6.isSl;apply ao H w6 (by rw[hva];simp[go_sem]);refine dI ?_;by_cases N:R.2=0
  case neg=>
   refine dY N ?_;exact bad R.2 w6 (by rw[G,ae N]) M6
  refine fF N ?_;rw[aa (by simpa using N)]at G;have hRl:R.1.length=(lB l).length:=by rw[hR]at N|-;exact wM N
  have hal:=xR l 0;obtain⟨pa,pc,hpa,-⟩:=j4.isSl;apply iI (gI ((mj 0 l).length:Int)) w6 (by rw[hpa];simp[go_sem]);have hn6:∀b,aF H b->¬aF F b:=λb g j=>by have:=n6 b g;have:=j1.lt j;omega
  refine d8 (λst W2=>∃(k:Nat) (o:List Sd),st=(gI k,())/\k<=(mj 0 l).length/\J1 W2 F o/\lC ((mj 0 l).drop k) (R.1.drop k) o=lC (mj 0 l) R.1 (l.map AK)/\o.length=l.length/\GS W2 sP ((mj 0 l).map λx:Nat=>(x:Int))/\ub W2 H R.1/\M0 w W2)
   (λst _=>match st.1 with| .int _ k=>(mj 0 l).length - k.toNat|_=>0) ⟨0,_,rfl,qZ,j1.mod Q d9,rfl,by rw[ah],j4.mod Q d9,o6,M6⟩ ?_
  rintro⟨_,_⟩ W7 ⟨k,o,⟨⟩,hk,q1,q2,q3,q4,q5,q6⟩ KM hKM;refine lV ?_;intro _;by_cases V:k<(mj 0 l).length
  ·refine dY V ?_;obtain⟨y,hy⟩:=di ((mj 0 l)[k])
   have hyb:y<o.length:=by
    have:=xw l 0 y (by rw[hy];exact aq _);omega
   obtain⟨p1,f1,g1⟩:=q4.el (i:=k) (by rw[ah];exact V);apply bo (f1 W7);have hly:=(g1 _ _ q4 (by rw[ah];exact V)).1;rw[cG,<-hy]at hly;apply bo hly;obtain⟨p2,f2,g2⟩:=q5.el (i:=k) qZ;have hkR:k<R.1.length:=qZ;obtain⟨P,hP⟩:=di (R.1[k]);have hlp:=λ(W:Wt_) (h:ub W H R.1)=>(g2 W _ h hkR).1;rw[<-hP]at hlp;refine bo (f2 .i64 W7) (bo (hlp _ q5) ?_);obtain⟨b,hbin,f3,g3⟩:=q1.el (i:=y) hyb;apply bo (f3 _);refine dN bK ?_;obtain⟨-,-,-,t3,-⟩:=g3 _ _ q1 hyb;obtain⟨w8,s8,o8,Z⟩:=t3 P;apply iE s8;have r8:=q5.mod Z λb g j=>hn6 b g j;have md:M0 w8 w8.drew:=vz;have o9:=o8.mod md d9;have r9:=r8.mod md d9;have i9:=(q4.mod Z λb g j=>(j7 b j).2.2 g).mod md d9;have M9:=(q6.on Z λb g=>.inr (j6 b (.inl g))).trans md;generalize w8.drew=w9 at md o9 r9 i9 M9|-;refine cx f3 (Y0 (bO b (y*4+1)) bK ?_);obtain⟨c1,t1,-,-,-⟩:=g3 _ _ o9 (by rw[bN];exact hyb);rw[eg]at c1;replace c1:(iL 2 (bO b (y*4+1))).run pQ w9=.ok (gI o[y].cash) w9:=c1;refine cK c1 (cx (λW=>f2 .i64 W) (cK (hlp _ r9) ?_));refine sB ?_;refine cx f3 (Y0 (bO b (y*4+1)) bK ?_);obtain⟨wa,sa,oa,ma⟩:=t1 (IntKind.i64.wrap (o[y].cash - P));apply iE sa;apply VE k;refine hKM _ _ ⟨k+1,_,rfl,qZ,oa,?_,by rw[bN,bN];exact q3,i9.mod ma λb g j=>(j7 b j).2.2 g,r9.mod ma λb g j=>hn6 b g j,M9.on ma λb g=>.inr (j6 b (.inl g))⟩ (by show(mj 0 l).length - (((k+1:Nat):Int)).toNat<(mj 0 l).length - ((k:Int)).toNat;omega);rw[<-q2];have d1:(mj 0 l).drop k=y::(mj 0 l).drop (k+1):=by rw[hy];exact(ci V).symm
   have d2:R.1.drop k=P::R.1.drop (k+1):=by rw[hP];exact(ci hkR).symm
   rw[d1,d2,lC,av hyb];simp only[eg,ke]
  ·have hkl' :k=(mj 0 l).length:=qZ;refine fF V ?_;apply bo (FG (W:=W7) ⟨qZ,qZ⟩)
   have hfin:o=lC (mj 0 l) R.1 (l.map AK):=by
    rw[<-q2,hkl',cn (aD _),lC];intro _ _ _ _ h;cases h
   rw[G,<-hfin]at hK;exact hK F W7 q1 q6 λb g=>j6 b (.inl g)
end Go.Proofs
namespace Go.Proofs
open Go Go.Vc
attribute [local congr] bj
variable {w:Wt_}{K:aZ}
structure Hd where
 acct:Int
 q:Int
def BV(d:Hd):List Value:=[.int .u32 d.acct,gI d.q]
def YF(d:Hd):Value:=.agg (BV d).toArray
def Kw(d:Hd):(BV d).length=2:=rfl
def VB(d:Hd):(BV d).all (·.oneCell')=true:=rfl
def Um:Tryz.prog.underlying 392=some (.slice 394):=cV
def eHd:fY pQ 394 2 16=true:=cV
abbrev HdS(w:Wt_)(sl:Vt_)(l:List Hd):Prop:=ic w 394 2 sl l.length (l.flatMap BV)
def Hd.Fit(d:Hd):Prop:=iU d.acct/\ed d.q
def xV:Int->List Hd->Bool
 |_,[]=>true
 |last,d::l=>decide (last<d.acct)&& aY d.q (-10000000) 10000000&& xV d.acct l
def xq(n:Int):Int:=max n (-n)
def oN(q n:Int):Int:=if decide (0<n)=decide (0<q)then 0 else xq n
def tF(l:List (Hd×Int)):List Hd:=(l.filter λx=>decide (0<x.2)).map λx=>⟨x.1.acct,x.2⟩
def ky(q:Int)(l:List Hd):List Hd×Int:=
 if 64<l.length then([],3)
 else if q=0\/aY q (-10000000) 10000000=false\/xV 0 l=false then([],2)
 else if(l.map λd=>oN q d.q).sum<xq q then([],7)
 else if(fJ (xq q) (l.map λd=>oN q d.q)).2≠0 then([],(fJ (xq q) (l.map λd=>oN q d.q)).2)
 else(tF (l.zip (fJ (xq q) (l.map λd=>oN q d.q)).1),0)
def WV{s:Vt_}{l:List Hd}(h:Rd w 2 s l.length (l.flatMap BV)){i:Nat}(hi:i<l.length):
  ∃b a,(∀W,(iX 392 s (gI (i:Int))).run pQ W=.ok (bO b a) W)/\(iL 394 (bO b a)).run pQ w=.ok (YF l[i]) w/\(iL 45 (bO b a)).run pQ w=.ok (gU l[i].acct) w:=by
 obtain⟨b,a,k,c,g,m⟩:=h.item Kw hi rfl;obtain⟨C,e,n,hC,f⟩:=m.get;have d:=f 0 (gU l[i].acct) rfl;have j:=f 1 (gI l[i].q) rfl;simp only[ey,cB]at d j;exact⟨b,a+i*2,λW=>by rw[c];simp[go_sem,hi,bK,Um],by simp[go_sem,bT hC,d,j,YF,BV],by simp[go_sem,bT hC,d]⟩
def VU(d:Hd)(w:Wt_):∃a c,(iA 394 true (.tuple #[])).run pQ w=.ok (bO w.heap.size 0) a/\(iS 394 (bO w.heap.size 0) (YF d)).run pQ a=.ok () c/\hC c w.heap.size (BV d).toArray 394/\M0 w c:=by
 obtain⟨a,b⟩:=di (w.alloc (.cells #[.int .u32 0,gI 0] 394));have f:M0 w a:=by rw[b];exact(aR.refl _ w).alloc _
 have e:hC a w.heap.size #[.int .u32 0,gI 0] 394:=by rw[b];simp[go_sem]
 refine⟨a,(a.setCell ⟨w.heap.size,0,none⟩ (gU d.acct)).setCell ⟨w.heap.size,1,none⟩ (gI d.q),by rw[b];simp[go_sem],by simp[go_sem,e,YF,BV],by simp[go_sem,e,BV],?_⟩;exact f.on (((aR.refl (λx=>x=w.heap.size) a).sc).sc) λx g=>gr
def Vu{s:Vt_}{l:List Hd}(h:Rd w 2 s l.length (l.flatMap BV))(P:l.length<=1000000)(G:∀d∈l,d.Fit)
  (z:∀v,M0 w v->K (.bool (xV 0 l)) v):Ca pQ 318 #[s] w K:=by
 refine cN Tryz.func318 ?_;obtain⟨a,c,I⟩:=h.isSl;apply iI (gI (l.length:Int)) w (by rw[I];simp[go_sem])
 refine d8 (λst W=>∃(i:Nat) (last:Int) (x:Vt_),i<=l.length/\st=(x,gU last,gI i,())/\M0 w W/\xV 0 l=xV last (l.drop i))
  (λst _=>match st.2.2.1 with| .int _ i=>l.length - i.toNat|_=>0) ⟨0,0,_,qZ,rfl,rZ,rfl⟩ ?_
 rintro⟨_,_,_,_⟩ W ⟨i,last,x,O,⟨⟩,n,e⟩ N o;refine lV ?_;intro _;by_cases j:i<l.length
 ·have k:(i:Int)<(l.length:Int):=qZ;refine dY k ?_;obtain⟨b,F,J,E,-⟩:=WV (h.mod n d9) j;refine bo (J _) (bo E ?_);obtain⟨M,L,A,B,g,H⟩:=VU l[i] W;obtain⟨q,D⟩:=di W.heap.size;rw[<-D]at A B g;refine bo A (iE B ?_);obtain⟨d,u⟩:=di (l[i]);rw[<-u]at g;have p:=G d (by grind);have f:l.drop i=d::l.drop (i+1):=by rw[u];exact(ci j).symm
  rw[f,xV]at e;unfold BV at g;have C:=n.trans H;refine cT.at (λst t=>st=(.bool (!(decide (last<d.acct)&& aY d.q (-10000000) 10000000)),())/\t=L) ?_ ?_
  ·refine dI ?_;refine dN g ?_;by_cases h1:d.acct<=last
   ·refine dY h1 ?_
    exact⟨by
      have:¬last<d.acct:=qZ;simp[this],rfl⟩
   ·refine fF h1 ?_;have r:last<d.acct:=qZ;refine dI ?_;refine dN g ?_;apply gM p.2 qZ;refine dI ?_;exact⟨by simp[r],rfl⟩
  rintro _ t ⟨rfl,rfl⟩;refine kR ?_;intro _;cases y:(decide (last<d.acct)&& aY d.q (-10000000) 10000000)with
  |false=>
   rw[ay,ae (show(!false)=true from rfl)];rw[y,fE]at e;have m:=z _ C;rw[e]at m;exact m
  |true=>
   rw[ay,aa (by simp)];rw[y,lj]at e;refine dI ?_;refine dN g ?_;apply ao (gI ((i+1:Nat):Int)) t (by simp[go_sem];rw[mR]);exact o _ _ ⟨i+1,_,_,qZ,rfl,C,e⟩ (by grind)
 ·obtain rfl:i=l.length:=qZ;refine eU ?_;rw[cn (aD _),xV]at e;have m:=z _ n;rw[e]at m;exact m
def BA{n:Int}(h: -9223372036854775808<n/\n<9223372036854775808)(a:K (gI (xq n)) w):Ca pQ 319 #[.int .i64 n] w K:=by
 refine cN Tryz.func319 ?_;apply ao (gI (-n)) w (by simp[go_sem];rw[mR]);exact iI (gI (xq n)) w (by simp[go_sem,xq]) a
def HW{n q:Int}{p f:Nat}{T:TypeId}(h: -9223372036854775808<n/\n<9223372036854775808)(b:hC w p #[.int .i64 q] T)(d:hC w f #[.func (.func 319) #[] #[]] 434)
  (a:K (gI (oN q n)) w):Ca pQ 320 #[.int .i64 n,.pointer (some ⟨p,0,none⟩),.pointer (some ⟨f,0,none⟩)] w K:=by
 refine cN Tryz.func320 ?_;refine dI ?_;refine dN b ?_;refine dI ?_;apply ao (.bool (decide (decide (0<n)=decide (0<q)))) w (by by_cases h1:0<n<;>by_cases e:0<q<;>simp[go_sem,h1,e]);unfold oN at a;by_cases c:decide (0<n)=decide (0<q)
 ·rw[oB c];rw[ae c]at a;exact a
 ·rw[ay,aa (by grind)];rw[aa c]at a;refine dN d ?_;simp only[eX];exact BA h a
end Go.Proofs
namespace Go.Proofs
open Go Go.Vc
attribute [local congr] bj
def Hh:∀{l:List Hd} {last:Int},xV last l=true->∀d∈l,-10000000<=d.q/\d.q<=10000000
 |d::l,last,h,x,a=>by
  rw[xV,ai,ai]at h;rcases ax.1 a with rfl|a
  ·exact bE h.1.2
  ·exact Hh h.2 x a
def KL{q n:Int}(h: -10000000<=n/\n<=10000000):0<=oN q n/\oN q n<=10000000:=by
 unfold oN xq;split<;>omega
def MI{w:Wt_}{K:aZ}{s:Vt_}{l:List Hd}{q:Int}(h:Rd w 2 s l.length (l.flatMap BV))(hn:l.length<=100000)(hl:∀d∈l,d.Fit)(X:ed q)
  (hK:∀s' w',HdS w' s' (ky q l).1->M0 w w' ->(∀b,aF s' b->w.heap.size<=b)->K (.tuple #[s',gI (ky q l).2]) w'):Ca pQ 278 #[.int .i64 q,s] w K:=by
 refine cN Tryz.func278 ?_;obtain⟨a,c,hs⟩:=h.isSl;obtain⟨n0,Y⟩:=di w.heap.size;have m1:M0 w (w.alloc (.cells #[.int .i64 q] 2)):=mG;have b1:hC (w.alloc (.cells #[.int .i64 q] 2)) n0 #[.int .i64 q] 2:=by rw[Y];simp[go_sem]
 apply ao (bO n0 0) (w.alloc (.cells #[.int .i64 q] 2)) (by rw[Y];simp[go_sem]);generalize w.alloc (.cells #[.int .i64 q] 2)=w1 at m1 b1|-;have E:∀{W:Wt_},(builtin .len #[392] 3 #[false] #[s]).run pQ W=.ok (.value (gI (l.length:Int))) W:=λ{W}=>by rw[hs];simp[go_sem]
 have bad:∀e W,ky q l=([],e)->M0 w W->K (.tuple #[.slice none 0 0,gI e]) W:=λe W he m=>by
  have hk:=hK (.slice none 0 0) W (by rw[he];exact ic.nil _ _ _) m λb g=>by cases g
  rw[he]at hk;exact hk
 apply uz E;by_cases I:64<l.length
 ·have u:(64:Int)<(l.length:Int):=qZ;refine dY u ?_;exact bad 3 w1 (by unfold ky;rw[ae I]) m1
 have u:¬(64:Int)<(l.length:Int):=qZ;refine fF u ?_;have hd1:=h.mod m1 d9;refine cT.at (λst W=>st=(.bool (decide (q=0\/aY q (-10000000) 10000000=false\/xV 0 l=false)),())/\M0 w1 W) ?_ ?_
 ·refine dN b1 ?_;by_cases H:q=0
  ·refine dY H ?_;exact⟨by grind,rZ⟩
  ·refine fF H ?_;refine dN b1 ?_;apply gM X qZ;cases O:aY q (-10000000) 10000000 with
   |false=>
    refine dY O ?_;exact⟨by simp,rZ⟩
   |true=>
    refine fF O ?_;refine Vu hd1 qZ hl λD m2=>?_;refine dI ?_;exact⟨by cases xV 0 l<;>simp[H],m2⟩
 rintro _ D ⟨rfl,m2⟩;refine kR ?_;intro _;by_cases n:q=0\/aY q (-10000000) 10000000=false\/xV 0 l=false
 ·rw[oB n];exact bad 2 D (by unfold ky;rw[aa I,ae n]) (m1.trans m2)
 rw[ay,aa (by grind)]
 have hqr: -10000000<=q/\q<=10000000:=by
  have:aY q (-10000000) 10000000=true:=by
   cases O:aY q (-10000000) 10000000 with
   |true=>rfl
   |false=>exact absurd (.inr (.inl O)) n
  exact bE this
 have hds:xV 0 l=true:=by
  cases O:xV 0 l with
  |true=>rfl
  |false=>exact absurd (.inr (.inr O)) n
 have v:=Hh hds;obtain⟨C,hf0⟩:=di D.heap.size;have m3:M0 D (D.alloc (.cells #[.nilFunc] 434)):=mG;have b3:hC (D.alloc (.cells #[.nilFunc] 434)) C #[.nilFunc] 434:=by rw[hf0];simp[go_sem]
 apply ao (bO C 0) (D.alloc (.cells #[.nilFunc] 434)) (by rw[hf0];simp[go_sem]);generalize D.alloc (.cells #[.nilFunc] 434)=J at m3 b3|-;apply nE (J.setCell ⟨C,0,none⟩ (.func (.func 319) #[] #[])) (by simp[go_sem];rw[run_store _ _ _ _ _ rfl];simp[go_sem,b3]);have m4:aR (λx=>x=C) J (J.setCell ⟨C,0,none⟩ (.func (.func 319) #[] #[])):=(aR.refl (λx=>x=C) J).sc;have b4:hC (J.setCell ⟨C,0,none⟩ (.func (.func 319) #[] #[])) C #[.func (.func 319) #[] #[]] 434:=by simp[go_sem,b3]
 generalize J.setCell ⟨C,0,none⟩ (.func (.func 319) #[] #[])=w4 at m4 b4|-;have M24:M0 D w4:=m3.on m4 λx hx=>gr;have M4:=(m1.trans m2).trans M24;have c4:=(m2.trans M24).hpk b1 id;apply uz E
 refine d8 (λst W=>∃(i:Nat) (N:Vt_),st=(N,gI (((l.take i).map λd=>oN q d.q).sum),gI i,())/\i<=l.length/\ub W N ((l.take i).map λd=>oN q d.q)/\M0 w4 W/\∀b,aF N b->w4.heap.size<=b)
  (λst _=>match st.2.2.1 with| .int _ i=>l.length - i.toNat|_=>0) ⟨0,.slice none 0 0,by simp,qZ,ic.nil _ _ _,rZ,λb g=>(by cases g)⟩ ?_
 rintro⟨N,_,_,_⟩ W ⟨i,sA0,⟨⟩,hi,j1,j2,j3⟩ KN hKN;refine lV ?_;intro _
 have G:∀i,0<=((l.take i).map λd=>oN q d.q).sum/\((l.take i).map λd=>oN q d.q).sum<=64*10000000:=λi=>by
  have:=sL (l:=(l.take i).map λd=>oN q d.q) (B:=10000000) λx hx=>by
   obtain⟨d,Q,rfl⟩:=aL.1 hx;exact KL (v d (bF Q))
  rw[ah,az]at this;omega
 by_cases T:i<l.length
 ·have hlt' :(i:Int)<(l.length:Int):=qZ;refine dY hlt' ?_;obtain⟨b,off,e1,e2,-⟩:=WV ((h.mod M4 d9).mod j2 d9) T;refine bo (e1 _) (bo e2 ?_);obtain⟨wv,w5,v1,v2,U,v4⟩:=VU l[i] W;obtain⟨p,hp0⟩:=di W.heap.size;rw[<-hp0]at v1 v2 U;refine bo v1 (iE v2 ?_);obtain⟨d,Q⟩:=di (l[i]);rw[<-Q]at U;have hdr:=v d (by grind);have htk:l.take (i+1)=l.take i++[d]:=by rw[Q];exact bR T
  unfold BV at U;refine dI ?_;refine dN U ?_;simp only[eX];have J2:=j2.trans v4;apply HW ⟨qZ,qZ⟩ (J2.hpk c4 id) (J2.hpk b4 id);have own5:ub w5 N ((l.take i).map λd=>oN q d.q):=j1.mod v4 d9;refine wj (x:=oN q d.q) (f:=t8) xQ (dB VN) (λ_=>rfl) vA rfl own5 (by grind) qZ λsA' F M m6 n6=>?_;have hpA:∀b,aF N b->b<p:=λb g=>by rw[hp0];exact j1.lt g
  have c6:=m6.hpk U λg=>by grind
  have J6:=J2.on m6 λb g=>.inr (j3 b g);refine dI ?_;refine dN c6 ?_;apply HW ⟨qZ,qZ⟩ (J6.hpk c4 id) (J6.hpk b4 id);have V:((l.take (i+1)).map λd=>oN q d.q).sum=((l.take i).map λd=>oN q d.q).sum+oN q d.q:=by rw[htk];simp
  have hb1:=G i;have hb2:=G (i+1);obtain⟨S0,z⟩:=di (((l.take i).map λd=>oN q d.q).sum);rw[<-z]at hb1 V|-;apply ao (gI (S0+oN q d.q)) F (by simp[go_sem];rw[mR]);apply ao (gI ((i+1:Nat):Int)) F (by simp[go_sem];rw[mR]);have hs5:=J2.size;refine hKN _ _ ⟨i+1,sA',by rw[V],qZ,?_,J6,λb g=>(n6 b g).elim (j3 b) λh' =>qZ⟩ (by grind);have e:((l.take (i+1)).map λd=>oN q d.q)=((l.take i).map λd=>oN q d.q)++[oN q d.q]:=by rw[htk];simp
  rw[e];exact M
 ·obtain rfl:i=l.length:=qZ;refine eU ?_;have hb0:=G l.length;rw[aK]at j1 hb0|-;have d4:=j2.hpk c4 id;have e4:=j2.hpk b4 id;refine dN e4 ?_;refine dN d4 ?_;simp only[eX];apply BA ⟨qZ,qZ⟩;obtain⟨S0,z⟩:=di ((l.map λd=>oN q d.q).sum);obtain⟨A,hA⟩:=di (xq q);have hAb:0<=A/\A<=10000000:=by rw[hA];unfold xq;omega
  have MW:=M4.trans j2
  have y:ky q l=if S0<A then([],7)else if(fJ A (l.map λd=>oN q d.q)).2≠0 then([],(fJ A (l.map λd=>oN q d.q)).2)else(tF (l.zip (fJ A (l.map λd=>oN q d.q)).1),0):=by
   unfold ky;rw[aa I,aa n,<-z,<-hA]
  rw[<-z,<-hA];by_cases r:S0<A
  ·refine dY r ?_;exact bad 7 W (by grind) MW
  refine fF r ?_;rw[aa r]at y;refine dN e4 ?_;refine dN d4 ?_;simp only[eX];apply BA ⟨qZ,qZ⟩;rw[<-hA]
  refine Hl j1.rd (λx hx=>by
   obtain⟨d,Q,rfl⟩:=aL.1 hx;have:=KL (q:=q) (v d Q);constructor<;>omega) ⟨qZ,qZ⟩ (by grind) λv76 F M m6 n6=>?_
  obtain⟨R,hR⟩:=di (fJ A (l.map λd=>oN q d.q));rw[<-hR]at M y|-;obtain⟨va,vc,hva,-⟩:=M.isSl;have M6:=MW.trans m6;apply ao v76 F (by rw[hva];simp[go_sem]);refine dI ?_;by_cases t:R.2=0
  case neg=>
   refine dY t ?_;exact bad R.2 F (by grind) M6
  refine fF t ?_;rw[aa (by simpa using t)]at y
  have hRl:R.1.length=l.length:=by
   rw[hR]at t|-;rw[wM t,ah]
  apply iI (gI (R.1.length:Int)) F (by rw[hva];simp[go_sem]);have hzl:(l.zip R.1).length=l.length:=by grind
  have hs6:=M6.size
  refine d8 (λst W2=>∃(k:Nat) (L:Vt_),st=(L,gI k,())/\k<=l.length/\HdS W2 L (tF ((l.zip R.1).take k))/\M0 F W2/\∀b,aF L b->F.heap.size<=b)
   (λst _=>match st.2.1 with| .int _ k=>l.length - k.toNat|_=>0) ⟨0,.slice none 0 0,rfl,qZ,ic.nil _ _ _,rZ,λb g=>(by cases g)⟩ ?_
  rintro⟨L,_,_⟩ Z ⟨k,sO0,⟨⟩,hk,q1,P,q3⟩ KM hKM;refine lV ?_;intro _
  have hpl:(tF ((l.zip R.1).take k)).length<=64:=by
   unfold tF;rw[ah];apply ck (bh _ _);rw[az];omega
  by_cases hkl:k<l.length
  ·have j:k<R.1.length:=qZ;refine dY j ?_;obtain⟨p2,f2,g2⟩:=M.el (i:=k) j;have r7:ub Z v76 R.1:=M.mod P d9;refine bo (f2 .i64 Z) (bo (g2 _ _ r7 j).1 ?_)
   have S:(l.zip R.1).take (k+1)=(l.zip R.1).take k++[(l[k],R.1[k])]:=by
    rw[bR qZ,List.getElem_zip]
   by_cases o:0<R.1[k]
   ·refine dY o ?_;obtain⟨b,off,e1,-,e3⟩:=WV ((h.mod M6 d9).mod P d9) hkl;apply bo (e1 _);refine dN bK ?_;apply bo e3;apply ao (YF ⟨l[k].acct,R.1[k]⟩) Z (by simp[go_sem,YF,BV]);refine wj (x:=(⟨l[k].acct,R.1[k]⟩:Hd)) (f:=BV) Um (dB eHd) Kw VB rfl q1 qZ qZ λsO' w8 o8 m8 n8=>?_;apply ao (gI ((k+1:Nat):Int)) w8 (by simp[go_sem];rw[mR]);have hs7:=P.size;refine hKM _ _ ⟨k+1,sO',rfl,qZ,?_,P.on m8 λb g=>.inr (q3 b g),λb g=>(n8 b g).elim (q3 b) λh' =>qZ⟩ (by grind)
    have e:tF ((l.zip R.1).take (k+1))=tF ((l.zip R.1).take k)++[⟨l[k].acct,R.1[k]⟩]:=by
     rw[S];unfold tF;rw[cy,aM,bL (by simpa using o)];rfl
    rw[e];exact o8
   ·refine fF o ?_;apply ao (gI ((k+1:Nat):Int)) Z (by simp[go_sem];rw[mR]);refine hKM _ _ ⟨k+1,L,rfl,qZ,?_,P,q3⟩ (by grind)
    have e:tF ((l.zip R.1).take (k+1))=tF ((l.zip R.1).take k):=by
     rw[S];unfold tF;rw[cy,aM,aV (by simpa using o),eN,gf,aN]
    rw[e];exact q1
  ·have hkn:k=l.length:=qZ;have j:¬k<R.1.length:=qZ;refine fF j ?_;rw[aC qZ]at q1;rw[y]at hK;exact hK L Z q1 (M6.trans P) λb g=>by grind
end Go.Proofs
namespace Go.Proofs
open Go Go.Vc
attribute [local congr] bj
def lP(l:List Int)(q:Int):Int:=l.foldl (λm s=>max m (-q*s)) 0
def Gh(l:List Int)(x q:Int):lP (l++[x]) q=max (lP l q) (-q*x):=by
 unfold lP;rw[iV];rfl
def Eb{a b A B:Int}(h1: -A<=a/\a<=A)(f: -B<=b/\b<=B): -(A*B)<=a*b/\a*b<=A*B:=by
 have e:0<=A:=qZ;have c:0<=B:=qZ;have d:a.natAbs*b.natAbs<=A.natAbs*B.natAbs:=fT qZ qZ;rw[<-Int.natAbs_mul,<-Int.natAbs_mul]at d;have g:0<=A*B:=jw e c;omega
def H8{s:Vector Int 16}{q:Int}{w:Wt_}{K:aZ}(hs:∀x∈s.toList,-10000000<=x/\x<=10000000)(v: -1000000000<=q/\q<=1000000000)
  (t:∀k,M0 w k->K (gI (lP s.toList q)) k):Ca pQ 373 #[.agg (vD s).toArray,gI q] w K:=by
 refine cN Tryz.func373 ?_;have m:M0 w (w.alloc (.cells (vD s).toArray 46)):=mG;apply ao (bO w.heap.size 0) (w.alloc (.cells (vD s).toArray 46)) rfl;have j:hC (w.alloc (.cells (vD s).toArray 46)) w.heap.size (vD s).toArray 46:=by simp[go_sem]
 generalize w.alloc (.cells (vD s).toArray 46)=o at m j|-;apply fH (vD s) 15 WO Xf (nt _) (At.all j);have C:s.toList.length=16:=by simp
 refine d8 (λst W=>∃i:Nat,i<=16/\st=(gI (lP (s.toList.take i) q),gI i,())/\W=o)
  (λst _=>match st.2.1 with| .int _ i=>16 - i.toNat|_=>0) ⟨0,qZ,rfl,rfl⟩ ?_
 rintro⟨_,_,_⟩ W ⟨i,D,⟨⟩,rfl⟩ u g;refine lV ?_;intro _;by_cases d:i<16
 ·have f:(i:Int)<16:=qZ;have c:i<s.toList.length:=qZ;refine dY f ?_;apply ao (gI s.toList[i]!) W (qx uSh U3 Tg U5 d (Au _ i d));rw[fI s.toList i c];have n:=hs _ (aq c);obtain⟨y,l⟩:=di (s.toList[i]);rw[<-l]at n|-;have p:=Eb (a:= -q) (b:=y) (A:=1000000000) (B:=10000000) qZ n;apply ao (gI (-q)) W (by simp[go_sem];rw[mR]);obtain⟨z,h⟩:=di (-q*y);rw[<-h]at p;apply ao (gI z) W (by simp only[go_sem];simp;rw[<-h,mR]);refine IF ?_;apply ao (gI ((i+1:Nat):Int)) W (by simp[go_sem];rw[mR]);refine g _ _ ⟨i+1,qZ,?_,rfl⟩ (by grind);have e:=bR c;rw[e,Gh,<-l,<-h]
 ·obtain rfl:i=16:=qZ;refine eU ?_;have r:=t _ m;have e:s.toList.take 16=s.toList:=aC qZ;rw[e];exact r
def ww(s:Vector Int 16)(q:Int):Int×Int:=
 if s.toList.all (λx=>aY x (-10000000) 10000000)=false\/aY q (-1000000000) 1000000000=false then(0,2)else(lP s.toList q,0)
def Vm{s:Vector Int 16}{q:Int}{w:Wt_}{K:aZ}(hs:∀x∈s.toList,ed x)(u:ed q)
  (n:∀p,M0 w p->K (.tuple #[.int .i64 (ww s q).1,gI (ww s q).2]) p):Ca pQ 375 #[.agg (vD s).toArray,gI q] w K:=by
 refine cN Tryz.func375 ?_;have l:M0 w (w.alloc (.cells (vD s).toArray 46)):=mG;apply ao (bO w.heap.size 0) (w.alloc (.cells (vD s).toArray 46)) rfl;have j:hC (w.alloc (.cells (vD s).toArray 46)) w.heap.size (vD s).toArray 46:=by simp[go_sem]
 obtain⟨B,o⟩:=di w.heap.size;rw[<-o]at j|-;generalize w.alloc (.cells (vD s).toArray 46)=r at l j|-;apply fH (vD s) 15 WO Xf (nt _) (At.all j);have C:s.toList.length=16:=by simp
 refine d8 (λst W=>∃(i:Nat) (x y:Vt_),i<=16/\st=(x,y,gI i,())/\W=r/\(s.toList.take i).all (λx=>aY x (-10000000) 10000000)=true)
  (λst _=>match st.2.2.1 with| .int _ i=>16 - i.toNat|_=>0) ⟨0,_,_,qZ,rfl,rfl,rfl⟩ ?_
 rintro⟨_,_,_,_⟩ W ⟨i,x,y,D,⟨⟩,rfl,a⟩ A m;refine lV ?_;intro _;by_cases f:i<16
 ·have g:(i:Int)<16:=qZ;have c:i<s.toList.length:=qZ;refine dY g ?_;apply ao (gI s.toList[i]!) W (qx uSh U3 Tg U5 f (Au _ i f));rw[fI s.toList i c];apply gM (hs _ (aq c)) qZ;cases k:aY s.toList[i] (-10000000) 10000000 with
  |false=>
   refine dY k ?_;have d:=n _ l
   have e:ww s q=(0,2):=by
    unfold ww;exact ae (.inl (kz.2 ⟨_,aq c,by rw[k];simp⟩))
   rw[e]at d;exact d
  |true=>
   refine fF k ?_;apply ao (gI ((i+1:Nat):Int)) W (by simp[go_sem];rw[mR]);refine m _ _ ⟨i+1,_,_,qZ,rfl,rfl,?_⟩ (by grind);have e:=bR c;rw[e,eB,a,nm,k];rfl
 ·obtain rfl:i=16:=qZ;refine eU ?_;have v:s.toList.take 16=s.toList:=aC qZ;rw[v]at a;apply gM u qZ;cases b:aY q (-1000000000) 1000000000 with
  |false=>
   refine dY b ?_;have d:=n _ l;have e:ww s q=(0,2):=by unfold ww;rw[ae (.inr b)]
   rw[e]at d;exact d
  |true=>
   refine fF b ?_;apply fH (vD s) 15 WO Xf (nt _) (At.all j)
   have e:ww s q=(lP s.toList q,0):=by
    unfold ww;rw[aa];rintro(h|h)
    ·rw[a]at h;cases h
    ·rw[b]at h;cases h
   refine H8 (λx z=>bE (bg.1 a x z)) (bE b) λE t=>?_;have d:=n _ (l.trans t);rw[e]at d;exact d
end Go.Proofs
namespace Go.Proofs
open Go Go.Vc
attribute [local congr] bj
def EC(n:Int):Value:=gQ n
def FK(n:Int):Value:=gI n
def aa4:Tryz.prog.underlying 37=some (.int .u64):=cV
def Qz:rB pQ 37 EC:=rB.int aa4
def GD:Tryz.prog.underlying 243=some (.map 37 3):=cV
def UE:lT pQ 3=some (gI 0):=cV
def sM(sells:Bool):List Int->List Od->Bool
 |_,[]=>true
 |seen,o::l=>o.may&& (o.buy==sells)&& !seen.contains o.num&& sM sells (o.num::seen) l
def JR{w:Wt_}{K:aZ}{s:Vt_}{l:List Od}{sells:Bool}(h:Rd w 5 s l.length (l.flatMap dF))(hn:l.length<=1000000)(hl:∀o∈l,o.Fit)
  (U:∀T,M0 w T->K (.bool (sM sells [] l)) T):Ca pQ 315 #[.bool sells,s] w K:=by
 refine cN Tryz.func315 ?_;obtain⟨m,u⟩:=di w.heap.size;have S:M0 w (w.alloc (.map #[] 0)):=mG;have h1:eM EC FK (w.alloc (.map #[] 0)) m ([]:List (Int×Int)):=by rw[u];exact eM.new w
 apply ao (.map (some m)) (w.alloc (.map #[] 0)) (by rw[u];simp[go_sem]);generalize w.alloc (.map #[] 0)=w1 at S h1|-;obtain⟨a,c,hs⟩:=h.isSl;apply iI (gI (l.length:Int)) w1 (by rw[hs];simp[go_sem])
 refine d8 (λst W=>∃(i:Nat) (x:Vt_) (L:List (Int×Int)) (seen:List Int),i<=l.length/\st=(x,gI i,())/\M0 w W/\eM EC FK W m L/\(∀n,lk L n=if n∈seen then some 1 else none)/\sM sells [] l=sM sells seen (l.drop i))
  (λst _=>match st.2.1 with| .int _ i=>l.length - i.toNat|_=>0) ⟨0,_,[],[],qZ,rfl,S,h1,λn=>by simp[lk],rfl⟩ ?_
 rintro⟨_,_,_⟩ W ⟨i,x,L,seen,hi,⟨⟩,F,R,G,j⟩ KN C;refine lV ?_;intro _;by_cases k:i<l.length
 ·have z:(i:Int)<(l.length:Int):=qZ;refine dY z ?_;obtain⟨b,D,cap,H,M,Z⟩:=(h.mod F d9).item dV k rfl;apply ao (bO b (D+i*5)) W (by rw[H];simp[go_sem,k,bK,ik]);apply bo (lE (o:=l[i]) Z);obtain⟨w2,e2,V,m2⟩:=jY W;apply bo e2;obtain⟨q,hq⟩:=di W.heap.size;rw[<-hq]at V|-;obtain⟨O,e3,A,m3⟩:=jE (o' :=l[i]) V;apply iE e3;obtain⟨o,N⟩:=di (l[i]);rw[<-N]at A;have p:l.drop i=o::l.drop (i+1):=by rw[N];exact(ci k).symm
  rw[p,sM]at j;have I:M0 W O:=m2.on m3 λb d=>gr;refine cT.at (λst W' =>st=(.bool (!(o.may&& (o.buy==sells)&& !seen.contains o.num)),())/\M0 O W') ?_ ?_
  ·apply bo (lE (o:=o) (At.all A));refine vS λy e=>?_;have r:=e.hpk A id;unfold dF at r;cases P:o.may with
   |false=>
    refine lh ?_;exact⟨by simp,e⟩
   |true=>
    refine eU ?_;refine dI ?_;refine dN r ?_;by_cases d:o.buy=sells
    ·apply ao (.bool false) y (by rw[d];cases sells<;>simp[go_sem]);rw[jO];refine dI ?_;refine dN r ?_;have f:=(R.mod I id).mod e id;apply xC (enc:=EC) (ev:=FK) (x:=o.num) (gI 0) GD Qz UE (.inr ⟨m,rfl,f⟩);rw[G];by_cases g:o.num∈seen
     ·rw[ae g];apply ao (.bool true) y (by simp[go_sem,FK]);exact⟨by simp[d,g],e⟩
     ·rw[aa g];refine dI ?_;exact⟨by simp[d,g],e⟩
    ·apply ao (.bool true) y (by cases ho2:o.buy<;>cases sells<;>simp_all[go_sem]);rw[kJ];exact⟨by simp[d],e⟩
  rintro _ y ⟨rfl,e⟩;refine kR ?_;intro _;have Q:=(F.trans I).trans e;cases d:(o.may&& (o.buy==sells)&& !seen.contains o.num)with
  |false=>
   rw[ay,ae (show(!false)=true from rfl)];rw[d,fE]at j;have t:=U _ Q;rw[j]at t;exact t
  |true=>
   rw[ay,aa (by simp)];rw[d,lj]at j
   have J:o.num ∉ seen:=by
    simp only[ai,Bool.not_eq_true',List.contains_eq_mem,fy]at d;exact d.2
   have r:=e.hpk A id;unfold dF at r;refine dI ?_;refine dN r ?_;have f:=(R.mod I id).mod e id;apply xC (enc:=EC) (ev:=FK) (x:=o.num) (gI 0) GD Qz UE (.inr ⟨m,rfl,f⟩);rw[G,aa J];apply ao (FK 1) y (by simp[go_sem,FK];decide);refine gZ (enc:=EC) (ev:=FK) (x:=o.num) (v:=1) GD Qz f λw5 E X Y=>?_;apply ao (gI ((i+1:Nat):Int)) w5 (by simp[go_sem];rw[mR]);refine C _ _ ⟨i+1,_,_,o.num::seen,qZ,rfl,Q.on X λb d=>gr,E,λn=>?_,j⟩ (by grind);rw[lm,G];by_cases B:o.num=n
   ·subst B;simp
   ·grind
 ·obtain rfl:i=l.length:=qZ;refine eU ?_;rw[cn (aD _),sM]at j;have t:=U _ F;rw[j]at t;exact t
end Go.Proofs
namespace Go.Proofs
open Go Go.Vc
attribute [local congr] bj
structure Fl where
 num:Int
 acct:Int
 qty:Int
def Me(x:Fl):List Value:=[.int .u64 x.num,gU x.acct,gI x.qty]
def VG(x:Fl):(Me x).length=3:=rfl
def Ti(x:Fl):(Me x).all (·.oneCell')=true:=rfl
def af7:Tryz.prog.underlying 386=some (.slice 390):=cV
def eFl:fY pQ 390 3 24=true:=cV
abbrev FlS(w:Wt_)(sl:Vt_)(l:List Fl):Prop:=ic w 390 3 sl l.length (l.flatMap Me)
def pH(sells:Bool)(a b:Od):Int:=if sells then b.price - a.price else a.price - b.price
def my:Int->List Od->Int->List Fl×Int
 |_,[],pr=>([],pr)
 |qty,b::l,pr=>if min qty b.left=0 then([],pr)else(⟨b.num,b.acct,min qty b.left⟩::(my (qty - min qty b.left) l b.price).1,(my (qty - min qty b.left) l b.price).2)
def jj(sells:Bool)(qty:Int)(l:List Od):Int×List Fl×Int:=
 if 50<l.length then(0,[],3)
 else if qty<1\/10000000<qty\/sM sells [] l=false then(0,[],2)
 else((my qty (Srt.stable (oM (pH sells)) l) 0).2,(my qty (Srt.stable (oM (pH sells)) l) 0).1,0)
def DP:∀{l:List Od} {sells:Bool} {seen:List Int},sM sells seen l=true->∀o∈l,o.may=true
 |o::l,sells,seen,h,x,a=>by
  rw[sM,ai,ai,ai]at h;rcases ax.1 a with rfl|a
  ·exact h.1.1.1
  ·exact DP h.2 x a
def Od.price_bd{o:Od}(h:o.may=true):1<=o.price/\o.price<=10000000:=by
 unfold Od.may aY MP at h;simp only[ai,aS]at h;omega
def Jv{w:Wt_}{K:aZ}{p:Nat}{T:TypeId}{sells:Bool}{x y:Od}(c:hC w p #[.bool sells] T)(t:1<=x.price/\x.price<=10000000)(s:1<=y.price/\y.price<=10000000)
  (k:∀h,M0 w h->K (gI (pH sells x y)) h):Ca pQ 317 #[kx x,kx y,.pointer (some ⟨p,0,none⟩)] w K:=by
 refine cN Tryz.func317 ?_;obtain⟨e,o,f,n⟩:=ux x w;apply bo o;obtain⟨q,j⟩:=di w.heap.size;rw[<-j]at f|-;obtain⟨u,l,b,g⟩:=ux y e;apply bo l;obtain⟨r,m⟩:=di e.heap.size;rw[<-m]at b|-;have d:=g.hpk f id;have M:=n.trans g;have i:=M.hpk c id;unfold dF at d b;have a:=k _ M;unfold pH at a;refine dN i ?_;cases sells with
 |true=>
  rw[kJ];rw[ae rfl]at a;refine dI ?_;refine dN b ?_;refine dI ?_;refine dN d ?_;exact qSi (y.price - x.price) a
 |false=>
  rw[jO];rw[aa dp]at a;refine dI ?_;refine dN d ?_;refine dI ?_;refine dN b ?_;exact qSi (x.price - y.price) a
def RQ{w:Wt_}{K:aZ}{s:Vt_}{l:List Od}{sells:Bool}{qty:Int}(h:Rd w 5 s l.length (l.flatMap dF))(hn:l.length<=1000000)(hl:∀o∈l,o.Fit)(hq64:ed qty)
  (hK:∀u w',FlS w' u (jj sells qty l).2.1->M0 w w' ->(∀b,aF u b->w.heap.size<=b)->K (.tuple #[.int .i64 (jj sells qty l).1,u,gI (jj sells qty l).2.2]) w'):Ca pQ 275 #[.bool sells,gI qty,s] w K:=by
 refine cN Tryz.func275 ?_;obtain⟨a,c,hs⟩:=h.isSl;obtain⟨p,L⟩:=di w.heap.size;have P:M0 w (w.alloc (.cells #[.bool sells] 4)):=mG;have V:hC (w.alloc (.cells #[.bool sells] 4)) p #[.bool sells] 4:=by rw[L];simp[go_sem]
 apply ao (bO p 0) (w.alloc (.cells #[.bool sells] 4)) (by rw[L];simp[go_sem]);generalize w.alloc (.cells #[.bool sells] 4)=w1 at P V|-
 have bad:∀e W,jj sells qty l=(0,[],e)->M0 w W->K (.tuple #[.int .i64 0,.slice none 0 0,gI e]) W:=λe W he m=>by
  have hk:=hK (.slice none 0 0) W (by rw[he];exact ic.nil _ _ _) m λb k=>by cases k
  rw[he]at hk;exact hk
 apply iI (gI (l.length:Int)) w1 (by rw[hs];simp[go_sem]);by_cases A:50<l.length
 ·have j:(50:Int)<(l.length:Int):=qZ;refine dY j ?_;exact bad 3 w1 (by unfold jj;rw[ae A]) P
 have j:¬(50:Int)<(l.length:Int):=qZ;refine fF j ?_;refine cT.at (λst W=>st=(.bool (decide (qty<1\/10000000<qty\/sM sells [] l=false)),())/\M0 w1 W) ?_ ?_
 ·by_cases h1:qty<1
  ·refine dY h1 ?_;exact⟨by grind,rZ⟩
  ·refine fF h1 ?_;by_cases h2:10000000<qty
   ·refine dY h2 ?_;exact⟨by grind,rZ⟩
   ·refine fF h2 ?_;refine dN V ?_;refine JR (h.mod P d9) qZ hl λw2 Q=>?_;refine dI ?_;exact⟨by cases sM sells [] l<;>simp[h1,h2],Q⟩
 rintro _ w2 ⟨rfl,Q⟩;refine kR ?_;intro _;have M2:=P.trans Q;by_cases g:qty<1\/10000000<qty\/sM sells [] l=false
 ·rw[oB g];exact bad 2 w2 (by unfold jj;rw[aa A,ae g]) M2
 rw[ay,aa (by grind)]
 have T:sM sells [] l=true:=by
  cases hw:sM sells [] l with
  |true=>rfl
  |false=>exact absurd (.inr (.inr hw)) g
 have n:=DP T;have b2:=Q.hpk V id;have hpl:=aB b2;refine t6 (h.mod M2 d9) qZ λsl w3 o3 m3 n3=>?_;have b3:=m3.hpk b2 id;refine R1 (cf:=pH sells) o3 qZ ⟨_,_,rfl,λx hx y hy W mW K' hK' =>?_⟩ λD o4 m4=>?_
 ·exact Jv (mW.hpk b3 λk=>by grind) (Od.price_bd (n x hx)) (Od.price_bd (n y hy)) hK'
 have M4:M0 w D:=(M2.trans m3).on m4 λb k=>.inr (by grind);have d:=Srt.stable_perm (oM (pH sells)) l;obtain⟨S,hS⟩:=di (Srt.stable (oM (pH sells)) l);have Y:jj sells qty l=((my qty S 0).2,(my qty S 0).1,0):=by unfold jj;rw[aa A,aa g,hS]
 rw[<-hS]at o4 d;have hSl:=d.length_eq;have hs4:=M4.size;refine cT.at (λst W=>∃x u,st=(x,gI (my qty S 0).2,u,())/\FlS W u (my qty S 0).1/\M0 D W/\∀b,aF u b->D.heap.size<=b) ?_ ?_
 ·obtain⟨sa,sc,Z,-⟩:=o4.isSl;apply iI (gI (S.length:Int)) D (by rw[Z];simp[go_sem])
  refine d8 (λst W=>∃(i:Nat) (q O:Int) (H:Vt_) (F:List Fl),st=(gI q,gI O,H,gI i,())/\i<=S.length/\FlS W H F/\F.length=i/\M0 D W/\(∀b,aF H b->D.heap.size<=b)/\0<=q/\q<=10000000/\F++(my q (S.drop i) O).1=(my qty S 0).1/\(my q (S.drop i) O).2=(my qty S 0).2)
   (λst _=>match st.2.2.2.1 with| .int _ i=>S.length - i.toNat|_=>0) ⟨0,qty,0,.slice none 0 0,[],rfl,qZ,ic.nil _ _ _,rfl,rZ,λb k=>(by cases k),qZ,qZ,rfl,rfl⟩ ?_
  rintro⟨_,_,H,_,_⟩ W ⟨i,q,O,sF0,F,⟨⟩,hi,j1,j2,G,M,j5,j6,v,t⟩ KN X;refine lV ?_;intro _;by_cases I:i<S.length
  ·have J:(i:Int)<(S.length:Int):=qZ;refine dY J ?_;have oW:qT W sl S:=o4.mod G d9;obtain⟨b,cap,hse,R,U⟩:=oW.load I;refine bo (R .i64) (bo U ?_);obtain⟨w5,e5,b5,m5⟩:=jY W;apply bo e5;obtain⟨r,hr⟩:=di W.heap.size;rw[<-hr]at b5|-;obtain⟨C,e6,B,m6⟩:=jE (o' :=S[i]) b5;apply iE e6;obtain⟨o,ho⟩:=di (S[i]);rw[<-ho]at B;have hol:=Od.left_bd (n o (d.mem_iff.1 (by grind)));have N:M0 W C:=m5.on m6 λb k=>gr;have z:S.drop i=o::S.drop (i+1):=by rw[ho];exact(ci I).symm
   rw[z,my]at v t;unfold dF at B;refine dI ?_;refine dN B ?_;refine IF ?_;have f6:FlS C H F:=j1.mod N d9;by_cases hz:min q o.left=0
   ·apply ao (.bool true) C (by simp only[go_sem];simp;omega);rw[kJ];rw[ae hz]at v t;simp only[aN]at v t;exact⟨_,_,by rw[<-t],by grind,G.trans N,M⟩
   ·apply ao (.bool false) C (by simp only[go_sem];simp;omega);rw[jO];rw[aa hz]at v t;obtain⟨E,hmn⟩:=di (min q o.left);have hmb:0<=E/\E<=q:=qZ;rw[<-hmn]at v t|-;refine dI ?_;refine dN B ?_;apply ao (gI (q - E)) C (by simp[go_sem];rw[mR]);refine dI ?_;refine dN B ?_;refine dI ?_;refine dN B ?_;apply ao (.agg (Me ⟨o.num,o.acct,E⟩).toArray) C (by simp[go_sem,Me]);refine wj (x:=(⟨o.num,o.acct,E⟩:Fl)) (f:=Me) af7 (dB eFl) VG Ti rfl f6 qZ qZ λsF' w7 o7 m7 n7=>?_;apply ao (gI ((i+1:Nat):Int)) w7 (by simp[go_sem];rw[mR]);have hs6:=(G.trans N).size;refine X _ _ ⟨i+1,q - E,o.price,sF',_,rfl,qZ,o7,by grind,(G.trans N).on m7 λb k=>.inr (M b k),λb k=>(n7 b k).elim (M b) λh' =>qZ,qZ,qZ,?_,t⟩ (by grind);rw[<-v,ar];rfl
  ·obtain rfl:i=S.length:=qZ;refine eU ?_;rw[cn (aD _),my]at v t;simp only[aN]at v t;exact⟨_,_,by rw[<-t],by grind,G,M⟩
 rintro _ W ⟨x,u,rfl,f1,f2,f3⟩;refine kR ?_;intro _;rw[Y]at hK;exact hK u W f1 (M4.trans f2) λb k=>by grind
end Go.Proofs
namespace Go.Proofs
open Go Go.Vc
attribute [local congr] bj
structure Lg where
 spec:Sp
 q:Int
def uJ(x:Lg):List Value:=eV x.spec++[.int .i64 x.q]
def g9(x:Lg):(uJ x).length=26:=by simp[uJ,br]
def E7(x:Lg):(uJ x).all (·.oneCell')=true:=by rw[uJ,eB,qw];rfl
def lgT(x:Lg)(i:Nat)(h:i<25):(uJ x)[i]? =(eV x.spec)[i]? :=by rw[uJ,cg (by rw[br];omega)]
def Rq(x:Lg):(uJ x)[25]? =some (gI x.q):=by rw[uJ,bp (by rw[br];omega),br];rfl
def ag8(s:Sp):(eV s)[1]? =some (gB s.route):=rfl
def YS(s:Sp):(eV s)[22]? =some (gI s.credit):=by have:=R4 s [];rwa[aN]at this
def ZN:Tryz.prog.underlying 453=some (.slice 412):=cV
def nLg:Tryz.prog.cellsOf 412=25+1:=cV
def aLg:mh pQ 412=true:=cV
def zLg:nj pQ 412=true:=cV
def ah0:(jf pQ 412).length=25+1:=cV
def eLg:fY pQ 412 26 200=true:=cV
abbrev LgS(w:Wt_)(sl:Vt_)(l:List Lg):Prop:=ic w 412 26 sl l.length (l.flatMap uJ)
def V1{W:Wt_}{x:Lg}{K:Value->World->Prop}(c:∀a,hC a W.heap.size (uJ x).toArray 412->M0 W a->K (bO W.heap.size 0) a):
  rx pQ (uK 412) W λv b=>yS pQ (rS 412 v (.agg (uJ x).toArray)) b λa=>K v a:=by
 apply vL 25 zLg nLg (g9 x) ah0 (E7 x);exact c _ (by simp[go_sem]) mG
def Zx{w:Wt_}{s:Vt_}{l:List Lg}(h:Rd w 26 s l.length (l.flatMap uJ)){x:Nat}(e:x<l.length):
  ∃p,(iX 453 s (gI (x:Int))).run pQ w=.ok p w/\(qE 412 p).run pQ w=.ok (.agg (uJ l[x]).toArray) w:=by
 obtain⟨b,a,f,c,d,g⟩:=h.item g9 e rfl;exact⟨.pointer (some ⟨b,a+x*26,none⟩),by rw[c];simp[go_sem,e,bK,ZN],jh aLg nLg (g9 _) g⟩
structure Rt where
 scans:Int
 longs:Int
 shorts:Int
 rate:Int
def I7(r:Rt):List Value:=[.int .i64 r.scans,gI r.longs,gI r.shorts,gI r.rate]
def ua(r:Rt):(I7 r).length=4:=rfl
def Tz:Rt:=⟨0,0,0,0⟩
def ag7:jf pQ 478=(List.replicate 9 Tz).flatMap I7:=cV
def Z2:nj pQ 478=true:=cV
def DJ{α:Type}{f:α->List Value}{S j:Nat}{v:Vt_}{k' :α}(b:∀x,(f x).length=S)(c:j<S):∀(l:List α) (i:Nat) (hi:i<l.length),(f l[i]).set j v=f k' ->(l.flatMap f).set (i*S+j) v=(l.set i k').flatMap f
 |x::l,0,hi,a=>by
  simp only[eW]at a;rw[bm,kp,cX,dX _ _ (by rw[b];omega),a];rfl
 |x::l,i+1,hi,a=>by
  have e:(i+1)*S+j=(f x).length+(i*S+j):=by grind
  rw[bm,e,cI _ _ qZ,fZ,DJ b c l i (by simpa using hi) (by simpa using a)];rfl
def tj{α:Type}{f:α->List Value}{S j:Nat}(b:∀x,(f x).length=S)(c:j<S)(l:List α)(i:Nat)(hi:i<l.length):(l.flatMap f)[i*S+j]? =(f l[i])[j]? :=by
 have d:=lY f S l i (λx _=>b x) hi;have a:(((l.flatMap f).drop (i*S)).take S)[j]? =(f l[i])[j]? :=by rw[d]
 rw[fj,ae c,fl]at a;exact a
def Db(r:Rt)(x:Lg):Rt:=
 ⟨r.scans+lP x.spec.shifts.toList x.q,r.longs+max x.q 0,r.shorts+max (-x.q) 0,if(r.longs=0/\r.shorts=0)\/x.spec.credit<r.rate then x.spec.credit else r.rate⟩
def mM(rs:List Rt)(x:Lg):List Rt:=if x.q=0 then rs else match rs[x.spec.route.toNat]? with|some r=>rs.set x.spec.route.toNat (Db r x)|none=>rs
def zj(x:Lg):Bool:=x.spec.may&& aY x.q (-10000000) 10000000
def zM(rs:List Rt):Int:=(rs.map λr=>max 0 (r.scans - min r.longs r.shorts*r.rate)).sum
def A9:List Int->List Lg->Bool
 |_,[]=>false
 |seen,x::l=>seen.contains x.spec.num||A9 (x.spec.num::seen) l
def jU(l:List Lg):Int×Int:=
 if 16<l.length then(0,3)else if l.all zj=false then(0,2)else if A9 [] l=true then(0,8)else(zM (l.foldl mM (List.replicate 9 Tz)),0)
def Rt.Bd(k:Int)(r:Rt):Prop:=0<=r.scans/\r.scans<=k*100000000000000/\0<=r.longs/\r.longs<=k*10000000/\0<=r.shorts/\r.shorts<=k*10000000/\0<=r.rate/\r.rate<=10000000
def Dx{q:Int}(i: -10000000<=q/\q<=10000000):∀{l:List Int},(∀x∈l,-10000000<=x/\x<=10000000)->0<=lP l q/\lP l q<=100000000000000:=by
 intro l
 have key:∀(l:List Int) (m:Int),(∀x∈l,-10000000<=x/\x<=10000000)->0<=m/\m<=100000000000000->0<=l.foldl (λm s=>max m (-q*s)) m/\l.foldl (λm s=>max m (-q*s)) m<=100000000000000:=by
  intro l;induction l with
  |nil=>intro m _ h;exact h
  |cons x l g=>
   intro m c j;rw[ff];have d:=Eb (a:= -q) (b:=x) (A:=10000000) (B:=10000000) qZ (c x (by simp));obtain⟨z,e⟩:=di (-q*x);rw[<-e]at d|-;exact g _ (λy f=>c y (by simp[f])) qZ
 exact λh=>key l 0 h qZ
def zk{s:Sp}(h:s.may=true):(∀x∈s.shifts.toList,-10000000<=x/\x<=10000000)/\1<=s.route/\s.route<=8/\0<=s.credit/\s.credit<=10000000:=by
 unfold Sp.may at h;simp only[ai]at h;obtain⟨⟨⟨⟨⟨⟨⟨⟨⟨⟨h1,k⟩,n⟩,l⟩,d⟩,g⟩,m⟩,j⟩,i⟩,c⟩,e⟩:=h;refine⟨λx f=>bE (bg.1 h1 x f),?_⟩;have a:=bE d;have b:=bE c;unfold MP at b;omega
def Ru{k:Int}{r:Rt}{x:Lg}(h:r.Bd k)(j:0<=k)(a:zj x=true):(Db r x).Bd (k+1):=by
 unfold zj at a;rw[ai]at a;obtain⟨c,i,d,f,e⟩:=zk a.1;have b:=bE a.2;have o:=Dx b c;obtain⟨h1,g,q,l,n,s,m,p⟩:=h;unfold Db;refine⟨?_,?_,?_,?_,?_,?_,?_,?_⟩<;>dsimp only
 ·omega
 ·omega
 ·omega
 ·omega
 ·omega
 ·omega
 ·split<;>omega
 ·split<;>omega
end Go.Proofs
