/- Part of a proof. -/
import Derived.Test.YtekbnpagidkbbaaGreatQ14
set_option linter.all false
set_option maxRecDepth 100000
set_option maxHeartbeats 1000000
namespace Go.Proofs
open Go Go.Vc
attribute [local congr] aZ
variable {l:List Du}
def DC:∀{l:List Du} {last:Int},Gm last l=true->∀d∈l,d.ok=true
 |d::l,last,h,x,a=>by
  rw[Gm,ao,ao]at h;rcases ar.1 a with rfl|a
  ·exact h.1.2
  ·exact DC h.2 x a
def Du.rng{d:Du}(h:d.ok=true):0<=d.cash/\d.cash<=1000000000000000/\ -100000000000000000<=d.v/\d.v<=100000000000000000:=by
 unfold Du.ok xr aW at h;simp only[ao,aX]at h;omega
def Kq(h:∀d∈l,d.ok=true):0<=(l.map iE).sum/\(l.map iE).sum<=l.length*100000000000000000:=by
 have:=rK (l:=l.map iE) (B:=100000000000000000) λx b=>by
  obtain⟨d,a,rfl⟩:=aL.1 b;have:=Du.rng (h d a);unfold iE;split<;>omega
 rwa[ah]at this
def eSd:gP pQ 374 4 32=true:=cy
def Zl(h:∀d∈l,d.ok=true):(∀x∈kS l,eP x)/\(kS l).length<=l.length:=by
 refine⟨λx b=>?_,by unfold kS;rw[ah];exact bi _ _⟩;obtain⟨d,a,rfl⟩:=aL.1 b;have:=Du.rng (h d (aT.1 a).1);constructor<;>omega
def YF(n:Nat):(madeCells (vY IC).toArray (n*4)).toList=(List.replicate n IC).flatMap vY:=by
 unfold madeCells;rw[Array.toList_map,Array.toList_range];induction n with
 |zero=>rfl
 |succ n a=>
  have e:(n+1)*4=n*4+1+1+1+1:=qZ;rw[e,lu,lu,lu,lu,aM,aM,aM,aM,a,List.replicate_succ',cJ];have c:(n*4)%4=0:=qZ;have h1:(n*4+1)%4=1:=qZ;have b:(n*4+1+1)%4=2:=qZ;have d:(n*4+1+1+1)%4=3:=qZ;simp[vY,IC,c,h1,b,d,aH]
def ac7{w:Wt_}{K:aY}{n:Nat}(g:n<=1000000)(e:∀a c,IG c a (List.replicate n IC)->M0 w c->(∀b,aK a b->w.heap.size<=b)->K a c):
  rx pQ (Da 370 (gI (n:Int)) (gI (n:Int))) w K:=by
 apply JU (z:=Rm IC) V7 (dp eSd) qZ qZ qZ cy;rw[show(n:Int).toNat=n from rfl]
 have d:madeCells (Rm IC).cells (n*4)=((List.replicate n IC).flatMap vY).toArray:=by
  apply kg;rw[show(Rm IC).cells=(vY IC).toArray from rfl];exact YF n
 rw[d];refine e _ _ ?_ kU λb f=>?_
 ·unfold IG;rw[di];exact⟨by rw[tN oo,di],.inr ⟨w.heap.size,n,[],rfl,az _,by rw[ec,ae rfl,bg],by simp,rfl⟩⟩
 ·have:b=w.heap.size:=by cases f;rfl
  omega
def En{x y:Int}{W:Wt_}(h:eP (x - y)):(gx .sub 2 false (gI x) (gI y)).run pQ W=.ok (gI (x - y)) W:=by
 simp[go_sem];rw[fI h.1 h.2]
def vO:∀ix p,(qu ix p).length=p.length
 | [],p=>rfl
 |i::ix,p=>by rw[qu,vO ix,bK]
def vE{t:Int}{l:List Int}(h:(ft t l).2=0):(ft t l).1.length=l.length:=by
 unfold ft at h|-;split at h
 ·cases h
 split at h
 ·cases h
 split at h
 ·cases h
 split at h
 ·grind
 split at h
 ·cases h
 ·rename_i h1 a d b c
  rw[aa h1,aa a,aa d,aa b,aa c];unfold su;rw[vO,ah];unfold oR;rw[ah,ah]
structure StI(w0 W:Wt_)(l:List Du)(i:Nat)(v10 sA sW sP:Vt_):Prop where
 out:IG W v10 ((l.take i).map zy++List.replicate (l.length - i) IC)
 a:te W sA ((l.take i).map (·.v))
 wn:te W sW (kS (l.take i))
 ix:E8 W sP ((lK 0 (l.take i)).map λx:Nat=>(x:Int))
 md:M0 w0 W
 nw:∀b,aK v10 b\/aK sA b\/aK sW b\/aK sP b->w0.heap.size<=b
 d1:∀b,aK v10 b->¬aK sA b/\¬aK sW b/\¬aK sP b
 d2:∀b,aK sA b->¬aK sW b/\¬aK sP b
 d3:∀b,aK sW b->¬aK sP b
def Mz{w:Wt_}{K:aY}{s:Vt_}{fund:Int}(h:Rd w 3 s l.length (l.flatMap I1))(hn:l.length<=100000)(hl:∀d∈l,d.Fit)(hf:eP fund)
  (hK:∀s' w',IG w' s' (gR fund l).1->M0 w w' ->(∀b,aK s' b->w.heap.size<=b)->K (.tuple #[s',gI (gR fund l).2.1,gI (gR fund l).2.2]) w'):Ca pQ 264 #[.int .i64 fund,s] w K:=by
 refine cN Tryz.func264 ?_;obtain⟨a,c,hs⟩:=h.isSl;have S:∀{W:Wt_},(builtin .len #[367] 3 #[false] #[s]).run pQ W=.ok (.value (gI (l.length:Int))) W:=λ{W}=>by rw[hs];simp[go_sem]
 have bad:∀e W,gR fund l=([],0,e)->M0 w W->K (.tuple #[.slice none 0 0,gI 0,gI e]) W:=λe W he m=>by
  have hk:=hK (.slice none 0 0) W (by rw[he];exact gD.nil _ _ _) m λb g=>by cases g
  rw[he]at hk;exact hk
 apply sr S;by_cases h64:64<l.length
 ·have T:(64:Int)<(l.length:Int):=qZ;refine dB T ?_;exact bad 3 w (by unfold gR;rw[ae h64]) oU
 have T:¬(64:Int)<(l.length:Int):=qZ;refine ey T ?_;refine Io h qZ hl λw1 m1=>?_;cases I:qO fund l with
 |false=>
  refine jZ ?_;exact bad 2 w1 (by unfold gR;rw[aa h64,ae I]) m1
 |true=>
 refine eK ?_;have E:=I;unfold qO at E;rw[ao]at E;have hok:=DC E.1;have hfr:=bF E.2;apply sr S;refine ac7 qZ λF w2 o2 m2 n2=>?_;apply sr S;obtain⟨n,hnd⟩:=df l.length;have hs1:=m1.size
 refine d8 (λst W=>∃(i:Nat) (sA sW sP:Vt_),st=(sA,sW,sP,gI (((l.take i).map iE).sum),gI i,())/\i<=l.length/\StI w W l i F sA sW sP)
  (λst _=>match st.2.2.2.2.1 with| .int _ i=>l.length - i.toNat|_=>0) ⟨0,.slice none 0 0,.slice none 0 0,.slice none 0 0,by simp,qZ,?_⟩ ?_
 ·refine⟨by simpa using o2,gD.nil _ _ _,gD.nil _ _ _,gD.nil _ _ _,m1.trans m2,λb g=>?_,λb g=>⟨λh=>(by cases h),λh=>(by cases h),λh=>(by cases h)⟩,λb g=>(by cases g),λb g=>(by cases g)⟩;rcases g with g|g|g|g
  ·have:=n2 b g;omega
  ·cases g
  ·cases g
  ·cases g
 rintro⟨sA,sW,sP,_,_,_⟩ W ⟨i,sA0,sW0,sP0,⟨⟩,hi,t⟩ KN hKN;refine lE ?_;intro _;have hokT:∀d∈l.take i,d.ok=true:=λd hd=>hok d (cE hd);have hmb:=Kq hokT;have htl:(l.take i).length<=64:=by rw[aB];omega
 by_cases hlt:i<l.length
 ·have hlt' :(i:Int)<(l.length:Int):=qZ;refine dB hlt' ?_;obtain⟨p,e1,e2⟩:=Y3 (h.mod t.md dS) hlt;refine bh e1 (bh e2 ?_);obtain⟨wv,w3,v1,v2,v3,v4⟩:=Ug l[i] W;obtain⟨q,hq⟩:=df W.heap.size;rw[<-hq]at v1 v2 v3;refine bh v1 (gg v2 ?_);obtain⟨d,hd⟩:=df (l[i]);rw[<-hd]at v3;have hdl:d∈l:=by rw[hd];exact av hlt
  have hdr:=Du.rng (hok d hdl);have O:l.take (i+1)=l.take i++[d]:=by rw[hd];exact cq hlt
  unfold I1 at v3
  have u:∀b,aK F b\/aK sA b\/aK sW b\/aK sP b->b<q:=λb g=>by
   rw[hq];rcases g with g|g|g|g
   ·exact t.out.lt g
   ·exact t.a.lt g
   ·exact t.wn.lt g
   ·exact t.ix.lt g
  have hq3:=ay v3;refine dq ?_;refine dE v3 ?_;have own3:=t.a.mod v4 dS;refine uZ (x:=d.v) (f:=sZ) wE (dp T4) (λ_=>rfl) uw rfl own3 (by rw[ah];omega) qZ λY w4 o4 m4 n4=>?_;have c4:=m4.hpk v3 λg=>by have:=u _ (.inr (.inl g));omega
  have out4:IG w4 F _:=(t.out.mod v4 dS).mod m4 λb g j=>(t.d1 b g).1 j;have wn4:te w4 sW _:=(t.wn.mod v4 dS).mod m4 λb g j=>(t.d2 b j).1 g;have ix4:E8 w4 sP _:=(t.ix.mod v4 dS).mod m4 λb g j=>(t.d2 b j).2 g;have v:∀b,aK Y b->aK sA b\/q<b:=λb g=>(n4 b g).imp id λ_=>by omega
  refine dq ?_;refine dE c4 ?_;refine dq ?_;refine dE c4 ?_;refine dq ?_;refine dE c4 ?_;apply ax (gI (d.cash+d.v)) w4 (by simp[go_sem];rw[lL]);apply ax (Rm ⟨d.acct,d.cash+d.v,false,0⟩) w4 (by simp[go_sem,Rm,vY]);have hol:((l.take i).map zy++List.replicate (l.length - i) IC).length=l.length:=by rw[ag,ah,aB,di];omega
  obtain⟨b,hbin,f1,g1⟩:=out4.el (i:=i) qZ;apply bh (f1 _);obtain⟨-,-,-,-,t1⟩:=g1 _ _ out4 qZ;obtain⟨w5,s5,o5,m5⟩:=t1 ⟨d.acct,d.cash+d.v,false,0⟩;apply gg s5
  have U:((l.take i).map zy++List.replicate (l.length - i) IC).set i (zy d)=(l.take (i+1)).map zy++List.replicate (l.length - (i+1)) IC:=by
   have e1:=zu (A:=l.map zy) (z:=IC) (n:=l.length) (by simp) hlt;rw[cD,<-hd,<-List.map_take,<-List.map_take]at e1;exact e1
  refine cG.at (λst W' =>st=(gI (((l.take (i+1)).map iE).sum),())/\IG W' F ((l.take (i+1)).map zy++List.replicate (l.length - (i+1)) IC)/\aS (aK F) w4 W') ?_ ?_
  ·obtain⟨g2,t2,t3,-,-⟩:=g1 _ _ o5 (by rw[bK];omega);rw[dY]at g2;replace g2:(iL 2 (bO b (i*4+1))).run pQ w5=.ok (gI (d.cash+d.v)) w5:=g2;apply bh (f1 _);refine dE bD ?_;apply bh g2;have hms:((l.take (i+1)).map iE).sum=((l.take i).map iE).sum+iE d:=by rw[O];simp
   by_cases C:d.cash+d.v<0
   ·refine dB C ?_;apply bh (f1 _);refine dE bD ?_;apply bh g2;have hdm:iE d= -(d.cash+d.v):=by unfold iE;rw[ae C]
    apply bh (En (W:=w5) ⟨qZ,qZ⟩);apply bh (f1 _);refine dE bD ?_;obtain⟨w6,s6,o6,Q⟩:=t2 0;apply gg s6;obtain⟨-,-,t4,-,-⟩:=g1 _ _ o6 (by rw[bK,bK];omega);apply bh (f1 _);refine dE bD ?_;obtain⟨w7,s7,o7,m7⟩:=t4 true;apply gg s7;refine⟨by rw[hms,hdm];congr 2,?_,(m5.trans Q).trans m7⟩;have e:zy d=⟨d.acct,0,true,0⟩:=by unfold zy;rw[ae C]
    rw[<-U,e];simp only[dY,jI]at o7;exact o7
   ·refine ey C ?_;have hdm:iE d=0:=by unfold iE;rw[aa C]
    refine⟨by rw[hms,hdm,ia],?_,m5⟩;have e:zy d=⟨d.acct,d.cash+d.v,false,0⟩:=by unfold zy;rw[aa C]
    rw[<-U,e];exact o5
  rintro _ W5 ⟨rfl,o6,Q⟩;refine jG ?_;intro _;have c6:=Q.hpk c4 λg=>by have:=u _ (.inl g);omega
  have wn6:=wn4.mod Q λb g j=>(t.d1 b j).2.1 g;have ix6:=ix4.mod Q λb g j=>(t.d1 b j).2.2 g
  have a6:=o4.mod Q λb g j=>by
   rcases v b g with r|r
   ·exact(t.d1 b j).1 r
   ·have:=u _ (.inl j);omega
  have hA1:(l.take (i+1)).map (·.v)=(l.take i).map (·.v)++[d.v]:=by rw[O];simp
  rw[<-hA1]at a6;have M6:=((t.md.trans v4).on m4 λb g=>.inr (t.nw b (.inr (.inl g)))).on Q λb g=>.inr (t.nw b (.inl g));have hs46:=Q.size;have hs34:=m4.size;have hqn:w.heap.size<=q:=by rw[hq];exact t.md.size
  refine dq ?_;refine dE c6 ?_;by_cases D:0<d.v
  ·refine dB D ?_;have hwl:(kS (l.take i)).length<=64:=by have:=(Zl hokT).2;omega
   have hil:((lK 0 (l.take i)).map λx:Nat=>(x:Int)).length<=64:=by rw[ah,wF];exact hwl
   refine uZ (x:=(i:Int)) (f:=sZ) Kh (dp XC) (λ_=>rfl) uw rfl ix6 qZ qZ λsP' w8 o8 Z n8=>?_;have X:∀b,aK sP' b->aK sP b\/w4.heap.size<=b:=λb g=>(n8 b g).imp id λ_=>by omega
   have c8:=Z.hpk c6 λg=>by have:=u _ (.inr (.inr (.inr g)));omega
   refine dq ?_;refine dE c8 ?_;have wn8:=wn6.mod Z λb g j=>t.d3 b g j;refine uZ (x:=d.v) (f:=sZ) wE (dp T4) (λ_=>rfl) uw rfl wn8 qZ qZ λsW' w9 o9 m9 n9=>?_;apply TT i;have hs8:=Z.size;have hW' :=n9;have hA4:∀b,aK Y b->b<w4.heap.size:=λb g=>o4.lt g;have hP8:∀b,aK sP' b->b<w8.heap.size:=λb g=>o8.lt g;refine hKN _ _ ⟨i+1,Y,sW',sP',rfl,qZ,?_,?_,?_,?_,?_,?_,?_,?_,?_⟩ (by show l.length - (((i+1:Nat):Int)).toNat<l.length - ((i:Int)).toNat;omega)
   ·exact(o6.mod Z λb g j=>(t.d1 b g).2.2 j).mod m9 λb g j=>(t.d1 b g).2.1 j
   ·refine(a6.mod Z λb g j=>?_).mod m9 λb g j=>?_
    ·rcases v b g with r|r
     ·exact(t.d2 b r).2 j
     ·have:=u _ (.inr (.inr (.inr j)));omega
    ·rcases v b g with r|r
     ·exact(t.d2 b r).1 j
     ·have:=u _ (.inr (.inr (.inl j)));omega
   ·have e:kS (l.take (i+1))=kS (l.take i)++[d.v]:=by rw[O,CU,ae D]
    rw[e];exact o9
   ·have e:(lK 0 (l.take (i+1))).map (λx:Nat=>(x:Int))=(lK 0 (l.take i)).map (λx:Nat=>(x:Int))++[(i:Int)]:=by
     rw[O,zL,ae D,aM,aB,cM,dF hi];rfl
    rw[e];refine o8.mod m9 λb g j=>?_;rcases X b g with r|r
    ·exact t.d3 b j r
    ·have:=u _ (.inr (.inr (.inl j)));omega
   ·exact(M6.on Z λb g=>.inr (t.nw b (.inr (.inr (.inr g))))).on m9 λb g=>.inr (t.nw b (.inr (.inr (.inl g))))
   ·intro b g;rcases g with g|g|g|g
    ·exact t.nw b (.inl g)
    ·rcases v b g with r|r
     ·exact t.nw b (.inr (.inl r))
     ·omega
    ·rcases hW' b g with r|r
     ·exact t.nw b (.inr (.inr (.inl r)))
     ·omega
    ·rcases X b g with r|r
     ·exact t.nw b (.inr (.inr (.inr r)))
     ·omega
   ·intro b g;have hbq:=u b (.inl g);refine⟨λB=>?_,λB=>?_,λB=>?_⟩
    ·rcases v b B with r|r
     ·exact(t.d1 b g).1 r
     ·omega
    ·rcases hW' b B with r|r
     ·exact(t.d1 b g).2.1 r
     ·omega
    ·rcases X b B with r|r
     ·exact(t.d1 b g).2.2 r
     ·omega
   ·intro b g;have hb4:=hA4 b g;refine⟨λB=>?_,λB=>?_⟩
    ·rcases hW' b B with r|r
     ·rcases v b g with J|J
      ·exact(t.d2 b J).1 r
      ·have:=u _ (.inr (.inr (.inl r)));omega
     ·omega
    ·rcases X b B with r|r
     ·rcases v b g with J|J
      ·exact(t.d2 b J).2 r
      ·have:=u _ (.inr (.inr (.inr r)));omega
     ·omega
   ·intro b g B;have h8:=hP8 b B;rcases hW' b g with r|r
    ·rcases X b B with J|J
     ·exact t.d3 b r J
     ·have:=u _ (.inr (.inr (.inl r)));omega
    ·omega
  ·refine ey D ?_;apply TT i;have hA4:∀b,aK Y b->b<w4.heap.size:=λb g=>o4.lt g;refine hKN _ _ ⟨i+1,Y,sW,sP,rfl,qZ,o6,a6,?_,?_,M6,?_,?_,?_,t.d3⟩ (by show l.length - (((i+1:Nat):Int)).toNat<l.length - ((i:Int)).toNat;omega)
   ·have e:kS (l.take (i+1))=kS (l.take i):=by rw[O,CU,aa D,bg]
    rw[e];exact wn6
   ·have e:lK 0 (l.take (i+1))=lK 0 (l.take i):=by rw[O,zL,aa D,bg]
    rw[e];exact ix6
   ·intro b g;rcases g with g|g|g|g
    ·exact t.nw b (.inl g)
    ·rcases v b g with r|r
     ·exact t.nw b (.inr (.inl r))
     ·omega
    ·exact t.nw b (.inr (.inr (.inl g)))
    ·exact t.nw b (.inr (.inr (.inr g)))
   ·intro b g;have hbq:=u b (.inl g);refine⟨λB=>?_,(t.d1 b g).2⟩;rcases v b B with r|r
    ·exact(t.d1 b g).1 r
    ·omega
   ·intro b g;refine⟨λB=>?_,λB=>?_⟩
    ·rcases v b g with J|J
     ·exact(t.d2 b J).1 B
     ·have:=u _ (.inr (.inr (.inl B)));omega
    ·rcases v b g with J|J
     ·exact(t.d2 b J).2 B
     ·have:=u _ (.inr (.inr (.inr B)));omega
 ·obtain rfl:i=l.length:=qZ;refine eK ?_;obtain⟨j1,j2,j3,j4,j5,j6,j7,j8,j9⟩:=t;rw[aV]at j1 j2 j3 j4 hmb;rw[Nat.sub_self,List.replicate_zero,bg]at j1;rw[aV];apply De j2.rd (by rw[ah];omega) (λx B=>by obtain⟨d,hd,rfl⟩:=aL.1 B;exact(hl d hd).2.2);refine dq ?_;refine dq ?_;refine cG.at (λst W' =>st=(.bool (decide ((sm (l.map (·.v))).2≠0\/(sm (l.map (·.v))).1≠0)),())/\W' =W) ?_ ?_
  ·by_cases hc:(sm (l.map (·.v))).2=0
   ·refine ey hc ?_;by_cases hc2:(sm (l.map (·.v))).1=0
    ·refine dE hc2 ?_;exact⟨by rw[br (λh=>h.elim (λh=>h hc) (λh=>h hc2))],rfl⟩
    ·refine tX (.bool true) hc2 ?_;exact⟨by rw[aQ (.inr hc2)],rfl⟩
   ·refine dB hc ?_;exact⟨by rw[aQ (.inl hc)],rfl⟩
  rintro _ W' ⟨rfl,rfl⟩;refine jG ?_;intro _;by_cases L:(sm (l.map (·.v))).2≠0\/(sm (l.map (·.v))).1≠0
  ·rw[mP L];exact bad 130 W' (by unfold gR;rw[aa h64,aa (by rw[I];simp),ae L]) j5
  rw[Hm L];obtain⟨M,hM⟩:=df ((l.map iE).sum)
  have G:gR fund l=if(ft (M - min fund M) (kS l)).2≠0 then([],0,(ft (M - min fund M) (kS l)).2)else(kT (lK 0 l) (ft (M - min fund M) (kS l)).1 (l.map zy),fund - min fund M,0):=by
   unfold gR;rw[aa h64,aa (by rw[I];simp),aa L,hM]
  rw[<-hM]at hmb|-;refine Hn ?_;have hmin:0<=min fund M/\min fund M<=fund/\min fund M<=M:=qZ;apply bh (En (W:=W') ⟨qZ,qZ⟩);have hwr:=Zl hok;refine FA j3.rd hwr.1 ⟨qZ,qZ⟩ qZ λH w6 o6 Q n6=>?_;have M6:=j5.trans Q;obtain⟨R,hR⟩:=df (ft (M - min fund M) (kS l));rw[<-hR]at o6 G|-;obtain⟨va,vc,hva,-⟩:=o6.isSl;apply ax H w6 (by rw[hva];simp[go_sem]);refine dq ?_;by_cases N:R.2=0
  case neg=>
   refine dB N ?_;exact bad R.2 w6 (by rw[G,ae N]) M6
  refine ey N ?_;rw[aa (by simpa using N)]at G;have hRl:R.1.length=(kS l).length:=by rw[hR]at N|-;exact vE N
  have hal:=wF l 0;obtain⟨pa,pc,hpa,-⟩:=j4.isSl;apply iq (gI ((lK 0 l).length:Int)) w6 (by rw[hpa];simp[go_sem]);have hn6:∀b,aK H b->¬aK F b:=λb g j=>by have:=n6 b g;have:=j1.lt j;omega
  refine d8 (λst W2=>∃(k:Nat) (o:List Sd),st=(gI k,())/\k<=(lK 0 l).length/\IG W2 F o/\kT ((lK 0 l).drop k) (R.1.drop k) o=kT (lK 0 l) R.1 (l.map zy)/\o.length=l.length/\E8 W2 sP ((lK 0 l).map λx:Nat=>(x:Int))/\te W2 H R.1/\M0 w W2)
   (λst _=>match st.1 with| .int _ k=>(lK 0 l).length - k.toNat|_=>0) ⟨0,_,rfl,qZ,j1.mod Q dS,rfl,by rw[ah],j4.mod Q dS,o6,M6⟩ ?_
  rintro⟨_,_⟩ W7 ⟨k,o,⟨⟩,hk,q1,q2,q3,q4,q5,q6⟩ KM hKM;refine lE ?_;intro _;by_cases V:k<(lK 0 l).length
  ·refine dB V ?_;obtain⟨y,hy⟩:=df ((lK 0 l)[k])
   have hyb:y<o.length:=by
    have:=wi l 0 y (by rw[hy];exact av _);omega
   obtain⟨p1,f1,g1⟩:=q4.el (i:=k) (by rw[ah];exact V);apply bh (f1 W7);have hly:=(g1 _ _ q4 (by rw[ah];exact V)).1;rw[cD,<-hy]at hly;apply bh hly;obtain⟨p2,f2,g2⟩:=q5.el (i:=k) qZ;have hkR:k<R.1.length:=qZ;obtain⟨P,hP⟩:=df (R.1[k]);have hlp:=λ(W:Wt_) (h:te W H R.1)=>(g2 W _ h hkR).1;rw[<-hP]at hlp;refine bh (f2 .i64 W7) (bh (hlp _ q5) ?_);obtain⟨b,hbin,f3,g3⟩:=q1.el (i:=y) hyb;apply bh (f3 _);refine dE bD ?_;obtain⟨-,-,-,t3,-⟩:=g3 _ _ q1 hyb;obtain⟨w8,s8,o8,Z⟩:=t3 P;apply gg s8;have r8:=q5.mod Z λb g j=>hn6 b g j;have md:M0 w8 w8.drew:=sK;have o9:=o8.mod md dS;have r9:=r8.mod md dS;have i9:=(q4.mod Z λb g j=>(j7 b j).2.2 g).mod md dS;have M9:=(q6.on Z λb g=>.inr (j6 b (.inl g))).trans md;generalize w8.drew=w9 at md o9 r9 i9 M9|-;refine bQ f3 (XJ (bO b (y*4+1)) bD ?_);obtain⟨c1,t1,-,-,-⟩:=g3 _ _ o9 (by rw[bK];exact hyb);rw[dY]at c1;replace c1:(iL 2 (bO b (y*4+1))).run pQ w9=.ok (gI o[y].cash) w9:=c1;refine cK c1 (bQ (λW=>f2 .i64 W) (cK (hlp _ r9) ?_));refine rD ?_;refine bQ f3 (XJ (bO b (y*4+1)) bD ?_);obtain⟨wa,sa,oa,ma⟩:=t1 (IntKind.i64.wrap (o[y].cash - P));apply gg sa;apply TT k;refine hKM _ _ ⟨k+1,_,rfl,qZ,oa,?_,by rw[bK,bK];exact q3,i9.mod ma λb g j=>(j7 b j).2.2 g,r9.mod ma λb g j=>hn6 b g j,M9.on ma λb g=>.inr (j6 b (.inl g))⟩ (by show(lK 0 l).length - (((k+1:Nat):Int)).toNat<(lK 0 l).length - ((k:Int)).toNat;omega);rw[<-q2];have d1:(lK 0 l).drop k=y::(lK 0 l).drop (k+1):=by rw[hy];exact(ce V).symm
   have d2:R.1.drop k=P::R.1.drop (k+1):=by rw[hP];exact(ce hkR).symm
   rw[d1,d2,kT,aq hyb];simp only[dY,jI]
  ·have hkl' :k=(lK 0 l).length:=qZ;refine ey V ?_;apply bh (En (W:=W7) ⟨qZ,qZ⟩)
   have hfin:o=kT (lK 0 l) R.1 (l.map zy):=by
    rw[<-q2,hkl',ck (az _),kT];intro _ _ _ _ h;cases h
   rw[G,<-hfin]at hK;exact hK F W7 q1 q6 λb g=>j6 b (.inl g)
end Go.Proofs
set_option maxRecDepth 100000
set_option maxHeartbeats 1000000
namespace Go.Proofs
open Go Go.Vc
attribute [local congr] aZ
variable {w:Wt_}{K:aY}
structure Hd where
 acct:Int
 q:Int
def AU(d:Hd):List Value:=[.int .u32 d.acct,gI d.q]
def Xc(d:Hd):Value:=.agg (AU d).toArray
def I8(d:Hd):(AU d).length=2:=rfl
def TQ(d:Hd):(AU d).all (·.oneCell')=true:=rfl
def SI:Tryz.prog.underlying 392=some (.slice 394):=cy
def eHd:gP pQ 394 2 16=true:=cy
abbrev HdS(w:Wt_)(sl:Vt_)(l:List Hd):Prop:=gD w 394 2 sl l.length (l.flatMap AU)
def Hd.Fit(d:Hd):Prop:=kV d.acct/\eP d.q
def wJ:Int->List Hd->Bool
 |_,[]=>true
 |last,d::l=>decide (last<d.acct)&& aW d.q (-10000000) 10000000&& wJ d.acct l
def we(n:Int):Int:=max n (-n)
def nY(q n:Int):Int:=if decide (0<n)=decide (0<q)then 0 else we n
def sq(l:List (Hd×Int)):List Hd:=(l.filter λx=>decide (0<x.2)).map λx=>⟨x.1.acct,x.2⟩
def jR(q:Int)(l:List Hd):List Hd×Int:=
 if 64<l.length then([],3)
 else if q=0\/aW q (-10000000) 10000000=false\/wJ 0 l=false then([],2)
 else if(l.map λd=>nY q d.q).sum<we q then([],7)
 else if(ft (we q) (l.map λd=>nY q d.q)).2≠0 then([],(ft (we q) (l.map λd=>nY q d.q)).2)
 else(sq (l.zip (ft (we q) (l.map λd=>nY q d.q)).1),0)
def Vs{s:Vt_}{l:List Hd}(h:Rd w 2 s l.length (l.flatMap AU)){i:Nat}(hi:i<l.length):
  ∃b a,(∀W,(iX 392 s (gI (i:Int))).run pQ W=.ok (bO b a) W)/\(iL 394 (bO b a)).run pQ w=.ok (Xc l[i]) w/\(iL 45 (bO b a)).run pQ w=.ok (gU l[i].acct) w:=by
 obtain⟨b,a,k,c,g,m⟩:=h.item I8 hi rfl;obtain⟨C,e,n,hC,f⟩:=m.get;have d:=f 0 (gU l[i].acct) rfl;have j:=f 1 (gI l[i].q) rfl;simp only[eD,cx]at d j;exact⟨b,a+i*2,λW=>by rw[c];simp[go_sem,hi,bD,SI],by simp[go_sem,bT hC,d,j,Xc,AU],by simp[go_sem,bT hC,d]⟩
def Uh(d:Hd)(w:Wt_):∃a c,(iA 394 true (.tuple #[])).run pQ w=.ok (bO w.heap.size 0) a/\(iS 394 (bO w.heap.size 0) (Xc d)).run pQ a=.ok () c/\hC c w.heap.size (AU d).toArray 394/\M0 w c:=by
 obtain⟨a,b⟩:=df (w.alloc (.cells #[.int .u32 0,gI 0] 394));have f:M0 w a:=by rw[b];exact(aS.refl _ w).alloc _
 have e:hC a w.heap.size #[.int .u32 0,gI 0] 394:=by rw[b];simp[go_sem]
 refine⟨a,(a.setCell ⟨w.heap.size,0,none⟩ (gU d.acct)).setCell ⟨w.heap.size,1,none⟩ (gI d.q),by rw[b];simp[go_sem],by simp[go_sem,e,Xc,AU],by simp[go_sem,e,AU],?_⟩;exact f.on (((aS.refl (λx=>x=w.heap.size) a).sc).sc) λx g=>fM
def TJ{s:Vt_}{l:List Hd}(h:Rd w 2 s l.length (l.flatMap AU))(P:l.length<=1000000)(G:∀d∈l,d.Fit)
  (z:∀v,M0 w v->K (.bool (wJ 0 l)) v):Ca pQ 318 #[s] w K:=by
 refine cN Tryz.func318 ?_;obtain⟨a,c,I⟩:=h.isSl;apply iq (gI (l.length:Int)) w (by rw[I];simp[go_sem])
 refine d8 (λst W=>∃(i:Nat) (last:Int) (x:Vt_),i<=l.length/\st=(x,gU last,gI i,())/\M0 w W/\wJ 0 l=wJ last (l.drop i))
  (λst _=>match st.2.2.1 with| .int _ i=>l.length - i.toNat|_=>0) ⟨0,0,_,qZ,rfl,oU,rfl⟩ ?_
 rintro⟨_,_,_,_⟩ W ⟨i,last,x,O,⟨⟩,n,e⟩ N o;refine lE ?_;intro _;by_cases j:i<l.length
 ·have k:(i:Int)<(l.length:Int):=qZ;refine dB k ?_;obtain⟨b,F,J,E,-⟩:=Vs (h.mod n dS) j;refine bh (J _) (bh E ?_);obtain⟨M,L,A,B,g,H⟩:=Uh l[i] W;obtain⟨q,D⟩:=df W.heap.size;rw[<-D]at A B g;refine bh A (gg B ?_);obtain⟨d,u⟩:=df (l[i]);rw[<-u]at g;have p:=G d (by grind);have f:l.drop i=d::l.drop (i+1):=by rw[u];exact(ce j).symm
  rw[f,wJ]at e;unfold AU at g;have C:=n.trans H;refine cG.at (λst t=>st=(.bool (!(decide (last<d.acct)&& aW d.q (-10000000) 10000000)),())/\t=L) ?_ ?_
  ·refine dq ?_;refine dE g ?_;by_cases h1:d.acct<=last
   ·refine dB h1 ?_
    exact⟨by
      have:¬last<d.acct:=qZ;simp[this],rfl⟩
   ·refine ey h1 ?_;have r:last<d.acct:=qZ;refine dq ?_;refine dE g ?_;apply gF p.2 qZ;refine dq ?_;exact⟨by simp[r],rfl⟩
  rintro _ t ⟨rfl,rfl⟩;refine jG ?_;intro _;cases y:(decide (last<d.acct)&& aW d.q (-10000000) 10000000)with
  |false=>
   rw[aw,ae (show(!false)=true from rfl)];rw[y,fl]at e;have m:=z _ C;rw[e]at m;exact m
  |true=>
   rw[aw,aa (by simp)];rw[y,kH]at e;refine dq ?_;refine dE g ?_;apply ax (gI ((i+1:Nat):Int)) t (by simp[go_sem];rw[lL]);exact o _ _ ⟨i+1,_,_,qZ,rfl,C,e⟩ (by grind)
 ·obtain rfl:i=l.length:=qZ;refine eK ?_;rw[ck (az _),wJ]at e;have m:=z _ n;rw[e]at m;exact m
def AC{n:Int}(h: -9223372036854775808<n/\n<9223372036854775808)(a:K (gI (we n)) w):Ca pQ 319 #[.int .i64 n] w K:=by
 refine cN Tryz.func319 ?_;apply ax (gI (-n)) w (by simp[go_sem];rw[lL]);exact iq (gI (we n)) w (by simp[go_sem,we]) a
def Gx{n q:Int}{p f:Nat}{T:TypeId}(h: -9223372036854775808<n/\n<9223372036854775808)(b:hC w p #[.int .i64 q] T)(d:hC w f #[.func (.func 319) #[] #[]] 434)
  (a:K (gI (nY q n)) w):Ca pQ 320 #[.int .i64 n,.pointer (some ⟨p,0,none⟩),.pointer (some ⟨f,0,none⟩)] w K:=by
 refine cN Tryz.func320 ?_;refine dq ?_;refine dE b ?_;refine dq ?_;apply ax (.bool (decide (decide (0<n)=decide (0<q)))) w (by by_cases h1:0<n<;>by_cases e:0<q<;>simp[go_sem,h1,e]);unfold nY at a;by_cases c:decide (0<n)=decide (0<q)
 ·rw[mP c];rw[ae c]at a;exact a
 ·rw[aw,aa (by grind)];rw[aa c]at a;refine dE d ?_;simp only[fR];exact AC h a
end Go.Proofs
set_option maxRecDepth 100000
set_option maxHeartbeats 1000000
namespace Go.Proofs
open Go Go.Vc
attribute [local congr] aZ
def Fx:∀{l:List Hd} {last:Int},wJ last l=true->∀d∈l,-10000000<=d.q/\d.q<=10000000
 |d::l,last,h,x,a=>by
  rw[wJ,ao,ao]at h;rcases ar.1 a with rfl|a
  ·exact bF h.1.2
  ·exact Fx h.2 x a
def Jn{q n:Int}(h: -10000000<=n/\n<=10000000):0<=nY q n/\nY q n<=10000000:=by
 unfold nY we;split<;>omega
def K8{w:Wt_}{K:aY}{s:Vt_}{l:List Hd}{q:Int}(h:Rd w 2 s l.length (l.flatMap AU))(hn:l.length<=100000)(hl:∀d∈l,d.Fit)(X:eP q)
  (hK:∀s' w',HdS w' s' (jR q l).1->M0 w w' ->(∀b,aK s' b->w.heap.size<=b)->K (.tuple #[s',gI (jR q l).2]) w'):Ca pQ 278 #[.int .i64 q,s] w K:=by
 refine cN Tryz.func278 ?_;obtain⟨a,c,hs⟩:=h.isSl;obtain⟨n0,Y⟩:=df w.heap.size;have m1:M0 w (w.alloc (.cells #[.int .i64 q] 2)):=kU;have b1:hC (w.alloc (.cells #[.int .i64 q] 2)) n0 #[.int .i64 q] 2:=by rw[Y];simp[go_sem]
 apply ax (bO n0 0) (w.alloc (.cells #[.int .i64 q] 2)) (by rw[Y];simp[go_sem]);generalize w.alloc (.cells #[.int .i64 q] 2)=w1 at m1 b1|-;have E:∀{W:Wt_},(builtin .len #[392] 3 #[false] #[s]).run pQ W=.ok (.value (gI (l.length:Int))) W:=λ{W}=>by rw[hs];simp[go_sem]
 have bad:∀e W,jR q l=([],e)->M0 w W->K (.tuple #[.slice none 0 0,gI e]) W:=λe W he m=>by
  have hk:=hK (.slice none 0 0) W (by rw[he];exact gD.nil _ _ _) m λb g=>by cases g
  rw[he]at hk;exact hk
 apply sr E;by_cases I:64<l.length
 ·have u:(64:Int)<(l.length:Int):=qZ;refine dB u ?_;exact bad 3 w1 (by unfold jR;rw[ae I]) m1
 have u:¬(64:Int)<(l.length:Int):=qZ;refine ey u ?_;have hd1:=h.mod m1 dS;refine cG.at (λst W=>st=(.bool (decide (q=0\/aW q (-10000000) 10000000=false\/wJ 0 l=false)),())/\M0 w1 W) ?_ ?_
 ·refine dE b1 ?_;by_cases H:q=0
  ·refine dB H ?_;exact⟨by grind,oU⟩
  ·refine ey H ?_;refine dE b1 ?_;apply gF X qZ;cases O:aW q (-10000000) 10000000 with
   |false=>
    refine dB O ?_;exact⟨by simp,oU⟩
   |true=>
    refine ey O ?_;refine TJ hd1 qZ hl λD m2=>?_;refine dq ?_;exact⟨by cases wJ 0 l<;>simp[H],m2⟩
 rintro _ D ⟨rfl,m2⟩;refine jG ?_;intro _;by_cases n:q=0\/aW q (-10000000) 10000000=false\/wJ 0 l=false
 ·rw[mP n];exact bad 2 D (by unfold jR;rw[aa I,ae n]) (m1.trans m2)
 rw[aw,aa (by grind)]
 have hqr: -10000000<=q/\q<=10000000:=by
  have:aW q (-10000000) 10000000=true:=by
   cases O:aW q (-10000000) 10000000 with
   |true=>rfl
   |false=>exact absurd (.inr (.inl O)) n
  exact bF this
 have hds:wJ 0 l=true:=by
  cases O:wJ 0 l with
  |true=>rfl
  |false=>exact absurd (.inr (.inr O)) n
 have v:=Fx hds;obtain⟨C,hf0⟩:=df D.heap.size;have m3:M0 D (D.alloc (.cells #[.nilFunc] 434)):=kU;have b3:hC (D.alloc (.cells #[.nilFunc] 434)) C #[.nilFunc] 434:=by rw[hf0];simp[go_sem]
 apply ax (bO C 0) (D.alloc (.cells #[.nilFunc] 434)) (by rw[hf0];simp[go_sem]);generalize D.alloc (.cells #[.nilFunc] 434)=J at m3 b3|-;apply pl (J.setCell ⟨C,0,none⟩ (.func (.func 319) #[] #[])) (by simp[go_sem];rw[run_store _ _ _ _ _ rfl];simp[go_sem,b3]);have m4:aS (λx=>x=C) J (J.setCell ⟨C,0,none⟩ (.func (.func 319) #[] #[])):=(aS.refl (λx=>x=C) J).sc;have b4:hC (J.setCell ⟨C,0,none⟩ (.func (.func 319) #[] #[])) C #[.func (.func 319) #[] #[]] 434:=by simp[go_sem,b3]
 generalize J.setCell ⟨C,0,none⟩ (.func (.func 319) #[] #[])=w4 at m4 b4|-;have M24:M0 D w4:=m3.on m4 λx hx=>fM;have M4:=(m1.trans m2).trans M24;have c4:=(m2.trans M24).hpk b1 id;apply sr E
 refine d8 (λst W=>∃(i:Nat) (N:Vt_),st=(N,gI (((l.take i).map λd=>nY q d.q).sum),gI i,())/\i<=l.length/\te W N ((l.take i).map λd=>nY q d.q)/\M0 w4 W/\∀b,aK N b->w4.heap.size<=b)
  (λst _=>match st.2.2.1 with| .int _ i=>l.length - i.toNat|_=>0) ⟨0,.slice none 0 0,by simp,qZ,gD.nil _ _ _,oU,λb g=>(by cases g)⟩ ?_
 rintro⟨N,_,_,_⟩ W ⟨i,sA0,⟨⟩,hi,j1,j2,j3⟩ KN hKN;refine lE ?_;intro _
 have G:∀i,0<=((l.take i).map λd=>nY q d.q).sum/\((l.take i).map λd=>nY q d.q).sum<=64*10000000:=λi=>by
  have:=rK (l:=(l.take i).map λd=>nY q d.q) (B:=10000000) λx hx=>by
   obtain⟨d,Q,rfl⟩:=aL.1 hx;exact Jn (v d (cE Q))
  rw[ah,aB]at this;omega
 by_cases T:i<l.length
 ·have hlt' :(i:Int)<(l.length:Int):=qZ;refine dB hlt' ?_;obtain⟨b,off,e1,e2,-⟩:=Vs ((h.mod M4 dS).mod j2 dS) T;refine bh (e1 _) (bh e2 ?_);obtain⟨wv,w5,v1,v2,U,v4⟩:=Uh l[i] W;obtain⟨p,hp0⟩:=df W.heap.size;rw[<-hp0]at v1 v2 U;refine bh v1 (gg v2 ?_);obtain⟨d,Q⟩:=df (l[i]);rw[<-Q]at U;have hdr:=v d (by grind);have htk:l.take (i+1)=l.take i++[d]:=by rw[Q];exact cq T
  unfold AU at U;refine dq ?_;refine dE U ?_;simp only[fR];have J2:=j2.trans v4;apply Gx ⟨qZ,qZ⟩ (J2.hpk c4 id) (J2.hpk b4 id);have own5:te w5 N ((l.take i).map λd=>nY q d.q):=j1.mod v4 dS;refine uZ (x:=nY q d.q) (f:=sZ) wE (dp T4) (λ_=>rfl) uw rfl own5 (by grind) qZ λsA' F M m6 n6=>?_;have hpA:∀b,aK N b->b<p:=λb g=>by rw[hp0];exact j1.lt g
  have c6:=m6.hpk U λg=>by grind
  have J6:=J2.on m6 λb g=>.inr (j3 b g);refine dq ?_;refine dE c6 ?_;apply Gx ⟨qZ,qZ⟩ (J6.hpk c4 id) (J6.hpk b4 id);have V:((l.take (i+1)).map λd=>nY q d.q).sum=((l.take i).map λd=>nY q d.q).sum+nY q d.q:=by rw[htk];simp
  have hb1:=G i;have hb2:=G (i+1);obtain⟨S0,z⟩:=df (((l.take i).map λd=>nY q d.q).sum);rw[<-z]at hb1 V|-;apply ax (gI (S0+nY q d.q)) F (by simp[go_sem];rw[lL]);apply ax (gI ((i+1:Nat):Int)) F (by simp[go_sem];rw[lL]);have hs5:=J2.size;refine hKN _ _ ⟨i+1,sA',by rw[V],qZ,?_,J6,λb g=>(n6 b g).elim (j3 b) λh' =>qZ⟩ (by grind);have e:((l.take (i+1)).map λd=>nY q d.q)=((l.take i).map λd=>nY q d.q)++[nY q d.q]:=by rw[htk];simp
  rw[e];exact M
 ·obtain rfl:i=l.length:=qZ;refine eK ?_;have hb0:=G l.length;rw[aV]at j1 hb0|-;have d4:=j2.hpk c4 id;have e4:=j2.hpk b4 id;refine dE e4 ?_;refine dE d4 ?_;simp only[fR];apply AC ⟨qZ,qZ⟩;obtain⟨S0,z⟩:=df ((l.map λd=>nY q d.q).sum);obtain⟨A,hA⟩:=df (we q);have hAb:0<=A/\A<=10000000:=by rw[hA];unfold we;omega
  have MW:=M4.trans j2
  have y:jR q l=if S0<A then([],7)else if(ft A (l.map λd=>nY q d.q)).2≠0 then([],(ft A (l.map λd=>nY q d.q)).2)else(sq (l.zip (ft A (l.map λd=>nY q d.q)).1),0):=by
   unfold jR;rw[aa I,aa n,<-z,<-hA]
  rw[<-z,<-hA];by_cases r:S0<A
  ·refine dB r ?_;exact bad 7 W (by grind) MW
  refine ey r ?_;rw[aa r]at y;refine dE e4 ?_;refine dE d4 ?_;simp only[fR];apply AC ⟨qZ,qZ⟩;rw[<-hA]
  refine FA j1.rd (λx hx=>by
   obtain⟨d,Q,rfl⟩:=aL.1 hx;have:=Jn (q:=q) (v d Q);constructor<;>omega) ⟨qZ,qZ⟩ (by grind) λv76 F M m6 n6=>?_
  obtain⟨R,hR⟩:=df (ft A (l.map λd=>nY q d.q));rw[<-hR]at M y|-;obtain⟨va,vc,hva,-⟩:=M.isSl;have M6:=MW.trans m6;apply ax v76 F (by rw[hva];simp[go_sem]);refine dq ?_;by_cases t:R.2=0
  case neg=>
   refine dB t ?_;exact bad R.2 F (by grind) M6
  refine ey t ?_;rw[aa (by simpa using t)]at y
  have hRl:R.1.length=l.length:=by
   rw[hR]at t|-;rw[vE t,ah]
  apply iq (gI (R.1.length:Int)) F (by rw[hva];simp[go_sem]);have hzl:(l.zip R.1).length=l.length:=by grind
  have hs6:=M6.size
  refine d8 (λst W2=>∃(k:Nat) (L:Vt_),st=(L,gI k,())/\k<=l.length/\HdS W2 L (sq ((l.zip R.1).take k))/\M0 F W2/\∀b,aK L b->F.heap.size<=b)
   (λst _=>match st.2.1 with| .int _ k=>l.length - k.toNat|_=>0) ⟨0,.slice none 0 0,rfl,qZ,gD.nil _ _ _,oU,λb g=>(by cases g)⟩ ?_
  rintro⟨L,_,_⟩ Z ⟨k,sO0,⟨⟩,hk,q1,P,q3⟩ KM hKM;refine lE ?_;intro _
  have hpl:(sq ((l.zip R.1).take k)).length<=64:=by
   unfold sq;rw[ah];apply ci (bi _ _);rw[aB];omega
  by_cases hkl:k<l.length
  ·have j:k<R.1.length:=qZ;refine dB j ?_;obtain⟨p2,f2,g2⟩:=M.el (i:=k) j;have r7:te Z v76 R.1:=M.mod P dS;refine bh (f2 .i64 Z) (bh (g2 _ _ r7 j).1 ?_)
   have S:(l.zip R.1).take (k+1)=(l.zip R.1).take k++[(l[k],R.1[k])]:=by
    rw[cq qZ,List.getElem_zip]
   by_cases o:0<R.1[k]
   ·refine dB o ?_;obtain⟨b,off,e1,-,e3⟩:=Vs ((h.mod M6 dS).mod P dS) hkl;apply bh (e1 _);refine dE bD ?_;apply bh e3;apply ax (Xc ⟨l[k].acct,R.1[k]⟩) Z (by simp[go_sem,Xc,AU]);refine uZ (x:=(⟨l[k].acct,R.1[k]⟩:Hd)) (f:=AU) SI (dp eHd) I8 TQ rfl q1 qZ qZ λsO' w8 o8 m8 n8=>?_;apply ax (gI ((k+1:Nat):Int)) w8 (by simp[go_sem];rw[lL]);have hs7:=P.size;refine hKM _ _ ⟨k+1,sO',rfl,qZ,?_,P.on m8 λb g=>.inr (q3 b g),λb g=>(n8 b g).elim (q3 b) λh' =>qZ⟩ (by grind)
    have e:sq ((l.zip R.1).take (k+1))=sq ((l.zip R.1).take k)++[⟨l[k].acct,R.1[k]⟩]:=by
     rw[S];unfold sq;rw[cw,aM,bI (by simpa using o)];rfl
    rw[e];exact o8
   ·refine ey o ?_;apply ax (gI ((k+1:Nat):Int)) Z (by simp[go_sem];rw[lL]);refine hKM _ _ ⟨k+1,L,rfl,qZ,?_,P,q3⟩ (by grind)
    have e:sq ((l.zip R.1).take (k+1))=sq ((l.zip R.1).take k):=by
     rw[S];unfold sq;rw[cw,aM,aU (by simpa using o),eG,fw,bg]
    rw[e];exact q1
  ·have hkn:k=l.length:=qZ;have j:¬k<R.1.length:=qZ;refine ey j ?_;rw[aC qZ]at q1;rw[y]at hK;exact hK L Z q1 (M6.trans P) λb g=>by grind
end Go.Proofs
set_option maxRecDepth 100000
set_option maxHeartbeats 1000000
namespace Go.Proofs
open Go Go.Vc
attribute [local congr] aZ
def lr(l:List Int)(q:Int):Int:=l.foldl (λm s=>max m (-q*s)) 0
def EH(l:List Int)(x q:Int):lr (l++[x]) q=max (lr l q) (-q*x):=by
 unfold lr;rw[iD];rfl
def C8{a b A B:Int}(h1: -A<=a/\a<=A)(f: -B<=b/\b<=B): -(A*B)<=a*b/\a*b<=A*B:=by
 have e:0<=A:=qZ;have c:0<=B:=qZ;have d:a.natAbs*b.natAbs<=A.natAbs*B.natAbs:=fL qZ qZ;rw[<-Int.natAbs_mul,<-Int.natAbs_mul]at d;have g:0<=A*B:=iR e c;omega
def GI{s:Vector Int 16}{q:Int}{w:Wt_}{K:aY}(hs:∀x∈s.toList,-10000000<=x/\x<=10000000)(v: -1000000000<=q/\q<=1000000000)
  (t:∀k,M0 w k->K (gI (lr s.toList q)) k):Ca pQ 373 #[.agg (uy s).toArray,gI q] w K:=by
 refine cN Tryz.func373 ?_;have m:M0 w (w.alloc (.cells (uy s).toArray 46)):=kU;apply ax (bO w.heap.size 0) (w.alloc (.cells (uy s).toArray 46)) rfl;have j:hC (w.alloc (.cells (uy s).toArray 46)) w.heap.size (uy s).toArray 46:=by simp[go_sem]
 generalize w.alloc (.cells (uy s).toArray 46)=o at m j|-;apply fX (uy s) 15 Xf Xg (nG _) (At.all j);have C:s.toList.length=16:=by simp
 refine d8 (λst W=>∃i:Nat,i<=16/\st=(gI (lr (s.toList.take i) q),gI i,())/\W=o)
  (λst _=>match st.2.1 with| .int _ i=>16 - i.toNat|_=>0) ⟨0,qZ,rfl,rfl⟩ ?_
 rintro⟨_,_,_⟩ W ⟨i,D,⟨⟩,rfl⟩ u g;refine lE ?_;intro _;by_cases d:i<16
 ·have f:(i:Int)<16:=qZ;have c:i<s.toList.length:=qZ;refine dB f ?_;apply ax (gI s.toList[i]!) W (rP uSh Wm Vd Wn d (Dg _ i d));rw[fT s.toList i c];have n:=hs _ (av c);obtain⟨y,l⟩:=df (s.toList[i]);rw[<-l]at n|-;have p:=C8 (a:= -q) (b:=y) (A:=1000000000) (B:=10000000) qZ n;apply ax (gI (-q)) W (by simp[go_sem];rw[lL]);obtain⟨z,h⟩:=df (-q*y);rw[<-h]at p;apply ax (gI z) W (by simp only[go_sem];simp;rw[<-h,lL]);refine Hn ?_;apply ax (gI ((i+1:Nat):Int)) W (by simp[go_sem];rw[lL]);refine g _ _ ⟨i+1,qZ,?_,rfl⟩ (by grind);have e:=cq c;rw[e,EH,<-l,<-h]
 ·obtain rfl:i=16:=qZ;refine eK ?_;have r:=t _ m;have e:s.toList.take 16=s.toList:=aC qZ;rw[e];exact r
def vk(s:Vector Int 16)(q:Int):Int×Int:=
 if s.toList.all (λx=>aW x (-10000000) 10000000)=false\/aW q (-1000000000) 1000000000=false then(0,2)else(lr s.toList q,0)
def TB{s:Vector Int 16}{q:Int}{w:Wt_}{K:aY}(hs:∀x∈s.toList,eP x)(u:eP q)
  (n:∀p,M0 w p->K (.tuple #[.int .i64 (vk s q).1,gI (vk s q).2]) p):Ca pQ 375 #[.agg (uy s).toArray,gI q] w K:=by
 refine cN Tryz.func375 ?_;have l:M0 w (w.alloc (.cells (uy s).toArray 46)):=kU;apply ax (bO w.heap.size 0) (w.alloc (.cells (uy s).toArray 46)) rfl;have j:hC (w.alloc (.cells (uy s).toArray 46)) w.heap.size (uy s).toArray 46:=by simp[go_sem]
 obtain⟨B,o⟩:=df w.heap.size;rw[<-o]at j|-;generalize w.alloc (.cells (uy s).toArray 46)=r at l j|-;apply fX (uy s) 15 Xf Xg (nG _) (At.all j);have C:s.toList.length=16:=by simp
 refine d8 (λst W=>∃(i:Nat) (x y:Vt_),i<=16/\st=(x,y,gI i,())/\W=r/\(s.toList.take i).all (λx=>aW x (-10000000) 10000000)=true)
  (λst _=>match st.2.2.1 with| .int _ i=>16 - i.toNat|_=>0) ⟨0,_,_,qZ,rfl,rfl,rfl⟩ ?_
 rintro⟨_,_,_,_⟩ W ⟨i,x,y,D,⟨⟩,rfl,a⟩ A m;refine lE ?_;intro _;by_cases f:i<16
 ·have g:(i:Int)<16:=qZ;have c:i<s.toList.length:=qZ;refine dB g ?_;apply ax (gI s.toList[i]!) W (rP uSh Wm Vd Wn f (Dg _ i f));rw[fT s.toList i c];apply gF (hs _ (av c)) qZ;cases k:aW s.toList[i] (-10000000) 10000000 with
  |false=>
   refine dB k ?_;have d:=n _ l
   have e:vk s q=(0,2):=by
    unfold vk;exact ae (.inl (jS.2 ⟨_,av c,by rw[k];simp⟩))
   rw[e]at d;exact d
  |true=>
   refine ey k ?_;apply ax (gI ((i+1:Nat):Int)) W (by simp[go_sem];rw[lL]);refine m _ _ ⟨i+1,_,_,qZ,rfl,rfl,?_⟩ (by grind);have e:=cq c;rw[e,ek,a,mH,k];rfl
 ·obtain rfl:i=16:=qZ;refine eK ?_;have v:s.toList.take 16=s.toList:=aC qZ;rw[v]at a;apply gF u qZ;cases b:aW q (-1000000000) 1000000000 with
  |false=>
   refine dB b ?_;have d:=n _ l;have e:vk s q=(0,2):=by unfold vk;rw[ae (.inr b)]
   rw[e]at d;exact d
  |true=>
   refine ey b ?_;apply fX (uy s) 15 Xf Xg (nG _) (At.all j)
   have e:vk s q=(lr s.toList q,0):=by
    unfold vk;rw[aa];rintro(h|h)
    ·rw[a]at h;cases h
    ·rw[b]at h;cases h
   refine GI (λx z=>bF (bf.1 a x z)) (bF b) λE t=>?_;have d:=n _ (l.trans t);rw[e]at d;exact d
end Go.Proofs
set_option maxRecDepth 100000
set_option maxHeartbeats 1000000
namespace Go.Proofs
open Go Go.Vc
attribute [local congr] aZ
def Dq(n:Int):Value:=gQ n
def Er(n:Int):Value:=gI n
def YT:Tryz.prog.underlying 37=some (.int .u64):=cy
def OZ:qK pQ 37 Dq:=qK.int YT
def EV:Tryz.prog.underlying 243=some (.map 37 3):=cy
def SZ:lw pQ 3=some (gI 0):=cy
def rL(sells:Bool):List Int->List Od->Bool
 |_,[]=>true
 |seen,o::l=>o.may&& (o.buy==sells)&& !seen.contains o.num&& rL sells (o.num::seen) l
def Iv{w:Wt_}{K:aY}{s:Vt_}{l:List Od}{sells:Bool}(h:Rd w 5 s l.length (l.flatMap dx))(hn:l.length<=1000000)(hl:∀o∈l,o.Fit)
  (U:∀T,M0 w T->K (.bool (rL sells [] l)) T):Ca pQ 315 #[.bool sells,s] w K:=by
 refine cN Tryz.func315 ?_;obtain⟨m,u⟩:=df w.heap.size;have S:M0 w (w.alloc (.map #[] 0)):=kU;have h1:eF Dq Er (w.alloc (.map #[] 0)) m ([]:List (Int×Int)):=by rw[u];exact eF.new w
 apply ax (.map (some m)) (w.alloc (.map #[] 0)) (by rw[u];simp[go_sem]);generalize w.alloc (.map #[] 0)=w1 at S h1|-;obtain⟨a,c,hs⟩:=h.isSl;apply iq (gI (l.length:Int)) w1 (by rw[hs];simp[go_sem])
 refine d8 (λst W=>∃(i:Nat) (x:Vt_) (L:List (Int×Int)) (seen:List Int),i<=l.length/\st=(x,gI i,())/\M0 w W/\eF Dq Er W m L/\(∀n,lk L n=if n∈seen then some 1 else none)/\rL sells [] l=rL sells seen (l.drop i))
  (λst _=>match st.2.1 with| .int _ i=>l.length - i.toNat|_=>0) ⟨0,_,[],[],qZ,rfl,S,h1,λn=>by simp[lk],rfl⟩ ?_
 rintro⟨_,_,_⟩ W ⟨i,x,L,seen,hi,⟨⟩,F,R,G,j⟩ KN C;refine lE ?_;intro _;by_cases k:i<l.length
 ·have z:(i:Int)<(l.length:Int):=qZ;refine dB z ?_;obtain⟨b,D,cap,H,M,Z⟩:=(h.mod F dS).item dP k rfl;apply ax (bO b (D+i*5)) W (by rw[H];simp[go_sem,k,bD,gX]);apply bh (kX (o:=l[i]) Z);obtain⟨w2,e2,V,m2⟩:=jE W;apply bh e2;obtain⟨q,hq⟩:=df W.heap.size;rw[<-hq]at V|-;obtain⟨O,e3,A,m3⟩:=jf (o' :=l[i]) V;apply gg e3;obtain⟨o,N⟩:=df (l[i]);rw[<-N]at A;have p:l.drop i=o::l.drop (i+1):=by rw[N];exact(ce k).symm
  rw[p,rL]at j;have I:M0 W O:=m2.on m3 λb d=>fM;refine cG.at (λst W' =>st=(.bool (!(o.may&& (o.buy==sells)&& !seen.contains o.num)),())/\M0 O W') ?_ ?_
  ·apply bh (kX (o:=o) (At.all A));refine uN λy e=>?_;have r:=e.hpk A id;unfold dx at r;cases P:o.may with
   |false=>
    refine jZ ?_;exact⟨by simp,e⟩
   |true=>
    refine eK ?_;refine dq ?_;refine dE r ?_;by_cases d:o.buy=sells
    ·apply ax (.bool false) y (by rw[d];cases sells<;>simp[go_sem]);rw[ij];refine dq ?_;refine dE r ?_;have f:=(R.mod I id).mod e id;apply wo (enc:=Dq) (ev:=Er) (x:=o.num) (gI 0) EV OZ SZ (.inr ⟨m,rfl,f⟩);rw[G];by_cases g:o.num∈seen
     ·rw[ae g];apply ax (.bool true) y (by simp[go_sem,Er]);exact⟨by simp[d,g],e⟩
     ·rw[aa g];refine dq ?_;exact⟨by simp[d,g],e⟩
    ·apply ax (.bool true) y (by cases ho2:o.buy<;>cases sells<;>simp_all[go_sem]);rw[jV];exact⟨by simp[d],e⟩
  rintro _ y ⟨rfl,e⟩;refine jG ?_;intro _;have Q:=(F.trans I).trans e;cases d:(o.may&& (o.buy==sells)&& !seen.contains o.num)with
  |false=>
   rw[aw,ae (show(!false)=true from rfl)];rw[d,fl]at j;have t:=U _ Q;rw[j]at t;exact t
  |true=>
   rw[aw,aa (by simp)];rw[d,kH]at j
   have J:o.num ∉ seen:=by
    simp only[ao,Bool.not_eq_true',List.contains_eq_mem,fj]at d;exact d.2
   have r:=e.hpk A id;unfold dx at r;refine dq ?_;refine dE r ?_;have f:=(R.mod I id).mod e id;apply wo (enc:=Dq) (ev:=Er) (x:=o.num) (gI 0) EV OZ SZ (.inr ⟨m,rfl,f⟩);rw[G,aa J];apply ax (Er 1) y (by simp[go_sem,Er];decide);refine gL (enc:=Dq) (ev:=Er) (x:=o.num) (v:=1) EV OZ f λw5 E X Y=>?_;apply ax (gI ((i+1:Nat):Int)) w5 (by simp[go_sem];rw[lL]);refine C _ _ ⟨i+1,_,_,o.num::seen,qZ,rfl,Q.on X λb d=>fM,E,λn=>?_,j⟩ (by grind);rw[kJ,G];by_cases B:o.num=n
   ·subst B;simp
   ·grind
 ·obtain rfl:i=l.length:=qZ;refine eK ?_;rw[ck (az _),rL]at j;have t:=U _ F;rw[j]at t;exact t
end Go.Proofs
set_option maxRecDepth 100000
set_option maxHeartbeats 1000000
namespace Go.Proofs
open Go Go.Vc
attribute [local congr] aZ
structure Fl where
 num:Int
 acct:Int
 qty:Int
def Ky(x:Fl):List Value:=[.int .u64 x.num,gU x.acct,gI x.qty]
def TV(x:Fl):(Ky x).length=3:=rfl
def RE(x:Fl):(Ky x).all (·.oneCell')=true:=rfl
def ZL:Tryz.prog.underlying 386=some (.slice 390):=cy
def eFl:gP pQ 390 3 24=true:=cy
abbrev Z0(w:Wt_)(sl:Vt_)(l:List Fl):Prop:=gD w 390 3 sl l.length (l.flatMap Ky)
def oO(sells:Bool)(a b:Od):Int:=if sells then b.price - a.price else a.price - b.price
def lP:Int->List Od->Int->List Fl×Int
 |_,[],pr=>([],pr)
 |qty,b::l,pr=>if min qty b.left=0 then([],pr)else(⟨b.num,b.acct,min qty b.left⟩::(lP (qty - min qty b.left) l b.price).1,(lP (qty - min qty b.left) l b.price).2)
def iJ(sells:Bool)(qty:Int)(l:List Od):Int×List Fl×Int:=
 if 50<l.length then(0,[],3)
 else if qty<1\/10000000<qty\/rL sells [] l=false then(0,[],2)
 else((lP qty (Srt.stable (nX (oO sells)) l) 0).2,(lP qty (Srt.stable (nX (oO sells)) l) 0).1,0)
def CK:∀{l:List Od} {sells:Bool} {seen:List Int},rL sells seen l=true->∀o∈l,o.may=true
 |o::l,sells,seen,h,x,a=>by
  rw[rL,ao,ao,ao]at h;rcases ar.1 a with rfl|a
  ·exact h.1.1.1
  ·exact CK h.2 x a
def Od.price_bd{o:Od}(h:o.may=true):1<=o.price/\o.price<=10000000:=by
 unfold Od.may aW MP at h;simp only[ao,aX]at h;omega
def H9{w:Wt_}{K:aY}{p:Nat}{T:TypeId}{sells:Bool}{x y:Od}(c:hC w p #[.bool sells] T)(t:1<=x.price/\x.price<=10000000)(s:1<=y.price/\y.price<=10000000)
  (k:∀h,M0 w h->K (gI (oO sells x y)) h):Ca pQ 317 #[jQ x,jQ y,.pointer (some ⟨p,0,none⟩)] w K:=by
 refine cN Tryz.func317 ?_;obtain⟨e,o,f,n⟩:=tK x w;apply bh o;obtain⟨q,j⟩:=df w.heap.size;rw[<-j]at f|-;obtain⟨u,l,b,g⟩:=tK y e;apply bh l;obtain⟨r,m⟩:=df e.heap.size;rw[<-m]at b|-;have d:=g.hpk f id;have M:=n.trans g;have i:=M.hpk c id;unfold dx at d b;have a:=k _ M;unfold oO at a;refine dE i ?_;cases sells with
 |true=>
  rw[jV];rw[ae rfl]at a;refine dq ?_;refine dE b ?_;refine dq ?_;refine dE d ?_;exact qSi (y.price - x.price) a
 |false=>
  rw[ij];rw[aa dw]at a;refine dq ?_;refine dE d ?_;refine dq ?_;refine dE b ?_;exact qSi (x.price - y.price) a
def Qj{w:Wt_}{K:aY}{s:Vt_}{l:List Od}{sells:Bool}{qty:Int}(h:Rd w 5 s l.length (l.flatMap dx))(hn:l.length<=1000000)(hl:∀o∈l,o.Fit)(hq64:eP qty)
  (hK:∀u w',Z0 w' u (iJ sells qty l).2.1->M0 w w' ->(∀b,aK u b->w.heap.size<=b)->K (.tuple #[.int .i64 (iJ sells qty l).1,u,gI (iJ sells qty l).2.2]) w'):Ca pQ 275 #[.bool sells,gI qty,s] w K:=by
 refine cN Tryz.func275 ?_;obtain⟨a,c,hs⟩:=h.isSl;obtain⟨p,L⟩:=df w.heap.size;have P:M0 w (w.alloc (.cells #[.bool sells] 4)):=kU;have V:hC (w.alloc (.cells #[.bool sells] 4)) p #[.bool sells] 4:=by rw[L];simp[go_sem]
 apply ax (bO p 0) (w.alloc (.cells #[.bool sells] 4)) (by rw[L];simp[go_sem]);generalize w.alloc (.cells #[.bool sells] 4)=w1 at P V|-
 have bad:∀e W,iJ sells qty l=(0,[],e)->M0 w W->K (.tuple #[.int .i64 0,.slice none 0 0,gI e]) W:=λe W he m=>by
  have hk:=hK (.slice none 0 0) W (by rw[he];exact gD.nil _ _ _) m λb k=>by cases k
  rw[he]at hk;exact hk
 apply iq (gI (l.length:Int)) w1 (by rw[hs];simp[go_sem]);by_cases A:50<l.length
 ·have j:(50:Int)<(l.length:Int):=qZ;refine dB j ?_;exact bad 3 w1 (by unfold iJ;rw[ae A]) P
 have j:¬(50:Int)<(l.length:Int):=qZ;refine ey j ?_;refine cG.at (λst W=>st=(.bool (decide (qty<1\/10000000<qty\/rL sells [] l=false)),())/\M0 w1 W) ?_ ?_
 ·by_cases h1:qty<1
  ·refine dB h1 ?_;exact⟨by grind,oU⟩
  ·refine ey h1 ?_;by_cases h2:10000000<qty
   ·refine dB h2 ?_;exact⟨by grind,oU⟩
   ·refine ey h2 ?_;refine dE V ?_;refine Iv (h.mod P dS) qZ hl λw2 Q=>?_;refine dq ?_;exact⟨by cases rL sells [] l<;>simp[h1,h2],Q⟩
 rintro _ w2 ⟨rfl,Q⟩;refine jG ?_;intro _;have M2:=P.trans Q;by_cases g:qty<1\/10000000<qty\/rL sells [] l=false
 ·rw[mP g];exact bad 2 w2 (by unfold iJ;rw[aa A,ae g]) M2
 rw[aw,aa (by grind)]
 have T:rL sells [] l=true:=by
  cases hw:rL sells [] l with
  |true=>rfl
  |false=>exact absurd (.inr (.inr hw)) g
 have n:=CK T;have b2:=Q.hpk V id;have hpl:=ay b2;refine sX (h.mod M2 dS) qZ λsl w3 o3 m3 n3=>?_;have b3:=m3.hpk b2 id;refine Qt (cf:=oO sells) o3 qZ ⟨_,_,rfl,λx hx y hy W mW K' hK' =>?_⟩ λD o4 m4=>?_
 ·exact H9 (mW.hpk b3 λk=>by grind) (Od.price_bd (n x hx)) (Od.price_bd (n y hy)) hK'
 have M4:M0 w D:=(M2.trans m3).on m4 λb k=>.inr (by grind);have d:=Srt.stable_perm (nX (oO sells)) l;obtain⟨S,hS⟩:=df (Srt.stable (nX (oO sells)) l);have Y:iJ sells qty l=((lP qty S 0).2,(lP qty S 0).1,0):=by unfold iJ;rw[aa A,aa g,hS]
 rw[<-hS]at o4 d;have hSl:=d.length_eq;have hs4:=M4.size;refine cG.at (λst W=>∃x u,st=(x,gI (lP qty S 0).2,u,())/\Z0 W u (lP qty S 0).1/\M0 D W/\∀b,aK u b->D.heap.size<=b) ?_ ?_
 ·obtain⟨sa,sc,Z,-⟩:=o4.isSl;apply iq (gI (S.length:Int)) D (by rw[Z];simp[go_sem])
  refine d8 (λst W=>∃(i:Nat) (q O:Int) (H:Vt_) (F:List Fl),st=(gI q,gI O,H,gI i,())/\i<=S.length/\Z0 W H F/\F.length=i/\M0 D W/\(∀b,aK H b->D.heap.size<=b)/\0<=q/\q<=10000000/\F++(lP q (S.drop i) O).1=(lP qty S 0).1/\(lP q (S.drop i) O).2=(lP qty S 0).2)
   (λst _=>match st.2.2.2.1 with| .int _ i=>S.length - i.toNat|_=>0) ⟨0,qty,0,.slice none 0 0,[],rfl,qZ,gD.nil _ _ _,rfl,oU,λb k=>(by cases k),qZ,qZ,rfl,rfl⟩ ?_
  rintro⟨_,_,H,_,_⟩ W ⟨i,q,O,sF0,F,⟨⟩,hi,j1,j2,G,M,j5,j6,v,t⟩ KN X;refine lE ?_;intro _;by_cases I:i<S.length
  ·have J:(i:Int)<(S.length:Int):=qZ;refine dB J ?_;have oW:qp W sl S:=o4.mod G dS;obtain⟨b,cap,hse,R,U⟩:=oW.load I;refine bh (R .i64) (bh U ?_);obtain⟨w5,e5,b5,m5⟩:=jE W;apply bh e5;obtain⟨r,hr⟩:=df W.heap.size;rw[<-hr]at b5|-;obtain⟨C,e6,B,m6⟩:=jf (o' :=S[i]) b5;apply gg e6;obtain⟨o,ho⟩:=df (S[i]);rw[<-ho]at B;have hol:=Od.left_bd (n o (d.mem_iff.1 (by grind)));have N:M0 W C:=m5.on m6 λb k=>fM;have z:S.drop i=o::S.drop (i+1):=by rw[ho];exact(ce I).symm
   rw[z,lP]at v t;unfold dx at B;refine dq ?_;refine dE B ?_;refine Hn ?_;have f6:Z0 C H F:=j1.mod N dS;by_cases hz:min q o.left=0
   ·apply ax (.bool true) C (by simp only[go_sem];simp;omega);rw[jV];rw[ae hz]at v t;simp only[bg]at v t;exact⟨_,_,by rw[<-t],by grind,G.trans N,M⟩
   ·apply ax (.bool false) C (by simp only[go_sem];simp;omega);rw[ij];rw[aa hz]at v t;obtain⟨E,hmn⟩:=df (min q o.left);have hmb:0<=E/\E<=q:=qZ;rw[<-hmn]at v t|-;refine dq ?_;refine dE B ?_;apply ax (gI (q - E)) C (by simp[go_sem];rw[lL]);refine dq ?_;refine dE B ?_;refine dq ?_;refine dE B ?_;apply ax (.agg (Ky ⟨o.num,o.acct,E⟩).toArray) C (by simp[go_sem,Ky]);refine uZ (x:=(⟨o.num,o.acct,E⟩:Fl)) (f:=Ky) ZL (dp eFl) TV RE rfl f6 qZ qZ λsF' w7 o7 m7 n7=>?_;apply ax (gI ((i+1:Nat):Int)) w7 (by simp[go_sem];rw[lL]);have hs6:=(G.trans N).size;refine X _ _ ⟨i+1,q - E,o.price,sF',_,rfl,qZ,o7,by grind,(G.trans N).on m7 λb k=>.inr (M b k),λb k=>(n7 b k).elim (M b) λh' =>qZ,qZ,qZ,?_,t⟩ (by grind);rw[<-v,aH];rfl
  ·obtain rfl:i=S.length:=qZ;refine eK ?_;rw[ck (az _),lP]at v t;simp only[bg]at v t;exact⟨_,_,by rw[<-t],by grind,G,M⟩
 rintro _ W ⟨x,u,rfl,f1,f2,f3⟩;refine jG ?_;intro _;rw[Y]at hK;exact hK u W f1 (M4.trans f2) λb k=>by grind
end Go.Proofs
namespace Go.Proofs
open Go Go.Vc
attribute [local congr] aZ
structure Lg where
 spec:Sp
 q:Int
def tV(x:Lg):List Value:=fC x.spec++[.int .i64 x.q]
def gM(x:Lg):(tV x).length=26:=by simp[tV,bG]
def DV(x:Lg):(tV x).all (·.oneCell')=true:=by rw[tV,ek,tm];rfl
def ZT(x:Lg)(i:Nat)(h:i<25):(tV x)[i]? =(fC x.spec)[i]? :=by rw[tV,cn (by rw[bG];omega)]
def PV(x:Lg):(tV x)[25]? =some (gI x.q):=by rw[tV,bH (by rw[bG];omega),bG];rfl
def aa6(s:Sp):(fC s)[1]? =some (gB s.route):=rfl
def XA(s:Sp):(fC s)[22]? =some (gI s.credit):=by have:=UO s [];rwa[bg]at this
def Yu:Tryz.prog.underlying 453=some (.slice 412):=cy
def nLg:Tryz.prog.cellsOf 412=25+1:=cy
def aLg:lI pQ 412=true:=cy
def zLg:mG pQ 412=true:=cy
def aa9:(iQ pQ 412).length=25+1:=cy
def eLg:gP pQ 412 26 200=true:=cy
abbrev LgS(w:Wt_)(sl:Vt_)(l:List Lg):Prop:=gD w 412 26 sl l.length (l.flatMap tV)
def Un{W:Wt_}{x:Lg}{K:Value->World->Prop}(c:∀a,hC a W.heap.size (tV x).toArray 412->M0 W a->K (bO W.heap.size 0) a):
  rx pQ (tW 412) W λv b=>vD pQ (oT 412 v (.agg (tV x).toArray)) b λa=>K v a:=by
 apply uH 25 zLg nLg (gM x) aa9 (DV x);exact c _ (by simp[go_sem]) kU
def Yf{w:Wt_}{s:Vt_}{l:List Lg}(h:Rd w 26 s l.length (l.flatMap tV)){x:Nat}(e:x<l.length):
  ∃p,(iX 453 s (gI (x:Int))).run pQ w=.ok p w/\(qm 412 p).run pQ w=.ok (.agg (tV l[x]).toArray) w:=by
 obtain⟨b,a,f,c,d,g⟩:=h.item gM e rfl;exact⟨.pointer (some ⟨b,a+x*26,none⟩),by rw[c];simp[go_sem,e,bD,Yu],fK aLg nLg (gM _) g⟩
structure Rt where
 scans:Int
 longs:Int
 shorts:Int
 rate:Int
def HO(r:Rt):List Value:=[.int .i64 r.scans,gI r.longs,gI r.shorts,gI r.rate]
def td(r:Rt):(HO r).length=4:=rfl
def RT:Rt:=⟨0,0,0,0⟩
def aa5:iQ pQ 478=(List.replicate 9 RT).flatMap HO:=cy
def YI:mG pQ 478=true:=cy
def CG{α:Type}{f:α->List Value}{S j:Nat}{v:Vt_}{k' :α}(b:∀x,(f x).length=S)(c:j<S):∀(l:List α) (i:Nat) (hi:i<l.length),(f l[i]).set j v=f k' ->(l.flatMap f).set (i*S+j) v=(l.set i k').flatMap f
 |x::l,0,hi,a=>by
  simp only[eO]at a;rw[bR,jK,cM,eh _ _ (by rw[b];omega),a];rfl
 |x::l,i+1,hi,a=>by
  have e:(i+1)*S+j=(f x).length+(i*S+j):=by grind
  rw[bR,e,dO _ _ qZ,fS,CG b c l i (by simpa using hi) (by simpa using a)];rfl
def rY{α:Type}{f:α->List Value}{S j:Nat}(b:∀x,(f x).length=S)(c:j<S)(l:List α)(i:Nat)(hi:i<l.length):(l.flatMap f)[i*S+j]? =(f l[i])[j]? :=by
 have d:=lA f S l i (λx _=>b x) hi;have a:(((l.flatMap f).drop (i*S)).take S)[j]? =(f l[i])[j]? :=by rw[d]
 rw[fb,ae c,fe]at a;exact a
def B7(r:Rt)(x:Lg):Rt:=
 ⟨r.scans+lr x.spec.shifts.toList x.q,r.longs+max x.q 0,r.shorts+max (-x.q) 0,if(r.longs=0/\r.shorts=0)\/x.spec.credit<r.rate then x.spec.credit else r.rate⟩
def mh(rs:List Rt)(x:Lg):List Rt:=if x.q=0 then rs else match rs[x.spec.route.toNat]? with|some r=>rs.set x.spec.route.toNat (B7 r x)|none=>rs
def ye(x:Lg):Bool:=x.spec.may&& aW x.q (-10000000) 10000000
def yD(rs:List Rt):Int:=(rs.map λr=>max 0 (r.scans - min r.longs r.shorts*r.rate)).sum
def zW:List Int->List Lg->Bool
 |_,[]=>false
 |seen,x::l=>seen.contains x.spec.num||zW (x.spec.num::seen) l
def jB(l:List Lg):Int×Int:=
 if 16<l.length then(0,3)else if l.all ye=false then(0,2)else if zW [] l=true then(0,8)else(yD (l.foldl mh (List.replicate 9 RT)),0)
def Rt.Bd(k:Int)(r:Rt):Prop:=0<=r.scans/\r.scans<=k*100000000000000/\0<=r.longs/\r.longs<=k*10000000/\0<=r.shorts/\r.shorts<=k*10000000/\0<=r.rate/\r.rate<=10000000
def Cr{q:Int}(i: -10000000<=q/\q<=10000000):∀{l:List Int},(∀x∈l,-10000000<=x/\x<=10000000)->0<=lr l q/\lr l q<=100000000000000:=by
 intro l
 have key:∀(l:List Int) (m:Int),(∀x∈l,-10000000<=x/\x<=10000000)->0<=m/\m<=100000000000000->0<=l.foldl (λm s=>max m (-q*s)) m/\l.foldl (λm s=>max m (-q*s)) m<=100000000000000:=by
  intro l;induction l with
  |nil=>intro m _ h;exact h
  |cons x l g=>
   intro m c j;rw[eV];have d:=C8 (a:= -q) (b:=x) (A:=10000000) (B:=10000000) qZ (c x (by simp));obtain⟨z,e⟩:=df (-q*x);rw[<-e]at d|-;exact g _ (λy f=>c y (by simp[f])) qZ
 exact λh=>key l 0 h qZ
def yf{s:Sp}(h:s.may=true):(∀x∈s.shifts.toList,-10000000<=x/\x<=10000000)/\1<=s.route/\s.route<=8/\0<=s.credit/\s.credit<=10000000:=by
 unfold Sp.may at h;simp only[ao]at h;obtain⟨⟨⟨⟨⟨⟨⟨⟨⟨⟨h1,k⟩,n⟩,l⟩,d⟩,g⟩,m⟩,j⟩,i⟩,c⟩,e⟩:=h;refine⟨λx f=>bF (bf.1 h1 x f),?_⟩;have a:=bF d;have b:=bF c;unfold MP at b;omega
def PY{k:Int}{r:Rt}{x:Lg}(h:r.Bd k)(j:0<=k)(a:ye x=true):(B7 r x).Bd (k+1):=by
 unfold ye at a;rw[ao]at a;obtain⟨c,i,d,f,e⟩:=yf a.1;have b:=bF a.2;have o:=Cr b c;obtain⟨h1,g,q,l,n,s,m,p⟩:=h;unfold B7;refine⟨?_,?_,?_,?_,?_,?_,?_,?_⟩<;>dsimp only
 ·omega
 ·omega
 ·omega
 ·omega
 ·omega
 ·omega
 ·split<;>omega
 ·split<;>omega
end Go.Proofs
