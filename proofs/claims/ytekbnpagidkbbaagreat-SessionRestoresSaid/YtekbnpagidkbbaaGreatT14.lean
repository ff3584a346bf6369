/- Part of a proof. -/
import Derived.Test.YtekbnpagidkbbaaGreatT13
set_option linter.all false
set_option maxRecDepth 100000
set_option maxHeartbeats 4000000
namespace Go.Proofs
open Go Go.Vc Go.Srt
attribute [local congr] bj
def AC{α:Type}{A:List α}{z:α}{n i:Nat}(c:A.length=n)(hi:i<n):(A.take i++List.replicate (n - i) z).set i (A[i]'qZ)=A.take (i+1)++List.replicate (n - (i+1)) z:=by
 have b:(A.take i).length=i:=by grind
 obtain⟨k,a⟩:∃k,n - i=k+1:=⟨n - i - 1,qZ⟩
 rw[cm _ _ qZ,b,Nat.sub_self,a,List.replicate_succ,List.set_cons_zero,show n - (i+1)=k by omega];have e:=bV (l:=A) (i:=i) qZ;rw[e,ag];rfl
def AJ:∀{p:List Int} {k:Nat} (b:k<p.length) (x:Int),(p.set k x).sum=p.sum - p[k]+x
 |a::p,0,_,x=>by simp;omega
 |a::p,k+1,b,x=>by
  have:=AJ (p:=p) (k:=k) (by simpa using b) x;simp only[List.set_cons_succ,bp,io];omega
def Y4{p:List Int}(h:∀x∈p,0<=x):0<=p.sum:=by
 induction p with
 |nil=>simp
 |cons a p b=>
  have e:=b λx c=>h x (by simp[c]);have d:=h a (by simp);rw[bp];omega
def EH:∀{p:List Int},(∀x∈p,0<=x)->∀x∈p,x<=p.sum
 |a::p,h,x,b=>by
  have e:=h a (by simp);have c:∀y∈p,0<=y:=λy d=>h y (by simp[d]);have f:0<=p.sum:=Y4 c;rw[bp];rcases aq.1 b with rfl|b
  ·omega
  ·have:=EH c x b;omega
def K7:∀{p:List Nat} {x:Nat},x∈p->x<=p.sum
 |a::p,x,b=>by
  rw[bp];rcases aq.1 b with rfl|b
  ·omega
  ·have:=K7 b;omega
def sR:∀(ws:List Nat),(ws.map λx:Nat=>(x:Int)).sum=(ws.sum:Int)
 | []=>rfl
 |x::ws=>by rw[aH,bp,bp,sR ws,jx]
def Hk{w:Wt_}{K:be}{s:Vt_}{l:List Int}{t:Int}(h:Rd w 1 s l.length (l.flatMap sj))(hl:∀x∈l,dM x)(ht:dM t)(hn:l.length<=100000)
  (hK:∀s' w',tx w' s' (fq t l).1->M0 w w' ->(∀b,aQ s' b->w.heap.size<=b)->K (.tuple #[s',gI (fq t l).2]) w'):Ca pQ 306 #[.int .i64 t,s] w K:=by
 refine cN Tryz.func306 ?_;obtain⟨a,c,hs⟩:=h.isSl;have A:∀{W:Wt_},(builtin .len #[297] 3 #[false] #[s]).run pQ W=.ok (.value (gI (l.length:Int))) W:=λ{W}=>by rw[hs];simp[go_sem]
 have bad:∀e,fq t l=([],e)->K (.tuple #[.slice none 0 0,gI e]) w:=λe he=>by
  have hk:=hK (.slice none 0 0) w (by rw[he];exact il.nil _ _ _) rC λb d=>by cases d
  rw[he]at hk;exact hk
 apply zw A;by_cases o:1000<l.length
 ·have B:(1000:Int)<(l.length:Int):=qZ;refine ee B ?_;exact bad 3 (by unfold fq;rw[ab o])
 have B:¬(1000:Int)<(l.length:Int):=qZ;refine fH B ?_;refine dU.at (λst W=>st=(.bool (decide (t<0\/(l.any λx=>decide (x<0))=true)),())/\W=w) ?_ ?_
 ·by_cases v:t<0
  ·refine ee v ?_;exact⟨by simp[v],rfl⟩
  ·refine fH v ?_;apply Nm h qZ;refine⟨?_,rfl⟩
   have e:decide (t<0\/(l.any λx=>decide (x<0))=true)=l.any λx=>decide (x<0):=by
    rw[bT,decide_eq_true_iff];exact⟨λh=>h.resolve_left v,.inr⟩
   rw[e]
 rintro _ W ⟨rfl,rfl⟩;refine qk ?_;intro _;by_cases j:t<0\/(l.any λx=>decide (x<0))=true
 ·rw[zZ j];exact bad 2 (by unfold fq;rw[aa o,ab j])
 rw[JV j];apply Ei h qZ hl;by_cases hR:dM l.sum
 case neg=>
  have hs6:sy l=(0,6):=by unfold sy;rw[aa hR]
  rw[hs6];refine dF ?_;refine dF ?_;refine lV ?_;exact bad 6 (by unfold fq;rw[aa o,aa j,ab hR])
 have hs0:sy l=(l.sum,0):=by unfold sy;rw[ab hR]
 rw[hs0];refine dF ?_;refine dF ?_;refine fh ?_;apply zw A;refine mkZ xB Wb (z:=gI 0) cH rfl rfl qZ qZ λE w1 o1 m1 n1=>?_;rw[ZB]at o1
 have o1:tx w1 E (List.replicate l.length 0):=by
  unfold tx;rw[cZ];exact o1
 by_cases v:t=0
 ·refine ee v ?_;have e:fq t l=(List.replicate l.length 0,0):=by unfold fq;rw[aa o,aa j,aa (by simpa using hR),ab v]
  rw[e]at hK;exact hK E w1 o1 m1 n1
 refine fH v ?_;by_cases L:l.sum=0
 ·refine ee L ?_;have e:fq t l=([],10):=by unfold fq;rw[aa o,aa j,aa (by simpa using hR),aa v,ab L]
  rw[e]at hK;exact hK (.slice none 0 0) w1 (il.nil _ _ _) m1 λb d=>by cases d
 refine fH L ?_;have e:fq t l=(sI t.toNat (l.map Int.toNat),0):=by unfold fq;rw[aa o,aa j,aa (by simpa using hR),aa v,aa L]
 rw[e]at hK
 have hnn:∀x∈l,0<=x:=λx D=>by
  apply aS;intro hc;exact j (.inr (ia.2 ⟨x,D,by simp;omega⟩))
 obtain⟨f,hws⟩:=dW (l.map Int.toNat)
 have hlw:l=f.map λx:Nat=>(x:Int):=by
  rw[hws,da]
  conv=>lhs;rw[<-kH l]
  exact dN λx D=>by show x=((x.toNat:Nat):Int);have:=hnn x D;omega
 obtain⟨T,hT⟩:=dW (t.toNat:Nat)
 have htT:t=(T:Int):=by
  have:¬t<0:=λh=>j (.inl h);omega
 have hsw:l.sum=(f.sum:Int):=by rw[hlw,sR]
 obtain⟨S,hS⟩:=dW f.sum;obtain⟨n,hnd⟩:=dW l.length;have hwl:f.length=n:=by rw[hws,af,hnd]
 rw[<-hws,<-hT]at hK;rw[<-hnd]at A o1;have Z:0<S:=qZ
 have hn0:0<n:=by
  apply aS;intro hc;have:f=[]:=jQ qZ;rw[this]at hS;simp at hS;omega
 clear j bad;apply zw A;refine mkZ Ce Oq (z:=gQ 0) cH rfl rfl qZ qZ λrs w2 o2 m2 n2=>?_;rw[ao6]at o2;have o2:Bb w2 rs (List.replicate n 0):=by unfold Bb;rw[cZ];exact o2
 obtain⟨ra,rc,hrs,-⟩:=o2.isSl;obtain⟨M,hvp⟩:=dW w2.heap.size;have m3:M0 w2 (w2.alloc (.cells #[.slice none 0 0] 39)):=nl;have b3:hC (w2.alloc (.cells #[.slice none 0 0] 39)) M #[.slice none 0 0] 39:=by rw[hvp];simp[go_sem]
 apply az (cU M 0) (w2.alloc (.cells #[.slice none 0 0] 39)) (by rw[hvp];simp[go_sem]);generalize w2.alloc (.cells #[.slice none 0 0] 39)=w3 at m3 b3|-;apply nz (w3.setCell ⟨M,0,none⟩ rs) (by rw[hrs];simp[go_sem,b3]);have m4:bn (λx=>x=M) w3 (w3.setCell ⟨M,0,none⟩ rs):=(bn.refl (λx=>x=M) w3).sc;have b4:hC (w3.setCell ⟨M,0,none⟩ rs) M #[rs] 39:=by simp[go_sem,b3]
 generalize w3.setCell ⟨M,0,none⟩ rs=w4 at m4 b4|-;have M24:M0 w2 w4:=m3.on m4 λx D=>gT;rw[htT];apply az (gQ (T:Int)) w4 (by simp[go_sem];rw[RW]);apply zw A;refine mkZ Me ZC (z:=gI 0) cH rfl rfl qZ qZ λos w5 o5 m5 n5=>?_;rw[ZB]at o5;have o5:IE w5 os (List.replicate n 0):=by unfold IE;rw[cZ];exact o5
 apply zw A;have J:∀b,aQ E b->b<w1.heap.size:=λb d=>o1.lt d;have I:∀b,aQ rs b->w1.heap.size<=b/\b<M:=λb d=>⟨n2 b d,by rw[hvp];exact o2.lt d⟩
 have hz4:=aJ b4;have u:∀b,aQ os b->M<b:=λb d=>by have:=n5 b d;omega
 have hs1:=m1.size;have hs2:=m2.size;have hq:=FD Z T (ws:=f) qZ;have ql:(oT T S f).length=n:=by unfold oT;rw[af,hwl]
 have rl:(qz T S f).length=n:=by unfold qz;rw[af,hwl]
 have M15:M0 W w5:=((m1.trans m2).trans M24).trans m5;let m:Nat->Int:=λx=>(x:Int)
 refine iz (λst R=>∃(i left:Nat),st=(gQ (left:Int),gI i,())/\i<=n/\left+(oT T S (f.take i)).sum=T/\tx R E (((oT T S f).map m).take i++List.replicate (n - i) 0)/\Bb R rs (((qz T S f).map m).take i++List.replicate (n - i) 0)/\
   IE R os (((List.range n).map m).take i++List.replicate (n - i) 0)/\hC R M #[rs] 39/\M0 W R)
  (λst _=>match st.2.1 with| .int _ i=>n - i.toNat|_=>0) ⟨0,T,rfl,qZ,by simp[oT],?_,?_,?_,m5.hpk b4 id,M15⟩ ?_
 ·rw[bS,cX,jL];exact o1.mod ((m2.trans M24).trans m5) eI
 ·rw[bS,cX,jL];exact o2.mod (M24.trans m5) eI
 ·rw[bS,cX,jL];exact o5
 rintro⟨_,_,_⟩ W6 ⟨i,left,⟨⟩,hi,hleft,j1,j2,j3,j4,j5⟩ KN hKN;refine rT ?_;intro _;have hcl:((oT T S f).map m).length=n:=by rw[af,ql]
 have hcl2:((qz T S f).map m).length=n:=by rw[af,rl]
 have hcl3:((List.range n).map m).length=n:=by rw[af,List.length_range]
 by_cases G:i<n
 ·have hlt' :(i:Int)<(n:Int):=qZ;have hil:i<l.length:=qZ;have hiw:i<f.length:=qZ;rw[<-hnd]at h;refine ee G ?_;obtain⟨b,off,e1,C,e',fz,hC,hCx⟩:=Kk oD (h.mod j5 eI) hnd xB P3 hil rfl;apply dy (e1 .i64);have hli:l[i]=((f[i]:Nat):Int):=by simp only[hlw,cn]
  obtain⟨x,D⟩:=dW (f[i]);rw[<-D]at hli;have hxS:x<=S:=by rw[D,hS];exact K7 (ar hiw)
  apply az (gI (x:Int)) W6 (by rw[hli]at hCx;simp[go_sem,hC,hCx]);apply az (gQ (T:Int)) W6 (by simp[go_sem];rw[RW]);apply az (gQ (x:Int)) W6 (by simp[go_sem];rw[RW]);apply PK qZ qZ;refine dF ?_;refine dF ?_;rw[hsw,<-hS];apply az (gQ (S:Int)) W6 (by simp[go_sem];rw[RW])
  have hp1:T*x<S*18446744073709551616:=by
   have h1:T*x<=T*S:=lh T hxS;have h2:T*S<18446744073709551616*S:=Nat.mul_lt_mul_of_pos_right qZ Z;rw[eb S];omega
  refine Qq ((gp (show 0<18446744073709551616 by omega)).2 hp1) qZ (fV _ qZ) λQ m7=>?_;rw[nh (T*x) 18446744073709551616];obtain⟨q,Y⟩:=dW (T*x / S);obtain⟨r,hrd⟩:=dW (T*x%S);rw[<-Y,<-hrd]
  have hqT:q<=T:=by
   rw[Y];have:T*x<=S*T:=by rw[eb S];exact lh T hxS
   exact Nat.div_le_of_le_mul this
  refine dF ?_;refine dF ?_;have md:M0 W6 Q.drew:=m7.drew;have k1:tx Q.drew E _:=j1.mod md eI;have k2:Bb Q.drew rs _:=j2.mod md eI;have k3:IE Q.drew os _:=j3.mod md eI;have k4:=md.hpk j4 id;have k5:=j5.trans md
  dsimp only
  generalize Q.drew=W8 at md k1 k2 k3 k4 k5|-;apply mE rs (by rw[hrs]at k4|-;simp[go_sem,k4]);apply mE (gI (q:Int)) (by simp[go_sem];rw[mL]);obtain⟨p1,f1,g1⟩:=k1.el (i:=i) (by rw[ad,av,cZ];omega);obtain⟨p2,f2,g2⟩:=k2.el (i:=i) (by rw[ad,av,cZ];omega);obtain⟨p3,f3,g3⟩:=k3.el (i:=i) (by rw[ad,av,cZ];omega);apply gP (λW=>f1 .i64 W);obtain⟨W9,s1,q1,H⟩:=(g1 _ _ k1 (by rw[ad,av,cZ];omega)).2 (q:Int);apply lO s1;have c4:=H.hpk k4 λd=>by have:=J _ d;omega
  refine⟨by rw[hrs]at c4|-;simp[go_sem,c4],?_⟩;apply gP (λW=>f2 .i64 W);have c2:Bb W9 rs _:=k2.mod H λb d g=>by have:=J _ g;have:=I _ d;omega
  obtain⟨W10,s2,q2,V⟩:=(g2 _ _ c2 (by rw[ad,av,cZ];omega)).2 (r:Int);apply lO s2;apply gP (λW=>f3 W);have c3:IE W10 os _:=(k3.mod H λb d g=>by have:=J _ g;have:=u _ d;omega).mod V λb d g=>by have:=I _ g;have:=u _ d;omega
  obtain⟨W11,s3,q3,X⟩:=(g3 _ _ c3 (by rw[ad,av,cZ];omega)).2 (i:Int);apply lO s3
  have hqs:(oT T S (f.take (i+1))).sum=(oT T S (f.take i)).sum+q:=by
   rw[bV hiw];unfold oT;rw[aK,fK,Y,D];simp
  have hqs2:(oT T S (f.take (i+1))).sum<=T:=FD Z T (by
   rw[hS]
   conv=>rhs;rw[<-ce (i+1) f]
   rw[fK];omega)
  apply az (gQ ((left - q:Nat):Int)) W11 (by simp[go_sem];rw[RW];omega);apply az (gI ((i+1:Nat):Int)) W11 (by simp[go_sem];rw[mL]);refine hKN _ _ ⟨i+1,left - q,rfl,qZ,qZ,?_,?_,?_,?_,?_⟩ (by show n - (((i+1:Nat):Int)).toNat<n - ((i:Int)).toNat;omega)
  ·have e1:((oT T S f).map m)[i]'qZ=(q:Int):=by
    rw[cn];show((_:Nat):Int)=_;unfold oT;rw[cn,Y,D]
   rw[<-AC hcl G,e1];exact(q1.mod V λb d g=>by have:=J _ d;have:=I _ g;omega).mod X λb d g=>by have:=J _ d;have:=u _ g;have:=hz4;omega
  ·have e1:((qz T S f).map m)[i]'qZ=(r:Int):=by
    rw[cn];show((_:Nat):Int)=_;unfold qz;rw[cn,hrd,D]
   rw[<-AC hcl2 G,e1];exact q2.mod X λb d g=>by have:=I _ d;have:=u _ g;omega
  ·have e1:((List.range n).map m)[i]'qZ=(i:Int):=by
    rw[cn];show((_:Nat):Int)=_;rw[List.getElem_range]
   rw[<-AC hcl3 G,e1];exact q3
  ·exact X.hpk (V.hpk c4 λd=>by have:=I _ d;omega) λd=>by have:=u _ d;omega
  ·refine((k5.on H λb d=>.inr (n1 b d)).on V λb d=>.inr ?_).on X λb d=>.inr ?_
   ·have:=I b d;omega
   ·have:=u b d;omega
 have hin:i=n:=qZ;subst hin;have hlt' :¬(i:Int)<(i:Int):=qZ;refine fH hlt' ?_;rw[ay qZ,Nat.sub_self,List.replicate_zero,aC]at j1 j2 j3;rw[ay qZ]at hleft;have N:((List.range i).map m).length=i:=hcl3;refine af2 (cf:=yC (qz T S f)) j3 (by rw[N];omega) ⟨_,_,rfl,λx D y hy R mW K' hK' =>?_⟩ λQ o7 m7=>?_
 ·obtain⟨xi,hxi,rfl⟩:=aD.1 D;obtain⟨yi,hyi,rfl⟩:=aD.1 hy;exact OB (mW.hpk j4 λd=>by have:=u _ d;omega) (j2.mod mW λb d g=>by have:=I _ d;have:=u _ g;omega) (by rw[rl];exact d8.1 hxi) (by rw[rl];exact d8.1 hyi) hK'
 replace o7:IE _ _ _:=o7;have hord:uO (qz T S f)=Srt.stable (qv (yC (qz T S f))) ((List.range i).map m):=by unfold uO;rw[rl]
 rw[<-hord]at o7;have hop:(uO (qz T S f)).Perm ((List.range i).map m):=by rw[hord];exact stable_perm _ _
 have U:(uO (qz T S f)).length=i:=by rw[hop.length_eq,N]
 obtain⟨O,hO⟩:=dW (uO (qz T S f));rw[<-hO]at o7 hop U;have hll:=Iv Z T (ws:=f) hS.symm;have hleft2:left=T - (oT T S f).sum:=qZ;rw[hwl]at hll;obtain⟨ob,F,orest,rfl,oc,oh,orl,or1⟩:=o7.pos qZ;have hk1:tx Q E ((oT T S f).map m):=j1.mod m7 λb d g=>by have:=J _ d;have:=u _ g;omega
 have M7:M0 W Q:=j5.on m7 λb d=>.inr (by have:=u _ d;omega);apply dy (IT Me af8 (show left<=F by omega) qZ Q)
 have hov:IE Q (.slice (some ⟨ob,0,none⟩) left F) (O.take left):=by
  have G:(O.take left).length=left:=by rw[av,U];omega
  refine⟨by rw[tU oD],.inr ⟨ob,F,(O.drop left).flatMap sj++orest,by rw[G],by rw[G];omega,?_,?_,?_⟩⟩
  ·rw[oh,<-ag,<-bD,ce]
  ·rw[ad,tU oD,bi,orl,G,U];omega
  ·rw[ez,O8 uI,or1];rfl
 have hob:aQ (.slice (some ⟨ob,0,none⟩) O.length F) ob:=rfl;have hobv:=u ob hob;obtain⟨v83,P⟩:=dW (.slice (some ⟨ob,0,none⟩) left F:Vt_);rw[<-P]at hov|-;have hOt:(O.take left).length=left:=by rw[av,U];omega
 have hvb:∀b,aQ v83 b->M<b:=λb d=>by rw[P]at d;have:b=ob:=(by cases d;rfl);omega
 apply ke (gI (left:Int)) Q (by rw[P];simp[go_sem])
 refine iz (λst R=>∃(k:Nat) (p:List Int),st=(gI k,())/\k<=left/\tx R E p/\qo ((O.take left).drop k) p=sI T f/\p.length=i/\(∀x∈p,0<=x)/\p.sum+left=T+k/\IE R v83 (O.take left)/\M0 W R)
  (λst _=>match st.1 with| .int _ k=>left - k.toNat|_=>0) ⟨0,_,rfl,qZ,hk1,?_,hcl,λx D=>?_,?_,hov,M7⟩ ?_
 ·unfold sI;rw[<-hS,<-hO,<-hleft2,dO]
 ·obtain⟨y,-,rfl⟩:=aD.1 D;exact Int.natCast_nonneg y
 ·have:((oT T S f).map m).sum=((oT T S f).sum:Int):=sR _;rw[this];omega
 rintro⟨_,_⟩ W8 ⟨k,p,⟨⟩,hk,p1,p2,p3,p4,p5,p6,p7⟩ KN hKN;refine rT ?_;intro _;by_cases hkl:k<left
 ·have hkl' :(k:Int)<(left:Int):=qZ;refine ee hkl ?_;obtain⟨a1,f1,g1⟩:=p6.el (i:=k) qZ;apply dy (f1 W8);apply dy (g1 _ _ p6 qZ).1;have hmem:(O.take left)[k]'qZ∈(List.range i).map m:=hop.mem_iff.1 (bm (ar _));obtain⟨y,hy,hye⟩:=aD.1 hmem;have hyi:=d8.1 hy;rw[<-hye];obtain⟨a2,f2,g2⟩:=p1.el (i:=y) qZ;apply dy (f2 .i64 W8);apply dy (g2 _ _ p1 qZ).1;have hpy:=p4 _ (ar (show y<p.length by omega));have hpy2:=EH p4 _ (ar (show y<p.length by omega));apply az (gI (p[y]'qZ+1)) W8 (by simp[go_sem];rw[mL]);apply dy (f2 .i64 W8);obtain⟨W9,s1,q1,H⟩:=(g2 _ _ p1 qZ).2 (p[y]'qZ+1);apply lO s1;apply az (gI ((k+1:Nat):Int)) W9 (by simp[go_sem];rw[mL]);refine hKN _ _ ⟨k+1,_,rfl,qZ,q1,?_,by rw[aZ];exact p3,λx D=>?_,?_,p6.mod H λb d g=>by have:=hvb _ d;have:=J _ g;omega,p7.on H λb d=>.inr (n1 b d)⟩ (by show left - (((k+1:Nat):Int)).toNat<left - ((k:Int)).toNat;omega)
  ·rw[<-p2];have hd:(O.take left).drop k=(O.take left)[k]'qZ::(O.take left).drop (k+1):=(bR qZ).symm;rw[hd,qo,<-hye];congr 1;show p.set y _=p.set ((y:Nat):Int).toNat (p.getD ((y:Nat):Int).toNat 0+1);rw[fS,iR,ao qZ,cR]
  ·rcases ec D with D|rfl
   ·exact p4 x D
   ·omega
  ·rw[AJ qZ];omega
 ·have hkl' :k=left:=qZ;have hnl:¬(k:Int)<(left:Int):=qZ;refine fH hkl ?_;rw[hkl',cg qZ,qo]at p2;subst p2;exact hK E W8 p1 p7 n1
end Go.Proofs
namespace Go.Proofs
open Go Go.Vc
attribute [local congr] bj
variable {w:Wt_}
section
variable{α:Type}{f:α->List Value}{S:Nat}
def Hc{w:Wt_}{e:TypeId}{sl:Vt_}{l:List α}(k:∀x,(f x).length=S)(h:il w e S sl l.length (l.flatMap f)){i:Nat}(hi:i<l.length):
  ∃b a rest,sl=.slice (some ⟨b,0,none⟩) l.length a/\hC w b (l.flatMap f++rest).toArray e/\At w b (i*S) (f l[i])/\∀j,j<S->(l.flatMap f++rest)[i*S+j]? =(f l[i])[j]? :=by
 obtain⟨b,a,rest,rfl,s,d,r⟩:=h.pos qZ;have m:=h.1;have p:(i+1)*S<=l.length*S:=cz S hi;rw[dY,Nat.one_mul]at p;have c:At w b 0 (l.flatMap f++rest):=At.all (cO d);have g:=c.sub (i*S) S (by grind);rw[cT (by rw[m];omega),aP (by grind),lx f S l i (λx _=>k x) hi,cI]at g;refine⟨b,a,rest,rfl,cO d,g,λj q=>?_⟩;rw[bP (by rw[m];omega)];have o:=lx f S l i (λx _=>k x) hi;have n:(((l.flatMap f).drop (i*S)).take S)[j]? =(f l[i])[j]? :=by rw[o]
 rw[eB,ab q,eV]at n;exact n
def Bm{w:Wt_}{e:TypeId}{b cap:Nat}{l:List α}(o:∀x,(f x).length=S)(h:il w e S (.slice (some ⟨b,0,none⟩) l.length cap) l.length (l.flatMap f)){i:Nat}(hi:i<l.length){j:Nat}(u:j<S){v:Vt_}{a:α}(d:(f l[i]).set j v=f a):
  il (w.setCell ⟨b,i*S+j,none⟩ v) e S (.slice (some ⟨b,0,none⟩) (l.set i a).length cap) (l.set i a).length ((l.set i a).flatMap f):=by
 obtain⟨m,c,rest,s,y,n,q,k⟩:=h.pos qZ;obtain⟨rfl,rfl⟩:b=m/\cap=c:=by simpa using s
 have p:=h.1;have r:(i+1)*S<=l.length*S:=cz S hi;rw[dY,Nat.one_mul]at r
 have g:∀(l:List α) (i:Nat) (hi:i<l.length),(f l[i]).set j v=f a->(l.flatMap f).set (i*S+j) v=(l.set i a).flatMap f:=by
  intro l;induction l with
  |nil=>intro i hi;simp at hi
  |cons x l t=>
   intro i hi d;cases i with
   |zero=>
    simp only[eH]at d;rw[aT,jJ,cI,dQ _ _ (by rw[o];omega),d];rfl
   |succ i=>
    have e:(i+1)*S+j=(f x).length+(i*S+j):=by grind
    rw[aT,e,cm _ _ qZ,fb,t i (by simpa using hi) (by simpa using d)];rfl
 refine⟨by grind,.inr ⟨b,cap,rest,by grind,by grind,?_,by grind,k⟩⟩;rw[jp,ab rfl,n,iN,dI,dQ _ _ (by rw[p];omega),g l i hi d]
end
structure Du where
 acct:Int
 cash:Int
 v:Int
structure Sd where
 acct:Int
 cash:Int
 dfl:Bool
 cut:Int
def Kz(d:Du):List Value:=[.int .u32 d.acct,gI d.cash,gI d.v]
def wH(d:Sd):List Value:=[.int .u32 d.acct,gI d.cash,.bool d.dfl,gI d.cut]
def VL(d:Du):(Kz d).length=3:=rfl
def oz(d:Sd):(wH d).length=4:=rfl
def TT(d:Sd):(wH d).all (·.oneCell')=true:=rfl
def duV(d:Du):Value:=.agg (Kz d).toArray
def ad9:Tryz.prog.underlying 367=some (.slice 369):=cH
def Ys:Tryz.prog.underlying 370=some (.slice 374):=cH
def nSd:Tryz.prog.cellsOf 374=3+1:=cH
def ym(n:Int):Bool:=aY n 0 1000000000000000
def Ds{n:Int}{K:be}(a:K (.bool (ym n)) w):Ca pQ 352 #[.int .i64 n] w K:=by
 refine cN Tryz.func352 ?_;unfold ym aY at a;by_cases h:0<=n
 ·simp[go_sem,h]at a|-;exact a
 ·simp[go_sem,h]at a|-;exact a
def Du.Fit(d:Du):Prop:=gM d.acct/\dM d.cash/\dM d.v
def Du.ok(d:Du):Bool:=ym d.cash&& aY d.v (-100000000000000000) 100000000000000000
def HR:Int->List Du->Bool
 |_,[]=>true
 |last,d::l=>decide (last<d.acct)&& d.ok&& HR d.acct l
def qK(fund:Int)(l:List Du):Bool:=HR 0 l&& ym fund
def ae4{s:Vt_}{l:List Du}(h:Rd w 3 s l.length (l.flatMap Kz)){i:Nat}(hi:i<l.length):
  ∃p,(iX 367 s (gI (i:Int))).run pQ w=.ok p w/\(iL 369 p).run pQ w=.ok (duV l[i]) w:=by
 obtain⟨b,d,n,a,k,o⟩:=h.item VL hi rfl;obtain⟨C,e,q,hC,c⟩:=o.get;have j:=c 0 (gU l[i].acct) rfl;have m:=c 1 (gI l[i].cash) rfl;have g:=c 2 (gI l[i].v) rfl;simp only[fd,bM]at j m g;exact⟨.pointer (some ⟨b,d+i*3,none⟩),by rw[a];simp[go_sem,hi,bQ,ad9],by simp[go_sem,cO hC,j,m,g,duV,Kz]⟩
def Wg(d:Du)(w:Wt_):∃a c,(iA 369 true (.tuple #[])).run pQ w=.ok (cU w.heap.size 0) a/\(iS 369 (cU w.heap.size 0) (duV d)).run pQ a=.ok () c/\hC c w.heap.size (Kz d).toArray 369/\M0 w c:=by
 obtain⟨a,b⟩:=dW (w.alloc (.cells #[.int .u32 0,gI 0,gI 0] 369));have g:M0 w a:=by rw[b];exact(bn.refl _ w).alloc _
 have e:hC a w.heap.size #[.int .u32 0,gI 0,gI 0] 369:=by rw[b];simp[go_sem]
 refine⟨a,((a.setCell ⟨w.heap.size,0,none⟩ (gU d.acct)).setCell ⟨w.heap.size,1,none⟩ (gI d.cash)).setCell ⟨w.heap.size,2,none⟩ (gI d.v),by rw[b];simp[go_sem],by simp[go_sem,e,duV,Kz],by simp[go_sem,e,Kz],?_⟩;exact g.on ((((bn.refl (λx=>x=w.heap.size) a).sc).sc).sc) λx h=>gT
def JO{K:be}{s:Vt_}{l:List Du}{fund:Int}(h:Rd w 3 s l.length (l.flatMap Kz))(Q:l.length<=1000000)(hl:∀d∈l,d.Fit)
  (C:∀y,M0 w y->K (.bool (qK fund l)) y):Ca pQ 305 #[.int .i64 fund,s] w K:=by
 refine cN Tryz.func305 ?_;obtain⟨a,c,J⟩:=h.isSl;apply ke (gI (l.length:Int)) w (by rw[J];simp[go_sem])
 refine iz (λst W=>∃(i:Nat) (last:Int) (x:Vt_),i<=l.length/\st=(x,gU last,gI i,())/\M0 w W/\HR 0 l=HR last (l.drop i))
  (λst _=>match st.2.2.1 with| .int _ i=>l.length - i.toNat|_=>0) ⟨0,0,_,qZ,rfl,rC,rfl⟩ ?_
 rintro⟨_,_,_,_⟩ W ⟨i,last,x,P,⟨⟩,n,e⟩ O o;refine rT ?_;intro _;by_cases k:i<l.length
 ·have m:(i:Int)<(l.length:Int):=qZ;refine ee m ?_;obtain⟨p,L,H⟩:=ae4 (h.mod n eI) k;refine dy L (dy H ?_);obtain⟨N,M,D,E,b,I⟩:=Wg l[i] W;obtain⟨q,G⟩:=dW W.heap.size;rw[<-G]at D E b;refine dy D (lO E ?_);obtain⟨d,v⟩:=dW (l[i]);rw[<-v]at b;have r:=hl d (by grind);have g:l.drop i=d::l.drop (i+1):=by rw[v];exact(bR k).symm
  rw[g,HR]at e;unfold Kz at b;have F:=n.trans I;refine dU.at (λst u=>st=(.bool (!(decide (last<d.acct)&& d.ok)),())/\u=M) ?_ ?_
  ·refine dF ?_;refine dD b ?_;by_cases B:d.acct<=last
   ·refine ee B ?_
    exact⟨by
      have:¬last<d.acct:=qZ;simp[this],rfl⟩
   ·refine fH B ?_;have t:last<d.acct:=qZ;refine dF ?_;refine dD b ?_;simp only[iI];apply Ds;refine dF ?_;cases z:ym d.cash with
    |false=>
     rw[bG,ab (show(!false)=true from rfl)];exact⟨by simp[Du.ok,z],rfl⟩
    |true=>
     rw[bG,aa (by simp)];refine dF ?_;refine dD b ?_;apply ib r.2.2 qZ;refine dF ?_;exact⟨by simp[Du.ok,z,t],rfl⟩
  rintro _ u ⟨rfl,rfl⟩;refine qk ?_;intro _;cases A:(decide (last<d.acct)&& d.ok)with
  |false=>
   rw[bG,ab (show(!false)=true from rfl)];rw[A,bh]at e;have j:=C _ F;unfold qK at j;rw[e,bh]at j;exact j
  |true=>
   rw[bG,aa (by simp)];rw[A,cK]at e;refine dF ?_;refine dD b ?_;apply az (gI ((i+1:Nat):Int)) u (by simp[go_sem];rw[mL]);exact o _ _ ⟨i+1,_,_,qZ,rfl,F,e⟩ (by grind)
 ·obtain rfl:i=l.length:=qZ;refine fh ?_;simp only[iI];apply Ds;rw[cg (aB _),HR]at e;have j:=C _ n;unfold qK at j;rw[e,cK]at j;exact j
end Go.Proofs
namespace Go.Proofs
open Go Go.Vc
attribute [local congr] bj
def AG(d:Du):Sd:=if d.cash+d.v<0 then⟨d.acct,0,true,0⟩else⟨d.acct,d.cash+d.v,false,0⟩
def iQ(d:Du):Int:=if d.cash+d.v<0 then -(d.cash+d.v)else 0
def kS(l:List Du):List Int:=(l.filter λd=>decide (0<d.v)).map (·.v)
def lK:Nat->List Du->List Nat
 |_,[]=>[]
 |i,d::l=>if 0<d.v then i::lK (i+1) l else lK (i+1) l
def kT:List Nat->List Int->List Sd->List Sd
 |i::ix,p::ps,o=>kT ix ps (match o[i]? with|some x=>o.set i {x with cut:=p,cash:=IntKind.i64.wrap (x.cash - p)}|none=>o)
 |_,_,o=>o
def gK(fund:Int)(l:List Du):List Sd×Int×Int:=
 if 64<l.length then([],0,3)
 else if qK fund l=false then([],0,2)
 else if(sy (l.map (·.v))).2≠0\/(sy (l.map (·.v))).1≠0 then([],0,130)
 else if(fq ((l.map iQ).sum - min fund (l.map iQ).sum) (kS l)).2≠0 then([],0,(fq ((l.map iQ).sum - min fund (l.map iQ).sum) (kS l)).2)
 else(kT (lK 0 l) (fq ((l.map iQ).sum - min fund (l.map iQ).sum) (kS l)).1 (l.map AG),fund - min fund (l.map iQ).sum,0)
def AQ:∀(l:List Du) (i:Nat) (d:Du),lK i (l++[d])=lK i l++(if 0<d.v then [i+l.length]else [])
 | [],i,d=>by simp[lK]
 |x::l,i,d=>by
  rw[ej,lK,lK,AQ l (i+1) d,aR];have e:i+1+l.length=i+(l.length+1):=qZ;rw[e];split<;>simp
def D0(l:List Du)(d:Du):kS (l++[d])=kS l++(if 0<d.v then [d.v]else []):=by
 unfold kS;rw[cj,aK];congr 1;by_cases h:0<d.v<;>simp[h]
def xC:∀(l:List Du) (i:Nat),(lK i l).length=(kS l).length
 | [],i=>rfl
 |d::l,i=>by
  unfold kS;rw[lK];have:=xC l (i+1);unfold kS at this;by_cases h:0<d.v
  ·grind
  ·grind
def wP:∀(l:List Du) (i:Nat),∀x∈lK i l,i<=x/\x<i+l.length
 | [],i,x,a=>by simp[lK]at a
 |d::l,i,x,a=>by
  rw[lK]at a;rw[aR];by_cases h:0<d.v
  ·rw[ab h]at a;rcases aq.1 a with rfl|a
   ·omega
   ·have:=wP l (i+1) x a;omega
  ·rw[aa h]at a;have:=wP l (i+1) x a;omega
abbrev J9(w:Wt_)(sl:Vt_)(l:List Sd):Prop:=il w 374 4 sl l.length (l.flatMap wH)
def Tp(d:Sd):Value:=.agg (wH d).toArray
def J5:Sd:=⟨0,0,false,0⟩
def J9.el{w:Wt_}{sl:Vt_}{l:List Sd}(h:J9 w sl l){i:Nat}(hi:i<l.length):
  ∃b,aQ sl b/\(∀W,(iX 370 sl (gI (i:Int))).run pQ W=.ok (cU b (i*4)) W)/\∀(W:Wt_) (c:List Sd),J9 W sl c->∀g:i<c.length,
   (iL 2 (cU b (i*4+1))).run pQ W=.ok (gI c[i].cash) W/\
   (∀x:Int,∃f,(iS 2 (cU b (i*4+1)) (gI x)).run pQ W=.ok () f/\J9 f sl (c.set i {c[i]with cash:=x})/\bn (aQ sl) W f)/\
   (∀x:Bool,∃f,(iS 4 (cU b (i*4+2)) (.bool x)).run pQ W=.ok () f/\J9 f sl (c.set i {c[i]with dfl:=x})/\bn (aQ sl) W f)/\
   (∀x:Int,∃f,(iS 2 (cU b (i*4+3)) (gI x)).run pQ W=.ok () f/\J9 f sl (c.set i {c[i]with cut:=x})/\bn (aQ sl) W f)/\
   (∀x:Sd,∃f,(iS 374 (cU b (i*4)) (Tp x)).run pQ W=.ok () f/\J9 f sl (c.set i x)/\bn (aQ sl) W f):=by
 obtain⟨b,d,rest,rfl,T,V,U⟩:=Hc oz h hi;have r:aQ (.slice (some ⟨b,0,none⟩) l.length d) b:=rfl;refine⟨b,r,λW=>by simp[go_sem,hi,bQ,Ys],λW c H g=>?_⟩
 have B:c.length=l.length:=by
  obtain⟨G,q,a,M,-⟩:=H.pos qZ;have:l.length=c.length:=by grind
  exact this.symm
 have s:il W 374 4 (.slice (some ⟨b,0,none⟩) c.length d) c.length (c.flatMap wH):=by
  have L:il W 374 4 (.slice (some ⟨b,0,none⟩) l.length d) c.length (c.flatMap wH):=H;rw[<-B]at L;exact L
 obtain⟨G,q,a,M,k,-,p⟩:=Hc oz s g;obtain⟨rfl,rfl⟩:b=G/\d=q:=by simpa using M
 have S:=p 0 qZ;have J:=p 1 qZ;have R:=p 2 qZ;have N:=p 3 qZ;simp only[bM]at S;have md:∀j v,bn (aQ (.slice (some ⟨b,0,none⟩) l.length d)) W (W.setCell ⟨b,j,none⟩ v):=λj v=>(bn.refl _ W).setCell (.inl r) _ _;have A:∀{W:Wt_} {o:List Sd},o.length=l.length->il W 374 4 (.slice (some ⟨b,0,none⟩) o.length d) o.length (o.flatMap wH)->J9 W (.slice (some ⟨b,0,none⟩) l.length d) o:=λe h=>by grind
 refine⟨by simp[go_sem,k,J,wH],λx=>⟨_,by simp[go_sem,k,J,wH],A (by grind) (Bm oz s g (j:=1) qZ rfl),md _ _⟩,λx=>⟨_,by simp[go_sem,k,R,wH],A (by grind) (Bm oz s g (j:=2) qZ rfl),md _ _⟩,
  λx=>⟨_,by simp[go_sem,k,N,wH],A (by grind) (Bm oz s g (j:=3) qZ rfl),md _ _⟩,λx=>?_⟩
 have D:i*4+4<=(c.flatMap wH++a).toArray.size:=by
  have:=(aF.1 (N.trans rfl)).1;rw[dC];omega
 have C:=xI (P:=pQ) (t:=374) (w:=W) (b:=b) (off:=i*4) (cs:=wH x) (n:=3) nSd rfl k (by rw[oz];exact D) (TT x);refine⟨_,C,?_,(bn.refl _ W).setRow (.inl r) _⟩;obtain⟨Q,y,m,E,O,z,I,F⟩:=s.pos qZ;obtain⟨rfl,rfl⟩:b=Q/\d=y:=by simpa using E
 have K:=s.1
 have u:a=m:=by
  have e:hp W b=some (.cells (c.flatMap wH++m).toArray 374 (0,0)):=z;rw[k]at e;simpa using e
 subst u;refine A (by grind) ⟨by rw[tU oz,aZ],.inr ⟨b,d,a,by grind,by grind,?_,by grind,F⟩⟩;rw[eU,ab rfl,z]
 have e:ji (c.flatMap wH++a) (i*4) (wH x)=(c.set i x).flatMap wH++a:=by
  unfold ji;rw[aP (by rw[K];omega),Tu oz,oz,cT (by rw[K];omega),show i*4+4=(i+1)*4 by omega,Wx oz,List.set_eq_take_append_cons_drop,ab g];simp
 rw[<-e]
end Go.Proofs
namespace Go.Proofs
open Go Go.Vc
attribute [local congr] bj
variable {l:List Du}
def EN:∀{l:List Du} {last:Int},HR last l=true->∀d∈l,d.ok=true
 |d::l,last,h,x,a=>by
  rw[HR,ah,ah]at h;rcases aq.1 a with rfl|a
  ·exact h.1.2
  ·exact EN h.2 x a
def Du.rng{d:Du}(h:d.ok=true):0<=d.cash/\d.cash<=1000000000000000/\ -100000000000000000<=d.v/\d.v<=100000000000000000:=by
 unfold Du.ok ym aY at h;simp only[ah,ax]at h;omega
def Mn(h:∀d∈l,d.ok=true):0<=(l.map iQ).sum/\(l.map iQ).sum<=l.length*100000000000000000:=by
 have:=rK (l:=l.map iQ) (B:=100000000000000000) λx b=>by
  obtain⟨d,a,rfl⟩:=aD.1 b;have:=Du.rng (h d a);unfold iQ;split<;>omega
 rwa[af]at this
def eSd:fj pQ 374 4 32=true:=cH
def ag4(h:∀d∈l,d.ok=true):(∀x∈kS l,dM x)/\(kS l).length<=l.length:=by
 refine⟨λx b=>?_,by unfold kS;rw[af];exact aX _ _⟩;obtain⟨d,a,rfl⟩:=aD.1 b;have:=Du.rng (h d (aM.1 a).1);constructor<;>omega
def ac8(n:Nat):(madeCells (wH J5).toArray (n*4)).toList=(List.replicate n J5).flatMap wH:=by
 unfold madeCells;rw[Array.toList_map,Array.toList_range];induction n with
 |zero=>rfl
 |succ n a=>
  have e:(n+1)*4=n*4+1+1+1+1:=qZ;rw[e,lr,lr,lr,lr,aK,aK,aK,aK,a,List.replicate_succ',bD];have d:(n*4)%4=0:=qZ;have c:(n*4+1)%4=1:=qZ;have b:(n*4+1+1)%4=2:=qZ;have f:(n*4+1+1+1)%4=3:=qZ;simp[wH,J5,d,c,b,f,ag]
def am2{w:Wt_}{K:be}{n:Nat}(g:n<=1000000)(e:∀a c,J9 c a (List.replicate n J5)->M0 w c->(∀b,aQ a b->w.heap.size<=b)->K a c):
  rx pQ (Ed 370 (gI (n:Int)) (gI (n:Int))) w K:=by
 apply LM (z:=Tp J5) Ys (dG eSd) qZ qZ qZ cH;rw[show(n:Int).toNat=n from rfl]
 have d:madeCells (Tp J5).cells (n*4)=((List.replicate n J5).flatMap wH).toArray:=by
  apply jU;rw[show(Tp J5).cells=(wH J5).toArray from rfl];exact ac8 n
 rw[d];refine e _ _ ?_ nl λb f=>?_
 ·unfold J9;rw[cZ];exact⟨by rw[tU oz,cZ],.inr ⟨w.heap.size,n,[],rfl,aB _,by rw[dZ,ab rfl,aC],by simp,rfl⟩⟩
 ·have:b=w.heap.size:=by cases f;rfl
  omega
def FH{x y:Int}{W:Wt_}(h:dM (x - y)):(nV .sub 2 false (gI x) (gI y)).run pQ W=.ok (gI (x - y)) W:=by
 simp[go_sem];rw[ie h.1 h.2]
def wk:∀ix p,(qo ix p).length=p.length
 | [],p=>rfl
 |i::ix,p=>by rw[qo,wk ix,aZ]
def vX{t:Int}{l:List Int}(h:(fq t l).2=0):(fq t l).1.length=l.length:=by
 unfold fq at h|-;split at h
 ·cases h
 split at h
 ·cases h
 split at h
 ·cases h
 split at h
 ·grind
 split at h
 ·cases h
 ·rename_i c a e b d
  rw[aa c,aa a,aa e,aa b,aa d];unfold sI;rw[wk,af];unfold oT;rw[af,af]
structure StI(w0 W:Wt_)(l:List Du)(i:Nat)(v10 sA sW sP:Vt_):Prop where
 out:J9 W v10 ((l.take i).map AG++List.replicate (l.length - i) J5)
 a:tx W sA ((l.take i).map (·.v))
 wn:tx W sW (kS (l.take i))
 ix:IE W sP ((lK 0 (l.take i)).map λx:Nat=>(x:Int))
 md:M0 w0 W
 nw:∀b,aQ v10 b\/aQ sA b\/aQ sW b\/aQ sP b->w0.heap.size<=b
 d1:∀b,aQ v10 b->¬aQ sA b/\¬aQ sW b/\¬aQ sP b
 d2:∀b,aQ sA b->¬aQ sW b/\¬aQ sP b
 d3:∀b,aQ sW b->¬aQ sP b
def Oz{w:Wt_}{K:be}{s:Vt_}{fund:Int}(h:Rd w 3 s l.length (l.flatMap Kz))(hn:l.length<=100000)(hl:∀d∈l,d.Fit)(hf:dM fund)
  (hK:∀s' w',J9 w' s' (gK fund l).1->M0 w w' ->(∀b,aQ s' b->w.heap.size<=b)->K (.tuple #[s',gI (gK fund l).2.1,gI (gK fund l).2.2]) w'):Ca pQ 264 #[.int .i64 fund,s] w K:=by
 refine cN Tryz.func264 ?_;obtain⟨a,c,hs⟩:=h.isSl;have S:∀{W:Wt_},(builtin .len #[367] 3 #[false] #[s]).run pQ W=.ok (.value (gI (l.length:Int))) W:=λ{W}=>by rw[hs];simp[go_sem]
 have bad:∀e W,gK fund l=([],0,e)->M0 w W->K (.tuple #[.slice none 0 0,gI 0,gI e]) W:=λe W he m=>by
  have hk:=hK (.slice none 0 0) W (by rw[he];exact il.nil _ _ _) m λb g=>by cases g
  rw[he]at hk;exact hk
 apply zw S;by_cases h64:64<l.length
 ·have T:(64:Int)<(l.length:Int):=qZ;refine ee T ?_;exact bad 3 w (by unfold gK;rw[ab h64]) rC
 have T:¬(64:Int)<(l.length:Int):=qZ;refine fH T ?_;refine JO h qZ hl λw1 m1=>?_;cases I:qK fund l with
 |false=>
  refine lV ?_;exact bad 2 w1 (by unfold gK;rw[aa h64,ab I]) m1
 |true=>
 refine fh ?_;have E:=I;unfold qK at E;rw[ah]at E;have hok:=EN E.1;have hfr:=bz E.2;apply zw S;refine am2 qZ λF w2 o2 m2 n2=>?_;apply zw S;obtain⟨n,hnd⟩:=dW l.length;have hs1:=m1.size
 refine iz (λst W=>∃(i:Nat) (sA sW sP:Vt_),st=(sA,sW,sP,gI (((l.take i).map iQ).sum),gI i,())/\i<=l.length/\StI w W l i F sA sW sP)
  (λst _=>match st.2.2.2.2.1 with| .int _ i=>l.length - i.toNat|_=>0) ⟨0,.slice none 0 0,.slice none 0 0,.slice none 0 0,by simp,qZ,?_⟩ ?_
 ·refine⟨by simpa using o2,il.nil _ _ _,il.nil _ _ _,il.nil _ _ _,m1.trans m2,λb g=>?_,λb g=>⟨λh=>(by cases h),λh=>(by cases h),λh=>(by cases h)⟩,λb g=>(by cases g),λb g=>(by cases g)⟩;rcases g with g|g|g|g
  ·have:=n2 b g;omega
  ·cases g
  ·cases g
  ·cases g
 rintro⟨sA,sW,sP,_,_,_⟩ W ⟨i,sA0,sW0,sP0,⟨⟩,hi,t⟩ KN hKN;refine rT ?_;intro _;have hokT:∀d∈l.take i,d.ok=true:=λd hd=>hok d (bm hd);have hmb:=Mn hokT;have htl:(l.take i).length<=64:=by rw[av];omega
 by_cases hlt:i<l.length
 ·have hlt' :(i:Int)<(l.length:Int):=qZ;refine ee hlt' ?_;obtain⟨p,e1,e2⟩:=ae4 (h.mod t.md eI) hlt;refine dy e1 (dy e2 ?_);obtain⟨wv,w3,v1,v2,v3,v4⟩:=Wg l[i] W;obtain⟨q,hq⟩:=dW W.heap.size;rw[<-hq]at v1 v2 v3;refine dy v1 (lO v2 ?_);obtain⟨d,hd⟩:=dW (l[i]);rw[<-hd]at v3;have hdl:d∈l:=by rw[hd];exact ar hlt
  have hdr:=Du.rng (hok d hdl);have O:l.take (i+1)=l.take i++[d]:=by rw[hd];exact bV hlt
  unfold Kz at v3
  have u:∀b,aQ F b\/aQ sA b\/aQ sW b\/aQ sP b->b<q:=λb g=>by
   rw[hq];rcases g with g|g|g|g
   ·exact t.out.lt g
   ·exact t.a.lt g
   ·exact t.wn.lt g
   ·exact t.ix.lt g
  have hq3:=aJ v3;refine dF ?_;refine dD v3 ?_;have own3:=t.a.mod v4 eI;refine vz (x:=d.v) (f:=sj) xB (dG Wb) (λ_=>rfl) uI rfl own3 (by rw[af];omega) qZ λY w4 o4 m4 n4=>?_;have c4:=m4.hpk v3 λg=>by have:=u _ (.inr (.inl g));omega
  have out4:J9 w4 F _:=(t.out.mod v4 eI).mod m4 λb g j=>(t.d1 b g).1 j;have wn4:tx w4 sW _:=(t.wn.mod v4 eI).mod m4 λb g j=>(t.d2 b j).1 g;have ix4:IE w4 sP _:=(t.ix.mod v4 eI).mod m4 λb g j=>(t.d2 b j).2 g;have v:∀b,aQ Y b->aQ sA b\/q<b:=λb g=>(n4 b g).imp id λ_=>by omega
  refine dF ?_;refine dD c4 ?_;refine dF ?_;refine dD c4 ?_;refine dF ?_;refine dD c4 ?_;apply az (gI (d.cash+d.v)) w4 (by simp[go_sem];rw[mL]);apply az (Tp ⟨d.acct,d.cash+d.v,false,0⟩) w4 (by simp[go_sem,Tp,wH]);have hol:((l.take i).map AG++List.replicate (l.length - i) J5).length=l.length:=by rw[ad,af,av,cZ];omega
  obtain⟨b,hbin,f1,g1⟩:=out4.el (i:=i) qZ;apply dy (f1 _);obtain⟨-,-,-,-,t1⟩:=g1 _ _ out4 qZ;obtain⟨w5,s5,o5,m5⟩:=t1 ⟨d.acct,d.cash+d.v,false,0⟩;apply lO s5
  have U:((l.take i).map AG++List.replicate (l.length - i) J5).set i (AG d)=(l.take (i+1)).map AG++List.replicate (l.length - (i+1)) J5:=by
   have e1:=AC (A:=l.map AG) (z:=J5) (n:=l.length) (by simp) hlt;rw[cn,<-hd,<-List.map_take,<-List.map_take]at e1;exact e1
  refine dU.at (λst W' =>st=(gI (((l.take (i+1)).map iQ).sum),())/\J9 W' F ((l.take (i+1)).map AG++List.replicate (l.length - (i+1)) J5)/\bn (aQ F) w4 W') ?_ ?_
  ·obtain⟨g2,t2,t3,-,-⟩:=g1 _ _ o5 (by rw[aZ];omega);rw[dX]at g2;replace g2:(iL 2 (cU b (i*4+1))).run pQ w5=.ok (gI (d.cash+d.v)) w5:=g2;apply dy (f1 _);refine dD bQ ?_;apply dy g2;have hms:((l.take (i+1)).map iQ).sum=((l.take i).map iQ).sum+iQ d:=by rw[O];simp
   by_cases C:d.cash+d.v<0
   ·refine ee C ?_;apply dy (f1 _);refine dD bQ ?_;apply dy g2;have hdm:iQ d= -(d.cash+d.v):=by unfold iQ;rw[ab C]
    apply dy (FH (W:=w5) ⟨qZ,qZ⟩);apply dy (f1 _);refine dD bQ ?_;obtain⟨w6,s6,o6,Q⟩:=t2 0;apply lO s6;obtain⟨-,-,t4,-,-⟩:=g1 _ _ o6 (by rw[aZ,aZ];omega);apply dy (f1 _);refine dD bQ ?_;obtain⟨w7,s7,o7,m7⟩:=t4 true;apply lO s7;refine⟨by rw[hms,hdm];congr 2,?_,(m5.trans Q).trans m7⟩;have e:AG d=⟨d.acct,0,true,0⟩:=by unfold AG;rw[ab C]
    rw[<-U,e];simp only[dX,jH]at o7;exact o7
   ·refine fH C ?_;have hdm:iQ d=0:=by unfold iQ;rw[aa C]
    refine⟨by rw[hms,hdm,ig],?_,m5⟩;have e:AG d=⟨d.acct,d.cash+d.v,false,0⟩:=by unfold AG;rw[aa C]
    rw[<-U,e];exact o5
  rintro _ W5 ⟨rfl,o6,Q⟩;refine qk ?_;intro _;have c6:=Q.hpk c4 λg=>by have:=u _ (.inl g);omega
  have wn6:=wn4.mod Q λb g j=>(t.d1 b j).2.1 g;have ix6:=ix4.mod Q λb g j=>(t.d1 b j).2.2 g
  have a6:=o4.mod Q λb g j=>by
   rcases v b g with r|r
   ·exact(t.d1 b j).1 r
   ·have:=u _ (.inl j);omega
  have hA1:(l.take (i+1)).map (·.v)=(l.take i).map (·.v)++[d.v]:=by rw[O];simp
  rw[<-hA1]at a6;have M6:=((t.md.trans v4).on m4 λb g=>.inr (t.nw b (.inr (.inl g)))).on Q λb g=>.inr (t.nw b (.inl g));have hs46:=Q.size;have hs34:=m4.size;have hqn:w.heap.size<=q:=by rw[hq];exact t.md.size
  refine dF ?_;refine dD c6 ?_;by_cases D:0<d.v
  ·refine ee D ?_;have hwl:(kS (l.take i)).length<=64:=by have:=(ag4 hokT).2;omega
   have hil:((lK 0 (l.take i)).map λx:Nat=>(x:Int)).length<=64:=by rw[af,xC];exact hwl
   refine vz (x:=(i:Int)) (f:=sj) Me (dG ZC) (λ_=>rfl) uI rfl ix6 qZ qZ λsP' w8 o8 Z n8=>?_;have X:∀b,aQ sP' b->aQ sP b\/w4.heap.size<=b:=λb g=>(n8 b g).imp id λ_=>by omega
   have c8:=Z.hpk c6 λg=>by have:=u _ (.inr (.inr (.inr g)));omega
   refine dF ?_;refine dD c8 ?_;have wn8:=wn6.mod Z λb g j=>t.d3 b g j;refine vz (x:=d.v) (f:=sj) xB (dG Wb) (λ_=>rfl) uI rfl wn8 qZ qZ λsW' w9 o9 m9 n9=>?_;apply V3 i;have hs8:=Z.size;have hW' :=n9;have hA4:∀b,aQ Y b->b<w4.heap.size:=λb g=>o4.lt g;have hP8:∀b,aQ sP' b->b<w8.heap.size:=λb g=>o8.lt g;refine hKN _ _ ⟨i+1,Y,sW',sP',rfl,qZ,?_,?_,?_,?_,?_,?_,?_,?_,?_⟩ (by show l.length - (((i+1:Nat):Int)).toNat<l.length - ((i:Int)).toNat;omega)
   ·exact(o6.mod Z λb g j=>(t.d1 b g).2.2 j).mod m9 λb g j=>(t.d1 b g).2.1 j
   ·refine(a6.mod Z λb g j=>?_).mod m9 λb g j=>?_
    ·rcases v b g with r|r
     ·exact(t.d2 b r).2 j
     ·have:=u _ (.inr (.inr (.inr j)));omega
    ·rcases v b g with r|r
     ·exact(t.d2 b r).1 j
     ·have:=u _ (.inr (.inr (.inl j)));omega
   ·have e:kS (l.take (i+1))=kS (l.take i)++[d.v]:=by rw[O,D0,ab D]
    rw[e];exact o9
   ·have e:(lK 0 (l.take (i+1))).map (λx:Nat=>(x:Int))=(lK 0 (l.take i)).map (λx:Nat=>(x:Int))++[(i:Int)]:=by
     rw[O,AQ,ab D,aK,av,cI,cV hi];rfl
    rw[e];refine o8.mod m9 λb g j=>?_;rcases X b g with r|r
    ·exact t.d3 b j r
    ·have:=u _ (.inr (.inr (.inl j)));omega
   ·exact(M6.on Z λb g=>.inr (t.nw b (.inr (.inr (.inr g))))).on m9 λb g=>.inr (t.nw b (.inr (.inr (.inl g))))
   ·intro b g;rcases g with g|g|g|g
    ·exact t.nw b (.inl g)
    ·rcases v b g with r|r
     ·exact t.nw b (.inr (.inl r))
     ·omega
    ·rcases hW' b g with r|r
     ·exact t.nw b (.inr (.inr (.inl r)))
     ·omega
    ·rcases X b g with r|r
     ·exact t.nw b (.inr (.inr (.inr r)))
     ·omega
   ·intro b g;have hbq:=u b (.inl g);refine⟨λB=>?_,λB=>?_,λB=>?_⟩
    ·rcases v b B with r|r
     ·exact(t.d1 b g).1 r
     ·omega
    ·rcases hW' b B with r|r
     ·exact(t.d1 b g).2.1 r
     ·omega
    ·rcases X b B with r|r
     ·exact(t.d1 b g).2.2 r
     ·omega
   ·intro b g;have hb4:=hA4 b g;refine⟨λB=>?_,λB=>?_⟩
    ·rcases hW' b B with r|r
     ·rcases v b g with J|J
      ·exact(t.d2 b J).1 r
      ·have:=u _ (.inr (.inr (.inl r)));omega
     ·omega
    ·rcases X b B with r|r
     ·rcases v b g with J|J
      ·exact(t.d2 b J).2 r
      ·have:=u _ (.inr (.inr (.inr r)));omega
     ·omega
   ·intro b g B;have h8:=hP8 b B;rcases hW' b g with r|r
    ·rcases X b B with J|J
     ·exact t.d3 b r J
     ·have:=u _ (.inr (.inr (.inl r)));omega
    ·omega
  ·refine fH D ?_;apply V3 i;have hA4:∀b,aQ Y b->b<w4.heap.size:=λb g=>o4.lt g;refine hKN _ _ ⟨i+1,Y,sW,sP,rfl,qZ,o6,a6,?_,?_,M6,?_,?_,?_,t.d3⟩ (by show l.length - (((i+1:Nat):Int)).toNat<l.length - ((i:Int)).toNat;omega)
   ·have e:kS (l.take (i+1))=kS (l.take i):=by rw[O,D0,aa D,aC]
    rw[e];exact wn6
   ·have e:lK 0 (l.take (i+1))=lK 0 (l.take i):=by rw[O,AQ,aa D,aC]
    rw[e];exact ix6
   ·intro b g;rcases g with g|g|g|g
    ·exact t.nw b (.inl g)
    ·rcases v b g with r|r
     ·exact t.nw b (.inr (.inl r))
     ·omega
    ·exact t.nw b (.inr (.inr (.inl g)))
    ·exact t.nw b (.inr (.inr (.inr g)))
   ·intro b g;have hbq:=u b (.inl g);refine⟨λB=>?_,(t.d1 b g).2⟩;rcases v b B with r|r
    ·exact(t.d1 b g).1 r
    ·omega
   ·intro b g;refine⟨λB=>?_,λB=>?_⟩
    ·rcases v b g with J|J
     ·exact(t.d2 b J).1 B
     ·have:=u _ (.inr (.inr (.inl B)));omega
    ·rcases v b g with J|J
     ·exact(t.d2 b J).2 B
     ·have:=u _ (.inr (.inr (.inr B)));omega
 ·obtain rfl:i=l.length:=qZ;refine fh ?_;obtain⟨j1,j2,j3,j4,j5,j6,j7,j8,j9⟩:=t;rw[aL]at j1 j2 j3 j4 hmb;rw[Nat.sub_self,List.replicate_zero,aC]at j1;rw[aL];apply Ei j2.rd (by rw[af];omega) (λx B=>by obtain⟨d,hd,rfl⟩:=aD.1 B;exact(hl d hd).2.2);refine dF ?_;refine dF ?_;refine dU.at (λst W' =>st=(.bool (decide ((sy (l.map (·.v))).2≠0\/(sy (l.map (·.v))).1≠0)),())/\W' =W) ?_ ?_
  ·by_cases hc:(sy (l.map (·.v))).2=0
   ·refine fH hc ?_;by_cases hc2:(sy (l.map (·.v))).1=0
    ·refine dD hc2 ?_;exact⟨by rw[aG (λh=>h.elim (λh=>h hc) (λh=>h hc2))],rfl⟩
    ·refine xm (.bool true) hc2 ?_;exact⟨by rw[aA (.inr hc2)],rfl⟩
   ·refine ee hc ?_;exact⟨by rw[aA (.inl hc)],rfl⟩
  rintro _ W' ⟨rfl,rfl⟩;refine qk ?_;intro _;by_cases L:(sy (l.map (·.v))).2≠0\/(sy (l.map (·.v))).1≠0
  ·rw[zZ L];exact bad 130 W' (by unfold gK;rw[aa h64,aa (by rw[I];simp),ab L]) j5
  rw[JV L];obtain⟨M,hM⟩:=dW ((l.map iQ).sum)
  have G:gK fund l=if(fq (M - min fund M) (kS l)).2≠0 then([],0,(fq (M - min fund M) (kS l)).2)else(kT (lK 0 l) (fq (M - min fund M) (kS l)).1 (l.map AG),fund - min fund M,0):=by
   unfold gK;rw[aa h64,aa (by rw[I];simp),aa L,hM]
  rw[<-hM]at hmb|-;refine II ?_;have hmin:0<=min fund M/\min fund M<=fund/\min fund M<=M:=qZ;apply dy (FH (W:=W') ⟨qZ,qZ⟩);have hwr:=ag4 hok;refine Hk j3.rd hwr.1 ⟨qZ,qZ⟩ qZ λH w6 o6 Q n6=>?_;have M6:=j5.trans Q;obtain⟨R,hR⟩:=dW (fq (M - min fund M) (kS l));rw[<-hR]at o6 G|-;obtain⟨va,vc,hva,-⟩:=o6.isSl;apply az H w6 (by rw[hva];simp[go_sem]);refine dF ?_;by_cases N:R.2=0
  case neg=>
   refine ee N ?_;exact bad R.2 w6 (by rw[G,ab N]) M6
  refine fH N ?_;rw[aa (by simpa using N)]at G;have hRl:R.1.length=(kS l).length:=by rw[hR]at N|-;exact vX N
  have hal:=xC l 0;obtain⟨pa,pc,hpa,-⟩:=j4.isSl;apply ke (gI ((lK 0 l).length:Int)) w6 (by rw[hpa];simp[go_sem]);have hn6:∀b,aQ H b->¬aQ F b:=λb g j=>by have:=n6 b g;have:=j1.lt j;omega
  refine iz (λst W2=>∃(k:Nat) (o:List Sd),st=(gI k,())/\k<=(lK 0 l).length/\J9 W2 F o/\kT ((lK 0 l).drop k) (R.1.drop k) o=kT (lK 0 l) R.1 (l.map AG)/\o.length=l.length/\IE W2 sP ((lK 0 l).map λx:Nat=>(x:Int))/\tx W2 H R.1/\M0 w W2)
   (λst _=>match st.1 with| .int _ k=>(lK 0 l).length - k.toNat|_=>0) ⟨0,_,rfl,qZ,j1.mod Q eI,rfl,by rw[af],j4.mod Q eI,o6,M6⟩ ?_
  rintro⟨_,_⟩ W7 ⟨k,o,⟨⟩,hk,q1,q2,q3,q4,q5,q6⟩ KM hKM;refine rT ?_;intro _;by_cases V:k<(lK 0 l).length
  ·refine ee V ?_;obtain⟨y,hy⟩:=dW ((lK 0 l)[k])
   have hyb:y<o.length:=by
    have:=wP l 0 y (by rw[hy];exact ar _);omega
   obtain⟨p1,f1,g1⟩:=q4.el (i:=k) (by rw[af];exact V);apply dy (f1 W7);have hly:=(g1 _ _ q4 (by rw[af];exact V)).1;rw[cn,<-hy]at hly;apply dy hly;obtain⟨p2,f2,g2⟩:=q5.el (i:=k) qZ;have hkR:k<R.1.length:=qZ;obtain⟨P,hP⟩:=dW (R.1[k]);have hlp:=λ(W:Wt_) (h:tx W H R.1)=>(g2 W _ h hkR).1;rw[<-hP]at hlp;refine dy (f2 .i64 W7) (dy (hlp _ q5) ?_);obtain⟨b,hbin,f3,g3⟩:=q1.el (i:=y) hyb;apply dy (f3 _);refine dD bQ ?_;obtain⟨-,-,-,t3,-⟩:=g3 _ _ q1 hyb;obtain⟨w8,s8,o8,Z⟩:=t3 P;apply lO s8;have r8:=q5.mod Z λb g j=>hn6 b g j;have md:M0 w8 w8.drew:=wl;have o9:=o8.mod md eI;have r9:=r8.mod md eI;have i9:=(q4.mod Z λb g j=>(j7 b j).2.2 g).mod md eI;have M9:=(q6.on Z λb g=>.inr (j6 b (.inl g))).trans md;generalize w8.drew=w9 at md o9 r9 i9 M9|-;refine gP f3 (ZI (cU b (y*4+1)) bQ ?_);obtain⟨c1,t1,-,-,-⟩:=g3 _ _ o9 (by rw[aZ];exact hyb);rw[dX]at c1;replace c1:(iL 2 (cU b (y*4+1))).run pQ w9=.ok (gI o[y].cash) w9:=c1;refine gC c1 (gP (λW=>f2 .i64 W) (gC (hlp _ r9) ?_));refine vn ?_;refine gP f3 (ZI (cU b (y*4+1)) bQ ?_);obtain⟨wa,sa,oa,ma⟩:=t1 (IntKind.i64.wrap (o[y].cash - P));apply lO sa;apply V3 k;refine hKM _ _ ⟨k+1,_,rfl,qZ,oa,?_,by rw[aZ,aZ];exact q3,i9.mod ma λb g j=>(j7 b j).2.2 g,r9.mod ma λb g j=>hn6 b g j,M9.on ma λb g=>.inr (j6 b (.inl g))⟩ (by show(lK 0 l).length - (((k+1:Nat):Int)).toNat<(lK 0 l).length - ((k:Int)).toNat;omega);rw[<-q2];have d1:(lK 0 l).drop k=y::(lK 0 l).drop (k+1):=by rw[hy];exact(bR V).symm
   have d2:R.1.drop k=P::R.1.drop (k+1):=by rw[hP];exact(bR hkR).symm
   rw[d1,d2,kT,ao hyb];simp only[dX,jH]
  ·have hkl' :k=(lK 0 l).length:=qZ;refine fH V ?_;apply dy (FH (W:=W7) ⟨qZ,qZ⟩)
   have hfin:o=kT (lK 0 l) R.1 (l.map AG):=by
    rw[<-q2,hkl',cg (aB _),kT];intro _ _ _ _ h;cases h
   rw[G,<-hfin]at hK;exact hK F W7 q1 q6 λb g=>j6 b (.inl g)
end Go.Proofs
namespace Go.Proofs
open Go Go.Vc
attribute [local congr] bj
variable {w:Wt_}{K:be}
structure Hd where
 acct:Int
 q:Int
def BR(d:Hd):List Value:=[.int .u32 d.acct,gI d.q]
def Zj(d:Hd):Value:=.agg (BR d).toArray
def KE(d:Hd):(BR d).length=2:=rfl
def V0(d:Hd):(BR d).all (·.oneCell')=true:=rfl
def UK:Tryz.prog.underlying 392=some (.slice 394):=cH
def eHd:fj pQ 394 2 16=true:=cH
abbrev HdS(w:Wt_)(sl:Vt_)(l:List Hd):Prop:=il w 394 2 sl l.length (l.flatMap BR)
def Hd.Fit(d:Hd):Prop:=gM d.acct/\dM d.q
def xF:Int->List Hd->Bool
 |_,[]=>true
 |last,d::l=>decide (last<d.acct)&& aY d.q (-10000000) 10000000&& xF d.acct l
def wL(n:Int):Int:=max n (-n)
def ot(q n:Int):Int:=if decide (0<n)=decide (0<q)then 0 else wL n
def sE(l:List (Hd×Int)):List Hd:=(l.filter λx=>decide (0<x.2)).map λx=>⟨x.1.acct,x.2⟩
def jE(q:Int)(l:List Hd):List Hd×Int:=
 if 64<l.length then([],3)
 else if q=0\/aY q (-10000000) 10000000=false\/xF 0 l=false then([],2)
 else if(l.map λd=>ot q d.q).sum<wL q then([],7)
 else if(fq (wL q) (l.map λd=>ot q d.q)).2≠0 then([],(fq (wL q) (l.map λd=>ot q d.q)).2)
 else(sE (l.zip (fq (wL q) (l.map λd=>ot q d.q)).1),0)
def XF{s:Vt_}{l:List Hd}(h:Rd w 2 s l.length (l.flatMap BR)){i:Nat}(hi:i<l.length):
  ∃b a,(∀W,(iX 392 s (gI (i:Int))).run pQ W=.ok (cU b a) W)/\(iL 394 (cU b a)).run pQ w=.ok (Zj l[i]) w/\(iL 45 (cU b a)).run pQ w=.ok (gU l[i].acct) w:=by
 obtain⟨b,a,k,c,g,m⟩:=h.item KE hi rfl;obtain⟨C,e,n,hC,f⟩:=m.get;have d:=f 0 (gU l[i].acct) rfl;have j:=f 1 (gI l[i].q) rfl;simp only[fd,bM]at d j;exact⟨b,a+i*2,λW=>by rw[c];simp[go_sem,hi,bQ,UK],by simp[go_sem,cO hC,d,j,Zj,BR],by simp[go_sem,cO hC,d]⟩
def Wh(d:Hd)(w:Wt_):∃a c,(iA 394 true (.tuple #[])).run pQ w=.ok (cU w.heap.size 0) a/\(iS 394 (cU w.heap.size 0) (Zj d)).run pQ a=.ok () c/\hC c w.heap.size (BR d).toArray 394/\M0 w c:=by
 obtain⟨a,b⟩:=dW (w.alloc (.cells #[.int .u32 0,gI 0] 394));have f:M0 w a:=by rw[b];exact(bn.refl _ w).alloc _
 have e:hC a w.heap.size #[.int .u32 0,gI 0] 394:=by rw[b];simp[go_sem]
 refine⟨a,(a.setCell ⟨w.heap.size,0,none⟩ (gU d.acct)).setCell ⟨w.heap.size,1,none⟩ (gI d.q),by rw[b];simp[go_sem],by simp[go_sem,e,Zj,BR],by simp[go_sem,e,BR],?_⟩;exact f.on (((bn.refl (λx=>x=w.heap.size) a).sc).sc) λx g=>gT
def VO{s:Vt_}{l:List Hd}(h:Rd w 2 s l.length (l.flatMap BR))(P:l.length<=1000000)(hl:∀d∈l,d.Fit)
  (A:∀v,M0 w v->K (.bool (xF 0 l)) v):Ca pQ 318 #[s] w K:=by
 refine cN Tryz.func318 ?_;obtain⟨a,c,I⟩:=h.isSl;apply ke (gI (l.length:Int)) w (by rw[I];simp[go_sem])
 refine iz (λst W=>∃(i:Nat) (last:Int) (x:Vt_),i<=l.length/\st=(x,gU last,gI i,())/\M0 w W/\xF 0 l=xF last (l.drop i))
  (λst _=>match st.2.2.1 with| .int _ i=>l.length - i.toNat|_=>0) ⟨0,0,_,qZ,rfl,rC,rfl⟩ ?_
 rintro⟨_,_,_,_⟩ W ⟨i,last,x,O,⟨⟩,n,e⟩ N o;refine rT ?_;intro _;by_cases j:i<l.length
 ·have k:(i:Int)<(l.length:Int):=qZ;refine ee k ?_;obtain⟨b,G,J,F,-⟩:=XF (h.mod n eI) j;refine dy (J _) (dy F ?_);obtain⟨M,L,B,C,g,H⟩:=Wh l[i] W;obtain⟨q,E⟩:=dW W.heap.size;rw[<-E]at B C g;refine dy B (lO C ?_);obtain⟨d,u⟩:=dW (l[i]);rw[<-u]at g;have p:=hl d (by grind);have f:l.drop i=d::l.drop (i+1):=by rw[u];exact(bR j).symm
  rw[f,xF]at e;unfold BR at g;have D:=n.trans H;refine dU.at (λst t=>st=(.bool (!(decide (last<d.acct)&& aY d.q (-10000000) 10000000)),())/\t=L) ?_ ?_
  ·refine dF ?_;refine dD g ?_;by_cases z:d.acct<=last
   ·refine ee z ?_
    exact⟨by
      have:¬last<d.acct:=qZ;simp[this],rfl⟩
   ·refine fH z ?_;have r:last<d.acct:=qZ;refine dF ?_;refine dD g ?_;apply ib p.2 qZ;refine dF ?_;exact⟨by simp[r],rfl⟩
  rintro _ t ⟨rfl,rfl⟩;refine qk ?_;intro _;cases y:(decide (last<d.acct)&& aY d.q (-10000000) 10000000)with
  |false=>
   rw[bG,ab (show(!false)=true from rfl)];rw[y,bh]at e;have m:=A _ D;rw[e]at m;exact m
  |true=>
   rw[bG,aa (by simp)];rw[y,cK]at e;refine dF ?_;refine dD g ?_;apply az (gI ((i+1:Nat):Int)) t (by simp[go_sem];rw[mL]);exact o _ _ ⟨i+1,_,_,qZ,rfl,D,e⟩ (by grind)
 ·obtain rfl:i=l.length:=qZ;refine fh ?_;rw[cg (aB _),xF]at e;have m:=A _ n;rw[e]at m;exact m
def Br{n:Int}(h: -9223372036854775808<n/\n<9223372036854775808)(a:K (gI (wL n)) w):Ca pQ 319 #[.int .i64 n] w K:=by
 refine cN Tryz.func319 ?_;apply az (gI (-n)) w (by simp[go_sem];rw[mL]);exact ke (gI (wL n)) w (by simp[go_sem,wL]) a
def HX{n q:Int}{p f:Nat}{T:TypeId}(h: -9223372036854775808<n/\n<9223372036854775808)(b:hC w p #[.int .i64 q] T)(d:hC w f #[.func (.func 319) #[] #[]] 434)
  (a:K (gI (ot q n)) w):Ca pQ 320 #[.int .i64 n,.pointer (some ⟨p,0,none⟩),.pointer (some ⟨f,0,none⟩)] w K:=by
 refine cN Tryz.func320 ?_;refine dF ?_;refine dD b ?_;refine dF ?_;apply az (.bool (decide (decide (0<n)=decide (0<q)))) w (by by_cases g:0<n<;>by_cases e:0<q<;>simp[go_sem,g,e]);unfold ot at a;by_cases c:decide (0<n)=decide (0<q)
 ·rw[zZ c];rw[ab c]at a;exact a
 ·rw[bG,aa (by grind)];rw[aa c]at a;refine dD d ?_;simp only[iI];exact Br h a
end Go.Proofs
namespace Go.Proofs
open Go Go.Vc
attribute [local congr] bj
def Hg:∀{l:List Hd} {last:Int},xF last l=true->∀d∈l,-10000000<=d.q/\d.q<=10000000
 |d::l,last,h,x,a=>by
  rw[xF,ah,ah]at h;rcases aq.1 a with rfl|a
  ·exact bz h.1.2
  ·exact Hg h.2 x a
def KY{q n:Int}(h: -10000000<=n/\n<=10000000):0<=ot q n/\ot q n<=10000000:=by
 unfold ot wL;split<;>omega
def Nl{w:Wt_}{K:be}{s:Vt_}{l:List Hd}{q:Int}(h:Rd w 2 s l.length (l.flatMap BR))(hn:l.length<=100000)(hl:∀d∈l,d.Fit)(X:dM q)
  (hK:∀s' w',HdS w' s' (jE q l).1->M0 w w' ->(∀b,aQ s' b->w.heap.size<=b)->K (.tuple #[s',gI (jE q l).2]) w'):Ca pQ 278 #[.int .i64 q,s] w K:=by
 refine cN Tryz.func278 ?_;obtain⟨a,c,hs⟩:=h.isSl;obtain⟨n0,Y⟩:=dW w.heap.size;have m1:M0 w (w.alloc (.cells #[.int .i64 q] 2)):=nl;have b1:hC (w.alloc (.cells #[.int .i64 q] 2)) n0 #[.int .i64 q] 2:=by rw[Y];simp[go_sem]
 apply az (cU n0 0) (w.alloc (.cells #[.int .i64 q] 2)) (by rw[Y];simp[go_sem]);generalize w.alloc (.cells #[.int .i64 q] 2)=w1 at m1 b1|-;have E:∀{W:Wt_},(builtin .len #[392] 3 #[false] #[s]).run pQ W=.ok (.value (gI (l.length:Int))) W:=λ{W}=>by rw[hs];simp[go_sem]
 have bad:∀e W,jE q l=([],e)->M0 w W->K (.tuple #[.slice none 0 0,gI e]) W:=λe W he m=>by
  have hk:=hK (.slice none 0 0) W (by rw[he];exact il.nil _ _ _) m λb g=>by cases g
  rw[he]at hk;exact hk
 apply zw E;by_cases I:64<l.length
 ·have u:(64:Int)<(l.length:Int):=qZ;refine ee u ?_;exact bad 3 w1 (by unfold jE;rw[ab I]) m1
 have u:¬(64:Int)<(l.length:Int):=qZ;refine fH u ?_;have hd1:=h.mod m1 eI;refine dU.at (λst W=>st=(.bool (decide (q=0\/aY q (-10000000) 10000000=false\/xF 0 l=false)),())/\M0 w1 W) ?_ ?_
 ·refine dD b1 ?_;by_cases H:q=0
  ·refine ee H ?_;exact⟨by grind,rC⟩
  ·refine fH H ?_;refine dD b1 ?_;apply ib X qZ;cases O:aY q (-10000000) 10000000 with
   |false=>
    refine ee O ?_;exact⟨by simp,rC⟩
   |true=>
    refine fH O ?_;refine VO hd1 qZ hl λD m2=>?_;refine dF ?_;exact⟨by cases xF 0 l<;>simp[H],m2⟩
 rintro _ D ⟨rfl,m2⟩;refine qk ?_;intro _;by_cases n:q=0\/aY q (-10000000) 10000000=false\/xF 0 l=false
 ·rw[zZ n];exact bad 2 D (by unfold jE;rw[aa I,ab n]) (m1.trans m2)
 rw[bG,aa (by grind)]
 have hqr: -10000000<=q/\q<=10000000:=by
  have:aY q (-10000000) 10000000=true:=by
   cases O:aY q (-10000000) 10000000 with
   |true=>rfl
   |false=>exact absurd (.inr (.inl O)) n
  exact bz this
 have hds:xF 0 l=true:=by
  cases O:xF 0 l with
  |true=>rfl
  |false=>exact absurd (.inr (.inr O)) n
 have v:=Hg hds;obtain⟨C,hf0⟩:=dW D.heap.size;have m3:M0 D (D.alloc (.cells #[.nilFunc] 434)):=nl;have b3:hC (D.alloc (.cells #[.nilFunc] 434)) C #[.nilFunc] 434:=by rw[hf0];simp[go_sem]
 apply az (cU C 0) (D.alloc (.cells #[.nilFunc] 434)) (by rw[hf0];simp[go_sem]);generalize D.alloc (.cells #[.nilFunc] 434)=J at m3 b3|-;apply nz (J.setCell ⟨C,0,none⟩ (.func (.func 319) #[] #[])) (by simp[go_sem];rw[run_store _ _ _ _ _ rfl];simp[go_sem,b3]);have m4:bn (λx=>x=C) J (J.setCell ⟨C,0,none⟩ (.func (.func 319) #[] #[])):=(bn.refl (λx=>x=C) J).sc;have b4:hC (J.setCell ⟨C,0,none⟩ (.func (.func 319) #[] #[])) C #[.func (.func 319) #[] #[]] 434:=by simp[go_sem,b3]
 generalize J.setCell ⟨C,0,none⟩ (.func (.func 319) #[] #[])=w4 at m4 b4|-;have M24:M0 D w4:=m3.on m4 λx hx=>gT;have M4:=(m1.trans m2).trans M24;have c4:=(m2.trans M24).hpk b1 id;apply zw E
 refine iz (λst W=>∃(i:Nat) (N:Vt_),st=(N,gI (((l.take i).map λd=>ot q d.q).sum),gI i,())/\i<=l.length/\tx W N ((l.take i).map λd=>ot q d.q)/\M0 w4 W/\∀b,aQ N b->w4.heap.size<=b)
  (λst _=>match st.2.2.1 with| .int _ i=>l.length - i.toNat|_=>0) ⟨0,.slice none 0 0,by simp,qZ,il.nil _ _ _,rC,λb g=>(by cases g)⟩ ?_
 rintro⟨N,_,_,_⟩ W ⟨i,sA0,⟨⟩,hi,j1,j2,j3⟩ KN hKN;refine rT ?_;intro _
 have G:∀i,0<=((l.take i).map λd=>ot q d.q).sum/\((l.take i).map λd=>ot q d.q).sum<=64*10000000:=λi=>by
  have:=rK (l:=(l.take i).map λd=>ot q d.q) (B:=10000000) λx hx=>by
   obtain⟨d,Q,rfl⟩:=aD.1 hx;exact KY (v d (bm Q))
  rw[af,av]at this;omega
 by_cases T:i<l.length
 ·have hlt' :(i:Int)<(l.length:Int):=qZ;refine ee hlt' ?_;obtain⟨b,off,e1,e2,-⟩:=XF ((h.mod M4 eI).mod j2 eI) T;refine dy (e1 _) (dy e2 ?_);obtain⟨wv,w5,v1,v2,U,v4⟩:=Wh l[i] W;obtain⟨p,hp0⟩:=dW W.heap.size;rw[<-hp0]at v1 v2 U;refine dy v1 (lO v2 ?_);obtain⟨d,Q⟩:=dW (l[i]);rw[<-Q]at U;have hdr:=v d (by grind);have htk:l.take (i+1)=l.take i++[d]:=by rw[Q];exact bV T
  unfold BR at U;refine dF ?_;refine dD U ?_;simp only[iI];have J2:=j2.trans v4;apply HX ⟨qZ,qZ⟩ (J2.hpk c4 id) (J2.hpk b4 id);have own5:tx w5 N ((l.take i).map λd=>ot q d.q):=j1.mod v4 eI;refine vz (x:=ot q d.q) (f:=sj) xB (dG Wb) (λ_=>rfl) uI rfl own5 (by grind) qZ λsA' F M m6 n6=>?_;have hpA:∀b,aQ N b->b<p:=λb g=>by rw[hp0];exact j1.lt g
  have c6:=m6.hpk U λg=>by grind
  have J6:=J2.on m6 λb g=>.inr (j3 b g);refine dF ?_;refine dD c6 ?_;apply HX ⟨qZ,qZ⟩ (J6.hpk c4 id) (J6.hpk b4 id);have V:((l.take (i+1)).map λd=>ot q d.q).sum=((l.take i).map λd=>ot q d.q).sum+ot q d.q:=by rw[htk];simp
  have hb1:=G i;have hb2:=G (i+1);obtain⟨S0,z⟩:=dW (((l.take i).map λd=>ot q d.q).sum);rw[<-z]at hb1 V|-;apply az (gI (S0+ot q d.q)) F (by simp[go_sem];rw[mL]);apply az (gI ((i+1:Nat):Int)) F (by simp[go_sem];rw[mL]);have hs5:=J2.size;refine hKN _ _ ⟨i+1,sA',by rw[V],qZ,?_,J6,λb g=>(n6 b g).elim (j3 b) λh' =>qZ⟩ (by grind);have e:((l.take (i+1)).map λd=>ot q d.q)=((l.take i).map λd=>ot q d.q)++[ot q d.q]:=by rw[htk];simp
  rw[e];exact M
 ·obtain rfl:i=l.length:=qZ;refine fh ?_;have hb0:=G l.length;rw[aL]at j1 hb0|-;have d4:=j2.hpk c4 id;have e4:=j2.hpk b4 id;refine dD e4 ?_;refine dD d4 ?_;simp only[iI];apply Br ⟨qZ,qZ⟩;obtain⟨S0,z⟩:=dW ((l.map λd=>ot q d.q).sum);obtain⟨A,hA⟩:=dW (wL q);have hAb:0<=A/\A<=10000000:=by rw[hA];unfold wL;omega
  have MW:=M4.trans j2
  have y:jE q l=if S0<A then([],7)else if(fq A (l.map λd=>ot q d.q)).2≠0 then([],(fq A (l.map λd=>ot q d.q)).2)else(sE (l.zip (fq A (l.map λd=>ot q d.q)).1),0):=by
   unfold jE;rw[aa I,aa n,<-z,<-hA]
  rw[<-z,<-hA];by_cases r:S0<A
  ·refine ee r ?_;exact bad 7 W (by grind) MW
  refine fH r ?_;rw[aa r]at y;refine dD e4 ?_;refine dD d4 ?_;simp only[iI];apply Br ⟨qZ,qZ⟩;rw[<-hA]
  refine Hk j1.rd (λx hx=>by
   obtain⟨d,Q,rfl⟩:=aD.1 hx;have:=KY (q:=q) (v d Q);constructor<;>omega) ⟨qZ,qZ⟩ (by grind) λv76 F M m6 n6=>?_
  obtain⟨R,hR⟩:=dW (fq A (l.map λd=>ot q d.q));rw[<-hR]at M y|-;obtain⟨va,vc,hva,-⟩:=M.isSl;have M6:=MW.trans m6;apply az v76 F (by rw[hva];simp[go_sem]);refine dF ?_;by_cases t:R.2=0
  case neg=>
   refine ee t ?_;exact bad R.2 F (by grind) M6
  refine fH t ?_;rw[aa (by simpa using t)]at y
  have hRl:R.1.length=l.length:=by
   rw[hR]at t|-;rw[vX t,af]
  apply ke (gI (R.1.length:Int)) F (by rw[hva];simp[go_sem]);have hzl:(l.zip R.1).length=l.length:=by grind
  have hs6:=M6.size
  refine iz (λst W2=>∃(k:Nat) (L:Vt_),st=(L,gI k,())/\k<=l.length/\HdS W2 L (sE ((l.zip R.1).take k))/\M0 F W2/\∀b,aQ L b->F.heap.size<=b)
   (λst _=>match st.2.1 with| .int _ k=>l.length - k.toNat|_=>0) ⟨0,.slice none 0 0,rfl,qZ,il.nil _ _ _,rC,λb g=>(by cases g)⟩ ?_
  rintro⟨L,_,_⟩ Z ⟨k,sO0,⟨⟩,hk,q1,P,q3⟩ KM hKM;refine rT ?_;intro _
  have hpl:(sE ((l.zip R.1).take k)).length<=64:=by
   unfold sE;rw[af];apply bK (aX _ _);rw[av];omega
  by_cases hkl:k<l.length
  ·have j:k<R.1.length:=qZ;refine ee j ?_;obtain⟨p2,f2,g2⟩:=M.el (i:=k) j;have r7:tx Z v76 R.1:=M.mod P eI;refine dy (f2 .i64 Z) (dy (g2 _ _ r7 j).1 ?_)
   have S:(l.zip R.1).take (k+1)=(l.zip R.1).take k++[(l[k],R.1[k])]:=by
    rw[bV qZ,List.getElem_zip]
   by_cases o:0<R.1[k]
   ·refine ee o ?_;obtain⟨b,off,e1,-,e3⟩:=XF ((h.mod M6 eI).mod P eI) hkl;apply dy (e1 _);refine dD bQ ?_;apply dy e3;apply az (Zj ⟨l[k].acct,R.1[k]⟩) Z (by simp[go_sem,Zj,BR]);refine vz (x:=(⟨l[k].acct,R.1[k]⟩:Hd)) (f:=BR) UK (dG eHd) KE V0 rfl q1 qZ qZ λsO' w8 o8 m8 n8=>?_;apply az (gI ((k+1:Nat):Int)) w8 (by simp[go_sem];rw[mL]);have hs7:=P.size;refine hKM _ _ ⟨k+1,sO',rfl,qZ,?_,P.on m8 λb g=>.inr (q3 b g),λb g=>(n8 b g).elim (q3 b) λh' =>qZ⟩ (by grind)
    have e:sE ((l.zip R.1).take (k+1))=sE ((l.zip R.1).take k)++[⟨l[k].acct,R.1[k]⟩]:=by
     rw[S];unfold sE;rw[cj,aK,bF (by simpa using o)];rfl
    rw[e];exact o8
   ·refine fH o ?_;apply az (gI ((k+1:Nat):Int)) Z (by simp[go_sem];rw[mL]);refine hKM _ _ ⟨k+1,L,rfl,qZ,?_,P,q3⟩ (by grind)
    have e:sE ((l.zip R.1).take (k+1))=sE ((l.zip R.1).take k):=by
     rw[S];unfold sE;rw[cj,aK,aU (by simpa using o),ey,ed,aC]
    rw[e];exact q1
  ·have hkn:k=l.length:=qZ;have j:¬k<R.1.length:=qZ;refine fH j ?_;rw[ay qZ]at q1;rw[y]at hK;exact hK L Z q1 (M6.trans P) λb g=>by grind
end Go.Proofs
