/- Part of a proof. -/
import Derived.Test.YtgebhcgmckjbbaaGreatB17
set_option linter.all false
namespace Go.Proofs
open Go Go.Vc
attribute [local congr] cr
def AF{P:Program}{t e:TypeId}{sz g m:Nat}{w:World}{x:Value}{a:List Value}{K:cm}(i:P.underlying t=some (.slice e))(j:pg P e sz g)(y:Rd w sz x m a)(h1:a.all (·.oneCell')=true)(c:m*g<=140737488355328)
  (r:∀d f,dW f e sz d m a->cl (λ_=>False) w f->(∀b,co d b->w.heap.size<=b)->K d f):
  rx P (dP t 0 []) w λv p=>rx P (cv #[t,t] t [v,x]) p K:=by
 refine fg [] i j rfl rfl (by simp) (by omega) ?_;have k:∀o,cl (λ_=>False) w (w.alloc o):=λo=>(cl.refl _ w).alloc o;refine dt (n:=0) (m:=m) (cs:=[]) i i j ?_ (y.mod (k _) λ_ _ h=>h) h1 (by rw[Nat.zero_add];exact c) λd f s u q=>?_
 ·refine⟨by simp,.inr ⟨w.heap.size,0,[],rfl,Nat.le_refl _,?_,by simp⟩⟩;rw[cY,if_pos rfl];simp
 ·have l:∀b,co (.slice (some ⟨w.heap.size,0,none⟩) 0 0) b->w.heap.size<=b:=λb c=>by
   simp only[co,uw]at c;have:=Option.some.inj c;omega
  refine r d f (by simpa using s) ((k _).on u λb c=>.inr (l b c)) λb c=>?_;rcases q b c with h|h
  ·exact l b h
  ·rw[World.size_alloc]at h;omega
def Ah{w:World}{r:Nat}{F:Nat->Prop}{R:dM}{K:cm}(h:zu w r F R)(q:R.all.length<=64)(j:0<=R.fund/\R.fund<=MF)(c:PA R.all)(u:K (.int .i64 R.funds) w):Ca Tryz.prog 167 #[dm r] w K:=by
 obtain⟨⟨L,P,h1,p,T,J,M⟩,U,z⟩:=h;obtain⟨E,v,n⟩:=p.isSl;subst n;apply OD;simp[go_sem,dm,cO h1]
 refine jQ (λs W=>∃(i:Nat),i<=R.all.length/\s=(.int .i64 (R.fund+((R.all.map (·.cash)).take i).sum),.int .i64 i,())/\W=w)
  (λs _=>match s.2.1 with| .int _ i=>R.all.length - i.toNat|_=>0) ⟨0,by omega,by simp,rfl⟩ ?_
 rintro⟨_,_⟩ W ⟨i,V,⟨⟩,rfl⟩ G f;unfold Ef;intro _;have y:=jJ (i:=i) (by omega);by_cases d:i<R.all.length
 ·obtain⟨b,m,k,C,e,I,g,t,N,x,Q,S⟩:=zS p d;obtain⟨rfl,-,rfl⟩:E=some ⟨b,m,none⟩/\True/\v=k:=by injection g with A O B;exact⟨A,trivial,B⟩
  have H:((R.all.map (·.cash)).take (i+1)).sum=((R.all.map (·.cash)).take i).sum+R.all[i].cash:=by
   rw[List.take_add_one];simp[d]
  have hp:PA (R.all.take (i+1)):=⟨c.srt.sublist (List.take_sublist ..),λa D=>c.num a (List.mem_of_mem_take D)⟩
  have l:=hp.sum (by rw[List.length_take];omega);rw[List.map_take]at l;simp only[MF]at j
  have o:IntKind.i64.wrap (R.fund+((R.all.map (·.cash)).take i).sum+R.all[i].cash)=R.fund+((R.all.map (·.cash)).take (i+1)).sum:=by
   rw[IntKind.wrap_i64];omega
  simp[-Int.natCast_add,go_sem,dm,cO h1,d,t,x];rw[o,y];exact f _ _ ⟨i+1,by omega,rfl,rfl⟩ (by simp;omega)
 ·obtain rfl:i=R.all.length:=by omega
  simp[go_sem,dm,cO h1];rw[show R.fund+((R.all.map (·.cash)).take R.all.length).sum=R.funds by rw[List.take_of_length_le (by simp)];rfl];exact u
def wn{P:Program}{s:Sem Next}{w:World}{K:cm}{v:Value}{w' :World}(h:s.run P w=.ok (.value v) w')(a:K v w'):rn P s w K:=by
 rw[iP];unfold CR;rw[h];exact a
def HA(x y u v:Int):(!ni (x,y) (u,v))=(if u<x then true else if x=u then decide (v<=y)else false):=by
 unfold ni;by_cases h1:u<x
 ·rw[if_pos h1];simp;omega
 ·rw[if_neg h1];by_cases a:x=u
  ·rw[if_pos a,Bool.eq_iff_iff];simp;omega
  ·rw[if_neg a];simp;omega
def Be{P:List Po}{i:Nat}(hi:i<P.length)(h:mM (P.take i))(f:∀(h:i - 1<P.length),0<i->ni P[i - 1].key P[i].key=true):mM (P.take (i+1)):=by
 rw[fK hi];refine List.pairwise_append.2 ⟨h,List.pairwise_singleton ..,λx g y d=>?_⟩;rw[List.mem_singleton]at d;subst d;obtain⟨j,c,rfl⟩:=List.getElem_of_mem g;have b:=c;rw[List.length_take]at b;rw[List.getElem_take];have a:=f (by omega) (by omega);by_cases e:j=i - 1
 ·subst e;exact a
 ·have h1:=List.pairwise_iff_getElem.1 h j (i - 1) c (by rw[List.length_take];omega) (by omega);rw[List.getElem_take,List.getElem_take]at h1;exact qZ h1 a
set_option maxRecDepth 10000 in
set_option maxHeartbeats 2000000 in
def GJ{w:World}{f:Int}{va vp:Value}{A:List Ac}{P:List Po}{K:cm}(hA:Rd w 4 va A.length (A.flatMap cJ))(hP:Rd w 4 vp P.length (P.flatMap cK))(hn:A.length<4294967296)(hl:P.length<=1024)
  (uA:∀a∈A,fq a.num)(uP:∀p∈P,(fq p.c/\fq p.a)/\eQ p.q/\eQ p.b)
  (hok:lx f A P->∀u r G,zu u r G ⟨f,A,P⟩->cl (λ_=>False) w u->(∀b,G b->w.heap.size<=b)->K (.tuple #[dm r,.int .i64 0]) u)
  (N:¬lx f A P->∀u,cl (λ_=>False) w u->K (.tuple #[.pointer none,.int .i64 2]) u):
  Ca Tryz.prog 84 #[.int .i64 f,va,vp] w K:=by
 obtain⟨aA,cA,rfl⟩:=hA.isSl;obtain⟨aP,cP,rfl⟩:=hP.isSl;apply RR;refine cB.at (λs W=>s=(.bool (!cy f 0 MF||decide (64<A.length)),())/\W=w) ?_ ?_
 ·refine jr ?_;have hM:cy f 0 1000000000000000=cy f 0 MF:=rfl;rw[hM];cases hf:cy f 0 MF
  ·simp[go_sem]
  ·by_cases Z:64<A.length
   ·have h64' :(64:Int)<(A.length:Int):=by omega
    simp[go_sem,Z,h64']
   ·have h64' :¬(64:Int)<(A.length:Int):=by omega
    simp[go_sem,Z,h64']
 rintro _ w ⟨rfl,rfl⟩;unfold Jf;intro _;by_cases j:(!cy f 0 MF||decide (64<A.length))=true
 ·rw[j];simp only[ci,if_true];refine N (λh=>?_) _ (cl.refl _ _);rw[h.fund]at j;have:=h.len;simp at j;omega
 rw[Bool.eq_false_iff.2 j];simp only[ci,Bool.false_eq_true,if_false]
 have Z:A.length<=64:=by
  apply Classical.byContradiction;intro h;apply j;simp;right;omega
 have hf:cy f 0 MF=true:=by
  cases hh:cy f 0 MF with
  |true=>rfl
  |false=>exact absurd (by rw[hh];rfl) j
 clear j;refine AF PK (cI Ou) hA (by simp[cJ,Value.oneCell']) (by omega) λsA w1 oA m1 nA=>?_;refine AF LR (cI Lj) (hP.mod m1 λ_ _ h=>h) (by simp[cK,Value.oneCell']) (by omega) λsH w2 oH m2 nH=>?_;obtain⟨bA,dA,rfl,-⟩:=oA.isSl;obtain⟨bH,dH,rfl,-⟩:=oH.isSl;obtain⟨r,hr⟩:∃r,r=w2.heap.size:=⟨_,rfl⟩
 refine dL (by simp[go_sem];first|exact⟨rfl,rfl⟩|exact rfl) ?_;refine dL (by simp[go_sem];first|exact⟨rfl,rfl⟩|exact rfl) ?_;rw[<-hr];generalize hw3:World.alloc _ _=w3;have m3:cl (λ_=>False) w2 w3:=by subst hw3;exact(cl.refl _ w2).alloc _
 have gr:hp w3 r=some (.cells #[.int .i64 f,.slice bA A.length dA,.slice bH P.length dH] 269 (0,0)):=by subst hw3 hr;simp[go_sem]
 have m03:cl (λ_=>False) w w3:=(m1.trans m2).trans m3;have oA2:=oA.mod m2 λ_ _ h=>h;have s1:=m1.size;have s2:=m2.size
 have hq:zu w3 r (λb=>w.heap.size<=b/\b<=r) ⟨f,A,P⟩:=by
  refine⟨⟨_,_,gr,(oA2.mod m3 λ_ _ h=>h).rd,(oH.mod m3 λ_ _ h=>h).rd,λb R=>?_,λb R=>?_⟩,⟨by omega,Nat.le_refl _⟩,λb R=>?_⟩
  ·have h1:=nA b (eM.sl R);have S:=oA2.lt (eM.sl R);exact⟨⟨h1,by omega⟩,by omega⟩
  ·have h1:=nH b (eM.sl R);have S:=oH.lt (eM.sl R);exact⟨⟨by omega,by omega⟩,by omega⟩
  ·have:=cn gr;exact Nat.lt_of_le_of_lt R.2 this
 clear hw3 gr oA oH oA2 nA nH
 refine jQ (λs W=>∃(i:Nat) (last:Int) (x1 x2:Value),i<=A.length/\s=(x1,x2,.int .i64 i,())/\pC (A.take i) last/\(i=0->last=0)/\(∀(h:i - 1<A.length),0<i->A[i - 1].num=last)/\cl (λ_=>False) w3 W)
  (λs _=>match s.2.2.1 with| .int _ i=>A.length - i.toNat|_=>0) ⟨0,0,.pointer none,.int .i64 0,by omega,rfl,pC.nil,λ_=>rfl,λ_ h=>by omega,cl.refl _ _⟩ ?_
 rintro⟨y1,y2,_⟩ W ⟨i,last,x1,x2,hi,⟨⟩,n,hz,hp,mW⟩ KN y;unfold JN;intro _;refine wn (v:=.int .i64 A.length) (w' :=W) (by simp[go_sem]) ?_;by_cases d:i<A.length
 ·have hAW:=hA.mod (m03.trans mW) λ_ _ h=>h;obtain⟨b,off,cap,C,e',fz,e,hC,c0,c1,c2,c3⟩:=zS hAW d;have hw:=jJ (i:=i) (by omega);have hu:=uA _ (List.getElem_mem d);have h0:=n.pos;refine dL (v:=.bool true) (w' :=W) (by simp[go_sem,d]) ?_;rw[ci,if_pos rfl];refine cB.at (λs Q=>s=(.bool (decide (A[i].num<=last)|| !cy A[i].cash 0 MF),())/\Q=W.drew) ?_ ?_
  ·have hM:cy A[i].cash 0 1000000000000000=cy A[i].cash 0 MF:=rfl;by_cases M:A[i].num=0
   ·cases e;simp[-Int.natCast_add,go_sem,d,hC,c0,c1,M,h0]
   ·by_cases F:i=0
    ·subst F;have hl0:=hz rfl;subst hl0;have hnn:¬A[0].num<=0:=by have:=hu.1;omega
     cases e;simp at c0 c1;simp[-Int.natCast_add,go_sem,d,hC,c0,c1,M,hnn];refine jr ?_;rw[hM];simp[go_sem]
    ·have o:i - 1<A.length:=by omega
     obtain⟨b',off',cap',C',e'',fz',e2,O,d0,d1,d2,d3⟩:=zS hAW o;have hpn:=hp o (by omega);cases e;cases e2;rw[hC]at O;obtain⟨rfl,rfl,rfl⟩:C=C' /\e' =e'' /\fz=fz' :=by injection O with h;injection h with h1 S h3;exact⟨h1,S,h3⟩
     have hs:IntKind.i64.wrap ((i:Int) - 1)=((i - 1:Nat):Int):=by rw[IntKind.wrap_i64];omega
     have m:0<i:=by omega
     rw[hpn]at d0;by_cases hle:A[i].num<=last
     ·simp[-Int.natCast_add,go_sem,d,o,hC,c0,c1,d0,M,m,hs,hle]
     ·simp[-Int.natCast_add,go_sem,d,o,hC,c0,c1,d0,M,m,hs,hle];refine jr ?_;rw[hM];simp[go_sem]
  rintro _ _ ⟨rfl,rfl⟩;unfold mO;intro _;have mD:cl (λ_=>False) w3 W.drew:=mW.drew;by_cases j:(decide (A[i].num<=last)|| !cy A[i].cash 0 MF)=true
  ·rw[j];simp only[ci,if_true];refine N (λh=>?_) _ (m03.trans mD);refine absurd h.pa (pC.bad d n ?_);rw[Bool.or_eq_true,decide_eq_true_eq]at j;rcases j with h|h
   ·exact .inl h
   ·exact .inr (by simpa using h)
  ·rw[Bool.eq_false_iff.2 j]
   have h1:last<A[i].num:=by
    apply Classical.byContradiction;intro h;apply j;simp;left;omega
   have S:cy A[i].cash 0 MF=true:=by
    cases hh:cy A[i].cash 0 MF with
    |true=>rfl
    |false=>exact absurd (by rw[hh];simp) j
   have hinv' :=n.step h1 S;rw[<-fK d]at hinv';simp only[ci,Bool.false_eq_true,if_false];simp[-Int.natCast_add,go_sem,hw];exact y _ _ ⟨i+1,A[i].num,_,_,by omega,rfl,hinv',λh=>by omega,λh _=>rfl,mD⟩ (by simp;omega)
 ·obtain rfl:i=A.length:=by omega
  clear y;rw[List.take_of_length_le (Nat.le_refl _)]at n;refine dL (v:=.bool false) (w' :=W) (by simp[go_sem]) ?_;rw[ci,if_neg Bool.false_ne_true];refine Ah (hq.modF mW) Z (ec.1 hf) n.pa ?_;have hfun:(dM.mk f A P).funds=f+(A.map (·.cash)).sum:=rfl;rw[hfun];by_cases L:f+(A.map (·.cash)).sum<=MF
  ·refine dL (v:=.bool false) (w' :=W) (by simp[go_sem,MF]at L|-;omega) ?_;rw[ci,if_neg Bool.false_ne_true];have hpa:=n.pa;clear hz hp n;have J:=m03.trans mW;have hqW:=hq.modF mW;generalize hwb:W=wb at J hqW;subst hwb;clear hq mW
   refine jQ (λs Q=>∃(i:Nat) (x1 x2:Value),i<=P.length/\s=(x1,x2,.int .i64 i,())/\mM (P.take i)/\(∀p∈P.take i,pf A p)/\cl (λ_=>False) W Q)
    (λs _=>match s.2.2.1 with| .int _ i=>P.length - i.toNat|_=>0) ⟨0,_,_,by omega,rfl,List.Pairwise.nil,by simp,cl.refl _ _⟩ ?_
   rintro⟨z1,z2,_⟩ W2 ⟨i,x1',x2',hi,⟨⟩,X,t,mW2⟩ KN y;have U:=hP.mod (J.trans mW2) λ_ _ h=>h;unfold Ky;intro _;refine wn (v:=.int .i64 P.length) (w' :=W2) (by simp[go_sem]) ?_;by_cases d:i<P.length
   ·obtain⟨b,off,cap,C,e',fz,e,hC,c0,c1,c2,c3⟩:=Bb U d;cases e;have hw:=jJ (i:=i) (by omega);have hmem:P[i]∈P:=List.getElem_mem d;have hu:=uP _ hmem;have hsn:=Be d X;have htk:=fK d
    obtain⟨kb,hk0,hk1⟩:∃kb:Bool,(i=0->kb=false)/\∀h:i - 1<P.length,0<i->kb= !ni P[i - 1].key P[i].key:=by
     by_cases F:i=0
     ·exact⟨false,λ_=>rfl,λ_ h=>by omega⟩
     ·exact⟨!ni (P[i - 1]'(by omega)).key P[i].key,λh=>absurd h F,λ_ _=>rfl⟩
    have hkey:P[i].key=(P[i].c,P[i].a):=rfl;refine dL (v:=.bool true) (w' :=W2) (by simp[go_sem,d]) ?_;rw[ci,if_pos rfl];refine dL (by simp[-Int.natCast_add,go_sem,d];first|exact⟨rfl,rfl⟩|exact rfl) ?_;refine dL (by simp[-Int.natCast_add,go_sem,d,hC,c0,c1,c2,c3];first|exact⟨rfl,rfl⟩|exact rfl) ?_;obtain⟨np,hnp⟩:∃np,np=W2.heap.size:=⟨_,rfl⟩
    refine dL (by simp[go_sem];first|exact⟨rfl,rfl⟩|exact rfl) ?_;refine wL (by simp[-Int.natCast_add,go_sem];first|exact⟨rfl,rfl⟩|exact rfl) ?_;rw[<-hnp];generalize hW3:W2.alloc _=W3;have mw3:cl (λ_=>False) W2 W3:=by subst hW3;exact(cl.refl _ W2).alloc _
    have g1:hp W3 np=some (.cells #[.int .u32 P[i].c,.int .u32 P[i].a,.int .i64 P[i].q,.int .i64 P[i].b] 112 (0,0)):=by subst hW3 hnp;simp[go_sem]
    have hPW3:=U.mod mw3 λ_ _ h=>h;clear hW3;refine cB.at (λs Q=>s=(.bool kb,())/\Q=W3.drew) ?_ ?_
    ·by_cases F:i=0
     ·have:=hk0 F;subst this;subst F;simp[-Int.natCast_add,go_sem]
     ·have o:i - 1<P.length:=by omega
      obtain⟨b',off',cap',C',e'',fz',e2,O,d0,d1,d2,d3⟩:=Bb hPW3 o;cases e2;have hkk:=hk1 o (by omega);have hs:IntKind.i64.wrap ((i:Int) - 1)=((i - 1:Nat):Int):=by rw[IntKind.wrap_i64];omega
      have m:0<i:=by omega
      have hv:kb=(if P[i].c<P[i - 1].c then true else if P[i - 1].c=P[i].c then decide (P[i].a<=P[i - 1].a)else false):=by
       rw[hkk];exact HA ..
      rw[hv];by_cases h1:P[i].c<P[i - 1].c
      ·simp[-Int.natCast_add,go_sem,d,o,O,d0,d1,cO g1,m,hs,h1]
      ·by_cases S:P[i - 1].c=P[i].c
       ·rw[S]at d0 h1;simp[-Int.natCast_add,go_sem,d,o,O,d0,d1,cO g1,m,hs,h1,S]
       ·simp[-Int.natCast_add,go_sem,d,o,O,d0,d1,cO g1,m,hs,h1,S]
    rintro _ _ ⟨rfl,rfl⟩;have mD:cl (λ_=>False) W W3.drew:=(mW2.trans mw3).drew;have gD:hp W3.drew np=some (.cells #[.int .u32 P[i].c,.int .u32 P[i].a,.int .i64 P[i].q,.int .i64 P[i].b] 112 (0,0)):=g1;have hqD:=hqW.modF mD;generalize W3.drew=W4 at mD gD hqD|-;generalize hpi:P[i]=p at*;unfold Jq;intro _;cases V:kb with
    |true=>
     simp only[ci,if_true];refine N (λh=>?_) _ (J.trans mD);have F:i≠0:=λe=>by rw[hk0 e]at V;cases V
     have h1:=hk1 (by omega) (by omega);have S:=List.pairwise_iff_getElem.1 h.srt (i - 1) i (by omega) d (by omega);rw[hpi]at S;rw[S]at h1;rw[h1]at V;cases V
    |false=>
     simp only[ci,Bool.false_eq_true,if_false];have eq1:cy p.q (-MP) MP=cy p.q (-10000000) 10000000:=rfl;have eq2:cy p.b (-MF) MF=cy p.b (-1000000000000000) 1000000000000000:=rfl;have hfd:(dM.mk f A P).find p.a=A.find? λx=>decide (x.num=p.a):=rfl;refine cB.at (λs Q=>s=(.bool (decide (p.c=0\/(dM.mk f A P).find p.a=none\/(p.q=0/\p.b=0))|| !cy p.q (-10000000) 10000000|| !cy p.b (-1000000000000000) 1000000000000000),())/\Q=W4) ?_ ?_
     ·by_cases a1:p.c=0
      ·simp[go_sem,cO gD,a1]
      ·simp[go_sem,cO gD,a1];refine G7 hqD (by simp only;omega) λix hnone hsome=>?_;cases E:(dM.mk f A P).find p.a with
       |none=>
        have:=hnone E;subst this;simp[go_sem]
       |some a=>
        obtain⟨k,rfl,-⟩:=hsome a E;have Y:¬((k:Int)<0):=by omega
        by_cases a4:p.q=0
        ·by_cases a5:p.b=0
         ·simp[go_sem,cO gD,a4,a5,Y]
         ·simp[go_sem,cO gD,a4,a5,Y];refine jr ?_;cases hq:cy 0 (-10000000) 10000000
          ·simp[go_sem]
          ·simp[go_sem,cO gD];refine jr ?_;simp[go_sem]
        ·simp[go_sem,cO gD,a4,Y];refine jr ?_;cases hq:cy p.q (-10000000) 10000000
         ·simp[go_sem]
         ·simp[go_sem,cO gD];refine jr ?_;simp[go_sem]
     rintro _ W4 ⟨rfl,rfl⟩;unfold mO;intro _;by_cases hr:(decide (p.c=0\/(dM.mk f A P).find p.a=none\/(p.q=0/\p.b=0))|| !cy p.q (-10000000) 10000000|| !cy p.b (-1000000000000000) 1000000000000000)=true
     ·rw[hr];simp only[ci,if_true];refine N (λh=>?_) _ (J.trans mD);have g:=h.good _ hmem
      have e3:¬(p.c=0\/(dM.mk f A P).find p.a=none\/(p.q=0/\p.b=0)):=by
       rintro(h1|h1|h1)
       ·exact g.c h1
       ·obtain⟨x,z,hxa⟩:=g.there;rw[hfd,List.find?_eq_none]at h1;exact h1 x z (by simpa using hxa)
       ·have:=g.some;simp[Po.isZ,h1]at this
      rw[decide_eq_false e3,<-eq1,<-eq2,g.q,g.b]at hr;cases hr
     rw[Bool.eq_false_iff.2 hr];simp only[ci,Bool.false_eq_true,if_false];have hr' :=Bool.eq_false_iff.2 hr;rw[Bool.or_eq_false_iff,Bool.or_eq_false_iff,decide_eq_false_iff_not,Bool.not_eq_false',Bool.not_eq_false']at hr';obtain⟨⟨r1,r2⟩,r3⟩:=hr'
     have hth:∃x∈A,x.num=p.a:=by
      cases E:(dM.mk f A P).find p.a with
      |none=>exact absurd (.inr (.inl E)) r1
      |some a=>
       rw[hfd]at E;exact⟨a,List.mem_of_find?_eq_some E,by simpa using List.find?_some E⟩
     have hg:pf A p:=⟨λe=>r1 (.inl e),λe=>(by
      obtain⟨x,z,hxa⟩:=hth;have:=(hpa.num x z).1;omega),hth,by rw[Po.isZ,decide_eq_false_iff_not];exact λe=>r1 (.inr (.inr e)),eq1.trans r2,eq2.trans r3⟩
     simp[-Int.natCast_add,go_sem,hw];refine y _ _ ⟨i+1,_,_,by omega,rfl,hsn λh h' =>?_,λx z=>?_,mD⟩ (by simp;omega)
     ·have:=hk1 h h';rw[V]at this;cases I:ni P[i - 1].key p.key with
      |true=>rfl
      |false=>rw[I]at this;cases this
     ·rw[htk]at z;rcases List.mem_append.1 z with z|z
      ·exact t x z
      ·rw[List.mem_singleton]at z;subst z;exact hg
   ·obtain rfl:i=P.length:=by omega
    clear y;rw[List.take_of_length_le (Nat.le_refl _)]at X t;refine dL (v:=.bool false) (w' :=W2) (by simp[go_sem]) ?_;rw[ci,if_neg Bool.false_ne_true]
    refine jQ (λs Q=>∃(i:Nat) (x1 x2:Value),i<=P.length/\s=(x1,x2,.int .i64 i,())/\(∀p∈P.take i,gg P p.c=0/\gj P p.c=0)/\cl (λ_=>False) W Q)
     (λs _=>match s.2.2.1 with| .int _ i=>P.length - i.toNat|_=>0) ⟨0,_,_,by omega,rfl,by simp,mW2⟩ ?_
    clear U mW2;rintro⟨u1,u2,_⟩ W3 ⟨i,x3,x4,hi,⟨⟩,hsum,T⟩ KN y;have U:=hP.mod (J.trans T) λ_ _ h=>h;unfold Kv;intro _;refine wn (v:=.int .i64 P.length) (w' :=W3) (by simp[go_sem]) ?_;by_cases d:i<P.length
    ·obtain⟨b,off,cap,C,e',fz,e,hC,c0,c1,c2,c3⟩:=Bb U d;cases e;have hw:=jJ (i:=i) (by omega);refine dL (v:=.bool true) (w' :=W3) (by simp[go_sem,d]) ?_;rw[ci,if_pos rfl];refine dL (by simp[-Int.natCast_add,go_sem,d];first|exact⟨rfl,rfl⟩|exact rfl) ?_;refine dL (by simp[-Int.natCast_add,go_sem];first|exact⟨rfl,rfl⟩|exact rfl) ?_;refine dL (by simp[-Int.natCast_add,go_sem,hC,c0];first|exact⟨rfl,rfl⟩|exact rfl) ?_;refine xK (hqW.modF T) (by simp only;omega) λw4 vh oh fh m4=>?_;have hHd:(dM.mk f A P).holders P[i].c=P.filter λp=>decide (p.c=P[i].c):=rfl;rw[hHd]at oh;have hHg:∀p∈P.filter (λp=>decide (p.c=P[i].c)),pf A p:=λp hp=>t p (List.mem_filter.1 hp).1;have hHl:=List.length_filter_le (λp:Po=>decide (p.c=P[i].c)) P;have hQ:gg P P[i].c=((P.filter λp=>decide (p.c=P[i].c)).map (·.q)).sum:=rfl;have hB:gj P P[i].c=((P.filter λp=>decide (p.c=P[i].c)).map (·.b)).sum:=rfl;generalize P.filter (λp=>decide (p.c=P[i].c))=H at oh hHg hHl hQ hB;obtain⟨ah,ch,rfl,-⟩:=oh.isSl
     refine jQ (λs Q=>∃k:Nat,k<=H.length/\s=(.int .i64 ((H.take k).map (·.q)).sum,.int .i64 ((H.take k).map (·.b)).sum,.int .i64 k,())/\Q=w4)
      (λs _=>match s.2.2.1 with| .int _ i=>H.length - i.toNat|_=>0) ⟨0,by omega,by simp,rfl⟩ ?_
     rintro⟨_,_⟩ w4 ⟨k,hk,⟨⟩,rfl⟩ KN2 hKN2;unfold JX;intro _;refine wn (v:=.int .i64 H.length) (w' :=w4) (by simp[go_sem]) ?_;by_cases I:k<H.length
     ·obtain⟨b',off',cap',D,e2',fz',e2,hD,d0,d1,d2,d3⟩:=Bb oh.rd I;cases e2;have hw2:=jJ (i:=k) (by omega);have g:=hHg _ (List.getElem_mem I);have t1:((H.take (k+1)).map (·.q)).sum=((H.take k).map (·.q)).sum+H[k].q:=by rw[fK I,List.map_append,List.sum_append];simp
      have t2:((H.take (k+1)).map (·.b)).sum=((H.take k).map (·.b)).sum+H[k].b:=by rw[fK I,List.map_append,List.sum_append];simp
      have b1:=qy (l:=(H.take (k+1)).map (·.q)) (B:=10000000) λx z=>by
       obtain⟨p,hp,rfl⟩:=List.mem_map.1 z;have:=ec.1 (hHg p (List.mem_of_mem_take hp)).q;simpa [MP]using this
      have b2:=qy (l:=(H.take (k+1)).map (·.b)) (B:=1000000000000000) λx z=>by
       obtain⟨p,hp,rfl⟩:=List.mem_map.1 z;have:=ec.1 (hHg p (List.mem_of_mem_take hp)).b;simpa [MF]using this
      rw[List.length_map,List.length_take]at b1 b2;have w1' :IntKind.i64.wrap (((H.take k).map (·.q)).sum+H[k].q)=((H.take (k+1)).map (·.q)).sum:=by rw[IntKind.wrap_i64,<-t1];omega
      have w2' :IntKind.i64.wrap (((H.take k).map (·.b)).sum+H[k].b)=((H.take (k+1)).map (·.b)).sum:=by rw[IntKind.wrap_i64,<-t2];omega
      simp[-Int.natCast_add,-List.map_take,go_sem,I,hD,d2,d3,w1',w2',hw2];exact hKN2 _ _ ⟨k+1,by omega,rfl,rfl⟩ (by simp;omega)
     ·obtain rfl:k=H.length:=by omega
      clear hKN2;rw[List.take_of_length_le (Nat.le_refl _),<-hQ,<-hB];refine dL (v:=.bool false) (w' :=w4) (by simp[go_sem]) ?_;rw[ci,if_neg Bool.false_ne_true];have m34:cl (λ_=>False) W w4:=T.trans m4;generalize hsq:gg P P[i].c=q;generalize hsb:gj P P[i].c=bb;refine cB.at (λs Q=>s=(.bool (decide (q≠0\/bb≠0)),())/\Q=w4) ?_ ?_
      ·by_cases hq:q=0
       ·by_cases R:bb=0
        ·simp[go_sem,hq,R]
        ·simp[go_sem,hq,R]
       ·simp[go_sem,hq]
      rintro _ w4 ⟨rfl,rfl⟩;unfold mO;intro _;by_cases hqb:q≠0\/bb≠0
      ·simp only[decide_eq_true hqb,ci,if_true];refine N (λh=>?_) _ (J.trans m34);have:=h.zero P[i].c;rw[hsq,hsb]at this;omega
      ·simp only[decide_eq_false hqb,ci,Bool.false_eq_true,if_false];simp[-Int.natCast_add,go_sem,hw];refine y _ _ ⟨i+1,_,_,by omega,rfl,λp hp=>?_,m34⟩ (by simp;omega);rw[fK d]at hp;rcases List.mem_append.1 hp with hp|hp
       ·exact hsum p hp
       ·rw[List.mem_singleton]at hp;rw[hp,hsq,hsb];omega
    ·obtain rfl:i=P.length:=by omega
     clear y;rw[List.take_of_length_le (Nat.le_refl _)]at hsum;refine dL (v:=.bool false) (w' :=W3) (by simp[go_sem]) ?_;rw[ci,if_neg Bool.false_ne_true]
     have ok:lx f A P:=⟨Z,hf,hpa,L,X,t,λc=>by
      by_cases hc:∃p∈P,p.c=c
      ·obtain⟨p,hp,rfl⟩:=hc;exact hsum p hp
      ·exact yA λp hp e=>hc ⟨p,hp,e⟩⟩
     exact hok ok _ r _ (hqW.modF T) (J.trans T) λb R=>R.1
  ·refine dL (v:=.bool true) (w' :=W) (by simp[go_sem,MF]at L|-;omega) ?_;rw[ci,if_pos rfl];exact N (λh=>L h.tot) _ (m03.trans mW)
end Go.Proofs
namespace Go.Proofs
open Go Go.Vc
def ij(buy:Bool)(l:List Od):Nat->Option Nat
 |0=>none
 |i+1=>
  match ij buy l i with
  |none=>some i
  |some a=>if dn buy (l.getD i fI).price (l.getD a fI).price then some i else some a
def lX(buy:Bool):Nat->List Od->List Od
 |0,_=>[]
 |n+1,l=>
  match ij buy l l.length with
  |none=>[]
  |some a=>l.getD a fI::lX buy n (l.eraseIdx a)
def ie(buy:Bool)(l:List Od):List Od:=lX buy l.length l
def mG(buy:Bool)(n:Nat)(l:List Od):lX buy (n+1) l=match ij buy l l.length with
  |none=>[]
  |some a=>l.getD a fI::lX buy n (l.eraseIdx a):=rfl
def HN{α:Type}{P:List α->Prop}(c:P [])(h1:∀l a,P l->P (l++[a]))(l:List α):P l:=by
 rw[<-List.reverse_reverse l];induction l.reverse with
 |nil=>exact c
 |cons a r b=>rw[List.reverse_cons];exact h1 _ _ b
def my{buy:Bool}{l:List Od}:∀{i a:Nat},ij buy l i=some a->a<i
 |0,a,h=>by cases h
 |i+1,a,h=>by
  unfold ij at h;cases c:ij buy l i with
  |none=>rw[c]at h;cases h;omega
  |some b=>
   rw[c]at h;simp only at h;have:=my c;split at h
   ·cases h;omega
   ·cases h;omega
def rz{buy:Bool}{l:List Od}:∀{i:Nat},0<i->∃a,ij buy l i=some a
 |0,h=>absurd h (by omega)
 |i+1,h=>by
  unfold ij;cases c:ij buy l i with
  |none=>exact⟨i,rfl⟩
  |some b=>
   simp only;split
   ·exact⟨_,rfl⟩
   ·exact⟨_,rfl⟩
def oy{l l' :List Od}{i:Nat}(h:i<l.length):(l++l').getD i fI=l.getD i fI:=by
 simp[List.getD,List.getElem?_append_left h]
def zd{buy:Bool}{l l' :List Od}:∀{i:Nat},i<=l.length->ij buy (l++l') i=ij buy l i
 |0,_=>rfl
 |i+1,h=>by
  unfold ij;rw[zd (i:=i) (by omega)];cases a:ij buy l i with
  |none=>rfl
  |some b=>
   have:=my a;simp only;rw[oy (by omega),oy (by omega)]
def ur{buy:Bool}{x o:Od}{L:List Od}(h:dn buy o.price x.price=true):iU buy (x::L) o=o::x::L:=by
 unfold iU xn;rw[List.findIdx?_cons,h];rfl
def qx{buy:Bool}{x o:Od}{L:List Od}(h:dn buy o.price x.price=false):iU buy (x::L) o=x::iU buy L o:=by
 unfold iU xn;rw[List.findIdx?_cons,h];simp only[Bool.false_eq_true,if_false];cases a:L.findIdx? λx=>dn buy o.price x.price with
 |none=>simp
 |some i=>simp
def tD{buy:Bool}{o:Od}:∀(n:Nat) (l:List Od),l.length=n->lX buy (n+1) (l++[o])=iU buy (lX buy n l) o
 |0,l,h=>by
  obtain rfl:=List.length_eq_zero_iff.1 h;rfl
 |n+1,l,h=>by
  obtain⟨a,f⟩:=rz (buy:=buy) (l:=l) (i:=n+1) (by omega);have j:=my f;have b:(l++[o]).length=n+2:=by simp[h]
  have c:(l++[o]).getD (n+1) fI=o:=by simp[List.getD,<-h]
  have k:ij buy (l++[o]) (n+2)=if dn buy o.price (l.getD a fI).price then some (n+1)else some a:=by
   show(match ij buy (l++[o]) (n+1)with
    |none=>some (n+1)
    |some a=>if dn buy ((l++[o]).getD (n+1) fI).price ((l++[o]).getD a fI).price then some (n+1)else some a)=_
   rw[zd (by omega),f];simp only;rw[c,oy (by omega)]
  have g:lX buy (n+1) l=l.getD a fI::lX buy n (l.eraseIdx a):=by
   rw[mG,h,f]
  rw[mG,b,k];by_cases d:dn buy o.price (l.getD a fI).price=true
  ·rw[if_pos d];simp only;rw[c];have m:(l++[o]).eraseIdx (n+1)=l:=by rw[List.eraseIdx_append_of_length_le (by omega),h];simp
   rw[m,g,ur d]
  ·have e:dn buy o.price (l.getD a fI).price=false:=by simpa using d
   rw[if_neg d];simp only;rw[oy (by omega),List.eraseIdx_append_of_lt_length (by omega),tD n (l.eraseIdx a) (by rw[List.length_eraseIdx_of_lt (by omega)];omega)];rw[g,qx e]
def vB{buy:Bool}{o:Od}{l:List Od}:ie buy (l++[o])=iU buy (ie buy l) o:=by
 unfold ie;rw[List.length_append,List.length_singleton];exact tD _ l rfl
def CM(buy:Bool)(l:List Od):Prop:=l.Pairwise λa b=>dn buy b.price a.price=false
def vC{buy:Bool}{o:Od}:∀{L:List Od},CM buy L->CM buy (iU buy L o)
 | [],_=>by show CM buy [o];exact List.pairwise_singleton _ _
 |x::L,h=>by
  obtain⟨h1,e⟩:=List.pairwise_cons.1 h;by_cases d:dn buy o.price x.price=true
  ·rw[ur d];refine List.pairwise_cons.2 ⟨λy a=>?_,h⟩
   have c:dn buy y.price x.price=false:=by
    rcases List.mem_cons.1 a with rfl|a
    ·unfold dn;cases buy<;>simp
    ·exact h1 y a
   unfold dn at d c|-;cases buy<;>simp at d c|- <;>omega
  ·have b:dn buy o.price x.price=false:=by simpa using d
   rw[qx b];refine List.pairwise_cons.2 ⟨λy a=>?_,vC e⟩;rcases List.mem_cons.1 ((kA _ _ _).mem_iff.1 a)with rfl|a
   ·exact b
   ·exact h1 y a
def mB(buy:Bool)(l:List Od):CM buy (ie buy l)/\(ie buy l).Perm l:=by
 refine HN (P:=λl=>CM buy (ie buy l)/\(ie buy l).Perm l) ⟨List.Pairwise.nil,List.Perm.refl _⟩ (λl o a=>?_) l;rw[vB];exact⟨vC a.1,(kA _ _ _).trans ((List.Perm.cons o a.2).trans (List.perm_append_singleton o l).symm)⟩
def iN(buy:Bool)(l:List Od):(ie buy l).length=l.length:=(mB buy l).2.length_eq
def Fk{L:List Od}{o:Od}(h:∀x∈L,d9 o x.price=false):eI (!o.buy) L o.price o.acct=0:=by
 unfold eI
 have:L.takeWhile (λx=> !dn (!o.buy) o.price x.price)=[]:=by
  cases L with
  |nil=>rfl
  |cons b r=>
   rw[List.takeWhile_cons_of_neg];have h1:=h b List.mem_cons_self;unfold d9 at h1;unfold dn;cases a:o.buy with
   |true=>rw[a]at h1;simp at h1|-;omega
   |false=>rw[a]at h1;simp at h1|-;omega
 rw[this];rfl
def yX{B:Bk}{n:Int}(h:∀d,∀x∈B d,x.num≠n):B.find n=none:=by
 have a:∀d,jR (B d) n=none:=λd=>by
  unfold jR;rw[List.find?_eq_none];intro x b;simpa using h d x b
 unfold Bk.find;rw[a,a]
def xN(B:Bk)(d:Bool):B.set d (B d)=B:=by
 funext x;unfold Bk.set;split
 ·rename_i h;rw[h]
 ·rfl
def GF{B:Bk}{o:Od}(c:o.may=true)(g:∀d,∀x∈B d,x.num≠o.num)(l:(B o.buy).length<100)(f:∀x∈B !o.buy,d9 o x.price=false):
  db B o 4=(0,B.set o.buy (iU o.buy (B o.buy) o),⟨[],[],0,o.left⟩):=by
 have k:=fR c;have m:=Fk f;unfold db;rw[if_neg (by simp[c]),yX g,if_neg (by simp),if_neg (by omega),if_neg (by omega),if_neg (by omega)]
 have a:dU o o.left (B !o.buy)=(o.left,B !o.buy,[],[],0):=mz (by
  cases i:B !o.buy with
  |nil=>exact .inr (.inl rfl)
  |cons b r=>exact .inr (.inr ⟨b,r,rfl,f b (by rw[i];exact List.mem_cons_self)⟩))
 have e:(jp o.buy (B o.buy) {o with left:=o.left}).2=iU o.buy (B o.buy) o:=by
  unfold jp;rw[if_neg (by simp[c]),if_neg,if_neg (by omega)];intro j;obtain⟨x,h1,h⟩:=List.any_eq_true.1 j;exact g _ x h1 (of_decide_eq_true h)
 unfold fj;simp only;rw[a];simp only;rw[if_pos ⟨by decide,by omega⟩,xN,e]
def G1{B:Bk}{o:Od}(u:Gw B)(v:CM (!o.buy) (B !o.buy))(h:(db B o 4).1=0)(i:(db B o 4).2.2.gone=[]):(∀x∈B !o.buy,d9 o x.price=false)/\(B o.buy).length<100:=by
 obtain⟨e,p,-⟩:=BZ h;have z:=fR p
 have f:∀x∈B !o.buy,d9 o x.price=false:=by
  cases j:B !o.buy with
  |nil=>intro x f;cases f
  |cons b r=>
   have a:d9 o b.price=false:=by
    apply Classical.byContradiction;intro q;have d:d9 o b.price=true:=by simpa using q
    by_cases t:b.acct=o.acct
    ·rw[e]at i;unfold fj at i;simp only at i;rw[j]at i
     have:(dU o o.left (b::r)).2.2.2.1≠ []:=by
      unfold dU;rw[if_neg (by simp only[not_or];exact⟨by omega,q⟩),if_pos t];simp
     split at i
     ·exact this i
     ·exact this i
    ·have k:0<eI (!o.buy) (B !o.buy) o.price o.acct:=by
      rw[j];unfold eI
      have m:dn (!o.buy) o.price b.price=false:=by
       unfold d9 at d;unfold dn;cases c:o.buy with
       |true=>rw[c]at d;simp at d|-;omega
       |false=>rw[c]at d;simp at d|-;omega
      rw[List.takeWhile_cons_of_pos (by rw[m];rfl),List.filter_cons_of_pos (by simpa using t)];simp only[List.map_cons,List.sum_cons];have h1:1<=b.left:=(fR (u _ b (by rw[j];exact List.mem_cons_self)).1).1
      have A:0<=(((r.takeWhile λg=> !dn (!o.buy) o.price g.price).filter λg=>decide (g.acct≠o.acct)).map (·.left)).sum:=by
       have:∀L:List Od,(∀x∈L,0<=x.left)->0<=(L.map (·.left)).sum:=by
        intro L;induction L with
        |nil=>intro _;simp
        |cons y L w=>
         intro s;have E:=s y List.mem_cons_self;have C:=w λx f=>s x (List.mem_cons_of_mem _ f);simp only[List.map_cons,List.sum_cons];omega
       refine this _ λx f=>?_;have n:=(List.takeWhile_sublist _).mem ((List.mem_filter.1 f).1);have:=(fR (u _ x (by rw[j];exact List.mem_cons_of_mem _ n)).1).1;omega
      omega
     unfold db at h;rw[if_neg (by simp[p])]at h;split at h
     ·cases h
     ·rw[if_neg (by omega),if_pos ⟨rfl,k⟩]at h;cases h
   intro x f;rcases List.mem_cons.1 f with rfl|l
   ·exact a
   ·have:=v;rw[j]at this;have h1:=(List.pairwise_cons.1 this).1 x l;unfold d9 at a|-;unfold dn at h1;cases c:o.buy with
    |true=>rw[c]at a h1;simp at a h1|-;omega
    |false=>rw[c]at a h1;simp at a h1|-;omega
 refine⟨f,?_⟩;apply Classical.byContradiction;intro q;have D:=Fk f;unfold db at h;rw[if_neg (by simp[p])]at h;split at h
 ·cases h
 ·rw[if_neg (by omega),if_neg (by omega),if_pos ⟨.inr rfl,by omega,by omega⟩]at h;cases h
end Go.Proofs
namespace Go.Proofs
open Go Go.Vc
attribute [local congr] cr
section
variable{w:World}{K:cm}
def yU{o:Od}(l:o.Fit)(a:∀b,cl (λ_=>False) w b->K (.bool o.may) b):Ca Tryz.prog 171 #[ig o] w K:=by
 apply Nz;obtain⟨c,r,i,n⟩:=qi o w;have a:=a _ n;refine ck r ?_;obtain⟨p,h⟩:∃p,p=w.heap.size:=⟨_,rfl⟩
 rw[<-h]at i|-;obtain⟨m,s,j,k⟩:=uq (show CS c p o from i)
 have q:o.may=(decide (0<o.num)&& (decide (0<o.acct)&& (decide (0<o.price)&& (decide (o.price<=10000000)&& (decide (0<o.left)&& decide (o.left<=1000000)))))):=by
  unfold Od.may cy MP;have h1:=l.1.1;have d:=l.2.1.1;rw[Bool.eq_iff_iff];simp only[Bool.and_eq_true,decide_eq_true_eq];omega
 rw[q]at a;refine ck (nN 0 (by omega) p _) (ck m ?_);refine ck (v:=.bool (decide (0<o.num))) (w' :=c) (by simp[go_sem]) ?_;by_cases e:0<o.num
 rotate_left
 ·rw[decide_eq_false e,ci,if_neg Bool.false_ne_true];simpa [e]using a
 rw[decide_eq_true e,ci,if_pos rfl];refine ck (nN 1 (by omega) p _) (ck s ?_);refine ck (v:=.bool (decide (0<o.acct))) (w' :=c) (by simp[go_sem]) ?_;by_cases h1:0<o.acct
 rotate_left
 ·rw[decide_eq_false h1,ci,if_neg Bool.false_ne_true];simpa [h1]using a
 rw[decide_eq_true h1,ci,if_pos rfl];refine ck (nN 3 (by omega) p _) (ck j ?_);refine ck (v:=.bool (decide (0<o.price))) (w' :=c) (by simp[go_sem]) ?_;by_cases d:0<o.price
 rotate_left
 ·rw[decide_eq_false d,ci,if_neg Bool.false_ne_true];simpa [d]using a
 rw[decide_eq_true d,ci,if_pos rfl];refine ck (nN 3 (by omega) p _) (ck j ?_);refine ck (v:=.bool (decide (o.price<=10000000))) (w' :=c) (by simp[go_sem]) ?_;by_cases g:o.price<=10000000
 rotate_left
 ·rw[decide_eq_false g,ci,if_neg Bool.false_ne_true];simpa [g]using a
 rw[decide_eq_true g,ci,if_pos rfl];refine ck (nN 4 (by omega) p _) (ck k ?_);refine ck (v:=.bool (decide (0<o.left))) (w' :=c) (by simp[go_sem]) ?_;by_cases f:0<o.left
 rotate_left
 ·rw[decide_eq_false f,ci,if_neg Bool.false_ne_true];simpa [f]using a
 rw[decide_eq_true f,ci,if_pos rfl];refine ck (nN 4 (by omega) p _) (ck k ?_);refine ck (v:=.bool (decide (o.left<=1000000))) (w' :=c) (by simp[go_sem]) ?_;simpa [e,h1,d,g,f]using a
def AK{buy:Bool}{a b:Int}(c:K (.bool (dn buy a b)) w):Ca Tryz.prog 241 #[.bool buy,.int .i64 a,.int .i64 b] w K:=by
 apply Mx;unfold dn at c;cases buy with
 |true=>
  rw[if_pos rfl]at c;rw[ci,if_pos rfl];refine ck (v:=.bool (decide (b<a))) (w' :=w) (by simp[go_sem]) ?_;by_cases h:b<a
  ·rw[decide_eq_true h]at c|-;rw[ci,if_pos rfl];exact c
  ·rw[decide_eq_false h]at c|-;rw[ci,if_neg Bool.false_ne_true];refine ck (v:=.bool false) (w' :=w) (by simp[go_sem]) ?_;rw[ci,if_neg Bool.false_ne_true];exact c
 |false=>
  rw[if_neg Bool.false_ne_true]at c;rw[ci,if_neg Bool.false_ne_true];refine ck (v:=.bool true) (w' :=w) (by simp[go_sem]) ?_;rw[ci,if_pos rfl];refine ck (v:=.bool (decide (a<b))) (w' :=w) (by simp[go_sem]) ?_;exact c
def xZ{W:World}{s:Value}{L:List Od}(h:Rd W 5 s L.length (L.flatMap da)){i:Nat}(hi:i<L.length):
  ∃b a,(∀V k,(Instr.indexAt gU s (.int k (i:Int))).run Tryz.prog V=.ok (.pointer (some ⟨b,a,none⟩)) V)/\At W b a (da L[i]):=by
 obtain⟨b,a,e,c,d,f⟩:=h.item dB hi rfl;exact⟨b,a+i*5,λV k=>by rw[c];simp[go_sem,hi,cC,eW],f⟩
def yV{W:World}{b off:Nat}{o:Od}(h:At W b off (da o)):(∀V,(Instr.fieldAt ir (.pointer (some ⟨b,off,none⟩)) 3).run Tryz.prog V=.ok (.pointer (some ⟨b,off+3,none⟩)) V)/\(Instr.loadAt 2 (.pointer (some ⟨b,off+3,none⟩))).run Tryz.prog W=.ok (.int .i64 o.price) W/\
  (∀V,(Instr.fieldAt ir (.pointer (some ⟨b,off,none⟩)) 0).run Tryz.prog V=.ok (.pointer (some ⟨b,off,none⟩)) V)/\(Instr.loadAt 27 (.pointer (some ⟨b,off,none⟩))).run Tryz.prog W=.ok (.int .u64 o.num) W:=by
 obtain⟨C,e,f,h1,a⟩:=h.get;have d:=a 3 (.int .i64 o.price) rfl;have c:=a 0 (.int .u64 o.num) rfl;rw[Nat.add_zero]at c;exact⟨λV=>by simp[go_sem,cC],by simp[go_sem,h1,d],λV=>by simp[go_sem,cC],by simp[go_sem,h1,c]⟩
def px{W:World}{s:Value}{n:Nat}{cs:List Value}(h:Rd W 5 s n cs)(V:World):(builtin .len #[gU] 3 #[false] #[s]).run Tryz.prog V=.ok (.value (.int .i64 (n:Int))) V:=by
 obtain⟨a,c,rfl⟩:=h.isSl;simp[go_sem]
def sk:Option Nat->Int
 |none=> -1
 |some i=>i
def Cv(buy:Bool)(l:List Od)(i:Nat):ij buy l (i+1)=match ij buy l i with
  |none=>some i
  |some a=>if dn buy (l.getD i fI).price (l.getD a fI).price then some i else some a:=rfl
set_option maxRecDepth 10000 in
def vq{s:Value}{buy:Bool}{l:List Od}(h:Rd w 5 s l.length (l.flatMap da))(D:l.length<=100000)(t:∀g,cl (λ_=>False) w g->K (.int .i64 (sk (ij buy l l.length))) g):Ca Tryz.prog 174 #[.bool buy,s] w K:=by
 apply Pg
 refine dp (λst W=>∃i:Nat,i<=l.length/\st=(.int .i64 (sk (ij buy l i)),.int .i64 i,())/\cl (λ_=>False) w W)
  (λst _=>match st.2.1 with| .int _ i=>l.length - i.toNat|_=>0) ⟨0,by omega,rfl,cl.refl _ _⟩ ?_
 rintro _ W ⟨i,F,rfl,n⟩ z j;unfold Ej;intro _;refine fi (px h _) ?_;by_cases c:i<l.length
 ·have d:(i:Int)<(l.length:Int):=by omega
  refine ck (v:=.bool true) (by simp[go_sem,d]<;>first|exact⟨rfl,rfl⟩|exact rfl) ?_;rw[ci,if_pos rfl];have md:=n.drew;have k:=h.mod md λ_ _ h=>h;refine cB.at (λst f=>st=(.int .i64 (sk (ij buy l (i+1))),())/\W.drew=f) ?_ ?_
  ·generalize W.drew=V at md k|-;refine cB.at (λst f=>∃b:Bool,st=(.bool b,())/\V=f/\sk (ij buy l (i+1))=if b then(i:Int)else sk (ij buy l i)) ?_ ?_
   ·rw[Cv];cases m:ij buy l i with
    |none=>
     refine cq (v:=.bool true) (λW=>by simp[go_sem,sk]) ?_;rw[ci,if_pos rfl];exact⟨true,rfl,rfl,rfl⟩
    |some a=>
     have G:=my m;have e:a<l.length:=by omega
     refine cq (v:=.bool false) (λW=>by simp[go_sem,sk]) ?_;rw[ci,if_neg Bool.false_ne_true];obtain⟨A,C,x,p⟩:=xZ k c;obtain⟨E,B,r,q⟩:=xZ k e;refine cq (λW=>x W _) (cq (yV p).1 (cx (yV p).2.1 ?_));refine cq (λW=>r W _) (cq (yV q).1 (cx (yV q).2.1 ?_));refine AK ?_;have y:l.getD i fI=l[i]:=by simp[List.getD,List.getElem?_eq_getElem c]
     have u:l.getD a fI=l[a]:=by simp[List.getD,List.getElem?_eq_getElem e]
     simp only;rw[y,u];refine⟨_,rfl,by trivial,?_⟩;cases dn buy l[i].price l[a].price<;>rfl
   rintro _ f ⟨b,rfl,rfl,o⟩;unfold GY;intro _;cases b with
   |true=>rw[ci,if_pos rfl];exact⟨by rw[o];rfl,rfl⟩
   |false=>rw[ci,if_neg Bool.false_ne_true];exact⟨by rw[o];rfl,rfl⟩
  rintro _ f ⟨rfl,rfl⟩;unfold wO;intro _;refine ck (v:=.int .i64 ((i+1:Nat):Int)) (w' :=W.drew) (by simp[go_sem];rw[cV (by omega) (by omega)]) ?_;exact j _ _ ⟨i+1,by omega,rfl,md⟩ (by show l.length - (((i+1:Nat):Int)).toNat<l.length - ((i:Int)).toNat;omega)
 ·obtain rfl:i=l.length:=by omega
  refine ck (v:=.bool false) (by simp[go_sem]<;>first|exact⟨rfl,rfl⟩|exact rfl) ?_;rw[ci,if_neg Bool.false_ne_true];exact t _ n
def yw{P:Program}{t e:TypeId}{w:World}{sz n hi:Nat}{v:Value}{cs:List Value}(h:Rd w sz v n cs)(k:P.underlying t=some (.slice e))(p:hi<=n)(W:World):
  (Instr.sliceAt t v none (some (.int .i64 (hi:Int))) none).run P W=(Instr.sliceAt t v (some (.int .i64 ((0:Nat):Int))) (some (.int .i64 (hi:Int))) none).run P W:=by
 obtain⟨g,q⟩:=iB k;obtain⟨o,l⟩:=h
 obtain⟨a,d,rfl,f⟩:∃a d,v=.slice a n d/\(n<=d\/n=0):=by
  rcases l with⟨rfl,a,c,rfl⟩|⟨b,j,d,rfl,m,_⟩
  ·exact⟨a,c,rfl,.inr rfl⟩
  ·exact⟨_,d,rfl,.inl m⟩
 have i:hi<=d:=by rcases f with h|h<;>omega
 rw[run_sliceAt_slice W t _ _ _ _ g,run_sliceAt_slice W t _ _ _ _ g,run_slice_lh W t a n d g .i64 .i64 (0:Nat) hi (by omega) (by omega) (by omega),run_slice_h W t a n d g .i64 hi (by omega) (by omega)];rfl
def Ad{l:List Od}{i:Nat}(hi:i<l.length):(l.eraseIdx i).flatMap da=(l.flatMap da).take (i*5)++(l.flatMap da).drop ((i+1)*5):=by
 rw[List.eraseIdx_eq_take_drop_succ,List.flatMap_append]
 have h1:∀(l:List Od) (k:Nat),(l.take k).flatMap da=(l.flatMap da).take (k*5)/\(l.drop k).flatMap da=(l.flatMap da).drop (k*5):=by
  intro l;induction l with
  |nil=>intro k;simp
  |cons x r a=>
   intro k;cases k with
   |zero=>simp
   |succ k=>
    obtain⟨b,c⟩:=a k;have e:(k+1)*5=(da x).length+k*5:=by rw[dB];omega
    simp only[List.take_succ_cons,List.drop_succ_cons,List.flatMap_cons];rw[e,List.take_length_add_append,List.drop_length_add_append,b,c];exact⟨rfl,rfl⟩
 rw[(h1 l i).1,(h1 l (i+1)).2]
set_option maxRecDepth 10000 in
def yL{s:Value}{l:List Od}{i:Nat}(h:Rd w 5 s l.length (l.flatMap da))(hi:i<l.length)(X:l.length<=100000)
  (G:∀j f,kR f j (l.eraseIdx i)->cl (λ_=>False) w f->(∀b,co j b->w.heap.size<=b)->K j f):Ca Tryz.prog 287 #[s,.int .i64 (i:Int)] w K:=by
 apply OJ;have N:=h.1;refine fg [] eW (cI Bw) rfl rfl (by simp) (by omega) ?_;have g:cl (λ_=>False) w (w.alloc (.cells (([]:List Value).flatMap (·.cells.toList)).toArray ir)):=(cl.refl _ w).alloc _
 have t:dW (w.alloc (.cells (([]:List Value).flatMap (·.cells.toList)).toArray ir)) ir 5 (.slice (some ⟨w.heap.size,0,none⟩) 0 0) 0 []:=by
  refine⟨by simp,.inr ⟨w.heap.size,0,[],rfl,Nat.le_refl _,?_,by simp⟩⟩;rw[cY,if_pos rfl];simp
 have u:∀b,co (.slice (some ⟨w.heap.size,0,none⟩) 0 0) b->w.heap.size<=b:=λb a=>by
  simp only[co,uw]at a;have:=Option.some.inj a;omega
 generalize w.alloc (.cells (([]:List Value).flatMap (·.cells.toList)).toArray ir)=e at g t|-;obtain⟨H,D,d1,U⟩:=h.part (P:=Tryz.prog) (lo:=0) (hi:=i) eW sL (by omega) (by omega) .i64 .i64;have Q:(Instr.sliceAt gU s none (some (.int .i64 (i:Int))) none).run Tryz.prog e=.ok H e:=by rw[<-D e];exact yw h eW (by omega) e
 refine ck Q ?_;simp only[Nat.zero_mul,List.drop_zero,Nat.sub_zero]at d1
 have c:∀(k:List Value),(∀x∈k,x∈l.flatMap da)->k.all (·.oneCell')=true:=λk T=>List.all_eq_true.2 λx d=>by
  obtain⟨o,-,L⟩:=List.mem_flatMap.1 (T x d);exact List.all_eq_true.1 (ic o) x L
 refine dt (n:=0) (m:=i) eW eW (cI Bw) t (d1.mod g λ_ _ h=>h) (c _ λx d=>List.mem_of_mem_take d) (by omega) λF q I C S=>?_;have p:cl (λ_=>False) w q:=g.on C λb a=>.inr (u b a);have M:=g.size;have r:∀b,co F b->w.heap.size<=b:=λb a=>(S b a).elim (u b) λh=>by omega
 refine ck (v:=.int .i64 ((i+1:Nat):Int)) (w' :=q) (by simp[go_sem];rw[cV (by omega) (by omega)]) ?_;obtain⟨V,A,d3,W⟩:=h.from_ (P:=Tryz.prog) (lo:=i+1) eW sL (by omega) .i64;refine ck (A q) ?_;refine dt (n:=0+i) (m:=l.length - (i+1)) eW eW (cI Bw) I (d3.mod p λ_ _ h=>h) (c _ λx d=>List.mem_of_mem_drop d) (by omega) λB y O R E=>?_;have J:=p.size;refine G B y ?_ (p.on R λb a=>.inr (r b a)) λb a=>(E b a).elim (r b) λh=>by omega
 have z:(l.eraseIdx i).length=0+i+(l.length - (i+1)):=by rw[List.length_eraseIdx_of_lt hi];omega
 show dW _ _ _ _ _ _;rw[z,Ad hi];simpa using O
end
end Go.Proofs
