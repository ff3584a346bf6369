/- Part of a proof. -/
import Derived.Test.YtekbnpagidkbbaaGreatT14
set_option linter.all false
set_option maxRecDepth 100000
set_option maxHeartbeats 4000000
namespace Go.Proofs
open Go Go.Vc
attribute [local congr] bj
def ln(l:List Int)(q:Int):Int:=l.foldl (λm s=>max m (-q*s)) 0
def Gh(l:List Int)(x q:Int):ln (l++[x]) q=max (ln l q) (-q*x):=by
 unfold ln;rw[iP];rfl
def Eb{a b A B:Int}(h: -A<=a/\a<=A)(f: -B<=b/\b<=B): -(A*B)<=a*b/\a*b<=A*B:=by
 have e:0<=A:=qZ;have c:0<=B:=qZ;have d:a.natAbs*b.natAbs<=A.natAbs*B.natAbs:=gj qZ qZ;rw[<-Int.natAbs_mul,<-Int.natAbs_mul]at d;have g:0<=A*B:=jg e c;omega
def Ia{s:Vector Int 16}{q:Int}{w:Wt_}{K:be}(hs:∀x∈s.toList,-10000000<=x/\x<=10000000)(v: -1000000000<=q/\q<=1000000000)
  (t:∀k,M0 w k->K (gI (ln s.toList q)) k):Ca pQ 373 #[.agg (vl s).toArray,gI q] w K:=by
 refine cN Tryz.func373 ?_;have m:M0 w (w.alloc (.cells (vl s).toArray 46)):=nl;apply az (cU w.heap.size 0) (w.alloc (.cells (vl s).toArray 46)) rfl;have j:hC (w.alloc (.cells (vl s).toArray 46)) w.heap.size (vl s).toArray 46:=by simp[go_sem]
 generalize w.alloc (.cells (vl s).toArray 46)=o at m j|-;apply iu (vl s) 15 Xv XV (mX _) (At.all j);have C:s.toList.length=16:=by simp
 refine iz (λst W=>∃i:Nat,i<=16/\st=(gI (ln (s.toList.take i) q),gI i,())/\W=o)
  (λst _=>match st.2.1 with| .int _ i=>16 - i.toNat|_=>0) ⟨0,qZ,rfl,rfl⟩ ?_
 rintro⟨_,_,_⟩ W ⟨i,D,⟨⟩,rfl⟩ u g;refine rT ?_;intro _;by_cases d:i<16
 ·have f:(i:Int)<16:=qZ;have c:i<s.toList.length:=qZ;refine ee f ?_;apply az (gI s.toList[i]!) W (pS uSh Vp TD RT d (Ar _ i d));rw[eW s.toList i c];have n:=hs _ (ar c);obtain⟨y,l⟩:=dW (s.toList[i]);rw[<-l]at n|-;have p:=Eb (a:= -q) (b:=y) (A:=1000000000) (B:=10000000) qZ n;apply az (gI (-q)) W (by simp[go_sem];rw[mL]);obtain⟨z,h⟩:=dW (-q*y);rw[<-h]at p;apply az (gI z) W (by simp only[go_sem];simp;rw[<-h,mL]);refine II ?_;apply az (gI ((i+1:Nat):Int)) W (by simp[go_sem];rw[mL]);refine g _ _ ⟨i+1,qZ,?_,rfl⟩ (by grind);have e:=bV c;rw[e,Gh,<-l,<-h]
 ·obtain rfl:i=16:=qZ;refine fh ?_;have r:=t _ m;have e:s.toList.take 16=s.toList:=ay qZ;rw[e];exact r
def vJ(s:Vector Int 16)(q:Int):Int×Int:=
 if s.toList.all (λx=>aY x (-10000000) 10000000)=false\/aY q (-1000000000) 1000000000=false then(0,2)else(ln s.toList q,0)
def VJ{s:Vector Int 16}{q:Int}{w:Wt_}{K:be}(hs:∀x∈s.toList,dM x)(u:dM q)
  (n:∀p,M0 w p->K (.tuple #[.int .i64 (vJ s q).1,gI (vJ s q).2]) p):Ca pQ 375 #[.agg (vl s).toArray,gI q] w K:=by
 refine cN Tryz.func375 ?_;have l:M0 w (w.alloc (.cells (vl s).toArray 46)):=nl;apply az (cU w.heap.size 0) (w.alloc (.cells (vl s).toArray 46)) rfl;have j:hC (w.alloc (.cells (vl s).toArray 46)) w.heap.size (vl s).toArray 46:=by simp[go_sem]
 obtain⟨B,o⟩:=dW w.heap.size;rw[<-o]at j|-;generalize w.alloc (.cells (vl s).toArray 46)=r at l j|-;apply iu (vl s) 15 Xv XV (mX _) (At.all j);have C:s.toList.length=16:=by simp
 refine iz (λst W=>∃(i:Nat) (x y:Vt_),i<=16/\st=(x,y,gI i,())/\W=r/\(s.toList.take i).all (λx=>aY x (-10000000) 10000000)=true)
  (λst _=>match st.2.2.1 with| .int _ i=>16 - i.toNat|_=>0) ⟨0,_,_,qZ,rfl,rfl,rfl⟩ ?_
 rintro⟨_,_,_,_⟩ W ⟨i,x,y,D,⟨⟩,rfl,a⟩ A m;refine rT ?_;intro _;by_cases f:i<16
 ·have g:(i:Int)<16:=qZ;have c:i<s.toList.length:=qZ;refine ee g ?_;apply az (gI s.toList[i]!) W (pS uSh Vp TD RT f (Ar _ i f));rw[eW s.toList i c];apply ib (hs _ (ar c)) qZ;cases k:aY s.toList[i] (-10000000) 10000000 with
  |false=>
   refine ee k ?_;have d:=n _ l
   have e:vJ s q=(0,2):=by
    unfold vJ;exact ab (.inl (jO.2 ⟨_,ar c,by rw[k];simp⟩))
   rw[e]at d;exact d
  |true=>
   refine fH k ?_;apply az (gI ((i+1:Nat):Int)) W (by simp[go_sem];rw[mL]);refine m _ _ ⟨i+1,_,_,qZ,rfl,rfl,?_⟩ (by grind);have e:=bV c;rw[e,ez,a,mT,k];rfl
 ·obtain rfl:i=16:=qZ;refine fh ?_;have v:s.toList.take 16=s.toList:=ay qZ;rw[v]at a;apply ib u qZ;cases b:aY q (-1000000000) 1000000000 with
  |false=>
   refine ee b ?_;have d:=n _ l;have e:vJ s q=(0,2):=by unfold vJ;rw[ab (.inr b)]
   rw[e]at d;exact d
  |true=>
   refine fH b ?_;apply iu (vl s) 15 Xv XV (mX _) (At.all j)
   have e:vJ s q=(ln s.toList q,0):=by
    unfold vJ;rw[aa];rintro(h|h)
    ·rw[a]at h;cases h
    ·rw[b]at h;cases h
   refine Ia (λx z=>bz (aW.1 a x z)) (bz b) λE t=>?_;have d:=n _ (l.trans t);rw[e]at d;exact d
end Go.Proofs
namespace Go.Proofs
open Go Go.Vc
attribute [local congr] bj
def qa(n:Int):Value:=gQ n
def FJ(n:Int):Value:=gI n
def ad7:Tryz.prog.underlying 37=some (.int .u64):=cH
def CO:qb pQ 37 qa:=qb.int ad7
def Di:Tryz.prog.underlying 243=some (.map 37 3):=cH
def UX:jS pQ 3=some (gI 0):=cH
def rM(sells:Bool):List Int->List Od->Bool
 |_,[]=>true
 |seen,o::l=>o.may&& (o.buy==sells)&& !seen.contains o.num&& rM sells (o.num::seen) l
def JW{w:Wt_}{K:be}{s:Vt_}{l:List Od}{sells:Bool}(h:Rd w 5 s l.length (l.flatMap dp))(hn:l.length<=1000000)(hl:∀o∈l,o.Fit)
  (V:∀T,M0 w T->K (.bool (rM sells [] l)) T):Ca pQ 315 #[.bool sells,s] w K:=by
 refine cN Tryz.func315 ?_;obtain⟨m,u⟩:=dW w.heap.size;have S:M0 w (w.alloc (.map #[] 0)):=nl;have U:fI qa FJ (w.alloc (.map #[] 0)) m ([]:List (Int×Int)):=by rw[u];exact fI.new w
 apply az (.map (some m)) (w.alloc (.map #[] 0)) (by rw[u];simp[go_sem]);generalize w.alloc (.map #[] 0)=w1 at S U|-;obtain⟨a,c,hs⟩:=h.isSl;apply ke (gI (l.length:Int)) w1 (by rw[hs];simp[go_sem])
 refine iz (λst W=>∃(i:Nat) (x:Vt_) (L:List (Int×Int)) (seen:List Int),i<=l.length/\st=(x,gI i,())/\M0 w W/\fI qa FJ W m L/\(∀n,lk L n=if n∈seen then some 1 else none)/\rM sells [] l=rM sells seen (l.drop i))
  (λst _=>match st.2.1 with| .int _ i=>l.length - i.toNat|_=>0) ⟨0,_,[],[],qZ,rfl,S,U,λn=>by simp[lk],rfl⟩ ?_
 rintro⟨_,_,_⟩ W ⟨i,x,L,seen,hi,⟨⟩,F,R,G,j⟩ KN C;refine rT ?_;intro _;by_cases k:i<l.length
 ·have z:(i:Int)<(l.length:Int):=qZ;refine ee z ?_;obtain⟨b,D,cap,H,M,hA⟩:=(h.mod F eI).item dH k rfl;apply az (cU b (D+i*5)) W (by rw[H];simp[go_sem,k,bQ,gR]);apply dy (me (o:=l[i]) hA);obtain⟨w2,e2,X,m2⟩:=kg W;apply dy e2;obtain⟨q,hq⟩:=dW W.heap.size;rw[<-hq]at X|-;obtain⟨O,e3,A,m3⟩:=jA (o' :=l[i]) X;apply lO e3;obtain⟨o,N⟩:=dW (l[i]);rw[<-N]at A;have p:l.drop i=o::l.drop (i+1):=by rw[N];exact(bR k).symm
  rw[p,rM]at j;have I:M0 W O:=m2.on m3 λb d=>gT;refine dU.at (λst W' =>st=(.bool (!(o.may&& (o.buy==sells)&& !seen.contains o.num)),())/\M0 O W') ?_ ?_
  ·apply dy (me (o:=o) (At.all A));refine vh λy e=>?_;have r:=e.hpk A id;unfold dp at r;cases P:o.may with
   |false=>
    refine lV ?_;exact⟨by simp,e⟩
   |true=>
    refine fh ?_;refine dF ?_;refine dD r ?_;by_cases d:o.buy=sells
    ·apply az (.bool false) y (by rw[d];cases sells<;>simp[go_sem]);rw[lW];refine dF ?_;refine dD r ?_;have f:=(R.mod I id).mod e id;apply wW (enc:=qa) (ev:=FJ) (x:=o.num) (gI 0) Di CO UX (.inr ⟨m,rfl,f⟩);rw[G];by_cases g:o.num∈seen
     ·rw[ab g];apply az (.bool true) y (by simp[go_sem,FJ]);exact⟨by simp[d,g],e⟩
     ·rw[aa g];refine dF ?_;exact⟨by simp[d,g],e⟩
    ·apply az (.bool true) y (by cases ho2:o.buy<;>cases sells<;>simp_all[go_sem]);rw[nO];exact⟨by simp[d],e⟩
  rintro _ y ⟨rfl,e⟩;refine qk ?_;intro _;have Q:=(F.trans I).trans e;cases d:(o.may&& (o.buy==sells)&& !seen.contains o.num)with
  |false=>
   rw[bG,ab (show(!false)=true from rfl)];rw[d,bh]at j;have t:=V _ Q;rw[j]at t;exact t
  |true=>
   rw[bG,aa (by simp)];rw[d,cK]at j
   have J:o.num ∉ seen:=by
    simp only[ah,Bool.not_eq_true',List.contains_eq_mem,fQ]at d;exact d.2
   have r:=e.hpk A id;unfold dp at r;refine dF ?_;refine dD r ?_;have f:=(R.mod I id).mod e id;apply wW (enc:=qa) (ev:=FJ) (x:=o.num) (gI 0) Di CO UX (.inr ⟨m,rfl,f⟩);rw[G,aa J];apply az (FJ 1) y (by simp[go_sem,FJ];decide);refine kM (enc:=qa) (ev:=FJ) (x:=o.num) (v:=1) Di CO f λw5 E Y Z=>?_;apply az (gI ((i+1:Nat):Int)) w5 (by simp[go_sem];rw[mL]);refine C _ _ ⟨i+1,_,_,o.num::seen,qZ,rfl,Q.on Y λb d=>gT,E,λn=>?_,j⟩ (by grind);rw[lL,G];by_cases B:o.num=n
   ·subst B;simp
   ·grind
 ·obtain rfl:i=l.length:=qZ;refine fh ?_;rw[cg (aB _),rM]at j;have t:=V _ F;rw[j]at t;exact t
end Go.Proofs
namespace Go.Proofs
open Go Go.Vc
attribute [local congr] bj
structure Fl where
 num:Int
 acct:Int
 qty:Int
def Mw(x:Fl):List Value:=[.int .u64 x.num,gU x.acct,gI x.qty]
def V5(x:Fl):(Mw x).length=3:=rfl
def TG(x:Fl):(Mw x).all (·.oneCell')=true:=rfl
def ai9:Tryz.prog.underlying 386=some (.slice 390):=cH
def eFl:fj pQ 390 3 24=true:=cH
abbrev FlS(w:Wt_)(sl:Vt_)(l:List Fl):Prop:=il w 390 3 sl l.length (l.flatMap Mw)
def nN(sells:Bool)(a b:Od):Int:=if sells then b.price - a.price else a.price - b.price
def kE:Int->List Od->Int->List Fl×Int
 |_,[],pr=>([],pr)
 |qty,b::l,pr=>if min qty b.left=0 then([],pr)else(⟨b.num,b.acct,min qty b.left⟩::(kE (qty - min qty b.left) l b.price).1,(kE (qty - min qty b.left) l b.price).2)
def ij(sells:Bool)(qty:Int)(l:List Od):Int×List Fl×Int:=
 if 50<l.length then(0,[],3)
 else if qty<1\/10000000<qty\/rM sells [] l=false then(0,[],2)
 else((kE qty (Srt.stable (qv (nN sells)) l) 0).2,(kE qty (Srt.stable (qv (nN sells)) l) 0).1,0)
def DO:∀{l:List Od} {sells:Bool} {seen:List Int},rM sells seen l=true->∀o∈l,o.may=true
 |o::l,sells,seen,h,x,a=>by
  rw[rM,ah,ah,ah]at h;rcases aq.1 a with rfl|a
  ·exact h.1.1.1
  ·exact DO h.2 x a
def Od.price_bd{o:Od}(h:o.may=true):1<=o.price/\o.price<=10000000:=by
 unfold Od.may aY MP at h;simp only[ah,ax]at h;omega
def JF{w:Wt_}{K:be}{p:Nat}{T:TypeId}{sells:Bool}{x y:Od}(c:hC w p #[.bool sells] T)(t:1<=x.price/\x.price<=10000000)(s:1<=y.price/\y.price<=10000000)
  (k:∀h,M0 w h->K (gI (nN sells x y)) h):Ca pQ 317 #[mi x,mi y,.pointer (some ⟨p,0,none⟩)] w K:=by
 refine cN Tryz.func317 ?_;obtain⟨e,o,f,n⟩:=tQ x w;apply dy o;obtain⟨q,j⟩:=dW w.heap.size;rw[<-j]at f|-;obtain⟨u,l,b,g⟩:=tQ y e;apply dy l;obtain⟨r,m⟩:=dW e.heap.size;rw[<-m]at b|-;have d:=g.hpk f id;have M:=n.trans g;have i:=M.hpk c id;unfold dp at d b;have a:=k _ M;unfold nN at a;refine dD i ?_;cases sells with
 |true=>
  rw[nO];rw[ab rfl]at a;refine dF ?_;refine dD b ?_;refine dF ?_;refine dD d ?_;exact qSi (y.price - x.price) a
 |false=>
  rw[lW];rw[aa fG]at a;refine dF ?_;refine dD d ?_;refine dF ?_;refine dD b ?_;exact qSi (x.price - y.price) a
def Se{w:Wt_}{K:be}{s:Vt_}{l:List Od}{sells:Bool}{qty:Int}(h:Rd w 5 s l.length (l.flatMap dp))(hn:l.length<=1000000)(hl:∀o∈l,o.Fit)(hq64:dM qty)
  (hK:∀u w',FlS w' u (ij sells qty l).2.1->M0 w w' ->(∀b,aQ u b->w.heap.size<=b)->K (.tuple #[.int .i64 (ij sells qty l).1,u,gI (ij sells qty l).2.2]) w'):Ca pQ 275 #[.bool sells,gI qty,s] w K:=by
 refine cN Tryz.func275 ?_;obtain⟨a,c,hs⟩:=h.isSl;obtain⟨p,L⟩:=dW w.heap.size;have Q:M0 w (w.alloc (.cells #[.bool sells] 4)):=nl;have X:hC (w.alloc (.cells #[.bool sells] 4)) p #[.bool sells] 4:=by rw[L];simp[go_sem]
 apply az (cU p 0) (w.alloc (.cells #[.bool sells] 4)) (by rw[L];simp[go_sem]);generalize w.alloc (.cells #[.bool sells] 4)=w1 at Q X|-
 have bad:∀e W,ij sells qty l=(0,[],e)->M0 w W->K (.tuple #[.int .i64 0,.slice none 0 0,gI e]) W:=λe W he m=>by
  have hk:=hK (.slice none 0 0) W (by rw[he];exact il.nil _ _ _) m λb k=>by cases k
  rw[he]at hk;exact hk
 apply ke (gI (l.length:Int)) w1 (by rw[hs];simp[go_sem]);by_cases A:50<l.length
 ·have j:(50:Int)<(l.length:Int):=qZ;refine ee j ?_;exact bad 3 w1 (by unfold ij;rw[ab A]) Q
 have j:¬(50:Int)<(l.length:Int):=qZ;refine fH j ?_;refine dU.at (λst W=>st=(.bool (decide (qty<1\/10000000<qty\/rM sells [] l=false)),())/\M0 w1 W) ?_ ?_
 ·by_cases h1:qty<1
  ·refine ee h1 ?_;exact⟨by grind,rC⟩
  ·refine fH h1 ?_;by_cases h2:10000000<qty
   ·refine ee h2 ?_;exact⟨by grind,rC⟩
   ·refine fH h2 ?_;refine dD X ?_;refine JW (h.mod Q eI) qZ hl λw2 R=>?_;refine dF ?_;exact⟨by cases rM sells [] l<;>simp[h1,h2],R⟩
 rintro _ w2 ⟨rfl,R⟩;refine qk ?_;intro _;have M2:=Q.trans R;by_cases g:qty<1\/10000000<qty\/rM sells [] l=false
 ·rw[zZ g];exact bad 2 w2 (by unfold ij;rw[aa A,ab g]) M2
 rw[bG,aa (by grind)]
 have U:rM sells [] l=true:=by
  cases hw:rM sells [] l with
  |true=>rfl
  |false=>exact absurd (.inr (.inr hw)) g
 have n:=DO U;have b2:=R.hpk X id;have hpl:=aJ b2;refine tn (h.mod M2 eI) qZ λsl w3 o3 m3 n3=>?_;have b3:=m3.hpk b2 id;refine aa0 (cf:=nN sells) o3 qZ ⟨_,_,rfl,λx hx y hy W mW K' hK' =>?_⟩ λD M m4=>?_
 ·exact JF (mW.hpk b3 λk=>by grind) (Od.price_bd (n x hx)) (Od.price_bd (n y hy)) hK'
 replace M:sZ _ _ _:=M;have M4:M0 w D:=(M2.trans m3).on m4 λb k=>.inr (by grind);have d:=Srt.stable_perm (qv (nN sells)) l;obtain⟨S,hS⟩:=dW (Srt.stable (qv (nN sells)) l);have Z:ij sells qty l=((kE qty S 0).2,(kE qty S 0).1,0):=by unfold ij;rw[aa A,aa g,hS]
 rw[<-hS]at M d;have hSl:=d.length_eq;have hs4:=M4.size;refine dU.at (λst W=>∃x u,st=(x,gI (kE qty S 0).2,u,())/\FlS W u (kE qty S 0).1/\M0 D W/\∀b,aQ u b->D.heap.size<=b) ?_ ?_
 ·obtain⟨sa,sc,hsl,-⟩:=M.isSl;apply ke (gI (S.length:Int)) D (by rw[hsl];simp[go_sem])
  refine iz (λst W=>∃(i:Nat) (q P:Int) (H:Vt_) (F:List Fl),st=(gI q,gI P,H,gI i,())/\i<=S.length/\FlS W H F/\F.length=i/\M0 D W/\(∀b,aQ H b->D.heap.size<=b)/\0<=q/\q<=10000000/\F++(kE q (S.drop i) P).1=(kE qty S 0).1/\(kE q (S.drop i) P).2=(kE qty S 0).2)
   (λst _=>match st.2.2.2.1 with| .int _ i=>S.length - i.toNat|_=>0) ⟨0,qty,0,.slice none 0 0,[],rfl,qZ,il.nil _ _ _,rfl,rC,λb k=>(by cases k),qZ,qZ,rfl,rfl⟩ ?_
  rintro⟨_,_,H,_,_⟩ W ⟨i,q,P,sF0,F,⟨⟩,hi,j1,j2,G,N,j5,j6,v,t⟩ KN Y;refine rT ?_;intro _;by_cases I:i<S.length
  ·have J:(i:Int)<(S.length:Int):=qZ;refine ee J ?_;have oW:sZ W sl S:=M.mod G eI;obtain⟨b,cap,hse,T,V⟩:=oW.load I;refine dy (T .i64) (dy V ?_);obtain⟨w5,e5,b5,m5⟩:=kg W;apply dy e5;obtain⟨r,hr⟩:=dW W.heap.size;rw[<-hr]at b5|-;obtain⟨C,e6,B,m6⟩:=jA (o' :=S[i]) b5;apply lO e6;obtain⟨o,ho⟩:=dW (S[i]);rw[<-ho]at B;have hol:=Od.left_bd (n o (d.mem_iff.1 (by grind)));have O:M0 W C:=m5.on m6 λb k=>gT;have z:S.drop i=o::S.drop (i+1):=by rw[ho];exact(bR I).symm
   rw[z,kE]at v t;unfold dp at B;refine dF ?_;refine dD B ?_;refine II ?_;have f6:FlS C H F:=j1.mod O eI;by_cases hz:min q o.left=0
   ·apply az (.bool true) C (by simp only[go_sem];simp;omega);rw[nO];rw[ab hz]at v t;simp only[aC]at v t;exact⟨_,_,by rw[<-t],by grind,G.trans O,N⟩
   ·apply az (.bool false) C (by simp only[go_sem];simp;omega);rw[lW];rw[aa hz]at v t;obtain⟨E,hmn⟩:=dW (min q o.left);have hmb:0<=E/\E<=q:=qZ;rw[<-hmn]at v t|-;refine dF ?_;refine dD B ?_;apply az (gI (q - E)) C (by simp[go_sem];rw[mL]);refine dF ?_;refine dD B ?_;refine dF ?_;refine dD B ?_;apply az (.agg (Mw ⟨o.num,o.acct,E⟩).toArray) C (by simp[go_sem,Mw]);refine vz (x:=(⟨o.num,o.acct,E⟩:Fl)) (f:=Mw) ai9 (dG eFl) V5 TG rfl f6 qZ qZ λsF' w7 o7 m7 n7=>?_;apply az (gI ((i+1:Nat):Int)) w7 (by simp[go_sem];rw[mL]);have hs6:=(G.trans O).size;refine Y _ _ ⟨i+1,q - E,o.price,sF',_,rfl,qZ,o7,by grind,(G.trans O).on m7 λb k=>.inr (N b k),λb k=>(n7 b k).elim (N b) λh' =>qZ,qZ,qZ,?_,t⟩ (by grind);rw[<-v,ag];rfl
  ·obtain rfl:i=S.length:=qZ;refine fh ?_;rw[cg (aB _),kE]at v t;simp only[aC]at v t;exact⟨_,_,by rw[<-t],by grind,G,N⟩
 rintro _ W ⟨x,u,rfl,f1,f2,f3⟩;refine qk ?_;intro _;rw[Z]at hK;exact hK u W f1 (M4.trans f2) λb k=>by grind
end Go.Proofs
namespace Go.Proofs
open Go Go.Vc
attribute [local congr] bj
variable {b:Nat}{W w:Wt_}
structure Lg where
 spec:Sp
 q:Int
variable {x:Lg}
def t8(x:Lg):List Value:=fk x.spec++[.int .i64 x.q]
def gL(x:Lg):(t8 x).length=26:=by simp[t8,bb]
def E9(x:Lg):(t8 x).all (·.oneCell')=true:=by rw[t8,ez,oI];rfl
def lgT(x:Lg)(i:Nat)(h:i<25):(t8 x)[i]? =(fk x.spec)[i]? :=by rw[t8,bP (by rw[bb];omega)]
def RE(x:Lg):(t8 x)[25]? =some (gI x.q):=by rw[t8,bf (by rw[bb];omega),bb];rfl
def ak1(s:Sp):(fk s)[1]? =some (gB s.route):=rfl
def ZA(s:Sp):(fk s)[22]? =some (gI s.credit):=by have:=Sr s [];rwa[aC]at this
def ab6:Tryz.prog.underlying 453=some (.slice 412):=cH
def nLg:Tryz.prog.cellsOf 412=25+1:=cH
def aLg:lI pQ 412=true:=cH
def zLg:mR pQ 412=true:=cH
def ak4:(iK pQ 412).length=25+1:=cH
def eLg:fj pQ 412 26 200=true:=cH
abbrev LgS(w:Wt_)(sl:Vt_)(l:List Lg):Prop:=il w 412 26 sl l.length (l.flatMap t8)
def Wo{K:Value->World->Prop}(c:∀a,hC a W.heap.size (t8 x).toArray 412->M0 W a->K (cU W.heap.size 0) a):
  rx pQ (vR 412) W λv b=>DD pQ (ur 412 v (.agg (t8 x).toArray)) b λa=>K v a:=by
 apply uV 25 zLg nLg (gL x) ak4 (E9 x);exact c _ (by simp[go_sem]) nl
def aa3{s:Vt_}{l:List Lg}(h:Rd w 26 s l.length (l.flatMap t8)){x:Nat}(e:x<l.length):
  ∃p,(iX 453 s (gI (x:Int))).run pQ w=.ok p w/\(pp 412 p).run pQ w=.ok (.agg (t8 l[x]).toArray) w:=by
 obtain⟨b,a,f,c,d,g⟩:=h.item gL e rfl;exact⟨.pointer (some ⟨b,a+x*26,none⟩),by rw[c];simp[go_sem,e,bQ,ab6],ft aLg nLg (gL _) g⟩
structure Rt where
 scans:Int
 longs:Int
 shorts:Int
 rate:Int
variable {rs:List Rt}
def Jd(r:Rt):List Value:=[.int .i64 r.scans,gI r.longs,gI r.shorts,gI r.rate]
def tv(r:Rt):(Jd r).length=4:=rfl
def TU:Rt:=⟨0,0,0,0⟩
def ak0:iK pQ 478=(List.replicate 9 TU).flatMap Jd:=cH
def ad0:mR pQ 478=true:=cH
def DJ{α:Type}{f:α->List Value}{S j:Nat}{v:Vt_}{c:α}(b:∀x,(f x).length=S)(d:j<S):∀(l:List α) (i:Nat) (hi:i<l.length),(f l[i]).set j v=f c->(l.flatMap f).set (i*S+j) v=(l.set i c).flatMap f
 |x::l,0,hi,a=>by
  simp only[eH]at a;rw[aT,jJ,cI,dQ _ _ (by rw[b];omega),a];rfl
 |x::l,i+1,hi,a=>by
  have e:(i+1)*S+j=(f x).length+(i*S+j):=by grind
  rw[aT,e,cm _ _ qZ,fb,DJ b d l i (by simpa using hi) (by simpa using a)];rfl
def sg{α:Type}{f:α->List Value}{S j:Nat}(b:∀x,(f x).length=S)(c:j<S)(l:List α)(i:Nat)(hi:i<l.length):(l.flatMap f)[i*S+j]? =(f l[i])[j]? :=by
 have d:=lx f S l i (λx _=>b x) hi;have a:(((l.flatMap f).drop (i*S)).take S)[j]? =(f l[i])[j]? :=by rw[d]
 rw[eB,ab c,eV]at a;exact a
def Da(r:Rt)(x:Lg):Rt:=
 ⟨r.scans+ln x.spec.shifts.toList x.q,r.longs+max x.q 0,r.shorts+max (-x.q) 0,if(r.longs=0/\r.shorts=0)\/x.spec.credit<r.rate then x.spec.credit else r.rate⟩
def mj(rs:List Rt)(x:Lg):List Rt:=if x.q=0 then rs else match rs[x.spec.route.toNat]? with|some r=>rs.set x.spec.route.toNat (Da r x)|none=>rs
def yZ(x:Lg):Bool:=x.spec.may&& aY x.q (-10000000) 10000000
def zB(rs:List Rt):Int:=(rs.map λr=>max 0 (r.scans - min r.longs r.shorts*r.rate)).sum
def A2:List Int->List Lg->Bool
 |_,[]=>false
 |seen,x::l=>seen.contains x.spec.num||A2 (x.spec.num::seen) l
def jC(l:List Lg):Int×Int:=
 if 16<l.length then(0,3)else if l.all yZ=false then(0,2)else if A2 [] l=true then(0,8)else(zB (l.foldl mj (List.replicate 9 TU)),0)
def Rt.Bd(k:Int)(r:Rt):Prop:=0<=r.scans/\r.scans<=k*100000000000000/\0<=r.longs/\r.longs<=k*10000000/\0<=r.shorts/\r.shorts<=k*10000000/\0<=r.rate/\r.rate<=10000000
def Dt{q:Int}(i: -10000000<=q/\q<=10000000):∀{l:List Int},(∀x∈l,-10000000<=x/\x<=10000000)->0<=ln l q/\ln l q<=100000000000000:=by
 intro l
 have key:∀(l:List Int) (m:Int),(∀x∈l,-10000000<=x/\x<=10000000)->0<=m/\m<=100000000000000->0<=l.foldl (λm s=>max m (-q*s)) m/\l.foldl (λm s=>max m (-q*s)) m<=100000000000000:=by
  intro l;induction l with
  |nil=>intro m _ h;exact h
  |cons x l g=>
   intro m c j;rw[eN];have d:=Eb (a:= -q) (b:=x) (A:=10000000) (B:=10000000) qZ (c x (by simp));obtain⟨z,e⟩:=dW (-q*x);rw[<-e]at d|-;exact g _ (λy f=>c y (by simp[f])) qZ
 exact λh=>key l 0 h qZ
def y8{s:Sp}(h:s.may=true):(∀x∈s.shifts.toList,-10000000<=x/\x<=10000000)/\1<=s.route/\s.route<=8/\0<=s.credit/\s.credit<=10000000:=by
 unfold Sp.may at h;simp only[ah]at h;obtain⟨⟨⟨⟨⟨⟨⟨⟨⟨⟨d,l⟩,o⟩,m⟩,e⟩,i⟩,n⟩,k⟩,j⟩,c⟩,f⟩:=h;refine⟨λx g=>bz (aW.1 d x g),?_⟩;have a:=bz e;have b:=bz c;unfold MP at b;omega
def RG{k:Int}{r:Rt}(h:r.Bd k)(j:0<=k)(a:yZ x=true):(Da r x).Bd (k+1):=by
 unfold yZ at a;rw[ah]at a;obtain⟨c,i,d,f,e⟩:=y8 a.1;have b:=bz a.2;have p:=Dt b c;obtain⟨m,g,s,l,o,t,n,q⟩:=h;unfold Da;refine⟨?_,?_,?_,?_,?_,?_,?_,?_⟩<;>dsimp only
 ·omega
 ·omega
 ·omega
 ·omega
 ·omega
 ·omega
 ·split<;>omega
 ·split<;>omega
abbrev EK:TypeId:=478
def al3:Tryz.prog.underlying EK=some (.array 9 477):=cH
def nRt:Tryz.prog.cellsOf 477=3+1:=cH
def rR(w:Wt_)(b:Nat)(rs:List Rt):Prop:=hp w b=some (.cells (rs.flatMap Jd).toArray EK (0,0))/\rs.length=9
def rR.mod{F:NP_}{w' :Wt_}(h:rR w b rs)(a:bn F w w')(c:¬F b):rR w' b rs:=⟨a.hpk h.1 c,h.2⟩
def rR.ld(h:rR w b rs){i:Nat}(hi:i<9){j:Nat}(a:j<4){x:Int}(c:(Jd (rs[i]'(by rw[h.2];exact hi)))[j]? =some (gI x)):
  (iL 2 (cU b (i*4+j))).run pQ w=.ok (gI x) w:=by
 have:=sg tv a rs i (by rw[h.2];exact hi);rw[c]at this;simp[go_sem,h.1,this]
def rR.st(h:rR w b rs){i:Nat}(hi:i<9){j:Nat}(f:j<4){x:Int}{r' :Rt}(k:(Jd (rs[i]'(by rw[h.2];exact hi))).set j (gI x)=Jd r'):
  ∃d,(iS 2 (cU b (i*4+j)) (gI x)).run pQ w=.ok () d/\rR d b (rs.set i r')/\bn (λy=>y=b) w d:=by
 have e:i<rs.length:=by rw[h.2];exact hi
 have a:=DJ tv f rs i e k;have c:i*4+j<(rs.flatMap Jd).length:=by rw[tU tv,h.2];omega
 have g:(rs.flatMap Jd)[i*4+j]? =some ((rs.flatMap Jd)[i*4+j]):=ao c;refine⟨w.setCell ⟨b,i*4+j,none⟩ (gI x),by simp[go_sem,h.1,g],⟨?_,by rw[aZ,h.2]⟩,(bn.refl (λy=>y=b) w).sc⟩;rw[Bg,ab rfl,h.1,iN,dI,a]
def rR.ix{i:Nat}(hi:i<9)(k:IntKind)(W:Wt_):(iX EK (cU b 0) (.int k (i:Int))).run pQ W=.ok (cU b (i*4)) W:=by
 have a:¬(9:Int)<=(i:Int):=qZ;simp[go_sem,hi,a,bQ,al3,Program.elem,Go.Vc.kY nRt]
def uE(b o j:Nat)(a:j<4)(W:Wt_):(iF 477 (cU b o) j).run pQ W=.ok (cU b (o+j)) W:=by
 rcases(show j=0\/j=1\/j=2\/j=3 by omega)with rfl|rfl|rfl|rfl<;>simp[go_sem,bQ]
def Aj{x y:Int}(h:dM (x+y)):(nV .add 2 false (gI x) (gI y)).run pQ W=.ok (gI (x+y)) W:=by
 simp[go_sem];rw[ie h.1 h.2]
def Pf{q:Nat}{k:Int}{R:Value×Value×Value×Unit->World->Prop}{K:be}{s1 s2:Vt_}{i:Nat}(hR:rR W b rs)(U:hp W q=some (.cells (t8 x).toArray 412 (0,0)))(hbq:b≠q)(hi:i<=1000)(hk:0<=k/\k<=100)(hbd:∀r∈rs,r.Bd k)(hok:yZ x=true)(hfit:x.spec.Fit)
  (hK:∀o,rR o b (mj rs x)->bn (λy=>y=b) W o->R (s1,s2,gI ((i+1:Nat):Int),()) o):
  S6 K (cU q 0) (s1,s2,gI (i:Int),()) R (cU b 0) (.bool false,()) W:=by
 have f:=hok;unfold yZ at f;rw[ah]at f;obtain⟨p1,p2,p3,p4,p5⟩:=y8 f.1;have Y:=bz f.2;unfold S6;intro _;rw[lW];have t:∀W,hp W q=some (.cells (t8 x).toArray 412 (0,0))->(iL 2 (cU q 25)).run pQ W=.ok (gI x.q) W:=λW h=>by simp[go_sem,h,RE]
 have H:∀W,hp W q=some (.cells (t8 x).toArray 412 (0,0))->(iL 2 (cU q 22)).run pQ W=.ok (gI x.spec.credit) W:=λW h=>by simp[go_sem,h,lgT,ZA]
 refine Kj (cU q 25) (dy (t _ U) ?_);by_cases v:x.q=0
 ·refine ee v ?_;apply az (gI ((i+1:Nat):Int)) W (by simp[go_sem];rw[mL]);have e:mj rs x=rs:=by unfold mj;rw[ab v]
  have Z:=hK W (by rw[e];exact hR) rC;exact Z
 refine fH v ?_;obtain⟨n,hn⟩:=dW (x.spec.route.toNat:Nat);have hnr:x.spec.route=(n:Int):=qZ;have a:n<9:=qZ;have hnl:n<rs.length:=by rw[hR.2];exact a
 obtain⟨r,hr⟩:=dW (rs[n]);have hrb:=hbd r (by grind);obtain⟨b1,b2,b3,b4,b5,b6,b7,b8⟩:=hrb;have hw:=Dt Y p1;refine dF ?_;refine dF ?_;apply az (gB (n:Int)) W (by simp[go_sem,U,lgT,ak1,hnr]);apply dy (rR.ix a .u8 W)
 have st:mj rs x=rs.set n (Da r x):=by
  unfold mj;rw[aa v,<-hn,ao hnl,hr]
 obtain⟨p,c⟩:=dW (if(r.longs=0/\r.shorts=0)\/x.spec.credit<r.rate then x.spec.credit else r.rate);have C:∀{W o:Wt_},bn (λy=>y=b) W o->hp W q=some (.cells (t8 x).toArray 412 (0,0))->hp o q=some (.cells (t8 x).toArray 412 (0,0)):=λm h=>m.hpk h (λe=>hbq e.symm);refine dU.at (λ_ o=>rR o b (rs.set n ⟨r.scans+ln x.spec.shifts.toList x.q,r.longs,r.shorts,p⟩)/\bn (λy=>y=b) W o) ?_ ?_
 ·simp only[cJ];have md:M0 W W.drew:=wl;have E:=hR.mod md id;have z:=md.hpk U id;generalize W.drew=w1 at md E z|-;apply gP (λW=>uE b (n*4) 0 qZ W);have l0:∀w,rR w b rs->(iL 2 (cU b (n*4+0))).run pQ w=.ok (gI r.scans) w:=λw h=>h.ld a (j:=0) qZ (by rw[hr];rfl);apply gC (l0 _ E);refine vn ?_;refine vn ?_
  have hA:At w1 q 6 (vl x.spec.shifts):=by
   have:=(At.all z).sub 6 16 (by rw[gL];omega);rw[t8,cT (by rw[bb];omega),aP (by rw[bi,bb];omega),rZ]at this;simpa using this
  apply rj (vl x.spec.shifts) 15 Xv XV (mX _) hA;refine RK (cU q 25) (gC (t _ z) ?_);refine Ia p1 qZ λw2 m2=>?_;have Q:=E.mod m2 id;have hq2:=m2.hpk z id;refine⟨l0 _ Q,?_⟩;apply gP (λW=>Aj ⟨qZ,qZ⟩);apply gP (λW=>uE b (n*4) 0 qZ W);obtain⟨J,e3,L,m3⟩:=Q.st a (j:=0) qZ (x:=r.scans+ln x.spec.shifts.toList x.q) (r' :=⟨r.scans+ln x.spec.shifts.toList x.q,r.longs,r.shorts,r.rate⟩) (by rw[<-hr];rfl);apply lO e3;have N:=C m3 hq2;have u:(rs.set n ⟨r.scans+ln x.spec.shifts.toList x.q,r.longs,r.shorts,r.rate⟩)[n]'(by grind)=⟨r.scans+ln x.spec.shifts.toList x.q,r.longs,r.shorts,r.rate⟩:=dX _;have M3:bn (λy=>y=b) W J:=((md.trans m2).to).trans m3;have s:M0 J J.drew:=wl;refine dU.at (λst o=>st=(.bool (decide ((r.longs=0/\r.shorts=0)\/x.spec.credit<r.rate)),())/\o=J.drew) ?_ ?_
  ·have d:=L.mod s id;have l:=s.hpk N id;generalize J.drew=w4 at d l|-;have l1:=d.ld a (j:=1) qZ (x:=r.longs) (by rw[u];rfl);have l2:=d.ld a (j:=2) qZ (x:=r.shorts) (by rw[u];rfl);have l3:=d.ld a (j:=3) qZ (x:=r.rate) (by rw[u];rfl);simp only[cJ];refine gP (λW=>uE b (n*4) 1 qZ W) (gC l1 ?_);by_cases h1:r.longs=0
   ·refine Q4 h1 ?_;refine gP (λW=>uE b (n*4) 2 qZ W) (gC l2 ?_);by_cases h2:r.shorts=0
    ·refine Q4 h2 ?_;exact⟨by grind,by trivial⟩
    ·refine S7 h2 ?_;refine vn ?_;refine RK (cU q 22) (gC (H _ l) ?_);refine gP (λW=>uE b (n*4) 3 qZ W) (gC l3 ?_);refine vn ?_;exact⟨by simp[h2],by trivial⟩
   ·refine S7 h1 ?_;refine vn ?_;refine RK (cU q 22) (gC (H _ l) ?_);refine gP (λW=>uE b (n*4) 3 qZ W) (gC l3 ?_);refine vn ?_;exact⟨by simp[h1],by trivial⟩
  rintro _ o ⟨rfl,rfl⟩;have d:=L.mod s id;have l:=s.hpk N id;have M4:=M3.trans (s.to (G:=λy=>y=b));generalize J.drew=w4 at d l M4|-;unfold Tf;intro _;by_cases hc:(r.longs=0/\r.shorts=0)\/x.spec.credit<r.rate
  ·rw[zZ hc];rw[ab hc]at c;refine dF ?_;refine Kj (cU q 22) (dy (H _ l) ?_);simp only[cJ];apply dy (uE b (n*4) 3 qZ _);obtain⟨V,e5,A,m5⟩:=d.st a (j:=3) qZ (x:=x.spec.credit) (r' :=⟨r.scans+ln x.spec.shifts.toList x.q,r.longs,r.shorts,x.spec.credit⟩) (by rw[u];rfl);apply lO e5;rw[jH]at A;exact⟨by grind,M4.trans m5⟩
  ·rw[bG,aa (by grind)];rw[aa hc]at c;exact⟨by grind,M4⟩
 rintro _ V ⟨A,M5⟩;unfold SY;intro _;obtain⟨F,g⟩:=dW (⟨r.scans+ln x.spec.shifts.toList x.q,r.longs,r.shorts,p⟩:Rt);rw[<-g]at A;have O:(rs.set n F)[n]'(by grind)=F:=dX _;have hq5:=C M5 U;simp only[cJ];have md:M0 V V.drew:=wl;have D:=A.mod md id;have I:=md.hpk hq5 id;have M6:=M5.trans (md.to (G:=λy=>y=b));generalize V.drew=w6 at D I M6|-;refine gP (λW=>uE b (n*4) 1 qZ W) (gC (D.ld a (j:=1) qZ (x:=r.longs) (by rw[O,g];rfl)) ?_);refine RK (cU q 25) (gC (t _ I) ?_);refine qW0 ?_;apply gP (λW=>Aj ⟨qZ,qZ⟩);apply gP (λW=>uE b (n*4) 1 qZ W);obtain⟨X,e7,T,m7⟩:=D.st a (j:=1) qZ (x:=r.longs+max x.q 0) (r' :={F with longs:=r.longs+max x.q 0}) (by rw[O,g];rfl);apply lO e7;rw[jH]at T;have hq7:=C m7 I;have M7:=M6.trans m7;have md:M0 X X.drew:=wl;have B:=T.mod md id;have M:=md.hpk hq7 id;have M8:=M7.trans (md.to (G:=λy=>y=b));generalize X.drew=w8 at B M M8|-;have S:(rs.set n {F with longs:=r.longs+max x.q 0})[n]'(by grind)={F with longs:=r.longs+max x.q 0}:=dX _;refine gP (λW=>uE b (n*4) 2 qZ W) (gC (B.ld a (j:=2) qZ (x:=r.shorts) (by rw[S,g];rfl)) ?_);refine RK (cU q 25) (gC (t _ M) ?_);apply eQ (gI (-x.q)) (λ_=>by simp[go_sem];rw[mL]);refine qW0 ?_;apply gP (λW=>Aj ⟨qZ,qZ⟩);apply gP (λW=>uE b (n*4) 2 qZ W);obtain⟨w9,e9,P,m9⟩:=B.st a (j:=2) qZ (x:=r.shorts+max (-x.q) 0) (r' :={F with longs:=r.longs+max x.q 0,shorts:=r.shorts+max (-x.q) 0}) (by rw[S,g];rfl);apply lO e9;rw[jH]at P;apply az (gI ((i+1:Nat):Int)) w9 (by simp[go_sem];rw[mL]);refine hK w9 ?_ (M8.trans m9);rw[st]
 have e:Da r x={F with longs:=r.longs+max x.q 0,shorts:=r.shorts+max (-x.q) 0}:=by
  unfold Da;rw[g,c]
 rw[e];exact P
end Go.Proofs
namespace Go.Proofs
open Go Go.Vc
attribute [local congr] bj
def P2:Tryz.prog.underlying 479=some (.map 45 3):=cH
def rtV(r:Rt):Value:=.agg (Jd r).toArray
def rR.ld4{w:Wt_}{b:Nat}{rs:List Rt}(h:rR w b rs){i:Nat}(hi:i<9):
  (iL 477 (cU b (i*4))).run pQ w=.ok (rtV (rs[i]'(by rw[h.2];exact hi))) w:=by
 have a:i<rs.length:=by rw[h.2];exact hi
 have c:=sg tv (show 0<4 by omega) rs i a;have e:=sg tv (show 1<4 by omega) rs i a;have d:=sg tv (show 2<4 by omega) rs i a;have f:=sg tv (show 3<4 by omega) rs i a;simp only[bM]at c;simp[go_sem,h.1,c,e,d,f,rtV,Jd]
def ae2(d:Rt)(w:Wt_):∃a c,(iA 477 true (.tuple #[])).run pQ w=.ok (cU w.heap.size 0) a/\(iS 477 (cU w.heap.size 0) (rtV d)).run pQ a=.ok () c/\hC c w.heap.size (Jd d).toArray 477/\M0 w c:=by
 obtain⟨a,b⟩:=dW (w.alloc (.cells #[.int .i64 0,gI 0,gI 0,gI 0] 477));have f:M0 w a:=by rw[b];exact(bn.refl _ w).alloc _
 have e:hC a w.heap.size #[.int .i64 0,gI 0,gI 0,gI 0] 477:=by rw[b];simp[go_sem]
 refine⟨a,(((a.setCell ⟨w.heap.size,0,none⟩ (gI d.scans)).setCell ⟨w.heap.size,1,none⟩ (gI d.longs)).setCell ⟨w.heap.size,2,none⟩ (gI d.shorts)).setCell ⟨w.heap.size,3,none⟩ (gI d.rate),by rw[b];simp[go_sem],by simp[go_sem,e,rtV,Jd],by simp[go_sem,e,Jd],?_⟩;exact f.on (((((bn.refl (λx=>x=w.heap.size) a).sc).sc).sc).sc) λx g=>gT
def Hx(r:Rt):Int:=max 0 (r.scans - min r.longs r.shorts*r.rate)
def Ju(l:List Rt)(r:Rt):zB (l++[r])=zB l+Hx r:=by unfold zB Hx;simp
def Rt.prod{r:Rt}(h:r.Bd 16):0<=min r.longs r.shorts*r.rate/\min r.longs r.shorts*r.rate<=1600000000000000/\0<=r.scans/\r.scans<=1600000000000000:=by
 obtain⟨i,f,k,g,j,d,c,e⟩:=h;have l:=Eb (a:=min r.longs r.shorts) (b:=r.rate) (A:=160000000) (B:=10000000) qZ qZ;have m:0<=min r.longs r.shorts*r.rate:=jg qZ c;omega
def H8{l:List Rt}(h:∀r∈l,r.Bd 16):0<=zB l/\zB l<=l.length*1600000000000000:=by
 have:=rK (l:=l.map Hx) (B:=1600000000000000) λx b=>by
  obtain⟨r,a,rfl⟩:=aD.1 b;have:=Rt.prod (h r a);unfold Hx;omega
 rw[af]at this;exact this
def C4{k:Int}(c:0<=k){rs:List Rt}{x:Lg}(h:∀r∈rs,r.Bd k)(j:yZ x=true):∀r∈mj rs x,r.Bd (k+1):=by
 have a:∀r:Rt,r.Bd k->r.Bd (k+1):=λr b=>by
  obtain⟨d,l,i,m,f,n,e,g⟩:=b;exact⟨d,qZ,i,qZ,f,qZ,e,g⟩
 intro r b;unfold mj at b;split at b
 ·exact a r (h r b)
 ·split at b
  ·next r0 h0=>
   rcases ec b with b|rfl
   ·exact a r (h r b)
   ·exact RG (h r0 (cP h0)) c j
  ·exact a r (h r b)
def MH{w:Wt_}{K:be}{s:Vt_}{l:List Lg}(h:Rd w 26 s l.length (l.flatMap t8))(hn:l.length<=100000)(hl:∀x∈l,x.spec.Fit/\dM x.q)
  (hK:∀w',M0 w w' ->K (.tuple #[.int .i64 (jC l).1,gI (jC l).2]) w'):Ca pQ 348 #[s] w K:=by
 refine cN Tryz.func348 ?_;obtain⟨a,c,hs⟩:=h.isSl;have f:∀{W:Wt_},(builtin .len #[453] 3 #[false] #[s]).run pQ W=.ok (.value (gI (l.length:Int))) W:=λ{W}=>by rw[hs];simp[go_sem]
 have fin:∀x e W,jC l=(x,e)->M0 w W->K (.tuple #[.int .i64 x,gI e]) W:=λx e W he m=>by
  have hk:=hK W m;rw[he]at hk;exact hk
 apply zw f;by_cases u:16<l.length
 ·have g:(16:Int)<(l.length:Int):=qZ;refine ee g ?_;exact fin 0 3 w (by unfold jC;rw[ab u]) rC
 have g:¬(16:Int)<(l.length:Int):=qZ;refine fH g ?_;apply uZ ad0;obtain⟨b,Z⟩:=dW w.heap.size;have m1:M0 w (w.alloc (.cells (iK pQ EK).toArray EK)):=nl;have r1:rR (w.alloc (.cells (iK pQ EK).toArray EK)) b (List.replicate 9 TU):=⟨by rw[Z,<-ak0];simp[go_sem],by simp⟩
 rw[<-Z];generalize w.alloc (.cells (iK pQ EK).toArray EK)=O at m1 r1|-;obtain⟨m,I⟩:=dW O.heap.size;have hbm:b<m:=by rw[I];exact aJ r1.1
 have m2:M0 O (O.alloc (.map #[] 0)):=nl;have M:fI eS FJ (O.alloc (.map #[] 0)) m ([]:List (Int×Int)):=by rw[I];exact fI.new O
 apply az (.map (some m)) (O.alloc (.map #[] 0)) (by rw[I];simp[go_sem]);have r2:=r1.mod m2 id;generalize O.alloc (.map #[] 0)=w2 at m2 M r2|-;apply zw f;have hml:=M.lt;have hs1:=m1.size
 refine iz (λst W=>∃(i:Nat) (x y:Vt_),i<=l.length/\st=(x,y,gI i,())/\rR W b ((l.take i).foldl mj (List.replicate 9 TU))/\(∀r∈(l.take i).foldl mj (List.replicate 9 TU),r.Bd i)/\(l.take i).all yZ=true/\fI eS FJ W m ([]:List (Int×Int))/\M0 w W/\m<W.heap.size)
  (λst _=>match st.2.2.1 with| .int _ i=>l.length - i.toNat|_=>0) ⟨0,_,_,qZ,rfl,r2,λr F=>?_,rfl,M,m1.trans m2,hml⟩ ?_
 ·have:r=TU:=lS F;rw[this];exact⟨by decide,by decide,by decide,by decide,by decide,by decide,by decide,by decide⟩
 rintro⟨s1,s2,_,_⟩ W ⟨i,x0,y0,hi,⟨⟩,q1,q2,q3,q4,q5,q6⟩ KN hKN;refine rT ?_;intro _;by_cases j:i<l.length
 ·have t:(i:Int)<(l.length:Int):=qZ;refine ee t ?_;obtain⟨p,e1,e2⟩:=aa3 (h.mod q5 eI) j;refine dy e1 (kI e2 ?_);obtain⟨x,V⟩:=dW (l[i]);rw[<-V];have N:=hl x (by grind);refine Wo λw3 C A=>?_;obtain⟨q,hq⟩:=dW W.heap.size;rw[<-hq]at C|-;have htk:l.take (i+1)=l.take i++[x]:=by rw[V];exact bV j
  refine dU.at (λst W' =>st=(.bool (!yZ x),())/\M0 w3 W') ?_ ?_
  ·refine dF ?_
   have hA:At w3 q 0 (fk x.spec):=by
    have:=(At.all C).sub 0 25 (by rw[gL];omega);rw[dO,t8,aP (by rw[bb];omega),ay (by rw[bb];omega)]at this;exact this
   apply iu (fk x.spec) 24 yf ud (bb _) hA;refine pY N.1 λo d=>?_;have S:=d.hpk C id;cases E:x.spec.may with
   |false=>
    refine lV ?_;exact⟨by simp[yZ,E],d⟩
   |true=>
    refine fh ?_;refine dF ?_;refine nm S RE ?_;apply ib N.2 qZ;refine dF ?_;exact⟨by simp[yZ,E],d⟩
  rintro _ o ⟨rfl,d⟩;cases H:yZ x with
  |false=>
   refine qk ?_;intro _;rw[bG,ab (show(!false)=true from rfl)];refine fin 0 2 o ?_ ((q5.trans A).trans d);unfold jC;rw[aa u];exact ab (jO.2 ⟨x,by grind,by rw[H];simp⟩)
  |true=>
   have M4:=(q5.trans A).trans d;have r4:=(q1.mod A id).mod d id;have S:=d.hpk C id;refine Pf (k:=(i:Int)) r4 S qZ qZ qZ q2 H N.1 λW' rW mW=>?_;have hsz:=mW.size;have hb4:=aJ S;have hs34:=d.size;have hs3:=A.size;refine hKN _ _ ⟨i+1,_,_,qZ,rfl,?_,?_,?_,((q4.mod A id).mod d id).mod mW qZ,M4.on mW λy hy=>gT,qZ⟩ (by grind)
   ·grind
   ·rw[htk,iP];have:=C4 (k:=(i:Int)) qZ q2 H;rw[jx];exact this
   ·grind
 ·obtain rfl:i=l.length:=qZ;refine fh ?_;rw[aL]at q1 q2 q3;obtain⟨rs,hrs⟩:=dW (l.foldl mj (List.replicate 9 TU));rw[<-hrs]at q1 q2;apply zw f
  refine iz (λst W2=>∃(i:Nat) (x y:Vt_) (L:List (Int×Int)) (seen:List Int),i<=l.length/\st=(x,y,gI i,())/\rR W2 b rs/\fI eS FJ W2 m L/\(∀n,lk L n=if n∈seen then some 1 else none)/\A2 [] l=A2 seen (l.drop i)/\M0 w W2)
   (λst _=>match st.2.2.1 with| .int _ i=>l.length - i.toNat|_=>0) ⟨0,_,_,[],[],qZ,rfl,q1,q4,λn=>by simp[lk],rfl,q5⟩ ?_
  rintro⟨_,_,_,_⟩ W2 ⟨i,x0,y0,L,seen,hi,⟨⟩,t1,t2,t3,t4,t5⟩ KM hKM;refine rT ?_;intro _;by_cases j:i<l.length
  ·have t:(i:Int)<(l.length:Int):=qZ;refine ee t ?_;obtain⟨p,e1,e2⟩:=aa3 (h.mod t5 eI) j;refine dy e1 (kI e2 ?_);obtain⟨x,V⟩:=dW (l[i]);rw[<-V];refine Wo λw3 C A=>?_;obtain⟨q,hq⟩:=dW W2.heap.size;rw[<-hq]at C|-;have P:l.drop i=x::l.drop (i+1):=by rw[V];exact(bR j).symm
   rw[P,A2]at t4;have hml:=t2.lt;have Y:=t2.mod A id;refine dF ?_;refine dF ?_;refine qS3 C lgT QM ?_;apply wW (enc:=eS) (ev:=FJ) (x:=x.spec.num) (gI 0) P2 kL UX (.inr ⟨m,rfl,Y⟩);obtain⟨v,R⟩:=dW (if x.spec.num∈seen then 1 else 0:Int)
   have hlk:(lk L x.spec.num).elim (gI 0) FJ=gI v:=by
    rw[t3,R];split<;>rfl
   rw[hlk];have hvb:0<=v/\v<=1:=by grind
   apply az (FJ (v+1)) w3 (by simp[go_sem,FJ];rw[mL]);refine kM (enc:=eS) (ev:=FJ) (x:=x.spec.num) (v:=v+1) P2 kL Y λo T d hs4=>?_;have S:=d.hpk C qZ;refine dF ?_;refine dF ?_;refine qS3 S lgT QM ?_;apply wW (enc:=eS) (ev:=FJ) (x:=x.spec.num) (gI 0) P2 kL UX (.inr ⟨m,rfl,T⟩)
   have U:(lk (put L x.spec.num (v+1)) x.spec.num).elim (gI 0) FJ=gI (v+1):=by
    rw[lL,ab rfl];rfl
   rw[U];have M4:M0 w o:=(t5.trans A).on d λy hy=>gT;by_cases B:x.spec.num∈seen
   ·rw[ab B]at R;refine ee R ?_;refine fin 0 8 o ?_ M4;have ht:A2 [] l=true:=by rw[t4];simp[B]
    unfold jC;rw[aa u,aa (by rw[q3];simp),ab ht]
   ·rw[aa B]at R;refine fH R ?_;apply az (gI ((i+1:Nat):Int)) o (by simp[go_sem];rw[mL]);refine hKM _ _ ⟨i+1,_,_,_,x.spec.num::seen,qZ,rfl,(t1.mod A id).mod d qZ,T,λn=>?_,?_,M4⟩ (by grind)
    ·rw[lL,t3,R];by_cases hno:x.spec.num=n
     ·subst hno;simp
     ·grind
    ·rw[t4];simp[B]
  ·obtain rfl:i=l.length:=qZ;refine fh ?_;rw[cg (aB _),A2]at t4
   have hmr:jC l=(zB rs,0):=by
    unfold jC;rw[aa u,aa (by rw[q3];simp),aa (by rw[t4];simp),<-hrs]
   have X:∀r∈rs,r.Bd 16:=λr F=>by
    obtain⟨h1,h2,h3,h4,h5,h6,h7,h8⟩:=q2 r F;exact⟨h1,qZ,h3,qZ,h5,qZ,h7,h8⟩
   have hr9:=t1.2
   refine iz (λst G=>∃i:Nat,i<=9/\st=(gI (zB (rs.take i)),gI i,())/\rR G b rs/\M0 w G)
    (λst _=>match st.2.1 with| .int _ i=>9 - i.toNat|_=>0) ⟨0,qZ,rfl,t1,t5⟩ ?_
   rintro⟨_,_,_⟩ G ⟨i,hi9,⟨⟩,u1,u2⟩ KP hKP;refine rT ?_;intro _;by_cases D:i<9
   ·have J:(i:Int)<9:=qZ;refine ee J ?_;refine dy (rR.ix D .i64 G) (dy (u1.ld4 D) ?_);obtain⟨r,F⟩:=dW (rs[i]'qZ);rw[<-F];obtain⟨wv,o,v1,v2,Q,v4⟩:=ae2 r G;obtain⟨q,hq⟩:=dW G.heap.size;rw[<-hq]at v1 v2 Q;refine dy v1 (lO v2 ?_);unfold Jd at Q;have hrb:=X r (by grind);have hp:=Rt.prod hrb;obtain⟨z,hz⟩:=dW (min r.longs r.shorts*r.rate);rw[<-hz]at hp;refine dF ?_;refine dD Q ?_;refine dF ?_;refine dD Q ?_;refine dF ?_;refine dD Q ?_;refine II ?_;refine dF ?_;refine dD Q ?_;apply az (gI z) o (by simp only[go_sem];simp;rw[<-hz,mL]);apply dy (FH (W:=o) ⟨qZ,qZ⟩);refine II ?_;have hsb:=H8 (l:=rs.take i) λr F=>X r (bm F);have htl:(rs.take i).length<=9:=by grind
    apply dy (Aj (W:=o) ⟨qZ,qZ⟩);apply az (gI ((i+1:Nat):Int)) o (by simp[go_sem];rw[mL]);refine hKP _ _ ⟨i+1,qZ,?_,u1.mod v4 id,u2.trans v4⟩ (by grind);have e:rs.take (i+1)=rs.take i++[r]:=by rw[F];exact bV qZ
    rw[e,Ju];unfold Hx;rw[<-hz]
   ·obtain rfl:i=9:=qZ;refine fh ?_;rw[ay qZ];exact fin _ 0 G hmr u2
end Go.Proofs
namespace Go.Proofs
open Go Go.Vc
structure Cm where
 kind:Int
 acct:Int
 ct:Int
 num:Int
 amt:Int
 spec:Sp
 on:Bool
 buy:Bool
 ty:Int
 price:Int
 qty:Int
 deriving DecidableEq
def Cm.Fit(c:Cm):Prop:=(0<=c.kind/\c.kind<256)/\gM c.acct/\gM c.ct/\sB c.num/\dM c.amt/\c.spec.Fit/\(0<=c.ty/\c.ty<256)/\dM c.price/\dM c.qty
def Fj:Cm:=⟨0,0,0,0,0,Ay,false,false,0,0,0⟩
def jI(c:Cm):List Value:=[.int .u8 c.kind,gU c.acct,gU c.ct,gQ c.num,gI c.amt]++(fk c.spec++[.bool c.on,.bool c.buy,gB c.ty,gI c.price,gI c.qty])
def Cm.bare(c:Cm):Cm:=
 let b:Cm:={Fj with kind:=c.kind}
 if c.kind=1\/c.kind=2 then{b with acct:=c.acct,amt:=c.amt}
 else if c.kind=3 then{b with spec:=c.spec}
 else if c.kind=4 then{b with ct:=c.ct,on:=c.on}
 else if c.kind=5 then{c with num:=0,amt:=0,spec:=Ay,on:=false}
 else if c.kind=6 then{b with acct:=c.acct,num:=c.num}
 else if c.kind=7 then{b with acct:=c.acct,num:=c.num,price:=c.price,qty:=c.qty}
 else if c.kind=8 then{b with acct:=c.acct,ct:=c.ct}
 else if c.kind=9 then{b with acct:=c.acct,ct:=c.ct,buy:=c.buy,price:=c.price,qty:=c.qty}
 else if c.kind=10 then{b with acct:=c.acct,on:=c.on}
 else if c.kind=11 then{b with ct:=c.ct,price:=c.price}
 else if c.kind=13 then{b with acct:=c.acct}
 else if c.kind=14 then{b with ct:=c.ct}
 else b
def Cm.may(c:Cm):Bool:=decide (1<=c.kind/\c.kind<=14)&& decide (c=c.bare)&& (decide (c.kind≠3)||c.spec.may)
structure Rp where
 err:Int
 num:Int
 filled:Int
 left:Int
 trades:List Td
 gone:List Int
 accts:List Int
 deriving DecidableEq
def jo:Rp:=⟨0,0,0,0,[],[],[]⟩
def uw(e:Int):Rp:={jo with err:=e}
structure kW where
 leg:Lg
 basis:Int
 price:Int
 ords:List Od
structure Nd where
 m:Int
 w:Int
 u:Int
 deriving DecidableEq
def kW.ok(s:kW):Bool:=
 aY s.basis (-1000000000000000) 1000000000000000&& aY s.leg.q (-10000000) 10000000&& s.leg.spec.isPrice s.price&& decide (s.ords.length<=250)&& s.ords.all (·.may)
def oU(l:List Od)(buy:Bool):Int:=((l.filter λo=>o.buy==buy).map (·.left)).sum
def rO(price:Int)(o:Od):Int:=if o.buy then max 0 (o.price - price)*o.left else max 0 (price - o.price)*o.left
def kW.at(s:kW)(q:Int):Int:=(vJ s.leg.spec.shifts q).1
def kW.worst(s:kW):Int:=
 (s.ords.map (rO s.price)).sum+max 0 (max (s.at (s.leg.q+oU s.ords true)) (s.at (s.leg.q - oU s.ords false)) - s.at s.leg.q)
def kW.u(s:kW):Int:=s.basis - s.leg.q*s.price
def oZ(l:List kW):Nd×Int:=
 if 16<l.length then(⟨0,0,0⟩,3)
 else if l.all kW.ok=false then(⟨0,0,0⟩,2)
 else if(jC (l.map (·.leg))).2≠0 then(⟨0,0,0⟩,(jC (l.map (·.leg))).2)
 else(⟨(jC (l.map (·.leg))).1,(l.map kW.worst).sum,max 0 (l.map kW.u).sum⟩,0)
def Nd.total(n:Nd):Int:=n.m+n.w+n.u
structure ba where
 cal:oq
 led:bq
 bk:Int->Bk
 bd:Int->List Od
 next:Int
def ba.empty:ba:=⟨⟨0,[]⟩,⟨0,[],[]⟩,λ_=>Bk.empty,λ_=>[],1⟩
def eR{α:Type}(f:Int->α)(n:Int)(x:α):Int->α:=λm=>if m=n then x else f m
def cQ{α:Type}(f:Int->α)(n:Int)(x:α):eR f n x n=x:=ab rfl
def eT{α:Type}(f:Int->α)(n:Int)(x:α){m:Int}(h:m≠n):eR f n x m=f m:=aa h
def ba.nums(S:ba):List Int:=S.cal.l.map (·.spec.num)
def kP(a:Int)(o:Od):Bool:=decide (o.acct=a)
def rQ(a:Int)(x:List Int×ba)(n:Int):List Int×ba:=
 ((x.1++(iU (x.2.bk n) a).2.map (·.num))++((x.2.bd n).filter (kP a)).map (·.num),
 {x.2 with bk:=eR x.2.bk n (iU (x.2.bk n) a).1,bd:=eR x.2.bd n ((x.2.bd n).filter λo=> !kP a o)})
def ba.clear(S:ba)(a k:Int):List Int×ba:=(S.nums.filter λn=>decide (k=0\/k=n)).foldl (rQ a) ([],S)
def ba.opn(S:ba)(n a:Int):Int×Int:=((uj (S.bk n) a).1+rU (S.bd n) a true,(uj (S.bk n) a).2+rU (S.bd n) a false)
def ba.stake(S:ba)(a:Int)(k:Ct):kW:=
 ⟨⟨k.spec,(S.led.position k.spec.num a).q⟩,(S.led.position k.spec.num a).b,k.price,(S.bk k.spec.num).all.filter (kP a)++(S.bd k.spec.num).filter (kP a)⟩
def ba.stakes(S:ba)(a:Int):List kW:=(S.cal.l.filter λk=>decide (k.st≠3)).map (S.stake a)
def ba.need(S:ba)(a:Int):Nd×Int:=if S.led.getO a=none\/a=0 then(⟨0,0,0⟩,7)else oZ (S.stakes a)
def ba.acc(S:ba)(a:Int):Ac:=(S.led.getO a).getD ⟨0,0,false,false⟩
def ba.bears(S:ba)(a:Int):Int:=
 if(S.need a).2≠0 then(S.need a).2 else if(S.acc a).cash<(S.need a).1.total then 161 else 0
def ba.pass(S:ba)(a n:Int)(buy:Bool)(price qty:Int)(w:Od):Int:=
 if S.led.getO a=none then 7
 else if(dw S.cal.l n).2≠0 then(dw S.cal.l n).2
 else Gt.check ⟨(dw S.cal.l n).1,S.acc a,(S.led.position n a).q,(S.opn n a).1 - (if w.buy then w.left else 0),(S.opn n a).2 - (if w.buy then 0 else w.left),buy,price,qty⟩
def oK(n:Int)(o:Od):List Td->bq->Int×bq
 | [],L=>(0,L)
 |t::l,L=>
  let x:=L.trade n (if o.buy then o.acct else t.acct) (if o.buy then t.acct else o.acct) t.price t.qty
  if x.1≠0 then x else oK n o l x.2
def ba.traded(S:ba)(n:Int)(o:Od)(p:Pm):Int×Rp×ba:=
 let x:=oK n o p.trades S.led;let S' :={S with led:=x.2}
 if x.1≠0 then(x.1,jo,S')else(S'.bears o.acct,⟨0,o.num,p.filled,p.left,p.trades,p.gone,[]⟩,S')
def Cm.od(c:Cm)(n:Int):Od:=⟨n,c.acct,c.buy,c.price,c.qty⟩
def ll:Int:=4611686018427387904
def ba.order(S:ba)(c:Cm):Int×Od×ba:=
 let e:=S.pass c.acct c.ct c.buy c.price c.qty ou
 if e≠0 then(e,ou,S)else if ll<S.next then(6,c.od 0,S)else(0,c.od S.next,{S with next:=S.next+1})
def ba.place(S:ba)(c:Cm):Int×Rp×ba:=
 let x:=S.order c
 if x.1≠0 then(x.1,jo,x.2.2)
 else
  let p:=cE (x.2.2.bk c.ct) x.2.1 c.ty;let S' :={x.2.2 with bk:=eR x.2.2.bk c.ct p.2.1}
  if p.1≠0 then(p.1,jo,S')else S'.traded c.ct x.2.1 p.2.2
def ba.bid(S:ba)(c:Cm):Int×Rp×ba:=
 let x:=S.order c
 if x.1≠0 then(x.1,jo,x.2.2)
 else if 50<=(x.2.2.bd c.ct).length then(9,jo,x.2.2)
 else
  let S' :={x.2.2 with bd:=eR x.2.2.bd c.ct (x.2.2.bd c.ct++[x.2.1])}
  (S'.bears c.acct,⟨0,x.2.1.num,0,x.2.1.left,[],[],[]⟩,S')
def uy(bk:Int->Bk)(a num n:Int):Option (Od×Int):=
 match (bk n).find num with
 |some (o,_)=>if o.acct=a then some (o,n)else none
 |none=>none
def ba.find(S:ba)(a num:Int):Option (Od×Int):=S.nums.findSome? (uy S.bk a num)
def vF(a num:Int)(o:Od):Bool:=decide (o.num=num)&& decide (o.acct=a)
def uD(bd:Int->List Od)(a num n:Int):Option (Nat×Int):=((bd n).findIdx? (vF a num)).map λi=>(i,n)
def ba.cancel(S:ba)(c:Cm):Int×Rp×ba:=
 match S.find c.acct c.num with
 |some (o,n)=>((eY (S.bk n) c.num).1,{jo with num:=c.num,left:=o.left},{S with bk:=eR S.bk n (eY (S.bk n) c.num).2.1})
 |none=>
  match S.nums.findSome? (uD S.bd c.acct c.num)with
  |some (i,n)=>(0,{jo with num:=c.num,left:=((S.bd n).getD i ou).left},{S with bd:=eR S.bd n ((S.bd n).eraseIdx i)})
  |none=>(7,jo,S)
def ba.replace(S:ba)(c:Cm):Int×Rp×ba:=
 match S.find c.acct c.num with
 |none=>(7,jo,S)
 |some (o,n)=>
  let e:=S.pass c.acct n o.buy c.price c.qty o
  if e≠0 then(e,jo,S)
  else
   let p:=co (S.bk n) c.num c.price c.qty;let S' :={S with bk:=eR S.bk n p.2.1}
   if p.1≠0 then(p.1,jo,S')else S'.traded n o p.2.2
def im(won:Int->Int)(l:List (Int×Int)):Int->Int:=l.foldl (λf x=>eR f x.1 (f x.1+x.2)) won
def mf:List Sd->Rp->ba->Int×Rp×ba
 | [],r,S=>(0,r,S)
 |s::l,r,S=>
  let g:=S.clear s.acct 0;let r' :Rp:=if s.dfl then{r with accts:=r.accts++[s.acct],gone:=r.gone++g.1}else r
  let S1:=if s.dfl then g.2 else S
  let x:=S1.led.set {S.acc s.acct with cash:=s.cash,dfl:=(S.acc s.acct).dfl||s.dfl}
  if x.1≠0 then(x.1,r',{S1 with led:=x.2})else mf l r' {S1 with led:=x.2}
def ba.dues(S:ba)(won:Int->Int):List Du:=S.led.all.map λa=>⟨a.num,a.cash,won a.num⟩
def ba.pay(S:ba)(won:Int->Int):Int×Rp×ba:=
 let x:=gK S.led.fund (S.dues won)
 if x.2.2≠0 then(x.2.2,jo,S)
 else
  let y:=mf x.1 jo S
  if y.1≠0 then y
  else
   let z:=y.2.2.led.set ⟨0,x.2.1,false,false⟩
   (z.1,y.2.1,{y.2.2 with led:=z.2})
def js:List Ct->bq->(Int->Int)->Int×bq×(Int->Int)
 | [],L,won=>(0,L,won)
 |k::l,L,won=>
  if k.st=3 then js l L won
  else
   let x:=L.mark k.spec.num k.price false
   if x.1≠0 then(x.1,x.2.2,im won x.2.1)else js l x.2.2 (im won x.2.1)
def qc(accts:List Int):List Ac->Int->bq->Int×bq
 | [],e,L=>(e,L)
 |a::l,e,L=>
  if a.dfl=true/\(L.ofA a.num).isEmpty=true/\accts.contains a.num=false then
   qc accts l (L.set {a with dfl:=false}).1 (L.set {a with dfl:=false}).2
  else qc accts l e L
def jy:Int->Int:=λ_=>0
def ba.settle(S:ba):Int×Rp×ba:=
 let c:=eJ S.cal;let S0:={S with cal:=c.2}
 if c.1≠0 then(c.1,jo,S0)
 else
  let m:=js c.2.l S.led jy;let S1:={S0 with led:=m.2.1}
  if m.1≠0 then(m.1,jo,S1)
  else
   let p:=S1.pay m.2.2
   if p.1≠0 then p
   else
    let f:=qc p.2.1.accts p.2.2.led.all 0 p.2.2.led
    (f.1,p.2.1,{p.2.2 with led:=f.2})
def ba.expire(S:ba)(n:Int):Int×Rp×ba:=
 let c:=eX S.cal n;let S0:={S with cal:=c.2}
 if c.1≠0 then(c.1,jo,S0)
 else
  let m:=S.led.mark (dw S.cal.l n).1.spec.num (dw S.cal.l n).1.price true;let S1:={S0 with led:=m.2.2}
  if m.1≠0 then(m.1,jo,S1)
  else
   let p:=S1.pay (im jy m.2.1)
   if p.1≠0 then p
   else
    let b:=iU (p.2.2.bk n) 0
    (0,{p.2.1 with gone:=(p.2.1.gone++b.2.map (·.num))++(p.2.2.bd n).map (·.num)},{p.2.2 with bk:=eR p.2.2.bk n b.1,bd:=eR p.2.2.bd n []})
def lQ(L:bq)(n from_ to:Int)(long:Bool)(price qty:Int):Int×bq:=if long then L.trade n to from_ price qty else L.trade n from_ to price qty
def kB(l:List Od)(num qty:Int):List Od:=
 match l.findIdx? λo=>decide (o.num=num)with
 |none=>l
 |some i=>
  let o:=l.getD i ou
  if o.left - qty=0 then l.eraseIdx i else l.set i {o with left:=o.left - qty}
def lq(n a:Int)(long:Bool)(price:Int):List Fl->Int->Rp->ba->Int×Int×Rp×ba
 | [],left,r,S=>(0,left,r,S)
 |f::l,left,r,S=>
  let x:=lQ S.led n a f.acct long price f.qty
  if x.1≠0 then(x.1,left,r,{S with led:=x.2})
  else lq n a long price l (left - f.qty) {r with filled:=r.filled+f.qty,trades:=r.trades++[⟨price,f.qty,f.num,f.acct⟩]}
   {S with led:=x.2,bd:=eR S.bd n (kB (S.bd n) f.num f.qty)}
def lE(n a:Int)(long:Bool)(price:Int):List Hd->Rp->ba->Int×Rp×ba
 | [],r,S=>(0,r,S)
 |h::l,r,S=>
  let x:=lQ S.led n a h.acct long price h.q
  if x.1≠0 then(x.1,r,{S with led:=x.2})
  else lE n a long price l {r with left:=r.left+h.q,trades:=r.trades++[⟨price,h.q,0,h.acct⟩]} {S with led:=x.2}
def ba.sell(S:ba)(k:Ct)(a q:Int)(r:Rp):Int×Rp×ba:=
 let n:=k.spec.num;let long:Bool:=decide (0<q);let c:=ij long (max q (-q)) ((S.bd n).filter λo=>o.buy==long)
 if c.2.2≠0 then(c.2.2,r,S)
 else
  let f:=lq n a long c.1 c.2.1 (max q (-q)) r S
  if f.1≠0 then(f.1,f.2.2.1,f.2.2.2)
  else if f.2.1=0 then(0,f.2.2.1,f.2.2.2)
  else
   let p:=jE (if long then f.2.1 else -f.2.1) (((f.2.2.2.led.holders n).filter λp=>decide (p.a≠a)).map λp=>⟨p.a,p.q⟩)
   if p.2≠0 then(p.2,f.2.2.1,f.2.2.2)
   else lE n a long k.price p.1 f.2.2.1 f.2.2.2
def og(a:Int):List Ct->Rp->ba->Int×Rp×ba
 | [],r,S=>(0,r,S)
 |k::l,r,S=>
  let q:=(S.led.position k.spec.num a).q
  if q=0 then og a l r S
  else
   let x:=S.sell k a q r
   if x.1≠0 then x else og a l x.2.1 x.2.2
def ba.liquidate(S:ba)(a:Ac):Int×Rp×ba:=if a.dfl=false then(162,jo,S)else og a.num S.cal.l jo S
def ba.done(S:ba)(c:Cm):Int×Rp×ba:=
 if c.kind=1 then((S.led.deposit c.acct c.amt).1,jo,{S with led:=(S.led.deposit c.acct c.amt).2})
 else if c.kind=2 then
  let x:=S.led.withdraw c.acct c.amt;let S' :={S with led:=x.2}
  (if x.1≠0 then x.1 else if(S'.acc c.acct).dfl=true then 120 else S'.bears c.acct,jo,S')
 else if c.kind=3 then
  let x:=fy S.cal c.spec
  (x.1,jo,if x.1=0 then{S with cal:=x.2,bk:=eR S.bk c.spec.num Bk.empty}else{S with cal:=x.2})
 else if c.kind=4 then((jB S.cal c.ct c.on).1,jo,{S with cal:=(jB S.cal c.ct c.on).2})
 else if c.kind=11 then((fF S.cal c.ct c.price).1,jo,{S with cal:=(fF S.cal c.ct c.price).2})
 else if c.kind=12 then S.settle
 else if c.kind=14 then S.expire c.ct
 else if c.acct=0 then(2,jo,S)
 else if c.kind=6 then S.cancel c
 else if c.kind=7 then S.replace c
 else if S.led.getO c.acct=none then(7,jo,S)
 else if c.kind=5 then S.place c
 else if c.kind=9 then S.bid c
 else if c.kind=8 then
  if c.ct≠0/\(dw S.cal.l c.ct).2≠0 then((dw S.cal.l c.ct).2,jo,S)
  else(0,{jo with gone:=(S.clear c.acct c.ct).1},(S.clear c.acct c.ct).2)
 else if c.kind=10 then
  let g:=S.clear c.acct 0;let S' :=if c.on then g.2 else S
  let x:=S'.led.set {S.acc c.acct with kil:=c.on}
  (x.1,if c.on then{jo with gone:=g.1}else jo,{S' with led:=x.2})
 else if c.kind=13 then S.liquidate (S.acc c.acct)
 else(0,jo,S)
def ba.apply(S:ba)(c:Cm):Rp×ba:=
 if c.may=false then(uw 160,S)
 else
  let x:=S.done c
  if x.1≠0 then(uw x.1,S)else(x.2.1,x.2.2)
structure zi where
 day:Int
 next:Int
 fund:Int
 accts:List Ac
 cts:List Ct
 poss:List Po
 ords:List (Int×Od)
 bids:List (Int×Od)
def ba.state(S:ba):zi:=
 ⟨S.cal.day,S.next,S.led.fund,S.led.all,S.cal.l,S.nums.flatMap S.led.holders,S.nums.flatMap λn=>(S.bk n).all.map λo=>(n,o),S.nums.flatMap λn=>(S.bd n).map λo=>(n,o)⟩
end Go.Proofs
namespace Go.Proofs
open Go Go.Vc
attribute [local congr] bj
inductive Pt where
 |v
 |cal
 |led
 |mb
 |md
 |bk (n:Int)
 |bd (n:Int)
 deriving DecidableEq
def eE(v:Nat):Value:=cU v 0
def AP(x:Vt_):Value:=x
abbrev TL:TypeId:=93
def ly(D:List (Int×Value))(n:Int):Value:=(lk D n).getD jq
structure Hp(w:Wt_)(v c l mb md:Nat)(A:List (Int×Nat))(D:List (Int×Value))(fp:Pt->Nat->Prop)(S:ba):Prop where
 blk:hC w v #[gk c,eK l,.map (some mb),.map (some md),gQ S.next] TL
 cal:mP w c (fp .cal) S.cal
 led:iw w l (fp .led) S.led
 mbk:fI eS fe w mb A
 mbd:fI eS AP w md D
 bk:∀n b,lk A n=some b->gW w b (fp (.bk n)) (S.bk n)
 nbk:∀n,lk A n=none->S.bk n=Bk.empty/\∀x,¬fp (.bk n) x
 bd:∀n,sZ w (ly D n) (S.bd n)
 fv:∀x,fp .v x↔x=v
 fmb:∀x,fp .mb x↔x=mb
 fmd:∀x,fp .md x↔x=md
 fbd:∀n x,fp (.bd n) x↔aQ (ly D n) x
 dj:∀p q x,fp p x->fp q x->p=q
structure VR(w:Wt_)(v c l mb md:Nat)(A:List (Int×Nat))(D:List (Int×Value))(fp:Pt->Nat->Prop)(S:ba):Prop extends Hp w v c l mb md A D fp S where
 dom:∀n,(lk A n).isSome=(bU S.cal.l n).isSome
 dod:∀n,(lk D n).isSome=true->(bU S.cal.l n).isSome=true
def MO(w:Wt_)(v:Nat)(F:NP_)(S:ba):Prop:=∃c l mb md A D fp,VR w v c l mb md A D fp S/\∀x,F x↔∃p,fp p x
section
variable{w w' :Wt_}{v c l mb md:Nat}{A:List (Int×Nat)}{D:List (Int×Value)}{fp:Pt->Nat->Prop}{S:ba}
def Hp.lt(h:Hp w v c l mb md A D fp S){p:Pt}{x:Nat}(a:fp p x):x<w.heap.size:=by
 cases p with
 |v=>rw[(h.fv x).1 a];exact aJ h.blk
 |cal=>exact h.cal.lt a
 |led=>exact h.led.lt a
 |mb=>rw[(h.fmb x).1 a];exact h.mbk.lt
 |md=>rw[(h.fmd x).1 a];exact h.mbd.lt
 |bk n=>
  cases d:lk A n with
  |none=>exact absurd a ((h.nbk n d).2 x)
  |some b=>exact(h.bk n b d).lt a
 |bd n=>exact(h.bd n).lt ((h.fbd n x).1 a)
def MO.lt{F:NP_}(h:MO w v F S){x:Nat}(d:F x):x<w.heap.size:=by
 obtain⟨c,l,mb,md,A,D,fp,a,b⟩:=h;obtain⟨p,hp⟩:=(b x).1 d;exact a.lt hp
def Hp.self(h:Hp w v c l mb md A D fp S):fp .v v:=(h.fv v).2 rfl
def Hp.mod{G:NP_}(h:Hp w v c l mb md A D fp S)(d:bn G w w')(a:∀p x,fp p x->¬G x):Hp w' v c l mb md A D fp S where
 blk:=d.hpk h.blk (a .v v h.self)
 cal:=h.cal.mod d (a .cal)
 led:=h.led.mod d (a .led)
 mbk:=h.mbk.mod d (a .mb mb ((h.fmb mb).2 rfl))
 mbd:=h.mbd.mod d (a .md md ((h.fmd md).2 rfl))
 bk n b hl:=(h.bk n b hl).mod d (a (.bk n))
 nbk:=h.nbk
 bd n:=(h.bd n).mod d λx e=>a (.bd n) x ((h.fbd n x).2 e)
 fv:=h.fv
 fmb:=h.fmb
 fmd:=h.fmd
 fbd:=h.fbd
 dj:=h.dj
def VR.mod{G:NP_}(h:VR w v c l mb md A D fp S)(b:bn G w w')(a:∀p x,fp p x->¬G x):VR w' v c l mb md A D fp S:=⟨h.toHp.mod b a,h.dom,h.dod⟩
def MO.mod{F G:NP_}(h:MO w v F S)(d:bn G w w')(b:∀x,F x->¬G x):MO w' v F S:=by
 obtain⟨c,l,mb,md,A,D,fp,e,a⟩:=h;exact⟨c,l,mb,md,A,D,fp,e.mod d λp x f=>b x ((a x).2 ⟨p,f⟩),a⟩
def sq(D:List (Int×Value))(n m:Int)(x:Vt_):ly (put D n x) m=if m=n then x else ly D m:=by
 unfold ly;rw[lL];by_cases a:m=n
 ·subst a;simp
 ·grind
end
end Go.Proofs
