/- Part of a proof. -/
import Derived.Laws.Externs
import Derived.Shelf.Bits.Mul64
import Derived.Shelf.Small.Bits
import Derived.Ground.NamesProg
import Derived.Lib.ItoaNum
import Derived.Laws.Bits64b
import Derived.Test.YtekbnpagidkbbaaGreatT11
set_option linter.all false
set_option maxRecDepth 100000
set_option maxHeartbeats 4000000
namespace Go.Proofs
open Go Go.Vc
attribute [local congr] bj
variable {n:Int}{l:List Ct}{F:NP_}{c:Nat}{w:Wt_}{K:be}{S:oq}
def zh(hs:nU l){n:Int}{k:Ct}(h:bU l n=some k):∃d:iM l n<l.length,l[iM l n]=k/\k.spec.num=n:=by
 unfold bU at h;obtain⟨m,i,d,b,g⟩:=dE.1 h;have a:k.spec.num=n:=by simpa using m
 have e:iM l n=i:=by
  refine Bn qZ (λj f c=>?_) λf=>by rw[b];omega
  have:=bH.1 hs j i f d c;rw[b]at this;omega
 subst e;exact⟨d,b,a⟩
def pI{k:Ct}(h:bU l n=some k):k∈l:=dt h
def Jc(h:mP w c F S)
  (f:∀b,M0 w b->K (.tuple #[.int .i64 (iM S.l n),.bool (bU S.l n).isSome]) b):Ca pQ 201 #[gk c,gU n] w K:=by
 obtain⟨⟨sl,e,d,o,k⟩,m,p,l,g⟩:=h;unfold gk;refine cN Tryz.func201 ?_;simp only[cJ];obtain⟨sa,sc,a,-⟩:=d.isSl;refine dF ?_;refine N9 sl e a ?_;refine UR d.rd qZ g λj i=>?_;refine dF ?_;refine dF ?_;exact f _ i
def bt(l:List Ct)(n:Int):Int:=match bU l n with|none=>7|some k=>if k.st=3 then 50 else 0
def AD.item{sl:Vt_}(h:AD w sl l){i:Nat}(hi:i<l.length):
  ∃b a rest,sl=.slice (some ⟨b,0,none⟩) l.length a/\(∀k:IntKind,(iX Kn sl (.int k (i:Int))).run pQ w=.ok (cU b (i*27)) w)/\At w b (i*27) (dh l[i])/\
   hC w b (l.flatMap dh++rest).toArray lN/\∀j,j<27->(l.flatMap dh++rest)[i*27+j]? =(dh l[i])[j]? :=by
 obtain⟨b,a,rest,rfl,p,d,o⟩:=h.pos qZ;have c:At w b 0 (l.flatMap dh++rest):=At.all (cO d);have f:=h.1;have e:=c.sub (i*27) 27 (by grind);rw[cT (by rw[f];omega),aP (by grind),lx dh 27 l i (λx _=>bC x) hi,cI]at e;refine⟨b,a,rest,rfl,λk=>by simp[go_sem,hi,bQ,pG],e,cO d,λj n=>?_⟩;rw[bP (by rw[f];omega)];have m:=lx dh 27 l i (λx _=>bC x) hi;have g:(((l.flatMap dh).drop (i*27)).take 27)[j]? =(dh l[i])[j]? :=by rw[m]
 rw[eB,ab n,eV]at g;exact g
def vi(h:mP w c F S)
  (y:∀g,bt S.l n≠0->M0 w g->K (.tuple #[.pointer none,gI (bt S.l n)]) g)
  (D:∀i (hi:i<S.l.length) b d g,S.l[i].spec.num=n->S.l[i].st≠3->bU S.l n=some S.l[i]->bt S.l n=0->M0 w g->hC g c #[.bool true,gU S.day,.slice (some ⟨b,0,none⟩) S.l.length d] 172->
   AD g (.slice (some ⟨b,0,none⟩) S.l.length d) S.l->(∀x,F x↔x=c\/x=b)->b≠c->K (.tuple #[.pointer (some ⟨b,i*27,none⟩),gI 0]) g):Ca pQ 203 #[gk c,gU n] w K:=by
 unfold gk;refine cN Tryz.func203 ?_;apply pE h;refine fh ?_;refine Jc h λs q=>?_;have B:=h.mod q eI;refine dF ?_;refine dF ?_;cases l:bU S.l n with
 |none=>
  refine lV ?_;have e:bt S.l n=7:=by unfold bt;rw[l]
  have m:=y s (by rw[e];decide) q;rw[e]at m;exact m
 |some k=>
  refine fh ?_;obtain⟨hi,f,r⟩:=zh h.srt l;obtain⟨⟨sl,u,v,C,A⟩,G,J,E,I⟩:=B;obtain⟨b,d,rest,rfl,j,H,z,o⟩:=v.item hi;have p:=o 25 qZ;rw[Ga,f]at p;simp only[gk,cJ];refine dF ?_;refine dD u ?_;apply dy (j .i64);refine dD bQ ?_;refine nm z p ?_;by_cases a:k.st=3
  ·refine ee a ?_;have e:bt S.l n=50:=by unfold bt;rw[l];simp only;rw[ab a]
   have m:=y s (by rw[e];decide) q;rw[e]at m;exact m
  ·refine fH a ?_;refine dF ?_;refine dD u ?_;apply dy (j .i64);have e:bt S.l n=0:=by unfold bt;rw[l];simp only;rw[aa a]
   refine D _ hi b d s (by rw[f];exact r) (by rw[f];exact a) (by rw[l,f]) e q u v (λx=>?_) λt=>A (by rw[t];rfl);rw[C x];exact⟨λh=>h.imp id λh=>by cases h;rfl,λh=>h.imp id λh=>by rw[h];rfl⟩
def VB(h:mP w c F S)(b:K (gU S.day) w):Ca pQ 57 #[gk c] w K:=by
 obtain⟨⟨sl,a,d,g,e⟩,f⟩:=id h;unfold gk;refine cN Tryz.func57 ?_;apply pE h;refine fh ?_;simp only[gk,cJ];refine dF ?_;refine dD a ?_;exact b
def eJ(S:oq):Int×oq:=if S.day=4294967295 then(6,S)else(0,⟨S.day+1,S.l⟩)
def Ps(h:mP w c F S)
  (a:∀f,mP f c F (eJ S).2->bn F w f->K (gI (eJ S).1) f):Ca pQ 204 #[gk c] w K:=by
 obtain⟨⟨sl,d,k,o,g⟩,m,p,l,n⟩:=id h;unfold gk;refine cN Tryz.func204 ?_;apply pE h;refine fh ?_;simp only[gk,cJ];refine dF ?_;refine dD d ?_;unfold eJ at a;by_cases b:S.day=4294967295
 ·refine ee b ?_;rw[ab b]at a;exact a _ h rC
 ·refine fH b ?_;rw[aa b]at a;refine dF ?_;refine dD d ?_;apply az (gU (S.day+1)) w (by simp[go_sem];rw[IntKind.wrap_u32];omega);refine dF ?_;refine Tr d ?_;have j:bn (λx=>x=c) w (w.setCell ⟨c,1,none⟩ (gU (S.day+1))):=(bn.refl (λx=>x=c) w).sc;refine a _ ⟨⟨sl,by simp[go_sem,d],k.mod j λx i e=>g (e▸i),o,g⟩,m,⟨by grind,by grind⟩,l,n⟩ (j.mono λx _ i=>by grind)
def Ay:Sp:=⟨0,0,0,0,0,0,Vector.replicate 16 0,0,0,0⟩
def JT:Ct:=⟨Ay,0,0⟩
def QO:iK pQ lN=dh JT:=cH
def Va:Tryz.prog.built lN []=some (dh JT).toArray:=cH
def WM{W:Wt_}{q:Nat}{k0 k:Ct}{K:Value->World->Prop}(h:hC W q (dh k0).toArray lN)
  (i:∀d,bn (λb=>b=q) W d->K (.agg (dh k).toArray) d):
  DD pQ (ur lN (cU q 0) (.agg (dh k).toArray)) W λa=>IG pQ (pp lN (cU q 0)) a λj=>K j a:=by
 apply Gq (n:=26) (c:=(dh k0).toArray) (e:=lN) qp (bC k) h (by rw[bC,dC,bC];exact aB _) (g9 k);rw[show(dh k0).toArray.toList=dh k0 from rfl,kv (by rw[bC,bC])]
 have f:hC (W.setRow q (dh k).toArray) q (dh k).toArray lN:=by
  show(W.setRow q _).heap[q]? =_;have g:W.heap[q]? =some (.cells (dh k0).toArray lN (0,0)):=h;rw[eU,ab rfl,g]
 apply rj (dh k) 26 Dq qp (bC k) (At.all f);exact i _ ((bn.refl (λb=>b=q) W).setRow (.inl rfl) _)
def dw(l:List Ct)(n:Int):Ct×Int:=match bU l n with|none=>(JT,7)|some k=>(k,0)
def VU(h:mP w c F S)
  (a:∀p,M0 w p->K (.tuple #[.agg (dh (dw S.l n).1).toArray,gI (dw S.l n).2]) p):Ca pQ 143 #[gk c,gU n] w K:=by
 unfold gk;refine cN Tryz.func143 ?_;apply uZ XL;obtain⟨q,d⟩:=dW w.heap.size;have j:M0 w (w.alloc (.cells (iK pQ lN).toArray lN)):=nl;have s:hC (w.alloc (.cells (iK pQ lN).toArray lN)) q (dh JT).toArray lN:=by rw[QO,d];simp[go_sem]
 rw[<-d];generalize w.alloc (.cells (iK pQ lN).toArray lN)=N at j s|-;have f:=h.mod j eI;apply pE f;refine fh ?_;refine Jc f λG l=>?_;have z:=f.mod l eI;have r:=j.trans l;have o:=l.hpk s id;refine dF ?_;refine dF ?_;unfold dw at a;cases g:bU S.l n with
 |none=>
  rw[g]at a;refine lV ?_;apply Lt Va;refine WM o λE m=>?_;exact a _ (r.on m λx D=>gT)
 |some k=>
  rw[g]at a;refine fh ?_;obtain⟨C,i,v⟩:=zh h.srt g;obtain⟨⟨sl,A,y,O,I⟩,L,P,J,M⟩:=z;obtain⟨b,B,rest,rfl,e,t,H,u⟩:=y.item C;simp only[gk,cJ];refine dF ?_;refine dD A ?_;apply dy (e .i64);rw[i]at t;apply iu (dh k) 26 Dq qp (bC k) t;refine WM o λE m=>?_;exact a _ (r.on m λx D=>gT)
def RS(h:mP w c F S)
  (J:∀y A r,mP r y A S->M0 w r->(∀b,A b->w.heap.size<=b)->K (gk y) r):Ca pQ 91 #[gk c] w K:=by
 obtain⟨⟨sl,C,u,X,V⟩,I,R,H,N⟩:=id h;obtain⟨sa,sc,d,-⟩:=u.isSl;unfold gk;refine cN Tryz.func91 ?_;apply pE h;refine fh ?_;simp only[gk,cJ];refine N9 (.agg #[.bool true,gU S.day,sl]) C d ?_;obtain⟨q,g⟩:=dW w.heap.size
 have k:∃a,(iA 172 true (.tuple #[])).run pQ w=.ok (cU q 0) a/\∃j,(iS 172 (cU q 0) (.agg #[.bool true,gU S.day,sl])).run pQ a=.ok () j/\
   hC j q #[.bool true,gU S.day,sl] 172/\M0 w j/\w.heap.size<j.heap.size:=by
  obtain⟨a,f⟩:=dW (w.alloc (.cells #[.bool false,gU 0,.slice none 0 0] 172));have O:M0 w a:=by rw[f];exact(bn.refl _ w).alloc _
  have t:hC a q #[.bool false,gU 0,.slice none 0 0] 172:=by rw[f,g];simp[go_sem]
  have M:a.heap.size=w.heap.size+1:=by rw[f,ci]
  refine⟨a,by rw[f,g];simp[go_sem],((a.setCell ⟨q,0,none⟩ (.bool true)).setCell ⟨q,1,none⟩ (gU S.day)).setCell ⟨q,2,none⟩ sl,by rw[d];simp[go_sem,t],by rw[d];simp[go_sem,t],?_,by simp only[tm];omega⟩;exact O.on ((((bn.refl (λx=>x=q) a).sc).sc).sc) λx n=>gT
 obtain⟨a,T,j,L,P,o,Q⟩:=k;apply dy T;apply lO L;have k1:=o.hpk C id;refine dF ?_;refine N9 sl k1 d ?_;refine vU (l:=S.l) (u.mod o eI).rd qZ λi m D v G=>?_;have z:=v.hpk P id;refine dF ?_;obtain⟨W,U,p,-⟩:=D.isSl;apply nz (m.setCell ⟨q,2,none⟩ i) (by rw[p];simp[go_sem,z]);have E:bn (λx=>x=q) m (m.setCell ⟨q,2,none⟩ i):=(bn.refl (λx=>x=q) m).sc;have B:¬aQ i q:=λn=>by grind
 refine J q (λb=>b=q\/aQ i b) _ ⟨⟨i,by simp[go_sem,z],D.mod E λx n e=>B (e▸n),λb=>aI,B⟩,I,R,H,N⟩ ((o.trans v).on E λx n=>gT) λb s=>?_;rcases s with rfl|s
 ·omega
 ·have:=G b s;omega
end Go.Proofs
namespace Go.Proofs
open Go Go.Vc
attribute [local congr] bj
variable {k:Ct}{n:Int}{l:List Ct}{F:NP_}{b c:Nat}{w:Wt_}{K:be}{S:oq}
def ik(l:List Ct)(n:Int)(f:Ct->Ct):List Ct:=l.map λk=>if k.spec.num=n then f k else k
def nZ(hs:nU l){n:Int}{i:Nat}(hi:i<l.length)(g:l[i].spec.num=n)(f:Ct->Ct):ik l n f=l.set i (f l[i]):=by
 unfold ik;apply List.ext_getElem
 ·simp
 ·intro j c d;have a:j<l.length:=by simpa using c
  rw[List.getElem_set,cn];by_cases b:i=j
  ·grind
  ·rw[aa b,aa];intro e;rcases Nat.lt_or_ge i j with h|h
   ·have:=bH.1 hs i j hi a h;omega
   ·have:=bH.1 hs j i a hi qZ;omega
def pg{f:Ct->Ct}(j:∀k∈l,k.spec.num=n->(f k).Ok/\(f k).spec.num=k.spec.num)(e:∀k∈l,k.Ok)(d:nU l):(∀k∈ik l n f,k.Ok)/\nU (ik l n f)/\(ik l n f).length=l.length:=by
 have a:∀k∈l,(if k.spec.num=n then f k else k).spec.num=k.spec.num:=λk b=>by
  split
  ·grind
  ·rfl
 refine⟨λk b=>?_,?_,by simp[ik]⟩
 ·obtain⟨x,i,rfl⟩:=aD.1 b;split
  ·grind
  ·exact e x i
 ·unfold nU ik;rw[dA];refine d.imp_of_mem λc g h=>?_;rw[a _ c,a _ g];exact h
def AD.set1{cap:Nat}(h:AD w (.slice (some ⟨b,0,none⟩) l.length cap) l){i:Nat}(hi:i<l.length){j:Nat}(s:j<27){v:Vt_}(t:v.oneCell' =true){f:Ct}(d:(dh l[i]).set j v=dh f):
  AD (w.setCell ⟨b,i*27+j,none⟩ v) (.slice (some ⟨b,0,none⟩) l.length cap) (l.set i f):=by
 obtain⟨r,k,rest,o,q,m,g,c⟩:=h.pos qZ;cases o;have n:=h.1
 have a:(l.flatMap dh).set (i*27+j) v=(l.set i f).flatMap dh:=by
  clear h n m g c q;induction l generalizing i with
  |nil=>simp at hi
  |cons x l p=>
   cases i with
   |zero=>
    simp only[eH]at d;rw[aT,jJ,cI,dQ _ _ (by rw[bC];omega),d];rfl
   |succ i=>
    have e:(i+1)*27+j=(dh x).length+(i*27+j):=by rw[bC];omega
    rw[aT,e,cm _ _ qZ,fb,p (by simpa using hi) (by simpa using d)];rfl
 refine⟨by grind,.inr ⟨b,cap,rest,by grind,by grind,?_,by grind,c⟩⟩;rw[jp,ab rfl,m,iN,dI,dQ _ _ (by rw[n];omega),a]
def EP(k:Ct)(x:Int):(dh k).set 25 (gB x)=dh {k with st:=x}:=by
 unfold dh;rw[cm _ _ (by rw[bb];omega),bb];rfl
def V9(k:Ct)(x:Int):(dh k).set 26 (gI x)=dh {k with price:=x}:=by
 unfold dh;rw[cm _ _ (by rw[bb];omega),bb];rfl
def AH(h:k.Ok){x:Int}(a:1<=x/\x<=3):({k with st:=x}:Ct).Ok:=⟨⟨h.1.1,⟨by show 0<=x;omega,by show x<256;omega⟩,h.1.2.2⟩,h.2.1,h.2.2.1,a⟩
def uH{s:Sp}{p:Int}(h:s.isPrice p=true):1<=p/\p<=10000000:=by
 unfold Sp.isPrice vL aY MP at h;simp only[ah,ax]at h;exact h.2.1
def BA(h:k.Ok){x:Int}(a:k.spec.isPrice x=true):({k with price:=x}:Ct).Ok:=by
 have b:=uH a;exact⟨⟨h.1.1,h.1.2.1,⟨by show _<=x;omega,by show x<_;omega⟩⟩,h.2.1,a,h.2.2.2⟩
def mP.turn{cap:Nat}{a:List Ct}(j:hC w c #[.bool true,gU S.day,.slice (some ⟨b,0,none⟩) a.length cap] 172)
  (hl:AD w (.slice (some ⟨b,0,none⟩) a.length cap) a)(l:∀x,F x↔x=c\/x=b)(d:b≠c)(f:a.length<=16)(e:gM S.day)(i:∀k∈a,k.Ok)(g:nU a):mP w c F ⟨S.day,a⟩:=
 ⟨⟨_,j,hl,λx=>by rw[l x];exact⟨λh=>h.imp id λh=>by rw[h];rfl,λh=>h.imp id λh=>by cases h;rfl⟩,λh=>d (by cases h;rfl)⟩,f,e,i,g⟩
def jB(S:oq)(n:Int)(on:Bool):Int×oq:=if bt S.l n≠0 then(bt S.l n,S)else(0,⟨S.day,ik S.l n λk=>{k with st:=if on then 2 else 1}⟩)
def QY{on:Bool}(h:mP w c F S)
  (d:∀G,mP G c F (jB S n on).2->bn F w G->K (gI (jB S n on).1) G):Ca pQ 135 #[gk c,gU n,.bool on] w K:=by
 unfold gk;refine cN Tryz.func135 ?_;refine vi h (λa D B=>?_) λi s b o a C T hg D B Q P J m=>?_
 ·refine dF ?_;refine dF ?_;refine ee D ?_;have e:jB S n on=(bt S.l n,S):=by unfold jB;rw[ab D]
  rw[e]at d;exact d _ (h.mod B eI) (B.to)
 ·refine dF ?_;refine dF ?_;refine fh ?_;have e:jB S n on=(0,⟨S.day,ik S.l n λk=>{k with st:=if on then 2 else 1}⟩):=by unfold jB;rw[aa (by rw[D];simp)]
  rw[e]at d;simp only[cJ];obtain⟨b',N,rest,H,R,hA,O,t⟩:=P.item s;cases H;have r:=t 25 qZ;rw[Ga]at r;have p:F b:=(J b).2 (.inr rfl);have V:∀x y,bn F a ((a.setCell ⟨b,i*27+25,none⟩ x).setCell ⟨b,i*27+25,none⟩ y):=λx y=>(((bn.refl F a).setCell (.inl p) _ _).setCell (.inl p) _ _)
  have L:∀x,bn F a (a.setCell ⟨b,i*27+25,none⟩ x):=λx=>((bn.refl F a).setCell (.inl p) _ _)
  have u:bn F w a:=B.to;refine dD bQ ?_;refine qU2 O r ?_;have l1:=P.set1 s (j:=25) qZ (v:=gB 1) rfl (EP _ _);have A:∀y:Int,1<=y/\y<=3->_:=λy X=>pg (l:=S.l) (n:=n) (f:=λk=>{k with st:=y}) (λk U _=>⟨AH (h.ok k U) X,rfl⟩) h.ok h.srt
  have g:∀(W:Wt_) x,hC W c #[.bool true,gU S.day,.slice (some ⟨b,0,none⟩) S.l.length o] 172->hC (W.setCell ⟨b,i*27+25,none⟩ x) c #[.bool true,gU S.day,.slice (some ⟨b,0,none⟩) S.l.length o] 172:=λW x h=>by
   have:bn (λz=>z=b) W (W.setCell ⟨b,i*27+25,none⟩ x):=(bn.refl (λz=>z=b) W).sc;exact this.hpk h λe=>m e.symm
  cases on with
  |false=>
   rw[lW];have q:=A 1 qZ;rw[nZ h.srt s C]at q;simp only[bE,dB]at d;rw[nZ h.srt s C]at d;refine d _ (mP.turn (by rw[aZ];exact g _ _ Q) (by grind) J m (by rw[aZ];exact h.len) h.day q.1 q.2.1) (u.trans (L _))
  |true=>
   rw[nO];refine dD bQ ?_
   have Y:i*27+25<(S.l.flatMap dh++rest).length:=by
    have:=(aF.1 r).1;exact this
   have M:((S.l.flatMap dh++rest).set (i*27+25) (gB 1))[i*27+25]? =some (gB 1):=by grind
   refine qU2 O M ?_;have E:i<(S.l.set i {S.l[i]with st:=1}).length:=by grind
   have I:AD (a.setCell ⟨b,i*27+25,none⟩ (gB 1)) (.slice (some ⟨b,0,none⟩) (S.l.set i {S.l[i]with st:=1}).length o) (S.l.set i {S.l[i]with st:=1}):=by grind
   have Z:=I.set1 E (j:=25) qZ (v:=gB 2) rfl (EP _ _);rw[jH,dX,aZ]at Z;have q:=A 2 qZ;rw[nZ h.srt s C]at q;simp only[de]at d;rw[nZ h.srt s C]at d;refine d _ (mP.turn (by rw[aZ];exact g _ _ (g _ _ Q)) (by grind) J m (by rw[aZ];exact h.len) h.day q.1 q.2.1) (u.trans (V _ _))
def fF(S:oq)(n price:Int):Int×oq:=
 match bU S.l n with
 |none=>(7,S)
 |some k=>if k.st=3 then(50,S)else if k.spec.isPrice price=false then(52,S)else(0,⟨S.day,ik S.l n λk=>{k with price:=price}⟩)
def Gk{price:Int}(h:mP w c F S)
  (o:∀C,mP C c F (fF S n price).2->bn F w C->K (gI (fF S n price).1) C):Ca pQ 136 #[gk c,gU n,gI price] w K:=by
 unfold gk;refine cN Tryz.func136 ?_;refine vi h (λN s u=>?_) λi g b G N U E D s u hc T R p=>?_
 ·refine dF ?_;refine dF ?_;refine ee s ?_
  have e:fF S n price=(bt S.l n,S):=by
   unfold fF bt;unfold bt at s;cases D:bU S.l n with
   |none=>rfl
   |some k=>
    rw[D]at s;simp only at s|-;by_cases h3:k.st=3
    ·grind
    ·grind
  rw[e]at o;exact o _ (h.mod u eI) (u.to)
 ·refine dF ?_;refine dF ?_;refine fh ?_;simp only[cJ];obtain⟨Z,q,rest,m,A,Q,O,d⟩:=T.item g;cases m
  have M:At N b (i*27) (fk S.l[i].spec):=by
   have:=Q.sub 0 25 (by rw[bC];omega);rw[dO,dh,aP (by rw[bb];omega),ay (by rw[bb];omega)]at this;exact this
  refine dD bQ ?_;apply iu (fk S.l[i].spec) 24 yf ud (bb _) M;have L:=h.ok S.l[i] (ar g);refine pC L.1.1 λy B=>?_;have J:=u.trans B
  have Y:fF S n price=if S.l[i].spec.isPrice price=false then(52,S)else(0,⟨S.day,ik S.l n λk=>{k with price:=price}⟩):=by
   unfold fF;rw[D];simp only;rw[aa E]
  rw[Y]at o;cases hp:S.l[i].spec.isPrice price with
  |false=>
   refine lV ?_;rw[ab hp]at o;exact o _ (h.mod J eI) (J.to)
  |true=>
   refine fh ?_;rw[aa (by rw[hp];simp),nZ h.srt g U]at o;have r:AD y (.slice (some ⟨b,0,none⟩) S.l.length G) S.l:=T.mod B eI;have I:=B.hpk hc id;obtain⟨Z,q,rest,m,A,Q,O,d⟩:=r.item g;cases m;have t:=d 26 qZ;rw[Wv]at t;refine dD bQ ?_;refine qU2 O t ?_;have l1:=r.set1 g (j:=26) qZ (v:=gI price) rfl (V9 _ _)
   have H:=pg (l:=S.l) (n:=n) (f:=λk=>{k with price:=price}) (λk P X=>⟨BA (h.ok k P) (by
    have:k=S.l[i]:=by
     obtain⟨j,W,rfl⟩:=bI P;rcases Nat.lt_trichotomy j i with a|a|a
     ·have:=bH.1 h.srt j i W g a;omega
     ·subst a;rfl
     ·have:=bH.1 h.srt i j g W a;omega
    rw[this];exact hp),rfl⟩) h.ok h.srt
   rw[nZ h.srt g U]at H;have V:bn (λz=>z=b) y (y.setCell ⟨b,i*27+26,none⟩ (gI price)):=(bn.refl (λz=>z=b) y).sc;refine o _ (mP.turn (by rw[aZ];exact V.hpk I λe=>p e.symm) (by grind) R p (by rw[aZ];exact h.len) h.day H.1 H.2.1) ((J.to).trans (V.mono λx _ hx=>(R x).2 (.inr hx)))
def Ks(a b:Sp):Bool:=decide (a.last<b.last)||(decide (a.last=b.last)&& decide (a.num<b.num))
def S5{a b:Sp}(d:∀l,M0 w l->K (.bool (Ks a b)) l):Ca pQ 309 #[.agg (fk a).toArray,.agg (fk b).toArray] w K:=by
 refine cN Tryz.func309 ?_;obtain⟨j,o,c,n⟩:=DX a w;apply dy o;obtain⟨p,i⟩:=dW w.heap.size;rw[<-i]at c|-;obtain⟨r,m,g,k⟩:=DX b j;apply dy m;have c:=k.hpk c id;have d:=d _ (n.trans k);unfold Ks at d;obtain⟨q,h⟩:=dW j.heap.size;rw[<-h]at g|-;refine dF ?_;refine nm c Dp ?_;refine dF ?_;refine nm g Dp ?_;by_cases f:a.last<b.last
 ·refine ee f ?_;simpa [f]using d
 ·refine fH f ?_;refine dF ?_;refine nm c Dp ?_;refine dF ?_;refine nm g Dp ?_;by_cases e:a.last=b.last
  ·refine ee e ?_;refine dF ?_;refine nm c QM ?_;refine dF ?_;refine nm g QM ?_;refine dF ?_;simpa [e]using d
  ·refine fH e ?_;simpa [f,e]using d
def Fa(k y:Ct):Bool:=decide (y.st≠3)&& Ks y.spec k.spec
def Q2{y:Ct}{p off:Nat}{T:TypeId}(i:hC w p #[.pointer (some ⟨b,off,none⟩)] T)(h:At w b off (dh k))
  (f:∀l,M0 w l->K (.bool (Fa k y)) l):Ca pQ 308 #[.agg (dh y).toArray,.pointer (some ⟨p,0,none⟩)] w K:=by
 refine cN Tryz.func308 ?_;obtain⟨j,s,a,r⟩:=Wf y w;apply dy s;obtain⟨q,g⟩:=dW w.heap.size;rw[<-g]at a|-;have md:=r.drew;have a:hC j.drew q (dh y).toArray lN:=a;have n:=md.hpk i id;have m:=h.mod md id;generalize j.drew=u at md a n m|-;refine vn ?_;refine qW2 a Ga ?_;unfold Fa at f;by_cases d:y.st=3
 ·refine S7 d ?_;have e:=f _ md;simpa [d]using e
 ·refine Q4 d ?_
  have c:∀{W:Wt_} {b off:Nat} {x:Ct},At W b off (dh x)->At W b off (fk x.spec):=λh=>by
   have:=h.sub 0 25 (by rw[bC];omega);rw[dO,dh,aP (by rw[bb];omega),ay (by rw[bb];omega)]at this;exact this
  refine vn ?_;apply rj (fk y.spec) 24 yf ud (bb _) (c (At.all a));refine AN n ?_;simp only[cJ];refine qP1 bQ ?_;apply rj (fk k.spec) 24 yf ud (bb _) (c m);refine S5 λt o=>?_;have e:=f _ (md.trans o);simpa [d]using e
end Go.Proofs
namespace Go.Proofs
open Go Go.Vc
attribute [local congr] bj
variable {n:Int}{l:List Ct}{F:NP_}{c:Nat}{s:Vt_}{w:Wt_}{K:be}{S:oq}
def SR(w:Wt_)(fv:Vt_)(p:Ct->Bool)(l:List Ct):Prop:=
 ∃g cp,fv=.func (.func g) #[] cp/\∀x∈l,∀W,M0 w W->∀K,(∀W',M0 W W' ->K (.bool (p x)) W')->Ca pQ g ⟨[.agg (dh x).toArray]++cp.toList⟩ W K
def AD.ld(h:Rd w 27 s l.length (l.flatMap dh)){x:Nat}(e:x<l.length):
  ∃p,(iX Kn s (gI (x:Int))).run pQ w=.ok p w/\(pp lN p).run pQ w=.ok (.agg (dh l[x]).toArray) w:=by
 obtain⟨b,a,f,c,d,g⟩:=h.item bC e rfl;exact⟨.pointer (some ⟨b,a+x*27,none⟩),by rw[c];simp[go_sem,e,bQ],ft Dq qp (bC _) g⟩
def I8{fv:Vt_}{p:Ct->Bool}(h:Rd w 27 s l.length (l.flatMap dh))(G:l.length<=1000000)(z:SR w fv p l)
  (u:∀t,M0 w t->K (gI (qE l p)) t):Ca pQ 359 #[s,fv] w K:=by
 obtain⟨g,H,rfl,r⟩:=z;refine cN Tryz.func359 ?_;obtain⟨a,c,A⟩:=h.isSl;apply ke (gI (l.length:Int)) w (by rw[A];simp[go_sem])
 refine iz (λst W=>∃(i:Nat) (x:Vt_),i<=l.length/\st=(x,gI i,())/\M0 w W/\∀j,∀d,j<i->p l[j]=false)
  (λst _=>match st.2.1 with| .int _ i=>l.length - i.toNat|_=>0) ⟨0,gI 0,qZ,rfl,rC,λj _ h=>qZ⟩ ?_
 rintro⟨_,_⟩ W ⟨i,x,F,⟨⟩,f,e⟩ E o;refine rT ?_;intro _;by_cases b:i<l.length
 ·have k:(i:Int)<(l.length:Int):=qZ;refine ee k ?_;obtain⟨q,v,C⟩:=AD.ld (h.mod f eI) b;apply dy v;apply kI C;simp only[iI];refine r l[i] (ar b) W f _ λI n=>?_;cases hp:p l[i]with
  |true=>
   rw[nO]
   have:qE l p=(i:Int):=by
    unfold qE
    have:l.findIdx? p=some i:=by
     rw[bg];refine⟨b,hp,λj d=>?_⟩;rw[e j qZ d];simp
    rw[this]
   have m:=u _ (f.trans n);rw[this]at m;exact m
  |false=>
   rw[lW];apply V3 i;refine o _ _ ⟨i+1,_,qZ,rfl,f.trans n,λj d y=>?_⟩ (by grind);by_cases D:j=i
   ·subst D;exact hp
   ·grind
 ·obtain rfl:i=l.length:=qZ;refine fh ?_
  have:qE l p= -1:=by
   unfold qE
   have:l.findIdx? p=none:=by
    rw[du];intro x B;obtain⟨j,d,rfl⟩:=bI B;exact e j d d
   rw[this]
  have m:=u _ f;rw[this]at m;exact m
def Re{α:Type}(l:List α)(p:α->Bool):decide (0<=qE l p)=l.any p:=by
 unfold qE;cases h:l.findIdx? p with
 |none=>
  rw[du]at h;have:l.any p=false:=by grind
  rw[this];rfl
 |some i=>
  obtain⟨a,hp,-⟩:=bg.1 h;have:l.any p=true:=ia.2 ⟨l[i],ar a,hp⟩;rw[this];exact aA (by simp)
def CN{fv:Vt_}{p:Ct->Bool}(h:Rd w 27 s l.length (l.flatMap dh))(f:l.length<=1000000)(e:SR w fv p l)
  (c:∀a,M0 w a->K (.bool (l.any p)) a):Ca pQ 307 #[s,fv] w K:=by
 refine cN Tryz.func307 ?_;refine I8 h f e λb d=>?_;apply az (.bool (l.any p)) b (by rw[<-Re];simp[go_sem]);exact c _ d
def qn(S:oq)(n:Int):Int:=
 match bU S.l n with
 |none=>7
 |some k=>if k.st=3 then 50 else if S.day<k.spec.last\/S.l.any (Fa k)=true then 51 else 0
def xD(h:bt S.l n≠0):qn S n=bt S.l n:=by
 unfold qn bt;unfold bt at h;cases a:bU S.l n with
 |none=>rfl
 |some k=>
  rw[a]at h;simp only at h|-;by_cases b:k.st=3
  ·grind
  ·grind
def US(h:mP w c F S)
  (D:∀U,M0 w U->K (gI (qn S n)) U):Ca pQ 267 #[gk c,gU n] w K:=by
 unfold gk;refine cN Tryz.func267 ?_
 have f:∀W v,(∃o,v=.pointer o)->∃a C,(iA 306 true (.tuple #[])).run pQ W=.ok (cU W.heap.size 0) a/\(iS 306 (cU W.heap.size 0) v).run pQ a=.ok () C/\
   hC C W.heap.size #[v] 306/\M0 W C:=λW v hv=>by
  obtain⟨o,rfl⟩:=hv;obtain⟨a,k⟩:=dW (W.alloc (.cells #[.pointer none] 306));have B:M0 W a:=by rw[k];exact(bn.refl _ W).alloc _
  have T:hC a W.heap.size #[.pointer none] 306:=by rw[k];simp[go_sem]
  exact⟨a,a.setCell ⟨W.heap.size,0,none⟩ (.pointer o),by rw[k];simp[go_sem],by simp[go_sem,T],by simp[go_sem,T],B.on ((bn.refl (λx=>x=W.heap.size) a).sc) λx hx=>gT⟩
 refine vi h (λa P B=>?_) λi hi b M a hn L hg P B hc hl hF hbc=>?_
 ·refine dF ?_;refine dF ?_;obtain⟨C,u,E,G,I,t⟩:=f a (.pointer none) ⟨_,rfl⟩;apply dy E;apply lO G;refine ee P ?_;have g:=D _ (B.trans t);rw[xD P]at g;exact g
 ·refine dF ?_;refine dF ?_;obtain⟨C,u,E,G,I,t⟩:=f a (cU b (i*27)) ⟨_,rfl⟩;obtain⟨q,N⟩:=dW a.heap.size;rw[<-N]at E G I;apply dy E;apply lO G;refine fh ?_;have M3:=B.trans t;have Q:=t.hpk hc id;have O:=hl.mod t eI
  have e0:qn S n=if S.day<S.l[i].spec.last\/S.l.any (Fa S.l[i])=true then 51 else 0:=by
   unfold qn;rw[hg];simp only;rw[aa L]
  rw[e0]at D;have md:M0 u u.drew:=wl;have r:=md.hpk Q id;have m:AD u.drew (.slice (some ⟨b,0,none⟩) S.l.length M) S.l:=O.mod md eI;have j:=md.hpk I id;have Md:=M3.trans md;refine dU.at (λst W=>st=(.bool (decide (S.day<S.l[i].spec.last\/S.l.any (Fa S.l[i])=true)),())/\M0 w W) ?_ ?_
  ·obtain⟨b',V,rest,J,Z,Y,X,A⟩:=m.item hi;cases J;have z:=A 23 qZ;rw[WQ]at z;simp only[gk,cJ];generalize u.drew=w4 at md r m j Md Y X|-;refine vn ?_;refine AN r ?_;refine AN j ?_;simp only[cJ];refine qP1 bQ ?_;refine qP1 bQ ?_;refine qW2 X z ?_;by_cases d:S.day<S.l[i].spec.last
   ·refine Q4 d ?_;exact⟨by simp[d],Md⟩
   ·refine S7 d ?_;refine vn ?_;refine AN r ?_;refine CN (l:=S.l) (p:=Fa S.l[i]) m.rd (by have:=h.len;omega) ⟨_,_,rfl,λy hy W s K' R=>?_⟩ λw5 m5=>?_
    ·exact Q2 (s.hpk j id) (Y.mod s id) R
    ·refine⟨?_,Md.trans m5⟩
     have e:decide (S.day<S.l[i].spec.last\/S.l.any (Fa S.l[i])=true)=S.l.any (Fa S.l[i]):=by
      rw[bT,decide_eq_true_iff];exact⟨λh=>h.resolve_left d,.inr⟩
     rw[e]
  rintro _ W ⟨rfl,s⟩;refine qk ?_;intro _;by_cases H:S.day<S.l[i].spec.last\/S.l.any (Fa S.l[i])=true
  ·rw[zZ H];have g:=D _ s;rw[ab H]at g;exact g
  ·rw[bG,aa (by grind)];have g:=D _ s;rw[aa H]at g;exact g
def eX(S:oq)(n:Int):Int×oq:=if qn S n≠0 then(qn S n,S)else(0,⟨S.day,ik S.l n λk=>{k with st:=3}⟩)
def BF(h:qn S n=0):bt S.l n=0:=by
 apply aS;intro a;rw[xD a]at h;exact a h
def Ky(h:mP w c F S)
  (a:∀r,mP r c F (eX S n).2->bn F w r->K (gI (eX S n).1) r):Ca pQ 209 #[gk c,gU n] w K:=by
 unfold gk;refine cN Tryz.func209 ?_;refine US h λU u=>?_;have A:=h.mod u eI;unfold eX at a;by_cases d:qn S n=0
 ·rw[aa (by simpa using d)]at a;rw[d];refine fh ?_;refine vi A (λp H D=>absurd (BF d) H) λi q b N p E L R H D P C B g=>?_;refine dF ?_;refine dF ?_;refine lV ?_;simp only[cJ];obtain⟨Q,y,rest,s,I,T,J,m⟩:=C.item q;cases s;have o:=m 25 qZ;rw[Ga]at o;refine dD bQ ?_;refine qU2 J o ?_;have V:=C.set1 q (j:=25) qZ (v:=gB 3) rfl (EP _ _);have G:bn (λz=>z=b) p (p.setCell ⟨b,i*27+25,none⟩ (gB 3)):=(bn.refl (λz=>z=b) p).sc;have t:=pg (l:=S.l) (n:=n) (f:=λk=>{k with st:=3}) (λk M _=>⟨AH (h.ok k M) qZ,rfl⟩) h.ok h.srt;rw[nZ h.srt q E]at t;rw[nZ h.srt q E]at a;exact a _ (mP.turn (by rw[aZ];exact G.hpk P λe=>g e.symm) (by grind) B g (by rw[aZ];exact h.len) h.day t.1 t.2.1) (((u.trans D).to).trans (G.mono λx _ O=>(B x).2 (.inr O)))
 ·rw[ab d]at a;refine ee d ?_;exact a _ A (u.to)
def Wp{W:Wt_}{k:Ct}{K:Value->World->Prop}(c:∀a,hC a W.heap.size (dh k).toArray lN->M0 W a->K (cU W.heap.size 0) a):
  rx pQ (vR lN) W λv b=>DD pQ (ur lN v (.agg (dh k).toArray)) b λa=>K v a:=by
 apply uV 26 XL qp (bC k) ag9 (g9 k);exact c _ (by simp[go_sem]) nl
def UY{b:Nat}{T:TypeId}:Bt pQ (.func (.func 151) #[] #[.pointer (some ⟨b,0,none⟩)]) (S.l.map λk=>[.agg (dh k).toArray]) (λW=>hC W b #[gk c] T/\∃F,mP W c F S):=by
 refine⟨⟨_,_,_,rfl,?_⟩⟩;rintro y J Js W K ⟨g,F,x⟩ H j d f w;refine cN Tryz.func151 ?_;apply az (gk c) W (by simp[go_sem,g,gk]);apply pE x;refine fh ?_;obtain⟨⟨sl,A,B,X,V⟩,Y,c6⟩:=id x;apply az (gk c) W (by simp[go_sem,g,gk]);simp only[gk,cJ];obtain⟨U,R,r,-⟩:=B.isSl;refine dD A ?_;refine N9 sl A r ?_;refine vU (l:=S.l) B.rd qZ λs O t G P=>?_;obtain⟨sa,sc,v,-⟩:=t.isSl;apply ke (gI (S.l.length:Int)) O (by rw[v];simp[go_sem]);have u:=H _ _ G λb g=>⟨P b g,t.lt g⟩
 refine iz (λst m=>∃i,i<=S.l.length/\st=(gI i,())/\J (aQ s) i m/\AD m s S.l)
  (λst _=>match st.1 with| .int _ i=>S.l.length - i.toNat|_=>0) ⟨0,qZ,rfl,u,t⟩ ?_
 rintro⟨_,_⟩ m ⟨i,Z,⟨⟩,C,z⟩ Q o;refine rT ?_;intro _;by_cases e:i<S.l.length
 ·have h:(i:Int)<(S.l.length:Int):=qZ;refine ee h ?_;obtain⟨p,I,M⟩:=AD.ld z.rd e;apply dy I;apply kI M;refine Wp λE L D=>?_;apply iu (dh S.l[i]) 26 Dq qp (bC _) (At.all L);have n:=z.mod D eI;refine d (aQ s) i [.agg (dh S.l[i]).toArray] E (by simp[e]) (j _ _ _ _ C D) _ (λN a q=>?_) λN a=>?_
  ·refine fh ?_;apply V3 i;exact o _ _ ⟨i+1,qZ,rfl,a,n.keep q⟩ (by grind)
  ·refine lV ?_;exact w _ a
 ·obtain rfl:i=S.l.length:=qZ;refine fh ?_;exact f _ m (by simpa using C)
def Ud(h:mP w c F S)
  (g:∀e a,uK e (S.l.map λk=>[.agg (dh k).toArray]) a->M0 w a->K e a):Ca pQ 51 #[gk c] w K:=by
 unfold gk;refine cN Tryz.func51 ?_;have d:M0 w (w.alloc (.cells #[gk c] 86)):=nl;apply az (cU w.heap.size 0) (w.alloc (.cells #[gk c] 86)) (by simp[go_sem,gk]);have f:hC (w.alloc (.cells #[gk c] 86)) w.heap.size #[gk c] 86:=by simp[go_sem]
 exact g _ _ ⟨⟨_,JE (UY (c:=c) (b:=w.heap.size) (S:=S) (T:=86)),λW m=>⟨m.hpk f id,F,h.mod (d.trans m) eI⟩⟩,_,_,rfl⟩ d
def PL(s:Sp)(x p:Int):Tryz.prog.built lN [(0,.agg (fk s).toArray),(1,gB x),(2,gI p)]=some (dh ⟨s,x,p⟩).toArray:=by
 have c:∀a,Tryz.prog.built lN a=Instr.fill (λi=>#[(0,25),(25,1),(26,1)][i]?) (iK pQ lN).toArray a:=λa=>by kernel_rfl
 rw[c,QO];rw[pA (off:=0) (size:=25) rfl (by show(fk s).toArray.size=25;rw[dC,bb]) (by rw[bC];omega)];rw[pA (off:=25) (size:=1) rfl rfl (by rw[rk (by show 0+(fk s).length<=_;rw[bb,bC];omega),bC];omega)];rw[pA (off:=26) (size:=1) rfl rfl (by rw[rk (by rw[rk (by show 0+(fk s).length<=_;rw[bb,bC];omega),bC];show 25+1<=27;omega),rk (by show 0+(fk s).length<=_;rw[bb,bC];omega),bC];omega)];rw[BY];congr 2
 have b:ji (dh JT) 0 (fk s)=fk s++[.int .u8 0,gI 0]:=by
  unfold ji;rw[bS,cX,bb,dh,List.drop_left' (by rw[bb])];rfl
 show ji (ji (ji (dh JT) 0 (fk s)) 25 [.int .u8 x]) 26 [.int .i64 p]=_;rw[b]
 have d:ji (fk s++[.int .u8 0,gI 0]) 25 [.int .u8 x]=fk s++[.int .u8 x,gI 0]:=by
  unfold ji;rw[List.take_left' (bb s),nf,cg (by rw[bb];simp),bb];simp
 rw[d];unfold ji;rw[List.take_append,ay (by rw[bb];omega),bb,cg (by simp[bb])];simp[dh]
def l9(s:Sp):Ct:=⟨s,1,s.first⟩
def fy(S:oq)(s:Sp):Int×oq:=
 if s.may=false then(2,S)else if(bU S.l s.num).isSome then(8,S)else if s.last<S.day then(51,S)else if 16<=S.l.length then(9,S)
 else(0,⟨S.day,S.l.take (iM S.l s.num)++l9 s::S.l.drop (iM S.l s.num)⟩)
def D3(hs:nU l)(A:∀k∈l,k.Ok){k:Ct}(u:k.Ok)(q:bU l k.spec.num=none):(∀x∈l.take (iM l k.spec.num)++k::l.drop (iM l k.spec.num),x.Ok)/\nU (l.take (iM l k.spec.num)++k::l.drop (iM l k.spec.num))/\iM l k.spec.num<=l.length:=by
 have e:l.take (iM l k.spec.num)=l.takeWhile λx=>decide (x.spec.num<k.spec.num):=by
  unfold iM;have d:l.takeWhile (λx=>decide (x.spec.num<k.spec.num))++l.dropWhile (λx=>decide (x.spec.num<k.spec.num))=l:=List.takeWhile_append_dropWhile
  conv=>lhs;rw[<-d];arg 1;rw[d]
  rw[df]
 have v:l.drop (iM l k.spec.num)=l.dropWhile λx=>decide (x.spec.num<k.spec.num):=by
  unfold iM;have d:l.takeWhile (λx=>decide (x.spec.num<k.spec.num))++l.dropWhile (λx=>decide (x.spec.num<k.spec.num))=l:=List.takeWhile_append_dropWhile
  conv=>lhs;rw[<-d];arg 1;rw[d]
  rw[ck]
 have f:iM l k.spec.num<=l.length:=(List.takeWhile_sublist _).length_le
 have i:∀x∈l.take (iM l k.spec.num),x.spec.num<k.spec.num:=λx c=>by
  rw[e]at c;have:=List.all_takeWhile (l:=l) (p:=λx:Ct=>decide (x.spec.num<k.spec.num));simpa using aW.1 this x c
 have h:∀x∈l.drop (iM l k.spec.num),k.spec.num<x.spec.num:=λx c=>by
  have t:x.spec.num≠k.spec.num:=λm=>by
   unfold bU at q;have:=dS.1 q x (gJ c);simp[m]at this
  have r:¬x.spec.num<k.spec.num:=λm=>by
   by_cases s:iM l k.spec.num<l.length
   ·have g:¬l[iM l k.spec.num].spec.num<k.spec.num:=by
     have n:(l.drop (iM l k.spec.num))[0]? =some l[iM l k.spec.num]:=by grind
     rw[v]at n;have d:=List.head?_dropWhile_not (λx:Ct=>decide (x.spec.num<k.spec.num)) l;rw[List.head?_eq_getElem?,n]at d;simpa using d
    obtain⟨j,z,rfl⟩:=bI c;rw[List.getElem_drop]at m;rw[bi]at z;by_cases w:j=0
    ·grind
    ·have:=bH.1 hs (iM l k.spec.num) (iM l k.spec.num+j) s qZ qZ;omega
   ·grind
  omega
 refine⟨λx c=>?_,?_,f⟩
 ·rcases aN.1 c with c|c
  ·grind
  ·rcases aq.1 c with rfl|c
   ·exact u
   ·grind
 ·unfold nU;rw[dz,bJ];refine⟨hs.sublist (List.take_sublist _ _),⟨h,hs.sublist (List.drop_sublist _ _)⟩,λa y b o=>?_⟩;rcases aq.1 o with rfl|o
  ·exact i a y
  ·grind
def Sp.may_price{s:Sp}(h:s.may=true):s.isPrice s.first=true:=by
 unfold Sp.isPrice;rw[h];unfold Sp.may at h;simp only[ah]at h;simpa using h.2
def Rj{s:Sp}(h:mP w c F S)(Q:s.Fit)
  (L:∀F' Z,mP Z c F' (fy S s).2->bn F w Z->(∀x,F' x->F x\/w.heap.size<=x)->K (gI (fy S s).1) Z):Ca pQ 134 #[gk c,.agg (fk s).toArray] w K:=by
 unfold gk;refine cN Tryz.func134 ?_;obtain⟨w1,e1,M,m1⟩:=DX s w;apply dy e1;obtain⟨p,hp0⟩:=dW w.heap.size;rw[<-hp0]at M|-;have J:=h.mod m1 eI;have B:∀{W W' :Wt_},M0 W W' ->bn F W W' :=λm=>m.to
 have bad:∀e W,fy S s=(e,S)->M0 w W->K (gI e) W:=λe W he m=>by
  rw[he]at L;exact L F W (h.mod m eI) (B m) λx f=>.inl f
 apply pE J;refine fh ?_;apply iu (fk s) 24 yf ud (bb s) (At.all M);refine pY Q λw2 Y=>?_;have M2:=m1.trans Y;have b2:=Y.hpk M id;cases a:s.may with
 |false=>
  refine lV ?_;exact bad 2 w2 (by unfold fy;rw[ab a]) M2
 |true=>
  refine fh ?_;refine dF ?_;refine nm b2 QM ?_;have q2:=J.mod Y eI;refine Jc q2 λy V=>?_;have M3:=M2.trans V;have b3:=V.hpk b2 id;refine dF ?_;refine dF ?_;cases z:bU S.l s.num with
  |some k=>
   rw[show(some k).isSome=true from rfl,bG,ab rfl];exact bad 8 y (by unfold fy;rw[aa (by simp[a]),z];rfl) M3
  |none=>
   rw[show(none:Option Ct).isSome=false from rfl,bG,aa fG];have q3:=q2.mod V eI;obtain⟨⟨sl,J,h2,h3,h4⟩,h5,h6,h7,h8⟩:=q3;obtain⟨sa,sc,l,-⟩:=h2.isSl;have md:M0 y y.drew:=wl;have I:=md.hpk J id;have b4:=md.hpk b3 id;have l4:AD y.drew sl S.l:=h2.mod md eI;have G:=M3.trans md;generalize y.drew=r at md I b4 l4 G|-;refine vn ?_;refine qW2 b4 Dp ?_;simp only[gk,cJ];refine vn ?_;refine AN I ?_;by_cases d:s.last<S.day
   ·refine Q4 d ?_;exact bad 51 r (by unfold fy;rw[aa (by simp[a]),z,aa (by simp),ab d]) G
   ·refine S7 d ?_;refine dF ?_;refine N9 sl I l ?_;apply ke (gI (S.l.length:Int)) r (by rw[l];simp[go_sem]);by_cases n:16<=S.l.length
    ·have g:(16:Int)<=(S.l.length:Int):=qZ;refine ee g ?_;exact bad 9 r (by unfold fy;rw[aa (by simp[a]),z,aa (by simp),aa d,ab n]) G
    ·have g:¬(16:Int)<=(S.l.length:Int):=qZ;refine fH g ?_;have j:M0 r r.drew:=wl;have c5:=j.hpk I id;have N:=j.hpk b4 id;have O:AD r.drew sl S.l:=l4.mod j eI;have M5:=G.trans j;generalize r.drew=u at j c5 N O M5|-;refine vn ?_;refine ZF sl c5 l ?_;apply rj (fk s) 24 yf ud (bb s) (At.all N);apply gP (λ_=>by simp[-Int.natCast_add,go_sem]<;>first|exact ww|exact rfl);apply ZF (gI s.first) N ai2;refine DM (cells:=(dh (l9 s)).toArray) ?_ ?_
     ·exact PL s 1 s.first
     refine oE [.agg (dh (l9 s)).toArray] pG (dG eCt) rfl rfl (by intro v hv;rw[bX.1 hv];show(dh (l9 s)).toArray.size=27;rw[dC,bC]) qZ ?_;have e0:(([.agg (dh (l9 s)).toArray]:LV_).flatMap (·.cells.toList)).toArray=(dh (l9 s)).toArray:=by simp[Value.cells]
     rw[e0];have E:M0 u (u.alloc (.cells (dh (l9 s)).toArray lN)):=nl
     have X:AD (u.alloc (.cells (dh (l9 s)).toArray lN)) (.slice (some ⟨u.heap.size,0,none⟩) 1 1) [l9 s]:=
      ⟨by simp[bC],.inr ⟨_,1,[],rfl,by simp,by rw[dZ,ab rfl];simp,by simp,rfl⟩⟩
     obtain⟨q,P⟩:=dW u.heap.size;rw[<-P]at X|-;generalize u.alloc (.cells (dh (l9 s)).toArray lN)=w6 at E X|-;have T:=E.hpk c5 id;have l6:AD w6 sl S.l:=O.mod E eI;refine⟨by simp[go_sem,T,l],?_⟩;have t:=D3 h8 h7 (k:=l9 s) ⟨⟨Q,⟨by show(0:Int)<=1;omega,by show(1:Int)<256;omega⟩,Q.2.2.2.2.2.2.2.2.2⟩,a,Sp.may_price a,by show(1:Int)<=1;omega,by show(1:Int)<=3;omega⟩ z;refine Gn (o:=l9 s) (i:=iM S.l s.num) l6 X (λb hb R=>?_) t.2.2 qZ λC D o7 m7 n7=>?_
     ·have:=O.lt hb;have:b=q:=by cases R;rfl
      omega
     have c7:=m7.hpk T λf=>h4 f;obtain⟨ta,tc,U,-⟩:=o7.isSl;apply gP (λ_=>by simp[-Int.natCast_add,go_sem]<;>first|exact ww|exact rfl);apply nz (D.setCell ⟨c,2,none⟩ C) (by rw[U];simp[go_sem,c7]);have mv:bn (λx=>x=c) D (D.setCell ⟨c,2,none⟩ C):=(bn.refl (λx=>x=c) D).sc
     have e:fy S s=(0,⟨S.day,S.l.take (iM S.l s.num)++l9 s::S.l.drop (iM S.l s.num)⟩):=by
      unfold fy;rw[aa (by simp[a]),z,aa (by simp),aa d,aa n]
     rw[e]at L;have hM:=M5.trans E;have hsM:=hM.size;have hcs:c<w6.heap.size:=aJ T
     have A:¬aQ C c:=λf=>by
      rcases n7 c f with H|H
      ·exact h4 H
      ·omega
     refine L (λx=>x=c\/aQ C x) _ ⟨⟨C,by simp[go_sem,c7],o7.mod mv λx f e=>A (e▸f),λx=>aI,A⟩,?_,h6,t.1,t.2.1⟩ ((((B hM).on m7 λx f=>.inl ((h3 x).2 (.inr f)))).on mv λx f=>.inl ((h3 x).2 (.inl f))) λx f=>?_
     ·grind
     ·rcases f with rfl|f
      ·grind
      ·rcases n7 x f with H|H
       ·grind
       ·exact gT
end Go.Proofs
namespace Go.Proofs
open Go Go.Vc
attribute [local congr] bj
def Zz:mR pQ 48=true:=cH
def YP:(iK pQ 48).length=24+1:=cH
def ah0{W:Wt_}{s:Sp}{K:Value->World->Prop}(c:∀a,hC a W.heap.size (fk s).toArray 48->M0 W a->K (cU W.heap.size 0) a):
  rx pQ (vR 48) W λv b=>DD pQ (ur 48 v (.agg (fk s).toArray)) b λa=>K v a:=by
 apply uV 24 Zz ud (bb s) YP (oI s);exact c _ (by simp[go_sem]) nl
def Q6{g:Gt}{w:Wt_}{K:be}(x:g.Fit)
  (hK:∀N,M0 w N->K (gI g.check) N):Ca pQ 271 #[.agg (yT g).toArray] w K:=by
 refine cN Tryz.func271 ?_;obtain⟨J,e1,A,m1⟩:=WJ g w;apply dy e1;obtain⟨p,H⟩:=dW w.heap.size;rw[<-H]at A|-
 have A1:At J p 0 (fk g.k.spec):=by
  have:=(At.all A).sub 0 25 (by rw[xz];omega);rw[dO,yT,dh,ag,aP (by rw[bb];omega),ay (by rw[bb];omega)]at this;exact this
 refine dF ?_;refine dF ?_;apply iu (fk g.k.spec) 24 yf ud (bb _) A1;refine ah0 λj i M=>?_;obtain⟨q,C⟩:=dW J.heap.size;rw[<-C]at i|-;have M2:=m1.trans M;have b:=M.hpk A id
 have fin:∀(e:Int) (W:Wt_),g.check=e->M0 j W->K (gI e) W:=λe W he m=>by
  rw[<-he];exact hK _ (M2.trans m)
 refine dF ?_;refine dF ?_;refine nm b al6 ?_;cases z:g.a.dfl with
 |true=>
  rw[nO];exact fin 120 j (by unfold Gt.check;rw[z];rfl) rC
 |false=>
 rw[lW];refine dF ?_;refine dF ?_;refine nm b aq2 ?_;cases R:g.a.kil with
 |true=>
  rw[nO];exact fin 121 j (by unfold Gt.check;rw[z,R];rfl) rC
 |false=>
 rw[lW];refine dF ?_;refine dF ?_;refine nm b Ze ?_
 have a:g.check=if g.k.st=3 then 50 else if g.k.st=2 then 122
  else if g.k.st≠1\/¬g.k.spec.isPrice g.k.price\/¬aY g.buys 0 1000000000\/¬aY g.sells 0 1000000000\/¬aY g.q (-MP) MP then 2
  else if¬g.k.spec.isQty g.qty then 123 else if¬g.k.spec.isPrice g.price then 52 else if¬g.k.spec.inBand g.k.price g.price then 124 else if g.far then 125 else 0:=by
  unfold Gt.check;rw[z,R];rfl
 by_cases y:g.k.st=3
 ·refine ee y ?_;exact fin 50 j (by rw[a,ab y]) rC
 refine fH y ?_;refine dF ?_;refine dF ?_;refine nm b Ze ?_;by_cases B:g.k.st=2
 ·refine ee B ?_;exact fin 122 j (by grind) rC
 refine fH B ?_;rw[aa y,aa B]at a;obtain⟨P,h⟩:=dW (decide (g.k.st≠1\/¬g.k.spec.isPrice g.k.price=true\/¬aY g.buys 0 1000000000=true\/¬aY g.sells 0 1000000000=true\/¬aY g.q (-MP) MP=true):Bool);have d:=x.1.1;refine dU.at (λst W=>st=(.bool P,())/\M0 j W) ?_ ?_
 ·refine dF ?_;refine dF ?_;refine nm b Ze ?_;by_cases v:g.k.st=1
  ·refine dD v ?_;rw[lW];apply iu (fk g.k.spec) 24 yf ud (bb _) (At.all i);refine dF ?_;refine dF ?_;refine nm b ae6 ?_;refine pC d λw3 l=>?_;have E:=l.hpk b id;cases k:g.k.spec.isPrice g.k.price with
   |false=>
    refine dF ?_;rw[nO];exact⟨by rw[h,k];simp,l⟩
   |true=>
    refine dF ?_;rw[lW];refine dF ?_;refine nm E ZU ?_;apply Ix;cases o:aY g.buys 0 1000000000 with
    |false=>
     refine dF ?_;rw[nO];exact⟨by rw[h,o];simp,l⟩
    |true=>
     refine dF ?_;rw[lW];refine dF ?_;refine nm E ae8 ?_;apply Ix;cases n:aY g.sells 0 1000000000 with
     |false=>
      refine dF ?_;rw[nO];exact⟨by rw[h,n];simp,l⟩
     |true=>
      refine dF ?_;rw[lW];refine dF ?_;refine nm E Yt ?_;apply ib x.2.1 qZ;refine dF ?_;exact⟨by rw[h,k,o,n];simp[v,MP],l⟩
  ·refine xm (.bool true) v ?_;rw[nO];exact⟨by rw[h];simp[v],rC⟩
 rintro _ W ⟨rfl,u⟩;refine qk ?_;intro _;have b:=u.hpk b id;have i:=u.hpk i id;cases t:P with
 |true=>
  rw[nO];rw[t]at h;exact fin 2 W (by grind) u
 |false=>
 rw[lW];rw[t]at h;have s:=of_decide_eq_false h.symm;rw[aa s]at a
 have c:g.k.spec.isPrice g.k.price=true/\aY g.buys 0 1000000000=true/\aY g.sells 0 1000000000=true/\aY g.q (-MP) MP=true:=by
  refine⟨?_,?_,?_,?_⟩<;>apply aS<;>intro hc<;>apply s
  ·exact .inr (.inl hc)
  ·grind
  ·grind
  ·grind
 apply iu (fk g.k.spec) 24 yf ud (bb _) (At.all i);refine dF ?_;refine nm b YE ?_;refine HY d λZ I=>?_;have T:=I.hpk b id;have X:=I.hpk i id;have Y:=u.trans I;cases S:g.k.spec.isQty g.qty with
 |false=>
  refine lV ?_;exact fin 123 Z (by grind) Y
 |true=>
 refine fh ?_;rw[aa (by rw[S];simp)]at a;apply iu (fk g.k.spec) 24 yf ud (bb _) (At.all X);refine dF ?_;refine nm T ac0 ?_;refine pC d λw5 G=>?_;have F:=G.hpk T id;have b5:=G.hpk X id;have O:=Y.trans G;cases hp:g.k.spec.isPrice g.price with
 |false=>
  refine lV ?_;exact fin 52 w5 (by grind) O
 |true=>
 refine fh ?_;rw[aa (by rw[hp];simp)]at a;apply iu (fk g.k.spec) 24 yf ud (bb _) (At.all b5);refine dF ?_;refine dF ?_;refine nm F ae6 ?_;refine dF ?_;refine nm F ac0 ?_;refine N1 d x.1.2.2 x.2.2.2.2.1 λw6 L=>?_;have c6:=L.hpk F id;have D:=O.trans L;cases hb:g.k.spec.inBand g.k.price g.price with
 |false=>
  refine lV ?_;exact fin 124 w6 (by grind) D
 |true=>
 refine fh ?_;rw[aa (by rw[hb];simp)]at a;apply iu (yT g) 36 aGt nGt (xz g) (At.all c6);have f:=S;unfold Sp.isQty at f;simp only[ah]at f;have r:=Sp.may_tick f.1;refine TJ c.2.2.2 c.2.1 c.2.2.1 f.2.1 ⟨r.2.2.2.1,r.2.2.2.2.1⟩ λQ U=>?_;cases V:g.far with
 |true=>
  rw[nO];exact fin 125 Q (by grind) (D.trans U)
 |false=>
  rw[lW];exact fin 0 Q (by grind) (D.trans U)
end Go.Proofs
namespace Go.Proofs
open Go Go.Vc
attribute [local congr] bj
def sj(x:Int):List Value:=[.int .i64 x]
def oD(x:Int):(sj x).length=1:=rfl
def uI(x:Int):(sj x).all (·.oneCell')=true:=rfl
def xB:Tryz.prog.underlying 297=some (.slice 2):=cH
def Wb:fj pQ 2 1 8=true:=cH
def Kk{α:Type}{f:α->List Value}(r:∀x,(f x).length=1){w:Wt_}{v:Vt_}{n:Nat}{l:List α}(h:Rd w 1 v n (l.flatMap f))(y:n=l.length){t e:TypeId}(s:Tryz.prog.underlying t=some (.slice e))(z:Tryz.prog.cellsOf e=0+1){i:Nat}(hi:i<l.length){x:Vt_}(u:f l[i]=[x]):
  ∃b a,(∀k:IntKind,(iX t v (.int k (i:Int))).run pQ w=.ok (cU b a) w)/\∃C g d,hp w b=some (.cells C g d)/\C[a]? =some x:=by
 obtain⟨b,a,p,c,m,q⟩:=h.item r hi y;obtain⟨C,g,d,hC,o⟩:=q.get;have A:=o 0 x (by rw[u];rfl);refine⟨b,a+i*1,λk=>?_,C,g,d,cO hC,by grind⟩;have j:i<n:=qZ;rw[c];simp[go_sem,j,bQ,s,Program.elem,Go.Vc.kY z]
def ab3(x y:Int)(b:0<=x)(a:0<=y)(w:Wt_):(callFunc 350 #[.int .u64 x,gQ y,gQ 0]).run pQ w=.ok (.value (.tuple #[.int .u64 ((x+y)%18446744073709551616),gQ ((x+y) / 18446744073709551616)])) w:=by
 rw[run_callFunc_extern Tryz.func350 cH cH cH (e:=add64Entry) cH,run_add64 x y 0 b a qZ qZ];simp only[Result.andThen,ig]
def sy(l:List Int):Int×Int:=if dM l.sum then(l.sum,0)else(0,6)
def Ei{w:Wt_}{K:be}{s:Vt_}{l:List Int}(h:Rd w 1 s l.length (l.flatMap sj))(V:l.length<=1000000)(hl:∀x∈l,dM x)
  (q:K (.tuple #[.int .i64 (sy l).1,gI (sy l).2]) w):Ca pQ 302 #[s] w K:=by
 refine cN Tryz.func302 ?_;obtain⟨a,c,L⟩:=h.isSl;apply ke (gI (l.length:Int)) w (by rw[L];simp[go_sem])
 refine iz (λst W=>∃(i:Nat) (d e:Int),i<=l.length/\st=(gQ d,gI e,gI i,())/\W=w/\0<=d/\d<18446744073709551616/\d+18446744073709551616*e=(l.take i).sum/\ -(i:Int)<=e/\e<=(i:Int))
  (λst _=>match st.2.2.1 with| .int _ i=>l.length - i.toNat|_=>0) ⟨0,0,0,qZ,rfl,rfl,qZ,qZ,by simp,by simp,by simp⟩ ?_
 rintro⟨_,_,_,_⟩ W ⟨i,d,e,M,⟨⟩,rfl,H,Q,E,S,T⟩ P A;refine rT ?_;intro _;by_cases f:i<l.length
 ·have p:(i:Int)<(l.length:Int):=qZ;refine ee p ?_;obtain⟨b,I,O,C,U,R,hC,D⟩:=Kk oD h rfl xB cH f rfl;apply dy (O .i64);refine nm hC D ?_;have N:=hl l[i] (ar f);obtain⟨x,m⟩:=dW (l[i]);rw[<-m]at N|-;obtain⟨u,J⟩:=dW (if x<0 then x+18446744073709551616 else x:Int);have z:0<=u/\u<18446744073709551616:=by grind
  apply az (gQ u) W (by simp[go_sem];rw[IntKind.wrap_u64,J];split<;>omega);refine⟨?_⟩;apply zw (ab3 d u H z.1 W);refine dF ?_;refine dF ?_;obtain⟨g,o⟩:=dW (if x<0 then -1 else 0:Int)
  have j:x / 9223372036854775808=g:=by
   rw[o];split<;>omega
  refine nm jj j ?_;obtain⟨t,B⟩:=dW ((d+u) / 18446744073709551616);rw[<-B];apply az (gI t) W (by simp[go_sem];rw[mL]);apply az (gI (g+t)) W (by simp[go_sem];rw[mL]);apply az (gI (e+(g+t))) W (by simp[go_sem];rw[mL]);apply az (gI ((i+1:Nat):Int)) W (by simp[go_sem];rw[mL]);refine A _ _ ⟨i+1,(d+u)%18446744073709551616,e+(g+t),qZ,rfl,rfl,qZ,qZ,?_,qZ,qZ⟩ (by grind);rw[bV f,fK,<-E];simp only[bp,List.sum_nil,ig];rw[<-m];by_cases G:x<0
  ·grind
  ·grind
 ·obtain rfl:i=l.length:=qZ;refine fh ?_;rw[aL]at E;obtain⟨v,y⟩:=dW (if d<9223372036854775808 then d else d - 18446744073709551616:Int);have n:IntKind.i64.wrap d=v:=by rw[cy,y];split<;>omega
  obtain⟨g,o⟩:=dW (if d<9223372036854775808 then 0 else -1:Int)
  have j:v / 9223372036854775808=g:=by
   rw[o,y];split<;>omega
  refine dD n ?_;refine nm jj j ?_
  have F:e=g↔dM l.sum:=by
   by_cases k:d<9223372036854775808
   ·rw[ab k]at o y;constructor
    ·grind
    ·grind
   ·rw[aa k]at o y;constructor
    ·grind
    ·grind
  unfold sy at q;by_cases r:e=g
  ·have:decide (e≠g)=false:=by simp[r]
   refine fH r ?_;refine dD n ?_;rw[ab (F.1 r)]at q
   have:v=l.sum:=by
    by_cases k:d<9223372036854775808
    ·grind
    ·grind
   rw[this];exact q
  ·refine ee r ?_;rw[aa (λh=>r (F.2 h))]at q;exact q
end Go.Proofs
namespace Go.Proofs
open Go Go.Vc Go.Shelf
attribute [local congr] bj
variable {y y1 y0 r0 u:Nat}
def Tryz.lays264_ren:Ren:=⟨λ|264=>355|n=>n,λ|53=>37|46=>263|n=>n,λ|n=>n⟩
def Tryz.lays264:Lays.n264 pQ Tryz.lays264_ren:=by constructor<;>exact dk_
def Tryz.lays134_ren:Ren:=⟨λ|134=>377|129=>294|n=>n,λ|53=>37|3=>3|4=>4|46=>263|5=>5|9=>9|n=>n,λ|n=>n⟩
def Tryz.lays134:Lays.n134 pQ Tryz.lays134_ren:=by constructor<;>exact dk_
def PK{x:Nat}(f:x<18446744073709551616)(c:y<18446744073709551616){w:Wt_}{K:be}(d:K (.tuple #[.int .u64 ((x*y / 18446744073709551616:Nat):Int),gQ ((x*y%18446744073709551616:Nat):Int)]) w):Ca pQ 355 #[.int .u64 (x:Int),gQ (y:Int)] w K:=by
 show Ca pQ (Tryz.lays264_ren.f 264) _ _ _;exact⟨jr (Any.bits_Mul64 Tryz.lays264 x y f c w) λe g ⟨b,a⟩=>⟨_,b,by subst a;exact d⟩⟩
def U3{x:Nat}(f:x<18446744073709551616){w:Wt_}{K:be}(c:K (gI (64 - (Lib.bitLen x:Int))) w):Ca pQ 377 #[.int .u64 (x:Int)] w K:=by
 show Ca pQ (Tryz.lays134_ren.f 134) _ _ _;exact⟨jr (Any.bits_LeadingZeros64 Tryz.lays134 (x:Int) w qZ qZ) λe d ⟨b,a⟩=>⟨_,b,by subst a;simpa using c⟩⟩
structure IH(y1 y0 r0 u q r:Nat):Prop where
 eq:q*y1+r=r0
 ge:(r0*4294967296+u) / (y1*4294967296+y0)<=q
 le:q<=4294967297
section
variable{y1 y0 r0 u q r:Nat}
def IH.mulE(h:IH y1 y0 r0 u q r):q*(y1*4294967296+y0)=q*y1*4294967296+q*y0:=by
 rw[l8,gF]
def IH.exit(h:IH y1 y0 r0 u q r)(a:0<y1*4294967296+y0)(b:q*y0<=4294967296*r+u):q=(r0*4294967296+u) / (y1*4294967296+y0):=by
 have e:=h.mulE;have c:=h.eq;exact Nat.le_antisymm ((Nat.le_div_iff_mul_le a).2 (by rw[e];omega)) h.ge
def IH.step(h:IH y1 y0 r0 u q r)(c:r0<y1*4294967296+y0)(l:u<4294967296)(f:4294967296<=q\/4294967296*r+u<q*y0):1<=q/\IH y1 y0 r0 u (q - 1) (r+y1)/\q - 1<=4294967296:=by
 have e:=h.mulE;have g:=h.eq;have i:=h.le;have j:(r0*4294967296+u) / (y1*4294967296+y0)<4294967296:=Nat.div_lt_of_lt_mul qZ
 have a:(r0*4294967296+u) / (y1*4294967296+y0)<q:=by
  rcases f with d|d
  ·omega
  ·exact(gp (show 0<y1*4294967296+y0 by omega)).2 (by rw[e];omega)
 have b:1<=q:=eD (aw _) a;obtain⟨k,rfl⟩:∃k,q=k+1:=⟨q - 1,qZ⟩
 refine⟨qZ,⟨?_,by simpa using Nat.le_of_lt_succ a,qZ⟩,qZ⟩;rw[nH]at g;simp only[gm];omega
def IH.brk(b:q<=4294967296)(c:4294967296<=r)(a:y0<4294967296):q*y0<=4294967296*r+u:=by
 have:=gj b (Nat.le_of_lt a);omega
def IH.init(d:2147483648<=y1)(g:y0<4294967296)(i:u<4294967296)(b:r0<y1*4294967296+y0):IH y1 y0 r0 u (r0 / y1) (r0 - r0 / y1*y1):=by
 have h:=fW r0 y1;refine⟨qZ,?_,?_⟩
 ·obtain⟨Q,c⟩:=dW ((r0*4294967296+u) / (y1*4294967296+y0));have a:=fW (r0*4294967296+u) (y1*4294967296+y0);rw[<-c]at a|-;have e:Q*(y1*4294967296+y0)=Q*y1*4294967296+Q*y0:=by rw[l8,gF]
  rw[e]at a;exact(Nat.le_div_iff_mul_le (show 0<y1 by omega)).2 qZ
 ·have f:r0<4294967298*y1:=qZ;exact Nat.le_of_lt_succ ((gp (show 0<y1 by omega)).2 f)
end
def x9(n:Nat)(h:n<18446744073709551616):IntKind.u64.wrap (n:Int)=(n:Int):=nr qZ qZ
def Ab(y1 y0 r0 u:Nat):Nat:=(r0*4294967296+u) / (y1*4294967296+y0)
def ai0(g:2147483648<=y1)(o:y1<4294967296)(f:y0<4294967296)(m:u<4294967296)(e:r0<y1*4294967296+y0){w:Wt_}{J:Value×Value×Unit->World->Prop}
  (n:∀x,J (gQ ((Ab y1 y0 r0 u:Nat):Int),x,()) w):qV (S:=Value×Value×Unit) (Qv (gQ (y0:Int)) (gQ (u:Int)) (gQ (y1:Int)) J) (gQ ((r0 / y1:Nat):Int),gQ ((r0 - r0 / y1*y1:Nat):Int),()) w:=by
 have y:=IH.init g f m e
 have c:r0 - r0 / y1*y1<4294967296:=by
  have s:r0 - r0 / y1*y1=r0%y1:=by rw[Nat.mod_eq_sub_mul_div,eb]
  rw[s];have:=fV r0 (show 0<y1 by omega);omega
 refine iz (λst W=>∃q r:Nat,st=(gQ (q:Int),gQ (r:Int),())/\W=w/\IH y1 y0 r0 u q r/\r<4294967296)
  (λst _=>match st.1 with| .int _ q=>q.toNat|_=>0) ⟨_,_,rfl,rfl,y,c⟩ ?_
 rintro⟨_,_,_⟩ W ⟨q,r,⟨⟩,rfl,j,D⟩ B h;unfold Qv;intro _;have C:=j.le;refine dU.at (λst b=>st=(.bool (decide (4294967296<=q\/4294967296*r+u<q*y0)),())/\b=W) ?_ ?_
 ·by_cases d:4294967296<=q
  ·have a:(4294967296:Int)<=(q:Int):=qZ;refine dy (v:=.bool true) (by simp[go_sem,a]<;>first|exact⟨rfl,rfl⟩|exact rfl) ?_;rw[nO];exact⟨by simp[d],rfl⟩
  ·have a:¬(4294967296:Int)<=(q:Int):=qZ;refine dy (v:=.bool false) (by simp[go_sem,a]<;>first|exact⟨rfl,rfl⟩|exact rfl) ?_;rw[lW];have z:q*y0<18446744073709551616:=eD (gj (show q<=4294967295 by omega) (show y0<=4294967295 by omega)) qZ;have t:4294967296*r+u<18446744073709551616:=qZ;refine az (gQ ((q*y0:Nat):Int)) W (by simp only[go_sem];simp;rw[<-d9,x9 _ z]) ?_;refine az (gQ ((4294967296*r:Nat):Int)) W (by simp only[go_sem];simp;rw[nr qZ qZ]) ?_;refine az (gQ ((4294967296*r+u:Nat):Int)) W (by simp only[go_sem];simp;rw[nr qZ qZ]) ?_;refine az (.bool (decide (4294967296*r+u<q*y0))) W (by simp only[go_sem];simp;omega) ?_;exact⟨by simp[d],rfl⟩
 rintro _ b ⟨rfl,rfl⟩;unfold SX;intro _;by_cases i:4294967296<=q\/4294967296*r+u<q*y0
 ·rw[zZ i];obtain⟨s1,l,A⟩:=j.step e m i;refine az (gQ ((q - 1:Nat):Int)) b (by simp only[go_sem];simp;rw[nr qZ qZ];omega) ?_;refine az (gQ ((r+y1:Nat):Int)) b (by simp only[go_sem];simp;rw[nr qZ qZ]) ?_;by_cases k:4294967296<=r+y1
  ·have p:(4294967296:Int)<=((r+y1:Nat):Int):=qZ;refine az (.bool true) b (by simp only[go_sem];simp;omega) ?_;rw[nO];have:=l.exit qZ (IH.brk A k f);rw[this];exact n _
  ·refine az (.bool false) b (by simp only[go_sem];simp;omega) ?_;rw[lW];exact h _ _ ⟨q - 1,r+y1,rfl,rfl,l,qZ⟩ (by show(((q - 1:Nat):Int)).toNat<((q:Int)).toNat;omega)
 ·rw[JV i];have:=j.exit qZ qZ;rw[this];exact n _
def af4(g:2147483648<=y1)(o:y1<4294967296)(f:y0<4294967296)(m:u<4294967296)(e:r0<y1*4294967296+y0){w:Wt_}{J:Value×Value×Unit->World->Prop}
  (n:∀x,J (gQ ((Ab y1 y0 r0 u:Nat):Int),x,()) w):qV (S:=Value×Value×Unit) (QG (gQ (y0:Int)) (gQ (u:Int)) (gQ (y1:Int)) J) (gQ ((r0 / y1:Nat):Int),gQ ((r0 - r0 / y1*y1:Nat):Int),()) w:=by
 have y:=IH.init g f m e
 have c:r0 - r0 / y1*y1<4294967296:=by
  have s:r0 - r0 / y1*y1=r0%y1:=by rw[Nat.mod_eq_sub_mul_div,eb]
  rw[s];have:=fV r0 (show 0<y1 by omega);omega
 refine iz (λst W=>∃q r:Nat,st=(gQ (q:Int),gQ (r:Int),())/\W=w/\IH y1 y0 r0 u q r/\r<4294967296)
  (λst _=>match st.1 with| .int _ q=>q.toNat|_=>0) ⟨_,_,rfl,rfl,y,c⟩ ?_
 rintro⟨_,_,_⟩ W ⟨q,r,⟨⟩,rfl,j,D⟩ B h;unfold QG;intro _;have C:=j.le;refine dU.at (λst b=>st=(.bool (decide (4294967296<=q\/4294967296*r+u<q*y0)),())/\b=W) ?_ ?_
 ·by_cases d:4294967296<=q
  ·have a:(4294967296:Int)<=(q:Int):=qZ;refine dy (v:=.bool true) (by simp[go_sem,a]<;>first|exact⟨rfl,rfl⟩|exact rfl) ?_;rw[nO];exact⟨by simp[d],rfl⟩
  ·have a:¬(4294967296:Int)<=(q:Int):=qZ;refine dy (v:=.bool false) (by simp[go_sem,a]<;>first|exact⟨rfl,rfl⟩|exact rfl) ?_;rw[lW];have z:q*y0<18446744073709551616:=eD (gj (show q<=4294967295 by omega) (show y0<=4294967295 by omega)) qZ;have t:4294967296*r+u<18446744073709551616:=qZ;refine az (gQ ((q*y0:Nat):Int)) W (by simp only[go_sem];simp;rw[<-d9,x9 _ z]) ?_;refine az (gQ ((4294967296*r:Nat):Int)) W (by simp only[go_sem];simp;rw[nr qZ qZ]) ?_;refine az (gQ ((4294967296*r+u:Nat):Int)) W (by simp only[go_sem];simp;rw[nr qZ qZ]) ?_;refine az (.bool (decide (4294967296*r+u<q*y0))) W (by simp only[go_sem];simp;omega) ?_;exact⟨by simp[d],rfl⟩
 rintro _ b ⟨rfl,rfl⟩;unfold RX;intro _;by_cases i:4294967296<=q\/4294967296*r+u<q*y0
 ·rw[zZ i];obtain⟨s1,l,A⟩:=j.step e m i;refine az (gQ ((q - 1:Nat):Int)) b (by simp only[go_sem];simp;rw[nr qZ qZ];omega) ?_;refine az (gQ ((r+y1:Nat):Int)) b (by simp only[go_sem];simp;rw[nr qZ qZ]) ?_;by_cases k:4294967296<=r+y1
  ·have p:(4294967296:Int)<=((r+y1:Nat):Int):=qZ;refine az (.bool true) b (by simp only[go_sem];simp;omega) ?_;rw[nO];have:=l.exit qZ (IH.brk A k f);rw[this];exact n _
  ·refine az (.bool false) b (by simp only[go_sem];simp;omega) ?_;rw[lW];exact h _ _ ⟨q - 1,r+y1,rfl,rfl,l,qZ⟩ (by show(((q - 1:Nat):Int)).toNat<((q:Int)).toNat;omega)
 ·rw[JV i];have:=j.exit qZ qZ;rw[this];exact n _
def L3(b:u<4294967296)(a:r0<y1*4294967296+y0):Ab y1 y0 r0 u<4294967296:=by
 unfold Ab;exact(gp (show 0<y1*4294967296+y0 by omega)).2 qZ
def LP(a:r0<y1*4294967296+y0):∃r,r0*4294967296+u=Ab y1 y0 r0 u*(y1*4294967296+y0)+r/\r<y1*4294967296+y0:=by
 refine⟨(r0*4294967296+u)%(y1*4294967296+y0),?_,fV _ qZ⟩;unfold Ab;have:=lm (r0*4294967296+u) (y1*4294967296+y0);rw[eb]at this;exact this.symm
def XD{N p Q R:Nat}(hp:0<p)(h:N*p=Q*(y*p)+R)(b:R<y*p):N / y=Q/\N%y=R / p:=by
 have d:Q*(y*p)=Q*y*p:=by rw[gF]
 rw[d]at h;have e:Q*y<=N:=Nat.le_of_mul_le_mul_right qZ hp;obtain⟨t,rfl⟩:∃t,N=Q*y+t:=⟨N - Q*y,qZ⟩
 rw[dY]at h;have a:R=t*p:=qZ;rw[a]at b|-;have c:t<y:=Nat.lt_of_mul_lt_mul_right b;rw[Nat.mul_div_cancel _ hp];constructor
 ·rw[nK,Nat.add_mul_div_right _ _ qZ,Nat.div_eq_of_lt c,cI]
 ·rw[nK,Nat.add_mul_mod_self_right,nj c]
def VP{hi lo s:Nat}(i:hi<y)(c:lo<18446744073709551616)(hs:s<=64)(d:y*2 ^ s<18446744073709551616):
  (hi*18446744073709551616+lo)*2 ^ s=(hi*2 ^ s+lo / 2 ^ (64 - s))*18446744073709551616+lo*2 ^ s%18446744073709551616/\hi*2 ^ s+lo / 2 ^ (64 - s)<y*2 ^ s/\lo / 2 ^ (64 - s)<2 ^ s/\hi*2 ^ s<18446744073709551616:=by
 have hp:0<2 ^ s:=jw s
 have e:(18446744073709551616:Nat)=2 ^ (64 - s)*2 ^ s:=by
  rw[<-mC,show 64 - s+s=64 by omega]
 have h:lo*2 ^ s / 18446744073709551616=lo / 2 ^ (64 - s):=by
  conv=>lhs;rw[e]
  exact Nat.mul_div_mul_right _ _ hp
 have f:=lm (lo*2 ^ s) 18446744073709551616;rw[h]at f;obtain⟨p,a⟩:=dW (2 ^ s);obtain⟨q,b⟩:=dW (lo / 2 ^ (64 - s))
 have g:q<p:=by
  rw[b,a];refine(gp (jw _)).2 ?_;rw[eb,<-e];exact c
 rw[<-a,<-b]at f;rw[<-a]at d hp;rw[<-a,<-b];have j:(hi+1)*p<=y*p:=cz p i;rw[nH]at j;refine⟨?_,qZ,g,qZ⟩;rw[dY,Nat.mul_right_comm];omega
end Go.Proofs
