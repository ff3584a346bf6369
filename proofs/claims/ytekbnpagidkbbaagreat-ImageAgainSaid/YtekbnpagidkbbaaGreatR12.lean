/- Part of a proof. -/
import Derived.Laws.Externs
import Derived.Shelf.Bits.Mul64
import Derived.Shelf.Small.Bits
import Derived.Ground.NamesProg
import Derived.Lib.ItoaNum
import Derived.Laws.Bits64b
import Derived.Test.YtekbnpagidkbbaaGreatR11
set_option linter.all false
set_option maxRecDepth 100000
set_option maxHeartbeats 4000000
namespace Go.Proofs
open Go Go.Vc
attribute [local congr] bj
variable {n:Int}{l:List Ct}{F:NP_}{c:Nat}{w:Wt_}{K:aZ}{S:oR}
def zx(hs:nQ l){n:Int}{k:Ct}(h:cj l n=some k):∃d:iR l n<l.length,l[iR l n]=k/\k.spec.num=n:=by
 unfold cj at h;obtain⟨m,i,d,b,g⟩:=dP.1 h;have a:k.spec.num=n:=by simpa using m
 have e:iR l n=i:=by
  refine Bu qZ (λj f c=>?_) λf=>by rw[b];omega
  have:=bP.1 hs j i f d c;rw[b]at this;omega
 subst e;exact⟨d,b,a⟩
def si{k:Ct}(h:cj l n=some k):k∈l:=dG h
def I6(h:mC w c F S)
  (e:∀b,M0 w b->K (.tuple #[.int .i64 (iR S.l n),.bool (cj S.l n).isSome]) b):Ca pQ 201 #[fO c,gU n] w K:=by
 obtain⟨⟨sl,h1,d,m,j⟩,l,o,k,f⟩:=h;unfold fO;refine cN Tryz.func201 ?_;simp only[bU];obtain⟨sa,sc,a,-⟩:=d.isSl;refine dI ?_;refine NR sl h1 a ?_;refine Uy d.rd qZ f λi g=>?_;refine dI ?_;refine dI ?_;exact e _ g
def bG(l:List Ct)(n:Int):Int:=match cj l n with|none=>7|some k=>if k.st=3 then 50 else 0
def AH.item{sl:Vt_}(h:AH w sl l){i:Nat}(hi:i<l.length):
  ∃b a rest,sl=.slice (some ⟨b,0,none⟩) l.length a/\(∀k:IntKind,(iX Im sl (.int k (i:Int))).run pQ w=.ok (bO b (i*27)) w)/\At w b (i*27) (dA l[i])/\
   hC w b (l.flatMap dA++rest).toArray jW/\∀j,j<27->(l.flatMap dA++rest)[i*27+j]? =(dA l[i])[j]? :=by
 obtain⟨b,a,rest,rfl,o,d,n⟩:=h.pos qZ;have c:At w b 0 (l.flatMap dA++rest):=At.all (bT d);have e:=h.1;have h1:=c.sub (i*27) 27 (by grind);rw[dq (by rw[e];omega),aO (by grind),lY dA 27 l i (λx _=>bM x) hi,cX]at h1;refine⟨b,a,rest,rfl,λk=>by simp[go_sem,hi,bK,qM],h1,bT d,λj m=>?_⟩;rw[cg (by rw[e];omega)];have g:=lY dA 27 l i (λx _=>bM x) hi;have f:(((l.flatMap dA).drop (i*27)).take 27)[j]? =(dA l[i])[j]? :=by rw[g]
 rw[fj,ae m,fl]at f;exact f
def vU(h:mC w c F S)
  (v:∀g,bG S.l n≠0->M0 w g->K (.tuple #[.pointer none,gI (bG S.l n)]) g)
  (C:∀i (hi:i<S.l.length) b d g,S.l[i].spec.num=n->S.l[i].st≠3->cj S.l n=some S.l[i]->bG S.l n=0->M0 w g->hC g c #[.bool true,gU S.day,.slice (some ⟨b,0,none⟩) S.l.length d] 172->
   AH g (.slice (some ⟨b,0,none⟩) S.l.length d) S.l->(∀x,F x↔x=c\/x=b)->b≠c->K (.tuple #[.pointer (some ⟨b,i*27,none⟩),gI 0]) g):Ca pQ 203 #[fO c,gU n] w K:=by
 unfold fO;refine cN Tryz.func203 ?_;apply qn h;refine eU ?_;refine I6 h λs q=>?_;have A:=h.mod q d9;refine dI ?_;refine dI ?_;cases l:cj S.l n with
 |none=>
  refine lh ?_;have e:bG S.l n=7:=by unfold bG;rw[l]
  have m:=v s (by rw[e];decide) q;rw[e]at m;exact m
 |some k=>
  refine eU ?_;obtain⟨hi,f,r⟩:=zx h.srt l;obtain⟨⟨sl,h1,u,B,z⟩,E,I,D,H⟩:=A;obtain⟨b,d,rest,rfl,j,G,y,o⟩:=u.item hi;have p:=o 25 qZ;rw[C7,f]at p;simp only[fO,bU];refine dI ?_;refine dN h1 ?_;apply bo (j .i64);refine dN bK ?_;refine nS y p ?_;by_cases a:k.st=3
  ·refine dY a ?_;have e:bG S.l n=50:=by unfold bG;rw[l];simp only;rw[ae a]
   have m:=v s (by rw[e];decide) q;rw[e]at m;exact m
  ·refine fF a ?_;refine dI ?_;refine dN h1 ?_;apply bo (j .i64);have e:bG S.l n=0:=by unfold bG;rw[l];simp only;rw[aa a]
   refine C _ hi b d s (by rw[f];exact r) (by rw[f];exact a) (by rw[l,f]) e q h1 u (λx=>?_) λt=>z (by rw[t];rfl);rw[B x];exact⟨λh=>h.imp id λh=>by cases h;rfl,λh=>h.imp id λh=>by rw[h];rfl⟩
def LI(h:mC w c F S)(a:K (gU S.day) w):Ca pQ 57 #[fO c] w K:=by
 obtain⟨⟨sl,h1,b,f,d⟩,e⟩:=id h;unfold fO;refine cN Tryz.func57 ?_;apply qn h;refine eU ?_;simp only[fO,bU];refine dI ?_;refine dN h1 ?_;exact a
def fa(S:oR):Int×oR:=if S.day=4294967295 then(6,S)else(0,⟨S.day+1,S.l⟩)
def Pg(h:mC w c F S)
  (a:∀d,mC d c F (fa S).2->aR F w d->K (gI (fa S).1) d):Ca pQ 204 #[fO c] w K:=by
 obtain⟨⟨sl,h1,j,n,f⟩,l,o,k,m⟩:=id h;unfold fO;refine cN Tryz.func204 ?_;apply qn h;refine eU ?_;simp only[fO,bU];refine dI ?_;refine dN h1 ?_;unfold fa at a;by_cases b:S.day=4294967295
 ·refine dY b ?_;rw[ae b]at a;exact a _ h rZ
 ·refine fF b ?_;rw[aa b]at a;refine dI ?_;refine dN h1 ?_;apply ao (gU (S.day+1)) w (by simp[go_sem];rw[IntKind.wrap_u32];omega);refine dI ?_;refine S6 h1 ?_;have i:aR (λx=>x=c) w (w.setCell ⟨c,1,none⟩ (gU (S.day+1))):=(aR.refl (λx=>x=c) w).sc;refine a _ ⟨⟨sl,by simp[go_sem,h1],j.mod i λx g e=>f (e▸g),n,f⟩,l,⟨by grind,by grind⟩,k,m⟩ (i.mono λx _ g=>by grind)
def uv:Sp:=⟨0,0,0,0,0,0,Vector.replicate 16 0,0,0,0⟩
def CR:Ct:=⟨uv,0,0⟩
def Ju:jf pQ jW=dA CR:=cV
def UP:Tryz.prog.built jW []=some (dA CR).toArray:=cV
def Wp{W:Wt_}{q:Nat}{k0 k:Ct}{K:Value->World->Prop}(h:hC W q (dA k0).toArray jW)
  (i:∀d,aR (λb=>b=q) W d->K (.agg (dA k).toArray) d):
  yS pQ (rS jW (bO q 0) (.agg (dA k).toArray)) W λa=>ID pQ (qE jW (bO q 0)) a λj=>K j a:=by
 apply uU (n:=26) (c:=(dA k0).toArray) (e:=jW) sI (bM k) h (by rw[bM,dv,bM];exact aD _) (kH k);rw[show(dA k0).toArray.toList=dA k0 from rfl,lF (by rw[bM,bM])]
 have f:hC (W.setRow q (dA k).toArray) q (dA k).toArray jW:=by
  show(W.setRow q _).heap[q]? =_;have g:W.heap[q]? =some (.cells (dA k0).toArray jW (0,0)):=h;rw[eK,ae rfl,g]
 apply kA (dA k) 26 CP sI (bM k) (At.all f);exact i _ ((aR.refl (λb=>b=q) W).setRow (.inl rfl) _)
def dO(l:List Ct)(n:Int):Ct×Int:=match cj l n with|none=>(CR,7)|some k=>(k,0)
def LZ(h:mC w c F S)
  (a:∀p,M0 w p->K (.tuple #[.agg (dA (dO S.l n).1).toArray,gI (dO S.l n).2]) p):Ca pQ 143 #[fO c,gU n] w K:=by
 unfold fO;refine cN Tryz.func143 ?_;apply rC Zy;obtain⟨q,d⟩:=di w.heap.size;have j:M0 w (w.alloc (.cells (jf pQ jW).toArray jW)):=mG;have s:hC (w.alloc (.cells (jf pQ jW).toArray jW)) q (dA CR).toArray jW:=by rw[Ju,d];simp[go_sem]
 rw[<-d];generalize w.alloc (.cells (jf pQ jW).toArray jW)=M at j s|-;have f:=h.mod j d9;apply qn f;refine eU ?_;refine I6 f λE l=>?_;have z:=f.mod l d9;have r:=j.trans l;have o:=l.hpk s id;refine dI ?_;refine dI ?_;unfold dO at a;cases g:cj S.l n with
 |none=>
  rw[g]at a;refine lh ?_;apply xH UP;refine Wp o λD m=>?_;exact a _ (r.on m λx C=>gr)
 |some k=>
  rw[g]at a;refine eU ?_;obtain⟨B,i,v⟩:=zx h.srt g;obtain⟨⟨sl,h1,y,N,H⟩,J,O,I,L⟩:=z;obtain⟨b,A,rest,rfl,e,t,G,u⟩:=y.item B;simp only[fO,bU];refine dI ?_;refine dN h1 ?_;apply bo (e .i64);rw[i]at t;apply fH (dA k) 26 CP sI (bM k) t;refine Wp o λD m=>?_;exact a _ (r.on m λx C=>gr)
def RB(h:mC w c F S)
  (I:∀y A r,mC r y A S->M0 w r->(∀b,A b->w.heap.size<=b)->K (fO y) r):Ca pQ 91 #[fO c] w K:=by
 obtain⟨⟨sl,h1,u,W,U⟩,H,Q,G,M⟩:=id h;obtain⟨sa,sc,d,-⟩:=u.isSl;unfold fO;refine cN Tryz.func91 ?_;apply qn h;refine eU ?_;simp only[fO,bU];refine NR (.agg #[.bool true,gU S.day,sl]) h1 d ?_;obtain⟨q,g⟩:=di w.heap.size
 have k:∃a,(iA 172 true (.tuple #[])).run pQ w=.ok (bO q 0) a/\∃j,(iS 172 (bO q 0) (.agg #[.bool true,gU S.day,sl])).run pQ a=.ok () j/\
   hC j q #[.bool true,gU S.day,sl] 172/\M0 w j/\w.heap.size<j.heap.size:=by
  obtain⟨a,f⟩:=di (w.alloc (.cells #[.bool false,gU 0,.slice none 0 0] 172));have N:M0 w a:=by rw[f];exact(aR.refl _ w).alloc _
  have t:hC a q #[.bool false,gU 0,.slice none 0 0] 172:=by rw[f,g];simp[go_sem]
  have L:a.heap.size=w.heap.size+1:=by rw[f,cw]
  refine⟨a,by rw[f,g];simp[go_sem],((a.setCell ⟨q,0,none⟩ (.bool true)).setCell ⟨q,1,none⟩ (gU S.day)).setCell ⟨q,2,none⟩ sl,by rw[d];simp[go_sem,t],by rw[d];simp[go_sem,t],?_,by simp only[tZ];omega⟩;exact N.on ((((aR.refl (λx=>x=q) a).sc).sc).sc) λx n=>gr
 obtain⟨a,R,j,J,O,o,P⟩:=k;apply bo R;apply iE J;have k1:=o.hpk h1 id;refine dI ?_;refine NR sl k1 d ?_;refine wI (l:=S.l) (u.mod o d9).rd qZ λi m C v E=>?_;have z:=v.hpk O id;refine dI ?_;obtain⟨V,T,p,-⟩:=C.isSl;apply nE (m.setCell ⟨q,2,none⟩ i) (by rw[p];simp[go_sem,z]);have D:aR (λx=>x=q) m (m.setCell ⟨q,2,none⟩ i):=(aR.refl (λx=>x=q) m).sc;have B:¬aF i q:=λn=>by grind
 refine I q (λb=>b=q\/aF i b) _ ⟨⟨i,by simp[go_sem,z],C.mod D λx n e=>B (e▸n),λb=>aG,B⟩,H,Q,G,M⟩ ((o.trans v).on D λx n=>gr) λb s=>?_;rcases s with rfl|s
 ·omega
 ·have:=E b s;omega
end Go.Proofs
namespace Go.Proofs
open Go Go.Vc
attribute [local congr] bj
variable {k:Ct}{n:Int}{l:List Ct}{F:NP_}{b c:Nat}{w:Wt_}{K:aZ}{S:oR}
def iu(l:List Ct)(n:Int)(f:Ct->Ct):List Ct:=l.map λk=>if k.spec.num=n then f k else k
def oK(hs:nQ l){n:Int}{i:Nat}(hi:i<l.length)(e:l[i].spec.num=n)(f:Ct->Ct):iu l n f=l.set i (f l[i]):=by
 unfold iu;apply List.ext_getElem
 ·simp
 ·intro j h1 c;have a:j<l.length:=by simpa using h1
  rw[List.getElem_set,cG];by_cases b:i=j
  ·grind
  ·rw[aa b,aa];intro d;rcases Nat.lt_or_ge i j with h|h
   ·have:=bP.1 hs i j hi a h;omega
   ·have:=bP.1 hs j i a hi qZ;omega
def pU{f:Ct->Ct}(i:∀k∈l,k.spec.num=n->(f k).Ok/\(f k).spec.num=k.spec.num)(h1:∀k∈l,k.Ok)(d:nQ l):(∀k∈iu l n f,k.Ok)/\nQ (iu l n f)/\(iu l n f).length=l.length:=by
 have a:∀k∈l,(if k.spec.num=n then f k else k).spec.num=k.spec.num:=λk b=>by
  split
  ·grind
  ·rfl
 refine⟨λk b=>?_,?_,by simp[iu]⟩
 ·obtain⟨x,g,rfl⟩:=aL.1 b;split
  ·grind
  ·exact h1 x g
 ·unfold nQ iu;rw[eL];refine d.imp_of_mem λc e h=>?_;rw[a _ c,a _ e];exact h
def AH.set1{cap:Nat}(h:AH w (.slice (some ⟨b,0,none⟩) l.length cap) l){i:Nat}(hi:i<l.length){j:Nat}(r:j<27){v:Vt_}(s:v.oneCell' =true){k' :Ct}(d:(dA l[i]).set j v=dA k'):
  AH (w.setCell ⟨b,i*27+j,none⟩ v) (.slice (some ⟨b,0,none⟩) l.length cap) (l.set i k'):=by
 obtain⟨q,g,rest,n,p,k,f,c⟩:=h.pos qZ;cases n;have m:=h.1
 have a:(l.flatMap dA).set (i*27+j) v=(l.set i k').flatMap dA:=by
  clear h m k f c p;induction l generalizing i with
  |nil=>simp at hi
  |cons x l o=>
   cases i with
   |zero=>
    simp only[eW]at d;rw[bm,kp,cX,dX _ _ (by rw[bM];omega),d];rfl
   |succ i=>
    have e:(i+1)*27+j=(dA x).length+(i*27+j):=by rw[bM];omega
    rw[bm,e,cI _ _ qZ,fZ,o (by simpa using hi) (by simpa using d)];rfl
 refine⟨by grind,.inr ⟨b,cap,rest,by grind,by grind,?_,by grind,c⟩⟩;rw[kE,ae rfl,k,jJ,ek,dX _ _ (by rw[m];omega),a]
def EQ(k:Ct)(x:Int):(dA k).set 25 (gB x)=dA {k with st:=x}:=by
 unfold dA;rw[cI _ _ (by rw[br];omega),br];rfl
def VL(k:Ct)(x:Int):(dA k).set 26 (gI x)=dA {k with price:=x}:=by
 unfold dA;rw[cI _ _ (by rw[br];omega),br];rfl
def AM(h:k.Ok){x:Int}(a:1<=x/\x<=3):({k with st:=x}:Ct).Ok:=⟨⟨h.1.1,⟨by show 0<=x;omega,by show x<256;omega⟩,h.1.2.2⟩,h.2.1,h.2.2.1,a⟩
def vy{s:Sp}{p:Int}(h:s.isPrice p=true):1<=p/\p<=10000000:=by
 unfold Sp.isPrice wz aY MP at h;simp only[ai,aS]at h;exact h.2.1
def BF(h:k.Ok){x:Int}(a:k.spec.isPrice x=true):({k with price:=x}:Ct).Ok:=by
 have b:=vy a;exact⟨⟨h.1.1,h.1.2.1,⟨by show _<=x;omega,by show x<_;omega⟩⟩,h.2.1,a,h.2.2.2⟩
def mC.turn{cap:Nat}{a:List Ct}(j:hC w c #[.bool true,gU S.day,.slice (some ⟨b,0,none⟩) a.length cap] 172)
  (e:AH w (.slice (some ⟨b,0,none⟩) a.length cap) a)(l:∀x,F x↔x=c\/x=b)(d:b≠c)(h1:a.length<=16)(f:iU S.day)(i:∀k∈a,k.Ok)(g:nQ a):mC w c F ⟨S.day,a⟩:=
 ⟨⟨_,j,e,λx=>by rw[l x];exact⟨λh=>h.imp id λh=>by rw[h];rfl,λh=>h.imp id λh=>by cases h;rfl⟩,λh=>d (by cases h;rfl)⟩,h1,f,i,g⟩
def jS(S:oR)(n:Int)(on:Bool):Int×oR:=if bG S.l n≠0 then(bG S.l n,S)else(0,⟨S.day,iu S.l n λk=>{k with st:=if on then 2 else 1}⟩)
def QP{on:Bool}(h:mC w c F S)
  (d:∀G,mC G c F (jS S n on).2->aR F w G->K (gI (jS S n on).1) G):Ca pQ 135 #[fO c,gU n,.bool on] w K:=by
 unfold fO;refine cN Tryz.func135 ?_;refine vU h (λa D B=>?_) λi s b o a C T hg D B Q P J m=>?_
 ·refine dI ?_;refine dI ?_;refine dY D ?_;have e:jS S n on=(bG S.l n,S):=by unfold jS;rw[ae D]
  rw[e]at d;exact d _ (h.mod B d9) (B.to)
 ·refine dI ?_;refine dI ?_;refine eU ?_;have e:jS S n on=(0,⟨S.day,iu S.l n λk=>{k with st:=if on then 2 else 1}⟩):=by unfold jS;rw[aa (by rw[D];simp)]
  rw[e]at d;simp only[bU];obtain⟨b',N,rest,H,R,hA,O,t⟩:=P.item s;cases H;have r:=t 25 qZ;rw[C7]at r;have p:F b:=(J b).2 (.inr rfl);have V:∀x y,aR F a ((a.setCell ⟨b,i*27+25,none⟩ x).setCell ⟨b,i*27+25,none⟩ y):=λx y=>(((aR.refl F a).setCell (.inl p) _ _).setCell (.inl p) _ _)
  have L:∀x,aR F a (a.setCell ⟨b,i*27+25,none⟩ x):=λx=>((aR.refl F a).setCell (.inl p) _ _)
  have u:aR F w a:=B.to;refine dN bK ?_;refine qU2 O r ?_;have l1:=P.set1 s (j:=25) qZ (v:=gB 1) rfl (EQ _ _);have A:∀y:Int,1<=y/\y<=3->_:=λy X=>pU (l:=S.l) (n:=n) (f:=λk=>{k with st:=y}) (λk U _=>⟨AM (h.ok k U) X,rfl⟩) h.ok h.srt
  have g:∀(W:Wt_) x,hC W c #[.bool true,gU S.day,.slice (some ⟨b,0,none⟩) S.l.length o] 172->hC (W.setCell ⟨b,i*27+25,none⟩ x) c #[.bool true,gU S.day,.slice (some ⟨b,0,none⟩) S.l.length o] 172:=λW x h=>by
   have:aR (λz=>z=b) W (W.setCell ⟨b,i*27+25,none⟩ x):=(aR.refl (λz=>z=b) W).sc;exact this.hpk h λe=>m e.symm
  cases on with
  |false=>
   rw[jO];have q:=A 1 qZ;rw[oK h.srt s C]at q;simp only[bi,dg]at d;rw[oK h.srt s C]at d;refine d _ (mC.turn (by rw[bN];exact g _ _ Q) (by grind) J m (by rw[bN];exact h.len) h.day q.1 q.2.1) (u.trans (L _))
  |true=>
   rw[kJ];refine dN bK ?_
   have Y:i*27+25<(S.l.flatMap dA++rest).length:=by
    have:=(aJ.1 r).1;exact this
   have M:((S.l.flatMap dA++rest).set (i*27+25) (gB 1))[i*27+25]? =some (gB 1):=by grind
   refine qU2 O M ?_;have E:i<(S.l.set i {S.l[i]with st:=1}).length:=by grind
   have I:AH (a.setCell ⟨b,i*27+25,none⟩ (gB 1)) (.slice (some ⟨b,0,none⟩) (S.l.set i {S.l[i]with st:=1}).length o) (S.l.set i {S.l[i]with st:=1}):=by grind
   have Z:=I.set1 E (j:=25) qZ (v:=gB 2) rfl (EQ _ _);rw[ke,eg,bN]at Z;have q:=A 2 qZ;rw[oK h.srt s C]at q;simp only[df]at d;rw[oK h.srt s C]at d;refine d _ (mC.turn (by rw[bN];exact g _ _ (g _ _ Q)) (by grind) J m (by rw[bN];exact h.len) h.day q.1 q.2.1) (u.trans (V _ _))
def fS(S:oR)(n price:Int):Int×oR:=
 match cj S.l n with
 |none=>(7,S)
 |some k=>if k.st=3 then(50,S)else if k.spec.isPrice price=false then(52,S)else(0,⟨S.day,iu S.l n λk=>{k with price:=price}⟩)
def Gk{price:Int}(h:mC w c F S)
  (o:∀C,mC C c F (fS S n price).2->aR F w C->K (gI (fS S n price).1) C):Ca pQ 136 #[fO c,gU n,gI price] w K:=by
 unfold fO;refine cN Tryz.func136 ?_;refine vU h (λN s u=>?_) λi g b G N U E D s u hc T R p=>?_
 ·refine dI ?_;refine dI ?_;refine dY s ?_
  have e:fS S n price=(bG S.l n,S):=by
   unfold fS bG;unfold bG at s;cases D:cj S.l n with
   |none=>rfl
   |some k=>
    rw[D]at s;simp only at s|-;by_cases h3:k.st=3
    ·grind
    ·grind
  rw[e]at o;exact o _ (h.mod u d9) (u.to)
 ·refine dI ?_;refine dI ?_;refine eU ?_;simp only[bU];obtain⟨Z,q,rest,m,A,Q,O,d⟩:=T.item g;cases m
  have M:At N b (i*27) (eV S.l[i].spec):=by
   have:=Q.sub 0 25 (by rw[bM];omega);rw[dW,dA,aO (by rw[br];omega),aC (by rw[br];omega)]at this;exact this
  refine dN bK ?_;apply fH (eV S.l[i].spec) 24 zi we (br _) M;have L:=h.ok S.l[i] (aq g);refine qk L.1.1 λy B=>?_;have J:=u.trans B
  have Y:fS S n price=if S.l[i].spec.isPrice price=false then(52,S)else(0,⟨S.day,iu S.l n λk=>{k with price:=price}⟩):=by
   unfold fS;rw[D];simp only;rw[aa E]
  rw[Y]at o;cases hp:S.l[i].spec.isPrice price with
  |false=>
   refine lh ?_;rw[ae hp]at o;exact o _ (h.mod J d9) (J.to)
  |true=>
   refine eU ?_;rw[aa (by rw[hp];simp),oK h.srt g U]at o;have r:AH y (.slice (some ⟨b,0,none⟩) S.l.length G) S.l:=T.mod B d9;have I:=B.hpk hc id;obtain⟨Z,q,rest,m,A,Q,O,d⟩:=r.item g;cases m;have t:=d 26 qZ;rw[Qt]at t;refine dN bK ?_;refine qU2 O t ?_;have l1:=r.set1 g (j:=26) qZ (v:=gI price) rfl (VL _ _)
   have H:=pU (l:=S.l) (n:=n) (f:=λk=>{k with price:=price}) (λk P X=>⟨BF (h.ok k P) (by
    have:k=S.l[i]:=by
     obtain⟨j,W,rfl⟩:=bQ P;rcases Nat.lt_trichotomy j i with a|a|a
     ·have:=bP.1 h.srt j i W g a;omega
     ·subst a;rfl
     ·have:=bP.1 h.srt i j g W a;omega
    rw[this];exact hp),rfl⟩) h.ok h.srt
   rw[oK h.srt g U]at H;have V:aR (λz=>z=b) y (y.setCell ⟨b,i*27+26,none⟩ (gI price)):=(aR.refl (λz=>z=b) y).sc;refine o _ (mC.turn (by rw[bN];exact V.hpk I λe=>p e.symm) (by grind) R p (by rw[bN];exact h.len) h.day H.1 H.2.1) ((J.to).trans (V.mono λx _ hx=>(R x).2 (.inr hx)))
def Ki(a b:Sp):Bool:=decide (a.last<b.last)||(decide (a.last=b.last)&& decide (a.num<b.num))
def SJ{a b:Sp}(d:∀k,M0 w k->K (.bool (Ki a b)) k):Ca pQ 309 #[.agg (eV a).toArray,.agg (eV b).toArray] w K:=by
 refine cN Tryz.func309 ?_;obtain⟨i,n,c,m⟩:=DU a w;apply bo n;obtain⟨p,h⟩:=di w.heap.size;rw[<-h]at c|-;obtain⟨o,l,f,j⟩:=DU b i;apply bo l;have c:=j.hpk c id;have d:=d _ (m.trans j);unfold Ki at d;obtain⟨q,g⟩:=di i.heap.size;rw[<-g]at f|-;refine dI ?_;refine nS c Dr ?_;refine dI ?_;refine nS f Dr ?_;by_cases h1:a.last<b.last
 ·refine dY h1 ?_;simpa [h1]using d
 ·refine fF h1 ?_;refine dI ?_;refine nS c Dr ?_;refine dI ?_;refine nS f Dr ?_;by_cases e:a.last=b.last
  ·refine dY e ?_;refine dI ?_;refine nS c QE ?_;refine dI ?_;refine nS f QE ?_;refine dI ?_;simpa [e]using d
  ·refine fF e ?_;simpa [h1,e]using d
def E8(k y:Ct):Bool:=decide (y.st≠3)&& Ki y.spec k.spec
def QR{y:Ct}{p off:Nat}{T:TypeId}(i:hC w p #[.pointer (some ⟨b,off,none⟩)] T)(h:At w b off (dA k))
  (f:∀l,M0 w l->K (.bool (E8 k y)) l):Ca pQ 308 #[.agg (dA y).toArray,.pointer (some ⟨p,0,none⟩)] w K:=by
 refine cN Tryz.func308 ?_;obtain⟨j,s,a,r⟩:=VS y w;apply bo s;obtain⟨q,g⟩:=di w.heap.size;rw[<-g]at a|-;have md:=r.drew;have a:hC j.drew q (dA y).toArray jW:=a;have n:=md.hpk i id;have m:=h.mod md id;generalize j.drew=u at md a n m|-;refine sB ?_;refine qW2 a C7 ?_;unfold E8 at f;by_cases d:y.st=3
 ·refine Kf d ?_;have e:=f _ md;simpa [d]using e
 ·refine JC d ?_
  have c:∀{W:Wt_} {b off:Nat} {x:Ct},At W b off (dA x)->At W b off (eV x.spec):=λh=>by
   have:=h.sub 0 25 (by rw[bM];omega);rw[dW,dA,aO (by rw[br];omega),aC (by rw[br];omega)]at this;exact this
  refine sB ?_;apply kA (eV y.spec) 24 zi we (br _) (c (At.all a));refine AV n ?_;simp only[bU];refine qP1 bK ?_;apply kA (eV k.spec) 24 zi we (br _) (c m);refine SJ λt o=>?_;have e:=f _ (md.trans o);simpa [d]using e
end Go.Proofs
namespace Go.Proofs
open Go Go.Vc
attribute [local congr] bj
variable {n:Int}{l:List Ct}{F:NP_}{c:Nat}{s:Vt_}{w:Wt_}{K:aZ}{S:oR}
def Sx(w:Wt_)(fv:Vt_)(p:Ct->Bool)(l:List Ct):Prop:=
 ∃g cp,fv=.func (.func g) #[] cp/\∀x∈l,∀W,M0 w W->∀K,(∀W',M0 W W' ->K (.bool (p x)) W')->Ca pQ g ⟨[.agg (dA x).toArray]++cp.toList⟩ W K
def AH.ld(h:Rd w 27 s l.length (l.flatMap dA)){x:Nat}(e:x<l.length):
  ∃p,(iX Im s (gI (x:Int))).run pQ w=.ok p w/\(qE jW p).run pQ w=.ok (.agg (dA l[x]).toArray) w:=by
 obtain⟨b,a,f,c,d,g⟩:=h.item bM e rfl;exact⟨.pointer (some ⟨b,a+x*27,none⟩),by rw[c];simp[go_sem,e,bK],jh CP sI (bM _) g⟩
def I2{fv:Vt_}{p:Ct->Bool}(h:Rd w 27 s l.length (l.flatMap dA))(G:l.length<=1000000)(z:Sx w fv p l)
  (u:∀t,M0 w t->K (gI (rz l p)) t):Ca pQ 359 #[s,fv] w K:=by
 obtain⟨g,H,rfl,r⟩:=z;refine cN Tryz.func359 ?_;obtain⟨a,c,A⟩:=h.isSl;apply iI (gI (l.length:Int)) w (by rw[A];simp[go_sem])
 refine d8 (λst W=>∃(i:Nat) (x:Vt_),i<=l.length/\st=(x,gI i,())/\M0 w W/\∀j,∀d,j<i->p l[j]=false)
  (λst _=>match st.2.1 with| .int _ i=>l.length - i.toNat|_=>0) ⟨0,gI 0,qZ,rfl,rZ,λj _ h=>qZ⟩ ?_
 rintro⟨_,_⟩ W ⟨i,x,F,⟨⟩,f,e⟩ E o;refine lV ?_;intro _;by_cases b:i<l.length
 ·have k:(i:Int)<(l.length:Int):=qZ;refine dY k ?_;obtain⟨q,v,C⟩:=AH.ld (h.mod f d9) b;apply bo v;apply kY C;simp only[eX];refine r l[i] (aq b) W f _ λI n=>?_;cases hp:p l[i]with
  |true=>
   rw[kJ]
   have:rz l p=(i:Int):=by
    unfold rz
    have:l.findIdx? p=some i:=by
     rw[bz];refine⟨b,hp,λj d=>?_⟩;rw[e j qZ d];simp
    rw[this]
   have m:=u _ (f.trans n);rw[this]at m;exact m
  |false=>
   rw[jO];apply VE i;refine o _ _ ⟨i+1,_,qZ,rfl,f.trans n,λj d y=>?_⟩ (by grind);by_cases D:j=i
   ·subst D;exact hp
   ·grind
 ·obtain rfl:i=l.length:=qZ;refine eU ?_
  have:rz l p= -1:=by
   unfold rz
   have:l.findIdx? p=none:=by
    rw[dH];intro x B;obtain⟨j,d,rfl⟩:=bQ B;exact e j d d
   rw[this]
  have m:=u _ f;rw[this]at m;exact m
def Q1{α:Type}(l:List α)(p:α->Bool):decide (0<=rz l p)=l.any p:=by
 unfold rz;cases h:l.findIdx? p with
 |none=>
  rw[dH]at h;have:l.any p=false:=by grind
  rw[this];rfl
 |some i=>
  obtain⟨a,hp,-⟩:=bz.1 h;have:l.any p=true:=im.2 ⟨l[i],aq a,hp⟩;rw[this];exact aW (by simp)
def CQ{fv:Vt_}{p:Ct->Bool}(h:Rd w 27 s l.length (l.flatMap dA))(f:l.length<=1000000)(e:Sx w fv p l)
  (c:∀a,M0 w a->K (.bool (l.any p)) a):Ca pQ 307 #[s,fv] w K:=by
 refine cN Tryz.func307 ?_;refine I2 h f e λb d=>?_;apply ao (.bool (l.any p)) b (by rw[<-Q1];simp[go_sem]);exact c _ d
def qU(S:oR)(n:Int):Int:=
 match cj S.l n with
 |none=>7
 |some k=>if k.st=3 then 50 else if S.day<k.spec.last\/S.l.any (E8 k)=true then 51 else 0
def xS(h:bG S.l n≠0):qU S n=bG S.l n:=by
 unfold qU bG;unfold bG at h;cases a:cj S.l n with
 |none=>rfl
 |some k=>
  rw[a]at h;simp only at h|-;by_cases b:k.st=3
  ·grind
  ·grind
def Uz(h:mC w c F S)
  (D:∀U,M0 w U->K (gI (qU S n)) U):Ca pQ 267 #[fO c,gU n] w K:=by
 unfold fO;refine cN Tryz.func267 ?_
 have f:∀W v,(∃o,v=.pointer o)->∃a C,(iA 306 true (.tuple #[])).run pQ W=.ok (bO W.heap.size 0) a/\(iS 306 (bO W.heap.size 0) v).run pQ a=.ok () C/\
   hC C W.heap.size #[v] 306/\M0 W C:=λW v hv=>by
  obtain⟨o,rfl⟩:=hv;obtain⟨a,k⟩:=di (W.alloc (.cells #[.pointer none] 306));have B:M0 W a:=by rw[k];exact(aR.refl _ W).alloc _
  have T:hC a W.heap.size #[.pointer none] 306:=by rw[k];simp[go_sem]
  exact⟨a,a.setCell ⟨W.heap.size,0,none⟩ (.pointer o),by rw[k];simp[go_sem],by simp[go_sem,T],by simp[go_sem,T],B.on ((aR.refl (λx=>x=W.heap.size) a).sc) λx hx=>gr⟩
 refine vU h (λa P B=>?_) λi hi b M a hn L hg P B hc hl hF hbc=>?_
 ·refine dI ?_;refine dI ?_;obtain⟨C,u,E,G,I,t⟩:=f a (.pointer none) ⟨_,rfl⟩;apply bo E;apply iE G;refine dY P ?_;have g:=D _ (B.trans t);rw[xS P]at g;exact g
 ·refine dI ?_;refine dI ?_;obtain⟨C,u,E,G,I,t⟩:=f a (bO b (i*27)) ⟨_,rfl⟩;obtain⟨q,N⟩:=di a.heap.size;rw[<-N]at E G I;apply bo E;apply iE G;refine eU ?_;have M3:=B.trans t;have Q:=t.hpk hc id;have O:=hl.mod t d9
  have e0:qU S n=if S.day<S.l[i].spec.last\/S.l.any (E8 S.l[i])=true then 51 else 0:=by
   unfold qU;rw[hg];simp only;rw[aa L]
  rw[e0]at D;have md:M0 u u.drew:=vz;have r:=md.hpk Q id;have m:AH u.drew (.slice (some ⟨b,0,none⟩) S.l.length M) S.l:=O.mod md d9;have j:=md.hpk I id;have Md:=M3.trans md;refine cT.at (λst W=>st=(.bool (decide (S.day<S.l[i].spec.last\/S.l.any (E8 S.l[i])=true)),())/\M0 w W) ?_ ?_
  ·obtain⟨b',V,rest,J,Z,Y,X,A⟩:=m.item hi;cases J;have z:=A 23 qZ;rw[Wu]at z;simp only[fO,bU];generalize u.drew=w4 at md r m j Md Y X|-;refine sB ?_;refine AV r ?_;refine AV j ?_;simp only[bU];refine qP1 bK ?_;refine qP1 bK ?_;refine qW2 X z ?_;by_cases d:S.day<S.l[i].spec.last
   ·refine JC d ?_;exact⟨by simp[d],Md⟩
   ·refine Kf d ?_;refine sB ?_;refine AV r ?_;refine CQ (l:=S.l) (p:=E8 S.l[i]) m.rd (by have:=h.len;omega) ⟨_,_,rfl,λy hy W s K' R=>?_⟩ λw5 m5=>?_
    ·exact QR (s.hpk j id) (Y.mod s id) R
    ·refine⟨?_,Md.trans m5⟩
     have e:decide (S.day<S.l[i].spec.last\/S.l.any (E8 S.l[i])=true)=S.l.any (E8 S.l[i]):=by
      rw[dh,decide_eq_true_iff];exact⟨λh=>h.resolve_left d,.inr⟩
     rw[e]
  rintro _ W ⟨rfl,s⟩;refine kR ?_;intro _;by_cases H:S.day<S.l[i].spec.last\/S.l.any (E8 S.l[i])=true
  ·rw[oB H];have g:=D _ s;rw[ae H]at g;exact g
  ·rw[ay,aa (by grind)];have g:=D _ s;rw[aa H]at g;exact g
def fG(S:oR)(n:Int):Int×oR:=if qU S n≠0 then(qU S n,S)else(0,⟨S.day,iu S.l n λk=>{k with st:=3}⟩)
def BK(h:qU S n=0):bG S.l n=0:=by
 apply aQ;intro a;rw[xS a]at h;exact a h
def Kn(h:mC w c F S)
  (a:∀r,mC r c F (fG S n).2->aR F w r->K (gI (fG S n).1) r):Ca pQ 209 #[fO c,gU n] w K:=by
 unfold fO;refine cN Tryz.func209 ?_;refine Uz h λU u=>?_;have A:=h.mod u d9;unfold fG at a;by_cases d:qU S n=0
 ·rw[aa (by simpa using d)]at a;rw[d];refine eU ?_;refine vU A (λp H D=>absurd (BK d) H) λi q b N p E L R H D P C B g=>?_;refine dI ?_;refine dI ?_;refine lh ?_;simp only[bU];obtain⟨Q,y,rest,s,I,T,J,m⟩:=C.item q;cases s;have o:=m 25 qZ;rw[C7]at o;refine dN bK ?_;refine qU2 J o ?_;have V:=C.set1 q (j:=25) qZ (v:=gB 3) rfl (EQ _ _);have G:aR (λz=>z=b) p (p.setCell ⟨b,i*27+25,none⟩ (gB 3)):=(aR.refl (λz=>z=b) p).sc;have t:=pU (l:=S.l) (n:=n) (f:=λk=>{k with st:=3}) (λk M _=>⟨AM (h.ok k M) qZ,rfl⟩) h.ok h.srt;rw[oK h.srt q E]at t;rw[oK h.srt q E]at a;exact a _ (mC.turn (by rw[bN];exact G.hpk P λe=>g e.symm) (by grind) B g (by rw[bN];exact h.len) h.day t.1 t.2.1) (((u.trans D).to).trans (G.mono λx _ O=>(B x).2 (.inr O)))
 ·rw[ae d]at a;refine dY d ?_;exact a _ A (u.to)
def Qk{W:Wt_}{k:Ct}{K:Value->World->Prop}(c:∀a,hC a W.heap.size (dA k).toArray jW->M0 W a->K (bO W.heap.size 0) a):
  rx pQ (uK jW) W λv b=>yS pQ (rS jW v (.agg (dA k).toArray)) b λa=>K v a:=by
 apply vL 26 Zy sI (bM k) ad0 (kH k);exact c _ (by simp[go_sem]) mG
def UF{b:Nat}{T:TypeId}:BB pQ (.func (.func 151) #[] #[.pointer (some ⟨b,0,none⟩)]) (S.l.map λk=>[.agg (dA k).toArray]) (λW=>hC W b #[fO c] T/\∃F,mC W c F S):=by
 refine⟨⟨_,_,_,rfl,?_⟩⟩;rintro y J Js W K ⟨g,F,x⟩ H j d f w;refine cN Tryz.func151 ?_;apply ao (fO c) W (by simp[go_sem,g,fO]);apply qn x;refine eU ?_;obtain⟨⟨sl,A,B,X,V⟩,Y,c6⟩:=id x;apply ao (fO c) W (by simp[go_sem,g,fO]);simp only[fO,bU];obtain⟨U,R,r,-⟩:=B.isSl;refine dN A ?_;refine NR sl A r ?_;refine wI (l:=S.l) B.rd qZ λs O t G P=>?_;obtain⟨sa,sc,v,-⟩:=t.isSl;apply iI (gI (S.l.length:Int)) O (by rw[v];simp[go_sem]);have u:=H _ _ G λb g=>⟨P b g,t.lt g⟩
 refine d8 (λst m=>∃i,i<=S.l.length/\st=(gI i,())/\J (aF s) i m/\AH m s S.l)
  (λst _=>match st.1 with| .int _ i=>S.l.length - i.toNat|_=>0) ⟨0,qZ,rfl,u,t⟩ ?_
 rintro⟨_,_⟩ m ⟨i,Z,⟨⟩,C,z⟩ Q o;refine lV ?_;intro _;by_cases e:i<S.l.length
 ·have h:(i:Int)<(S.l.length:Int):=qZ;refine dY h ?_;obtain⟨p,I,M⟩:=AH.ld z.rd e;apply bo I;apply kY M;refine Qk λE L D=>?_;apply fH (dA S.l[i]) 26 CP sI (bM _) (At.all L);have n:=z.mod D d9;refine d (aF s) i [.agg (dA S.l[i]).toArray] E (by simp[e]) (j _ _ _ _ C D) _ (λN a q=>?_) λN a=>?_
  ·refine eU ?_;apply VE i;exact o _ _ ⟨i+1,qZ,rfl,a,n.keep q⟩ (by grind)
  ·refine lh ?_;exact w _ a
 ·obtain rfl:i=S.l.length:=qZ;refine eU ?_;exact f _ m (by simpa using C)
def Ez(h:mC w c F S)
  (g:∀e a,pE e (S.l.map λk=>[.agg (dA k).toArray]) a->M0 w a->K e a):Ca pQ 51 #[fO c] w K:=by
 unfold fO;refine cN Tryz.func51 ?_;have d:M0 w (w.alloc (.cells #[fO c] 86)):=mG;apply ao (bO w.heap.size 0) (w.alloc (.cells #[fO c] 86)) (by simp[go_sem,fO]);have f:hC (w.alloc (.cells #[fO c] 86)) w.heap.size #[fO c] 86:=by simp[go_sem]
 exact g _ _ ⟨⟨_,QI (UF (c:=c) (b:=w.heap.size) (S:=S) (T:=86)),λW m=>⟨m.hpk f id,F,h.mod (d.trans m) d9⟩⟩,_,_,rfl⟩ d
def PB(s:Sp)(x p:Int):Tryz.prog.built jW [(0,.agg (eV s).toArray),(1,gB x),(2,gI p)]=some (dA ⟨s,x,p⟩).toArray:=by
 have h1:∀a,Tryz.prog.built jW a=Instr.fill (λi=>#[(0,25),(25,1),(26,1)][i]?) (jf pQ jW).toArray a:=λa=>by kernel_rfl
 rw[h1,Ju];rw[qi (off:=0) (size:=25) rfl (by show(eV s).toArray.size=25;rw[dv,br]) (by rw[bM];omega)];rw[qi (off:=25) (size:=1) rfl rfl (by rw[sg (by show 0+(eV s).length<=_;rw[br,bM];omega),bM];omega)];rw[qi (off:=26) (size:=1) rfl rfl (by rw[sg (by rw[sg (by show 0+(eV s).length<=_;rw[br,bM];omega),bM];show 25+1<=27;omega),sg (by show 0+(eV s).length<=_;rw[br,bM];omega),bM];omega)];rw[B6];congr 2
 have b:jp (dA CR) 0 (eV s)=eV s++[.int .u8 0,gI 0]:=by
  unfold jp;rw[cU,dL,br,dA,List.drop_left' (by rw[br])];rfl
 show jp (jp (jp (dA CR) 0 (eV s)) 25 [.int .u8 x]) 26 [.int .i64 p]=_;rw[b]
 have c:jp (eV s++[.int .u8 0,gI 0]) 25 [.int .u8 x]=eV s++[.int .u8 x,gI 0]:=by
  unfold jp;rw[List.take_left' (br s),nH,cn (by rw[br];simp),br];simp
 rw[c];unfold jp;rw[List.take_append,aC (by rw[br];omega),br,cn (by simp[br])];simp[dA]
def mK(s:Sp):Ct:=⟨s,1,s.first⟩
def fM(S:oR)(s:Sp):Int×oR:=
 if s.may=false then(2,S)else if(cj S.l s.num).isSome then(8,S)else if s.last<S.day then(51,S)else if 16<=S.l.length then(9,S)
 else(0,⟨S.day,S.l.take (iR S.l s.num)++mK s::S.l.drop (iR S.l s.num)⟩)
def D2(hs:nQ l)(z:∀k∈l,k.Ok){k:Ct}(t:k.Ok)(o:cj l k.spec.num=none):(∀x∈l.take (iR l k.spec.num)++k::l.drop (iR l k.spec.num),x.Ok)/\nQ (l.take (iR l k.spec.num)++k::l.drop (iR l k.spec.num))/\iR l k.spec.num<=l.length:=by
 have e:l.take (iR l k.spec.num)=l.takeWhile λx=>decide (x.spec.num<k.spec.num):=by
  unfold iR;have h1:l.takeWhile (λx=>decide (x.spec.num<k.spec.num))++l.dropWhile (λx=>decide (x.spec.num<k.spec.num))=l:=List.takeWhile_append_dropWhile
  conv=>lhs;rw[<-h1];arg 1;rw[h1]
  rw[dU]
 have u:l.drop (iR l k.spec.num)=l.dropWhile λx=>decide (x.spec.num<k.spec.num):=by
  unfold iR;have h1:l.takeWhile (λx=>decide (x.spec.num<k.spec.num))++l.dropWhile (λx=>decide (x.spec.num<k.spec.num))=l:=List.takeWhile_append_dropWhile
  conv=>lhs;rw[<-h1];arg 1;rw[h1]
  rw[da]
 have d:iR l k.spec.num<=l.length:=(List.takeWhile_sublist _).length_le
 have h:∀x∈l.take (iR l k.spec.num),x.spec.num<k.spec.num:=λx c=>by
  rw[e]at c;have:=List.all_takeWhile (l:=l) (p:=λx:Ct=>decide (x.spec.num<k.spec.num));simpa using bg.1 this x c
 have g:∀x∈l.drop (iR l k.spec.num),k.spec.num<x.spec.num:=λx c=>by
  have s:x.spec.num≠k.spec.num:=λi=>by
   unfold cj at o;have:=dZ.1 o x (gY c);simp[i]at this
  have q:¬x.spec.num<k.spec.num:=λi=>by
   by_cases r:iR l k.spec.num<l.length
   ·have f:¬l[iR l k.spec.num].spec.num<k.spec.num:=by
     have m:(l.drop (iR l k.spec.num))[0]? =some l[iR l k.spec.num]:=by grind
     rw[u]at m;have h1:=List.head?_dropWhile_not (λx:Ct=>decide (x.spec.num<k.spec.num)) l;rw[List.head?_eq_getElem?,m]at h1;simpa using h1
    obtain⟨j,y,rfl⟩:=bQ c;rw[List.getElem_drop]at i;rw[bC]at y;by_cases v:j=0
    ·grind
    ·have:=bP.1 hs (iR l k.spec.num) (iR l k.spec.num+j) r qZ qZ;omega
   ·grind
  omega
 refine⟨λx c=>?_,?_,d⟩
 ·rcases bf.1 c with c|c
  ·grind
  ·rcases ax.1 c with rfl|c
   ·exact t
   ·grind
 ·unfold nQ;rw[dt,bY];refine⟨hs.sublist (List.take_sublist _ _),⟨g,hs.sublist (List.drop_sublist _ _)⟩,λa w b n=>?_⟩;rcases ax.1 n with rfl|n
  ·exact h a w
  ·grind
def Sp.may_price{s:Sp}(h:s.may=true):s.isPrice s.first=true:=by
 unfold Sp.isPrice;rw[h];unfold Sp.may at h;simp only[ai]at h;simpa using h.2
def Q4{s:Sp}(h:mC w c F S)(P:s.Fit)
  (J:∀F' Y,mC Y c F' (fM S s).2->aR F w Y->(∀x,F' x->F x\/w.heap.size<=x)->K (gI (fM S s).1) Y):Ca pQ 134 #[fO c,.agg (eV s).toArray] w K:=by
 unfold fO;refine cN Tryz.func134 ?_;obtain⟨w1,e1,L,m1⟩:=DU s w;apply bo e1;obtain⟨p,hp0⟩:=di w.heap.size;rw[<-hp0]at L|-;have h1:=h.mod m1 d9;have B:∀{W W' :Wt_},M0 W W' ->aR F W W' :=λm=>m.to
 have bad:∀e W,fM S s=(e,S)->M0 w W->K (gI e) W:=λe W he m=>by
  rw[he]at J;exact J F W (h.mod m d9) (B m) λx f=>.inl f
 apply qn h1;refine eU ?_;apply fH (eV s) 24 zi we (br s) (At.all L);refine qF P λw2 X=>?_;have M2:=m1.trans X;have b2:=X.hpk L id;cases a:s.may with
 |false=>
  refine lh ?_;exact bad 2 w2 (by unfold fM;rw[ae a]) M2
 |true=>
  refine eU ?_;refine dI ?_;refine nS b2 QE ?_;have q2:=h1.mod X d9;refine I6 q2 λy U=>?_;have M3:=M2.trans U;have b3:=U.hpk b2 id;refine dI ?_;refine dI ?_;cases z:cj S.l s.num with
  |some k=>
   rw[show(some k).isSome=true from rfl,ay,ae rfl];exact bad 8 y (by unfold fM;rw[aa (by simp[a]),z];rfl) M3
  |none=>
   rw[show(none:Option Ct).isSome=false from rfl,ay,aa dp];have q3:=q2.mod U d9;obtain⟨⟨sl,h1,h2,h3,h4⟩,h5,h6,h7,h8⟩:=q3;obtain⟨sa,sc,l,-⟩:=h2.isSl;have md:M0 y y.drew:=vz;have I:=md.hpk h1 id;have b4:=md.hpk b3 id;have l4:AH y.drew sl S.l:=h2.mod md d9;have G:=M3.trans md;generalize y.drew=r at md I b4 l4 G|-;refine sB ?_;refine qW2 b4 Dr ?_;simp only[fO,bU];refine sB ?_;refine AV I ?_;by_cases d:s.last<S.day
   ·refine JC d ?_;exact bad 51 r (by unfold fM;rw[aa (by simp[a]),z,aa (by simp),ae d]) G
   ·refine Kf d ?_;refine dI ?_;refine NR sl I l ?_;apply iI (gI (S.l.length:Int)) r (by rw[l];simp[go_sem]);by_cases n:16<=S.l.length
    ·have g:(16:Int)<=(S.l.length:Int):=qZ;refine dY g ?_;exact bad 9 r (by unfold fM;rw[aa (by simp[a]),z,aa (by simp),aa d,ae n]) G
    ·have g:¬(16:Int)<=(S.l.length:Int):=qZ;refine fF g ?_;have j:M0 r r.drew:=vz;have Z:=j.hpk I id;have M:=j.hpk b4 id;have N:AH r.drew sl S.l:=l4.mod j d9;have M5:=G.trans j;generalize r.drew=u at j Z M N M5|-;refine sB ?_;refine YX sl Z l ?_;apply kA (eV s) 24 zi we (br s) (At.all M);apply cx (λ_=>by simp[-Int.natCast_add,go_sem]<;>first|exact xg|exact rfl);apply YX (gI s.first) M ae7;refine DM (cells:=(dA (mK s)).toArray) ?_ ?_
     ·exact PB s 1 s.first
     refine nI [.agg (dA (mK s)).toArray] qM (dB eCt) rfl rfl (by intro v hv;rw[cm.1 hv];show(dA (mK s)).toArray.size=27;rw[dv,bM]) qZ ?_;have e0:(([.agg (dA (mK s)).toArray]:LV_).flatMap (·.cells.toList)).toArray=(dA (mK s)).toArray:=by simp[Value.cells]
     rw[e0];have E:M0 u (u.alloc (.cells (dA (mK s)).toArray jW)):=mG
     have V:AH (u.alloc (.cells (dA (mK s)).toArray jW)) (.slice (some ⟨u.heap.size,0,none⟩) 1 1) [mK s]:=
      ⟨by simp[bM],.inr ⟨_,1,[],rfl,by simp,by rw[er,ae rfl];simp,by simp,rfl⟩⟩
     obtain⟨q,O⟩:=di u.heap.size;rw[<-O]at V|-;generalize u.alloc (.cells (dA (mK s)).toArray jW)=w6 at E V|-;have R:=E.hpk Z id;have l6:AH w6 sl S.l:=N.mod E d9;refine⟨by simp[go_sem,R,l],?_⟩;have t:=D2 h8 h7 (k:=mK s) ⟨⟨P,⟨by show(0:Int)<=1;omega,by show(1:Int)<256;omega⟩,P.2.2.2.2.2.2.2.2.2⟩,a,Sp.may_price a,by show(1:Int)<=1;omega,by show(1:Int)<=3;omega⟩ z;refine Gn (o:=mK s) (i:=iR S.l s.num) l6 V (λb hb Q=>?_) t.2.2 qZ λC D o7 m7 n7=>?_
     ·have:=N.lt hb;have:b=q:=by cases Q;rfl
      omega
     have c7:=m7.hpk R λf=>h4 f;obtain⟨ta,tc,T,-⟩:=o7.isSl;apply cx (λ_=>by simp[-Int.natCast_add,go_sem]<;>first|exact xg|exact rfl);apply nE (D.setCell ⟨c,2,none⟩ C) (by rw[T];simp[go_sem,c7]);have mv:aR (λx=>x=c) D (D.setCell ⟨c,2,none⟩ C):=(aR.refl (λx=>x=c) D).sc
     have e:fM S s=(0,⟨S.day,S.l.take (iR S.l s.num)++mK s::S.l.drop (iR S.l s.num)⟩):=by
      unfold fM;rw[aa (by simp[a]),z,aa (by simp),aa d,aa n]
     rw[e]at J;have hM:=M5.trans E;have hsM:=hM.size;have hcs:c<w6.heap.size:=aB R
     have A:¬aF C c:=λf=>by
      rcases n7 c f with H|H
      ·exact h4 H
      ·omega
     refine J (λx=>x=c\/aF C x) _ ⟨⟨C,by simp[go_sem,c7],o7.mod mv λx f e=>A (e▸f),λx=>aG,A⟩,?_,h6,t.1,t.2.1⟩ ((((B hM).on m7 λx f=>.inl ((h3 x).2 (.inr f)))).on mv λx f=>.inl ((h3 x).2 (.inl f))) λx f=>?_
     ·grind
     ·rcases f with rfl|f
      ·grind
      ·rcases n7 x f with H|H
       ·grind
       ·exact gr
end Go.Proofs
namespace Go.Proofs
open Go Go.Vc
attribute [local congr] bj
def YR:nj pQ 48=true:=cV
def Yf:(jf pQ 48).length=24+1:=cV
def ad1{W:Wt_}{s:Sp}{K:Value->World->Prop}(c:∀a,hC a W.heap.size (eV s).toArray 48->M0 W a->K (bO W.heap.size 0) a):
  rx pQ (uK 48) W λv b=>yS pQ (rS 48 v (.agg (eV s).toArray)) b λa=>K v a:=by
 apply vL 24 YR we (br s) Yf (qw s);exact c _ (by simp[go_sem]) mG
def QT{g:Gt}{w:Wt_}{K:aZ}(v:g.Fit)
  (hK:∀M,M0 w M->K (gI g.check) M):Ca pQ 271 #[.agg (ze g).toArray] w K:=by
 refine cN Tryz.func271 ?_;obtain⟨I,e1,z,m1⟩:=Wj g w;apply bo e1;obtain⟨p,G⟩:=di w.heap.size;rw[<-G]at z|-
 have A1:At I p 0 (eV g.k.spec):=by
  have:=(At.all z).sub 0 25 (by rw[xO];omega);rw[dW,ze,dA,ar,aO (by rw[br];omega),aC (by rw[br];omega)]at this;exact this
 refine dI ?_;refine dI ?_;apply fH (eV g.k.spec) 24 zi we (br _) A1;refine ad1 λj i L=>?_;obtain⟨q,B⟩:=di I.heap.size;rw[<-B]at i|-;have M2:=m1.trans L;have b:=L.hpk z id
 have fin:∀(e:Int) (W:Wt_),g.check=e->M0 j W->K (gI e) W:=λe W he m=>by
  rw[<-he];exact hK _ (M2.trans m)
 refine dI ?_;refine dI ?_;refine nS b ah8 ?_;cases y:g.a.dfl with
 |true=>
  rw[kJ];exact fin 120 j (by unfold Gt.check;rw[y];rfl) rZ
 |false=>
 rw[jO];refine dI ?_;refine dI ?_;refine nS b am0 ?_;cases Q:g.a.kil with
 |true=>
  rw[kJ];exact fin 121 j (by unfold Gt.check;rw[y,Q];rfl) rZ
 |false=>
 rw[jO];refine dI ?_;refine dI ?_;refine nS b YC ?_
 have a:g.check=if g.k.st=3 then 50 else if g.k.st=2 then 122
  else if g.k.st≠1\/¬g.k.spec.isPrice g.k.price\/¬aY g.buys 0 1000000000\/¬aY g.sells 0 1000000000\/¬aY g.q (-MP) MP then 2
  else if¬g.k.spec.isQty g.qty then 123 else if¬g.k.spec.isPrice g.price then 52 else if¬g.k.spec.inBand g.k.price g.price then 124 else if g.far then 125 else 0:=by
  unfold Gt.check;rw[y,Q];rfl
 by_cases x:g.k.st=3
 ·refine dY x ?_;exact fin 50 j (by rw[a,ae x]) rZ
 refine fF x ?_;refine dI ?_;refine dI ?_;refine nS b YC ?_;by_cases A:g.k.st=2
 ·refine dY A ?_;exact fin 122 j (by grind) rZ
 refine fF A ?_;rw[aa x,aa A]at a;obtain⟨P,h⟩:=di (decide (g.k.st≠1\/¬g.k.spec.isPrice g.k.price=true\/¬aY g.buys 0 1000000000=true\/¬aY g.sells 0 1000000000=true\/¬aY g.q (-MP) MP=true):Bool);have d:=v.1.1;refine cT.at (λst W=>st=(.bool P,())/\M0 j W) ?_ ?_
 ·refine dI ?_;refine dI ?_;refine nS b YC ?_;by_cases h1:g.k.st=1
  ·refine dN h1 ?_;rw[jO];apply fH (eV g.k.spec) 24 zi we (br _) (At.all i);refine dI ?_;refine dI ?_;refine nS b ab3 ?_;refine qk d λw3 l=>?_;have D:=l.hpk b id;cases k:g.k.spec.isPrice g.k.price with
   |false=>
    refine dI ?_;rw[kJ];exact⟨by rw[h,k];simp,l⟩
   |true=>
    refine dI ?_;rw[jO];refine dI ?_;refine nS D Zd ?_;apply Is;cases o:aY g.buys 0 1000000000 with
    |false=>
     refine dI ?_;rw[kJ];exact⟨by rw[h,o];simp,l⟩
    |true=>
     refine dI ?_;rw[jO];refine dI ?_;refine nS D ab4 ?_;apply Is;cases n:aY g.sells 0 1000000000 with
     |false=>
      refine dI ?_;rw[kJ];exact⟨by rw[h,n];simp,l⟩
     |true=>
      refine dI ?_;rw[jO];refine dI ?_;refine nS D XI ?_;apply gM v.2.1 qZ;refine dI ?_;exact⟨by rw[h,k,o,n];simp[h1,MP],l⟩
  ·refine wL (.bool true) h1 ?_;rw[kJ];exact⟨by rw[h];simp[h1],rZ⟩
 rintro _ W ⟨rfl,u⟩;refine kR ?_;intro _;have b:=u.hpk b id;have i:=u.hpk i id;cases t:P with
 |true=>
  rw[kJ];rw[t]at h;exact fin 2 W (by grind) u
 |false=>
 rw[jO];rw[t]at h;have s:=of_decide_eq_false h.symm;rw[aa s]at a
 have c:g.k.spec.isPrice g.k.price=true/\aY g.buys 0 1000000000=true/\aY g.sells 0 1000000000=true/\aY g.q (-MP) MP=true:=by
  refine⟨?_,?_,?_,?_⟩<;>apply aQ<;>intro hc<;>apply s
  ·exact .inr (.inl hc)
  ·grind
  ·grind
  ·grind
 apply fH (eV g.k.spec) 24 zi we (br _) (At.all i);refine dI ?_;refine nS b XV ?_;refine HX d λY H=>?_;have S:=H.hpk b id;have V:=H.hpk i id;have X:=u.trans H;cases R:g.k.spec.isQty g.qty with
 |false=>
  refine lh ?_;exact fin 123 Y (by grind) X
 |true=>
 refine eU ?_;rw[aa (by rw[R];simp)]at a;apply fH (eV g.k.spec) 24 zi we (br _) (At.all V);refine dI ?_;refine nS S ZS ?_;refine qk d λw5 F=>?_;have E:=F.hpk S id;have Z:=F.hpk V id;have N:=X.trans F;cases hp:g.k.spec.isPrice g.price with
 |false=>
  refine lh ?_;exact fin 52 w5 (by grind) N
 |true=>
 refine eU ?_;rw[aa (by rw[hp];simp)]at a;apply fH (eV g.k.spec) 24 zi we (br _) (At.all Z);refine dI ?_;refine dI ?_;refine nS E ab3 ?_;refine dI ?_;refine nS E ZS ?_;refine NI d v.1.2.2 v.2.2.2.2.1 λw6 J=>?_;have c6:=J.hpk E id;have C:=N.trans J;cases hb:g.k.spec.inBand g.k.price g.price with
 |false=>
  refine lh ?_;exact fin 124 w6 (by grind) C
 |true=>
 refine eU ?_;rw[aa (by rw[hb];simp)]at a;apply fH (ze g) 36 aGt nGt (xO g) (At.all c6);have f:=R;unfold Sp.isQty at f;simp only[ai]at f;have r:=Sp.may_tick f.1;refine Tl c.2.2.2 c.2.1 c.2.2.1 f.2.1 ⟨r.2.2.2.1,r.2.2.2.2.1⟩ λO T=>?_;cases U:g.far with
 |true=>
  rw[kJ];exact fin 125 O (by grind) (C.trans T)
 |false=>
  rw[jO];exact fin 0 O (by grind) (C.trans T)
end Go.Proofs
namespace Go.Proofs
open Go Go.Vc
attribute [local congr] bj
def t8(x:Int):List Value:=[.int .i64 x]
def oY(x:Int):(t8 x).length=1:=rfl
def vA(x:Int):(t8 x).all (·.oneCell')=true:=rfl
def xQ:Tryz.prog.underlying 297=some (.slice 2):=cV
def VN:fY pQ 2 1 8=true:=cV
def Kb{α:Type}{f:α->List Value}(r:∀x,(f x).length=1){w:Wt_}{v:Vt_}{n:Nat}{l:List α}(h:Rd w 1 v n (l.flatMap f))(y:n=l.length){t e:TypeId}(s:Tryz.prog.underlying t=some (.slice e))(z:Tryz.prog.cellsOf e=0+1){i:Nat}(hi:i<l.length){x:Vt_}(u:f l[i]=[x]):
  ∃b a,(∀k:IntKind,(iX t v (.int k (i:Int))).run pQ w=.ok (bO b a) w)/\∃C g d,hp w b=some (.cells C g d)/\C[a]? =some x:=by
 obtain⟨b,a,p,c,m,q⟩:=h.item r hi y;obtain⟨C,g,d,hC,o⟩:=q.get;have A:=o 0 x (by rw[u];rfl);refine⟨b,a+i*1,λk=>?_,C,g,d,bT hC,by grind⟩;have j:i<n:=qZ;rw[c];simp[go_sem,j,bK,s,Program.elem,Go.Vc.lI z]
def ZJ(x y:Int)(b:0<=x)(a:0<=y)(w:Wt_):(callFunc 350 #[.int .u64 x,gQ y,gQ 0]).run pQ w=.ok (.value (.tuple #[.int .u64 ((x+y)%18446744073709551616),gQ ((x+y) / 18446744073709551616)])) w:=by
 rw[run_callFunc_extern Tryz.func350 cV cV cV (e:=add64Entry) cV,run_add64 x y 0 b a qZ qZ];simp only[Result.andThen,iq]
def tC(l:List Int):Int×Int:=if ed l.sum then(l.sum,0)else(0,6)
def Eh{w:Wt_}{K:aZ}{s:Vt_}{l:List Int}(h:Rd w 1 s l.length (l.flatMap t8))(V:l.length<=1000000)(I:∀x∈l,ed x)
  (q:K (.tuple #[.int .i64 (tC l).1,gI (tC l).2]) w):Ca pQ 302 #[s] w K:=by
 refine cN Tryz.func302 ?_;obtain⟨a,c,L⟩:=h.isSl;apply iI (gI (l.length:Int)) w (by rw[L];simp[go_sem])
 refine d8 (λst W=>∃(i:Nat) (d e:Int),i<=l.length/\st=(gQ d,gI e,gI i,())/\W=w/\0<=d/\d<18446744073709551616/\d+18446744073709551616*e=(l.take i).sum/\ -(i:Int)<=e/\e<=(i:Int))
  (λst _=>match st.2.2.1 with| .int _ i=>l.length - i.toNat|_=>0) ⟨0,0,0,qZ,rfl,rfl,qZ,qZ,by simp,by simp,by simp⟩ ?_
 rintro⟨_,_,_,_⟩ W ⟨i,d,e,M,⟨⟩,rfl,h1,Q,E,S,T⟩ P A;refine lV ?_;intro _;by_cases f:i<l.length
 ·have p:(i:Int)<(l.length:Int):=qZ;refine dY p ?_;obtain⟨b,H,O,C,U,R,hC,D⟩:=Kb oY h rfl xQ cV f rfl;apply bo (O .i64);refine nS hC D ?_;have N:=I l[i] (aq f);obtain⟨x,m⟩:=di (l[i]);rw[<-m]at N|-;obtain⟨u,J⟩:=di (if x<0 then x+18446744073709551616 else x:Int);have z:0<=u/\u<18446744073709551616:=by grind
  apply ao (gQ u) W (by simp[go_sem];rw[IntKind.wrap_u64,J];split<;>omega);refine⟨?_⟩;apply uz (ZJ d u h1 z.1 W);refine dI ?_;refine dI ?_;obtain⟨g,o⟩:=di (if x<0 then -1 else 0:Int)
  have j:x / 9223372036854775808=g:=by
   rw[o];split<;>omega
  refine nS jx j ?_;obtain⟨t,B⟩:=di ((d+u) / 18446744073709551616);rw[<-B];apply ao (gI t) W (by simp[go_sem];rw[mR]);apply ao (gI (g+t)) W (by simp[go_sem];rw[mR]);apply ao (gI (e+(g+t))) W (by simp[go_sem];rw[mR]);apply ao (gI ((i+1:Nat):Int)) W (by simp[go_sem];rw[mR]);refine A _ _ ⟨i+1,(d+u)%18446744073709551616,e+(g+t),qZ,rfl,rfl,qZ,qZ,?_,qZ,qZ⟩ (by grind);rw[bR f,fU,<-E];simp only[bH,List.sum_nil,iq];rw[<-m];by_cases G:x<0
  ·grind
  ·grind
 ·obtain rfl:i=l.length:=qZ;refine eU ?_;rw[aK]at E;obtain⟨v,y⟩:=di (if d<9223372036854775808 then d else d - 18446744073709551616:Int);have n:IntKind.i64.wrap d=v:=by rw[bV,y];split<;>omega
  obtain⟨g,o⟩:=di (if d<9223372036854775808 then 0 else -1:Int)
  have j:v / 9223372036854775808=g:=by
   rw[o,y];split<;>omega
  refine dN n ?_;refine nS jx j ?_
  have F:e=g↔ed l.sum:=by
   by_cases k:d<9223372036854775808
   ·rw[ae k]at o y;constructor
    ·grind
    ·grind
   ·rw[aa k]at o y;constructor
    ·grind
    ·grind
  unfold tC at q;by_cases r:e=g
  ·have:decide (e≠g)=false:=by simp[r]
   refine fF r ?_;refine dN n ?_;rw[ae (F.1 r)]at q
   have:v=l.sum:=by
    by_cases k:d<9223372036854775808
    ·grind
    ·grind
   rw[this];exact q
  ·refine dY r ?_;rw[aa (λh=>r (F.2 h))]at q;exact q
end Go.Proofs
namespace Go.Proofs
open Go Go.Vc Go.Shelf
attribute [local congr] bj
variable {y y1 y0 r0 u:Nat}
def Tryz.lays264_ren:Ren:=⟨λ|264=>355|n=>n,λ|53=>37|46=>263|n=>n,λ|n=>n⟩
def Tryz.lays264:Lays.n264 pQ Tryz.lays264_ren:=by constructor<;>exact dk_
def Tryz.lays134_ren:Ren:=⟨λ|134=>377|129=>294|n=>n,λ|53=>37|3=>3|4=>4|46=>263|5=>5|9=>9|n=>n,λ|n=>n⟩
def Tryz.lays134:Lays.n134 pQ Tryz.lays134_ren:=by constructor<;>exact dk_
def Py{x:Nat}(f:x<18446744073709551616)(c:y<18446744073709551616){w:Wt_}{K:aZ}(d:K (.tuple #[.int .u64 ((x*y / 18446744073709551616:Nat):Int),gQ ((x*y%18446744073709551616:Nat):Int)]) w):Ca pQ 355 #[.int .u64 (x:Int),gQ (y:Int)] w K:=by
 show Ca pQ (Tryz.lays264_ren.f 264) _ _ _;exact⟨jI (Any.bits_Mul64 Tryz.lays264 x y f c w) λe g ⟨b,a⟩=>⟨_,b,by subst a;exact d⟩⟩
def UJ{x:Nat}(f:x<18446744073709551616){w:Wt_}{K:aZ}(c:K (gI (64 - (Lib.bitLen x:Int))) w):Ca pQ 377 #[.int .u64 (x:Int)] w K:=by
 show Ca pQ (Tryz.lays134_ren.f 134) _ _ _;exact⟨jI (Any.bits_LeadingZeros64 Tryz.lays134 (x:Int) w qZ qZ) λe d ⟨b,a⟩=>⟨_,b,by subst a;simpa using c⟩⟩
structure IE(y1 y0 r0 u q r:Nat):Prop where
 eq:q*y1+r=r0
 ge:(r0*4294967296+u) / (y1*4294967296+y0)<=q
 le:q<=4294967297
section
variable{y1 y0 r0 u q r:Nat}
def IE.mulE(h:IE y1 y0 r0 u q r):q*(y1*4294967296+y0)=q*y1*4294967296+q*y0:=by
 rw[mJ,gR]
def IE.exit(h:IE y1 y0 r0 u q r)(a:0<y1*4294967296+y0)(b:q*y0<=4294967296*r+u):q=(r0*4294967296+u) / (y1*4294967296+y0):=by
 have e:=h.mulE;have c:=h.eq;exact Nat.le_antisymm ((Nat.le_div_iff_mul_le a).2 (by rw[e];omega)) h.ge
def IE.step(h:IE y1 y0 r0 u q r)(c:r0<y1*4294967296+y0)(j:u<4294967296)(d:4294967296<=q\/4294967296*r+u<q*y0):1<=q/\IE y1 y0 r0 u (q - 1) (r+y1)/\q - 1<=4294967296:=by
 have e:=h.mulE;have f:=h.eq;have g:=h.le;have i:(r0*4294967296+u) / (y1*4294967296+y0)<4294967296:=Nat.div_lt_of_lt_mul qZ
 have a:(r0*4294967296+u) / (y1*4294967296+y0)<q:=by
  rcases d with h1|h1
  ·omega
  ·exact(gw (show 0<y1*4294967296+y0 by omega)).2 (by rw[e];omega)
 have b:1<=q:=fk (aH _) a;obtain⟨k,rfl⟩:∃k,q=k+1:=⟨q - 1,qZ⟩
 refine⟨qZ,⟨?_,by simpa using Nat.le_of_lt_succ a,qZ⟩,qZ⟩;rw[ot]at f;simp only[jT];omega
def IE.brk(b:q<=4294967296)(c:4294967296<=r)(a:y0<4294967296):q*y0<=4294967296*r+u:=by
 have:=fT b (Nat.le_of_lt a);omega
def IE.init(d:2147483648<=y1)(g:y0<4294967296)(h:u<4294967296)(b:r0<y1*4294967296+y0):IE y1 y0 r0 u (r0 / y1) (r0 - r0 / y1*y1):=by
 have h1:=jH r0 y1;refine⟨qZ,?_,?_⟩
 ·obtain⟨Q,c⟩:=di ((r0*4294967296+u) / (y1*4294967296+y0));have a:=jH (r0*4294967296+u) (y1*4294967296+y0);rw[<-c]at a|-;have e:Q*(y1*4294967296+y0)=Q*y1*4294967296+Q*y0:=by rw[mJ,gR]
  rw[e]at a;exact(Nat.le_div_iff_mul_le (show 0<y1 by omega)).2 qZ
 ·have f:r0<4294967298*y1:=qZ;exact Nat.le_of_lt_succ ((gw (show 0<y1 by omega)).2 f)
end
def yq(n:Nat)(h:n<18446744073709551616):IntKind.u64.wrap (n:Int)=(n:Int):=ly qZ qZ
def Ae(y1 y0 r0 u:Nat):Nat:=(r0*4294967296+u) / (y1*4294967296+y0)
def ae5(g:2147483648<=y1)(o:y1<4294967296)(f:y0<4294967296)(m:u<4294967296)(e:r0<y1*4294967296+y0){w:Wt_}{J:Value×Value×Unit->World->Prop}
  (n:∀x,J (gQ ((Ae y1 y0 r0 u:Nat):Int),x,()) w):oJ (S:=Value×Value×Unit) (Qn (gQ (y0:Int)) (gQ (u:Int)) (gQ (y1:Int)) J) (gQ ((r0 / y1:Nat):Int),gQ ((r0 - r0 / y1*y1:Nat):Int),()) w:=by
 have t:=IE.init g f m e
 have c:r0 - r0 / y1*y1<4294967296:=by
  have h1:r0 - r0 / y1*y1=r0%y1:=by rw[Nat.mod_eq_sub_mul_div,eA]
  rw[h1];have:=gx r0 (show 0<y1 by omega);omega
 refine d8 (λst W=>∃q r:Nat,st=(gQ (q:Int),gQ (r:Int),())/\W=w/\IE y1 y0 r0 u q r/\r<4294967296)
  (λst _=>match st.1 with| .int _ q=>q.toNat|_=>0) ⟨_,_,rfl,rfl,t,c⟩ ?_
 rintro⟨_,_,_⟩ W ⟨q,r,⟨⟩,rfl,j,C⟩ A h;unfold Qn;intro _;have B:=j.le;refine cT.at (λst b=>st=(.bool (decide (4294967296<=q\/4294967296*r+u<q*y0)),())/\b=W) ?_ ?_
 ·by_cases d:4294967296<=q
  ·have a:(4294967296:Int)<=(q:Int):=qZ;refine bo (v:=.bool true) (by simp[go_sem,a]<;>first|exact⟨rfl,rfl⟩|exact rfl) ?_;rw[kJ];exact⟨by simp[d],rfl⟩
  ·have a:¬(4294967296:Int)<=(q:Int):=qZ;refine bo (v:=.bool false) (by simp[go_sem,a]<;>first|exact⟨rfl,rfl⟩|exact rfl) ?_;rw[jO];have y:q*y0<18446744073709551616:=fk (fT (show q<=4294967295 by omega) (show y0<=4294967295 by omega)) qZ;have s:4294967296*r+u<18446744073709551616:=qZ;refine ao (gQ ((q*y0:Nat):Int)) W (by simp only[go_sem];simp;rw[<-eO,yq _ y]) ?_;refine ao (gQ ((4294967296*r:Nat):Int)) W (by simp only[go_sem];simp;rw[ly qZ qZ]) ?_;refine ao (gQ ((4294967296*r+u:Nat):Int)) W (by simp only[go_sem];simp;rw[ly qZ qZ]) ?_;refine ao (.bool (decide (4294967296*r+u<q*y0))) W (by simp only[go_sem];simp;omega) ?_;exact⟨by simp[d],rfl⟩
 rintro _ b ⟨rfl,rfl⟩;unfold SD;intro _;by_cases i:4294967296<=q\/4294967296*r+u<q*y0
 ·rw[oB i];obtain⟨s1,l,z⟩:=j.step e m i;refine ao (gQ ((q - 1:Nat):Int)) b (by simp only[go_sem];simp;rw[ly qZ qZ];omega) ?_;refine ao (gQ ((r+y1:Nat):Int)) b (by simp only[go_sem];simp;rw[ly qZ qZ]) ?_;by_cases k:4294967296<=r+y1
  ·have p:(4294967296:Int)<=((r+y1:Nat):Int):=qZ;refine ao (.bool true) b (by simp only[go_sem];simp;omega) ?_;rw[kJ];have:=l.exit qZ (IE.brk z k f);rw[this];exact n _
  ·refine ao (.bool false) b (by simp only[go_sem];simp;omega) ?_;rw[jO];exact h _ _ ⟨q - 1,r+y1,rfl,rfl,l,qZ⟩ (by show(((q - 1:Nat):Int)).toNat<((q:Int)).toNat;omega)
 ·rw[JP i];have:=j.exit qZ qZ;rw[this];exact n _
def ab9(g:2147483648<=y1)(o:y1<4294967296)(f:y0<4294967296)(m:u<4294967296)(e:r0<y1*4294967296+y0){w:Wt_}{J:Value×Value×Unit->World->Prop}
  (n:∀x,J (gQ ((Ae y1 y0 r0 u:Nat):Int),x,()) w):oJ (S:=Value×Value×Unit) (Qy (gQ (y0:Int)) (gQ (u:Int)) (gQ (y1:Int)) J) (gQ ((r0 / y1:Nat):Int),gQ ((r0 - r0 / y1*y1:Nat):Int),()) w:=by
 have t:=IE.init g f m e
 have c:r0 - r0 / y1*y1<4294967296:=by
  have h1:r0 - r0 / y1*y1=r0%y1:=by rw[Nat.mod_eq_sub_mul_div,eA]
  rw[h1];have:=gx r0 (show 0<y1 by omega);omega
 refine d8 (λst W=>∃q r:Nat,st=(gQ (q:Int),gQ (r:Int),())/\W=w/\IE y1 y0 r0 u q r/\r<4294967296)
  (λst _=>match st.1 with| .int _ q=>q.toNat|_=>0) ⟨_,_,rfl,rfl,t,c⟩ ?_
 rintro⟨_,_,_⟩ W ⟨q,r,⟨⟩,rfl,j,C⟩ A h;unfold Qy;intro _;have B:=j.le;refine cT.at (λst b=>st=(.bool (decide (4294967296<=q\/4294967296*r+u<q*y0)),())/\b=W) ?_ ?_
 ·by_cases d:4294967296<=q
  ·have a:(4294967296:Int)<=(q:Int):=qZ;refine bo (v:=.bool true) (by simp[go_sem,a]<;>first|exact⟨rfl,rfl⟩|exact rfl) ?_;rw[kJ];exact⟨by simp[d],rfl⟩
  ·have a:¬(4294967296:Int)<=(q:Int):=qZ;refine bo (v:=.bool false) (by simp[go_sem,a]<;>first|exact⟨rfl,rfl⟩|exact rfl) ?_;rw[jO];have y:q*y0<18446744073709551616:=fk (fT (show q<=4294967295 by omega) (show y0<=4294967295 by omega)) qZ;have s:4294967296*r+u<18446744073709551616:=qZ;refine ao (gQ ((q*y0:Nat):Int)) W (by simp only[go_sem];simp;rw[<-eO,yq _ y]) ?_;refine ao (gQ ((4294967296*r:Nat):Int)) W (by simp only[go_sem];simp;rw[ly qZ qZ]) ?_;refine ao (gQ ((4294967296*r+u:Nat):Int)) W (by simp only[go_sem];simp;rw[ly qZ qZ]) ?_;refine ao (.bool (decide (4294967296*r+u<q*y0))) W (by simp only[go_sem];simp;omega) ?_;exact⟨by simp[d],rfl⟩
 rintro _ b ⟨rfl,rfl⟩;unfold RF;intro _;by_cases i:4294967296<=q\/4294967296*r+u<q*y0
 ·rw[oB i];obtain⟨s1,l,z⟩:=j.step e m i;refine ao (gQ ((q - 1:Nat):Int)) b (by simp only[go_sem];simp;rw[ly qZ qZ];omega) ?_;refine ao (gQ ((r+y1:Nat):Int)) b (by simp only[go_sem];simp;rw[ly qZ qZ]) ?_;by_cases k:4294967296<=r+y1
  ·have p:(4294967296:Int)<=((r+y1:Nat):Int):=qZ;refine ao (.bool true) b (by simp only[go_sem];simp;omega) ?_;rw[kJ];have:=l.exit qZ (IE.brk z k f);rw[this];exact n _
  ·refine ao (.bool false) b (by simp only[go_sem];simp;omega) ?_;rw[jO];exact h _ _ ⟨q - 1,r+y1,rfl,rfl,l,qZ⟩ (by show(((q - 1:Nat):Int)).toNat<((q:Int)).toNat;omega)
 ·rw[JP i];have:=j.exit qZ qZ;rw[this];exact n _
def LD(b:u<4294967296)(a:r0<y1*4294967296+y0):Ae y1 y0 r0 u<4294967296:=by
 unfold Ae;exact(gw (show 0<y1*4294967296+y0 by omega)).2 qZ
def Lo(a:r0<y1*4294967296+y0):∃r,r0*4294967296+u=Ae y1 y0 r0 u*(y1*4294967296+y0)+r/\r<y1*4294967296+y0:=by
 refine⟨(r0*4294967296+u)%(y1*4294967296+y0),?_,gx _ qZ⟩;unfold Ae;have:=lO (r0*4294967296+u) (y1*4294967296+y0);rw[eA]at this;exact this.symm
def WT{N p Q R:Nat}(hp:0<p)(h:N*p=Q*(y*p)+R)(b:R<y*p):N / y=Q/\N%y=R / p:=by
 have d:Q*(y*p)=Q*y*p:=by rw[gR]
 rw[d]at h;have h1:Q*y<=N:=Nat.le_of_mul_le_mul_right qZ hp;obtain⟨t,rfl⟩:∃t,N=Q*y+t:=⟨N - Q*y,qZ⟩
 rw[ej]at h;have a:R=t*p:=qZ;rw[a]at b|-;have c:t<y:=Nat.lt_of_mul_lt_mul_right b;rw[Nat.mul_div_cancel _ hp];constructor
 ·rw[ov,Nat.add_mul_div_right _ _ qZ,Nat.div_eq_of_lt c,cX]
 ·rw[ov,Nat.add_mul_mod_self_right,nP c]
def Vv{hi lo s:Nat}(i:hi<y)(c:lo<18446744073709551616)(hs:s<=64)(d:y*2 ^ s<18446744073709551616):
  (hi*18446744073709551616+lo)*2 ^ s=(hi*2 ^ s+lo / 2 ^ (64 - s))*18446744073709551616+lo*2 ^ s%18446744073709551616/\hi*2 ^ s+lo / 2 ^ (64 - s)<y*2 ^ s/\lo / 2 ^ (64 - s)<2 ^ s/\hi*2 ^ s<18446744073709551616:=by
 have hp:0<2 ^ s:=lD s
 have e:(18446744073709551616:Nat)=2 ^ (64 - s)*2 ^ s:=by
  rw[<-mU,show 64 - s+s=64 by omega]
 have h:lo*2 ^ s / 18446744073709551616=lo / 2 ^ (64 - s):=by
  conv=>lhs;rw[e]
  exact Nat.mul_div_mul_right _ _ hp
 have f:=lO (lo*2 ^ s) 18446744073709551616;rw[h]at f;obtain⟨p,a⟩:=di (2 ^ s);obtain⟨q,b⟩:=di (lo / 2 ^ (64 - s))
 have g:q<p:=by
  rw[b,a];refine(gw (lD _)).2 ?_;rw[eA,<-e];exact c
 rw[<-a,<-b]at f;rw[<-a]at d hp;rw[<-a,<-b];have j:(hi+1)*p<=y*p:=cH p i;rw[ot]at j;refine⟨?_,qZ,g,qZ⟩;rw[ej,Nat.mul_right_comm];omega
end Go.Proofs
