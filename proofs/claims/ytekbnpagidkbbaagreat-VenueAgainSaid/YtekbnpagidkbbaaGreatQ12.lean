/- Part of a proof. -/
import Derived.Laws.Externs
import Derived.Shelf.Bits.Mul64
import Derived.Shelf.Small.Bits
import Derived.Ground.NamesProg
import Derived.Lib.ItoaNum
import Derived.Laws.Bits64b
import Derived.Test.YtekbnpagidkbbaaGreatQ11
set_option linter.all false
set_option maxRecDepth 100000
set_option maxHeartbeats 1000000
namespace Go.Proofs
open Go Go.Vc
attribute [local congr] aZ
variable {n:Int}{l:List Ct}{F:NP_}{c:Nat}{w:Wt_}{K:aY}{S:oe}
def yp(hs:nm l){n:Int}{k:Ct}(h:cg l n=some k):∃d:iB l n<l.length,l[iB l n]=k/\k.spec.num=n:=by
 unfold cg at h;obtain⟨m,i,d,b,g⟩:=dJ.1 h;have a:k.spec.num=n:=by simpa using m
 have e:iB l n=i:=by
  refine Av qZ (λj f c=>?_) λf=>by rw[b];omega
  have:=bL.1 hs j i f d c;rw[b]at this;omega
 subst e;exact⟨d,b,a⟩
def rm{k:Ct}(h:cg l n=some k):k∈l:=dz h
def HN(h:lW w c F S)
  (e:∀b,M0 w b->K (.tuple #[.int .i64 (iB S.l n),.bool (cg S.l n).isSome]) b):Ca pQ 201 #[fF c,gU n] w K:=by
 obtain⟨⟨sl,h1,d,m,j⟩,l,o,k,f⟩:=h;unfold fF;refine cN Tryz.func201 ?_;simp only[cj];obtain⟨sa,sc,a,-⟩:=d.isSl;refine dq ?_;refine Me sl h1 a ?_;refine SR d.rd qZ f λi g=>?_;refine dq ?_;refine dq ?_;exact e _ g
def bt(l:List Ct)(n:Int):Int:=match cg l n with|none=>7|some k=>if k.st=3 then 50 else 0
def zv.item{sl:Vt_}(h:zv w sl l){i:Nat}(hi:i<l.length):
  ∃b a rest,sl=.slice (some ⟨b,0,none⟩) l.length a/\(∀k:IntKind,(iX GU sl (.int k (i:Int))).run pQ w=.ok (bO b (i*27)) w)/\At w b (i*27) (dD l[i])/\
   hC w b (l.flatMap dD++rest).toArray kP/\∀j,j<27->(l.flatMap dD++rest)[i*27+j]? =(dD l[i])[j]? :=by
 obtain⟨b,a,rest,rfl,o,d,n⟩:=h.pos qZ;have c:At w b 0 (l.flatMap dD++rest):=At.all (bT d);have e:=h.1;have h1:=c.sub (i*27) 27 (by grind);rw[dc (by rw[e];omega),aN (by grind),lA dD 27 l i (λx _=>bV x) hi,cM]at h1;refine⟨b,a,rest,rfl,λk=>by simp[go_sem,hi,bD,qh],h1,bT d,λj m=>?_⟩;rw[cn (by rw[e];omega)];have g:=lA dD 27 l i (λx _=>bV x) hi;have f:(((l.flatMap dD).drop (i*27)).take 27)[j]? =(dD l[i])[j]? :=by rw[g]
 rw[fb,ae m,fe]at f;exact f
def uO(h:lW w c F S)
  (v:∀g,bt S.l n≠0->M0 w g->K (.tuple #[.pointer none,gI (bt S.l n)]) g)
  (C:∀i (hi:i<S.l.length) b d g,S.l[i].spec.num=n->S.l[i].st≠3->cg S.l n=some S.l[i]->bt S.l n=0->M0 w g->hC g c #[.bool true,gU S.day,.slice (some ⟨b,0,none⟩) S.l.length d] 172->
   zv g (.slice (some ⟨b,0,none⟩) S.l.length d) S.l->(∀x,F x↔x=c\/x=b)->b≠c->K (.tuple #[.pointer (some ⟨b,i*27,none⟩),gI 0]) g):Ca pQ 203 #[fF c,gU n] w K:=by
 unfold fF;refine cN Tryz.func203 ?_;apply pJ h;refine eK ?_;refine HN h λs q=>?_;have A:=h.mod q dS;refine dq ?_;refine dq ?_;cases l:cg S.l n with
 |none=>
  refine jZ ?_;have e:bt S.l n=7:=by unfold bt;rw[l]
  have m:=v s (by rw[e];decide) q;rw[e]at m;exact m
 |some k=>
  refine eK ?_;obtain⟨hi,f,r⟩:=yp h.srt l;obtain⟨⟨sl,h1,u,B,z⟩,E,I,D,H⟩:=A;obtain⟨b,d,rest,rfl,j,G,y,o⟩:=u.item hi;have p:=o 25 qZ;rw[B3,f]at p;simp only[fF,cj];refine dq ?_;refine dE h1 ?_;apply bh (j .i64);refine dE bD ?_;refine mK y p ?_;by_cases a:k.st=3
  ·refine dB a ?_;have e:bt S.l n=50:=by unfold bt;rw[l];simp only;rw[ae a]
   have m:=v s (by rw[e];decide) q;rw[e]at m;exact m
  ·refine ey a ?_;refine dq ?_;refine dE h1 ?_;apply bh (j .i64);have e:bt S.l n=0:=by unfold bt;rw[l];simp only;rw[aa a]
   refine C _ hi b d s (by rw[f];exact r) (by rw[f];exact a) (by rw[l,f]) e q h1 u (λx=>?_) λt=>z (by rw[t];rfl);rw[B x];exact⟨λh=>h.imp id λh=>by cases h;rfl,λh=>h.imp id λh=>by rw[h];rfl⟩
def J8(h:lW w c F S)(a:K (gU S.day) w):Ca pQ 57 #[fF c] w K:=by
 obtain⟨⟨sl,h1,b,f,d⟩,e⟩:=id h;unfold fF;refine cN Tryz.func57 ?_;apply pJ h;refine eK ?_;simp only[fF,cj];refine dq ?_;refine dE h1 ?_;exact a
def eS(S:oe):Int×oe:=if S.day=4294967295 then(6,S)else(0,⟨S.day+1,S.l⟩)
def NG(h:lW w c F S)
  (a:∀d,lW d c F (eS S).2->aS F w d->K (gI (eS S).1) d):Ca pQ 204 #[fF c] w K:=by
 obtain⟨⟨sl,h1,j,n,f⟩,l,o,k,m⟩:=id h;unfold fF;refine cN Tryz.func204 ?_;apply pJ h;refine eK ?_;simp only[fF,cj];refine dq ?_;refine dE h1 ?_;unfold eS at a;by_cases b:S.day=4294967295
 ·refine dB b ?_;rw[ae b]at a;exact a _ h oU
 ·refine ey b ?_;rw[aa b]at a;refine dq ?_;refine dE h1 ?_;apply ax (gU (S.day+1)) w (by simp[go_sem];rw[IntKind.wrap_u32];omega);refine dq ?_;refine MU h1 ?_;have i:aS (λx=>x=c) w (w.setCell ⟨c,1,none⟩ (gU (S.day+1))):=(aS.refl (λx=>x=c) w).sc;refine a _ ⟨⟨sl,by simp[go_sem,h1],j.mod i λx g e=>f (e▸g),n,f⟩,l,⟨by grind,by grind⟩,k,m⟩ (i.mono λx _ g=>by grind)
def BI:Sp:=⟨0,0,0,0,0,0,Vector.replicate 16 0,0,0,0⟩
def BN:Ct:=⟨BI,0,0⟩
def H8:iQ pQ kP=dD BN:=cy
def Ta:Tryz.prog.built kP []=some (dD BN).toArray:=cy
def UL{W:Wt_}{q:Nat}{k0 k:Ct}{K:Value->World->Prop}(h:hC W q (dD k0).toArray kP)
  (i:∀d,aS (λb=>b=q) W d->K (.agg (dD k).toArray) d):
  vD pQ (oT kP (bO q 0) (.agg (dD k).toArray)) W λa=>BL pQ (qm kP (bO q 0)) a λj=>K j a:=by
 apply qX (n:=26) (c:=(dD k0).toArray) (e:=kP) tM (bV k) h (by rw[bV,cI,bV];exact az _) (lV k);rw[show(dD k0).toArray.toList=dD k0 from rfl,lR (by rw[bV,bV])]
 have f:hC (W.setRow q (dD k).toArray) q (dD k).toArray kP:=by
  show(W.setRow q _).heap[q]? =_;have g:W.heap[q]? =some (.cells (dD k0).toArray kP (0,0)):=h;rw[d9,ae rfl,g]
 apply kI (dD k) 26 Hk tM (bV k) (At.all f);exact i _ ((aS.refl (λb=>b=q) W).setRow (.inl rfl) _)
def dI(l:List Ct)(n:Int):Ct×Int:=match cg l n with|none=>(BN,7)|some k=>(k,0)
def Km(h:lW w c F S)
  (a:∀p,M0 w p->K (.tuple #[.agg (dD (dI S.l n).1).toArray,gI (dI S.l n).2]) p):Ca pQ 143 #[fF c,gU n] w K:=by
 unfold fF;refine cN Tryz.func143 ?_;apply nE zCt;obtain⟨q,d⟩:=df w.heap.size;have j:M0 w (w.alloc (.cells (iQ pQ kP).toArray kP)):=kU;have s:hC (w.alloc (.cells (iQ pQ kP).toArray kP)) q (dD BN).toArray kP:=by rw[H8,d];simp[go_sem]
 rw[<-d];generalize w.alloc (.cells (iQ pQ kP).toArray kP)=M at j s|-;have f:=h.mod j dS;apply pJ f;refine eK ?_;refine HN f λE l=>?_;have z:=f.mod l dS;have r:=j.trans l;have o:=l.hpk s id;refine dq ?_;refine dq ?_;unfold dI at a;cases g:cg S.l n with
 |none=>
  rw[g]at a;refine jZ ?_;apply lS Ta;refine UL o λD m=>?_;exact a _ (r.on m λx C=>fM)
 |some k=>
  rw[g]at a;refine eK ?_;obtain⟨B,i,v⟩:=yp h.srt g;obtain⟨⟨sl,h1,y,N,H⟩,J,O,I,L⟩:=z;obtain⟨b,A,rest,rfl,e,t,G,u⟩:=y.item B;simp only[fF,cj];refine dq ?_;refine dE h1 ?_;apply bh (e .i64);rw[i]at t;apply fX (dD k) 26 Hk tM (bV k) t;refine UL o λD m=>?_;exact a _ (r.on m λx C=>fM)
def P7(h:lW w c F S)
  (I:∀y A r,lW r y A S->M0 w r->(∀b,A b->w.heap.size<=b)->K (fF y) r):Ca pQ 91 #[fF c] w K:=by
 obtain⟨⟨sl,h1,u,W,U⟩,H,Q,G,M⟩:=id h;obtain⟨sa,sc,d,-⟩:=u.isSl;unfold fF;refine cN Tryz.func91 ?_;apply pJ h;refine eK ?_;simp only[fF,cj];refine Me (.agg #[.bool true,gU S.day,sl]) h1 d ?_;obtain⟨q,g⟩:=df w.heap.size
 have k:∃a,(iA 172 true (.tuple #[])).run pQ w=.ok (bO q 0) a/\∃j,(iS 172 (bO q 0) (.agg #[.bool true,gU S.day,sl])).run pQ a=.ok () j/\
   hC j q #[.bool true,gU S.day,sl] 172/\M0 w j/\w.heap.size<j.heap.size:=by
  obtain⟨a,f⟩:=df (w.alloc (.cells #[.bool false,gU 0,.slice none 0 0] 172));have N:M0 w a:=by rw[f];exact(aS.refl _ w).alloc _
  have t:hC a q #[.bool false,gU 0,.slice none 0 0] 172:=by rw[f,g];simp[go_sem]
  have L:a.heap.size=w.heap.size+1:=by rw[f,cm]
  refine⟨a,by rw[f,g];simp[go_sem],((a.setCell ⟨q,0,none⟩ (.bool true)).setCell ⟨q,1,none⟩ (gU S.day)).setCell ⟨q,2,none⟩ sl,by rw[d];simp[go_sem,t],by rw[d];simp[go_sem,t],?_,by simp only[sU];omega⟩;exact N.on ((((aS.refl (λx=>x=q) a).sc).sc).sc) λx n=>fM
 obtain⟨a,R,j,J,O,o,P⟩:=k;apply bh R;apply gg J;have k1:=o.hpk h1 id;refine dq ?_;refine Me sl k1 d ?_;refine vA (l:=S.l) (u.mod o dS).rd qZ λi m C v E=>?_;have z:=v.hpk O id;refine dq ?_;obtain⟨V,T,p,-⟩:=C.isSl;apply pl (m.setCell ⟨q,2,none⟩ i) (by rw[p];simp[go_sem,z]);have D:aS (λx=>x=q) m (m.setCell ⟨q,2,none⟩ i):=(aS.refl (λx=>x=q) m).sc;have B:¬aK i q:=λn=>by grind
 refine I q (λb=>b=q\/aK i b) _ ⟨⟨i,by simp[go_sem,z],C.mod D λx n e=>B (e▸n),λb=>aG,B⟩,H,Q,G,M⟩ ((o.trans v).on D λx n=>fM) λb s=>?_;rcases s with rfl|s
 ·omega
 ·have:=E b s;omega
end Go.Proofs
set_option maxRecDepth 100000
set_option maxHeartbeats 1000000
namespace Go.Proofs
open Go Go.Vc
attribute [local congr] aZ
variable {k:Ct}{n:Int}{l:List Ct}{F:NP_}{b c:Nat}{w:Wt_}{K:aY}{S:oe}
def ic(l:List Ct)(n:Int)(f:Ct->Ct):List Ct:=l.map λk=>if k.spec.num=n then f k else k
def nV(hs:nm l){n:Int}{i:Nat}(hi:i<l.length)(e:l[i].spec.num=n)(f:Ct->Ct):ic l n f=l.set i (f l[i]):=by
 unfold ic;apply List.ext_getElem
 ·simp
 ·intro j h1 c;have a:j<l.length:=by simpa using h1
  rw[List.getElem_set,cD];by_cases b:i=j
  ·grind
  ·rw[aa b,aa];intro d;rcases Nat.lt_or_ge i j with h|h
   ·have:=bL.1 hs i j hi a h;omega
   ·have:=bL.1 hs j i a hi qZ;omega
def pv{f:Ct->Ct}(i:∀k∈l,k.spec.num=n->(f k).Ok/\(f k).spec.num=k.spec.num)(h1:∀k∈l,k.Ok)(d:nm l):(∀k∈ic l n f,k.Ok)/\nm (ic l n f)/\(ic l n f).length=l.length:=by
 have a:∀k∈l,(if k.spec.num=n then f k else k).spec.num=k.spec.num:=λk b=>by
  split
  ·grind
  ·rfl
 refine⟨λk b=>?_,?_,by simp[ic]⟩
 ·obtain⟨x,g,rfl⟩:=aL.1 b;split
  ·grind
  ·exact h1 x g
 ·unfold nm ic;rw[eA];refine d.imp_of_mem λc e h=>?_;rw[a _ c,a _ e];exact h
def zv.set1{cap:Nat}(h:zv w (.slice (some ⟨b,0,none⟩) l.length cap) l){i:Nat}(hi:i<l.length){j:Nat}(r:j<27){v:Vt_}(s:v.oneCell' =true){k' :Ct}(d:(dD l[i]).set j v=dD k'):
  zv (w.setCell ⟨b,i*27+j,none⟩ v) (.slice (some ⟨b,0,none⟩) l.length cap) (l.set i k'):=by
 obtain⟨q,g,rest,n,p,k,f,c⟩:=h.pos qZ;cases n;have m:=h.1
 have a:(l.flatMap dD).set (i*27+j) v=(l.set i k').flatMap dD:=by
  clear h m k f c p;induction l generalizing i with
  |nil=>simp at hi
  |cons x l o=>
   cases i with
   |zero=>
    simp only[eO]at d;rw[bR,jK,cM,eh _ _ (by rw[bV];omega),d];rfl
   |succ i=>
    have e:(i+1)*27+j=(dD x).length+(i*27+j):=by rw[bV];omega
    rw[bR,e,dO _ _ qZ,fS,o (by simpa using hi) (by simpa using d)];rfl
 refine⟨by grind,.inr ⟨b,cap,rest,by grind,by grind,?_,by grind,c⟩⟩;rw[jU,ae rfl,k,eM,bP,eh _ _ (by rw[m];omega),a]
def DF(k:Ct)(x:Int):(dD k).set 25 (gB x)=dD {k with st:=x}:=by
 unfold dD;rw[dO _ _ (by rw[bG];omega),bG];rfl
def TZ(k:Ct)(x:Int):(dD k).set 26 (gI x)=dD {k with price:=x}:=by
 unfold dD;rw[dO _ _ (by rw[bG];omega),bG];rfl
def zA(h:k.Ok){x:Int}(a:1<=x/\x<=3):({k with st:=x}:Ct).Ok:=⟨⟨h.1.1,⟨by show 0<=x;omega,by show x<256;omega⟩,h.1.2.2⟩,h.2.1,h.2.2.1,a⟩
def uv{s:Sp}{p:Int}(h:s.isPrice p=true):1<=p/\p<=10000000:=by
 unfold Sp.isPrice zX aW MP at h;simp only[ao,aX]at h;exact h.2.1
def AG(h:k.Ok){x:Int}(a:k.spec.isPrice x=true):({k with price:=x}:Ct).Ok:=by
 have b:=uv a;exact⟨⟨h.1.1,h.1.2.1,⟨by show _<=x;omega,by show x<_;omega⟩⟩,h.2.1,a,h.2.2.2⟩
def lW.turn{cap:Nat}{a:List Ct}(j:hC w c #[.bool true,gU S.day,.slice (some ⟨b,0,none⟩) a.length cap] 172)
  (e:zv w (.slice (some ⟨b,0,none⟩) a.length cap) a)(l:∀x,F x↔x=c\/x=b)(d:b≠c)(h1:a.length<=16)(f:kV S.day)(i:∀k∈a,k.Ok)(g:nm a):lW w c F ⟨S.day,a⟩:=
 ⟨⟨_,j,e,λx=>by rw[l x];exact⟨λh=>h.imp id λh=>by rw[h];rfl,λh=>h.imp id λh=>by cases h;rfl⟩,λh=>d (by cases h;rfl)⟩,h1,f,i,g⟩
def jy(S:oe)(n:Int)(on:Bool):Int×oe:=if bt S.l n≠0 then(bt S.l n,S)else(0,⟨S.day,ic S.l n λk=>{k with st:=if on then 2 else 1}⟩)
def Ph{on:Bool}(h:lW w c F S)
  (d:∀G,lW G c F (jy S n on).2->aS F w G->K (gI (jy S n on).1) G):Ca pQ 135 #[fF c,gU n,.bool on] w K:=by
 unfold fF;refine cN Tryz.func135 ?_;refine uO h (λa D B=>?_) λi s b o a C T hg D B Q P J m=>?_
 ·refine dq ?_;refine dq ?_;refine dB D ?_;have e:jy S n on=(bt S.l n,S):=by unfold jy;rw[ae D]
  rw[e]at d;exact d _ (h.mod B dS) (B.to)
 ·refine dq ?_;refine dq ?_;refine eK ?_;have e:jy S n on=(0,⟨S.day,ic S.l n λk=>{k with st:=if on then 2 else 1}⟩):=by unfold jy;rw[aa (by rw[D];simp)]
  rw[e]at d;simp only[cj];obtain⟨b',N,rest,H,R,hA,O,t⟩:=P.item s;cases H;have r:=t 25 qZ;rw[B3]at r;have p:F b:=(J b).2 (.inr rfl);have V:∀x y,aS F a ((a.setCell ⟨b,i*27+25,none⟩ x).setCell ⟨b,i*27+25,none⟩ y):=λx y=>(((aS.refl F a).setCell (.inl p) _ _).setCell (.inl p) _ _)
  have L:∀x,aS F a (a.setCell ⟨b,i*27+25,none⟩ x):=λx=>((aS.refl F a).setCell (.inl p) _ _)
  have u:aS F w a:=B.to;refine dE bD ?_;refine ZZ O r ?_;have l1:=P.set1 s (j:=25) qZ (v:=gB 1) rfl (DF _ _);have A:∀y:Int,1<=y/\y<=3->_:=λy X=>pv (l:=S.l) (n:=n) (f:=λk=>{k with st:=y}) (λk U _=>⟨zA (h.ok k U) X,rfl⟩) h.ok h.srt
  have g:∀(W:Wt_) x,hC W c #[.bool true,gU S.day,.slice (some ⟨b,0,none⟩) S.l.length o] 172->hC (W.setCell ⟨b,i*27+25,none⟩ x) c #[.bool true,gU S.day,.slice (some ⟨b,0,none⟩) S.l.length o] 172:=λW x h=>by
   have:aS (λz=>z=b) W (W.setCell ⟨b,i*27+25,none⟩ x):=(aS.refl (λz=>z=b) W).sc;exact this.hpk h λe=>m e.symm
  cases on with
  |false=>
   rw[ij];have q:=A 1 qZ;rw[nV h.srt s C]at q;simp only[bj,da]at d;rw[nV h.srt s C]at d;refine d _ (lW.turn (by rw[bK];exact g _ _ Q) (by grind) J m (by rw[bK];exact h.len) h.day q.1 q.2.1) (u.trans (L _))
  |true=>
   rw[jV];refine dE bD ?_
   have Y:i*27+25<(S.l.flatMap dD++rest).length:=by
    have:=(aF.1 r).1;exact this
   have M:((S.l.flatMap dD++rest).set (i*27+25) (gB 1))[i*27+25]? =some (gB 1):=by grind
   refine ZZ O M ?_;have E:i<(S.l.set i {S.l[i]with st:=1}).length:=by grind
   have I:zv (a.setCell ⟨b,i*27+25,none⟩ (gB 1)) (.slice (some ⟨b,0,none⟩) (S.l.set i {S.l[i]with st:=1}).length o) (S.l.set i {S.l[i]with st:=1}):=by grind
   have Z:=I.set1 E (j:=25) qZ (v:=gB 2) rfl (DF _ _);rw[jI,dY,bK]at Z;have q:=A 2 qZ;rw[nV h.srt s C]at q;simp only[cZ]at d;rw[nV h.srt s C]at d;refine d _ (lW.turn (by rw[bK];exact g _ _ (g _ _ Q)) (by grind) J m (by rw[bK];exact h.len) h.day q.1 q.2.1) (u.trans (V _ _))
def fJ(S:oe)(n price:Int):Int×oe:=
 match cg S.l n with
 |none=>(7,S)
 |some k=>if k.st=3 then(50,S)else if k.spec.isPrice price=false then(52,S)else(0,⟨S.day,ic S.l n λk=>{k with price:=price}⟩)
def EK{price:Int}(h:lW w c F S)
  (o:∀C,lW C c F (fJ S n price).2->aS F w C->K (gI (fJ S n price).1) C):Ca pQ 136 #[fF c,gU n,gI price] w K:=by
 unfold fF;refine cN Tryz.func136 ?_;refine uO h (λN s u=>?_) λi g b G N U E D s u hc T R p=>?_
 ·refine dq ?_;refine dq ?_;refine dB s ?_
  have e:fJ S n price=(bt S.l n,S):=by
   unfold fJ bt;unfold bt at s;cases D:cg S.l n with
   |none=>rfl
   |some k=>
    rw[D]at s;simp only at s|-;by_cases h3:k.st=3
    ·grind
    ·grind
  rw[e]at o;exact o _ (h.mod u dS) (u.to)
 ·refine dq ?_;refine dq ?_;refine eK ?_;simp only[cj];obtain⟨Z,q,rest,m,A,Q,O,d⟩:=T.item g;cases m
  have M:At N b (i*27) (fC S.l[i].spec):=by
   have:=Q.sub 0 25 (by rw[bV];omega);rw[eT,dD,aN (by rw[bG];omega),aC (by rw[bG];omega)]at this;exact this
  refine dE bD ?_;apply fX (fC S.l[i].spec) 24 zF xG (bG _) M;have L:=h.ok S.l[i] (av g);refine pH L.1.1 λy B=>?_;have J:=u.trans B
  have Y:fJ S n price=if S.l[i].spec.isPrice price=false then(52,S)else(0,⟨S.day,ic S.l n λk=>{k with price:=price}⟩):=by
   unfold fJ;rw[D];simp only;rw[aa E]
  rw[Y]at o;cases hp:S.l[i].spec.isPrice price with
  |false=>
   refine jZ ?_;rw[ae hp]at o;exact o _ (h.mod J dS) (J.to)
  |true=>
   refine eK ?_;rw[aa (by rw[hp];simp),nV h.srt g U]at o;have r:zv y (.slice (some ⟨b,0,none⟩) S.l.length G) S.l:=T.mod B dS;have I:=B.hpk hc id;obtain⟨Z,q,rest,m,A,Q,O,d⟩:=r.item g;cases m;have t:=d 26 qZ;rw[OU]at t;refine dE bD ?_;refine ZZ O t ?_;have l1:=r.set1 g (j:=26) qZ (v:=gI price) rfl (TZ _ _)
   have H:=pv (l:=S.l) (n:=n) (f:=λk=>{k with price:=price}) (λk P X=>⟨AG (h.ok k P) (by
    have:k=S.l[i]:=by
     obtain⟨j,W,rfl⟩:=bM P;rcases Nat.lt_trichotomy j i with a|a|a
     ·have:=bL.1 h.srt j i W g a;omega
     ·subst a;rfl
     ·have:=bL.1 h.srt i j g W a;omega
    rw[this];exact hp),rfl⟩) h.ok h.srt
   rw[nV h.srt g U]at H;have V:aS (λz=>z=b) y (y.setCell ⟨b,i*27+26,none⟩ (gI price)):=(aS.refl (λz=>z=b) y).sc;refine o _ (lW.turn (by rw[bK];exact V.hpk I λe=>p e.symm) (by grind) R p (by rw[bK];exact h.len) h.day H.1 H.2.1) ((J.to).trans (V.mono λx _ hx=>(R x).2 (.inr hx)))
def IU(a b:Sp):Bool:=decide (a.last<b.last)||(decide (a.last=b.last)&& decide (a.num<b.num))
def Q2{a b:Sp}(d:∀k,M0 w k->K (.bool (IU a b)) k):Ca pQ 309 #[.agg (fC a).toArray,.agg (fC b).toArray] w K:=by
 refine cN Tryz.func309 ?_;obtain⟨i,n,c,m⟩:=CQ a w;apply bh n;obtain⟨p,h⟩:=df w.heap.size;rw[<-h]at c|-;obtain⟨o,l,f,j⟩:=CQ b i;apply bh l;have c:=j.hpk c id;have d:=d _ (m.trans j);unfold IU at d;obtain⟨q,g⟩:=df i.heap.size;rw[<-g]at f|-;refine dq ?_;refine mK c Cn ?_;refine dq ?_;refine mK f Cn ?_;by_cases h1:a.last<b.last
 ·refine dB h1 ?_;simpa [h1]using d
 ·refine ey h1 ?_;refine dq ?_;refine mK c Cn ?_;refine dq ?_;refine mK f Cn ?_;by_cases e:a.last=b.last
  ·refine dB e ?_;refine dq ?_;refine mK c O5 ?_;refine dq ?_;refine mK f O5 ?_;refine dq ?_;simpa [e]using d
  ·refine ey e ?_;simpa [h1,e]using d
def DW(k y:Ct):Bool:=decide (y.st≠3)&& IU y.spec k.spec
def Pk{y:Ct}{p off:Nat}{T:TypeId}(i:hC w p #[.pointer (some ⟨b,off,none⟩)] T)(h:At w b off (dD k))
  (f:∀l,M0 w l->K (.bool (DW k y)) l):Ca pQ 308 #[.agg (dD y).toArray,.pointer (some ⟨p,0,none⟩)] w K:=by
 refine cN Tryz.func308 ?_;obtain⟨j,s,a,r⟩:=Uf y w;apply bh s;obtain⟨q,g⟩:=df w.heap.size;rw[<-g]at a|-;have md:=r.drew;have a:hC j.drew q (dD y).toArray kP:=a;have n:=md.hpk i id;have m:=h.mod md id;generalize j.drew=u at md a n m|-;refine rD ?_;refine qW2 a B3 ?_;unfold DW at f;by_cases d:y.st=3
 ·refine IR d ?_;have e:=f _ md;simpa [d]using e
 ·refine Ih d ?_
  have c:∀{W:Wt_} {b off:Nat} {x:Ct},At W b off (dD x)->At W b off (fC x.spec):=λh=>by
   have:=h.sub 0 25 (by rw[bV];omega);rw[eT,dD,aN (by rw[bG];omega),aC (by rw[bG];omega)]at this;exact this
  refine rD ?_;apply kI (fC y.spec) 24 zF xG (bG _) (c (At.all a));refine xj n ?_;simp only[cj];refine qP1 bD ?_;apply kI (fC k.spec) 24 zF xG (bG _) (c m);refine Q2 λt o=>?_;have e:=f _ (md.trans o);simpa [d]using e
end Go.Proofs
set_option maxRecDepth 100000
set_option maxHeartbeats 1000000
namespace Go.Proofs
open Go Go.Vc
attribute [local congr] aZ
variable {n:Int}{l:List Ct}{F:NP_}{c:Nat}{s:Vt_}{w:Wt_}{K:aY}{S:oe}
def QQ(w:Wt_)(fv:Vt_)(p:Ct->Bool)(l:List Ct):Prop:=
 ∃g cp,fv=.func (.func g) #[] cp/\∀x∈l,∀W,M0 w W->∀K,(∀W',M0 W W' ->K (.bool (p x)) W')->Ca pQ g ⟨[.agg (dD x).toArray]++cp.toList⟩ W K
def zv.ld(h:Rd w 27 s l.length (l.flatMap dD)){x:Nat}(e:x<l.length):
  ∃p,(iX GU s (gI (x:Int))).run pQ w=.ok p w/\(qm kP p).run pQ w=.ok (.agg (dD l[x]).toArray) w:=by
 obtain⟨b,a,f,c,d,g⟩:=h.item bV e rfl;exact⟨.pointer (some ⟨b,a+x*27,none⟩),by rw[c];simp[go_sem,e,bD],fK Hk tM (bV _) g⟩
def HJ{fv:Vt_}{p:Ct->Bool}(h:Rd w 27 s l.length (l.flatMap dD))(G:l.length<=1000000)(z:QQ w fv p l)
  (u:∀t,M0 w t->K (gI (qI l p)) t):Ca pQ 359 #[s,fv] w K:=by
 obtain⟨g,H,rfl,r⟩:=z;refine cN Tryz.func359 ?_;obtain⟨a,c,A⟩:=h.isSl;apply iq (gI (l.length:Int)) w (by rw[A];simp[go_sem])
 refine d8 (λst W=>∃(i:Nat) (x:Vt_),i<=l.length/\st=(x,gI i,())/\M0 w W/\∀j,∀d,j<i->p l[j]=false)
  (λst _=>match st.2.1 with| .int _ i=>l.length - i.toNat|_=>0) ⟨0,gI 0,qZ,rfl,oU,λj _ h=>qZ⟩ ?_
 rintro⟨_,_⟩ W ⟨i,x,F,⟨⟩,f,e⟩ E o;refine lE ?_;intro _;by_cases b:i<l.length
 ·have k:(i:Int)<(l.length:Int):=qZ;refine dB k ?_;obtain⟨q,v,C⟩:=zv.ld (h.mod f dS) b;apply bh v;apply jP C;simp only[fR];refine r l[i] (av b) W f _ λI n=>?_;cases hp:p l[i]with
  |true=>
   rw[jV]
   have:qI l p=(i:Int):=by
    unfold qI
    have:l.findIdx? p=some i:=by
     rw[bp];refine⟨b,hp,λj d=>?_⟩;rw[e j qZ d];simp
    rw[this]
   have m:=u _ (f.trans n);rw[this]at m;exact m
  |false=>
   rw[ij];apply TT i;refine o _ _ ⟨i+1,_,qZ,rfl,f.trans n,λj d y=>?_⟩ (by grind);by_cases D:j=i
   ·subst D;exact hp
   ·grind
 ·obtain rfl:i=l.length:=qZ;refine eK ?_
  have:qI l p= -1:=by
   unfold qI
   have:l.findIdx? p=none:=by
    rw[dC];intro x B;obtain⟨j,d,rfl⟩:=bM B;exact e j d d
   rw[this]
  have m:=u _ f;rw[this]at m;exact m
def Py{α:Type}(l:List α)(p:α->Bool):decide (0<=qI l p)=l.any p:=by
 unfold qI;cases h:l.findIdx? p with
 |none=>
  rw[dC]at h;have:l.any p=false:=by grind
  rw[this];rfl
 |some i=>
  obtain⟨a,hp,-⟩:=bp.1 h;have:l.any p=true:=g8.2 ⟨l[i],av a,hp⟩;rw[this];exact aQ (by simp)
def BJ{fv:Vt_}{p:Ct->Bool}(h:Rd w 27 s l.length (l.flatMap dD))(f:l.length<=1000000)(e:QQ w fv p l)
  (c:∀a,M0 w a->K (.bool (l.any p)) a):Ca pQ 307 #[s,fv] w K:=by
 refine cN Tryz.func307 ?_;refine HJ h f e λb d=>?_;apply ax (.bool (l.any p)) b (by rw[<-Py];simp[go_sem]);exact c _ d
def qq(S:oe)(n:Int):Int:=
 match cg S.l n with
 |none=>7
 |some k=>if k.st=3 then 50 else if S.day<k.spec.last\/S.l.any (DW k)=true then 51 else 0
def wG(h:bt S.l n≠0):qq S n=bt S.l n:=by
 unfold qq bt;unfold bt at h;cases a:cg S.l n with
 |none=>rfl
 |some k=>
  rw[a]at h;simp only at h|-;by_cases b:k.st=3
  ·grind
  ·grind
def SS(h:lW w c F S)
  (D:∀U,M0 w U->K (gI (qq S n)) U):Ca pQ 267 #[fF c,gU n] w K:=by
 unfold fF;refine cN Tryz.func267 ?_
 have f:∀W v,(∃o,v=.pointer o)->∃a C,(iA 306 true (.tuple #[])).run pQ W=.ok (bO W.heap.size 0) a/\(iS 306 (bO W.heap.size 0) v).run pQ a=.ok () C/\
   hC C W.heap.size #[v] 306/\M0 W C:=λW v hv=>by
  obtain⟨o,rfl⟩:=hv;obtain⟨a,k⟩:=df (W.alloc (.cells #[.pointer none] 306));have B:M0 W a:=by rw[k];exact(aS.refl _ W).alloc _
  have T:hC a W.heap.size #[.pointer none] 306:=by rw[k];simp[go_sem]
  exact⟨a,a.setCell ⟨W.heap.size,0,none⟩ (.pointer o),by rw[k];simp[go_sem],by simp[go_sem,T],by simp[go_sem,T],B.on ((aS.refl (λx=>x=W.heap.size) a).sc) λx hx=>fM⟩
 refine uO h (λa P B=>?_) λi hi b M a hn L hg P B hc hl hF hbc=>?_
 ·refine dq ?_;refine dq ?_;obtain⟨C,u,E,G,I,t⟩:=f a (.pointer none) ⟨_,rfl⟩;apply bh E;apply gg G;refine dB P ?_;have g:=D _ (B.trans t);rw[wG P]at g;exact g
 ·refine dq ?_;refine dq ?_;obtain⟨C,u,E,G,I,t⟩:=f a (bO b (i*27)) ⟨_,rfl⟩;obtain⟨q,N⟩:=df a.heap.size;rw[<-N]at E G I;apply bh E;apply gg G;refine eK ?_;have M3:=B.trans t;have Q:=t.hpk hc id;have O:=hl.mod t dS
  have e0:qq S n=if S.day<S.l[i].spec.last\/S.l.any (DW S.l[i])=true then 51 else 0:=by
   unfold qq;rw[hg];simp only;rw[aa L]
  rw[e0]at D;have md:M0 u u.drew:=sK;have r:=md.hpk Q id;have m:zv u.drew (.slice (some ⟨b,0,none⟩) S.l.length M) S.l:=O.mod md dS;have j:=md.hpk I id;have Md:=M3.trans md;refine cG.at (λst W=>st=(.bool (decide (S.day<S.l[i].spec.last\/S.l.any (DW S.l[i])=true)),())/\M0 w W) ?_ ?_
  ·obtain⟨b',V,rest,J,Z,Y,X,A⟩:=m.item hi;cases J;have z:=A 23 qZ;rw[UQ]at z;simp only[fF,cj];generalize u.drew=w4 at md r m j Md Y X|-;refine rD ?_;refine xj r ?_;refine xj j ?_;simp only[cj];refine qP1 bD ?_;refine qP1 bD ?_;refine qW2 X z ?_;by_cases d:S.day<S.l[i].spec.last
   ·refine Ih d ?_;exact⟨by simp[d],Md⟩
   ·refine IR d ?_;refine rD ?_;refine xj r ?_;refine BJ (l:=S.l) (p:=DW S.l[i]) m.rd (by have:=h.len;omega) ⟨_,_,rfl,λy hy W s K' R=>?_⟩ λw5 m5=>?_
    ·exact Pk (s.hpk j id) (Y.mod s id) R
    ·refine⟨?_,Md.trans m5⟩
     have e:decide (S.day<S.l[i].spec.last\/S.l.any (DW S.l[i])=true)=S.l.any (DW S.l[i]):=by
      rw[dr,decide_eq_true_iff];exact⟨λh=>h.resolve_left d,.inr⟩
     rw[e]
  rintro _ W ⟨rfl,s⟩;refine jG ?_;intro _;by_cases H:S.day<S.l[i].spec.last\/S.l.any (DW S.l[i])=true
  ·rw[mP H];have g:=D _ s;rw[ae H]at g;exact g
  ·rw[aw,aa (by grind)];have g:=D _ s;rw[aa H]at g;exact g
def fq(S:oe)(n:Int):Int×oe:=if qq S n≠0 then(qq S n,S)else(0,⟨S.day,ic S.l n λk=>{k with st:=3}⟩)
def AK(h:qq S n=0):bt S.l n=0:=by
 apply aI;intro a;rw[wG a]at h;exact a h
def IY(h:lW w c F S)
  (a:∀r,lW r c F (fq S n).2->aS F w r->K (gI (fq S n).1) r):Ca pQ 209 #[fF c,gU n] w K:=by
 unfold fF;refine cN Tryz.func209 ?_;refine SS h λU u=>?_;have A:=h.mod u dS;unfold fq at a;by_cases d:qq S n=0
 ·rw[aa (by simpa using d)]at a;rw[d];refine eK ?_;refine uO A (λp H D=>absurd (AK d) H) λi q b N p E L R H D P C B g=>?_;refine dq ?_;refine dq ?_;refine jZ ?_;simp only[cj];obtain⟨Q,y,rest,s,I,T,J,m⟩:=C.item q;cases s;have o:=m 25 qZ;rw[B3]at o;refine dE bD ?_;refine ZZ J o ?_;have V:=C.set1 q (j:=25) qZ (v:=gB 3) rfl (DF _ _);have G:aS (λz=>z=b) p (p.setCell ⟨b,i*27+25,none⟩ (gB 3)):=(aS.refl (λz=>z=b) p).sc;have t:=pv (l:=S.l) (n:=n) (f:=λk=>{k with st:=3}) (λk M _=>⟨zA (h.ok k M) qZ,rfl⟩) h.ok h.srt;rw[nV h.srt q E]at t;rw[nV h.srt q E]at a;exact a _ (lW.turn (by rw[bK];exact G.hpk P λe=>g e.symm) (by grind) B g (by rw[bK];exact h.len) h.day t.1 t.2.1) (((u.trans D).to).trans (G.mono λx _ O=>(B x).2 (.inr O)))
 ·rw[ae d]at a;refine dB d ?_;exact a _ A (u.to)
def ON{W:Wt_}{k:Ct}{K:Value->World->Prop}(c:∀a,hC a W.heap.size (dD k).toArray kP->M0 W a->K (bO W.heap.size 0) a):
  rx pQ (tW kP) W λv b=>vD pQ (oT kP v (.agg (dD k).toArray)) b λa=>K v a:=by
 apply uH 26 zCt tM (bV k) af0 (lV k);exact c _ (by simp[go_sem]) kU
def S2{b:Nat}{T:TypeId}:AD pQ (.func (.func 151) #[] #[.pointer (some ⟨b,0,none⟩)]) (S.l.map λk=>[.agg (dD k).toArray]) (λW=>hC W b #[fF c] T/\∃F,lW W c F S):=by
 refine⟨⟨_,_,_,rfl,?_⟩⟩;rintro y J Js W K ⟨g,F,x⟩ H j d f w;refine cN Tryz.func151 ?_;apply ax (fF c) W (by simp[go_sem,g,fF]);apply pJ x;refine eK ?_;obtain⟨⟨sl,A,B,X,V⟩,Y,c6⟩:=id x;apply ax (fF c) W (by simp[go_sem,g,fF]);simp only[fF,cj];obtain⟨U,R,r,-⟩:=B.isSl;refine dE A ?_;refine Me sl A r ?_;refine vA (l:=S.l) B.rd qZ λs O t G P=>?_;obtain⟨sa,sc,v,-⟩:=t.isSl;apply iq (gI (S.l.length:Int)) O (by rw[v];simp[go_sem]);have u:=H _ _ G λb g=>⟨P b g,t.lt g⟩
 refine d8 (λst m=>∃i,i<=S.l.length/\st=(gI i,())/\J (aK s) i m/\zv m s S.l)
  (λst _=>match st.1 with| .int _ i=>S.l.length - i.toNat|_=>0) ⟨0,qZ,rfl,u,t⟩ ?_
 rintro⟨_,_⟩ m ⟨i,Z,⟨⟩,C,z⟩ Q o;refine lE ?_;intro _;by_cases e:i<S.l.length
 ·have h:(i:Int)<(S.l.length:Int):=qZ;refine dB h ?_;obtain⟨p,I,M⟩:=zv.ld z.rd e;apply bh I;apply jP M;refine ON λE L D=>?_;apply fX (dD S.l[i]) 26 Hk tM (bV _) (At.all L);have n:=z.mod D dS;refine d (aK s) i [.agg (dD S.l[i]).toArray] E (by simp[e]) (j _ _ _ _ C D) _ (λN a q=>?_) λN a=>?_
  ·refine eK ?_;apply TT i;exact o _ _ ⟨i+1,qZ,rfl,a,n.keep q⟩ (by grind)
  ·refine jZ ?_;exact w _ a
 ·obtain rfl:i=S.l.length:=qZ;refine eK ?_;exact f _ m (by simpa using C)
def Dn(h:lW w c F S)
  (g:∀e a,oM e (S.l.map λk=>[.agg (dD k).toArray]) a->M0 w a->K e a):Ca pQ 51 #[fF c] w K:=by
 unfold fF;refine cN Tryz.func51 ?_;have d:M0 w (w.alloc (.cells #[fF c] 86)):=kU;apply ax (bO w.heap.size 0) (w.alloc (.cells #[fF c] 86)) (by simp[go_sem,fF]);have f:hC (w.alloc (.cells #[fF c] 86)) w.heap.size #[fF c] 86:=by simp[go_sem]
 exact g _ _ ⟨⟨_,O7 (S2 (c:=c) (b:=w.heap.size) (S:=S) (T:=86)),λW m=>⟨m.hpk f id,F,h.mod (d.trans m) dS⟩⟩,_,_,rfl⟩ d
def NU(s:Sp)(x p:Int):Tryz.prog.built kP [(0,.agg (fC s).toArray),(1,gB x),(2,gI p)]=some (dD ⟨s,x,p⟩).toArray:=by
 have h1:∀a,Tryz.prog.built kP a=Instr.fill (λi=>#[(0,25),(25,1),(26,1)][i]?) (iQ pQ kP).toArray a:=λa=>by kernel_rfl
 rw[h1,H8];rw[qS (off:=0) (size:=25) rfl (by show(fC s).toArray.size=25;rw[cI,bG]) (by rw[bV];omega)];rw[qS (off:=25) (size:=1) rfl rfl (by rw[rk (by show 0+(fC s).length<=_;rw[bG,bV];omega),bV];omega)];rw[qS (off:=26) (size:=1) rfl rfl (by rw[rk (by rw[rk (by show 0+(fC s).length<=_;rw[bG,bV];omega),bV];show 25+1<=27;omega),rk (by show 0+(fC s).length<=_;rw[bG,bV];omega),bV];omega)];rw[A4];congr 2
 have b:iC (dD BN) 0 (fC s)=fC s++[.int .u8 0,gI 0]:=by
  unfold iC;rw[dR,eX,bG,dD,List.drop_left' (by rw[bG])];rfl
 show iC (iC (iC (dD BN) 0 (fC s)) 25 [.int .u8 x]) 26 [.int .i64 p]=_;rw[b]
 have c:iC (fC s++[.int .u8 0,gI 0]) 25 [.int .u8 x]=fC s++[.int .u8 x,gI 0]:=by
  unfold iC;rw[List.take_left' (bG s),mQ,ck (by rw[bG];simp),bG];simp
 rw[c];unfold iC;rw[List.take_append,aC (by rw[bG];omega),bG,ck (by simp[bG])];simp[dD]
def mf(s:Sp):Ct:=⟨s,1,s.first⟩
def fD(S:oe)(s:Sp):Int×oe:=
 if s.may=false then(2,S)else if(cg S.l s.num).isSome then(8,S)else if s.last<S.day then(51,S)else if 16<=S.l.length then(9,S)
 else(0,⟨S.day,S.l.take (iB S.l s.num)++mf s::S.l.drop (iB S.l s.num)⟩)
def CY(hs:nm l)(z:∀k∈l,k.Ok){k:Ct}(t:k.Ok)(o:cg l k.spec.num=none):(∀x∈l.take (iB l k.spec.num)++k::l.drop (iB l k.spec.num),x.Ok)/\nm (l.take (iB l k.spec.num)++k::l.drop (iB l k.spec.num))/\iB l k.spec.num<=l.length:=by
 have e:l.take (iB l k.spec.num)=l.takeWhile λx=>decide (x.spec.num<k.spec.num):=by
  unfold iB;have h1:l.takeWhile (λx=>decide (x.spec.num<k.spec.num))++l.dropWhile (λx=>decide (x.spec.num<k.spec.num))=l:=List.takeWhile_append_dropWhile
  conv=>lhs;rw[<-h1];arg 1;rw[h1]
  rw[dG]
 have u:l.drop (iB l k.spec.num)=l.dropWhile λx=>decide (x.spec.num<k.spec.num):=by
  unfold iB;have h1:l.takeWhile (λx=>decide (x.spec.num<k.spec.num))++l.dropWhile (λx=>decide (x.spec.num<k.spec.num))=l:=List.takeWhile_append_dropWhile
  conv=>lhs;rw[<-h1];arg 1;rw[h1]
  rw[cU]
 have d:iB l k.spec.num<=l.length:=(List.takeWhile_sublist _).length_le
 have h:∀x∈l.take (iB l k.spec.num),x.spec.num<k.spec.num:=λx c=>by
  rw[e]at c;have:=List.all_takeWhile (l:=l) (p:=λx:Ct=>decide (x.spec.num<k.spec.num));simpa using bf.1 this x c
 have g:∀x∈l.drop (iB l k.spec.num),k.spec.num<x.spec.num:=λx c=>by
  have s:x.spec.num≠k.spec.num:=λi=>by
   unfold cg at o;have:=dU.1 o x (gK c);simp[i]at this
  have q:¬x.spec.num<k.spec.num:=λi=>by
   by_cases r:iB l k.spec.num<l.length
   ·have f:¬l[iB l k.spec.num].spec.num<k.spec.num:=by
     have m:(l.drop (iB l k.spec.num))[0]? =some l[iB l k.spec.num]:=by grind
     rw[u]at m;have h1:=List.head?_dropWhile_not (λx:Ct=>decide (x.spec.num<k.spec.num)) l;rw[List.head?_eq_getElem?,m]at h1;simpa using h1
    obtain⟨j,y,rfl⟩:=bM c;rw[List.getElem_drop]at i;rw[bq]at y;by_cases v:j=0
    ·grind
    ·have:=bL.1 hs (iB l k.spec.num) (iB l k.spec.num+j) r qZ qZ;omega
   ·grind
  omega
 refine⟨λx c=>?_,?_,d⟩
 ·rcases bm.1 c with c|c
  ·grind
  ·rcases ar.1 c with rfl|c
   ·exact t
   ·grind
 ·unfold nm;rw[de,bX];refine⟨hs.sublist (List.take_sublist _ _),⟨g,hs.sublist (List.drop_sublist _ _)⟩,λa w b n=>?_⟩;rcases ar.1 n with rfl|n
  ·exact h a w
  ·grind
def Sp.may_price{s:Sp}(h:s.may=true):s.isPrice s.first=true:=by
 unfold Sp.isPrice;rw[h];unfold Sp.may at h;simp only[ao]at h;simpa using h.2
def PC{s:Sp}(h:lW w c F S)(P:s.Fit)
  (J:∀F' Y,lW Y c F' (fD S s).2->aS F w Y->(∀x,F' x->F x\/w.heap.size<=x)->K (gI (fD S s).1) Y):Ca pQ 134 #[fF c,.agg (fC s).toArray] w K:=by
 unfold fF;refine cN Tryz.func134 ?_;obtain⟨w1,e1,L,m1⟩:=CQ s w;apply bh e1;obtain⟨p,hp0⟩:=df w.heap.size;rw[<-hp0]at L|-;have h1:=h.mod m1 dS;have B:∀{W W' :Wt_},M0 W W' ->aS F W W' :=λm=>m.to
 have bad:∀e W,fD S s=(e,S)->M0 w W->K (gI e) W:=λe W he m=>by
  rw[he]at J;exact J F W (h.mod m dS) (B m) λx f=>.inl f
 apply pJ h1;refine eK ?_;apply fX (fC s) 24 zF xG (bG s) (At.all L);refine sg P λw2 X=>?_;have M2:=m1.trans X;have b2:=X.hpk L id;cases a:s.may with
 |false=>
  refine jZ ?_;exact bad 2 w2 (by unfold fD;rw[ae a]) M2
 |true=>
  refine eK ?_;refine dq ?_;refine mK b2 O5 ?_;have q2:=h1.mod X dS;refine HN q2 λy U=>?_;have M3:=M2.trans U;have b3:=U.hpk b2 id;refine dq ?_;refine dq ?_;cases z:cg S.l s.num with
  |some k=>
   rw[show(some k).isSome=true from rfl,aw,ae rfl];exact bad 8 y (by unfold fD;rw[aa (by simp[a]),z];rfl) M3
  |none=>
   rw[show(none:Option Ct).isSome=false from rfl,aw,aa dw];have q3:=q2.mod U dS;obtain⟨⟨sl,h1,h2,h3,h4⟩,h5,h6,h7,h8⟩:=q3;obtain⟨sa,sc,l,-⟩:=h2.isSl;have md:M0 y y.drew:=sK;have I:=md.hpk h1 id;have b4:=md.hpk b3 id;have l4:zv y.drew sl S.l:=h2.mod md dS;have G:=M3.trans md;generalize y.drew=r at md I b4 l4 G|-;refine rD ?_;refine qW2 b4 Cn ?_;simp only[fF,cj];refine rD ?_;refine xj I ?_;by_cases d:s.last<S.day
   ·refine Ih d ?_;exact bad 51 r (by unfold fD;rw[aa (by simp[a]),z,aa (by simp),ae d]) G
   ·refine IR d ?_;refine dq ?_;refine Me sl I l ?_;apply iq (gI (S.l.length:Int)) r (by rw[l];simp[go_sem]);by_cases n:16<=S.l.length
    ·have g:(16:Int)<=(S.l.length:Int):=qZ;refine dB g ?_;exact bad 9 r (by unfold fD;rw[aa (by simp[a]),z,aa (by simp),aa d,ae n]) G
    ·have g:¬(16:Int)<=(S.l.length:Int):=qZ;refine ey g ?_;have j:M0 r r.drew:=sK;have Z:=j.hpk I id;have M:=j.hpk b4 id;have N:zv r.drew sl S.l:=l4.mod j dS;have M5:=G.trans j;generalize r.drew=u at j Z M N M5|-;refine rD ?_;refine XG sl Z l ?_;apply kI (fC s) 24 zF xG (bG s) (At.all M);apply bQ (λ_=>by simp[-Int.natCast_add,go_sem]<;>first|exact tF|exact rfl);apply XG (gI s.first) M ZD;refine xN (cells:=(dD (mf s)).toArray) ?_ ?_
     ·exact NU s 1 s.first
     refine nK [.agg (dD (mf s)).toArray] qh (dp ZW) rfl rfl (by intro v hv;rw[bN.1 hv];show(dD (mf s)).toArray.size=27;rw[cI,bV]) qZ ?_;have e0:(([.agg (dD (mf s)).toArray]:LV_).flatMap (·.cells.toList)).toArray=(dD (mf s)).toArray:=by simp[Value.cells]
     rw[e0];have E:M0 u (u.alloc (.cells (dD (mf s)).toArray kP)):=kU
     have V:zv (u.alloc (.cells (dD (mf s)).toArray kP)) (.slice (some ⟨u.heap.size,0,none⟩) 1 1) [mf s]:=
      ⟨by simp[bV],.inr ⟨_,1,[],rfl,by simp,by rw[ec,ae rfl];simp,by simp,rfl⟩⟩
     obtain⟨q,O⟩:=df u.heap.size;rw[<-O]at V|-;generalize u.alloc (.cells (dD (mf s)).toArray kP)=w6 at E V|-;have R:=E.hpk Z id;have l6:zv w6 sl S.l:=N.mod E dS;refine⟨by simp[go_sem,R,l],?_⟩;have t:=CY h8 h7 (k:=mf s) ⟨⟨P,⟨by show(0:Int)<=1;omega,by show(1:Int)<256;omega⟩,P.2.2.2.2.2.2.2.2.2⟩,a,Sp.may_price a,by show(1:Int)<=1;omega,by show(1:Int)<=3;omega⟩ z;refine EN (o:=mf s) (i:=iB S.l s.num) l6 V (λb hb Q=>?_) t.2.2 qZ λC D o7 m7 n7=>?_
     ·have:=N.lt hb;have:b=q:=by cases Q;rfl
      omega
     have c7:=m7.hpk R λf=>h4 f;obtain⟨ta,tc,T,-⟩:=o7.isSl;apply bQ (λ_=>by simp[-Int.natCast_add,go_sem]<;>first|exact tF|exact rfl);apply pl (D.setCell ⟨c,2,none⟩ C) (by rw[T];simp[go_sem,c7]);have mv:aS (λx=>x=c) D (D.setCell ⟨c,2,none⟩ C):=(aS.refl (λx=>x=c) D).sc
     have e:fD S s=(0,⟨S.day,S.l.take (iB S.l s.num)++mf s::S.l.drop (iB S.l s.num)⟩):=by
      unfold fD;rw[aa (by simp[a]),z,aa (by simp),aa d,aa n]
     rw[e]at J;have hM:=M5.trans E;have hsM:=hM.size;have hcs:c<w6.heap.size:=ay R
     have A:¬aK C c:=λf=>by
      rcases n7 c f with H|H
      ·exact h4 H
      ·omega
     refine J (λx=>x=c\/aK C x) _ ⟨⟨C,by simp[go_sem,c7],o7.mod mv λx f e=>A (e▸f),λx=>aG,A⟩,?_,h6,t.1,t.2.1⟩ ((((B hM).on m7 λx f=>.inl ((h3 x).2 (.inr f)))).on mv λx f=>.inl ((h3 x).2 (.inl f))) λx f=>?_
     ·grind
     ·rcases f with rfl|f
      ·grind
      ·rcases n7 x f with H|H
       ·grind
       ·exact fM
end Go.Proofs
set_option maxRecDepth 100000
set_option maxHeartbeats 1000000
namespace Go.Proofs
open Go Go.Vc
attribute [local congr] aZ
def Xz:mG pQ 48=true:=cy
def WC:(iQ pQ 48).length=24+1:=cy
def Zn{W:Wt_}{s:Sp}{K:Value->World->Prop}(c:∀a,hC a W.heap.size (fC s).toArray 48->M0 W a->K (bO W.heap.size 0) a):
  rx pQ (tW 48) W λv b=>vD pQ (oT 48 v (.agg (fC s).toArray)) b λa=>K v a:=by
 apply uH 24 Xz xG (bG s) WC (tm s);exact c _ (by simp[go_sem]) kU
def Pn{g:Gt}{w:Wt_}{K:aY}(v:g.Fit)
  (hK:∀M,M0 w M->K (gI g.check) M):Ca pQ 271 #[.agg (x9 g).toArray] w K:=by
 refine cN Tryz.func271 ?_;obtain⟨I,e1,z,m1⟩:=UG g w;apply bh e1;obtain⟨p,G⟩:=df w.heap.size;rw[<-G]at z|-
 have A1:At I p 0 (fC g.k.spec):=by
  have:=(At.all z).sub 0 25 (by rw[wB];omega);rw[eT,x9,dD,aH,aN (by rw[bG];omega),aC (by rw[bG];omega)]at this;exact this
 refine dq ?_;refine dq ?_;apply fX (fC g.k.spec) 24 zF xG (bG _) A1;refine Zn λj i L=>?_;obtain⟨q,B⟩:=df I.heap.size;rw[<-B]at i|-;have M2:=m1.trans L;have b:=L.hpk z id
 have fin:∀(e:Int) (W:Wt_),g.check=e->M0 j W->K (gI e) W:=λe W he m=>by
  rw[<-he];exact hK _ (M2.trans m)
 refine dq ?_;refine dq ?_;refine mK b ac0 ?_;cases y:g.a.dfl with
 |true=>
  rw[jV];exact fin 120 j (by unfold Gt.check;rw[y];rfl) oU
 |false=>
 rw[ij];refine dq ?_;refine dq ?_;refine mK b ag5 ?_;cases Q:g.a.kil with
 |true=>
  rw[jV];exact fin 121 j (by unfold Gt.check;rw[y,Q];rfl) oU
 |false=>
 rw[ij];refine dq ?_;refine dq ?_;refine mK b WZ ?_
 have a:g.check=if g.k.st=3 then 50 else if g.k.st=2 then 122
  else if g.k.st≠1\/¬g.k.spec.isPrice g.k.price\/¬aW g.buys 0 1000000000\/¬aW g.sells 0 1000000000\/¬aW g.q (-MP) MP then 2
  else if¬g.k.spec.isQty g.qty then 123 else if¬g.k.spec.isPrice g.price then 52 else if¬g.k.spec.inBand g.k.price g.price then 124 else if g.far then 125 else 0:=by
  unfold Gt.check;rw[y,Q];rfl
 by_cases x:g.k.st=3
 ·refine dB x ?_;exact fin 50 j (by rw[a,ae x]) oU
 refine ey x ?_;refine dq ?_;refine dq ?_;refine mK b WZ ?_;by_cases A:g.k.st=2
 ·refine dB A ?_;exact fin 122 j (by grind) oU
 refine ey A ?_;rw[aa x,aa A]at a;obtain⟨P,h⟩:=df (decide (g.k.st≠1\/¬g.k.spec.isPrice g.k.price=true\/¬aW g.buys 0 1000000000=true\/¬aW g.sells 0 1000000000=true\/¬aW g.q (-MP) MP=true):Bool);have d:=v.1.1;refine cG.at (λst W=>st=(.bool P,())/\M0 j W) ?_ ?_
 ·refine dq ?_;refine dq ?_;refine mK b WZ ?_;by_cases h1:g.k.st=1
  ·refine dE h1 ?_;rw[ij];apply fX (fC g.k.spec) 24 zF xG (bG _) (At.all i);refine dq ?_;refine dq ?_;refine mK b Y5 ?_;refine pH d λw3 l=>?_;have D:=l.hpk b id;cases k:g.k.spec.isPrice g.k.price with
   |false=>
    refine dq ?_;rw[jV];exact⟨by rw[h,k];simp,l⟩
   |true=>
    refine dq ?_;rw[ij];refine dq ?_;refine mK D XU ?_;apply G8;cases o:aW g.buys 0 1000000000 with
    |false=>
     refine dq ?_;rw[jV];exact⟨by rw[h,o];simp,l⟩
    |true=>
     refine dq ?_;rw[ij];refine dq ?_;refine mK D Y7 ?_;apply G8;cases n:aW g.sells 0 1000000000 with
     |false=>
      refine dq ?_;rw[jV];exact⟨by rw[h,n];simp,l⟩
     |true=>
      refine dq ?_;rw[ij];refine dq ?_;refine mK D V8 ?_;apply gF v.2.1 qZ;refine dq ?_;exact⟨by rw[h,k,o,n];simp[h1,MP],l⟩
  ·refine tX (.bool true) h1 ?_;rw[jV];exact⟨by rw[h];simp[h1],oU⟩
 rintro _ W ⟨rfl,u⟩;refine jG ?_;intro _;have b:=u.hpk b id;have i:=u.hpk i id;cases t:P with
 |true=>
  rw[jV];rw[t]at h;exact fin 2 W (by grind) u
 |false=>
 rw[ij];rw[t]at h;have s:=of_decide_eq_false h.symm;rw[aa s]at a
 have c:g.k.spec.isPrice g.k.price=true/\aW g.buys 0 1000000000=true/\aW g.sells 0 1000000000=true/\aW g.q (-MP) MP=true:=by
  refine⟨?_,?_,?_,?_⟩<;>apply aI<;>intro hc<;>apply s
  ·exact .inr (.inl hc)
  ·grind
  ·grind
  ·grind
 apply fX (fC g.k.spec) 24 zF xG (bG _) (At.all i);refine dq ?_;refine mK b Wo ?_;refine Gy d λY H=>?_;have S:=H.hpk b id;have V:=H.hpk i id;have X:=u.trans H;cases R:g.k.spec.isQty g.qty with
 |false=>
  refine jZ ?_;exact fin 123 Y (by grind) X
 |true=>
 refine eK ?_;rw[aa (by rw[R];simp)]at a;apply fX (fC g.k.spec) 24 zF xG (bG _) (At.all V);refine dq ?_;refine mK S YA ?_;refine pH d λw5 F=>?_;have E:=F.hpk S id;have Z:=F.hpk V id;have N:=X.trans F;cases hp:g.k.spec.isPrice g.price with
 |false=>
  refine jZ ?_;exact fin 52 w5 (by grind) N
 |true=>
 refine eK ?_;rw[aa (by rw[hp];simp)]at a;apply fX (fC g.k.spec) 24 zF xG (bG _) (At.all Z);refine dq ?_;refine dq ?_;refine mK E Y5 ?_;refine dq ?_;refine mK E YA ?_;refine L5 d v.1.2.2 v.2.2.2.2.1 λw6 J=>?_;have c6:=J.hpk E id;have C:=N.trans J;cases hb:g.k.spec.inBand g.k.price g.price with
 |false=>
  refine jZ ?_;exact fin 124 w6 (by grind) C
 |true=>
 refine eK ?_;rw[aa (by rw[hb];simp)]at a;apply fX (x9 g) 36 aGt nGt (wB g) (At.all c6);have f:=R;unfold Sp.isQty at f;simp only[ao]at f;have r:=Sp.may_tick f.1;refine RH c.2.2.2 c.2.1 c.2.2.1 f.2.1 ⟨r.2.2.2.1,r.2.2.2.2.1⟩ λO T=>?_;cases U:g.far with
 |true=>
  rw[jV];exact fin 125 O (by grind) (C.trans T)
 |false=>
  rw[ij];exact fin 0 O (by grind) (C.trans T)
end Go.Proofs
set_option maxRecDepth 100000
set_option maxHeartbeats 1000000
namespace Go.Proofs
open Go Go.Vc
attribute [local congr] aZ
def sZ(x:Int):List Value:=[.int .i64 x]
def ou(x:Int):(sZ x).length=1:=rfl
def uw(x:Int):(sZ x).all (·.oneCell')=true:=rfl
def wE:Tryz.prog.underlying 297=some (.slice 2):=cy
def T4:gP pQ 2 1 8=true:=cy
def IM{α:Type}{f:α->List Value}(r:∀x,(f x).length=1){w:Wt_}{v:Vt_}{n:Nat}{l:List α}(h:Rd w 1 v n (l.flatMap f))(y:n=l.length){t e:TypeId}(s:Tryz.prog.underlying t=some (.slice e))(z:Tryz.prog.cellsOf e=0+1){i:Nat}(hi:i<l.length){x:Vt_}(u:f l[i]=[x]):
  ∃b a,(∀k:IntKind,(iX t v (.int k (i:Int))).run pQ w=.ok (bO b a) w)/\∃C g d,hp w b=some (.cells C g d)/\C[a]? =some x:=by
 obtain⟨b,a,p,c,m,q⟩:=h.item r hi y;obtain⟨C,g,d,hC,o⟩:=q.get;have A:=o 0 x (by rw[u];rfl);refine⟨b,a+i*1,λk=>?_,C,g,d,bT hC,by grind⟩;have j:i<n:=qZ;rw[c];simp[go_sem,j,bD,s,Program.elem,Go.Vc.kZ z]
def Yq(x y:Int)(b:0<=x)(a:0<=y)(w:Wt_):(callFunc 350 #[.int .u64 x,gQ y,gQ 0]).run pQ w=.ok (.value (.tuple #[.int .u64 ((x+y)%18446744073709551616),gQ ((x+y) / 18446744073709551616)])) w:=by
 rw[run_callFunc_extern Tryz.func350 cy cy cy (e:=add64Entry) cy,run_add64 x y 0 b a qZ qZ];simp only[Result.andThen,ia]
def sm(l:List Int):Int×Int:=if eP l.sum then(l.sum,0)else(0,6)
def De{w:Wt_}{K:aY}{s:Vt_}{l:List Int}(h:Rd w 1 s l.length (l.flatMap sZ))(V:l.length<=1000000)(I:∀x∈l,eP x)
  (q:K (.tuple #[.int .i64 (sm l).1,gI (sm l).2]) w):Ca pQ 302 #[s] w K:=by
 refine cN Tryz.func302 ?_;obtain⟨a,c,L⟩:=h.isSl;apply iq (gI (l.length:Int)) w (by rw[L];simp[go_sem])
 refine d8 (λst W=>∃(i:Nat) (d e:Int),i<=l.length/\st=(gQ d,gI e,gI i,())/\W=w/\0<=d/\d<18446744073709551616/\d+18446744073709551616*e=(l.take i).sum/\ -(i:Int)<=e/\e<=(i:Int))
  (λst _=>match st.2.2.1 with| .int _ i=>l.length - i.toNat|_=>0) ⟨0,0,0,qZ,rfl,rfl,qZ,qZ,by simp,by simp,by simp⟩ ?_
 rintro⟨_,_,_,_⟩ W ⟨i,d,e,M,⟨⟩,rfl,h1,Q,E,S,T⟩ P A;refine lE ?_;intro _;by_cases f:i<l.length
 ·have p:(i:Int)<(l.length:Int):=qZ;refine dB p ?_;obtain⟨b,H,O,C,U,R,hC,D⟩:=IM ou h rfl wE cy f rfl;apply bh (O .i64);refine mK hC D ?_;have N:=I l[i] (av f);obtain⟨x,m⟩:=df (l[i]);rw[<-m]at N|-;obtain⟨u,J⟩:=df (if x<0 then x+18446744073709551616 else x:Int);have z:0<=u/\u<18446744073709551616:=by grind
  apply ax (gQ u) W (by simp[go_sem];rw[IntKind.wrap_u64,J];split<;>omega);refine⟨?_⟩;apply sr (Yq d u h1 z.1 W);refine dq ?_;refine dq ?_;obtain⟨g,o⟩:=df (if x<0 then -1 else 0:Int)
  have j:x / 9223372036854775808=g:=by
   rw[o];split<;>omega
  refine mK iU j ?_;obtain⟨t,B⟩:=df ((d+u) / 18446744073709551616);rw[<-B];apply ax (gI t) W (by simp[go_sem];rw[lL]);apply ax (gI (g+t)) W (by simp[go_sem];rw[lL]);apply ax (gI (e+(g+t))) W (by simp[go_sem];rw[lL]);apply ax (gI ((i+1:Nat):Int)) W (by simp[go_sem];rw[lL]);refine A _ _ ⟨i+1,(d+u)%18446744073709551616,e+(g+t),qZ,rfl,rfl,qZ,qZ,?_,qZ,qZ⟩ (by grind);rw[cq f,fN,<-E];simp only[bC,List.sum_nil,ia];rw[<-m];by_cases G:x<0
  ·grind
  ·grind
 ·obtain rfl:i=l.length:=qZ;refine eK ?_;rw[aV]at E;obtain⟨v,y⟩:=df (if d<9223372036854775808 then d else d - 18446744073709551616:Int);have n:IntKind.i64.wrap d=v:=by rw[bU,y];split<;>omega
  obtain⟨g,o⟩:=df (if d<9223372036854775808 then 0 else -1:Int)
  have j:v / 9223372036854775808=g:=by
   rw[o,y];split<;>omega
  refine dE n ?_;refine mK iU j ?_
  have F:e=g↔eP l.sum:=by
   by_cases k:d<9223372036854775808
   ·rw[ae k]at o y;constructor
    ·grind
    ·grind
   ·rw[aa k]at o y;constructor
    ·grind
    ·grind
  unfold sm at q;by_cases r:e=g
  ·have:decide (e≠g)=false:=by simp[r]
   refine ey r ?_;refine dE n ?_;rw[ae (F.1 r)]at q
   have:v=l.sum:=by
    by_cases k:d<9223372036854775808
    ·grind
    ·grind
   rw[this];exact q
  ·refine dB r ?_;rw[aa (λh=>r (F.2 h))]at q;exact q
end Go.Proofs
namespace Go.Proofs
open Go Go.Vc Go.Shelf
attribute [local congr] aZ
variable {y y1 y0 r0 u:Nat}
def Tryz.lays264_ren:Ren:=⟨λ|264=>355|n=>n,λ|53=>37|46=>263|n=>n,λ|n=>n⟩
def Tryz.lays264:Lays.n264 pQ Tryz.lays264_ren:=by constructor<;>exact ZY
def Tryz.lays134_ren:Ren:=⟨λ|134=>377|129=>294|n=>n,λ|53=>37|3=>3|4=>4|46=>263|5=>5|9=>9|n=>n,λ|n=>n⟩
def Tryz.lays134:Lays.n134 pQ Tryz.lays134_ren:=by constructor<;>exact ZY
def NS{x:Nat}(f:x<18446744073709551616)(c:y<18446744073709551616){w:Wt_}{K:aY}(d:K (.tuple #[.int .u64 ((x*y / 18446744073709551616:Nat):Int),gQ ((x*y%18446744073709551616:Nat):Int)]) w):Ca pQ 355 #[.int .u64 (x:Int),gQ (y:Int)] w K:=by
 show Ca pQ (Tryz.lays264_ren.f 264) _ _ _;exact⟨jW (Any.bits_Mul64 Tryz.lays264 x y f c w) λe g ⟨b,a⟩=>⟨_,b,by subst a;exact d⟩⟩
def S4{x:Nat}(f:x<18446744073709551616){w:Wt_}{K:aY}(c:K (gI (64 - (Lib.bitLen x:Int))) w):Ca pQ 377 #[.int .u64 (x:Int)] w K:=by
 show Ca pQ (Tryz.lays134_ren.f 134) _ _ _;exact⟨jW (Any.bits_LeadingZeros64 Tryz.lays134 (x:Int) w qZ qZ) λe d ⟨b,a⟩=>⟨_,b,by subst a;simpa using c⟩⟩
structure Hl(y1 y0 r0 u q r:Nat):Prop where
 eq:q*y1+r=r0
 ge:(r0*4294967296+u) / (y1*4294967296+y0)<=q
 le:q<=4294967297
section
variable{y1 y0 r0 u q r:Nat}
def Hl.mulE(h:Hl y1 y0 r0 u q r):q*(y1*4294967296+y0)=q*y1*4294967296+q*y0:=by
 rw[ov,iw]
def Hl.exit(h:Hl y1 y0 r0 u q r)(a:0<y1*4294967296+y0)(b:q*y0<=4294967296*r+u):q=(r0*4294967296+u) / (y1*4294967296+y0):=by
 have e:=h.mulE;have c:=h.eq;exact Nat.le_antisymm ((Nat.le_div_iff_mul_le a).2 (by rw[e];omega)) h.ge
def Hl.step(h:Hl y1 y0 r0 u q r)(c:r0<y1*4294967296+y0)(j:u<4294967296)(d:4294967296<=q\/4294967296*r+u<q*y0):1<=q/\Hl y1 y0 r0 u (q - 1) (r+y1)/\q - 1<=4294967296:=by
 have e:=h.mulE;have f:=h.eq;have g:=h.le;have i:(r0*4294967296+u) / (y1*4294967296+y0)<4294967296:=Nat.div_lt_of_lt_mul qZ
 have a:(r0*4294967296+u) / (y1*4294967296+y0)<q:=by
  rcases d with h1|h1
  ·omega
  ·exact(gm (show 0<y1*4294967296+y0 by omega)).2 (by rw[e];omega)
 have b:1<=q:=fd (aJ _) a;obtain⟨k,rfl⟩:∃k,q=k+1:=⟨q - 1,qZ⟩
 refine⟨qZ,⟨?_,by simpa using Nat.le_of_lt_succ a,qZ⟩,qZ⟩;rw[nD]at f;simp only[jz];omega
def Hl.brk(b:q<=4294967296)(c:4294967296<=r)(a:y0<4294967296):q*y0<=4294967296*r+u:=by
 have:=fL b (Nat.le_of_lt a);omega
def Hl.init(d:2147483648<=y1)(g:y0<4294967296)(h:u<4294967296)(b:r0<y1*4294967296+y0):Hl y1 y0 r0 u (r0 / y1) (r0 - r0 / y1*y1):=by
 have h1:=jh r0 y1;refine⟨qZ,?_,?_⟩
 ·obtain⟨Q,c⟩:=df ((r0*4294967296+u) / (y1*4294967296+y0));have a:=jh (r0*4294967296+u) (y1*4294967296+y0);rw[<-c]at a|-;have e:Q*(y1*4294967296+y0)=Q*y1*4294967296+Q*y0:=by rw[ov,iw]
  rw[e]at a;exact(Nat.le_div_iff_mul_le (show 0<y1 by omega)).2 qZ
 ·have f:r0<4294967298*y1:=qZ;exact Nat.le_of_lt_succ ((gm (show 0<y1 by omega)).2 f)
end
def xg(n:Nat)(h:n<18446744073709551616):IntKind.u64.wrap (n:Int)=(n:Int):=qC qZ qZ
def yV(y1 y0 r0 u:Nat):Nat:=(r0*4294967296+u) / (y1*4294967296+y0)
def ZA(g:2147483648<=y1)(o:y1<4294967296)(f:y0<4294967296)(m:u<4294967296)(e:r0<y1*4294967296+y0){w:Wt_}{J:Value×Value×Unit->World->Prop}
  (n:∀x,J (gQ ((yV y1 y0 r0 u:Nat):Int),x,()) w):nU (S:=Value×Value×Unit) (OQ (gQ (y0:Int)) (gQ (u:Int)) (gQ (y1:Int)) J) (gQ ((r0 / y1:Nat):Int),gQ ((r0 - r0 / y1*y1:Nat):Int),()) w:=by
 have t:=Hl.init g f m e
 have c:r0 - r0 / y1*y1<4294967296:=by
  have h1:r0 - r0 / y1*y1=r0%y1:=by rw[Nat.mod_eq_sub_mul_div,eE]
  rw[h1];have:=gp r0 (show 0<y1 by omega);omega
 refine d8 (λst W=>∃q r:Nat,st=(gQ (q:Int),gQ (r:Int),())/\W=w/\Hl y1 y0 r0 u q r/\r<4294967296)
  (λst _=>match st.1 with| .int _ q=>q.toNat|_=>0) ⟨_,_,rfl,rfl,t,c⟩ ?_
 rintro⟨_,_,_⟩ W ⟨q,r,⟨⟩,rfl,j,C⟩ A h;unfold OQ;intro _;have B:=j.le;refine cG.at (λst b=>st=(.bool (decide (4294967296<=q\/4294967296*r+u<q*y0)),())/\b=W) ?_ ?_
 ·by_cases d:4294967296<=q
  ·have a:(4294967296:Int)<=(q:Int):=qZ;refine bh (v:=.bool true) (by simp[go_sem,a]<;>first|exact⟨rfl,rfl⟩|exact rfl) ?_;rw[jV];exact⟨by simp[d],rfl⟩
  ·have a:¬(4294967296:Int)<=(q:Int):=qZ;refine bh (v:=.bool false) (by simp[go_sem,a]<;>first|exact⟨rfl,rfl⟩|exact rfl) ?_;rw[ij];have y:q*y0<18446744073709551616:=fd (fL (show q<=4294967295 by omega) (show y0<=4294967295 by omega)) qZ;have s:4294967296*r+u<18446744073709551616:=qZ;refine ax (gQ ((q*y0:Nat):Int)) W (by simp only[go_sem];simp;rw[<-eH,xg _ y]) ?_;refine ax (gQ ((4294967296*r:Nat):Int)) W (by simp only[go_sem];simp;rw[qC qZ qZ]) ?_;refine ax (gQ ((4294967296*r+u:Nat):Int)) W (by simp only[go_sem];simp;rw[qC qZ qZ]) ?_;refine ax (.bool (decide (4294967296*r+u<q*y0))) W (by simp only[go_sem];simp;omega) ?_;exact⟨by simp[d],rfl⟩
 rintro _ b ⟨rfl,rfl⟩;unfold QU;intro _;by_cases i:4294967296<=q\/4294967296*r+u<q*y0
 ·rw[mP i];obtain⟨s1,l,z⟩:=j.step e m i;refine ax (gQ ((q - 1:Nat):Int)) b (by simp only[go_sem];simp;rw[qC qZ qZ];omega) ?_;refine ax (gQ ((r+y1:Nat):Int)) b (by simp only[go_sem];simp;rw[qC qZ qZ]) ?_;by_cases k:4294967296<=r+y1
  ·have p:(4294967296:Int)<=((r+y1:Nat):Int):=qZ;refine ax (.bool true) b (by simp only[go_sem];simp;omega) ?_;rw[jV];have:=l.exit qZ (Hl.brk z k f);rw[this];exact n _
  ·refine ax (.bool false) b (by simp only[go_sem];simp;omega) ?_;rw[ij];exact h _ _ ⟨q - 1,r+y1,rfl,rfl,l,qZ⟩ (by show(((q - 1:Nat):Int)).toNat<((q:Int)).toNat;omega)
 ·rw[Hm i];have:=j.exit qZ qZ;rw[this];exact n _
def Ze(g:2147483648<=y1)(o:y1<4294967296)(f:y0<4294967296)(m:u<4294967296)(e:r0<y1*4294967296+y0){w:Wt_}{J:Value×Value×Unit->World->Prop}
  (n:∀x,J (gQ ((yV y1 y0 r0 u:Nat):Int),x,()) w):nU (S:=Value×Value×Unit) (OX (gQ (y0:Int)) (gQ (u:Int)) (gQ (y1:Int)) J) (gQ ((r0 / y1:Nat):Int),gQ ((r0 - r0 / y1*y1:Nat):Int),()) w:=by
 have t:=Hl.init g f m e
 have c:r0 - r0 / y1*y1<4294967296:=by
  have h1:r0 - r0 / y1*y1=r0%y1:=by rw[Nat.mod_eq_sub_mul_div,eE]
  rw[h1];have:=gp r0 (show 0<y1 by omega);omega
 refine d8 (λst W=>∃q r:Nat,st=(gQ (q:Int),gQ (r:Int),())/\W=w/\Hl y1 y0 r0 u q r/\r<4294967296)
  (λst _=>match st.1 with| .int _ q=>q.toNat|_=>0) ⟨_,_,rfl,rfl,t,c⟩ ?_
 rintro⟨_,_,_⟩ W ⟨q,r,⟨⟩,rfl,j,C⟩ A h;unfold OX;intro _;have B:=j.le;refine cG.at (λst b=>st=(.bool (decide (4294967296<=q\/4294967296*r+u<q*y0)),())/\b=W) ?_ ?_
 ·by_cases d:4294967296<=q
  ·have a:(4294967296:Int)<=(q:Int):=qZ;refine bh (v:=.bool true) (by simp[go_sem,a]<;>first|exact⟨rfl,rfl⟩|exact rfl) ?_;rw[jV];exact⟨by simp[d],rfl⟩
  ·have a:¬(4294967296:Int)<=(q:Int):=qZ;refine bh (v:=.bool false) (by simp[go_sem,a]<;>first|exact⟨rfl,rfl⟩|exact rfl) ?_;rw[ij];have y:q*y0<18446744073709551616:=fd (fL (show q<=4294967295 by omega) (show y0<=4294967295 by omega)) qZ;have s:4294967296*r+u<18446744073709551616:=qZ;refine ax (gQ ((q*y0:Nat):Int)) W (by simp only[go_sem];simp;rw[<-eH,xg _ y]) ?_;refine ax (gQ ((4294967296*r:Nat):Int)) W (by simp only[go_sem];simp;rw[qC qZ qZ]) ?_;refine ax (gQ ((4294967296*r+u:Nat):Int)) W (by simp only[go_sem];simp;rw[qC qZ qZ]) ?_;refine ax (.bool (decide (4294967296*r+u<q*y0))) W (by simp only[go_sem];simp;omega) ?_;exact⟨by simp[d],rfl⟩
 rintro _ b ⟨rfl,rfl⟩;unfold P9;intro _;by_cases i:4294967296<=q\/4294967296*r+u<q*y0
 ·rw[mP i];obtain⟨s1,l,z⟩:=j.step e m i;refine ax (gQ ((q - 1:Nat):Int)) b (by simp only[go_sem];simp;rw[qC qZ qZ];omega) ?_;refine ax (gQ ((r+y1:Nat):Int)) b (by simp only[go_sem];simp;rw[qC qZ qZ]) ?_;by_cases k:4294967296<=r+y1
  ·have p:(4294967296:Int)<=((r+y1:Nat):Int):=qZ;refine ax (.bool true) b (by simp only[go_sem];simp;omega) ?_;rw[jV];have:=l.exit qZ (Hl.brk z k f);rw[this];exact n _
  ·refine ax (.bool false) b (by simp only[go_sem];simp;omega) ?_;rw[ij];exact h _ _ ⟨q - 1,r+y1,rfl,rfl,l,qZ⟩ (by show(((q - 1:Nat):Int)).toNat<((q:Int)).toNat;omega)
 ·rw[Hm i];have:=j.exit qZ qZ;rw[this];exact n _
def J5(b:u<4294967296)(a:r0<y1*4294967296+y0):yV y1 y0 r0 u<4294967296:=by
 unfold yV;exact(gm (show 0<y1*4294967296+y0 by omega)).2 qZ
def JW(a:r0<y1*4294967296+y0):∃r,r0*4294967296+u=yV y1 y0 r0 u*(y1*4294967296+y0)+r/\r<y1*4294967296+y0:=by
 refine⟨(r0*4294967296+u)%(y1*4294967296+y0),?_,gp _ qZ⟩;unfold yV;have:=lq (r0*4294967296+u) (y1*4294967296+y0);rw[eE]at this;exact this.symm
def Vp{N p Q R:Nat}(hp:0<p)(h:N*p=Q*(y*p)+R)(b:R<y*p):N / y=Q/\N%y=R / p:=by
 have d:Q*(y*p)=Q*y*p:=by rw[iw]
 rw[d]at h;have h1:Q*y<=N:=Nat.le_of_mul_le_mul_right qZ hp;obtain⟨t,rfl⟩:∃t,N=Q*y+t:=⟨N - Q*y,qZ⟩
 rw[er]at h;have a:R=t*p:=qZ;rw[a]at b|-;have c:t<y:=Nat.lt_of_mul_lt_mul_right b;rw[Nat.mul_div_cancel _ hp];constructor
 ·rw[nH,Nat.add_mul_div_right _ _ qZ,Nat.div_eq_of_lt c,cM]
 ·rw[nH,Nat.add_mul_mod_self_right,Nat.mod_eq_of_lt c]
def TK{hi lo s:Nat}(i:hi<y)(c:lo<18446744073709551616)(hs:s<=64)(d:y*2 ^ s<18446744073709551616):
  (hi*18446744073709551616+lo)*2 ^ s=(hi*2 ^ s+lo / 2 ^ (64 - s))*18446744073709551616+lo*2 ^ s%18446744073709551616/\hi*2 ^ s+lo / 2 ^ (64 - s)<y*2 ^ s/\lo / 2 ^ (64 - s)<2 ^ s/\hi*2 ^ s<18446744073709551616:=by
 have hp:0<2 ^ s:=kW s
 have e:(18446744073709551616:Nat)=2 ^ (64 - s)*2 ^ s:=by
  rw[<-my,show 64 - s+s=64 by omega]
 have h:lo*2 ^ s / 18446744073709551616=lo / 2 ^ (64 - s):=by
  conv=>lhs;rw[e]
  exact Nat.mul_div_mul_right _ _ hp
 have f:=lq (lo*2 ^ s) 18446744073709551616;rw[h]at f;obtain⟨p,a⟩:=df (2 ^ s);obtain⟨q,b⟩:=df (lo / 2 ^ (64 - s))
 have g:q<p:=by
  rw[b,a];refine(gm (kW _)).2 ?_;rw[eE,<-e];exact c
 rw[<-a,<-b]at f;rw[<-a]at d hp;rw[<-a,<-b];have j:(hi+1)*p<=y*p:=cF p i;rw[nD]at j;refine⟨?_,qZ,g,qZ⟩;rw[er,Nat.mul_right_comm];omega
end Go.Proofs
