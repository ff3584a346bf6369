/- Part of a proof. -/
import Derived.Test.YtekbnpagidkbbaaGreatQ24
set_option linter.all false
set_option maxRecDepth 100000
set_option maxHeartbeats 1000000
namespace Go.Proofs
open Go Go.Vc
attribute [local congr] aZ
variable {d nx:Int}{b lo:Nat}{cs:Nat->List Value}{n:Nat->Nat}{ss:Nat->Value}{w:Wt_}
def U7:Tryz.prog.underlying 53=some (.slice 100):=cy
def ae1:gP pQ 100 4 24=true:=cy
def tH{K:aY}{O:Vt_}{L:List Ac}(ht:oM O (L.map λa=>[kx a]) w)(hl:L.length<=100000)
  (hK:∀c C,gD C 100 4 c L.length (L.flatMap db)->M0 w C->(∀y,aK c y->w.heap.size<=y)->K c C):Ca pQ 58 #[O] w K:=by
 refine cN Tryz.func58 ?_;refine cN Tryz.func157 ?_;obtain⟨p,s⟩:=df w.heap.size;have G:M0 w (w.alloc (.cells #[dQ] 53)):=kU;have z:hC (w.alloc (.cells #[dQ] 53)) p #[dQ] 53:=by rw[s];simp[go_sem]
 apply ax (bO p 0) (w.alloc (.cells #[dQ] 53)) (by rw[s];simp[go_sem,dQ]);generalize w.alloc (.cells #[dQ] 53)=w1 at G z|-;have Z:=ay z;let I:(Nat->Prop)->Nat->World->Prop:=λX i W=>∃sl,hC W p #[sl] 53/\gD W 100 4 sl (L.take i).length ((L.take i).flatMap db)/\(∀y,X y↔y=p\/aK sl y)/\∀y,aK sl y->p<y;refine Uu ?_;refine Dh (X0:=λx=>x=p) (T:=tAc) (fc:=db) (ht.mod G) nQ.ac I (λ_ _ _=>False) ?_ (λ_ _ _ _ _ h=>h.elim) (λx hx=>qZ) ⟨dQ,z,gD.nil _ _ _,λy=>⟨.inl,λb=>b.elim id λb=>by cases b⟩,λy b=>(by cases b)⟩ ?_ ?_ (λ_ _ _ _ _ h=>h.elim)
 ·rintro X i W W' H ⟨sl,k,g,j,q⟩ S o;exact⟨sl,S.hpk k (o _ ((j _).2 (.inl rfl))),g.mod S λy b=>o y ((j y).2 (.inr b)),j,q⟩
 ·rintro X i hi W r ⟨sl,k,g,j,q⟩ N o hdq hqW zgq KN KJ E Y;obtain⟨sa,sc,l,-⟩:=g.isSl;have D:=cq hi;apply ax sl W (by rw[l]at k|-;simp[go_sem,k]);apply bh (ab2 zgq);have R:(L.take i).length<=100000:=by grind
  refine Im (x:=L[i]) (f:=db) U7 (dp ae1) (λ_=>rfl) rfl rfl g qZ qZ λc n F A U=>?_;obtain⟨ta,tc,B,-⟩:=F.isSl;have P:=A.hpk k λhc=>by grind
  apply pl (n.setCell ⟨p,0,none⟩ c) (by rw[B];simp[go_sem,P]);have u:aS (λy=>y=p) n (n.setCell ⟨p,0,none⟩ c):=(aS.refl (λy=>y=p) n).sc;have V:hC (n.setCell ⟨p,0,none⟩ c) p #[c] 53:=by simp[go_sem,P]
  generalize n.setCell ⟨p,0,none⟩ c=J at u V|-;have hsW:=A.size;have Q:=u.size
  have v:∀y,aK c y->p<y:=λy b=>by
   rcases U y b with m|m
   ·exact q y m
   ·omega
  refine E (λy=>y=p\/aK c y) J ⟨c,V,?_,λy=>aG,v⟩ ((A.mono λy _ b=>(j y).2 (.inr b)).trans (u.mono λy _ b=>(j y).2 (.inl b))) λy b=>?_
  ·rw[D];exact F.mod u λy b e=>by grind
  ·rcases b with rfl|b
   ·grind
   ·refine⟨(U y b).imp (λm=>(j y).2 (.inr m)) id,?_⟩;have:=F.lt b;omega
 ·rintro X W d hd ⟨sl,k,g,j,q⟩ N t o;replace g:gD W 100 4 sl (L.take L.length).length ((L.take L.length).flatMap db):=g;rw[aV]at g;obtain⟨sa,sc,l,-⟩:=g.isSl;refine Nn ?_;simp only[jx];apply ax sl W (by rw[l]at k|-;simp[go_sem,k]);refine yH t λJ M=>?_;refine hK sl J (g.mod M λy b e=>?_) (((G.on N λy b=>fM)).on M λy b=>fM) λy b=>by grind
  rcases(o y ((j y).2 (.inr b))).2 with m|m
  ·have:=q y b;omega
  ·omega
abbrev uL:TypeId:=58
def RM:Nat->TypeId
 |3=>100
 |4=>120
 |5=>124
 |_=>132
def BD:Nat->TypeId
 |3=>53
 |4=>54
 |5=>55
 |_=>56
def Np:Nat->Nat
 |3=>4
 |4=>27
 |5=>4
 |_=>6
def ZP:Nat->Nat
 |3=>24
 |4=>208
 |5=>24
 |_=>40
def stU(i:Nat):Tryz.prog.underlying (BD i)=some (.slice (RM i)):=by
 unfold BD RM;split<;>kernel_rfl
def YC(i:Nat):gP pQ (RM i) (Np i) (ZP i)=true:=by
 unfold RM Np ZP;split<;>kernel_rfl
def ab3(i:Nat):Np i<=27/\ZP i<=208:=by
 unfold Np ZP;split<;>exact⟨qZ,qZ⟩
def uE(d n f:Int)(ss:Nat->Value):List Value:=[.int .u32 d,gQ n,gI f,ss 3,ss 4,ss 5,ss 6,ss 7]
def BM(d n f:Int)(ss:Nat->Value):Value:=.agg (uE d n f ss).toArray
def rF{α:Type}(f:Nat->α)(i:Nat)(x:α):Nat->α:=λj=>if j=i then x else f j
structure Ul(w:Wt_)(b:Nat)(d nx fu:Int)(ss:Nat->Value)(n:Nat->Nat)(cs:Nat->List Value)(lo:Nat):Prop where
 at_:hC w b (uE d nx fu ss).toArray uL
 own:∀i,3<=i->i<=7->gD w (RM i) (Np i) (ss i) (n i) (cs i)
 dj:∀i j y,3<=i->i<=7->3<=j->j<=7->aK (ss i) y->aK (ss j) y->i=j
 nw:∀i y,3<=i->i<=7->aK (ss i) y->lo<=y/\y≠b
def Ul.mod{F:NP_}{w' :Wt_}{a:Int}(h:Ul w b d nx a ss n cs lo)(e:aS F w w')(h1:¬F b)(g:∀i y,3<=i->i<=7->aK (ss i) y->¬F y):Ul w' b d nx a ss n cs lo:=
 ⟨e.hpk h.at_ h1,λi c f=>(h.own i c f).mod e λy j=>g i y c f j,h.dj,h.nw⟩
def iY(W:Wt_){b:Nat}(i:Nat)(hi:i<8):(iF uL (bO b 0) i).run pQ W=.ok (bO b i) W:=by
 have:i=0\/i=1\/i=2\/i=3\/i=4\/i=5\/i=6\/i=7:=qZ;rcases this with rfl|rfl|rfl|rfl|rfl|rfl|rfl|rfl<;>simp[go_sem]
def Ul.ld{j:Int}(h:Ul w b d nx j ss n cs lo)(i:Nat)(hi:3<=i)(g:i<=7):(iL (BD i) (bO b i)).run pQ w=.ok (ss i) w:=by
 obtain⟨a,c,f,-⟩:=(h.own i hi g).isSl;have e:=h.at_;have:i=3\/i=4\/i=5\/i=6\/i=7:=qZ;rcases this with rfl|rfl|rfl|rfl|rfl<;>(simp only[BD];rw[f];simp only[uE]at e;rw[f]at e;simp[go_sem,e])
def WF{H:Int}(h:Ul w b d nx H ss n cs lo)(i:Nat)(hi:3<=i)(u:i<=7){xv:Vt_}{c:LV_}{K:World->Prop}(N:xv.cells.toList=c)(x:c.length=Np i)(B:c.all (·.oneCell')=true)(hn:n i<=1000000)(W:lo<=w.heap.size)
  (hK:∀o k,Ul k b d nx H (rF ss i o) (rF n i (n i+1)) (rF cs i (cs i++c)) lo->aS (λy=>y=b\/aK (ss i) y) w k->(∀y,aK o y->aK (ss i) y\/w.heap.size<=y)->K k):
  rx pQ (pN (BD i) 1 [(0,xv)]) w λv w1=>rx pQ (eZ #[BD i,BD i] (BD i) [ss i,v]) w1 λv2 w2=>rv pQ (iF uL (bO b 0) i) w2 λv3 w3=>ru pQ (iS (BD i) v3 v2) w3 K:=by
 have J:xv.cells.size=Np i:=by rw[<-Array.length_toList,N,x]
 have I:=ab3 i;refine nK [xv] (stU i) (dp (YC i)) rfl rfl (by intro v hv;rw[bN.1 hv];exact J) qZ ?_;have U:(([xv]:LV_).flatMap (·.cells.toList)).toArray=c.toArray:=by simp[N]
 rw[U];have R:M0 w (w.alloc (.cells c.toArray (RM i))):=kU
 have r1:Rd (w.alloc (.cells c.toArray (RM i))) (Np i) (.slice (some ⟨w.heap.size,0,none⟩) 1 1) 1 c:=
  ⟨by rw[x];omega,.inr ⟨_,0,1,rfl,az _,At.all (bT (by rw[ec,ae rfl]))⟩⟩
 have s:=h.own i hi u;have hbl:b<w.heap.size:=ay h.at_;refine jJ (stU i) (stU i) (dp (YC i)) (s.mod R dS) r1 B (ci (fL (show n i+1<=1000001 by omega) I.2) (by decide)) λo k O m' X=>?_;apply bh (iY k i qZ);have V:(w.alloc (.cells c.toArray (RM i))).heap.size=w.heap.size+1:=cm ..;have F:aS (aK (ss i)) w k:=(R.mono (G:=aK (ss i)) λ_ _ h=>h.elim).trans m'
 have q:∀y,aK o y->aK (ss i) y\/w.heap.size<=y:=λy f=>by
  rcases X y f with m|m
  ·exact .inl m
  ·exact fM
 have r:=F.hpk h.at_ λx=>(h.nw i b hi u x).2 rfl;obtain⟨a,cc,E,-⟩:=O.isSl
 have D:(iS (BD i) (bO b i) o).run pQ k=.ok () (k.setCell ⟨b,i,none⟩ o)/\hC (k.setCell ⟨b,i,none⟩ o) b (uE d nx H (rF ss i o)).toArray uL:=by
  obtain⟨a0,c0,L,-⟩:=s.isSl;have:i=3\/i=4\/i=5\/i=6\/i=7:=qZ;rcases this with rfl|rfl|rfl|rfl|rfl<;>(simp only[uE]at r;rw[L]at r;refine⟨by simp only[BD];rw[E];simp[go_sem,r],by rw[E];simp[go_sem,r,uE,rF]⟩)
 apply gg D.1;have M:aS (λy=>y=b) k (k.setCell ⟨b,i,none⟩ o):=(aS.refl (λy=>y=b) k).sc
 have C:∀y,aK o y->lo<=y/\y≠b:=λy f=>by
  rcases q y f with m|m
  ·exact h.nw i y hi u m
  ·grind
 refine hK o _ ⟨D.2,λj l p=>?_,λj1 j2 y P S T Q z t=>?_,λj y l p f=>?_⟩ ((F.mono λy _ f=>.inr f).trans (M.mono λy _ f=>.inl f)) q
 ·unfold rF;by_cases g:j=i
  ·subst g;rw[ae rfl,ae rfl,ae rfl];exact O.mod M λy f e=>(C y f).2 e
  ·rw[aa g,aa g,aa g];exact((h.own j l p).mod F λy f x=>g (h.dj j i y l p hi u f x)).mod M λy f e=>(h.nw j y l p f).2 e
 ·unfold rF at z t;have Y:∀j,3<=j->j<=7->aK (ss j) y->y<w.heap.size:=λj Z b2 f=>(h.own j Z b2).lt f;by_cases h1:j1=i
  ·by_cases A:j2=i
   ·rw[h1,A]
   ·rw[ae h1]at z;rw[aa A]at t;rcases q y z with m|m
    ·rw[h1];exact h.dj i j2 y hi u T Q m t
    ·grind
  ·rw[aa h1]at z;by_cases A:j2=i
   ·rw[ae A]at t;rcases q y t with m|m
    ·rw[A];exact h.dj j1 i y P S hi u z m
    ·grind
   ·rw[aa A]at t;exact h.dj j1 j2 y P S T Q z t
 ·unfold rF at f;by_cases g:j=i
  ·grind
  ·rw[aa g]at f;exact h.nw j y l p f
def jD(x:Int×Od):List Value:=gU x.1::dx x.2
def LN(A:List Ac)(C:List Ct)(P:List Po)(O B:List (Int×Od)):Nat->Nat
 |3=>A.length
 |4=>C.length
 |5=>P.length
 |6=>O.length
 |7=>B.length
 |_=>0
def LC(A:List Ac)(C:List Ct)(P:List Po)(O B:List (Int×Od)):Nat->List Value
 |3=>A.flatMap db
 |4=>C.flatMap dD
 |5=>P.flatMap dy
 |6=>O.flatMap jD
 |7=>B.flatMap jD
 |_=>[]
abbrev SB(w:Wt_)(b:Nat)(d nx fu:Int)(ss:Nat->Value)(A:List Ac)(C:List Ct)(P:List Po)(O B:List (Int×Od))(lo:Nat):Prop:=Ul w b d nx fu ss (LN A C P O B) (LC A C P O B) lo
def XS(ss:Nat->Value)(b:Nat):Nat->Prop:=λy=>y=b\/∃i,3<=i/\i<=7/\aK (ss i) y
section
variable{w:Wt_}{b lo:Nat}{d nx fu:Int}{ss:Nat->Value}{A:List Ac}{C:List Ct}{P:List Po}{O B:List (Int×Od)}
def SB.modX{H:NP_}{w' :Wt_}(h:SB w b d nx fu ss A C P O B lo)(c:aS H w w')(a:∀y,XS ss b y->¬H y):SB w' b d nx fu ss A C P O B lo:=
 h.mod c (a b (.inl rfl)) λi y g e f=>a y (.inr ⟨i,g,e,f⟩)
def SB.ltX(h:SB w b d nx fu ss A C P O B lo){y:Nat}(a:XS ss b y):y<w.heap.size:=by
 rcases a with rfl|⟨i,e,c,a⟩
 ·exact ay h.at_
 ·exact(h.own i e c).lt a
def Jl{i:Nat}(hi:3<=i)(q:i<=7){xv:Vt_}{c:LV_}{o:List Ac}{C' :List Ct}{p:List Po}{n l:List (Int×Od)}{K:World->Prop}(h:SB w b d nx fu ss A C P O B lo)(I:xv.cells.toList=c)(F:c.length=Np i)(k:c.all (·.oneCell')=true)(J:LN A C P O B i<=1000000)(r:lo<=w.heap.size)
  (Q:rF (LN A C P O B) i (LN A C P O B i+1)=LN o C' p n l)(N:rF (LC A C P O B) i (LC A C P O B i++c)=LC o C' p n l)
  (E:∀f e,SB e b d nx fu f o C' p n l lo->aS (XS ss b) w e->(∀y,XS f b y->XS ss b y\/w.heap.size<=y)->K e):
  rx pQ (pN (BD i) 1 [(0,xv)]) w λv t=>rx pQ (eZ #[BD i,BD i] (BD i) [ss i,v]) t λG L=>rv pQ (iF uL (bO b 0) i) L λz D=>ru pQ (iS (BD i) z G) D K:=by
 refine WF h i hi q I F k J r λu e M H x=>E (rF ss i u) e ?_ (H.mono λy _ a=>a.imp id λa=>⟨i,hi,q,a⟩) λy a=>?_
 ·grind
 ·rcases a with a|⟨j,m,s,a⟩
  ·exact .inl (.inl a)
  ·unfold rF at a;by_cases g:j=i
   ·rw[ae g]at a;exact(x y a).imp (λh=>.inr ⟨i,hi,q,h⟩) id
   ·rw[aa g]at a;exact .inl (.inr ⟨j,m,s,a⟩)
end
def pX{α:Type}{f g:Nat->α}{i:Nat}{x:α}(h1:g i=x)(a:∀j,j≠i->g j=f j):rF f i x=g:=by
 funext j;unfold rF;by_cases h:j=i
 ·rw[ae h,h,h1]
 ·rw[aa h,a j h]
def LN4(A:List Ac)(C:List Ct)(P:List Po)(O B:List (Int×Od))(k:Ct):rF (LN A C P O B) 4 (LN A C P O B 4+1)=LN A (C++[k]) P O B:=
 pX (by simp[LN]) λj a=>by unfold LN;split<;>first|rfl|exact absurd rfl a
def LC4(A:List Ac)(C:List Ct)(P:List Po)(O B:List (Int×Od))(k:Ct):rF (LC A C P O B) 4 (LC A C P O B 4++dD k)=LC A (C++[k]) P O B:=
 pX (by simp[LC]) λj a=>by unfold LC;split<;>first|rfl|exact absurd rfl a
def LN5(A:List Ac)(C:List Ct)(P:List Po)(O B:List (Int×Od))(k:Po):rF (LN A C P O B) 5 (LN A C P O B 5+1)=LN A C (P++[k]) O B:=
 pX (by simp[LN]) λj a=>by unfold LN;split<;>first|rfl|exact absurd rfl a
def LC5(A:List Ac)(C:List Ct)(P:List Po)(O B:List (Int×Od))(k:Po):rF (LC A C P O B) 5 (LC A C P O B 5++dy k)=LC A C (P++[k]) O B:=
 pX (by simp[LC]) λj a=>by unfold LC;split<;>first|rfl|exact absurd rfl a
def LN6(A:List Ac)(C:List Ct)(P:List Po)(O B:List (Int×Od))(k:Int×Od):rF (LN A C P O B) 6 (LN A C P O B 6+1)=LN A C P (O++[k]) B:=
 pX (by simp[LN]) λj a=>by unfold LN;split<;>first|rfl|exact absurd rfl a
def LC6(A:List Ac)(C:List Ct)(P:List Po)(O B:List (Int×Od))(k:Int×Od):rF (LC A C P O B) 6 (LC A C P O B 6++jD k)=LC A C P (O++[k]) B:=
 pX (by simp[LC]) λj a=>by unfold LC;split<;>first|rfl|exact absurd rfl a
def LN7(A:List Ac)(C:List Ct)(P:List Po)(O B:List (Int×Od))(k:Int×Od):rF (LN A C P O B) 7 (LN A C P O B 7+1)=LN A C P O (B++[k]):=
 pX (by simp[LN]) λj a=>by unfold LN;split<;>first|rfl|exact absurd rfl a
def LC7(A:List Ac)(C:List Ct)(P:List Po)(O B:List (Int×Od))(k:Int×Od):rF (LC A C P O B) 7 (LC A C P O B 7++jD k)=LC A C P O (B++[k]):=
 pX (by simp[LC]) λj a=>by unfold LC;split<;>first|rfl|exact absurd rfl a
def UC(n:Int)(o:Od)(W:Wt_):(Instr.build 132 #[(0,gU n),(1,jQ o)]).run pQ W=.ok (.agg (jD (n,o)).toArray) W:=by
 simp[go_sem,jQ,dx,jD]
def YP{W:Wt_}{p:Nat}{n f:Int}(h:hC W p (uE d n f ss).toArray uL):(iL uL (bO p 0)).run pQ W=.ok (BM d n f ss) W:=
 fK (P:=pQ) (t:=uL) (n:=7) cy cy rfl (At.all h)
def T5{W:Wt_}{p:Nat}{cs:Array Value}{n f:Int}(h:hC W p cs uL)(q:cs.size=8)(hs:∀i,3<=i->i<=7->∃a n c,ss i=.slice a n c):
  ∃j,(iS uL (bO p 0) (BM d n f ss)).run pQ W=.ok () j/\hp j p=some (.cells (uE d n f ss).toArray uL (0,0))/\aS (λb=>b=p) W j:=by
 have o:cs.toList.length=8:=by simpa using q
 have r:Tryz.prog.cellsOf uL=7+1:=cy
 have g:(uE d n f ss).all (·.oneCell')=true:=by
  obtain⟨_,_,_,s⟩:=hs 3 qZ qZ;obtain⟨_,_,_,u⟩:=hs 4 qZ qZ;obtain⟨_,_,_,k⟩:=hs 5 qZ qZ;obtain⟨_,_,_,m⟩:=hs 6 qZ qZ;obtain⟨_,_,_,l⟩:=hs 7 qZ qZ;unfold uE;rw[s,u,k,m,l];rfl
 have e:=sy (P:=pQ) (t:=uL) (b:=p) (off:=0) (cs:=uE d n f ss) r rfl h (by show 0+8<=cs.size;omega) g;refine⟨W.setRow p (iC cs.toList 0 (uE d n f ss)).toArray,?_,?_,(aS.refl (λb=>b=p) W).setRow (.inl rfl) _⟩
 ·have:(oT uL (bO p 0) (BM d n f ss)).run pQ W=_:=e;unfold oT at this;exact this
 ·rw[xM,ae rfl,h,lR (by rw[o];rfl)]
def EX(s:Vt_):Nat->Value:=λi=>if i=3 then s else dQ
def Ay(W:Wt_):∃a,(iA uL true (.tuple #[])).run pQ W=.ok (bO W.heap.size 0) a/\hC a W.heap.size (uE 0 0 0 (EX dQ)).toArray uL/\M0 W a:=
 ⟨W.alloc (.cells (uE 0 0 0 (EX dQ)).toArray uL),by simp[go_sem,uE,EX,dQ],by simp[go_sem],(aS.refl _ W).alloc _⟩
def Ji(d n f:Int)(s:Vt_)(W:Wt_)(hs:∃a n c,s=.slice a n c):(Instr.build uL #[(0,gU d),(1,gQ n),(2,gI f),(3,s)]).run pQ W=.ok (BM d n f (EX s)) W:=by
 obtain⟨_,_,_,rfl⟩:=hs;simp[go_sem,BM,uE,EX,dQ]
end Go.Proofs
set_option maxRecDepth 100000
set_option maxHeartbeats 1000000
namespace Go.Proofs
open Go Go.Vc
attribute [local congr] aZ
variable {S:bo}
def ya(S:bo)(i:Nat):List Po:=(S.nums.take i).flatMap S.led.holders
def vQ(S:bo)(i:Nat):List (Int×Od):=(S.nums.take i).flatMap λn=>(S.bk n).all.map λo=>(n,o)
def vH(S:bo)(i:Nat):List (Int×Od):=(S.nums.take i).flatMap λn=>(S.bd n).map λo=>(n,o)
def ae9{i:Nat}(hi:i<S.cal.l.length):S.nums.take (i+1)=S.nums.take i++[S.cal.l[i].spec.num]:=by
 have a:i<S.nums.length:=by unfold bo.nums;rw[ah];exact hi
 rw[cq a];simp[bo.nums]
def OI(h:S.led.Ok)(i:Nat):(ya S i).length<=64*i:=by
 unfold ya;induction i with
 |zero=>simp
 |succ i a=>
  by_cases b:i<S.nums.length
  ·rw[cq b,cJ,ag];have:=qj h S.nums[i];simp only[bR,ff,bg];omega
  ·rw[aC qZ];rw[aC qZ]at a;omega
def Bp(h:rC S)(i:Nat):(vQ S i).length<=200*i:=by
 unfold vQ;induction i with
 |zero=>simp
 |succ i a=>
  by_cases b:i<S.nums.length
  ·rw[cq b,cJ,ag];have h1:=(h.side S.nums[i] true).1;have d:=(h.side S.nums[i] false).1
   have e:((S.bk S.nums[i]).all.map λo=>(S.nums[i],o)).length<=200:=by
    rw[ah];unfold Bk.all;rw[ag];omega
   simp only[bR,ff,bg];omega
  ·rw[aC qZ];rw[aC qZ]at a;omega
def AN(h:rC S)(i:Nat):(vH S i).length<=50*i:=by
 unfold vH;induction i with
 |zero=>simp
 |succ i a=>
  by_cases b:i<S.nums.length
  ·rw[cq b,cJ,ag];have h1:=h.bdl S.nums[i];simp only[bR,ff,bg,ah];omega
  ·rw[aC qZ];rw[aC qZ]at a;omega
section
variable{w:Wt_}{K:aY}{v c l mb md:Nat}{A:List (Int×Nat)}{D:List (Int×Value)}{fp:Pt->Nat->Prop}{S:bo}
def xo(h:pO w v c l mb md A D fp S)(hok:S.Ok)
  (hK:∀G b L w',SB w' b S.cal.day S.next S.led.fund G S.led.all S.cal.l (S.nums.flatMap S.led.holders) (S.nums.flatMap λn=>(S.bk n).all.map λo=>(n,o)) (S.nums.flatMap λn=>(S.bd n).map λo=>(n,o)) L->w.heap.size<=L->M0 w w' ->w.heap.size<=b->K (BM S.cal.day S.next S.led.fund G) w'):
  Ca pQ 17 #[dL v] w K:=by
 unfold dL;refine cN Tryz.func17 ?_;obtain⟨n0,hn0⟩:=df w.heap.size
 have hlay:∃w1,w.alloc (.cells #[dL v] 24)=w1/\w1.heap.size=n0+1/\M0 w w1/\hC w1 n0 #[dL v] 24:=by
  refine⟨_,rfl,by simp[go_sem,hn0],(aS.refl _ w).alloc _,?_⟩;simp[go_sem,hn0]
 obtain⟨w1,hw1,hsz1,V,b1⟩:=hlay;apply ax (bO n0 0) w1 (by rw[<-hw1,hn0];rfl);clear hw1;obtain⟨w2,e2,b2,m2⟩:=Ay w1;apply bh e2;obtain⟨p2,hp2⟩:=df (n0+1);rw[hsz1,<-hp2]at b2|-;have M2:=V.trans m2;have h2:=h.md0 M2;have g0:=m2.hpk b1 id;have lv0:∀{W},hC W n0 #[dL v] 24->(iL 24 (bO n0 0)).run pQ W=.ok (dL v) W:=λhW=>by simp[go_sem,hW,dL]
 apply bh (lv0 g0);apply CE h2.blk;refine eK ?_;apply bh (lv0 g0);simp only[dL,cj];refine bh (uf 1 qZ _) (bh (ld1 _ h2.blk) ?_);refine Dv h2.led λw3 m3=>?_;have hg0:S.led.getV 0=(⟨0,S.led.fund,false,false⟩,0):=rfl;rw[hg0];refine dq ?_;refine dq ?_;obtain⟨w4,w5,e4,e5,b5,m5⟩:=Uq ⟨0,S.led.fund,false,false⟩ w3;obtain⟨ra,hra⟩:=df w3.heap.size;refine bh e4 (gg e5 ?_);rw[<-hra]at b5|-;have M5:=(M2.trans m3).trans m5;have h5:=h.md0 M5;have g5:=m5.hpk (m3.hpk g0 id) id;have p5:=m5.hpk (m3.hpk b2 id) id;obtain⟨L,hlo⟩:=df w5.heap.size;have hp25:p2<L:=by rw[hlo];exact ay p5
 have R:S.led.Ok:=hok.led.led;have hal:=R.len;refine cG.at (λst W=>∃p s,st=(.pointer (some ⟨p,0,none⟩),())/\SB W p S.cal.day S.next S.led.fund (EX s) S.led.all [] [] [] [] L/\L<=p/\M0 w5 W) ?_ ?_
 ·have U:M0 w5 w5.drew:=sK;have hsu:w5.drew.heap.size=w5.heap.size:=rfl;have hu:=h5.md0 U;have gu:=U.hpk g5 id;have bu:=U.hpk b5 id
  try dsimp only
  generalize w5.drew=u at U hsu hu gu bu|-
  have fx:∀W,M0 u W->(iL 2 (bO ra 1)).run pQ W=.ok (gI S.led.fund) W/\(iL 37 (bO v 4)).run pQ W=.ok (gQ S.next) W/\(iL 24 (bO n0 0)).run pQ W=.ok (dL v) W/\(iL 88 (bO v 1)).run pQ W=.ok (eu l) W/\(iL 86 (bO v 0)).run pQ W=.ok (fF c) W:=λW m=>by
   have hW:=hu.md0 m;have bW:=m.hpk bu id;exact⟨by simp[go_sem,bW,db],ld4 _ hW.blk,lv0 (m.hpk gu id),ld1 _ hW.blk,ld0 _ hW.blk⟩
  have fin:∀(W:Wt_) (p:Nat) (s:Vt_) (K2:World->Prop),M0 u W->hC W p (uE 0 0 0 (EX dQ)).toArray uL->L<=p->gD W 100 4 s S.led.all.length (S.led.all.flatMap db)->(∀y,aK s y->L<=y/\y≠p)->
    (∀z,SB z p S.cal.day S.next S.led.fund (EX s) S.led.all [] [] [] [] L->M0 w5 z->K2 z)->ru pQ (iS uL (bO p 0) (BM S.cal.day S.next S.led.fund (EX s))) W K2:=by
   intro W p s K2 m hb hsb ho hs hk;obtain⟨sa,sc,T,-⟩:=ho.isSl
   obtain⟨z,e',b',m'⟩:=T5 (d:=S.cal.day) (n:=S.next) (f:=S.led.fund) (ss:=EX s) hb rfl λi _ _=>by
    unfold EX;split
    ·exact⟨_,_,_,T⟩
    ·exact⟨none,0,0,rfl⟩
   refine gg e' (hk z ⟨b',λi hi hj=>?_,λi j y hi1 hi2 hj1 hj2 h1 h2=>?_,λi y hi hj g=>?_⟩ ((U.trans m).on m' λy g=>fM))
   ·have hi' :i=3\/i=4\/i=5\/i=6\/i=7:=qZ;rcases hi' with rfl|rfl|rfl|rfl|rfl
    ·exact ho.mod m' λy g e=>(hs y g).2 e
    ·exact gD.nil _ _ _
    ·exact gD.nil _ _ _
    ·exact gD.nil _ _ _
    ·exact gD.nil _ _ _
   ·unfold EX at h1 h2;by_cases hi:i=3
    ·by_cases hj:j=3
     ·rw[hi,hj]
     ·rw[aa hj]at h2;cases h2
    ·rw[aa hi]at h1;cases h1
   ·unfold EX at g;by_cases hi3:i=3
    ·rw[ae hi3]at g;exact hs y g
    ·rw[aa hi3]at g;cases g
  have rU:=fx u oU;apply cK rU.2.2.1;simp only[dL,cj];refine bQ (uf 0 qZ) (cK rU.2.2.2.2 ?_);apply cK rU.2.2.1;simp only[dL,cj];refine bQ (uf 4 qZ) (cK rU.2.1 ?_);refine Mg (bO ra 1) (cK rU.1 ?_);apply cK rU.2.2.1;simp only[dL,cj];refine bQ (uf 1 qZ) (cK rU.2.2.2.1 ?_);refine⟨?_,?_⟩
  ·apply J8 hu.cal;refine⟨rU.2.2.2.1,rU.2.2.1,rU.1,rU.2.1,rU.2.2.1,?_,?_⟩
   ·refine rM hu.led λgv u1 ht V=>?_;have r1:=fx u1 V;refine⟨r1.1,r1.2.1,r1.2.2.1,?_,?_⟩
    ·refine tH ht.m qZ λs u2 o2 m2 n2=>?_;have M:=V.trans m2;have J:=fx u2 M;refine⟨J.1,J.2.1,J.2.2.1,?_⟩;obtain⟨sa,sc,T,-⟩:=o2.isSl;apply bQ (λW=>Ji _ _ _ _ W ⟨_,_,_,T⟩);obtain⟨u3,e3,b3,F⟩:=Ay u2;apply bh e3;have r3:=fx u3 (M.trans F);refine⟨r3.1,r3.2.1,r3.2.2.1,?_⟩;have hs2:=V.size;have hs3:=m2.size;exact fin u3 _ s _ (M.trans F) b3 qZ (o2.mod F dS) (λy g=>⟨by have:=n2 y g;omega,by have:=o2.lt g;omega⟩) λz hW' mW' =>⟨_,s,rfl,hW',qZ,mW'⟩
    ·obtain⟨u2,e2',Q,t⟩:=Ay u1;apply bh e2';have J:=fx u2 (V.trans t);refine⟨J.1,J.2.1,J.2.2.1,?_⟩;refine tH (ht.m.mod t) qZ λs u3 o3 F n3=>?_;have M:=(V.trans t).trans F;have r3:=fx u3 M;refine⟨r3.1,r3.2.1,r3.2.2.1,?_⟩;obtain⟨sa,sc,T,-⟩:=o3.isSl;apply bQ (λW=>Ji _ _ _ _ W ⟨_,_,_,T⟩);have hs1:=V.size;have hs2:=ay Q;exact fin u3 _ s _ M (F.hpk Q id) qZ o3 (λy g=>⟨by have:=n3 y g;omega,by have:=n3 y g;omega⟩) λz hW' mW' =>⟨_,s,rfl,hW',qZ,mW'⟩
   ·obtain⟨u2,e2',Q,t⟩:=Ay u;apply bh e2';have J:=fx u2 t;refine⟨J.2.2.2.1,J.2.2.1,J.1,J.2.1,J.2.2.1,?_⟩;refine rM (hu.md0 t).led λgv u1 ht V=>?_;have r1:=fx u1 (t.trans V);refine⟨r1.1,r1.2.1,r1.2.2.1,?_⟩;refine tH ht.m qZ λs u3 o3 F n3=>?_;have M:=(t.trans V).trans F;have r3:=fx u3 M;refine⟨r3.1,r3.2.1,r3.2.2.1,?_⟩;obtain⟨sa,sc,T,-⟩:=o3.isSl;apply bQ (λW=>Ji _ _ _ _ W ⟨_,_,_,T⟩);have hs1:=V.size;have hs2:=ay Q;exact fin u3 _ s _ M (F.hpk (V.hpk Q id) id) qZ o3 (λy g=>⟨by have:=n3 y g;omega,by have:=n3 y g;omega⟩) λz hW' mW' =>⟨_,s,rfl,hW',qZ,mW'⟩
  ·obtain⟨u2,e2',Q,t⟩:=Ay u;apply bh e2';have J:=fx u2 t;refine⟨J.2.2.2.1,J.2.2.1,J.1,J.2.1,J.2.2.1,J.2.2.2.2,J.2.2.1,?_⟩;apply J8 (hu.md0 t).cal;refine⟨J.2.2.2.1,J.2.2.1,J.1,J.2.1,J.2.2.1,?_⟩;refine rM (hu.md0 t).led λgv u1 ht V=>?_;have r1:=fx u1 (t.trans V);refine⟨r1.1,r1.2.1,r1.2.2.1,?_⟩;refine tH ht.m qZ λs u3 o3 F n3=>?_;have M:=(t.trans V).trans F;have r3:=fx u3 M;refine⟨r3.1,r3.2.1,r3.2.2.1,?_⟩;obtain⟨sa,sc,T,-⟩:=o3.isSl;apply bQ (λW=>Ji _ _ _ _ W ⟨_,_,_,T⟩);have hs1:=V.size;have hs2:=ay Q;exact fin u3 _ s _ M (F.hpk (V.hpk Q id) id) qZ o3 (λy g=>⟨by have:=n3 y g;omega,by have:=n3 y g;omega⟩) λz hW' mW' =>⟨_,s,rfl,hW',qZ,mW'⟩
 rintro _ w6 ⟨p,s,rfl,q6,hsb,m6⟩;refine jG ?_;intro _;have hs6:=m6.size;have h6:=h5.md0 m6;have g6:=m6.hpk g5 id;have p6:=m6.hpk p5 id;have M6:=M5.trans m6;apply bh (lv0 g6);simp only[dL,cj];refine bh (uf 0 qZ _) (bh (ld0 _ h6.blk) ?_);refine Dn h6.cal λgv w7 ht m7=>?_;have h7:=h6.md0 m7;have g7:=m7.hpk g6 id;have p7:=m7.hpk p6 id;have q7:=SB.modX q6 m7 dS;have M7:=M6.trans m7;have hfl:∀pt y,fp pt y->y<n0:=λpt y g=>by rw[hn0];exact h.lt g
 have hXlo:∀{G:Nat->Value} {W:Wt_} {C:List Ct} {P:List Po} {O B:List (Int×Od)},SB W p S.cal.day S.next S.led.fund G S.led.all C P O B L->∀y,XS G p y->L<=y:=λhh y g=>by
  rcases g with rfl|⟨i,hi,hj,g⟩
  ·exact hsb
  ·exact(hh.nw i y hi hj g).1
 have hs7:=m7.size;have hcl:S.cal.l.length<=16:=hok.cal.len;let I:(Nat->Prop)->Nat->World->Prop:=λX i W=>∃G,SB W p S.cal.day S.next S.led.fund G S.led.all (S.cal.l.take i) (ya S i) (vQ S i) (vH S i) L/\∀y,X y↔XS G p y;refine Uu ?_;refine OP (X0:=XS (EX s) p) (fv:=λk:Ct=>.agg (dD k).toArray) (asg:=λx W K=>rx pQ (tW kP) W λv w1=>vD pQ (oT kP v x) w1 λw2=>K v w2) (Pv:=FW kP dD) (xs:=S.cal.l) ht KA Ec I (λ_ _ _=>False) ?_ (λ_ _ _ _ _ h=>h.elim) (λy g=>q7.ltX g) ⟨EX s,q7,λ_=>aG⟩ ?_ ?_ (λ_ _ _ _ _ h=>h.elim)
 ·rintro X i W z H ⟨G,i1,i2⟩ hm hX;exact⟨G,i1.modX hm λy g=>hX y ((i2 y).2 g),i2⟩
 ·rintro X i hi W q vv ⟨G,i1,i2⟩ mW hX hdq hqW ⟨rfl,zgq⟩ ⟨rec0,hrec⟩ KN KJ hKN hKJ;obtain⟨k,hk⟩:=df (S.cal.l[i]);have hk' :k=S.cal.l[i]'hi:=hk;rw[<-hk']at zgq;obtain⟨n,hn⟩:=df k.spec.num;have hi16:i<16:=by have:i<S.cal.l.length:=hi;omega
  have hct:=cq (l:=S.cal.l) hi;rw[<-hk']at hct;have hnt:=ae9 (S:=S) hi;have hnk:S.cal.l[i].spec.num=n:=by rw[hn,hk']
  rw[hnk]at hnt;have N:∀y,XS (EX s) p y->L<=y:=hXlo q7;have hW:=h7.mod mW λpt y g Y=>by have:=hfl pt y g;have:=N y Y;omega
  have gW:=mW.hpk g7 λY=>by have:=N _ Y;omega
  have hlX:∀y,XS G p y->y<q/\y≠w7.heap.size+1/\L<=y:=λy g=>by
   have h1:=hX y ((i2 y).2 g);refine⟨h1.1,?_,hXlo i1 y g⟩;rcases h1.2 with Z|Z
   ·have:=q7.ltX Z;omega
   ·omega
  refine ax (bO q 0) W (by simp[go_sem]) (ax (bO q 0) W (by simp[go_sem]) ?_);refine V4 (gU n) zgq Ox hn ?_
  have hlay:∃W2,(W.alloc (.cells #[.int .u32 0] 45)).setCell ⟨W.heap.size,0,none⟩ (gU n)=W2/\M0 W W2/\hC W2 W.heap.size #[.int .u32 n] 45:=
   ⟨_,rfl,kU.setCell (.inr (az _)) _ _,by simp[go_sem]⟩
  obtain⟨W2,hW2,mW2,bn⟩:=hlay;apply ax (bO W.heap.size 0) (W.alloc (.cells #[.int .u32 0] 45)) (by simp[go_sem]);apply pl W2 (by rw[<-hW2];simp[go_sem]);clear hW2;obtain⟨pn,hpn⟩:=df W.heap.size;rw[<-hpn]at bn|-;have hpnl:=ay bn;have i3:=i1.modX mW2 dS;have gq2:=mW2.hpk zgq id;have hV2:=hW.md0 mW2;have g2:=mW2.hpk gW id;have rc2:=mW2.keep (hrec:hp W _=_) id;have hsW2:=mW2.size;have hn0W:n0<W.heap.size:=ay gW;have hlW:w7.heap.size+1<W.heap.size:=qZ;have ln:∀{z},hC z pn #[.int .u32 n] 45->(iL 45 (bO pn 0)).run pQ z=.ok (gU n) z:=λhh=>by simp[go_sem,hh]
  have hnX:∀y,XS G p y->y≠n0/\y≠pn/\y≠w7.heap.size+1/\∀pt,¬fp pt y:=λy g=>by
   have h1:=hlX y g;have h2:=i1.ltX g;exact⟨qZ,qZ,h1.2.1,λpt Y=>by have:=hfl pt y Y;omega⟩
  let ST:World->Prop:=λz=>aS (XS G p) W2 z;have keep:∀{z},ST z->pO z v c l mb md A D fp S/\hC z n0 #[dL v] 24/\hC z pn #[.int .u32 n] 45/\(∃r,hp z (w7.heap.size+1)=some (.loop r)):=λm=>⟨hV2.mod m λpt y g Y=>(hnX y Y).2.2.2 pt g,m.hpk g2 λY=>(hnX _ Y).1 rfl,m.hpk bn λY=>(hnX _ Y).2.1 rfl,rec0,m.keep rc2 λY=>(hnX _ Y).2.2.1 rfl⟩
  have sub:∀{E:Nat->Value} {z W'' :Wt_},W2.heap.size<=z.heap.size->(∀y,XS E p y->XS G p y\/W2.heap.size<=y)->aS (XS E p) z W'' ->ST z->ST W'' :=by
   intro E z W'' hle hs m hst;exact aS.on (hst:aS (XS G p) W2 z) m λy g=>hs y g
  refine bh (iY W2 4 qZ) (bh (i3.ld 4 qZ qZ) ?_);apply fX (dD k) 26 Hk tM (bV k) (At.all gq2);refine Jl (i:=4) qZ qZ (c:=dD k) i3 rfl (bV k) (lV k) (by show(S.cal.l.take i).length<=_;rw[aB];omega) qZ (LN4 _ _ _ _ _ k) (LC4 _ _ _ _ _ k) λss1 W3 q3 m3 n3=>?_;have st3:ST W3:=m3;have U:M0 W3 W3.drew:=sK;have q4:=q3.modX U dS;have st4:ST W3.drew:=st3.trans (U.to);have hs4:W3.drew.heap.size=W3.heap.size:=rfl
  try dsimp only
  generalize W3.drew=W4 at U q4 st4 hs4|-;have hs23:=st4.size;obtain⟨hV4,g4,n4,-⟩:=keep st4;apply cK (lv0 g4);simp only[dL,cj];refine bQ (uf 1 qZ) (cK (ld1 _ hV4.blk) ?_);apply cK (ln n4);refine vI hV4.led (by have:=sw hok.cal hok.led;omega) λgv5 W5 ht5 m5=>?_;have q5:=q4.modX m5 dS;have st5:ST W5:=st4.trans (m5.to);obtain⟨-,-,-,hrc5⟩:=keep st5;have hs5:=st5.size;obtain⟨H,hH⟩:=df (S.led.holders n);rw[<-hH]at ht5;have hHl:H.length<=64:=by rw[hH];exact qj R n
  have hpl:=OI R i;refine Uu ?_
  refine JR (l0:=w7.heap.size+1) (X0:=XS ss1 p) (fv:=ox) (asg:=λx W K=>rv pQ (iA 124 true (.tuple #[])) W λv w1=>ru pQ (iS 124 v x) w1 λw2=>K v w2) (Pv:=FW 124 dy) (xs:=H) hrc5 ht5.m (AB nQ.po) Ec
   (λX j z=>∃E,SB z p S.cal.day S.next S.led.fund E S.led.all (S.cal.l.take i++[k]) (ya S i++H.take j) (vQ S i) (vH S i) L/\∀y,X y↔XS E p y) (λ_ _ _=>False) ?_ (λ_ _ _ _ _ h=>h.elim) (λy g=>q5.ltX g) ⟨ss1,by rw[dR,bg];exact q5,λ_=>aG⟩ ?_ ?_ (λ_ _ _ h=>h.elim)
  ·rintro X j z W'' H' ⟨E,j1,j2⟩ hm hX';exact⟨E,j1.modX hm λy g=>hX' y ((j2 y).2 g),j2⟩
  ·rintro X j hj W6 qv vv ⟨E,j1,j2⟩ mW6 hX6 hdq6 hqW6 ⟨rfl,gv6⟩ KN2 KJ2 hKN2 hKJ2;have htk:=cq (l:=H) hj;have lo6:L<=W6.heap.size:=by have:=mW6.size;omega
   refine bh (iY W6 5 qZ) (bh (j1.ld 5 qZ qZ) ?_);have gv6' :=gv6;unfold dy at gv6';apply ax (ox H[j]) W6 (by simp[go_sem,gv6',ox]);refine Jl (i:=5) qZ qZ (c:=dy H[j]) j1 rfl rfl rfl (by show(ya S i++H.take j).length<=_;rw[ag,aB];omega) lo6 (LN5 _ _ _ _ _ H[j]) (LC5 _ _ _ _ _ H[j]) λss2 W7 q7' m7' n7' =>?_;refine hKN2 (XS ss2 p) W7 ⟨ss2,by rw[htk,<-aH];exact q7',λ_=>aG⟩ (m7'.mono λy _ g=>(j2 y).2 g) λy g=>⟨(n7' y g).imp (j2 y).2 id,q7'.ltX g⟩
  ·rintro X W6 ⟨ss2,j1,j2⟩ mW6 hX6;rw[show H.take H.length=H from aV]at j1;have s12:∀y,XS ss1 p y->XS G p y\/W2.heap.size<=y:=n3
   have s2:∀y,XS ss2 p y->XS G p y\/W2.heap.size<=y:=λy g=>by
    rcases(hX6 y ((j2 y).2 g)).2 with Z|Z
    ·exact s12 y Z
    ·exact fM
   have st6:ST W6:=sub hs5 s12 mW6 st5;refine Nn ?_;simp only[jx];have mdr6:M0 W6 W6.drew:=sK;have q6' :=j1.modX mdr6 dS;have st7:ST W6.drew:=st6.trans (mdr6.to)
   try dsimp only
   generalize W6.drew=W7 at mdr6 q6' st7|-;obtain⟨hV7,g7',n7',-⟩:=keep st7;apply cK (lv0 g7');simp only[dL,cj];have hsome:(cg S.cal.l n).isSome=true:=ry.1 (by rw[hn];exact aR (by rw[hk];exact av hi));obtain⟨b,hb,hB⟩:=lkB hV7 (n:=n) hsome;refine bQ (uf 2 qZ) (cK (ZJ _ hV7.blk) ?_);apply cK (ln n7');apply nt (Ea hV7.mbk hb);refine zt hB λgv8 W8 ht8 m8=>?_;have q8:=q6'.modX m8 dS;have st8:ST W8:=st7.trans (m8.to);obtain⟨-,-,-,hrc8⟩:=keep st8;have hs8:=st8.size;obtain⟨Al,hAl⟩:=df ((S.bk n).all);have ht8' :oM gv8 (Al.map λo=>[jQ o]) W8:=by rw[hAl];exact ht8
   have hAll:Al.length<=200:=by rw[hAl];exact hB.all.1
   have hol:=Bp hok.ord i;refine Uu ?_
   refine JR (l0:=w7.heap.size+1) (X0:=XS ss2 p) (fv:=jQ) (asg:=λx W K=>rv pQ (iA ji true (.tuple #[])) W λv w1=>ru pQ (iS ji v x) w1 λw2=>K v w2) (Pv:=FW ji dx) (xs:=Al) hrc8 ht8' (AB nQ.od) Ec
    (λX j z=>∃E,SB z p S.cal.day S.next S.led.fund E S.led.all (S.cal.l.take i++[k]) (ya S i++H) (vQ S i++(Al.take j).map λo=>(n,o)) (vH S i) L/\(∀y,X y↔XS E p y)) (λ_ _ _=>False) ?_ (λ_ _ _ _ _ h=>h.elim) (λy g=>q8.ltX g) ⟨ss2,by simpa using q8,λ_=>aG⟩ ?_ ?_ (λ_ _ _ h=>h.elim)
   ·rintro X j z W'' H' ⟨E,j1,j2⟩ hm hX';exact⟨E,j1.modX hm λy g=>hX' y ((j2 y).2 g),j2⟩
   ·rintro X j hj W9 qv vv ⟨E,j1',j2'⟩ mW9 hX9 hdq9 hqW9 ⟨rfl,gv9⟩ KN2 KJ2 hKN2 hKJ2;have htk:=cq (l:=Al) hj;have lo9:L<=W9.heap.size:=by have:=mW9.size;omega
    have n9:=(keep (sub hs8 s2 mW9 st8)).2.2.1;refine bh (iY W9 6 qZ) (bh (j1'.ld 6 qZ qZ) ?_);apply bh (ln n9);apply bh (kX (o:=Al[j]) (At.all gv9));apply bh (UC n Al[j] W9);refine Jl (i:=6) qZ qZ (c:=jD (n,Al[j])) j1' rfl rfl rfl (by show(vQ S i++(Al.take j).map _).length<=_;rw[ag,ah,aB];omega) lo9 (LN6 _ _ _ _ _ (n,Al[j])) (LC6 _ _ _ _ _ (n,Al[j])) λss3 W10 q10 m10 n10=>?_;refine hKN2 (XS ss3 p) W10 ⟨ss3,by rw[htk,aM,<-aH];exact q10,λ_=>aG⟩ (m10.mono λy _ g=>(j2' y).2 g) λy g=>⟨(n10 y g).imp (j2' y).2 id,q10.ltX g⟩
   ·rintro X9 W9 ⟨ss3,j1',j2'⟩ mW9 hX9;rw[show Al.take Al.length=Al from aV]at j1'
    have s3:∀y,XS ss3 p y->XS G p y\/W2.heap.size<=y:=λy g=>by
     rcases(hX9 y ((j2' y).2 g)).2 with Z|Z
     ·exact s2 y Z
     ·exact fM
    have st9:ST W9:=sub hs8 s2 mW9 st8;refine Nn ?_;simp only[jx];have mdr9:M0 W9 W9.drew:=sK;have q10:=j1'.modX mdr9 dS;have st10:ST W9.drew:=st9.trans (mdr9.to)
    try dsimp only
    generalize W9.drew=W10 at mdr9 q10 st10|-;obtain⟨hV10,g10,n10,-⟩:=keep st10;apply cK (lv0 g10);simp only[dL,cj];refine bQ (uf 3 qZ) (cK (VN _ hV10.blk) ?_);apply cK (ln n10);apply nt (zZ hV10.mbd n);obtain⟨Bd,hBd⟩:=df (S.bd n);have hBdl:Bd.length<=50:=by rw[hBd];exact hok.ord.bdl n
    have hbd10:qp W10 (kQ D n) Bd:=by rw[hBd];exact hV10.bd n
    obtain⟨ba,bc,hbs,-⟩:=hbd10.isSl;apply qy (gI (Bd.length:Int)) (by rw[hbs];simp[go_sem]);have hbl:=AN hok.ord i;have hs10:=st10.size
    refine d8 (λst z=>∃(j:Nat) (E:Nat->Value),j<=Bd.length/\st=(gI j,())/\SB z p S.cal.day S.next S.led.fund E S.led.all (S.cal.l.take i++[k]) (ya S i++H) (vQ S i++Al.map λo=>(n,o)) (vH S i++(Bd.take j).map λo=>(n,o)) L/\(∀y,XS E p y->XS G p y\/W2.heap.size<=y)/\ST z)
     (λst _=>match st.1 with| .int _ i=>Bd.length - i.toNat|_=>0) ⟨0,ss3,qZ,rfl,by simpa using q10,s3,st10⟩ ?_
    rintro _ W11 ⟨j,ss4,hj,rfl,t1,t2,t3⟩ KM hKM;refine lE ?_;intro _;obtain⟨hV11,g11,n11,-⟩:=keep t3;have hbd11:qp W11 (kQ D n) Bd:=by rw[hBd];exact hV11.bd n
    have hs11:=t3.size;by_cases hlt:j<Bd.length
    ·have hlt' :(j:Int)<(Bd.length:Int):=qZ;refine dB hlt' ?_;obtain⟨pj,p1,p2'⟩:=WL hbd11.rd hlt;refine bh p1 (bh p2' ?_);obtain⟨wa,ea,ba',ma⟩:=jE W11;apply bh ea;obtain⟨q9,hq9⟩:=df W11.heap.size;rw[<-hq9]at ba' |-;obtain⟨wb,eb,bb,mb'⟩:=jf (o' :=Bd[j]) ba';apply gg eb;have Mb:M0 W11 wb:=ma.on mb' λb hb=>fM;have tb:=t1.modX Mb dS;have stb:ST wb:=t3.trans (Mb.to);have nb:=(keep stb).2.2.1;have hsb' :=stb.size;refine bh (iY wb 7 qZ) (bh (tb.ld 7 qZ qZ) ?_);apply bh (ln nb);apply bh (kX (o:=Bd[j]) (At.all bb));apply bh (UC n Bd[j] wb);refine Jl (i:=7) qZ qZ (c:=jD (n,Bd[j])) tb rfl rfl rfl (by show(vH S i++(Bd.take j).map _).length<=_;rw[ag,ah,aB];omega) qZ (LN7 _ _ _ _ _ (n,Bd[j])) (LC7 _ _ _ _ _ (n,Bd[j])) λss5 wc qc mc nc=>?_;apply ax (gI ((j+1:Nat):Int)) wc (by simp[go_sem];rw[lL]);refine hKM _ _ ⟨j+1,ss5,qZ,rfl,by rw[cq hlt,aM,<-aH];exact qc,λy g=>?_,sub hsb' t2 mc stb⟩ (by show Bd.length - (((j+1:Nat):Int)).toNat<Bd.length - ((j:Int)).toNat;omega);rcases nc y g with Z|Z
     ·exact t2 y Z
     ·exact fM
    ·obtain rfl:j=Bd.length:=qZ;refine eK ?_;rw[aV]at t1;refine hKN (XS ss4 p) W11 ⟨ss4,?_,λ_=>aG⟩ ((mW2.to).trans (t3.mono λy _ g=>(i2 y).2 g)) λy g=>⟨?_,t1.ltX g⟩
     ·have e1:ya S (i+1)=ya S i++H:=by unfold ya;rw[hnt,cJ,hH];simp
      have e2:vQ S (i+1)=vQ S i++Al.map λo=>(n,o):=by unfold vQ;rw[hnt,cJ,hAl];simp
      have e3:vH S (i+1)=vH S i++Bd.map λo=>(n,o):=by unfold vH;rw[hnt,cJ,hBd];simp
      rw[hct,e1,e2,e3];exact t1
     ·rcases t2 y g with Z|Z
      ·exact .inl ((i2 y).2 Z)
      ·exact fM
 ·rintro X W d hd ⟨G,i1,i2⟩ mW hdef hX
  have i1' :SB W p S.cal.day S.next S.led.fund G S.led.all S.cal.l (S.nums.flatMap S.led.holders) (S.nums.flatMap λn=>(S.bk n).all.map λo=>(n,o)) (S.nums.flatMap λn=>(S.bd n).map λo=>(n,o)) L:=by
   have e0:S.cal.l.length=S.nums.length:=by unfold bo.nums;rw[ah]
   have e1:ya S S.cal.l.length=S.nums.flatMap S.led.holders:=by unfold ya;rw[e0,aV]
   have e2:vQ S S.cal.l.length=S.nums.flatMap λn=>(S.bk n).all.map λo=>(n,o):=by unfold vQ;rw[e0,aV]
   have e3:vH S S.cal.l.length=S.nums.flatMap λn=>(S.bd n).map λo=>(n,o):=by unfold vH;rw[e0,aV]
   have i1'' :SB W p S.cal.day S.next S.led.fund G S.led.all (S.cal.l.take S.cal.l.length) (ya S S.cal.l.length) (vQ S S.cal.l.length) (vH S S.cal.l.length) L:=i1;rw[aV,e1,e2,e3]at i1'';exact i1''
  have N:∀y,XS (EX s) p y->L<=y:=hXlo q7;have pW:=mW.hpk p7 λY=>by have:=N _ Y;omega
  refine Nn ?_;simp only[jx];apply bh (YP i1'.at_)
  obtain⟨W2,e2',Q,t⟩:=T5 (d:=S.cal.day) (n:=S.next) (f:=S.led.fund) (ss:=G) pW rfl λi hi hj=>by
   obtain⟨a,c,hs,-⟩:=(i1'.own i hi hj).isSl;exact⟨_,_,_,hs⟩
  apply gg e2'
  have hdX:¬XS G p d:=λY=>by
   rcases(hX d ((i2 d).2 Y)).2 with Z|Z
   ·have:=q7.ltX Z;omega
   ·omega
  refine yH (t.hpk hdef qZ) λW3 F=>?_;apply cK (YP (F.hpk Q qZ));have hlo5:=M5.size;refine hK G p L W3 ((i1'.modX t λy g e=>by have:=hXlo i1' y g;omega).modX F λy g e=>hdX (e▸g)) qZ ?_ qZ;exact((M7.on mW λy g=>.inr (by have:=N y g;omega)).on t λy g=>fM).on F λy g=>fM
end
end Go.Proofs
namespace Go.Proofs
open Go Go.Vc
def JQ:Sp:=⟨1,1,1,1,50,100,⟨#[5,-5,0,0,0,0,0,0,0,0,0,0,0,0,0,0],rfl⟩,0,5,100⟩
def Xp:Cm:={kw with kind:=1,acct:=1,amt:=1000}
def Xd:Cm:={kw with kind:=1,acct:=2,amt:=1000}
def Xj:Cm:={kw with kind:=3,spec:=JQ}
def Xe:Cm:={kw with kind:=5,acct:=1,ct:=1,buy:=true,ty:=1,price:=100,qty:=3}
def Xx:Cm:={kw with kind:=5,acct:=2,ct:=1,ty:=1,price:=100,qty:=3}
def Zf:Cm:={kw with kind:=11,ct:=1,price:=110}
def X1:Cm:={kw with kind:=12}
def Zd:Cm:={kw with kind:=2,acct:=1,amt:=1016}
def VF:=bo.empty.apply Xp
def U9:=VF.2.apply Xd
def V9:=U9.2.apply Xj
def U8:=V9.2.apply Xe
def Nt:=U8.2.apply Xx
def Lq:=Nt.2.apply Zf
def vP:=Lq.2.apply X1
def WM:=vP.2.apply Zd
def Wl:VF.1.err=0:=cy
def WS:U9.1.err=0:=cy
def Xa:V9.1.err=0:=cy
def Vl:U8.1.err=0:=cy
def WH:Nt.1.err=0:=cy
def Vt:Lq.1.err=0:=cy
def Vh:vP.1.err=0:=cy
def RW:vP.2.led.all.map (·.cash)=[1030,970]:=cy
def WN:WM.1.err=161:=cy
def Tc:kw.Fit:=by
 refine⟨?_,?_,?_,?_,?_,?_,?_,?_,?_⟩<;>first|exact lN|skip
def Ru:JQ.Fit:=by
 refine⟨lN,lN,lN,lN,lN,lN,?_,lN,lN,lN⟩;intro x a;have h:x∈([5,-5,0,0,0,0,0,0,0,0,0,0,0,0,0,0]:List Int):=a;have:x=5\/x= -5\/x=0:=by simpa using h
 rcases this with rfl|rfl|rfl<;>exact lN
def Na:Xp.Fit/\Xd.Fit/\Xj.Fit/\Xe.Fit/\Xx.Fit/\Zf.Fit/\X1.Fit/\Zd.Fit:=by
 have a:=Tc.2.2.2.2.2.1;refine⟨?_,?_,?_,?_,?_,?_,?_,?_⟩
 ·exact⟨lN,lN,lN,lN,lN,a,lN,lN,lN⟩
 ·exact⟨lN,lN,lN,lN,lN,a,lN,lN,lN⟩
 ·exact⟨lN,lN,lN,lN,lN,Ru,lN,lN,lN⟩
 ·exact⟨lN,lN,lN,lN,lN,a,lN,lN,lN⟩
 ·exact⟨lN,lN,lN,lN,lN,a,lN,lN,lN⟩
 ·exact⟨lN,lN,lN,lN,lN,a,lN,lN,lN⟩
 ·exact⟨lN,lN,lN,lN,lN,a,lN,lN,lN⟩
 ·exact⟨lN,lN,lN,lN,lN,a,lN,lN,lN⟩
end Go.Proofs
set_option maxRecDepth 100000
set_option maxHeartbeats 1000000
namespace Go.Proofs
open Go Go.Vc
attribute [local congr] aZ
variable {w:Wt_}
abbrev X8:TypeId:=36
def PQ:Tryz.prog.underlying X8=some (.slice lZ):=cy
def VE{s:Vt_}{L:List Cm}(h:Rd w 35 s L.length (L.flatMap jO)){i:Nat}(hi:i<L.length):
  ∃b a,(∀W,(iX X8 s (gI (i:Int))).run pQ W=.ok (bO b a) W)/\At w b a (jO L[i]):=by
 obtain⟨b,a,e,c,d,f⟩:=h.item fW hi rfl;exact⟨b,a+i*35,λW=>by rw[c];simp[go_sem,hi,bD],f⟩
def Gl{b off:Nat}{c:Cm}(h:At w b off (jO c)):(qm lZ (bO b off)).run pQ w=.ok (vg c) w:=fK Qs MG (fW c) h
def ZO:Tryz.prog.built lZ [(0,gB 1),(1,gU 1),(4,gI 1000)]=some (jO Xp).toArray:=cy
def bk2:Tryz.prog.built lZ [(0,gB 1),(1,gU 2),(4,gI 1000)]=some (jO Xd).toArray:=cy
def bk3:Tryz.prog.built lZ [(0,gB 3),(5,.agg (fC JQ).toArray)]=some (jO Xj).toArray:=cy
def bk4:Tryz.prog.built lZ [(0,gB 5),(1,gU 1),(2,gU 1),(7,.bool true),(8,gB 1),(9,gI 100),(10,gI 3)]=some (jO Xe).toArray:=cy
def bk5:Tryz.prog.built lZ [(0,gB 5),(1,gU 2),(2,gU 1),(8,gB 1),(9,gI 100),(10,gI 3)]=some (jO Xx).toArray:=cy
def bk6:Tryz.prog.built lZ [(0,gB 11),(2,gU 1),(9,gI 110)]=some (jO Zf).toArray:=cy
def bk7:Tryz.prog.built lZ [(0,gB 12)]=some (jO X1).toArray:=cy
def bk8:Tryz.prog.built lZ [(0,gB 2),(1,gU 1),(4,gI 1016)]=some (jO Zd).toArray:=cy
def Rz:Sp:={JQ with shifts:=⟨#[0,0,0,0,0,0,0,0,0,0,0,0,0,0,0,0],rfl⟩}
def RB:Sp:={JQ with shifts:=⟨#[5,0,0,0,0,0,0,0,0,0,0,0,0,0,0,0],rfl⟩}
def ad7:Tryz.prog.built 48 [(0,gU 1),(1,gB 1),(2,gI 1),(3,gI 1),(4,gI 50),(5,gI 100),(8,gU 5),(9,gI 100)]=some (fC Rz).toArray:=cy
def Y6:mG pQ 48=true:=cy
def XP:iQ pQ 48=fC BI:=cy
def K4{K:aY}(H:∀r,M0 w r->K (.agg (fC JQ).toArray) r):Ca pQ 128 #[] w K:=by
 refine cN Tryz.func128 ?_;apply nE Y6;rw[XP];obtain⟨z,v⟩:=df w.heap.size;have A:M0 w (w.alloc (.cells (fC BI).toArray 48)):=kU;have f:hC (w.alloc (.cells (fC BI).toArray 48)) z (fC BI).toArray 48:=by rw[v];simp[go_sem]
 rw[<-v];generalize w.alloc (.cells (fC BI).toArray 48)=e at A f|-;apply lS ad7;apply nE Y6;rw[XP];obtain⟨q,u⟩:=df e.heap.size;have g:M0 e (e.alloc (.cells (fC BI).toArray 48)):=kU;have x:hC (e.alloc (.cells (fC BI).toArray 48)) q (fC BI).toArray 48:=by rw[u];simp[go_sem]
 rw[<-u];generalize e.alloc (.cells (fC BI).toArray 48)=L at g x|-;have E:z<q:=by have:=ay f;omega
 have G:=g.hpk f id
 have put:∀{W:Wt_} {p:Nat} {a b:Sp} {i:World->Prop},hC W p (fC a).toArray 48->(∀n,hC n p (fC b).toArray 48->aS (λy=>y=p) W n->i n)->vD pQ (oT 48 (bO p 0) (.agg (fC b).toArray)) W i:=by
  intro W p a b i h F;refine qX xG (bG b) h (by rw[cI,bG,bG];omega) (tm b) (F _ ?_ ((aS.refl (λy=>y=p) W).setRow (.inl rfl) _));have I:W.heap[p]? =some (.cells (fC a).toArray 48 (0,0)):=h;show(W.setRow p _).heap[p]? =_;rw[d9,ae rfl,I,lR (by show(fC b).length=(fC a).length;rw[bG,bG])]
 refine put (b:=Rz) x λd t s=>?_;have J:=s.hpk G qZ;refine dq ?_;refine dE bD ?_;apply pl (d.setCell ⟨q,6,none⟩ (gI 5)) (by simp[go_sem,t,Rz,JQ,fC,uy]);have m:aS (λy=>y=q) d (d.setCell ⟨q,6,none⟩ (gI 5)):=(aS.refl (λy=>y=q) d).sc;have k:hC (d.setCell ⟨q,6,none⟩ (gI 5)) q (fC RB).toArray 48:=by simp[go_sem,t,Rz,RB,JQ,fC,uy]
 generalize d.setCell ⟨q,6,none⟩ (gI 5)=c at m k|-;refine dq ?_;refine dE bD ?_;apply pl (c.setCell ⟨q,7,none⟩ (gI (-5))) (by simp[go_sem,k,RB,JQ,fC,uy]);have l:aS (λy=>y=q) c (c.setCell ⟨q,7,none⟩ (gI (-5))):=(aS.refl (λy=>y=q) c).sc;have o:hC (c.setCell ⟨q,7,none⟩ (gI (-5))) q (fC JQ).toArray 48:=by simp[go_sem,k,RB,JQ,fC,uy]
 generalize c.setCell ⟨q,7,none⟩ (gI (-5))=M at l o|-;apply fX (fC JQ) 24 zF xG (bG _) (At.all o);refine put (b:=JQ) (l.hpk (m.hpk J qZ) qZ) λD C B=>?_;apply kI (fC JQ) 24 zF xG (bG _) (At.all C);refine H D ((((((A.trans g).on s λy j=>fM).on m λy j=>fM).on l λy j=>fM).on B λy j=>fM))
end Go.Proofs
set_option maxRecDepth 100000
set_option maxHeartbeats 1000000
namespace Go.Proofs
open Go Go.Vc
attribute [local congr] aZ
def ad8:∃y,gP pQ lZ 35 y=true/\True:=⟨((Tryz.prog.info? lZ).map (·.bytes)).getD 0,by kernel_rfl,trivial⟩
def Kg(r:Rp)(sT sG sA:Vt_)(W:Wt_):(Instr.field 42 (wT r sT sG sA) 0).run pQ W=.ok (gI r.err) W:=by
 simp[Instr.field,go_sem,part,isAgg,asAgg,wT]
def BE:List Cm:=[Xp,Xd,Xj,Xe,Xx]
def GD:Nat->bo
 |0=>bo.empty
 |1=>VF.2
 |2=>U9.2
 |3=>V9.2
 |4=>U8.2
 |_=>Nt.2
def V3:bo.empty.apply Xp=VF:=by unfold VF;rfl
def VT:VF.2.apply Xd=U9:=by rw[U9]
def V0:U9.2.apply Xj=V9:=by rw[V9]
def Vf:V9.2.apply Xe=U8:=by rw[U8]
def Vr:U8.2.apply Xx=Nt:=by rw[Nt]
def PX:GD 0=bo.empty:=by rw[GD]
def UB:GD 1=VF.2:=by rw[GD]
def T7:GD 2=U9.2:=by rw[GD]
def Ub:GD 3=V9.2:=by rw[GD]
def UW:GD 4=U8.2:=by rw[GD]
def UZ:GD 5=Nt.2:=by rw[GD]<;>decide
def ab6:(BE.flatMap jO).length=BE.length*35:=by simp[BE,fW]
def wU{A B:bo}{Y:Rp×bo}{c:Cm}(h1:A.apply c=Y)(a:Y.1.err=0)(b:B=Y.2)(d:c.Fit):(A.apply c).1.err=0/\(A.apply c).2=B/\c.Fit:=by subst h1 b;exact⟨a,rfl,d⟩
def Fi:∀{i:Nat} (hi:i<BE.length),((GD i).apply BE[i]).1.err=0/\((GD i).apply BE[i]).2=GD (i+1)/\BE[i].Fit:=by
 intro i hi;have k:i<5:=hi;obtain⟨c,a,d,b,f,l,h,j⟩:=Na;have g:i=0\/i=1\/i=2\/i=3\/i=4:=qZ;rcases g with rfl|rfl|rfl|rfl|rfl
 ·have e:BE[0]'hi=Xp:=rfl;rw[e];exact wU (by rw[PX,V3]) Wl UB c
 ·have e:BE[1]'hi=Xd:=rfl;rw[e];exact wU (by rw[UB,VT]) WS T7 a
 ·have e:BE[2]'hi=Xj:=rfl;rw[e];exact wU (by rw[T7,V0]) Xa Ub d
 ·have e:BE[3]'hi=Xe:=rfl;rw[e];exact wU (by rw[Ub,Vf]) Vl UW b
 ·have e:BE[4]'hi=Xx:=rfl;rw[e];exact wU (by rw[UW,Vr]) WH UZ f
def Ow:∀i,i<=5->(GD i).Ok:=by
 intro i d;induction i with
 |zero=>rw[PX];exact Gu
 |succ n a=>
  obtain⟨_,b,c⟩:=Fi (i:=n) (by show n<5;omega);rw[<-b];exact sC (a qZ) c
def Ot{w:Wt_}{K:aY}(V:∀v F m,oP m v F Nt.2->Nt.2.Ok->M0 w m->(∀y,F y->w.heap.size<=y)->K (.tuple #[dL v,.bool true]) m):Ca pQ 45 #[] w K:=by
 refine cN Tryz.func45 ?_;refine NT λv l O G I L=>?_;refine ax (.bool false) O (by simp[dL,go_sem]) ?_;rw[ij];refine lS ZO (lS bk2 (K4 λf A=>?_));refine lS bk3 (lS bk4 (lS bk5 ?_));obtain⟨y,a,_⟩:=ad8
 refine nK (e:=lZ) (sz:=35) (BE.map vg) PQ (dp a) rfl rfl (λx Z=>by
  obtain⟨c,_,rfl⟩:=aL.1 Z;show(jO c).toArray.size=35;rw[cI,fW]) (by decide) ?_
 have d:((BE.map vg).flatMap (·.cells.toList))=BE.flatMap jO:=rfl;rw[d];obtain⟨z,H⟩:=df f.heap.size;have C:hp (f.alloc (.cells (BE.flatMap jO).toArray lZ)) z=some (.cells (BE.flatMap jO).toArray lZ (0,0)):=by rw[H];simp[go_sem]
 have B:M0 f (f.alloc (.cells (BE.flatMap jO).toArray lZ)):=(aS.refl _ f).alloc _;rw[<-H];generalize f.alloc (.cells (BE.flatMap jO).toArray lZ)=n at C B|-;refine iq (gI 5) n (by simp[go_sem]) ?_;have q:=A.trans B;have t:∀y,l y->y<z:=λy a=>by have:=G.lt a;have:=A.size;omega
 have D:=G.md0 q;rw[<-PX]at D
 refine d8 (λs W=>∃(i:Nat) (F:NP_),s.2.2.1=gI i/\i<=5/\oP W v F (GD i)/\aS l n W/\(∀y,F y->l y\/n.heap.size<=y))
  (λs _=>match s.2.2.1 with| .int _ i=>(5 - i).toNat|_=>0) ⟨0,l,rfl,qZ,D,aS.refl _ _,λy a=>.inl a⟩ ?_
 rintro⟨a1,a2,a3,a4⟩ W ⟨i,F,J,X,Q,M,N⟩ KN p;simp only at J;subst J;refine lE ?_;intro _;have P:M0 w W:=((I.trans q).on M λy a=>.inr (L y a))
 by_cases g:i<5
 ·refine ax (.bool true) W (by simp[go_sem];omega) ?_;rw[jV];have U:hp W z=some (.cells (BE.flatMap jO).toArray lZ (0,0)):=M.hpk C (λh=>by have:=t z h;omega);have u:Rd W 35 (.slice (some ⟨z,0,none⟩) 5 5) BE.length (BE.flatMap jO):=⟨ab6,.inr ⟨_,0,5,rfl,az _,At.all U⟩⟩
  obtain⟨b,Y,he,o⟩:=VE u (i:=i) g;refine bh (he W) ?_;refine jP (Gl o) ?_;obtain⟨s1,T,s3⟩:=Fi (i:=i) g;refine tg Q (Ow i X) s3 λsT sG sA S k E R4 m4 R _=>?_;refine ax (gI 0) k (by rw[Kg,s1]) ?_;refine ax (.bool false) k (by simp[go_sem]) ?_;rw[ij];refine ax (gI ((i+1:Nat):Int)) k (by simp[go_sem];rw[fI qZ qZ]) ?_;rw[T]at E
  exact p _ k ⟨i+1,S,rfl,qZ,E,M.on m4 λy a=>N y a,λy a=>by
   rcases R y a with h|h
   ·exact N y h
   ·have:=M.size;exact .inr qZ⟩ (by show(5 - ((i+1:Nat):Int)).toNat<(5 - (i:Int)).toNat;omega)
 ·refine ax (.bool false) W (by simp[go_sem];omega) ?_;rw[ij];have r:i=5:=qZ;subst r;have j:=Ow 5 qZ;rw[UZ]at j Q
  exact V v F W Q j P λy a=>by
   rcases N y a with h|h
   ·exact L y h
   ·have:=I.size;have:=q.size;omega
end Go.Proofs
namespace Go.Proofs
open Go Go.Vc
attribute [local congr] aZ
variable {F:NP_}{v:Nat}{w:Wt_}{K:aY}
def Kn(r:Rp)(sT sG sA:Vt_)(w:Wt_):∃a,(Instr.box 42 (wT r sT sG sA)).run pQ w=.ok (bO w.heap.size 0) a/\hp a w.heap.size=some (.cells (CL r sT sG sA).toArray 42 (0,0))/\M0 w a:=
 ⟨w.alloc (.cells (CL r sT sG sA).toArray 42),rfl,by show hp _ _=_;simp[go_sem],(aS.refl _ w).alloc _⟩
def O0{b lo:Nat}{d nx j:Int}{ss:Nat->Value}{A:List Ac}{C:List Ct}{P:List Po}{O B:List (Int×Od)}{K:Value->World->Prop}(h:SB w b d nx j ss A C P O B lo)
  (t:∀p l,SB l p d nx j ss A C P O B lo->M0 w l->w.heap.size<=p->K (bO p 0) l):
  rv pQ (iA uL true (.tuple #[])) w λq o=>ru pQ (iS uL q (BM d nx j ss)) o λk=>K q k:=by
 obtain⟨o,D,r,x⟩:=Ay w;apply bh D
 obtain⟨k,u,v,s⟩:=T5 (d:=d) (n:=nx) (f:=j) (ss:=ss) r rfl λi e g=>by
  obtain⟨a,c,z,_⟩:=(h.own i e g).isSl;exact⟨a,_,c,z⟩
 apply gg u;have M:M0 w k:=x.on s λy m=>fM;refine t _ k ⟨v,λi e g=>(h.own i e g).mod M dS,h.dj,λi y e g m=>⟨(h.nw i y e g m).1,?_⟩⟩ M (az _);have:=(h.own i e g).lt m;omega
def P5{b lo:Nat}{d nx j:Int}{ss:Nat->Value}{A:List Ac}{C:List Ct}{P:List Po}{O B:List (Int×Od)}(h:SB w b d nx j ss A C P O B lo){i:Nat}(hi:i<A.length):
  ∃a c,(∀W,(iX 53 (ss 3) (gI (i:Int))).run pQ W=.ok (bO a c) W)/\At w a c (db A[i])/\aK (ss 3) a:=by
 have m:Rd w 4 (ss 3) A.length (A.flatMap db):=(h.own 3 qZ qZ).rd;obtain⟨b,c,k,e,g,l⟩:=m.item (f:=db) (λx=>by simp[db]) hi rfl;exact⟨b,c+i*4,λW=>by rw[e];simp[go_sem,hi,bD],l,by rw[e];exact rfl⟩
def Zp(e:Int)(W:Wt_):(Instr.build 42 #[(0,gI e)]).run pQ W=.ok (wT (iZ e) dQ dQ dQ) W:=by simp[go_sem,wT,iZ,jw,dQ]
def PN:Nt.2.apply Zf=Lq:=by rw[Lq]
def NR:Lq.2.apply X1=vP:=by rw[vP]
def Vu:vP.2.apply Zd=WM:=by rw[WM]
def ag4(h:Nt.2.Ok):Lq.2.Ok:=by rw[<-PN];exact sC h Na.2.2.2.2.2.1
def ab9(h:Lq.2.Ok):vP.2.Ok:=by rw[<-NR];exact sC h Na.2.2.2.2.2.2.1
def af4:∃a b,vP.2.led.all=[a,b]/\a.cash=1030/\b.cash=970:=by
 have h:=RW;generalize vP.2.led.all=L at h;have d:L.length=2:=by have:=dW List.length h;simpa using this
 obtain⟨a,b,rfl⟩:∃a b,L=[a,b]:=by
  cases L with
  |nil=>cases d
  |cons a t=>
   cases t with
   |nil=>cases d
   |cons b u=>
    cases u with
    |nil=>exact⟨a,b,rfl⟩
    |cons c z=>simp at d
 simp only[aD,fw,jr,and_true]at h;exact⟨a,b,rfl,h.1,h.2⟩
def VL(h:oP w v F Nt.2)(f:Nt.2.Ok)
  (m:∀j l k i g,oP g v i Lq.2->Lq.2.Ok->aS F w g->(∀y,i y->F y\/w.heap.size<=y)->K (wT Lq.1 j l k) g):Ca pQ 15 #[dL v,vg Zf] w K:=by
 refine tg h f Na.2.2.2.2.2.1 λj l k i g a b c d e=>?_;rw[PN]at a b|-;exact m j l k i g a (ag4 f) c d
def Wd(h:oP w v F Lq.2)(f:Lq.2.Ok)
  (m:∀j l k i g,oP g v i vP.2->vP.2.Ok->aS F w g->(∀y,i y->F y\/w.heap.size<=y)->K (wT vP.1 j l k) g):Ca pQ 15 #[dL v,vg X1] w K:=by
 refine tg h f Na.2.2.2.2.2.2.1 λj l k i g a b c d e=>?_;rw[NR]at a b|-;exact m j l k i g a (ab9 f) c d
def Va(h:oP w v F vP.2)(i:vP.2.Ok)
  (m:∀j l k g f,oP f v g WM.2->aS F w f->(∀y,g y->F y\/w.heap.size<=y)->K (wT WM.1 j l k) f):Ca pQ 15 #[dL v,vg Zd] w K:=by
 refine tg h i Na.2.2.2.2.2.2.2 λj l k g f a b c d e=>?_;rw[Vu]at a b|-;exact m j l k g f a c d
end Go.Proofs
set_option maxRecDepth 100000
set_option maxHeartbeats 1000000
namespace Go.Proofs
open Go Go.Vc
attribute [local congr] aZ
def MB{w:Wt_}{K:aY}
  (t:∀v F W,oP W v F vP.2->vP.2.Ok->M0 w W->(∀y,F y->w.heap.size<=y)->Pb K (dL v) (.bool false,()) W):Ca pQ 14 #[] w K:=by
 refine cN Tryz.func14 ?_;refine Ot λv F A r j m x=>?_;refine dq ?_;refine dq ?_;refine cG.at (λs W=>s=(.bool false,())/\∃F,oP W v F vP.2/\vP.2.Ok/\M0 w W/\∀y,F y->w.heap.size<=y) ?_ ?_
 ·refine eK ?_;refine lS bk6 (VL r j λf i g d z k a c n=>?_);apply bh (Kg Lq.1 f i g z);rw[Vt];refine eK ?_;refine lS bk7 (Wd k a λf i g F3 p u e o q=>?_);apply bh (Kg vP.1 f i g p);rw[Vh];refine dq ?_;have C:=m.size;have B:=c.size;have l:∀y,d y->w.heap.size<=y:=λy b=>by grind
  refine⟨rfl,F3,u,e,(m.on c λy b=>.inr (x y b)).on o λy b=>.inr (l y b),λy b=>?_⟩;rcases q y b with h|h
  ·exact l y h
  ·omega
 rintro _ W ⟨rfl,d,k,a,c,n⟩;exact t v d W k a c n
end Go.Proofs
namespace Go.Proofs
open Go Go.Vc
attribute [local congr] aZ
variable {a:Ac}
def aa7{L:List Ac}{b:Ac}(h:L=[a,b])(hi:0<L.length):L[0]=a:=by subst h;rfl
def aa1{L:List Ac}{b:Ac}(h:L=[a,b])(hi:1<L.length):L[1]=b:=by subst h;rfl
def Gc{w:Wt_}{b off:Nat}(h:At w b off (db a)):(iL 2 (bO b (off+1))).run pQ w=.ok (gI a.cash) w:=by
 have:=h.cell 1 (gI a.cash) rfl;obtain⟨C,e,f,h1,c⟩:=h.get;have d:=c 1 _ rfl;simp[go_sem,h1,d]
def KT{w:Wt_}{K:aY}{v:Nat}{F:NP_}(h:oP w v F vP.2)(f:vP.2.Ok)
  (hK:∀m W,oP W v m WM.2->aS F w W->(∀y,m y->F y\/w.heap.size<=y)->
   g9 pQ (Instr.build 42 #[(0,(gI 160))]) λz=>
   rx pQ (pN 28 1 [(0,(gB 99))]) W λs t=>
   Ca pQ 13 #[dL v,s] t λk g=>
   BL pQ (rI 28 9 k) g λj=>
   Ca pQ 46 #[z] g λE d=>
   (rI 28 9 k).run pQ d=.ok j d/\
   (BL pQ (rI 28 9 E) d λH=>
   g9 pQ (gx .eql 9 false j H) λB=>
   K B d)):Pb K (dL v) (.bool false,()) w:=by
 unfold Pb;intro _;rw[ij];obtain⟨c,l,mb,md,A,D,U,N,X⟩:=h;have hQ:oP w v F vP.2:=⟨c,l,mb,md,A,D,U,N,X⟩
 refine xo N f λss b lo w1 s1 R m1 hb=>?_;refine O0 s1 λp r s2 m2 hp2=>?_;have M:=m1.trans m2;obtain⟨x,y,C,Q,u⟩:=af4;have hl:vP.2.led.all.length=2:=by rw[C];rfl
 have G:(LN vP.2.led.all vP.2.cal.l (vP.2.nums.flatMap vP.2.led.holders) (vP.2.nums.flatMap λn=>(vP.2.bk n).all.map λo=>(n,o)) (vP.2.nums.flatMap λn=>(vP.2.bd n).map λo=>(n,o)) 3)=2:=hl;have md:M0 r r.drew:=(aS.refl _ r).drew;have e:=SB.modX s2 md dS;have q:=M.trans md
 try dsimp only
 generalize r.drew=w3 at e q|-;have O:=hQ.md0 q;obtain⟨a,cc,J,_⟩:=(e.own 3 qZ qZ).isSl;rw[G]at J;obtain⟨a0,o0,Y,I,-⟩:=P5 e (i:=0) qZ;obtain⟨a1,Z,i1,L,-⟩:=P5 e (i:=1) qZ;have T:=aa7 C qZ;have x1:=aa1 C qZ;rw[T]at I;rw[x1]at L;refine bQ (λ_=>iY _ 3 qZ) (cK (e.ld 3 qZ qZ) ?_);refine qy (gI 2) (by rw[J];simp[go_sem]) ?_;refine cT (.bool true) (λ_=>by simp[go_sem]) ?_;rw[jV];refine bQ (λ_=>iY _ 3 qZ) (cK (e.ld 3 qZ qZ) (bQ Y ?_));refine cT (bO a0 (o0+1)) (λ_=>by simp[go_sem]) ?_;refine qy (gI 1030) (by rw[Gc I,Q]) ?_;refine cT (.bool true) (λ_=>by simp[go_sem]) ?_;rw[jV];refine bQ (λ_=>iY _ 3 qZ) (cK (e.ld 3 qZ qZ) (bQ i1 ?_));refine cT (bO a1 (Z+1)) (λ_=>by simp[go_sem]) ?_;refine qy (gI 970) (by rw[Gc L,u]) ?_;refine cT (.bool true) (λ_=>by simp[go_sem]) ?_;rw[jV];refine xN bk8 (Va O f λP V sA m w4 q4 S n4=>?_);refine bQ (λW=>Kg WM.1 P V sA W) ?_;rw[WN];refine cT (.bool true) (λ_=>by simp[go_sem]) ?_;rw[jV]
 exact hK m w4 q4 ((q.to).trans S) λy u=>by
  rcases n4 y u with h|h
  ·exact .inl h
  ·have:=q.size;exact .inr qZ
end Go.Proofs
