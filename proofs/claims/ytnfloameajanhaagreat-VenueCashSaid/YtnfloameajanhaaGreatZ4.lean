/- Part of a proof. -/
import Derived.Laws.Externs
import Derived.Shelf.Bits.Mul64
import Derived.Shelf.Small.Bits
import Derived.Ground.NamesProg
import Derived.Lib.ItoaNum
import Derived.Laws.Bits64b
import Derived.Test.YtnfloameajanhaaGreatZ3
set_option linter.all false
namespace Go.Proofs
open Go Go.Vc
attribute [local congr] cR
variable {n:Int}{l:List Ct}{F:NP_}{c:Nat}{s:Vt_}{w:Wt_}{K:cG}{S:sE}
def R6(w:Wt_)(fv:Vt_)(p:Ct->Bool)(l:List Ct):Prop:=
 ∃g cp,fv=.func (.func g) #[] cp/\∀x∈l,∀W,M0 w W->∀K,(∀W',M0 W W' ->K (.bool (p x)) W')->Ca pQ g ⟨[.agg (fI x).toArray]++cp.toList⟩ W K
def Ch.ld(h:Rd w 27 s l.length (l.flatMap fI)){x:Nat}(e:x<l.length):
  ∃p,(iX Kd s (gI (x:Int))).run pQ w=.ok p w/\(fH oT p).run pQ w=.ok (.agg (fI l[x]).toArray) w:=by
 obtain⟨b,a,f,c,d,g⟩:=h.item eE e rfl;exact⟨.pointer (some ⟨b,a+x*27,none⟩),by rw[c];simp[go_sem,e,cS],gm ME yV (eE _) g⟩
def I4{fv:Vt_}{p:Ct->Bool}(h:Rd w 27 s l.length (l.flatMap fI))(G:l.length<=1000000)(z:R6 w fv p l)
  (u:∀t,M0 w t->K (gI (uK l p)) t):Ca pQ 244 #[s,fv] w K:=by
 obtain⟨g,H,rfl,r⟩:=z;apply ah6;obtain⟨a,c,A⟩:=h.isSl;apply jm (gI (l.length:Int)) w (by rw[A];simp[go_sem])
 refine eS (λst W=>∃(i:Nat) (x:Vt_),i<=l.length/\st=(x,gI i,())/\M0 w W/\∀j,∀d,j<i->p l[j]=false)
  (λst _=>match st.2.1 with| .int _ i=>l.length - i.toNat|_=>0) ⟨0,gI 0,qZ,rfl,lX,λj _ h=>qZ⟩ ?_
 rintro⟨_,_⟩ W ⟨i,x,F,⟨⟩,f,e⟩ E o;unfold Oy;intro _;by_cases b:i<l.length
 ·have k:(i:Int)<(l.length:Int):=qZ;refine qSt1 k ?_;obtain⟨q,v,C⟩:=Ch.ld (h.mod f eQ) b;apply cI v;apply iW C;simp only[kE];refine r l[i] (cC b) W f _ λI n=>?_;cases hp:p l[i]with
  |true=>
   rw[kx]
   have:uK l p=(i:Int):=by
    unfold uK
    have:l.findIdx? p=some i:=by
     rw[eB];refine⟨b,hp,λj d=>?_⟩;rw[e j qZ d];simp
    rw[this]
   have m:=u _ (f.trans n);rw[this]at m;exact m
  |false=>
   rw[gP];apply qSj i;refine o _ _ ⟨i+1,_,qZ,rfl,f.trans n,λj d y=>?_⟩ (by grind);by_cases D:j=i
   ·subst D;exact hp
   ·grind
 ·obtain rfl:i=l.length:=qZ;refine qSf0 ?_
  have:uK l p= -1:=by
   unfold uK
   have:l.findIdx? p=none:=by
    rw[fR];intro x B;obtain⟨j,d,rfl⟩:=cX B;exact e j d d
   rw[this]
  have m:=u _ f;rw[this]at m;exact m
def Qx{α:Type}(l:List α)(p:α->Bool):decide (0<=uK l p)=l.any p:=by
 unfold uK;cases h:l.findIdx? p with
 |none=>
  rw[fR]at h;have:l.any p=false:=by grind
  rw[this];rfl
 |some i=>
  obtain⟨a,hp,-⟩:=eB.1 h;have:l.any p=true:=gA.2 ⟨l[i],cC a,hp⟩;rw[this];exact db (by simp)
def DO{fv:Vt_}{p:Ct->Bool}(h:Rd w 27 s l.length (l.flatMap fI))(f:l.length<=1000000)(e:R6 w fv p l)
  (c:∀a,M0 w a->K (.bool (l.any p)) a):Ca pQ 201 #[s,fv] w K:=by
 apply aq3;refine I4 h f e λb d=>?_;apply cx (.bool (l.any p)) b (by rw[<-Qx];simp[go_sem]);exact c _ d
def qI(S:sE)(n:Int):Int:=
 match eR S.l n with
 |none=>7
 |some k=>if k.st=3 then 50 else if S.day<k.spec.last\/S.l.any (FU k)=true then 51 else 0
def zV(h:ex S.l n≠0):qI S n=ex S.l n:=by
 unfold qI ex;unfold ex at h;cases a:eR S.l n with
 |none=>rfl
 |some k=>
  rw[a]at h;simp only at h|-;by_cases b:k.st=3
  ·grind
  ·grind
def TG(h:pN w c F S)
  (D:∀V,M0 w V->K (gI (qI S n)) V):Ca pQ 167 #[iZ c,gU n] w K:=by
 apply ak4
 have f:∀W v,(∃o,v=.pointer o)->∃a C,(iA 214 true (.tuple #[])).run pQ W=.ok (pt W.heap.size 0) a/\(iS 214 (pt W.heap.size 0) v).run pQ a=.ok () C/\
   hC C W.heap.size #[v] 214/\M0 W C:=λW v hv=>by
  obtain⟨o,rfl⟩:=hv;obtain⟨a,k⟩:=dW (W.alloc (.cells #[.pointer none] 214));have B:M0 W a:=by rw[k];exact(de.refl _ W).alloc _
  have U:hC a W.heap.size #[.pointer none] 214:=by rw[k];simp[go_sem]
  exact⟨a,a.setCell ⟨W.heap.size,0,none⟩ (.pointer o),by rw[k];simp[go_sem],by simp[go_sem,U],by simp[go_sem,U],B.on ((de.refl (λx=>x=W.heap.size) a).sc) λx hx=>gz⟩
 refine xW h (λa Q B=>?_) λi hi b N a hn M hg Q B hc hl hF hbc=>?_
 ·refine qS0 ?_;refine qS0 ?_;obtain⟨C,u,E,G,J,t⟩:=f a (.pointer none) ⟨_,rfl⟩;apply cI E;apply ir G;refine qSt1 Q ?_;have g:=D _ (B.trans t);rw[zV Q]at g;exact g
 ·refine qS0 ?_;refine qS0 ?_;obtain⟨C,u,E,G,J,t⟩:=f a (pt b (i*27)) ⟨_,rfl⟩;obtain⟨q,O⟩:=dW a.heap.size;rw[<-O]at E G J;apply cI E;apply ir G;refine qSf0 ?_;have M3:=B.trans t;have R:=t.hpk hc id;have P:=hl.mod t eQ
  have e0:qI S n=if S.day<S.l[i].spec.last\/S.l.any (FU S.l[i])=true then 51 else 0:=by
   unfold qI;rw[hg];simp only;rw[aZ M]
  rw[e0]at D;have md:M0 u u.drew:=mP;have r:=md.hpk R id;have m:Ch u.drew (.slice (some ⟨b,0,none⟩) S.l.length N) S.l:=P.mod md eQ;have j:=md.hpk J id;have I:=M3.trans md;refine dK.at (λst W=>st=(.bool (decide (S.day<S.l[i].spec.last\/S.l.any (FU S.l[i])=true)),())/\M0 w W) ?_ ?_
  ·obtain⟨b',X,rest,L,hix,Z,Y,A⟩:=m.item hi;cases L;have z:=A 23 qZ;rw[ao4]at z;simp only[iZ,dr];generalize u.drew=w4 at md r m j I Z Y|-;refine qP0 ?_;refine qW1 r ?_;refine qW1 j ?_;simp only[dr];refine qP1 cS ?_;refine qP1 cS ?_;refine qW2 Y z ?_;by_cases d:S.day<S.l[i].spec.last
   ·refine qPt1 d ?_;exact⟨by simp[d],I⟩
   ·refine qPf1 d ?_;refine qP0 ?_;refine qW1 r ?_;refine DO (l:=S.l) (p:=FU S.l[i]) m.rd (by have:=h.len;omega) ⟨_,_,rfl,λy hy W s K' T=>?_⟩ λw5 m5=>?_
    ·exact Qo (s.hpk j id) (Z.mod s id) T
    ·refine⟨?_,I.trans m5⟩
     have e:decide (S.day<S.l[i].spec.last\/S.l.any (FU S.l[i])=true)=S.l.any (FU S.l[i]):=by
      rw[iC,decide_eq_true_iff];exact⟨λh=>h.resolve_left d,.inr⟩
     rw[e]
  rintro _ W ⟨rfl,s⟩;unfold PP;intro _;by_cases H:S.day<S.l[i].spec.last\/S.l.any (FU S.l[i])=true
  ·rw[qo H];have g:=D _ s;rw[bZ H]at g;exact g
  ·rw[cy,aZ (by grind)];have g:=D _ s;rw[aZ H]at g;exact g
def jy(S:sE)(n:Int):Int×sE:=if qI S n≠0 then(qI S n,S)else(0,⟨S.day,lr S.l n λk=>{k with st:=3}⟩)
def zK(h:qI S n=0):ex S.l n=0:=by
 apply dU;intro a;rw[zV a]at h;exact a h
def Km(h:pN w c F S)
  (a:∀r,pN r c F (jy S n).2->de F w r->K (gI (jy S n).1) r):Ca pQ 134 #[iZ c,gU n] w K:=by
 apply an1;refine TG h λU u=>?_;have A:=h.mod u eQ;unfold jy at a;by_cases d:qI S n=0
 ·rw[aZ (by simpa using d)]at a;rw[d];refine qSf0 ?_;refine xW A (λp H D=>absurd (zK d) H) λi q b N p E L R H D P C B g=>?_;refine qS0 ?_;refine qS0 ?_;refine qSt0 ?_;simp only[dr];obtain⟨Q,y,rest,s,I,T,J,m⟩:=C.item q;cases s;have o:=m 25 qZ;rw[D5]at o;refine qS1 cS ?_;refine qU2 J o ?_;have V:=C.set1 q (j:=25) qZ (v:=gB 3) rfl (FA _ _);have G:de (λz=>z=b) p (p.setCell ⟨b,i*27+25,none⟩ (gB 3)):=(de.refl (λz=>z=b) p).sc;have t:=sM (l:=S.l) (n:=n) (f:=λk=>{k with st:=3}) (λk M _=>⟨Ck (h.ok k M) qZ,rfl⟩) h.ok h.srt;rw[rL h.srt q E]at t;rw[rL h.srt q E]at a;exact a _ (pN.turn (by rw[ey];exact G.hpk P λe=>g e.symm) (by grind) B g (by rw[ey];exact h.len) h.day t.1 t.2.1) (((u.trans D).to).trans (G.mono λx _ O=>(B x).2 (.inr O)))
 ·rw[bZ d]at a;refine qSt1 d ?_;exact a _ A (u.to)
def Ep{W:Wt_}{k:Ct}{K:Value->World->Prop}(c:∀a,hC a W.heap.size (fI k).toArray oT->M0 W a->K (pt W.heap.size 0) a):
  rx pQ (nE oT) W λv b=>nj pQ (jH oT v (.agg (fI k).toArray)) b λa=>K v a:=by
 apply xM 26 zCt yV (eE k) ao6 (sy k);exact c _ (by simp[go_sem]) lm
def TL{b:Nat}{T:TypeId}:CW pQ (.func (.func 53) #[] #[.pointer (some ⟨b,0,none⟩)]) (S.l.map λk=>[.agg (fI k).toArray]) (λW=>hC W b #[iZ c] T/\∃F,pN W c F S):=by
 refine⟨⟨_,_,_,rfl,?_⟩⟩;rintro y J Js W K ⟨g,F,x⟩ H j d f w;apply av1;apply cx (iZ c) W (by simp[go_sem,g,iZ]);apply sZ x;refine qSf0 ?_;obtain⟨⟨sl,A,B,X,V⟩,Y,c6⟩:=id x;apply cx (iZ c) W (by simp[go_sem,g,iZ]);simp only[iZ,dr];obtain⟨U,R,r,-⟩:=B.isSl;refine qS1 A ?_;refine qSv2 sl A r ?_;refine C1 (l:=S.l) B.rd qZ λs O t G P=>?_;obtain⟨sa,sc,v,-⟩:=t.isSl;apply jm (gI (S.l.length:Int)) O (by rw[v];simp[go_sem]);have u:=H _ _ G λb g=>⟨P b g,t.lt g⟩
 refine eS (λst m=>∃i,i<=S.l.length/\st=(gI i,())/\J (cK s) i m/\Ch m s S.l)
  (λst _=>match st.1 with| .int _ i=>S.l.length - i.toNat|_=>0) ⟨0,qZ,rfl,u,t⟩ ?_
 rintro⟨_,_⟩ m ⟨i,Z,⟨⟩,C,z⟩ Q o;unfold WY;intro _;by_cases e:i<S.l.length
 ·have h:(i:Int)<(S.l.length:Int):=qZ;refine qSt1 h ?_;obtain⟨p,I,M⟩:=Ch.ld z.rd e;apply cI I;apply iW M;refine Ep λE L D=>?_;apply jq (fI S.l[i]) 26 ME yV (eE _) (At.all L);have n:=z.mod D eQ;refine d (cK s) i [.agg (fI S.l[i]).toArray] E (by simp[e]) (j _ _ _ _ C D) _ (λN a q=>?_) λN a=>?_
  ·refine qSf0 ?_;apply qSj i;exact o _ _ ⟨i+1,qZ,rfl,a,n.keep q⟩ (by grind)
  ·refine qSt0 ?_;exact w _ a
 ·obtain rfl:i=S.l.length:=qZ;refine qSf0 ?_;exact f _ m (by simpa using C)
def zq(h:pN w c F S)
  (f:∀gv a,th gv (S.l.map λk=>[.agg (fI k).toArray]) a->M0 w a->K gv a):Ca pQ 29 #[iZ c] w K:=by
 apply aC7;have d:M0 w (w.alloc (.cells #[iZ c] 33)):=lm;apply cx (pt w.heap.size 0) (w.alloc (.cells #[iZ c] 33)) (by simp[go_sem,iZ]);have e:hC (w.alloc (.cells #[iZ c] 33)) w.heap.size #[iZ c] 33:=by simp[go_sem]
 exact f _ _ ⟨⟨_,oF (TL (c:=c) (b:=w.heap.size) (S:=S) (T:=33)),λW m=>⟨m.hpk e id,F,h.mod (d.trans m) eQ⟩⟩,_,_,rfl⟩ d
def OO(s:Sp)(x p:Int):Tryz.prog.built oT [(0,.agg (jA s).toArray),(1,gB x),(2,gI p)]=some (fI ⟨s,x,p⟩).toArray:=by
 have c:∀a,Tryz.prog.built oT a=Instr.fill (λi=>#[(0,25),(25,1),(26,1)][i]?) (lT pQ oT).toArray a:=λa=>by kernel_rfl
 rw[c,Qd];rw[uz (off:=0) (size:=25) rfl (by show(jA s).toArray.size=25;rw[eT,dP]) (by rw[eE];omega)];rw[uz (off:=25) (size:=1) rfl rfl (by rw[ve (by show 0+(jA s).length<=_;rw[dP,eE];omega),eE];omega)];rw[uz (off:=26) (size:=1) rfl rfl (by rw[ve (by rw[ve (by show 0+(jA s).length<=_;rw[dP,eE];omega),eE];show 25+1<=27;omega),ve (by show 0+(jA s).length<=_;rw[dP,eE];omega),eE];omega)];rw[Dj];congr 2
 have b:mh (fI JJ) 0 (jA s)=jA s++[.int .u8 0,gI 0]:=by
  unfold mh;rw[kw,jO,dP,fI,List.drop_left' (by rw[dP])];rfl
 show mh (mh (mh (fI JJ) 0 (jA s)) 25 [.int .u8 x]) 26 [.int .i64 p]=_;rw[b]
 have d:mh (jA s++[.int .u8 0,gI 0]) 25 [.int .u8 x]=jA s++[.int .u8 x,gI 0]:=by
  unfold mh;rw[List.take_left' (dP s),qF,fg (by rw[dP];simp),dP];simp
 rw[d];unfold mh;rw[List.take_append,cT (by rw[dP];omega),dP,fg (by simp[dP])];simp[fI]
def rJ(s:Sp):Ct:=⟨s,1,s.first⟩
def kC(S:sE)(s:Sp):Int×sE:=
 if s.may=false then(2,S)else if(eR S.l s.num).isSome then(8,S)else if s.last<S.day then(51,S)else if 16<=S.l.length then(9,S)
 else(0,⟨S.day,S.l.take (lW S.l s.num)++rJ s::S.l.drop (lW S.l s.num)⟩)
def EV(i:qO l)(B:∀k∈l,k.Ok){k:Ct}(v:k.Ok)(r:eR l k.spec.num=none):(∀x∈l.take (lW l k.spec.num)++k::l.drop (lW l k.spec.num),x.Ok)/\qO (l.take (lW l k.spec.num)++k::l.drop (lW l k.spec.num))/\lW l k.spec.num<=l.length:=by
 have e:l.take (lW l k.spec.num)=l.takeWhile λx=>decide (x.spec.num<k.spec.num):=by
  unfold lW;have d:l.takeWhile (λx=>decide (x.spec.num<k.spec.num))++l.dropWhile (λx=>decide (x.spec.num<k.spec.num))=l:=List.takeWhile_append_dropWhile
  conv=>lhs;rw[<-d];arg 1;rw[d]
  rw[fN]
 have w:l.drop (lW l k.spec.num)=l.dropWhile λx=>decide (x.spec.num<k.spec.num):=by
  unfold lW;have d:l.takeWhile (λx=>decide (x.spec.num<k.spec.num))++l.dropWhile (λx=>decide (x.spec.num<k.spec.num))=l:=List.takeWhile_append_dropWhile
  conv=>lhs;rw[<-d];arg 1;rw[d]
  rw[fj]
 have f:lW l k.spec.num<=l.length:=(List.takeWhile_sublist _).length_le
 have m:∀x∈l.take (lW l k.spec.num),x.spec.num<k.spec.num:=λx c=>by
  rw[e]at c;have:=List.all_takeWhile (l:=l) (p:=λx:Ct=>decide (x.spec.num<k.spec.num));simpa using dF.1 this x c
 have h:∀x∈l.drop (lW l k.spec.num),k.spec.num<x.spec.num:=λx c=>by
  have u:x.spec.num≠k.spec.num:=λn=>by
   unfold eR at r;have:=fW.1 r x (kT c);simp[n]at this
  have s:¬x.spec.num<k.spec.num:=λn=>by
   by_cases t:lW l k.spec.num<l.length
   ·have g:¬l[lW l k.spec.num].spec.num<k.spec.num:=by
     have o:(l.drop (lW l k.spec.num))[0]? =some l[lW l k.spec.num]:=by grind
     rw[w]at o;have d:=List.head?_dropWhile_not (λx:Ct=>decide (x.spec.num<k.spec.num)) l;rw[List.head?_eq_getElem?,o]at d;simpa using d
    obtain⟨j,A,rfl⟩:=cX c;rw[List.getElem_drop]at n;rw[dV]at A;by_cases y:j=0
    ·grind
    ·have:=eI.1 i (lW l k.spec.num) (lW l k.spec.num+j) t qZ qZ;omega
   ·grind
  omega
 refine⟨λx c=>?_,?_,f⟩
 ·rcases dg.1 c with c|c
  ·grind
  ·rcases cH.1 c with rfl|c
   ·exact v
   ·grind
 ·unfold qO;rw[lV,fO];refine⟨i.sublist (List.take_sublist _ _),⟨h,i.sublist (List.drop_sublist _ _)⟩,λa z b q=>?_⟩;rcases cH.1 q with rfl|q
  ·exact m a z
  ·grind
def Sp.may_price{s:Sp}(h:s.may=true):s.isPrice s.first=true:=by
 unfold Sp.isPrice;rw[h];unfold Sp.may at h;simp only[cL]at h;simpa using h.2
def QA{s:Sp}(h:pN w c F S)(R:s.Fit)
  (M:∀F' w',pN w' c F' (kC S s).2->de F w w' ->(∀x,F' x->F x\/w.heap.size<=x)->K (gI (kC S s).1) w'):Ca pQ 84 #[iZ c,.agg (jA s).toArray] w K:=by
 apply aD8;obtain⟨w1,e1,N,m1⟩:=EN s w;apply cI e1;obtain⟨p,hp0⟩:=dW w.heap.size;rw[<-hp0]at N|-;have L:=h.mod m1 eQ;have C:∀{W W' :Wt_},M0 W W' ->de F W W' :=λm=>m.to
 have n:∀e W,kC S s=(e,S)->M0 w W->K (gI e) W:=λe W he m=>by
  rw[he]at M;exact M F W (h.mod m eQ) (C m) λx f=>.inl f
 apply sZ L;refine qSf0 ?_;apply jq (jA s) 24 DW Cc (dP s) (At.all N);refine vP R λw2 Z=>?_;have M2:=m1.trans Z;have b2:=Z.hpk N id;cases a:s.may with
 |false=>
  refine qSt0 ?_;exact n 2 w2 (by unfold kC;rw[bZ a]) M2
 |true=>
  refine qSf0 ?_;refine qS0 ?_;refine qS2 b2 Qa ?_;have q2:=L.mod Z eQ;refine I6 q2 λz X=>?_;have M3:=M2.trans X;have b3:=X.hpk b2 id;refine qS0 ?_;refine qS0 ?_;cases A:eR S.l s.num with
  |some k=>
   rw[show(some k).isSome=true from rfl,cy,bZ rfl];exact n 8 z (by unfold kC;rw[aZ (by simp[a]),A];rfl) M3
  |none=>
   rw[show(none:Option Ct).isSome=false from rfl,cy,aZ gL];have q3:=q2.mod X eQ;obtain⟨⟨sl,L,h2,h3,h4⟩,h5,h6,h7,h8⟩:=q3;obtain⟨sa,sc,l,-⟩:=h2.isSl;have md:M0 z z.drew:=mP;have J:=md.hpk L id;have b4:=md.hpk b3 id;have l4:Ch z.drew sl S.l:=h2.mod md eQ;have H:=M3.trans md;generalize z.drew=t at md J b4 l4 H|-;refine qP0 ?_;refine qW2 b4 El ?_;simp only[iZ,dr];refine qP0 ?_;refine qW1 J ?_;by_cases d:s.last<S.day
   ·refine qPt1 d ?_;exact n 51 t (by unfold kC;rw[aZ (by simp[a]),A,aZ (by simp),bZ d]) H
   ·refine qPf1 d ?_;refine qS0 ?_;refine qSv2 sl J l ?_;apply jm (gI (S.l.length:Int)) t (by rw[l];simp[go_sem]);by_cases r:16<=S.l.length
    ·have g:(16:Int)<=(S.l.length:Int):=qZ;refine qSt1 g ?_;exact n 9 t (by unfold kC;rw[aZ (by simp[a]),A,aZ (by simp),aZ d,bZ r]) H
    ·have g:¬(16:Int)<=(S.l.length:Int):=qZ;refine qSf1 g ?_;have j:M0 t t.drew:=mP;have c5:=j.hpk J id;have O:=j.hpk b4 id;have P:Ch t.drew sl S.l:=l4.mod j eQ;have M5:=H.trans j;generalize t.drew=y at j c5 O P M5|-;refine qP0 ?_;refine qWv2 sl c5 l ?_;apply sm (jA s) 24 DW Cc (dP s) (At.all O);apply dw (λ_=>by simp[-Int.natCast_add,go_sem]<;>first|exact sI|exact rfl);apply qWv2 (gI s.first) O aq9;refine AN (cells:=(fI (rJ s)).toArray) ?_ ?_
     ·exact OO s 1 s.first
     refine oJ [.agg (fI (rJ s)).toArray] qU (eO eCt) rfl rfl (by intro v hv;rw[eK.1 hv];show(fI (rJ s)).toArray.size=27;rw[eT,eE]) qZ ?_;have e0:(([.agg (fI (rJ s)).toArray]:LV_).flatMap (·.cells.toList)).toArray=(fI (rJ s)).toArray:=by simp[Value.cells]
     rw[e0];have G:M0 y (y.alloc (.cells (fI (rJ s)).toArray oT)):=lm
     have Y:Ch (y.alloc (.cells (fI (rJ s)).toArray oT)) (.slice (some ⟨y.heap.size,0,none⟩) 1 1) [rJ s]:=
      ⟨by simp[eE],.inr ⟨_,1,[],rfl,by simp,by rw[gy,bZ rfl];simp,by simp,rfl⟩⟩
     obtain⟨q,Q⟩:=dW y.heap.size;rw[<-Q]at Y|-;generalize y.alloc (.cells (fI (rJ s)).toArray oT)=w6 at G Y|-;have U:=G.hpk c5 id;have l6:Ch w6 sl S.l:=P.mod G eQ;refine⟨by simp[go_sem,U,l],?_⟩;have u:=EV h8 h7 (k:=rJ s) ⟨⟨R,⟨by show(0:Int)<=1;omega,by show(1:Int)<256;omega⟩,R.2.2.2.2.2.2.2.2.2⟩,a,Sp.may_price a,by show(1:Int)<=1;omega,by show(1:Int)<=3;omega⟩ A;refine GQ (o:=rJ s) (i:=lW S.l s.num) l6 Y (λb hb T=>?_) u.2.2 qZ λD E o7 m7 n7=>?_
     ·have:=P.lt hb;have:b=q:=by cases T;rfl
      omega
     have c7:=m7.hpk U λf=>h4 f;obtain⟨ta,tc,V,-⟩:=o7.isSl;apply dw (λ_=>by simp[-Int.natCast_add,go_sem]<;>first|exact sI|exact rfl);apply pH (E.setCell ⟨c,2,none⟩ D) (by rw[V];simp[go_sem,c7]);have mv:de (λx=>x=c) E (E.setCell ⟨c,2,none⟩ D):=(de.refl (λx=>x=c) E).sc
     have e:kC S s=(0,⟨S.day,S.l.take (lW S.l s.num)++rJ s::S.l.drop (lW S.l s.num)⟩):=by
      unfold kC;rw[aZ (by simp[a]),A,aZ (by simp),aZ d,aZ r]
     rw[e]at M;have hM:=M5.trans G;have hsM:=hM.size;have hcs:c<w6.heap.size:=cB U
     have B:¬cK D c:=λf=>by
      rcases n7 c f with I|I
      ·exact h4 I
      ·omega
     refine M (λx=>x=c\/cK D x) _ ⟨⟨D,by simp[go_sem,c7],o7.mod mv λx f e=>B (e▸f),λx=>fd,B⟩,?_,h6,u.1,u.2.1⟩ ((((C hM).on m7 λx f=>.inl ((h3 x).2 (.inr f)))).on mv λx f=>.inl ((h3 x).2 (.inl f))) λx f=>?_
     ·grind
     ·rcases f with rfl|f
      ·grind
      ·rcases n7 x f with I|I
       ·grind
       ·exact gz
def Zg:se pQ 27=true:=cU
def YB:(lT pQ 27).length=24+1:=cU
def ao7{W:Wt_}{s:Sp}{K:Value->World->Prop}(c:∀a,hC a W.heap.size (jA s).toArray 27->M0 W a->K (pt W.heap.size 0) a):
  rx pQ (nE 27) W λv b=>nj pQ (jH 27 v (.agg (jA s).toArray)) b λa=>K v a:=by
 apply xM 24 Zg Cc (dP s) YB (xS s);exact c _ (by simp[go_sem]) lm
def Qq{g:Gt}(x:g.Fit)
  (hK:∀N,M0 w N->K (gI g.check) N):Ca pQ 172 #[.agg (BE g).toArray] w K:=by
 apply ar0;obtain⟨J,e1,A,m1⟩:=VS g w;apply cI e1;obtain⟨p,H⟩:=dW w.heap.size;rw[<-H]at A|-
 have A1:At J p 0 (jA g.k.spec):=by
  have:=(At.all A).sub 0 25 (by rw[zS];omega);rw[iw,BE,fI,df,dh (by rw[dP];omega),cT (by rw[dP];omega)]at this;exact this
 refine qS0 ?_;refine qS0 ?_;apply jq (jA g.k.spec) 24 DW Cc (dP _) A1;refine ao7 λj i M=>?_;obtain⟨q,C⟩:=dW J.heap.size;rw[<-C]at i|-;have M2:=m1.trans M;have b:=M.hpk A id
 have fin:∀(e:Int) (W:Wt_),g.check=e->M0 j W->K (gI e) W:=λe W he m=>by
  rw[<-he];exact hK _ (M2.trans m)
 refine qS0 ?_;refine qS0 ?_;refine qS2 b ax9 ?_;cases z:g.a.dfl with
 |true=>
  rw[kx];exact fin 120 j (by unfold Gt.check;rw[z];rfl) lX
 |false=>
 rw[gP];refine qS0 ?_;refine qS0 ?_;refine qS2 b aE4 ?_;cases R:g.a.kil with
 |true=>
  rw[kx];exact fin 121 j (by unfold Gt.check;rw[z,R];rfl) lX
 |false=>
 rw[gP];refine qS0 ?_;refine qS0 ?_;refine qS2 b YW ?_
 have a:g.check=if g.k.st=3 then 50 else if g.k.st=2 then 122
  else if g.k.st≠1\/¬g.k.spec.isPrice g.k.price\/¬amongB g.buys 0 1000000000\/¬amongB g.sells 0 1000000000\/¬amongB g.q (-MP) MP then 2
  else if¬g.k.spec.isQty g.qty then 123 else if¬g.k.spec.isPrice g.price then 52 else if¬g.k.spec.inBand g.k.price g.price then 124 else if g.far then 125 else 0:=by
  unfold Gt.check;rw[z,R];rfl
 by_cases y:g.k.st=3
 ·refine qSt1 y ?_;exact fin 50 j (by rw[a,bZ y]) lX
 refine qSf1 y ?_;refine qS0 ?_;refine qS0 ?_;refine qS2 b YW ?_;by_cases B:g.k.st=2
 ·refine qSt1 B ?_;exact fin 122 j (by grind) lX
 refine qSf1 B ?_;rw[aZ y,aZ B]at a;obtain⟨P,h⟩:=dW (decide (g.k.st≠1\/¬g.k.spec.isPrice g.k.price=true\/¬amongB g.buys 0 1000000000=true\/¬amongB g.sells 0 1000000000=true\/¬amongB g.q (-MP) MP=true):Bool);have d:=x.1.1;refine dK.at (λst W=>st=(.bool P,())/\M0 j W) ?_ ?_
 ·refine qS0 ?_;refine qS0 ?_;refine qS2 b YW ?_;by_cases v:g.k.st=1
  ·refine qS1 v ?_;rw[gP];apply jq (jA g.k.spec) 24 DW Cc (dP _) (At.all i);refine qS0 ?_;refine qS0 ?_;refine qS2 b al2 ?_;refine wL d λw3 l=>?_;have E:=l.hpk b id;cases k:g.k.spec.isPrice g.k.price with
   |false=>
    refine qS0 ?_;rw[kx];exact⟨by rw[h,k];simp,l⟩
   |true=>
    refine qS0 ?_;rw[gP];refine qS0 ?_;refine qS2 E ZQ ?_;apply IC;cases o:amongB g.buys 0 1000000000 with
    |false=>
     refine qS0 ?_;rw[kx];exact⟨by rw[h,o];simp,l⟩
    |true=>
     refine qS0 ?_;rw[gP];refine qS0 ?_;refine qS2 E al6 ?_;apply IC;cases n:amongB g.sells 0 1000000000 with
     |false=>
      refine qS0 ?_;rw[kx];exact⟨by rw[h,n];simp,l⟩
     |true=>
      refine qS0 ?_;rw[gP];refine qS0 ?_;refine qS2 E Ye ?_;apply lH x.2.1 qZ;refine qS0 ?_;exact⟨by rw[h,k,o,n];simp[v,MP],l⟩
  ·refine qSv1 (.bool true) v ?_;rw[kx];exact⟨by rw[h];simp[v],lX⟩
 rintro _ W ⟨rfl,u⟩;unfold P1;intro _;have b:=u.hpk b id;have i:=u.hpk i id;cases t:P with
 |true=>
  rw[kx];rw[t]at h;exact fin 2 W (by grind) u
 |false=>
 rw[gP];rw[t]at h;have s:=of_decide_eq_false h.symm;rw[aZ s]at a
 have c:g.k.spec.isPrice g.k.price=true/\amongB g.buys 0 1000000000=true/\amongB g.sells 0 1000000000=true/\amongB g.q (-MP) MP=true:=by
  refine⟨?_,?_,?_,?_⟩<;>apply dU<;>intro hc<;>apply s
  ·exact .inr (.inl hc)
  ·grind
  ·grind
  ·grind
 apply jq (jA g.k.spec) 24 DW Cc (dP _) (At.all i);refine qS0 ?_;refine qS2 b Yu ?_;refine Ro d λZ I=>?_;have T:=I.hpk b id;have X:=I.hpk i id;have Y:=u.trans I;cases S:g.k.spec.isQty g.qty with
 |false=>
  refine qSt0 ?_;exact fin 123 Z (by grind) Y
 |true=>
 refine qSf0 ?_;rw[aZ (by rw[S];simp)]at a;apply jq (jA g.k.spec) 24 DW Cc (dP _) (At.all X);refine qS0 ?_;refine qS2 T af2 ?_;refine wL d λw5 G=>?_;have F:=G.hpk T id;have b5:=G.hpk X id;have O:=Y.trans G;cases hp:g.k.spec.isPrice g.price with
 |false=>
  refine qSt0 ?_;exact fin 52 w5 (by grind) O
 |true=>
 refine qSf0 ?_;rw[aZ (by rw[hp];simp)]at a;apply jq (jA g.k.spec) 24 DW Cc (dP _) (At.all b5);refine qS0 ?_;refine qS0 ?_;refine qS2 F al2 ?_;refine qS0 ?_;refine qS2 F af2 ?_;refine Nn d x.1.2.2 x.2.2.2.2.1 λw6 L=>?_;have c6:=L.hpk F id;have D:=O.trans L;cases hb:g.k.spec.inBand g.k.price g.price with
 |false=>
  refine qSt0 ?_;exact fin 124 w6 (by grind) D
 |true=>
 refine qSf0 ?_;rw[aZ (by rw[hb];simp)]at a;apply jq (BE g) 36 aGt nGt (zS g) (At.all c6);have f:=S;unfold Sp.isQty at f;simp only[cL]at f;have r:=Sp.may_tick f.1;refine SX c.2.2.2 c.2.1 c.2.2.1 f.2.1 ⟨r.2.2.2.1,r.2.2.2.2.1⟩ λQ U=>?_;cases V:g.far with
 |true=>
  rw[kx];exact fin 125 Q (by grind) (D.trans U)
 |false=>
  rw[gP];exact fin 0 Q (by grind) (D.trans U)
end Go.Proofs
set_option maxRecDepth 100000
namespace Go.Proofs
open Go Go.Vc
section
variable{a b c d e:Vt_}{W:Wt_}{Z:cG}
def ZW(h:Ca pQ 254 #[a,b] W λc d=>gb .geq 3 true c (gI 0) d Z):Ca pQ 238 #[a,b] W Z:=cj Tryz.func238 h
def Pj(a b c:Vt_)(d:cG)(e:T2)(f:Wt_)(g:T2->Wp):=gc e.2.1 a f λh i=>cV h (uB 306 b e.2.1 2 i λj k=>iv pQ c [j] k λl m=>cV l (d e.2.1 m) (g1 e.2.1 m λn o=>g (e.1,n,()) o)) (d (gI (-1)) i)
def Zl(h:gn 306 false a W λc d=>qB (Pj c a b Z) ((gI 0),(gI 0),()) d):Ca pQ 254 #[a,b] W Z:=cj Tryz.func254 h
def P0(a b:Vt_)(c:cG)(d:T2)(e:Wt_)(f:T2->Wp):=NV->gb .lss 3 true d.2.1 (gI 16) e λg h=>cV g (gr (Instr.index 25 a d.2.1) h λi j=>gr (Op.unary .neg b) j λk l=>gb .mul 2 false k i l λm n=>rn pQ (builtin .max #[2,2] 2 #[false,false] #[d.1,m]) n λo p=>g1 d.2.1 p λq r=>f (o,q,()) r) (c d.1 h)
def am8(h:gq 25 a W λc d=>gx (fH 25 c) d λe f=>qB (P0 e b Z) ((gI 0),(gI 0),()) f):Ca pQ 111 #[a,b] W Z:=cj Tryz.func111 h
def RR(a:Vt_)(b:cG)(c d:Vt_)(e:T3)(f:Wt_)(g:T3->Wp):=NV->gb .lss 3 true e.2.2.1 (gI 16) f λh i=>cV h (gr (Instr.index 25 a e.2.2.1) i λj k=>Ca pQ 108 #[j,(gI 10000000)] k λl m=>gt l m λn o=>cV n (b (gT (gI 0) (gI 2)) o) (g1 e.2.2.1 o λp q=>g (e.1,e.2.1,p,()) q)) (Ca pQ 108 #[c,(gI 1000000000)] i λr s=>gt r s λt u=>cV t (b (gT (gI 0) (gI 2)) u) (gx (fH 25 d) u λv w=>Ca pQ 111 #[v,c] w λx y=>b (gT x (gI 0)) y))
def Zp(h:gq 25 a W λc d=>gx (fH 25 c) d λe f=>qC (RR e Z b c) ((gI 0),(gI 0),(gI 0),()) f):Ca pQ 113 #[a,b] W Z:=cj Tryz.func113 h
def VM(a b:Vt_)(c:Unit->Wp)(d:T1)(e:Wt_):=NV->cV d.1 (gf 94 a 0 e λf g=>dz 27 f 7 2 g λh i=>ez b λj=>qM 192 j 3 2 h i λk=>c (()) k) (c (()) e)
def Vn(a b:Vt_)(c:T3)(d:T3->Wp)(e:Unit)(f:Wt_):=NV->ez a λg=>gY 192 g 1 2 f.drew λh=>gY 94 b 1 2 f.drew λi=>gw (Builtin.max_ #[2,2] 2 #[i,(gI 0)]) f.drew λj=>my .add 2 false h j λk=>ez a λl=>kg 192 l 1 λm=>gs 2 m k f.drew λn=>ez a λo=>gY 192 o 2 2 n.drew λp=>gY 94 b 1 2 n.drew λq=>gp (Op.unary .neg q) λr=>gw (Builtin.max_ #[2,2] 2 #[r,(gI 0)]) n.drew λs=>my .add 2 false p s λt=>ez a λu=>kg 192 u 2 λv=>gs 2 v t n.drew λw=>g1 c.2.2.1 w λx y=>d (c.1,c.2.1,x,()) y
def Li(a:cG)(b:Vt_)(c:T3)(d:T3->Wp)(e:Vt_)(f:T1)(g:Wt_):=NV->cV f.1 (a (gT (gI 0) (gI 2)) g) (dz 94 b 1 2 g λh i=>gb .eql 2 true h (gI 0) i λj k=>cV j (g1 c.2.2.1 k λl m=>d (c.1,c.2.1,l,()) m) (gf 94 b 0 k λn o=>dz 27 n 1 5 o λp q=>gi 193 e p q λr s=>dK (S:=Unit) (λt=>ez r λu=>kg 192 u 0 λv=>eP 2 v s.drew λw=>kg 94 b 0 λx=>kg 27 x 6 λy=>pS pQ (fH 25 y) s.drew λz=>gY 94 b 1 2 s.drew λA=>Ca pQ 111 #[z,A] s.drew λB C=>gk 2 v w C/\(my .add 2 false w B λD=>ez r λE=>kg 192 E 0 λF=>gs 2 F D C λG=>jW (λH=>ez r λI=>gY 192 I 1 2 G.drew λJ=>my .eql 2 true J (gI 0) λK=>cV K (ez r λL=>gY 192 L 2 2 G.drew λM=>my .eql 2 true M (gI 0) λN=>cV N (H (bT,()) G.drew) (kg 94 b 0 λO=>gY 27 O 7 2 G.drew λP=>ez r λQ=>gY 192 Q 3 2 G.drew λR=>my .lss 2 false P R λS=>H (S,()) G.drew)) (kg 94 b 0 λT=>gY 27 T 7 2 G.drew λU=>ez r λV=>gY 192 V 3 2 G.drew λX=>my .lss 2 false U X λY=>H (Y,()) G.drew)) (VM b r t))) (Vn r b c d)))
def Vo(a:Vt_)(b:cG)(c:T2)(d:Wt_)(e:T2->Wp):=NV->gb .lss 3 true c.2.1 (gI 9) d λf g=>cV f (uB 193 a c.2.1 192 g λh i=>gv 192 h i λj k=>dz 192 j 0 2 k λl m=>dz 192 j 1 2 m λn o=>dz 192 j 2 2 o λp q=>rn pQ (builtin .min #[2,2] 2 #[false,false] #[n,p]) q λr s=>dz 192 j 3 2 s λt u=>gb .mul 2 false r t u λv w=>gb .sub 2 false l v w λx y=>rn pQ (builtin .max #[2,2] 2 #[true,false] #[(gI 0),x]) y λz A=>gb .add 2 false c.1 z A λB C=>g1 c.2.1 C λD E=>e (B,D,()) E) (b (gT c.1 (gI 0)) g)
def UY(a b c:Vt_)(d:cG)(e:Vt_)(f:T3)(g:Wt_)(h:T3->Wp):=gc f.2.2.1 a g λi j=>cV i (gi 146 b f.2.2.1 j λk l=>gx (fH 94 k) l λm n=>gx (nE 94) n λo p=>nj pQ (jH 94 o m) p λq=>gf 94 o 0 q λr s=>dz 27 r 0 23 s λt u=>gx (ji 194 c t false) u λv w=>g1 v w λx y=>nj pQ (nm 194 c t x) y λz=>gf 94 o 0 z λA B=>dz 27 A 0 23 B λC D=>gx (ji 194 c C false) D λE F=>gb .gtr 3 true E (gI 1) F λG H=>cV G (d (gT (gI 0) (gI 8)) H) (g1 f.2.2.1 H λI J=>h (f.1,f.2.1,I,()) J)) (qB (Vo e d) ((gI 0),(gI 0),()) j)
def U9(a b:Vt_)(c:cG)(d e:Vt_)(f:T3)(g:Wt_)(h:T3->Wp):=gc f.2.2.1 a g λi j=>cV i (gi 146 b f.2.2.1 j λk l=>gx (fH 94 k) l λm n=>gx (nE 94) n λo p=>nj pQ (jH 94 o m) p λq=>jW (λr=>gf 94 o 0 q λs t=>gx (fH 27 s) t λu v=>Ca pQ 81 #[u] v λw x=>gt w x λy z=>cV y (r (bT,()) z) (dz 94 o 1 2 z λA B=>Ca pQ 108 #[A,(gI 10000000)] B λC D=>gt C D λE F=>r (E,()) F)) (Li c o f h d)) (gn 146 false b j λG H=>qC (UY G b e c d) (f.2.1,f.1,(gI 0),()) H)
def au2(l:gn 146 false a W λb c=>gb .gtr 3 true b (gI 16) c λd e=>cV d (Z (gT (gI 0) (gI 3)) e) (gx (nE 193) e λf g=>gr (Instr.makeMap 194 none) g λh i=>gn 146 false a i λj k=>qC (U9 j a Z f h) ((gI 0),(gI 0),(gI 0),()) k)):Ca pQ 60 #[a] W Z:=cj Tryz.func60 l
def WL(a b:Vt_)(c:cG)(d:T2)(e:Wt_)(f:T2->Wp):=gc d.2.1 a e λg h=>cV g (uB 95 b d.2.1 74 h λi j=>gv 74 i j λk l=>gl 74 k l λm n=>Ca pQ 110 #[m] n λo p=>gt o p λq r=>cV q (c bF r) (g1 d.2.1 r λs t=>f (d.1,s,()) t)) (c bT h)
def VN(a:cG)(b:Vt_)(c:T1)(d:Wt_):=NV->cV c.1 (a bF d) (dz 97 b 3 95 d λe f=>gn 95 false e f λg h=>qB (WL g e a) (bF,(gI 0),()) h)
def aB4(K:gq 97 a W λb c=>jW (λd=>dz 97 b 1 2 c λe f=>Ca pQ 108 #[e,(gI 1000000000000000)] f λg h=>gt g h λi j=>cV i (d (bT,()) j) (gf 97 b 0 j λk l=>dz 94 k 1 2 l λm n=>Ca pQ 108 #[m,(gI 10000000)] n λo p=>gt o p λq r=>cV q (d (bT,()) r) (gf 97 b 0 r λs t=>gf 94 s 0 t λu v=>gx (fH 27 u) v λw x=>dz 97 b 2 2 x λy z=>Ca pQ 109 #[w,y] z λA B=>gt A B λC D=>cV C (d (bT,()) D) (dz 97 b 3 95 D λE F=>gn 95 false E F λG H=>gb .gtr 3 true G (gI 250) H λI J=>d (I,()) J)))) (VN Z b)):Ca pQ 59 #[a] W Z:=cj Tryz.func59 K
def VZ(a b c:Vt_)(d:cG)(e:T4)(f:Wt_)(g:T4->Wp):=gc e.2.2.2.1 a f λh i=>cV h (uB 95 b e.2.2.2.1 74 i λj k=>gv 74 j k λl m=>dz 74 l 2 4 m λn o=>cV n (dz 74 l 4 2 o λp q=>gb .add 2 false e.2.1 p q λr s=>dz 74 l 3 2 s λt u=>dz 97 c 2 2 u λv w=>gb .sub 2 false t v w λx y=>rn pQ (builtin .max #[2,2] 2 #[true,false] #[(gI 0),x]) y λz A=>dz 74 l 4 2 A λB C=>gb .mul 2 false z B C λD E=>gb .add 2 false e.1 D E λF G=>g1 e.2.2.2.1 G λH I=>g (F,r,e.2.2.1,H,()) I) (dz 74 l 4 2 o λJ K=>gb .add 2 false e.2.2.1 J K λL M=>dz 97 c 2 2 M λN O=>dz 74 l 3 2 O λP Q=>gb .sub 2 false N P Q λR S=>rn pQ (builtin .max #[2,2] 2 #[true,false] #[(gI 0),R]) S λT U=>dz 74 l 4 2 U λV X=>gb .mul 2 false T V X λY aa=>gb .add 2 false e.1 Y aa λab ac=>g1 e.2.2.2.1 ac λad ae=>g (ab,e.2.1,L,ad,()) ae)) (gf 97 c 0 i λaf ag=>dz 94 af 1 2 ag λah ai=>gb .add 2 false ah e.2.1 ai λaj ak=>iv pQ (.func (.func 112) #[] #[c]) [aj] ak λal am=>gb .sub 2 false ah e.2.2.1 am λan ao=>iv pQ (.func (.func 112) #[] #[c]) [an] ao λap aq=>rn pQ (builtin .max #[2,2] 2 #[false,false] #[al,ap]) aq λar au=>iv pQ (.func (.func 112) #[] #[c]) [ah] au λav aw=>gb .sub 2 false ar av aw λax ay=>rn pQ (builtin .max #[2,2] 2 #[true,false] #[(gI 0),ax]) ay λaz aA=>gb .add 2 false e.1 az aA d)
def aw4(h:gq 97 a W λb c=>dz 97 b 3 95 c λd e=>gn 95 false d e λf g=>qD (VZ f d b Z) ((gI 0),(gI 0),(gI 0),(gI 0),()) g):Ca pQ 61 #[a] W Z:=cj Tryz.func61 h
def am2(p:gf 97 b 0 W λc d=>gf 94 c 0 d λe f=>gf 27 e 6 f λg h=>gx (fH 25 g) h λi j=>Ca pQ 113 #[i,a] j λk l=>nR k l λm n o=>Z m o):Ca pQ 112 #[a,b] W Z:=cj Tryz.func112 p
def WF(a b c:Vt_)(d:cG)(e:T1)(f:Wt_)(g:T1->Wp):=gc e.1 a f λh i=>cV h (gi 88 b e.1 i λj k=>gx (fH 97 j) k λl m=>gx (nE 97) m λn o=>nj pQ (jH 97 n l) o λp=>kg 42 c 1 λq=>eP 2 q p.drew λr=>pS pQ (fH 97 n) p.drew λs=>Ca pQ 61 #[s] p.drew λt u=>gk 2 q r u/\(my .add 2 false r t λv=>kg 42 c 1 λw=>gs 2 w v u λx=>dz 42 c 2 2 x λy z=>dz 97 n 1 2 z λA B=>gf 97 n 0 B λC D=>dz 94 C 1 2 D λE F=>dz 97 n 2 2 F λG H=>gb .mul 2 false E G H λI J=>gb .sub 2 false A I J λK L=>gb .add 2 false y K L λM N=>qM 42 c 2 2 M N λO=>g1 e.1 O λP Q=>g (P,()) Q)) (dz 42 c 2 2 i λR S=>rn pQ (builtin .max #[2,2] 2 #[true,false] #[(gI 0),R]) S λT U=>qM 42 c 2 2 T U λV=>gl 42 c V λX Y=>gs 42 c X Y λaa=>eP 42 c aa λab=>d (gT ab (gI 0)) aa)
def UQ(a b c:Vt_)(d:cG)(e:T3)(f:Wt_)(g:T3->Wp):=gc e.2.2.1 a f λh i=>cV h (gi 88 b e.2.2.1 i λj k=>gx (fH 97 j) k λl m=>gx (nE 97) m λn o=>nj pQ (jH 97 n l) o λp=>gx (fH 97 n) p λq r=>Ca pQ 59 #[q] r λs t=>gt s t λu v=>cV u (gr (Instr.build 42 #[]) v λw x=>gs 42 c w x λy=>eP 42 c y λz=>d (gT z (gI 2)) y) (gf 97 n 0 v λA B=>gx (fH 94 A) B λC D=>gx (jQ 146 1 [(0,C)]) D λE F=>gx (eg #[146,146] 146 [e.2.1,E]) F λG H=>g1 e.2.2.1 H λI J=>g (e.1,G,I,()) J)) (Ca pQ 60 #[e.2.1] i λK L=>nR K L λM N O=>qM 42 c 0 2 M O λP=>gE N P λQ R=>cV Q (gr (Instr.build 42 #[]) R λS T=>gs 42 c S T λU=>eP 42 c U λV=>d (gT V N) U) (gn 88 false b R λX Y=>qA (WF X b c d) ((gI 0),()) Y))
def av6(n:ga 42 W λb c=>gn 88 false a c λd e=>gb .gtr 3 true d (gI 16) e λf g=>cV f (gr (Instr.build 42 #[]) g λh i=>gs 42 b h i λj=>eP 42 b j λk=>Z (gT k (gI 3)) j) (gn 88 false a g λl m=>qC (UQ l a b Z) ((gI 0),(.slice none 0 0),(gI 0),()) m)):Ca pQ 32 #[a] W Z:=cj Tryz.func32 n
def ak2(K:gq 42 a W λb c=>dz 42 b 0 2 c λd e=>dz 42 b 1 2 e λf g=>dz 42 b 2 2 g λh i=>gx (jQ 306 3 [(0,d),(1,f),(2,h)]) i λj k=>Ca pQ 196 #[j] k λl m=>nR l m λn o p=>gb .eql 43 true o (gI 0) p λq r=>cV q (Z n r) (dz 42 b 0 2 r λs t=>gb .quo 2 true s (gI 4) t λu v=>dz 42 b 1 2 v λw x=>gb .quo 2 true w (gI 4) x λy z=>gb .add 2 false u y z λA B=>dz 42 b 2 2 B λC D=>gb .quo 2 true C (gI 4) D λE F=>gb .add 2 false A E F λG H=>gb .gtr 2 true G (gI 0) H λI J=>cV I (Z (gI 9223372036854775807) J) (Z (gI (-9223372036854775808)) J))):Ca pQ 158 #[a] W Z:=cj Tryz.func158 K
def PB(a:cG)(b:Vt_)(c:T3)(d:T3->Wp)(e:T1)(f:Wt_):=NV->cV e.1 (a bF f) (dz 259 b 0 23 f λg h=>g1 c.2.2.1 h λi j=>d (c.1,g,i,()) j)
def RA(a b:Vt_)(c:cG)(d:Vt_)(e:T3)(f:Wt_)(g:T3->Wp):=gc e.2.2.1 a f λh i=>cV h (uB 257 b e.2.2.1 259 i λj k=>gv 259 j k λl m=>jW (λn=>dz 259 l 0 23 m λo p=>gb .leq 23 false o e.2.1 p λq r=>cV q (n (bT,()) r) (dz 259 l 1 2 r λs t=>iv pQ (.func (.func 237) #[] #[]) [s] t λu v=>gt u v λw x=>cV w (n (bT,()) x) (dz 259 l 2 2 x λy z=>Ca pQ 108 #[y,(gI 100000000000000000)] z λA B=>gt A B λC D=>n (C,()) D))) (PB c l e g)) (iv pQ (.func (.func 237) #[] #[]) [d] i c)
def ad9(h:gn 257 false b W λc d=>qC (RA c b Z a) (bF,(gU 0),(gI 0),()) d):Ca pQ 199 #[a,b] W Z:=cj Tryz.func199 h
def ap3(h:gb .geq 2 true a (gI 0) W λb c=>cV b (gb .leq 2 true a (gI 1000000000000000) c Z) (Z bF c)):Ca pQ 237 #[a] W Z:=cj Tryz.func237 h
def QC(a:Vt_)(b:Value×T4)(c:Value×T4->Wp)(d:Vt_)(e:T1)(f:Wt_):=NV->dz 259 a 2 2 f λg h=>gb .gtr 2 true g (gI 0) h λi j=>cV i (gx (jQ 307 1 [(0,b.2.2.2.2.1)]) j λk l=>gx (eg #[307,307] 307 [b.2.2.1,k]) l λm n=>dz 259 a 2 2 n λo p=>gx (jQ 306 1 [(0,o)]) p λq r=>gx (eg #[306,306] 306 [b.2.1,q]) r λs t=>g1 b.2.2.2.2.1 t λu v=>c (d,s,m,e.1,u,()) v) (g1 b.2.2.2.2.1 j λw x=>c (d,b.2.1,b.2.2.1,e.1,w,()) x)
def Su(a:Vt_)(b:Value×T4)(c d e f:Vt_)(g:cG)(h:T1)(i:Wt_)(j:T1->Wp):=gc h.1 a i λk l=>cV k (uB 307 b.2.2.1 h.1 3 l λm n=>uB 306 c h.1 2 n λo p=>gi 260 d m p λq r=>qM 264 q 3 2 o r λs=>mf 260 d m λt=>gY 264 t 1 2 s.drew λu=>mf 306 c h.1 λv=>eP 2 v s.drew λw=>my .sub 2 false u w λx=>mf 260 d m λy=>kg 264 y 1 λz=>gs 2 z x s.drew λA=>g1 h.1 A λB C=>j (B,()) C) (gb .sub 2 false e f l λD E=>g (.tuple #[d,D,(gI 0)]) E)
def Qb(a:cG)(b:Vt_)(c:Value×T4)(d:Vt_)(e:T1)(f:Wt_):=NV->cV e.1 (a (.tuple #[(.slice none 0 0),(gI 0),(gI 130)]) f) (rn pQ (builtin .min #[2,2] 2 #[false,false] #[b,c.2.2.2.1]) f λg h=>gb .sub 2 false c.2.2.2.1 g h λi j=>Ca pQ 200 #[i,c.2.1] j λk l=>nR k l λm n o=>gE n o λp q=>cV p (a (.tuple #[(.slice none 0 0),(gI 0),n]) q) (gn 307 false c.2.2.1 q λr s=>qA (Su r c m d b g a) ((gI 0),()) s))
def OY(a b c:Vt_)(d:cG)(e:Vt_)(f:Value×T4)(g:Wt_)(h:Value×T4->Wp):=gc f.2.2.2.2.1 a g λi j=>cV i (uB 257 b f.2.2.2.2.1 259 j λk l=>gv 259 k l λm n=>dz 259 m 2 2 n λo p=>gx (jQ 306 1 [(0,o)]) p λq r=>gx (eg #[306,306] 306 [f.1,q]) r λs t=>dz 259 m 0 23 t λu v=>dz 259 m 1 2 v λw x=>dz 259 m 2 2 x λy z=>gb .add 2 false w y z λA B=>gr (Instr.build 264 #[(0,u),(1,A)]) B λC D=>gi 260 c f.2.2.2.2.1 D λE F=>gs 264 E C F λG=>jW (λH=>gi 260 c f.2.2.2.2.1 G λI J=>dz 264 I 1 2 J λK L=>gb .lss 2 true K (gI 0) L λM N=>cV M (gi 260 c f.2.2.2.2.1 N λO P=>dz 264 O 1 2 P λQ R=>gb .sub 2 false f.2.2.2.1 Q R λS T=>gi 260 c f.2.2.2.2.1 T λU V=>qM 264 U 1 2 (gI 0) V λX=>gi 260 c f.2.2.2.2.1 X λY aa=>qM 264 Y 2 4 bT aa λab=>H (S,()) ab) (H (f.2.2.2.1,()) N)) (QC m f h s)) (Ca pQ 196 #[f.1] j λac ad=>nR ac ad λae af ag=>jW (λah=>gE af ag λai aj=>cV ai (ah (bT,()) aj) (gb .neq 2 true ae (gI 0) aj λak al=>ah (ak,()) al)) (Qb d e f c))
def ae5(q:gn 257 false b W λc d=>gb .gtr 3 true c (gI 64) d λe f=>cV e (Z (.tuple #[(.slice none 0 0),(gI 0),(gI 3)]) f) (Ca pQ 199 #[a,b] f λg h=>gt g h λi j=>cV i (Z (.tuple #[(.slice none 0 0),(gI 0),(gI 2)]) j) (gn 257 false b j λk l=>gx (Ak 260 k k) l λm n=>gn 257 false b n λo p=>lG (S:=Value×T4) (OY o b m Z a) ((.slice none 0 0),(.slice none 0 0),(.slice none 0 0),(gI 0),(gI 0),()) p))):Ca pQ 164 #[a,b] W Z:=cj Tryz.func164 q
def QR(a:cG)(b c:Vt_)(d:T2)(e:T2->Wp)(f:T1)(g:Wt_):=NV->cV f.1 (a bF g) (dz 74 b 0 24 g λh i=>gx (ji 347 c h false) i λj k=>g1 j k λl m=>nj pQ (nm 347 c h l) m λn=>g1 d.2.1 n λo p=>e (d.1,o,()) p)
def Qz(a b c d:Vt_)(e:cG)(f:T2)(g:Wt_)(h:T2->Wp):=gc f.2.1 a g λi j=>cV i (uB 95 b f.2.1 74 j λk l=>gv 74 k l λm n=>jW (λo=>gl 74 m n λp q=>Ca pQ 110 #[p] q λr s=>gt r s λt u=>cV t (o (bT,()) u) (dz 74 m 2 4 u λv w=>gb .neq 4 false v c w λx y=>cV x (o (bT,()) y) (dz 74 m 0 24 y λz A=>gx (ji 347 d z false) A λB C=>gb .gtr 3 true B (gI 0) C λD E=>o (D,()) E))) (QR e m d f h)) (e bT j)
def an7(h:gr (Instr.makeMap 347 none) W λc d=>gn 95 false b d λe f=>qB (Qz e b a c Z) (bF,(gI 0),()) f):Ca pQ 216 #[a,b] W Z:=cj Tryz.func216 h
def Sj(a b:Vt_)(c:T3->Wp)(d:T4)(e:Wt_)(f:T4->Wp):=gc d.2.2.2.1 a e λg h=>cV g (uB 95 b d.2.2.2.1 74 h λi j=>gv 74 i j λk l=>dz 74 k 4 2 l λm n=>rn pQ (builtin .min #[2,2] 2 #[false,false] #[d.1,m]) n λo p=>gb .eql 2 true o (gI 0) p λq r=>cV q (c (d.1,d.2.1,d.2.2.1,()) r) (dz 74 k 3 2 r λs t=>gb .sub 2 false d.1 o t λu v=>dz 74 k 0 24 v λw x=>dz 74 k 1 23 x λy z=>gr (Instr.build 286 #[(0,w),(1,y),(2,o)]) z λA B=>gx (jQ 282 1 [(0,A)]) B λC D=>gx (eg #[282,282] 282 [d.2.2.1,C]) D λE F=>g1 d.2.2.2.1 F λG H=>f (u,s,E,G,()) H)) (c (d.1,d.2.1,d.2.2.1,()) h)
def Qu(a:cG)(b:T3)(c:Wt_):=NV->a (.tuple #[b.2.1,b.2.2.1,(gI 0)]) c
def Rn(a:cG)(b c d:Vt_)(e:T1)(f:Wt_):=NV->cV e.1 (a (.tuple #[(gI 0),(.slice none 0 0),(gI 2)]) f) (Ca pQ 48 #[b] f λg h=>Ca pQ 217 #[g,(.func (.func 218) #[] #[c])] h λi j=>dK (S:=T3) (λk=>gn 95 false g j λl m=>qD (Sj l g k) (d,(gI 0),(.slice none 0 0),(gI 0),()) m) (Qu a))
def ab0(u:gq 4 a W λd e=>gn 95 false c e λf g=>gb .gtr 3 true f (gI 50) g λh i=>cV h (Z (.tuple #[(gI 0),(.slice none 0 0),(gI 3)]) i) (jW (λj=>gb .lss 2 true b (gI 1) i λk l=>cV k (j (bT,()) l) (gb .gtr 2 true b (gI 10000000) l λm n=>cV m (j (bT,()) n) (gl 4 d n λo p=>Ca pQ 216 #[o,c] p λq r=>gt q r λs t=>j (s,()) t))) (Rn Z c d b))):Ca pQ 180 #[a,b,c] W Z:=cj Tryz.func180 u
def ao8(r:gq 74 a W λd e=>gq 74 b e λf g=>gl 4 c g λh i=>cV h (dz 74 f 3 2 i λj k=>dz 74 d 3 2 k λl m=>gb .sub 2 false j l m Z) (dz 74 d 3 2 i λn o=>dz 74 f 3 2 o λp q=>gb .sub 2 false n p q Z)):Ca pQ 218 #[a,b,c] W Z:=cj Tryz.func218 r
def PX(a:cG)(b:Vt_)(c:T3)(d:T3->Wp)(e:T1)(f:Wt_):=NV->cV e.1 (a bF f) (dz 290 b 0 23 f λg h=>g1 c.2.2.1 h λi j=>d (c.1,g,i,()) j)
def QB(a b:Vt_)(c:cG)(d:T3)(e:Wt_)(f:T3->Wp):=gc d.2.2.1 a e λg h=>cV g (uB 288 b d.2.2.1 290 h λi j=>gv 290 i j λk l=>jW (λm=>dz 290 k 0 23 l λn o=>gb .leq 23 false n d.2.1 o λp q=>cV p (m (bT,()) q) (dz 290 k 1 2 q λr s=>Ca pQ 108 #[r,(gI 10000000)] s λt u=>gt t u λv w=>m (v,()) w)) (PX c k d f)) (c bT h)
def aj2(h:gn 288 false a W λb c=>qC (QB b a Z) (bF,(gU 0),(gI 0),()) c):Ca pQ 219 #[a] W Z:=cj Tryz.func219 h
def Pu(a b c:Vt_)(d:cG)(e:T2)(f:Wt_)(g:T2->Wp):=gc e.2.1 a f λh i=>cV h (uB 306 b e.2.1 2 i λj k=>gb .gtr 2 true j (gI 0) k λl m=>cV l (gi 288 c e.2.1 m λn o=>dz 290 n 0 23 o λp q=>gr (Instr.build 290 #[(0,p),(1,j)]) q λr s=>gx (jQ 288 1 [(0,r)]) s λt u=>gx (eg #[288,288] 288 [e.1,t]) u λv w=>g1 e.2.1 w λx y=>g (v,x,()) y) (g1 e.2.1 m λz A=>g (e.1,z,()) A)) (d (gT e.1 (gI 0)) i)
def Rc(a b c d:Vt_)(e:cG)(f:T3)(g:Wt_)(h:T3->Wp):=gc f.2.2.1 a g λi j=>cV i (uB 288 b f.2.2.1 290 j λk l=>gv 290 k l λm n=>dz 290 m 1 2 n λo p=>iv pQ (.func (.func 221) #[] #[c,d]) [o] p λq r=>gx (jQ 306 1 [(0,q)]) r λs t=>gx (eg #[306,306] 306 [f.1,s]) t λu v=>dz 290 m 1 2 v λw x=>iv pQ (.func (.func 221) #[] #[c,d]) [w] x λy z=>gb .add 2 false f.2.1 y z λA B=>g1 f.2.2.1 B λC D=>h (u,A,C,()) D) (gl 198 d j λE F=>gl 2 c F λG H=>iv pQ E [G] H λI J=>gb .lss 2 false f.2.1 I J λK L=>cV K (e (gT (.slice none 0 0) (gI 7)) L) (gl 198 d L λM N=>gl 2 c N λO P=>iv pQ M [O] P λQ R=>Ca pQ 200 #[Q,f.1] R λS T=>nR S T λU V X=>gE V X λY aa=>cV Y (e (gT (.slice none 0 0) V) aa) (gn 306 false U aa λab ac=>qB (Pu ab U b e) ((.slice none 0 0),(gI 0),()) ac)))
def Sz(a:cG)(b c:Vt_)(d:T1)(e:Wt_):=NV->cV d.1 (a (gT (.slice none 0 0) (gI 2)) e) (gv 198 (.func (.func 220) #[] #[]) e λf g=>gn 288 false b g λh i=>qC (Rc h b c f a) ((.slice none 0 0),(gI 0),(gI 0),()) i)
def ag6(x:gq 2 a W λc d=>gn 288 false b d λe f=>gb .gtr 3 true e (gI 64) f λg h=>cV g (Z (gT (.slice none 0 0) (gI 3)) h) (jW (λi=>gl 2 c h λj k=>gb .eql 2 true j (gI 0) k λl m=>cV l (i (bT,()) m) (gl 2 c m λn o=>Ca pQ 108 #[n,(gI 10000000)] o λp q=>gt p q λr s=>cV r (i (bT,()) s) (Ca pQ 219 #[b] s λt u=>gt t u λv w=>i (v,()) w))) (Sz Z b c))):Ca pQ 183 #[a,b] W Z:=cj Tryz.func183 x
def ak8(h:gr (Op.unary .neg a) W λb c=>rn pQ (builtin .max #[2,2] 2 #[false,false] #[a,b]) c Z):Ca pQ 220 #[a] W Z:=cj Tryz.func220 h
def ZY(n:gb .gtr 2 true a (gI 0) W λd e=>gl 2 b e λf g=>gb .gtr 2 true f (gI 0) g λh i=>gb .eql 4 false d h i λj k=>cV j (Z (gI 0) k) (gl 198 c k λl m=>iv pQ l [a] m Z)):Ca pQ 221 #[a,b,c] W Z:=cj Tryz.func221 n
end
end Go.Proofs
namespace Go.Proofs
open Go Go.Vc
attribute [local congr] cR
def wz(x:Int):List Value:=[.int .i64 x]
def rT(x:Int):(wz x).length=1:=rfl
def xy(x:Int):(wz x).all (·.oneCell')=true:=rfl
def zU:Tryz.prog.underlying 306=some (.slice 2):=cU
def Uy:lN pQ 2 1 8=true:=cU
def nU{α:Type}{f:α->List Value}(q:∀x,(f x).length=1){w:Wt_}{v:Vt_}{n:Nat}{l:List α}(h:Rd w 1 v n (l.flatMap f))(u:n=l.length){t e:TypeId}(r:Tryz.prog.underlying t=some (.slice e))(y:Tryz.prog.cellsOf e=0+1){i:Nat}(hi:i<l.length){x:Vt_}(s:f l[i]=[x]):
  ∃b a,(∀k:IntKind,(iX t v (.int k (i:Int))).run pQ w=.ok (pt b a) w)/\∃C d fz,hp w b=some (.cells C d fz)/\C[a]? =some x:=by
 obtain⟨b,a,o,c,j,p⟩:=h.item q hi u;obtain⟨C,d,fz,hC,m⟩:=p.get;have g0:=m 0 x (by rw[s];rfl);refine⟨b,a+i*1,λk=>?_,C,d,fz,fy hC,by grind⟩;have g:i<n:=qZ;rw[c];simp[go_sem,g,cS,r,Program.elem,Go.Vc.oK y]
def ae4(x y:Int)(b:0<=x)(a:0<=y)(w:Wt_):(callFunc 235 #[.int .u64 x,gQ y,gQ 0]).run pQ w=.ok (.value (.tuple #[.int .u64 ((x+y)%18446744073709551616),gQ ((x+y) / 18446744073709551616)])) w:=by
 rw[run_callFunc_extern Tryz.func235 cU cU cU (e:=add64Entry) cU,run_add64 x y 0 b a qZ qZ];simp only[Result.andThen,ft]
def tN(l:List Int):Int×Int:=if jl l.sum then(l.sum,0)else(0,6)
def E6{w:Wt_}{K:cG}{s:Vt_}{l:List Int}(h:Rd w 1 s l.length (l.flatMap wz))(V:l.length<=1000000)(J:∀x∈l,jl x)
  (q:K (.tuple #[.int .i64 (tN l).1,gI (tN l).2]) w):Ca pQ 196 #[s] w K:=by
 apply ap5;obtain⟨a,c,M⟩:=h.isSl;apply jm (gI (l.length:Int)) w (by rw[M];simp[go_sem])
 refine eS (λst W=>∃(i:Nat) (d e:Int),i<=l.length/\st=(gQ d,gI e,gI i,())/\W=w/\0<=d/\d<18446744073709551616/\d+18446744073709551616*e=(l.take i).sum/\ -(i:Int)<=e/\e<=(i:Int))
  (λst _=>match st.2.2.1 with| .int _ i=>l.length - i.toNat|_=>0) ⟨0,0,0,qZ,rfl,rfl,qZ,qZ,by simp,by simp,by simp⟩ ?_
 rintro⟨_,_,_,_⟩ W ⟨i,d,e,N,⟨⟩,rfl,H,R,E,S,T⟩ Q A;unfold Rl;intro _;by_cases f:i<l.length
 ·have p:(i:Int)<(l.length:Int):=qZ;refine qSt1 p ?_;obtain⟨b,I,P,C,U,fz,hC,D⟩:=nU rT h rfl zU cU f rfl;apply cI (P .i64);refine qS2 hC D ?_;have O:=J l[i] (cC f);obtain⟨x,m⟩:=dW (l[i]);rw[<-m]at O|-;obtain⟨u,L⟩:=dW (if x<0 then x+18446744073709551616 else x:Int);have z:0<=u/\u<18446744073709551616:=by grind
  apply cx (gQ u) W (by simp[go_sem];rw[IntKind.wrap_u64,L];split<;>omega);refine⟨?_⟩;apply mB (ae4 d u H z.1 W);refine qS0 ?_;refine qS0 ?_;obtain⟨g,o⟩:=dW (if x<0 then -1 else 0:Int)
  have j:x / 9223372036854775808=g:=by
   rw[o];split<;>omega
  refine qS2 lZ j ?_;obtain⟨t,B⟩:=dW ((d+u) / 18446744073709551616);rw[<-B];apply cx (gI t) W (by simp[go_sem];rw[wI_]);apply cx (gI (g+t)) W (by simp[go_sem];rw[wI_]);apply cx (gI (e+(g+t))) W (by simp[go_sem];rw[wI_]);apply cx (gI ((i+1:Nat):Int)) W (by simp[go_sem];rw[wI_]);refine A _ _ ⟨i+1,(d+u)%18446744073709551616,e+(g+t),qZ,rfl,rfl,qZ,qZ,?_,qZ,qZ⟩ (by grind);rw[eA f,g9,<-E];simp only[di,List.sum_nil,ft];rw[<-m];by_cases G:x<0
  ·grind
  ·grind
 ·obtain rfl:i=l.length:=qZ;refine qSf0 ?_;rw[cN]at E;obtain⟨v,y⟩:=dW (if d<9223372036854775808 then d else d - 18446744073709551616:Int);have n:IntKind.i64.wrap d=v:=by rw[eF,y];split<;>omega
  obtain⟨g,o⟩:=dW (if d<9223372036854775808 then 0 else -1:Int)
  have j:v / 9223372036854775808=g:=by
   rw[o,y];split<;>omega
  refine qS1 n ?_;refine qS2 lZ j ?_
  have F:e=g↔jl l.sum:=by
   by_cases k:d<9223372036854775808
   ·rw[bZ k]at o y;constructor
    ·grind
    ·grind
   ·rw[aZ k]at o y;constructor
    ·grind
    ·grind
  unfold tN at q;by_cases r:e=g
  ·have:decide (e≠g)=false:=by simp[r]
   refine qSf1 r ?_;refine qS1 n ?_;rw[bZ (F.1 r)]at q
   have:v=l.sum:=by
    by_cases k:d<9223372036854775808
    ·grind
    ·grind
   rw[this];exact q
  ·refine qSt1 r ?_;rw[aZ (λh=>r (F.2 h))]at q;exact q
end Go.Proofs
set_option maxRecDepth 100000
namespace Go.Proofs
open Go Go.Vc
section
variable{a b c:Vt_}{W:Wt_}{Z:cG}
def JO(a:T2)(b:Vt_)(c d:T2->Wp)(e:T1)(f:Wt_):=NV->cV e.1 (gb .sub 24 true a.1 (gQ 1) f λg h=>gb .add 24 false a.2.1 b h λi j=>gb .geq 24 true i (gQ 4294967296) j λk l=>cV k (c (g,i,()) l) (d (g,i,()) l)) (c (a.1,a.2.1,()) f)
def AQ(a b c:Vt_)(d:T2->Wp)(e:T2)(f:Wt_)(g:T2->Wp):=NV->jW (λh=>gb .geq 24 true e.1 (gQ 4294967296) f λi j=>cV i (h (bT,()) j) (gb .mul 24 false e.1 a j λk l=>gb .mul 24 true (gQ 4294967296) e.2.1 l λm n=>gb .add 24 false m b n λo p=>gb .gtr 24 false k o p λq r=>h (q,()) r)) (JO e c d g)
def Qf(a:T2)(b c d e:Vt_)(f:cG)(g:T2)(h:Wt_):=NV->gb .mul 24 true a.1 (gQ 4294967296) h λi j=>gb .add 24 false i g.1 j λk l=>gb .mul 24 true b (gQ 4294967296) l λm n=>gb .add 24 false m c n λo p=>gb .mul 24 false g.1 d p λq r=>gb .sub 24 false o q r λs t=>gb .shr 24 false s e t λu v=>f (gT k u) v
def Ql(a b c d e f g:Vt_)(h:cG)(i:T2)(j:Wt_):=NV->gb .mul 24 true a (gQ 4294967296) j λk l=>gb .add 24 false k b l λm n=>gb .mul 24 false i.1 c n λo p=>gb .sub 24 false m o p λq r=>gb .quo 24 false q d r λs t=>gb .mul 24 false s d t λu v=>gb .sub 24 false q u v λw x=>dK (S:=T2) (λy=>qB (AQ e f d y) (s,w,()) x) (Qf i q f c g h)
def Qi(a b c:Vt_)(d:cG)(e:Unit)(f:Wt_):=NV->gb .eql 24 true a (gQ 0) f λg h=>cV g (my .quo 24 false b c λi=>my .rem 24 false b c λj=>d (gT i j) h.drew) (Ca pQ 255 #[c] h λk l=>gr (convert 3 203 k) l λm n=>gb .shl 24 false c m n λo p=>gb .shr 24 true o (gQ 32) p λq r=>gb .and 24 true o (gQ 4294967295) r λs t=>gb .shl 24 false a m t λu v=>gb .sub 203 true (gQ 64) m v λw x=>gb .shr 24 false b w x λy z=>gb .or 24 false u y z λA B=>gb .shl 24 false b m B λC D=>gb .shr 24 true C (gQ 32) D λE F=>gb .and 24 true C (gQ 4294967295) F λG H=>gb .quo 24 false A q H λI J=>gb .mul 24 false I q J λK L=>gb .sub 24 false A K L λM N=>dK (S:=T2) (λO=>qB (AQ s E q O) (I,M,()) N) (Ql A E o q s G m d))
def OF(a b c:Vt_)(d:cG)(e:Unit)(f:Wt_):=NV->dK (S:=Unit) (λg=>gb .leq 24 false a b f λh i=>cV h (gl 356 (pt 1 0) i λj k=>False) (g (()) i)) (Qi b c a d)
def ZB(i:dK (S:=Unit) (λd=>gb .eql 24 true c (gQ 0) W λe f=>cV e (gl 356 (pt 0 0) f λg h=>False) (d (()) f)) (OF c a b Z)):Ca pQ 241 #[a,b,c] W Z:=cj Tryz.func241 i
end
end Go.Proofs
namespace Go.Proofs
open Go Go.Vc Go.Shelf
attribute [local congr] cR
variable {y y1 y0 r0 u R:Nat}
def Tryz.lays264_ren:Ren:=⟨λ|264=>240|n=>n,λ|53=>24|46=>203|n=>n,λ|n=>n⟩
def Tryz.lays264:Lays.n264 pQ Tryz.lays264_ren:=by constructor<;>exact eM
def Tryz.lays134_ren:Ren:=⟨λ|134=>255|129=>193|n=>n,λ|53=>24|3=>3|4=>4|46=>203|5=>5|9=>9|n=>n,λ|n=>n⟩
def Tryz.lays134:Lays.n134 pQ Tryz.lays134_ren:=by constructor<;>exact eM
def OM{x:Nat}(f:x<18446744073709551616)(c:y<18446744073709551616){w:Wt_}{K:cG}(d:K (.tuple #[.int .u64 ((x*y / 18446744073709551616:Nat):Int),gQ ((x*y%18446744073709551616:Nat):Int)]) w):Ca pQ 240 #[.int .u64 (x:Int),gQ (y:Int)] w K:=by
 show Ca pQ (Tryz.lays264_ren.f 264) _ _ _;exact⟨nM (Any.bits_Mul64 Tryz.lays264 x y f c w) λe g ⟨b,a⟩=>⟨_,b,by subst a;exact d⟩⟩
def TQ{x:Nat}(f:x<18446744073709551616){w:Wt_}{K:cG}(d:K (gI (64 - (Lib.bitLen x:Int))) w):Ca pQ 255 #[.int .u64 (x:Int)] w K:=by
 show Ca pQ (Tryz.lays134_ren.f 134) _ _ _;exact⟨nM (Any.bits_LeadingZeros64 Tryz.lays134 (x:Int) w qZ qZ) λe c ⟨a,b⟩=>⟨_,a,by grind⟩⟩
structure IK(y1 y0 r0 u q r:Nat):Prop where
 eq:q*y1+r=r0
 ge:(r0*4294967296+u) / (y1*4294967296+y0)<=q
 le:q<=4294967297
section
variable{y1 y0 r0 u q r:Nat}
def IK.mulE(h:IK y1 y0 r0 u q r):q*(y1*4294967296+y0)=q*y1*4294967296+q*y0:=by
 rw[Nat.mul_add,mN]
def IK.exit(h:IK y1 y0 r0 u q r)(a:0<y1*4294967296+y0)(b:q*y0<=4294967296*r+u):q=(r0*4294967296+u) / (y1*4294967296+y0):=by
 have e:=h.mulE;have c:=h.eq;exact Nat.le_antisymm ((Nat.le_div_iff_mul_le a).2 (by rw[e];omega)) h.ge
def IK.step(h:IK y1 y0 r0 u q r)(c:r0<y1*4294967296+y0)(l:u<4294967296)(f:4294967296<=q\/4294967296*r+u<q*y0):1<=q/\IK y1 y0 r0 u (q - 1) (r+y1)/\q - 1<=4294967296:=by
 have e:=h.mulE;have g:=h.eq;have i:=h.le;have j:(r0*4294967296+u) / (y1*4294967296+y0)<4294967296:=Nat.div_lt_of_lt_mul qZ
 have a:(r0*4294967296+u) / (y1*4294967296+y0)<q:=by
  rcases f with d|d
  ·omega
  ·exact(iR (show 0<y1*4294967296+y0 by omega)).2 (by rw[e];omega)
 have b:1<=q:=jD (nY _) a;obtain⟨k,rfl⟩:∃k,q=k+1:=⟨q - 1,qZ⟩
 refine⟨qZ,⟨?_,by grind,qZ⟩,qZ⟩;rw[je]at g;simp only[Nat.add_sub_cancel];omega
def IK.brk(b:q<=4294967296)(c:4294967296<=r)(a:y0<4294967296):q*y0<=4294967296*r+u:=by
 have:=jE b (Nat.le_of_lt a);omega
def IK.init(d:2147483648<=y1)(g:y0<4294967296)(i:u<4294967296)(b:r0<y1*4294967296+y0):IK y1 y0 r0 u (r0 / y1) (r0 - r0 / y1*y1):=by
 have h:=mE r0 y1;refine⟨qZ,?_,?_⟩
 ·obtain⟨Q,c⟩:=dW ((r0*4294967296+u) / (y1*4294967296+y0));have a:=mE (r0*4294967296+u) (y1*4294967296+y0);rw[<-c]at a|-;have e:Q*(y1*4294967296+y0)=Q*y1*4294967296+Q*y0:=by grind
  rw[e]at a;exact(Nat.le_div_iff_mul_le (show 0<y1 by omega)).2 qZ
 ·have f:r0<4294967298*y1:=qZ;exact Nat.le_of_lt_succ ((iR (show 0<y1 by omega)).2 f)
end
def Ap(n:Nat)(h:n<18446744073709551616):IntKind.u64.wrap (n:Int)=(n:Int):=wU_
def DQ(y1 y0 r0 u:Nat):Nat:=(r0*4294967296+u) / (y1*4294967296+y0)
def aq1(g:2147483648<=y1)(n:y1<4294967296)(f:y0<4294967296)(l:u<4294967296)(e:r0<y1*4294967296+y0){w:Wt_}{J:Value×Value×Unit->World->Prop}
  (m:∀x,J (gQ ((DQ y1 y0 r0 u:Nat):Int),x,()) w):lG (S:=Value×Value×Unit) (AQ (gQ (y0:Int)) (gQ (u:Int)) (gQ (y1:Int)) J) (gQ ((r0 / y1:Nat):Int),gQ ((r0 - r0 / y1*y1:Nat):Int),()) w:=by
 have t:=IK.init g f l e
 have c:r0 - r0 / y1*y1<4294967296:=by
  have s:r0 - r0 / y1*y1=r0%y1:=by rw[Nat.mod_eq_sub_mul_div,fe]
  rw[s];have:=gR r0 (show 0<y1 by omega);omega
 refine eS (λst W=>∃q r:Nat,st=(gQ (q:Int),gQ (r:Int),())/\W=w/\IK y1 y0 r0 u q r/\r<4294967296)
  (λst _=>match st.1 with| .int _ q=>q.toNat|_=>0) ⟨_,_,rfl,rfl,t,c⟩ ?_
 rintro⟨_,_,_⟩ W ⟨q,r,⟨⟩,rfl,k,A⟩ z h;unfold AQ;intro _;refine dK.at (λst b=>st=(.bool (decide (4294967296<=q\/4294967296*r+u<q*y0)),())/\b=W) ?_ ?_
 ·by_cases d:4294967296<=q
  ·have a:(4294967296:Int)<=(q:Int):=qZ;refine qSt1 a ?_;exact⟨by simp[d],rfl⟩
  ·have a:¬(4294967296:Int)<=(q:Int):=qZ;refine qSf1 a ?_;have v:q*y0<18446744073709551616:=jD (jE (show q<=4294967295 by omega) (show y0<=4294967295 by omega)) qZ;apply cx (gQ ((q*y0:Nat):Int)) W (by simp only[go_sem];simp;rw[<-iB,Ap _ v]);apply cx (gQ ((4294967296*r:Nat):Int)) W (by simp only[go_sem];simp;rw[wU_]);apply cx (gQ ((4294967296*r+u:Nat):Int)) W (by simp only[go_sem];simp;rw[wU_]);apply cx (.bool (decide (4294967296*r+u<q*y0))) W (by simp only[go_sem];simp;omega);exact⟨by simp[d],rfl⟩
 rintro _ b ⟨rfl,rfl⟩;unfold JO;intro _;by_cases p:4294967296<=q\/4294967296*r+u<q*y0
 ·rw[qo p];obtain⟨s1,j,y⟩:=k.step e l p;apply cx (gQ ((q - 1:Nat):Int)) b (by simp only[go_sem];simp;rw[wU_];omega);apply cx (gQ ((r+y1:Nat):Int)) b (by simp only[go_sem];simp;rw[wU_]);by_cases i:4294967296<=r+y1
  ·have o:(4294967296:Int)<=((r+y1:Nat):Int):=qZ;apply cx (.bool true) b (by simp only[go_sem];simp;omega);rw[kx];have:=j.exit qZ (IK.brk y i f);rw[this];exact m _
  ·apply cx (.bool false) b (by simp only[go_sem];simp;omega);rw[gP];exact h _ _ ⟨q - 1,r+y1,rfl,rfl,j,qZ⟩ (by grind)
 ·rw[cy,aZ (by grind)];have:=k.exit qZ qZ;rw[this];exact m _
def am5(g:2147483648<=y1)(n:y1<4294967296)(f:y0<4294967296)(l:u<4294967296)(e:r0<y1*4294967296+y0){w:Wt_}{J:Value×Value×Unit->World->Prop}
  (m:∀x,J (gQ ((DQ y1 y0 r0 u:Nat):Int),x,()) w):lG (S:=Value×Value×Unit) (AQ (gQ (y0:Int)) (gQ (u:Int)) (gQ (y1:Int)) J) (gQ ((r0 / y1:Nat):Int),gQ ((r0 - r0 / y1*y1:Nat):Int),()) w:=by
 have t:=IK.init g f l e
 have c:r0 - r0 / y1*y1<4294967296:=by
  have s:r0 - r0 / y1*y1=r0%y1:=by rw[Nat.mod_eq_sub_mul_div,fe]
  rw[s];have:=gR r0 (show 0<y1 by omega);omega
 refine eS (λst W=>∃q r:Nat,st=(gQ (q:Int),gQ (r:Int),())/\W=w/\IK y1 y0 r0 u q r/\r<4294967296)
  (λst _=>match st.1 with| .int _ q=>q.toNat|_=>0) ⟨_,_,rfl,rfl,t,c⟩ ?_
 rintro⟨_,_,_⟩ W ⟨q,r,⟨⟩,rfl,k,A⟩ z h;unfold AQ;intro _;refine dK.at (λst b=>st=(.bool (decide (4294967296<=q\/4294967296*r+u<q*y0)),())/\b=W) ?_ ?_
 ·by_cases d:4294967296<=q
  ·have a:(4294967296:Int)<=(q:Int):=qZ;refine qSt1 a ?_;exact⟨by simp[d],rfl⟩
  ·have a:¬(4294967296:Int)<=(q:Int):=qZ;refine qSf1 a ?_;have v:q*y0<18446744073709551616:=jD (jE (show q<=4294967295 by omega) (show y0<=4294967295 by omega)) qZ;apply cx (gQ ((q*y0:Nat):Int)) W (by simp only[go_sem];simp;rw[<-iB,Ap _ v]);apply cx (gQ ((4294967296*r:Nat):Int)) W (by simp only[go_sem];simp;rw[wU_]);apply cx (gQ ((4294967296*r+u:Nat):Int)) W (by simp only[go_sem];simp;rw[wU_]);apply cx (.bool (decide (4294967296*r+u<q*y0))) W (by simp only[go_sem];simp;omega);exact⟨by simp[d],rfl⟩
 rintro _ b ⟨rfl,rfl⟩;unfold JO;intro _;by_cases p:4294967296<=q\/4294967296*r+u<q*y0
 ·rw[qo p];obtain⟨s1,j,y⟩:=k.step e l p;apply cx (gQ ((q - 1:Nat):Int)) b (by simp only[go_sem];simp;rw[wU_];omega);apply cx (gQ ((r+y1:Nat):Int)) b (by simp only[go_sem];simp;rw[wU_]);by_cases i:4294967296<=r+y1
  ·have o:(4294967296:Int)<=((r+y1:Nat):Int):=qZ;apply cx (.bool true) b (by simp only[go_sem];simp;omega);rw[kx];have:=j.exit qZ (IK.brk y i f);rw[this];exact m _
  ·apply cx (.bool false) b (by simp only[go_sem];simp;omega);rw[gP];exact h _ _ ⟨q - 1,r+y1,rfl,rfl,j,qZ⟩ (by grind)
 ·rw[cy,aZ (by grind)];have:=k.exit qZ qZ;rw[this];exact m _
def Lz(b:u<4294967296)(a:r0<y1*4294967296+y0):DQ y1 y0 r0 u<4294967296:=by
 unfold DQ;exact(iR (show 0<y1*4294967296+y0 by omega)).2 qZ
def Lm(a:r0<y1*4294967296+y0):∃r,r0*4294967296+u=DQ y1 y0 r0 u*(y1*4294967296+y0)+r/\r<y1*4294967296+y0:=by
 refine⟨(r0*4294967296+u)%(y1*4294967296+y0),?_,gR _ qZ⟩;unfold DQ;have:=ie (r0*4294967296+u) (y1*4294967296+y0);rw[fe]at this;exact this.symm
def XB{N p Q:Nat}(hp:0<p)(h:N*p=Q*(y*p)+R)(b:R<y*p):N / y=Q/\N%y=R / p:=by
 have d:Q*(y*p)=Q*y*p:=by rw[mN]
 rw[d]at h;have e:Q*y<=N:=Nat.le_of_mul_le_mul_right qZ hp;obtain⟨t,rfl⟩:∃t,N=Q*y+t:=⟨N - Q*y,qZ⟩
 rw[im]at h;have a:R=t*p:=qZ;rw[a]at b|-;have c:t<y:=Nat.lt_of_mul_lt_mul_right b;rw[Nat.mul_div_cancel _ hp];constructor
 ·rw[jf,Nat.add_mul_div_right _ _ qZ,Nat.div_eq_of_lt c,eU]
 ·rw[jf,Nat.add_mul_mod_self_right,iM c]
def Un{hi lo s:Nat}(i:hi<y)(c:lo<18446744073709551616)(k:s<=64)(d:y*2 ^ s<18446744073709551616):
  (hi*18446744073709551616+lo)*2 ^ s=(hi*2 ^ s+lo / 2 ^ (64 - s))*18446744073709551616+lo*2 ^ s%18446744073709551616/\hi*2 ^ s+lo / 2 ^ (64 - s)<y*2 ^ s/\lo / 2 ^ (64 - s)<2 ^ s/\hi*2 ^ s<18446744073709551616:=by
 have hp:0<2 ^ s:=oI s
 have e:(18446744073709551616:Nat)=2 ^ (64 - s)*2 ^ s:=by
  rw[<-qh,show 64 - s+s=64 by omega]
 have h:lo*2 ^ s / 18446744073709551616=lo / 2 ^ (64 - s):=by
  conv=>lhs;rw[e]
  exact Nat.mul_div_mul_right _ _ hp
 have f:=ie (lo*2 ^ s) 18446744073709551616;rw[h]at f;obtain⟨p,a⟩:=dW (2 ^ s);obtain⟨q,b⟩:=dW (lo / 2 ^ (64 - s))
 have g:q<p:=by
  rw[b,a];apply(iR (oI _)).2;rw[fe,<-e];exact c
 rw[<-a,<-b]at f;rw[<-a]at d hp;rw[<-a,<-b];have j:(hi+1)*p<=y*p:=dM p i;rw[je]at j;refine⟨?_,qZ,g,qZ⟩;rw[im,Nat.mul_right_comm];omega
def aa2(s:Nat):((2:Int) ^ s)=((2 ^ s:Nat):Int):=by grind
def aw9{B U Z b d a a0 c:Nat}(f:U*B+b=a+c)(g:c*B+d=a0+R)(h:b*B+d=Z):U*(B*B)+Z=a*B+a0+R:=by
 have e:=fC (·*B) f;simp only[im]at e;rw[<-mN];omega
def af1{U Z a a0 b:Nat}(d:U*4294967296+Z / 4294967296=a+b)(c:b*4294967296+Z%4294967296=a0+R):U*18446744073709551616+Z=a*4294967296+a0+R:=
 aw9 (B:=4294967296) d c (qK Z 4294967296)
def PO{hi lo:Nat}(hy:hi<y)(J:y<18446744073709551616)(m:lo<18446744073709551616){w:Wt_}{K:cG}
  (hK:∀w',M0 w w' ->K (.tuple #[.int .u64 (((hi*18446744073709551616+lo) / y:Nat):Int),gQ (((hi*18446744073709551616+lo)%y:Nat):Int)]) w'):Ca pQ 241 #[.int .u64 (hi:Int),gQ (lo:Int),gQ (y:Int)] w K:=by
 apply ZB;refine dK.at (λ_ W=>W=w) ?_ ?_
 ·have h1:¬y=0:=qZ;apply qSv1 (.bool false) h1;rw[gP]
 rintro _ W rfl;unfold OF;intro _;refine dK.at (λ_ b=>b=W) ?_ ?_
 ·have h1:¬y<=hi:=qZ;apply qSv1 (.bool false) h1;rw[gP]
 rintro _ b rfl;unfold Qi;intro _;by_cases h0:hi=0
 ·subst h0;apply qSv0 (.bool true);rw[kx];have i:¬y=0:=qZ;have hq:lo / y<18446744073709551616:=jD (oS _ _) m;apply dX (gQ ((lo / y:Nat):Int)) (λ_=>by simp only[go_sem];simp[i];rw[<-nV,Ap _ hq]);apply dX (gQ ((lo%y:Nat):Int)) (λ_=>by simp only[go_sem];simp[i];rw[kv qZ]);have C:=hK b.drew (de.refl _ _).drew;rw[nv,eU]at C;exact C
 apply qSv1 (.bool false) h0;rw[gP];apply TQ J;obtain⟨b1,b2,b3⟩:=Lib.bitLenAux_bounds 64 y J qZ
 have hL:Lib.bitLenAux 64 y<=64:=by
  apply dU;intro hc;have:2 ^ 64<=2 ^ (Lib.bitLenAux 64 y - 1):=lS qZ qZ;omega
 have z:Lib.bitLen y=Lib.bitLenAux 64 y:=rfl;rw[z];obtain⟨s,hs⟩:=dW (64 - Lib.bitLenAux 64 y);have A:(64 - (Lib.bitLenAux 64 y:Int))=(s:Int):=qZ;rw[A];have N:s<64:=qZ
 have d:9223372036854775808<=y*2 ^ s/\y*2 ^ s<18446744073709551616:=by
  have e1:2 ^ (Lib.bitLenAux 64 y - 1)*2 ^ s=9223372036854775808:=by rw[<-qh,show Lib.bitLenAux 64 y - 1+s=63 by omega]
  have e2:2 ^ Lib.bitLenAux 64 y*2 ^ s=18446744073709551616:=by rw[<-qh,show Lib.bitLenAux 64 y+s=64 by omega]
  exact⟨by rw[<-e1];exact dM _ b2,by rw[<-e2];exact Nat.mul_lt_mul_of_pos_right b3 (oI s)⟩
 clear b1 b2 b3 hL z A hs;obtain⟨Q,t,u3,V⟩:=Un hy m (Nat.le_of_lt N) d.2;obtain⟨p,hp⟩:=dW (2 ^ s);have hpp:0<p:=by rw[hp];exact oI s
 obtain⟨Y,D⟩:=dW (y*p);obtain⟨H,E⟩:=dW (hi*p);obtain⟨X,v⟩:=dW (lo / 2 ^ (64 - s));obtain⟨Z,hZ⟩:=dW (lo*p%18446744073709551616);rw[<-hp,<-v,<-E,<-hZ]at Q;rw[<-hp,<-v,<-E,<-D]at t;rw[<-hp,<-v]at u3;rw[<-hp,<-E]at V;rw[<-hp,<-D]at d;have c:min s 64=s:=qZ;have g:((2:Int) ^ s)=(p:Int):=by rw[aa2,hp]
 apply cx (gQ (s:Int)) b (by simp[go_sem];rw[wU_]);apply cx (gQ (Y:Int)) b (by simp only[go_sem];simp[c];rw[g,<-iB,<-D,Ap _ d.2]);obtain⟨a,hy1⟩:=dW (Y / 4294967296);obtain⟨r,i⟩:=dW (Y%4294967296);have h:Y=a*4294967296+r:=qZ;apply cx (gQ (a:Int)) b (by simp[go_sem];omega);apply cx (gQ (r:Int)) b (by simp only[go_sem];simp;rw[Mul64.maskN Y d.2,i]);apply cx (gQ (H:Int)) b (by simp only[go_sem];simp[c];rw[g,<-iB,<-E,Ap _ V]);apply cx (gQ ((64 - s:Nat):Int)) b (by simp only[go_sem];simp;rw[wU_];omega);have l:min (64 - s) 64=64 - s:=qZ;apply cx (gQ (X:Int)) b (by simp only[go_sem];simp[l];rw[aa2,<-nV,<-v])
 have hor:H|||X=H+X:=by
  rw[E,hp,<-Nat.shiftLeft_eq,<-Nat.shiftLeft_add_eq_or_of_lt (by rw[<-hp];exact u3)]
 have hXM:X<18446744073709551616:=jD (by rw[v];exact oS _ _) m;apply cx (gQ ((H+X:Nat):Int)) b (by simp only[go_sem];simp;rw[bits_or_u64_nat H X V hXM,hor];simp);apply cx (gQ (Z:Int)) b (by simp only[go_sem];simp[c];rw[g,<-iB,IntKind.wrap_u64,hZ];omega);have hZM:Z<18446744073709551616:=by rw[hZ];exact gR _ qZ
 apply qSv0 (gQ ((Z / 4294967296:Nat):Int));apply cx (gQ ((Z%4294967296:Nat):Int)) b (by simp only[go_sem];simp;rw[Mul64.maskN Z hZM];simp);obtain⟨U,hU⟩:=dW (H+X);rw[<-hU]at Q t|-;have j:¬a=0:=qZ;have e:2147483648<=a/\a<4294967296:=qZ;have G:U / a<18446744073709551616:=jD (oS _ _) qZ;have hUm:=mE U a;apply cx (gQ ((U / a:Nat):Int)) b (by simp only[go_sem];simp[j];rw[<-nV,Ap _ G]);obtain⟨m1,o⟩:=dW (U / a*a);rw[<-o]at hUm;apply cx (gQ (m1:Int)) b (by simp[-Int.natCast_ediv,go_sem];rw[<-iB,<-o,Ap _ qZ]);apply cx (gQ ((U - m1:Nat):Int)) b (by simp[go_sem];rw[wU_];omega);rw[o];have L:Z / 4294967296<4294967296:=qZ;have F:Z%4294967296<4294967296:=qZ;rw[h]at t;refine dK.at (λst W=>∃x,st=(gQ ((DQ a r U (Z / 4294967296):Nat):Int),x,())/\W=b) ?_ ?_
 ·exact aq1 e.1 e.2 qZ L t λx=>⟨x,rfl,rfl⟩
 rintro _ W ⟨x,rfl,rfl⟩;unfold Ql;intro _;obtain⟨f,d1,d2⟩:=Lm (u:=Z / 4294967296) t;have dl:=Lz L t;obtain⟨M,hq1⟩:=dW (DQ a r U (Z / 4294967296));rw[<-hq1]at d1 dl|-;rw[<-h]at d1 d2;obtain⟨a1,k⟩:=dW (M*Y);rw[<-k]at d1;apply cx (gQ ((U*4294967296%18446744073709551616:Nat):Int)) W (by simp[go_sem];rw[IntKind.wrap_u64]);apply cx (gQ (((U*4294967296+Z / 4294967296)%18446744073709551616:Nat):Int)) W (by simp[go_sem];rw[IntKind.wrap_u64];omega);apply cx (gQ ((a1%18446744073709551616:Nat):Int)) W (by simp[go_sem];rw[<-iB,<-k,IntKind.wrap_u64]);apply cx (gQ (f:Int)) W (by simp[go_sem];rw[IntKind.wrap_u64];omega);have B:f / a<18446744073709551616:=jD (oS _ _) qZ;have S:=mE f a;apply cx (gQ ((f / a:Nat):Int)) W (by simp[go_sem,j];rw[<-nV,Ap _ B]);obtain⟨m2,n⟩:=dW (f / a*a);rw[<-n]at S;apply cx (gQ (m2:Int)) W (by simp[-Int.natCast_ediv,go_sem];rw[<-iB,<-n,Ap _ qZ]);apply cx (gQ ((f - m2:Nat):Int)) W (by simp[go_sem];rw[wU_];omega);rw[n];rw[h]at d2;refine dK.at (λst b=>∃x,st=(gQ ((DQ a r f (Z%4294967296):Nat):Int),x,())/\b=W) ?_ ?_
 ·exact am5 e.1 e.2 qZ F d2 λx=>⟨x,rfl,rfl⟩
 rintro _ W ⟨x,rfl,rfl⟩;unfold Qf;intro _;obtain⟨R,O,f2⟩:=Lm (u:=Z%4294967296) d2;have P:=Lz F d2;obtain⟨q0,T⟩:=dW (DQ a r f (Z%4294967296));rw[<-T]at O P|-;rw[<-h]at O f2;obtain⟨a0,q⟩:=dW (q0*Y);rw[<-q]at O;apply cx (gQ ((M*4294967296:Nat):Int)) W (by simp[go_sem];rw[wU_]);apply cx (gQ ((M*4294967296+q0:Nat):Int)) W (by simp[go_sem];rw[wU_]);apply cx (gQ ((f*4294967296%18446744073709551616:Nat):Int)) W (by simp[go_sem];rw[IntKind.wrap_u64]);apply cx (gQ (((f*4294967296+Z%4294967296)%18446744073709551616:Nat):Int)) W (by simp[go_sem];rw[IntKind.wrap_u64];omega);apply cx (gQ ((a0%18446744073709551616:Nat):Int)) W (by simp[go_sem];rw[<-iB,<-q,IntKind.wrap_u64]);apply cx (gQ (R:Int)) W (by simp[go_sem];rw[IntKind.wrap_u64];omega);apply cx (gQ ((R / p:Nat):Int)) W (by simp[go_sem,c];rw[g])
 have I:(hi*18446744073709551616+lo)*p=(M*4294967296+q0)*(y*p)+R:=by
  rw[Q,<-D,im,<-q];have:M*4294967296*Y=a1*4294967296:=by rw[k,Nat.mul_right_comm]
  rw[this];exact af1 d1 O
 obtain⟨g1,g2⟩:=XB hpp I (by rw[<-D];exact f2);have C:=hK W lX;rw[g1,g2]at C;exact C
end Go.Proofs
namespace Go.Srt
open Go.Vc Go.Proofs
section
variable{α:Type}(lt:α->α->Bool)
def swp(l:List α)(i j:Nat):List α:=match l[i]?,l[j]? with|some x,some y=>(l.set i y).set j x|_,_=>l
def ltAt(l:List α)(i j:Nat):Bool:=match l[i]?,l[j]? with|some x,some y=>lt x y|_,_=>false
def swp_eq{l:List α}{i j:Nat}(hi:i<l.length)(a:j<l.length):swp l i j=(l.set i l[j]).set j l[i]:=by
 unfold swp;rw[cE hi,cE a]
def ltAt_eq{l:List α}{i j:Nat}(hi:i<l.length)(a:j<l.length):ltAt lt l i j=lt l[i] l[j]:=by
 unfold ltAt;rw[cE hi,cE a]
def swp_perm(l:List α)(i j:Nat):(swp l i j).Perm l:=by
 by_cases b:i<l.length
 ·by_cases a:j<l.length
  ·rw[swp_eq b a];have h:=Array.swap_perm (xs:=l.toArray) (i:=i) (j:=j) (by simpa using b) (by simpa using a);have c:=Array.perm_iff_toList_perm.1 h;simpa [Array.swap_def]using c
  ·unfold swp;rw[ky (nW a)];split<;>simp_all
 ·unfold swp;rw[ky (nW b)]
def insIn(a:Nat):Nat->List α->List α
 |0,l=>l
 |j+1,l=>if a<j+1/\ltAt lt l (j+1) j=true then insIn a j (swp l (j+1) j)else l
def insFrom(a:Nat):Nat->Nat->List α->List α
 |_,0,l=>l
 |i,k+1,l=>insFrom a (i+1) k (insIn lt a i l)
def insSort(a b:Nat)(l:List α):List α:=insFrom lt a (a+1) (b - (a+1)) l
def bsG(p:Nat->Bool)(i j:Nat):Nat:=if i<j then(if p ((i+j) / 2)=true then bsG p ((i+j) / 2+1) j else bsG p i ((i+j) / 2))else i
 termination_by j - i
 decreasing_by all_goals omega
def mvUp(l:List α)(k e:Nat):List α:=if k<e then mvUp (swp l k (k+1)) (k+1) e else l
 termination_by e - k
def mvDn(l:List α)(k i:Nat):List α:=if i<k then mvDn (swp l k (k - 1)) (k - 1) i else l
 termination_by k - i
def swR(l:List α)(a b i n:Nat):List α:=if i<n then swR (swp l (a+i) (b+i)) a b (i+1) n else l
 termination_by n - i
def rot(m:Nat)(l:List α)(i j:Nat):List α:=
 if i≠j/\0<i/\0<j then(if j<i then rot m (swR l (m - i) m 0 j) (i - j) j else rot m (swR l (m - i) (m+j - i) 0 i) i (j - i))else swR l (m - i) m 0 i
 termination_by i+j
 decreasing_by all_goals omega
def stOf(l:List α)(a m b:Nat):Nat:=
 if(a+b) / 2<m then bsG (λc=> !ltAt lt l ((a+b) / 2+m - 1 - c) c) ((a+b) / 2+m - b) ((a+b) / 2)else bsG (λc=> !ltAt lt l ((a+b) / 2+m - 1 - c) c) a m
def symM(a m b:Nat)(l:List α):List α:=
 if m - a=1 then mvUp l a (bsG (λh=>ltAt lt l h a) m b - 1)
 else if b - m=1 then mvDn l m (bsG (λh=> !ltAt lt l m h) a m)
 else
  let st:=stOf lt l a m b;let en:=(a+b) / 2+m - st;let l1:=if st<m/\m<en then rot m l (m - st) (en - m)else l
  let l2:=if h:a<st/\st<(a+b) / 2 then symM a st ((a+b) / 2) l1 else l1
  if h:(a+b) / 2<en/\en<b/\a<(a+b) / 2 then symM ((a+b) / 2) en b l2 else l2
 termination_by b - a
 decreasing_by all_goals omega
def blk(n:Nat)(a b:Nat)(l:List α):List α:=if b<=n then blk n b (b+20) (insSort lt a b l)else insSort lt a n l
 termination_by n+1 - b
def mrgPass(bs n a b:Nat)(l:List α):List α:=
 if b<=n/\0<bs then mrgPass bs n b (b+2*bs) (symM lt a (a+bs) b l)else if a+bs<n then symM lt a (a+bs) n l else l
 termination_by n+1 - b
 decreasing_by all_goals omega
def mrg(n bs:Nat)(l:List α):List α:=if bs<n/\0<bs then mrg n (bs*2) (mrgPass lt bs n 0 (2*bs) l)else l
 termination_by n - bs
 decreasing_by all_goals omega
def stable(l:List α):List α:=mrg lt l.length 20 (blk lt l.length 0 20 l)
def insIn_perm(a:Nat):∀(j:Nat) (l:List α),(insIn lt a j l).Perm l
 |0,l=>fw _
 |j+1,l=>by
  unfold insIn;split
  ·exact(insIn_perm a j _).trans (swp_perm _ _ _)
  ·exact fw _
def insFrom_perm(a:Nat):∀(k i:Nat) (l:List α),(insFrom lt a i k l).Perm l
 |0,i,l=>fw _
 |k+1,i,l=>(insFrom_perm a k (i+1) _).trans (insIn_perm lt a i l)
def mvUp_perm(l:List α)(k e:Nat):(mvUp l k e).Perm l:=by
 rw[mvUp];split
 ·exact(mvUp_perm _ _ _).trans (swp_perm _ _ _)
 ·exact fw _
 termination_by e - k
def mvDn_perm(l:List α)(k i:Nat):(mvDn l k i).Perm l:=by
 rw[mvDn];split
 ·exact(mvDn_perm _ _ _).trans (swp_perm _ _ _)
 ·exact fw _
 termination_by k - i
def swR_perm(l:List α)(a b i n:Nat):(swR l a b i n).Perm l:=by
 rw[swR];split
 ·exact(swR_perm _ _ _ _ _).trans (swp_perm _ _ _)
 ·exact fw _
 termination_by n - i
def rot_perm(m:Nat)(l:List α)(i j:Nat):(rot m l i j).Perm l:=by
 rw[rot];split
 ·split
  ·exact(rot_perm _ _ _ _).trans (swR_perm _ _ _ _ _)
  ·exact(rot_perm _ _ _ _).trans (swR_perm _ _ _ _ _)
 ·exact swR_perm _ _ _ _ _
 termination_by i+j
 decreasing_by all_goals omega
def symM_perm(a m b:Nat)(l:List α):(symM lt a m b l).Perm l:=by
 rw[symM];split
 ·exact mvUp_perm _ _ _
 split
 ·exact mvDn_perm _ _ _
 have e:(if stOf lt l a m b<m/\m<(a+b) / 2+m - stOf lt l a m b then rot m l (m - stOf lt l a m b) ((a+b) / 2+m - stOf lt l a m b - m)else l).Perm l:=by
  split
  ·exact rot_perm _ _ _ _
  ·exact fw _
 simp only;generalize(if stOf lt l a m b<m/\m<(a+b) / 2+m - stOf lt l a m b then rot m l (m - stOf lt l a m b) ((a+b) / 2+m - stOf lt l a m b - m)else l)=c at e|-
 have d:(if h:a<stOf lt l a m b/\stOf lt l a m b<(a+b) / 2 then symM lt a (stOf lt l a m b) ((a+b) / 2) c else c).Perm l:=by
  split
  ·exact(symM_perm _ _ _ _).trans e
  ·exact e
 generalize(if h:a<stOf lt l a m b/\stOf lt l a m b<(a+b) / 2 then symM lt a (stOf lt l a m b) ((a+b) / 2) c else c)=f at d|-;split
 ·exact(symM_perm _ _ _ _).trans d
 ·exact d
 termination_by b - a
 decreasing_by all_goals omega
def blk_perm(n a b:Nat)(l:List α):(blk lt n a b l).Perm l:=by
 rw[blk];split
 ·exact(blk_perm _ _ _ _).trans (insFrom_perm _ _ _ _ _)
 ·exact insFrom_perm _ _ _ _ _
 termination_by n+1 - b
def mrgPass_perm(c n a b:Nat)(l:List α):(mrgPass lt c n a b l).Perm l:=by
 rw[mrgPass];split
 ·exact(mrgPass_perm _ _ _ _ _).trans (symM_perm _ _ _ _ _)
 ·split
  ·exact symM_perm _ _ _ _ _
  ·exact fw _
 termination_by n+1 - b
 decreasing_by all_goals omega
def mrg_perm(n a:Nat)(l:List α):(mrg lt n a l).Perm l:=by
 rw[mrg];split
 ·exact(mrg_perm _ _ _).trans (mrgPass_perm _ _ _ _ _ _)
 ·exact fw _
 termination_by n - a
 decreasing_by all_goals omega
def stable_perm(l:List α):(stable lt l).Perm l:=(mrg_perm _ _ _ _).trans (blk_perm _ _ _ _ _)
def bsG_go{p:Nat->Bool}{i j:Nat}(h:i<j):bsG p i j=if p ((i+j) / 2)=true then bsG p ((i+j) / 2+1) j else bsG p i ((i+j) / 2):=by
 conv=>lhs;rw[bsG]
 rw[bZ h]
def bsG_end{p:Nat->Bool}{i j:Nat}(h:¬i<j):bsG p i j=i:=by
 rw[bsG,aZ h]
end
end Go.Srt
namespace Go.Proofs
open Go Go.Vc Go.Srt
attribute [local congr] cR
variable {x y:Nat}
def Hm(W:Wt_)(c:y<=x)(a:x<=1000000)(b:Bool):(qE .sub 3 b (gI (x:Int)) (gI (y:Int))).run pQ W=.ok (gI ((x - y:Nat):Int)) W:=by
 simp[go_sem];rw[wI_];omega
def AG(W:Wt_)(a:x+y<=10000000)(b:Bool):(qE .add 3 b (gI (x:Int)) (gI (y:Int))).run pQ W=.ok (gI ((x+y:Nat):Int)) W:=by
 simp[go_sem];rw[wI_]
def BO(W:Wt_)(b:Bool):(qE .lss 3 b (gI (x:Int)) (gI (y:Int))).run pQ W=.ok (.bool (decide (x<y))) W:=by
 simp[go_sem]
def WC(W:Wt_):(qE .eql 3 true (gI (x:Int)) (gI 1)).run pQ W=.ok (.bool (decide (x=1))) W:=by
 by_cases h:x=1
 ·subst h;simp[go_sem]
 ·have a:¬(x:Int)=1:=qZ;simp[go_sem,h,a]
def Ks{i j:Nat}(h:i<j)(a:j<=1000000)(w:Wt_):∃x,(convert 3 203 (gI ((i+j:Nat):Int))).run pQ w=.ok x w/\∃y,(qE .shr 203 true x (gQ 1)).run pQ w=.ok y w/\(convert 203 3 y).run pQ w=.ok (gI (((i+j) / 2:Nat):Int)) w:=by
 have:=UI h a w
 rwa[<-iT]at this
def ZE(W:Wt_)(b:Bool):(qE .leq 3 b (gI (x:Int)) (gI (y:Int))).run pQ W=.ok (.bool (decide (x<=y))) W:=by
 simp[go_sem]
def U6(W:Wt_)(h:x<=1000000):(qE .mul 3 true (gI 2) (gI (x:Int))).run pQ W=.ok (gI ((2*x:Nat):Int)) W:=by
 simp[go_sem];rw[wI_]
def XQ(W:Wt_)(h:x<=1000000):(qE .mul 3 true (gI (x:Int)) (gI 2)).run pQ W=.ok (gI ((x*2:Nat):Int)) W:=by
 simp[go_sem];rw[wI_]
end Go.Proofs
set_option maxRecDepth 100000
namespace Go.Proofs
open Go Go.Vc
variable {a0 a b c d:Vt_}{w:Wt_}{K:cG}
structure pe where
 ts:TypeId
 te:TypeId
 ins:FuncId
 swR:FuncId
 rot:FuncId
 sym:FuncId
 stab:FuncId
abbrev HM:pe:=⟨307,3,263,270,267,264,256⟩
abbrev HV:pe:=⟨95,74,260,269,266,261,249⟩
def LQ(T:pe)(a:T1)(b:Vt_)(c:T1->Wp)(d:T1)(e:T1->Wp)(f:T1)(g:Wt_):=NV->cV f.1 (my .sub 3 true a.1 (gI 1) λh=>my .sub 3 true a.1 (gI 1) λi=>mf T.ts b i λj=>eP T.te j g.drew λk=>mf T.ts b a.1 λl=>eP T.te l g.drew λm=>mf T.ts b a.1 λn=>gs T.te n k g.drew λo=>mf T.ts b h λp=>gs T.te p m o λq=>gb .sub 3 true a.1 (gI 1) q λr s=>c (r,()) s) (gb .add 3 true d.1 (gI 1) g λt u=>e (t,()) u)
def KI(T:pe)(a b c:Vt_)(d:T1)(e:T1->Wp)(f:T1)(g:Wt_)(h:T1->Wp):=NV->dK (S:=T1) (λi=>my .gtr 3 false f.1 a λj=>cV j (mf T.ts b f.1 λk=>eP T.te k g.drew λl=>my .sub 3 true f.1 (gI 1) λm=>mf T.ts b m λn=>eP T.te n g.drew λo=>iv pQ c [l,o] g.drew λp q=>my .lss 3 true p (gI 0) λr=>i (r,()) q) (i ((.bool false),()) g.drew)) (LQ T f b h d e)
def Ko(T:pe)(a b c d:Vt_)(e:cG)(f:T1)(g:Wt_)(h:T1->Wp):=NV->gb .lss 3 false f.1 a g λi j=>cV i (lG (S:=T1) (KI T b c d f h) (f.1,()) j) (e (.tuple #[]) j)
def KG(T:pe)(a b c d:Vt_)(e:Wt_)(f:cG):=gb .add 3 true b (gI 1) e λg h=>lG (S:=T1) (Ko T c b a d f) (g,()) h
def Lo(T:pe)(a b c d:Vt_)(e:cG)(f:T1)(g:Wt_)(h:T1->Wp):=NV->gb .lss 3 false f.1 a g λi j=>cV i (my .add 3 false b f.1 λk=>my .add 3 false c f.1 λl=>my .add 3 false c f.1 λm=>mf T.ts d m λn=>eP T.te n j.drew λo=>my .add 3 false b f.1 λp=>mf T.ts d p λq=>eP T.te q j.drew λr=>mf T.ts d k λs=>gs T.te s o j.drew λt=>mf T.ts d l λu=>gs T.te u r t λv=>gb .add 3 true f.1 (gI 1) v λw x=>h (w,()) x) (e (.tuple #[]) j)
def KR(T:pe)(a b c d e:Vt_)(f:Wt_)(g:cG):=lG (S:=T1) (Lo T d b c a g) ((gI 0),()) f
def K8(T:pe)(a b c:Vt_)(d:cG)(e:T2)(f:Wt_)(g:T2->Wp):=NV->gb .neq 3 false e.1 e.2.1 f λh i=>cV h (gb .gtr 3 false e.1 e.2.1 i λj k=>cV j (gb .sub 3 false a e.1 k λl m=>Ca pQ T.swR #[b,l,a,e.2.1,c] m λn o=>gb .sub 3 false e.1 e.2.1 o λp q=>g (p,e.2.1,()) q) (gb .sub 3 false a e.1 k λr s=>gb .add 3 false a e.2.1 s λt u=>gb .sub 3 false t e.1 u λv w=>Ca pQ T.swR #[b,r,v,e.1,c] w λx y=>gb .sub 3 false e.2.1 e.1 y λz A=>g (e.1,z,()) A)) (gb .sub 3 false a e.1 i λB C=>Ca pQ T.swR #[b,B,a,e.1,c] C λD E=>d (.tuple #[]) E)
def Kt(T:pe)(a b c d e:Vt_)(f:Wt_)(g:cG):=gb .sub 3 false c b f λh i=>gb .sub 3 false d c i λj k=>lG (S:=T2) (K8 T c a e g) (h,j,()) k
def Fb(T:pe)(a:T2)(b:Vt_)(c:cG)(d:T1)(e:Wt_)(f:T1->Wp):=NV->gb .sub 3 true a.1 (gI 1) e λg h=>gb .lss 3 false d.1 g h λi j=>cV i (my .add 3 true d.1 (gI 1) λk=>my .add 3 true d.1 (gI 1) λl=>mf T.ts b l λm=>eP T.te m j.drew λn=>mf T.ts b d.1 λo=>eP T.te o j.drew λp=>mf T.ts b d.1 λq=>gs T.te q n j.drew λr=>mf T.ts b k λs=>gs T.te s p r λt=>gb .add 3 true d.1 (gI 1) t λu v=>f (u,()) v) (c (.tuple #[]) j)
def Lt(T:pe)(a b c:Vt_)(d:cG)(e:T2)(f:Wt_)(g:T2->Wp):=NV->gb .lss 3 false e.1 e.2.1 f λh i=>cV h (gb .add 3 false e.1 e.2.1 i λj k=>gr (convert 3 203 j) k λl m=>gb .shr 203 true l (gQ 1) m λn o=>gr (convert 203 3 n) o λp q=>mf T.ts a p λr=>eP T.te r q.drew λs=>mf T.ts a b λt=>eP T.te t q.drew λu=>iv pQ c [s,u] q.drew λv w=>my .lss 3 true v (gI 0) λx=>cV x (gb .add 3 true p (gI 1) w λy z=>g (y,e.2.1,()) z) (g (e.1,p,()) w)) (lG (S:=T1) (Fb T e a d) (b,()) i)
def Gp(T:pe)(a:T2)(b:Vt_)(c:cG)(d:T1)(e:Wt_)(f:T1->Wp):=NV->gb .gtr 3 false d.1 a.1 e λg h=>cV g (my .sub 3 true d.1 (gI 1) λi=>my .sub 3 true d.1 (gI 1) λj=>mf T.ts b j λk=>eP T.te k h.drew λl=>mf T.ts b d.1 λm=>eP T.te m h.drew λn=>mf T.ts b d.1 λo=>gs T.te o l h.drew λp=>mf T.ts b i λq=>gs T.te q n p λr=>gb .sub 3 true d.1 (gI 1) r λs t=>f (s,()) t) (c (.tuple #[]) h)
def Lr(T:pe)(a b c:Vt_)(d:cG)(e:T2)(f:Wt_)(g:T2->Wp):=NV->gb .lss 3 false e.1 e.2.1 f λh i=>cV h (gb .add 3 false e.1 e.2.1 i λj k=>gr (convert 3 203 j) k λl m=>gb .shr 203 true l (gQ 1) m λn o=>gr (convert 203 3 n) o λp q=>mf T.ts a b λr=>eP T.te r q.drew λs=>mf T.ts a p λt=>eP T.te t q.drew λu=>iv pQ c [s,u] q.drew λv w=>my .lss 3 true v (gI 0) λx=>gp (Op.unary .not x) λy=>cV y (gb .add 3 true p (gI 1) w λz A=>g (z,e.2.1,()) A) (g (e.1,p,()) w)) (lG (S:=T1) (Gp T e a d) (b,()) i)
def Kx(T:pe)(a:Vt_)(b:T2)(c d e:Vt_)(f:Unit->Wp)(g:T1)(h:Wt_):=NV->cV g.1 (Ca pQ T.rot #[a,b.2.1,c,d,e] h λi j=>f (()) j) (f (()) h)
def KD(T:pe)(a b:Vt_)(c:T2)(d e:Vt_)(f:Unit->Wp)(g:T1)(h:Wt_):=NV->cV g.1 (Ca pQ T.sym #[a,b,c.2.1,d,e] h λi j=>f (()) j) (f (()) h)
def Kv(T:pe)(a b c d e:Vt_)(f:cG)(g:T1)(h:Wt_):=NV->cV g.1 (Ca pQ T.sym #[a,b,c,d,e] h λi j=>f (.tuple #[]) j) (f (.tuple #[]) h)
def Ly(T:pe)(a b c d e:Vt_)(f:cG)(g:Unit)(h:Wt_):=NV->dK (S:=T1) (λi=>gb .lss 3 false a b h λj k=>cV j (gb .lss 3 false b c k λl m=>i (l,()) m) (i ((.bool false),()) k)) (Kv T d a b c e f)
def L0(T:pe)(a:Vt_)(b:T2)(c d e f g:Vt_)(h:cG)(i:Unit)(j:Wt_):=NV->dK (S:=Unit) (λk=>dK (S:=T1) (λl=>gb .lss 3 false a b.2.1 j λm n=>cV m (gb .lss 3 false b.2.1 c n λo p=>l (o,()) p) (l ((.bool false),()) n)) (KD T d a b c e k)) (Ly T c f g d e h)
def K0(T:pe)(a b c d e f g h:Vt_)(i:cG)(j:T2)(k:Wt_)(l:T2->Wp):=NV->gb .lss 3 false j.2.1 j.1 k λm n=>cV m (gb .add 3 false j.2.1 j.1 n λo p=>gr (convert 3 203 o) p λq r=>gb .shr 203 true q (gQ 1) r λs t=>gr (convert 203 3 s) t λu v=>my .sub 3 false a u λw=>mf T.ts b w λx=>eP T.te x v.drew λy=>mf T.ts b u λz=>eP T.te z v.drew λA=>iv pQ c [y,A] v.drew λB C=>my .lss 3 true B (gI 0) λD=>gp (Op.unary .not D) λE=>cV E (gb .add 3 true u (gI 1) C λF G=>l (j.1,F,()) G) (l (u,j.2.1,()) C)) (gb .sub 3 false d j.2.1 n λH I=>dK (S:=Unit) (λJ=>dK (S:=T1) (λK=>gb .lss 3 false j.2.1 e I λL M=>cV L (gb .lss 3 false e H M λN O=>K (N,()) O) (K ((.bool false),()) M)) (Kx T b j e H c J)) (L0 T f j g b c H h i))
def HY(T:pe)(a b c d e f g:Vt_)(h:cG)(i:T2)(j:Wt_):=NV->gb .sub 3 true a (gI 1) j λk l=>lG (S:=T2) (K0 T k b c a d e f g h) (i.2.1,i.1,()) l
def KF(T:pe)(a b c d e:Vt_)(f:Wt_)(g:cG):=gb .sub 3 false c b f λh i=>gb .eql 3 true h (gI 1) i λj k=>cV j (lG (S:=T2) (Lt T a b e g) (c,d,()) k) (gb .sub 3 false d c k λl m=>gb .eql 3 true l (gI 1) m λn o=>cV n (lG (S:=T2) (Lr T a c e g) (b,c,()) o) (gb .add 3 false b d o λp q=>gr (convert 3 203 p) q λr s=>gb .shr 203 true r (gQ 1) s λt u=>gr (convert 203 3 t) u λv w=>gb .add 3 false v c w λx y=>dK (S:=T2) (λz=>gb .gtr 3 false c v y λA B=>cV A (gb .sub 3 false x d B λC D=>z (C,v,()) D) (z (b,c,()) B)) (HY T x a e c b v d g)))
def Iw(T:pe)(a:T3)(b:T3->Wp)(c:T2)(d:Unit)(e:Wt_):=NV->gb .mul 3 true a.1 (gI 2) e λf g=>b (f,c.2.1,c.1,()) g
def GZ(T:pe)(a:Vt_)(b:T3)(c d:Vt_)(e:T3->Wp)(f:T2)(g:Wt_)(h:T2->Wp):=NV->gb .leq 3 false f.2.1 a g λi j=>cV i (gb .add 3 false f.1 b.1 j λk l=>Ca pQ T.sym #[c,f.1,k,f.2.1,d] l λm n=>gb .mul 3 true (gI 2) b.1 n λo p=>gb .add 3 false f.2.1 o p λq r=>h (f.2.1,q,()) r) (dK (S:=Unit) (λs=>gb .add 3 false f.1 b.1 j λt u=>gb .lss 3 false t a u λv w=>cV v (Ca pQ T.sym #[c,f.1,t,a,d] w λx y=>s (()) y) (s (()) w)) (Iw T b e f))
def HE(T:pe)(a b c:Vt_)(d:cG)(e:T3)(f:Wt_)(g:T3->Wp):=NV->gb .lss 3 false e.1 a f λh i=>cV h (gb .mul 3 true (gI 2) e.1 i λj k=>lG (S:=T2) (GZ T a e b c g) ((gI 0),j,()) k) (d (.tuple #[]) i)
def Il(T:pe)(a b c:Vt_)(d:cG)(e:T2)(f:Wt_)(g:T2->Wp):=NV->gb .leq 3 false e.2.1 a f λh i=>cV h (Ca pQ T.ins #[b,e.1,e.2.1,c] i λj k=>gb .add 3 false e.2.1 (gI 20) k λl m=>g (e.2.1,l,()) m) (Ca pQ T.ins #[b,e.1,a,c] i λn o=>lG (S:=T3) (HE T a b c d) ((gI 20),e.2.1,e.1,()) o)
def Ft(T:pe)(a b c:Vt_)(d:Wt_)(e:cG):=lG (S:=T2) (Il T b a c e) ((gI 0),(gI 20),()) d
def Fe(T:pe)(a b:Vt_)(c:Wt_)(d:cG):=rn pQ (builtin .len #[T.ts] 3 #[false] #[a]) c λe f=>Ca pQ T.stab #[a,e,b] f λg h=>d (.tuple #[]) h
structure Ss(T:pe):Prop where
 ins:∀{a0 a1 a2 a3:Vt_} {w:Wt_} {K:cG},KG T a0 a1 a2 a3 w K->Ca pQ T.ins #[a0,a1,a2,a3] w K
 swR:∀{a0 a1 a2 a3 a4:Vt_} {w:Wt_} {K:cG},KR T a0 a1 a2 a3 a4 w K->Ca pQ T.swR #[a0,a1,a2,a3,a4] w K
 rot:∀{a0 a1 a2 a3 a4:Vt_} {w:Wt_} {K:cG},Kt T a0 a1 a2 a3 a4 w K->Ca pQ T.rot #[a0,a1,a2,a3,a4] w K
 sym:∀{a0 a1 a2 a3 a4:Vt_} {w:Wt_} {K:cG},KF T a0 a1 a2 a3 a4 w K->Ca pQ T.sym #[a0,a1,a2,a3,a4] w K
 stab:∀{a0 a1 a2:Vt_} {w:Wt_} {K:cG},Ft T a0 a1 a2 w K->Ca pQ T.stab #[a0,a1,a2] w K
def ae1(h:KG HM a0 a b c w K):Ca pQ 263 #[a0,a,b,c] w K:=cj Tryz.func263 h
def Zh(h:KR HM a0 b c d a w K):Ca pQ 270 #[a0,b,c,d,a] w K:=cj Tryz.func270 h
def ap4(h:Kt HM a0 b c d a w K):Ca pQ 267 #[a0,b,c,d,a] w K:=cj Tryz.func267 h
def ap6(h:KF HM a0 b c d a w K):Ca pQ 264 #[a0,b,c,d,a] w K:=cj Tryz.func264 h
def Z8(h:Ft HM a0 a b w K):Ca pQ 256 #[a0,a,b] w K:=cj Tryz.func256 h
def ap9(h:Fe HM a0 a w K):Ca pQ 242 #[a0,a] w K:=cj Tryz.func242 h
def XR:Ss HM:=⟨ae1,Zh,ap4,ap6,Z8⟩
def ak7(h:KG HV a0 a b c w K):Ca pQ 260 #[a0,a,b,c] w K:=cj Tryz.func260 h
def am7(h:KR HV a0 b c d a w K):Ca pQ 269 #[a0,b,c,d,a] w K:=cj Tryz.func269 h
def ZT(h:Kt HV a0 b c d a w K):Ca pQ 266 #[a0,b,c,d,a] w K:=cj Tryz.func266 h
def ah0(h:KF HV a0 b c d a w K):Ca pQ 261 #[a0,b,c,d,a] w K:=cj Tryz.func261 h
def Z7(h:Ft HV a0 a b w K):Ca pQ 249 #[a0,a,b] w K:=cj Tryz.func249 h
def am4(h:Fe HV a0 a w K):Ca pQ 217 #[a0,a] w K:=cj Tryz.func217 h
def YM:Ss HV:=⟨ak7,am7,ZT,ah0,Z7⟩
end Go.Proofs
namespace Go.Proofs
open Go Go.Vc Go.Srt
attribute [local congr] cR
variable {l:List Int}{sl s:Vt_}{w:Wt_}{K:cG}
structure Gf(T:pe)(α:Type) where
 v:α->Value
 S:World->Value->List α->Prop
 ok:Ss T
 el:∀{w:Wt_} {sl:Vt_} {l:List α},S w sl l->∀{i:Nat} (hi:i<l.length),∃p,(∀W,(iX T.ts sl (gI (i:Int))).run pQ W=.ok p W)/\∀W l',S W sl l' ->∀hi',
   (iL T.te p).run pQ W=.ok (v l'[i]) W/\∀x,∃W',(iS T.te p (v x)).run pQ W=.ok () W' /\S W' sl (l'.set i x)/\de (cK sl) W W'
 mod:∀{F:NP_} {w w' :Wt_} {sl:Vt_} {l:List α},S w sl l->de F w w' ->(∀b,cK sl b->¬F b)->S w' sl l
def O8{α:Type}{T:pe}(Q:Gf T α)(w0:Wt_)(sl:Vt_)(fv:Vt_)(cf:α->α->Int)(l0:List α):Prop:=
 ∃g cp,fv=.func (.func g) #[] cp/\∀x∈l0,∀y∈l0,∀W,de (cK sl) w0 W->∀K,(∀W',M0 W W' ->K (gI (cf x y)) W')->Ca pQ g ⟨[Q.v x,Q.v y]++cp.toList⟩ W K
structure vH{α:Type}{T:pe}(Q:Gf T α)(w0:Wt_)(sl:Vt_)(l0:List α)(W:Wt_)(l:List α):Prop where
 own:Q.S W sl l
 pm:l.Perm l0
 md:de (cK sl) w0 W
def vH.on{α:Type}{T:pe}{Q:Gf T α}{w0 W b:Wt_}{l0 l:List α}(h:vH Q w0 sl l0 W l)(a:M0 W b):vH Q w0 sl l0 b l:=⟨Q.mod h.own a eQ,h.pm,h.md.trans (a.to)⟩
def vH.swap{α:Type}{T:pe}{Q:Gf T α}{w0 W:Wt_}{l0 l:List α}(h:vH Q w0 sl l0 W l){i j:Nat}(hi:i<l.length)(c:j<l.length):
  ∃p q,(∀W,(iX T.ts sl (gI (i:Int))).run pQ W=.ok p W)/\(∀W,(iX T.ts sl (gI (j:Int))).run pQ W=.ok q W)/\
   (iL T.te p).run pQ W=.ok (Q.v l[i]) W/\(iL T.te q).run pQ W=.ok (Q.v l[j]) W/\
   ∃a b,(iS T.te p (Q.v l[j])).run pQ W=.ok () a/\(iS T.te q (Q.v l[i])).run pQ a=.ok () b/\vH Q w0 sl l0 b (swp l i j):=by
 obtain⟨p,u,k⟩:=Q.el h.own hi;obtain⟨q,o,d⟩:=Q.el h.own c;obtain⟨g1,s1⟩:=k W l h.own hi;obtain⟨g,-⟩:=d W l h.own c;obtain⟨a,s,r,t⟩:=s1 l[j];obtain⟨-,m⟩:=d a _ r (by grind);obtain⟨b,e,n,f⟩:=m l[i];refine⟨p,q,u,o,g1,g,a,b,s,e,?_,(swp_perm l i j).trans h.pm,(h.md.trans t).trans f⟩;rw[swp_eq hi c];exact n
section
variable{α:Type}{T:pe}{Q:Gf T α}{w0:Wt_}{sl fv:Vt_}{cf:α->α->Int}{l0:List α}
abbrev sK{α:Type}(cf:α->α->Int):α->α->Bool:=λx y=>decide (cf x y<0)
set_option maxRecDepth 10000 in
def LG{W:Wt_}{l:List α}{K:cG}{a b:Nat}(O:O8 Q w0 sl fv cf l0)(h:vH Q w0 sl l0 W l)(hn:l0.length<=100000)(H:a<=b)(hb:b<=l0.length)
  (D:∀C,vH Q w0 sl l0 C (insSort (sK cf) a b l)->K (.tuple #[]) C):Ca pQ T.ins #[sl,gI (a:Int),gI (b:Int),fv] W K:=by
 obtain⟨g,cp,rfl,B⟩:=O;apply Q.ok.ins;unfold KG;apply qSj a
 refine eS (λst W=>∃(i k:Nat) (t:List α),st=(gI i,())/\vH Q w0 sl l0 W t/\insFrom (sK cf) a i k t=insSort (sK cf) a b l/\a<i/\k=b - i)
  (λst _=>match st.1 with| .int _ i=>b - i.toNat|_=>0) ⟨a+1,b - (a+1),l,rfl,h,rfl,qZ,rfl⟩ ?_
 rintro⟨_,_⟩ W ⟨i,k,t,⟨⟩,A,E,X,hk⟩ Y x;unfold Ko;intro _;have S:=A.pm.length_eq;by_cases M:i<b
 ·have n:(i:Int)<(b:Int):=qZ;apply qSv1 (.bool true) n;rw[kx];obtain⟨k,rfl⟩:∃P,k=P+1:=⟨k - 1,qZ⟩
  refine eS (λst W=>∃(j:Nat) (f:List α),st=(gI j,())/\vH Q w0 sl l0 W f/\insIn (sK cf) a j f=insIn (sK cf) a i t/\j<=i)
   (λst _=>match st.1 with| .int _ j=>j.toNat|_=>0) ⟨i,t,rfl,A,rfl,cJ _⟩ ?_
  rintro⟨_,_⟩ W ⟨j,f,⟨⟩,c,F,N⟩ KM w;have J:=c.pm.length_eq;unfold KI;intro _;refine dK.at (λst W=>st=(.bool (decide (a<j/\ltAt (sK cf) f j (j - 1)=true)),())/\vH Q w0 sl l0 W f) ?_ ?_
  ·by_cases s:a<j
   ·have o:(a:Int)<(j:Int):=qZ;apply qPv1 (.bool true) o;rw[kx];have d:=c.on (de.refl _ W).drew;obtain⟨p,v,L⟩:=Q.el d.own (show j<f.length by omega);obtain⟨q,u,V⟩:=Q.el d.own (show j - 1<f.length by omega);apply dw v;apply dp (L _ _ d.own qZ).1;apply qPi ((j - 1:Nat):Int);apply dw u;apply dp (V _ _ d.own qZ).1;simp only[kE];refine B _ (c.pm.mem_iff.1 (cC _)) _ (c.pm.mem_iff.1 (cC _)) _ d.md _ λC U=>?_;apply qPv0 (.bool (decide (cf f[j] f[j - 1]<0)));refine⟨?_,d.on U⟩
    have e:decide (a<j/\ltAt (sK cf) f j (j - 1)=true)=decide (cf f[j] f[j - 1]<0):=by
     rw[ltAt_eq _ qZ qZ];simp[s]
    rw[e]
   ·have o:¬(a:Int)<(j:Int):=qZ;apply qPv1 (.bool false) o;rw[gP];exact⟨by simp[s],c.on (de.refl _ W).drew⟩
  rintro _ W ⟨rfl,c⟩;unfold LQ;intro _;by_cases m:a<j/\ltAt (sK cf) f j (j - 1)=true
  ·rw[qo m];have r:j - 1+1=j:=qZ;have d:=c.on (de.refl _ W).drew;obtain⟨p,q,v,u,g1,I,W1,W2,R,G,z⟩:=d.swap (i:=j) (j:=j - 1) qZ qZ;apply qPi ((j - 1:Nat):Int);apply qPi ((j - 1:Nat):Int);refine dw u (dp I (dw v (dp g1 (dw v (ir R (dw u (ir G ?_)))))));apply qSi ((j - 1:Nat):Int);refine w _ _ ⟨j - 1,swp f j (j - 1),rfl,z,?_,qZ⟩ (by grind);rw[<-F]
   conv=>rhs;rw[<-r]
   rw[insIn,r,bZ m]
  ·rw[cy,aZ (by grind)];apply qSj i;refine x _ _ ⟨i+1,k,f,rfl,c,?_,qZ,qZ⟩ (by grind);rw[<-E,insFrom,<-F];congr 1;cases j with
   |zero=>rfl
   |succ Z=>
    rw[Nat.add_sub_cancel]at m;rw[insIn,aZ m]
 ·have n:¬(i:Int)<(b:Int):=qZ;apply qSv1 (.bool false) n;rw[gP];have y:k=0:=qZ;subst y;rw[<-E]at D;exact D _ A
def FM{W:Wt_}{l:List α}{K:cG}{a b n:Nat}(h:vH Q w0 sl l0 W l)(G:l0.length<=100000)(H:a+n<=l0.length)(D:b+n<=l0.length)
  (o:∀w,vH Q w0 sl l0 w (swR l a b 0 n)->K (.tuple #[]) w):Ca pQ T.swR #[sl,gI (a:Int),gI (b:Int),gI (n:Int),fv] W K:=by
 apply Q.ok.swR;unfold KR
 refine eS (λst W=>∃(i:Nat) (e:List α),st=(gI i,())/\vH Q w0 sl l0 W e/\swR e a b i n=swR l a b 0 n/\i<=n)
  (λst _=>match st.1 with| .int _ i=>n - i.toNat|_=>0) ⟨0,l,rfl,h,rfl,qZ⟩ ?_
 rintro⟨_,_⟩ W ⟨i,e,⟨⟩,m,t,A⟩ C f;unfold Lo;intro _;have B:=m.pm.length_eq;by_cases d:i<n
 ·have c:(i:Int)<(n:Int):=qZ;apply qSv1 (.bool true) c;rw[kx];have g:=m.on (de.refl _ W).drew;obtain⟨p,q,u,r,g1,y,E,F,z,x,k⟩:=g.swap (i:=a+i) (j:=b+i) qZ qZ;have v:∀W,(qE .add 3 false (gI (a:Int)) (gI (i:Int))).run pQ W=.ok (gI ((a+i:Nat):Int)) W:=λ_=>by simp[go_sem];rw[wI_]
  have s:∀W,(qE .add 3 false (gI (b:Int)) (gI (i:Int))).run pQ W=.ok (gI ((b+i:Nat):Int)) W:=λ_=>by simp[go_sem];rw[wI_]
  refine dw v (dw s (dw s (dw r (dp y (dw v (dw u (dp g1 (dw u (ir z (dw r (ir x ?_)))))))))));apply qSj i;refine f _ _ ⟨i+1,_,rfl,k,?_,qZ⟩ (by grind);rw[<-t]
  conv=>rhs;rw[swR]
  rw[bZ d]
 ·have c:¬(i:Int)<(n:Int):=qZ;apply qSv1 (.bool false) c;rw[gP];have:swR e a b i n=e:=by rw[swR,aZ d]
  rw[<-t,this]at o;exact o _ m
def Ua{W:Wt_}{l:List α}{K:cG}{a m b:Nat}(h:vH Q w0 sl l0 W l)(t:l0.length<=100000)(z:a<m)(A:m<b)(D:b<=l0.length)
  (w:∀f,vH Q w0 sl l0 f (rot m l (m - a) (b - m))->K (.tuple #[]) f):Ca pQ T.rot #[sl,gI (a:Int),gI (m:Int),gI (b:Int),fv] W K:=by
 apply Q.ok.rot;unfold Kt;have sub:∀{x y:Nat} (W:Wt_),y<=x->x<=100000->(qE .sub 3 false (gI (x:Int)) (gI (y:Int))).run pQ W=.ok (gI ((x - y:Nat):Int)) W:=λW E C=>by simp[go_sem];rw[wI_];omega
 refine cI (sub W qZ qZ) (cI (sub W qZ qZ) ?_)
 refine eS (λst W=>∃(i j:Nat) (o:List α),st=(gI i,gI j,())/\vH Q w0 sl l0 W o/\rot m o i j=rot m l (m - a) (b - m)/\0<i/\0<j/\i<=m/\m+j<=l0.length)
  (λst _=>match st.1,st.2.1 with| .int _ i,.int _ j=>i.toNat+j.toNat|_,_=>0) ⟨m - a,b - m,l,rfl,h,rfl,qZ,qZ,qZ,qZ⟩ ?_
 rintro⟨_,_,_⟩ W ⟨i,j,o,⟨⟩,v,r,s,u,q,p⟩ B k;unfold K8;intro _;by_cases e:i=j
 ·subst e;apply qSv0 (.bool false);rw[gP];apply cI (sub W qZ qZ);refine FM v t qZ qZ λf d=>?_;have:rot m o i i=swR o (m - i) m 0 i:=by rw[rot,aZ (by simp)]
  rw[<-r,this]at w;exact w _ d
 ·have n:¬(i:Int)=(j:Int):=qZ;apply cx (.bool true) W (by simp only[go_sem];simp;exact n);rw[kx];by_cases g:j<i
  ·have c:(j:Int)<(i:Int):=qZ;apply qSv1 (.bool true) c;rw[kx];apply cI (sub W qZ qZ);refine FM v t qZ qZ λf d=>?_;apply cI (sub f qZ qZ);refine k _ _ ⟨i - j,j,_,rfl,d,?_,qZ,u,qZ,p⟩ (by grind);rw[<-r]
   conv=>rhs;rw[rot]
   rw[bZ ⟨e,s,u⟩,bZ g]
  ·have c:¬(j:Int)<(i:Int):=qZ;apply qSv1 (.bool false) c;rw[gP];apply cI (sub W qZ qZ);apply qSi ((m+j:Nat):Int);apply cI (sub W qZ qZ);refine FM v t qZ qZ λf d=>?_;apply cI (sub f qZ qZ);refine k _ _ ⟨i,j - i,_,rfl,d,?_,s,qZ,q,qZ⟩ (by grind);rw[<-r]
   conv=>rhs;rw[rot]
   rw[bZ ⟨e,s,u⟩,aZ g]
end
section
variable{α:Type}{T:pe}{Q:Gf T α}{w0:Wt_}{sl fv:Vt_}{cf:α->α->Int}{l0:List α}
def vH.cmp{g:FuncId}{f:Array Value}{W:Wt_}{l:List α}{K:cG}{i j:Nat}(e:∀x∈l0,∀y∈l0,∀W,de (cK sl) w0 W->∀K,(∀b,M0 W b->K (gI (cf x y)) b)->Ca pQ g ⟨[Q.v x,Q.v y]++f.toList⟩ W K)(d:vH Q w0 sl l0 W l)(hi:i<l.length)(c:j<l.length)
  (k:∀b,vH Q w0 sl l0 b l->K (.bool (ltAt (sK cf) l i j)) b):
  ∃p q,(∀W,(iX T.ts sl (gI (i:Int))).run pQ W=.ok p W)/\(∀W,(iX T.ts sl (gI (j:Int))).run pQ W=.ok q W)/\
   (iL T.te p).run pQ W.drew=.ok (Q.v l[i]) W.drew/\(iL T.te q).run pQ W.drew=.ok (Q.v l[j]) W.drew/\
   iv pQ (.func (.func g) #[] f) [Q.v l[i],Q.v l[j]] W.drew λv w=>wS pQ (qE .lss 3 true v (gI 0)) λn=>K n w:=by
 have a:=d.on (de.refl _ W).drew;obtain⟨p,s,h⟩:=Q.el a.own hi;obtain⟨q,m,r⟩:=Q.el a.own c;refine⟨p,q,s,m,(h _ _ a.own hi).1,(r _ _ a.own c).1,?_⟩;simp only[kE];refine e _ (d.pm.mem_iff.1 (cC _)) _ (d.pm.mem_iff.1 (cC _)) _ a.md _ λb o=>?_;apply qPv0 (.bool (decide (cf l[i] l[j]<0)));have:=k _ (a.on o)
 rwa[ltAt_eq _ hi c]at this
set_option maxRecDepth 10000 in
def YU{W:Wt_}{l:List α}{K:cG}{a i:Nat}{y:Vt_}(h:vH Q w0 sl l0 W l)(D:l0.length<=100000)(hi:1<=i)(z:i<=l0.length)
  (n:∀t,vH Q w0 sl l0 t (mvUp l a (i - 1))->K (.tuple #[]) t):lG (S:=Value×Unit) (Fb T (gI (i:Int),y,()) sl K) (gI (a:Int),()) W:=by
 refine eS (λst W=>∃(k:Nat) (c:List α),st=(gI k,())/\vH Q w0 sl l0 W c/\mvUp c k (i - 1)=mvUp l a (i - 1))
  (λst _=>match st.1 with| .int _ k=>i - k.toNat|_=>0) ⟨a,l,rfl,h,rfl⟩ ?_
 rintro⟨_,_⟩ W ⟨k,c,⟨⟩,g,r⟩ A d;unfold Fb;intro _;have x:=g.pm.length_eq;refine cI (Hm (y:=1) W hi qZ true) (cI (BO W false) ?_);by_cases b:k<i - 1
 ·rw[qo b];have e:=g.on (de.refl _ W).drew;obtain⟨p,q,s,o,g1,v,B,C,w,u,f⟩:=e.swap (i:=k) (j:=k+1) qZ qZ;have m:∀W,(qE .add 3 true (gI (k:Int)) (gI 1)).run pQ W=.ok (gI ((k+1:Nat):Int)) W:=λW=>AG (y:=1) W qZ true;refine dw m (dw m (dw o (dp v (dw s (dp g1 (dw s (ir w (dw o (ir u (cI (m _) ?_))))))))));refine d _ _ ⟨k+1,_,rfl,f,?_⟩ (by grind);rw[<-r]
  conv=>rhs;rw[mvUp]
  rw[bZ b]
 ·rw[cy,aZ (by grind)];have:mvUp c k (i - 1)=c:=by rw[mvUp,aZ b]
  rw[<-r,this]at n;exact n _ g
def YK{W:Wt_}{l:List α}{K:cG}{m i:Nat}{y:Vt_}(h:vH Q w0 sl l0 W l)(D:l0.length<=100000)(E:m<l0.length)
  (n:∀t,vH Q w0 sl l0 t (mvDn l m i)->K (.tuple #[]) t):lG (S:=Value×Unit) (Gp T (gI (i:Int),y,()) sl K) (gI (m:Int),()) W:=by
 refine eS (λst W=>∃(k:Nat) (b:List α),st=(gI k,())/\vH Q w0 sl l0 W b/\mvDn b k i=mvDn l m i/\k<=m)
  (λst _=>match st.1 with| .int _ k=>k.toNat|_=>0) ⟨m,l,rfl,h,rfl,cJ _⟩ ?_
 rintro⟨_,_⟩ W ⟨k,b,⟨⟩,f,r,v⟩ A c;unfold Gp;intro _;have z:=f.pm.length_eq;apply qSv0 (.bool (decide (i<k)));by_cases a:i<k
 ·rw[qo a];have d:=f.on (de.refl _ W).drew;obtain⟨p,q,s,o,g1,w,B,C,x,u,e⟩:=d.swap (i:=k) (j:=k - 1) qZ qZ;have g:∀W,(qE .sub 3 true (gI (k:Int)) (gI 1)).run pQ W=.ok (gI ((k - 1:Nat):Int)) W:=λW=>Hm (y:=1) W qZ qZ true;refine dw g (dw g (dw o (dp w (dw s (dp g1 (dw s (ir x (dw o (ir u (cI (g _) ?_))))))))));refine c _ _ ⟨k - 1,_,rfl,e,?_,qZ⟩ (by grind);rw[<-r]
  conv=>rhs;rw[mvDn]
  rw[bZ a]
 ·rw[cy,aZ (by grind)];have:mvDn b k i=b:=by rw[mvDn,aZ a]
  rw[<-r,this]at n;exact n _ f
set_option maxRecDepth 10000 in
set_option maxHeartbeats 1000000 in
def KW(hc:O8 Q w0 sl fv cf l0)(hn:l0.length<=100000):∀(d:Nat) {W:Wt_} {l:List α} {K:cG} {a m b:Nat},b - a<=d->vH Q w0 sl l0 W l->a<m->m<b->b<=l0.length->
  (∀s,vH Q w0 sl l0 s (symM (sK cf) a m b l)->K (.tuple #[]) s)->Ca pQ T.sym #[sl,gI (a:Int),gI (m:Int),gI (b:Int),fv] W K:=by
 obtain⟨g,cp,rfl,hcl⟩:=hc;intro d;induction d with
 |zero=>intro W l K a m b M _ V h3;omega
 |succ d ih=>
 intro W l K a m b hd h ham hmb hb z;have hl:=h.pm.length_eq;apply Q.ok.sym;unfold KF;apply cI (Hm W qZ qZ false);apply cI (WC W);by_cases O:m - a=1
 ·rw[qo O];have t:symM (sK cf) a m b l=mvUp l a (bsG (λh=>ltAt (sK cf) l h a) m b - 1):=by rw[symM,bZ O]
  rw[t]at z
  refine eS (λst W=>∃i j:Nat,st=(gI i,gI j,())/\vH Q w0 sl l0 W l/\bsG (λh=>ltAt (sK cf) l h a) i j=bsG (λh=>ltAt (sK cf) l h a) m b/\m<=i/\i<=j/\j<=b)
   (λst _=>match st.1,st.2.1 with| .int _ i,.int _ j=>j.toNat - i.toNat|_,_=>0) ⟨m,b,rfl,h,rfl,qZ,qZ,qZ⟩ ?_
  rintro⟨_,_,_⟩ W ⟨i,j,⟨⟩,P,r,M,V,h3⟩ R u;unfold Lt;intro _;apply cI (BO W false);by_cases k:i<j
  ·rw[qo k];apply cI (AG W qZ false);obtain⟨x,S,y,Y,e3⟩:=Ks k qZ W;refine cI S (cI Y (cI e3 ?_));rw[bsG_go k]at r;obtain⟨o,J⟩:=dW ((i+j) / 2);rw[<-J]at r|-
   obtain⟨p,q,c1,c2,c3,c4,c5⟩:=vH.cmp (i:=o) (j:=a) (K:=λv2 w=>cV v2 (rv pQ (qE .add 3 true (gI (o:Int)) (gI 1)) w λE H=>R (E,gI (j:Int),()) H) (R (gI (i:Int),gI (o:Int),()) w)) hcl P qZ qZ (by
    intro s A;cases v:ltAt (sK cf) l o a with
    |true=>
     rw[kx];rw[bZ v]at r;apply cI (AG (y:=1) s qZ true);exact u _ _ ⟨o+1,j,rfl,A,r,qZ,qZ,h3⟩ (by grind)
    |false=>
     rw[gP];rw[aZ (by rw[v];simp)]at r;exact u _ _ ⟨i,o,rfl,A,r,M,qZ,qZ⟩ (by grind))
   exact dw c1 (dp c3 (dw c2 (dp c4 c5)))
  ·rw[cy,aZ (by grind)];rw[bsG_end k]at r;rw[<-r]at z;exact YU P hn qZ qZ z
 rw[cy,aZ (by grind)];apply cI (Hm W qZ qZ false);apply cI (WC W);by_cases Z:b - m=1
 ·rw[qo Z];have t:symM (sK cf) a m b l=mvDn l m (bsG (λh=> !ltAt (sK cf) l m h) a m):=by rw[symM,aZ O,bZ Z]
  rw[t]at z
  refine eS (λst W=>∃i j:Nat,st=(gI i,gI j,())/\vH Q w0 sl l0 W l/\bsG (λh=> !ltAt (sK cf) l m h) i j=bsG (λh=> !ltAt (sK cf) l m h) a m/\a<=i/\i<=j/\j<=m)
   (λst _=>match st.1,st.2.1 with| .int _ i,.int _ j=>j.toNat - i.toNat|_,_=>0) ⟨a,m,rfl,h,rfl,qZ,qZ,qZ⟩ ?_
  rintro⟨_,_,_⟩ W ⟨i,j,⟨⟩,P,r,M,V,h3⟩ R u;unfold Lr;intro _;apply cI (BO W false);by_cases k:i<j
  ·rw[qo k];apply cI (AG W qZ false);obtain⟨x,S,y,Y,e3⟩:=Ks k qZ W;refine cI S (cI Y (cI e3 ?_));rw[bsG_go k]at r;obtain⟨o,J⟩:=dW ((i+j) / 2);rw[<-J]at r|-
   obtain⟨p,q,c1,c2,c3,c4,c5⟩:=vH.cmp (i:=m) (j:=o) (K:=λv2 w=>wS pQ (Op.unary .not v2) λX=>cV X (rv pQ (qE .add 3 true (gI (o:Int)) (gI 1)) w λE H=>R (E,gI (j:Int),()) H) (R (gI (i:Int),gI (o:Int),()) w)) hcl P qZ qZ (by
    intro s A;apply qPv0 (.bool (!ltAt (sK cf) l m o));cases v:ltAt (sK cf) l m o with
    |false=>
     rw[cy,bZ (show(!false)=true from rfl)];rw[bZ (by rw[v];rfl)]at r;apply cI (AG (y:=1) s qZ true);exact u _ _ ⟨o+1,j,rfl,A,r,qZ,qZ,h3⟩ (by grind)
    |true=>
     rw[cy,aZ (by simp)];rw[aZ (by rw[v];simp)]at r;exact u _ _ ⟨i,o,rfl,A,r,M,qZ,qZ⟩ (by grind))
   exact dw c1 (dp c3 (dw c2 (dp c4 c5)))
  ·rw[cy,aZ (by grind)];rw[bsG_end k]at r;rw[<-r]at z;exact YK P hn qZ z
 rw[cy,aZ (by grind)];apply cI (AG W qZ false);obtain⟨x,S,y,Y,e3⟩:=Ks (show a<b by omega) qZ W;refine cI S (cI Y (cI e3 ?_))
 have t:symM (sK cf) a m b l=(let st:=stOf (sK cf) l a m b
   let D:=(a+b) / 2+m - st;let l1:=if st<m/\m<D then rot m l (m - st) (D - m)else l
   let l2:=if h:a<st/\st<(a+b) / 2 then symM (sK cf) a st ((a+b) / 2) l1 else l1
   if h:(a+b) / 2<D/\D<b/\a<(a+b) / 2 then symM (sK cf) ((a+b) / 2) D b l2 else l2):=by
  conv=>lhs;rw[symM]
  rw[aZ O,aZ Z]
 rw[t]at z;clear t;have hst:stOf (sK cf) l a m b=if(a+b) / 2<m then bsG (λc=> !ltAt (sK cf) l ((a+b) / 2+m - 1 - c) c) ((a+b) / 2+m - b) ((a+b) / 2)else bsG (λc=> !ltAt (sK cf) l ((a+b) / 2+m - 1 - c) c) a m:=rfl
 obtain⟨e,hmid⟩:=dW ((a+b) / 2);rw[<-hmid]at z hst|-;have hmb1:a<e/\e<b:=qZ;apply cI (AG W qZ false);obtain⟨N,B⟩:=dW (if e<m then e+m - b else a);obtain⟨L,C⟩:=dW (if e<m then e else m)
 have hst2:stOf (sK cf) l a m b=bsG (λc=> !ltAt (sK cf) l (e+m - 1 - c) c) N L:=by
  rw[hst,B,C];by_cases n:e<m
  ·rw[bZ n,bZ n,bZ n]
  ·rw[aZ n,aZ n,aZ n]
 have U:N<=L/\a<=N/\L<=m/\L<=e/\(∀c,N<=c->c<L->e+m - 1 - c<b/\c<e+m - 1)/\(∀c,N<=c->c<=L->m<=e+m - c/\e+m - c<=b/\e<=e+m - c):=by
  by_cases n:e<m
  ·rw[bZ n]at B C;exact⟨qZ,qZ,qZ,qZ,λc M V=>qZ,λc M V=>qZ⟩
  ·rw[aZ n]at B C;exact⟨qZ,qZ,qZ,qZ,λc M V=>qZ,λc M V=>qZ⟩
 refine dK.at (λst s=>st=(gI (N:Int),gI (L:Int),())/\s=W) ?_ ?_
 ·apply qSv0 (.bool (decide (e<m)));by_cases n:e<m
  ·rw[qo n];rw[bZ n]at B C;apply cI (Hm W qZ qZ false);exact⟨by rw[B,C],rfl⟩
  ·rw[cy,aZ (by grind)];rw[aZ n]at B C;exact⟨by rw[B,C],rfl⟩
 rintro _ W ⟨rfl,rfl⟩;unfold HY;intro _;apply cI (Hm (y:=1) W qZ qZ true)
 refine eS (λst W=>∃i j:Nat,st=(gI j,gI i,())/\vH Q w0 sl l0 W l/\bsG (λc=> !ltAt (sK cf) l (e+m - 1 - c) c) i j=bsG (λc=> !ltAt (sK cf) l (e+m - 1 - c) c) N L/\N<=i/\i<=j/\j<=L)
  (λst _=>match st.2.1,st.1 with| .int _ i,.int _ j=>j.toNat - i.toNat|_,_=>0) ⟨N,L,rfl,h,rfl,qZ,U.1,qZ⟩ ?_
 rintro⟨_,_,_⟩ W ⟨i,j,⟨⟩,P,r,M,V,h3⟩ R u;unfold K0;intro _;apply cI (BO W false);by_cases k:i<j
 ·rw[qo k];apply cI (AG W qZ false);obtain⟨x,S,y,Y,e3⟩:=Ks k qZ W;refine cI S (cI Y (cI e3 ?_));rw[bsG_go k]at r;obtain⟨o,J⟩:=dW ((i+j) / 2);rw[<-J]at r|-;have hhb:=U.2.2.2.2.1 o qZ qZ;apply dw (λW=>Hm W qZ qZ false)
  obtain⟨p,q,c1,c2,c3,c4,c5⟩:=vH.cmp (i:=e+m - 1 - o) (j:=o) (K:=λv2 w=>wS pQ (Op.unary .not v2) λX=>cV X (rv pQ (qE .add 3 true (gI (o:Int)) (gI 1)) w λE H=>R (gI (j:Int),E,()) H) (R (gI (o:Int),gI (i:Int),()) w)) hcl P qZ qZ (by
   intro s A;apply qPv0 (.bool (!ltAt (sK cf) l (e+m - 1 - o) o));cases v:ltAt (sK cf) l (e+m - 1 - o) o with
   |false=>
    rw[cy,bZ (show(!false)=true from rfl)];rw[bZ (by rw[v];rfl)]at r;apply cI (AG (y:=1) s qZ true);exact u _ _ ⟨o+1,j,rfl,A,r,qZ,qZ,h3⟩ (by grind)
   |true=>
    rw[cy,aZ (by simp)];rw[aZ (by rw[v];simp)]at r;exact u _ _ ⟨i,o,rfl,A,r,M,qZ,qZ⟩ (by grind))
  exact dw c1 (dp c3 (dw c2 (dp c4 c5)))
 rw[cy,aZ (by grind)];rw[bsG_end k,<-hst2]at r;rw[<-r]at z;simp only at z;have hib:=U.2.2.2.2.2 i qZ qZ;apply cI (Hm W qZ qZ false);obtain⟨D,hen⟩:=dW (e+m - i);rw[<-hen]at z hib|-;obtain⟨l1,F⟩:=dW (if i<m/\m<D then rot m l (m - i) (D - m)else l);rw[<-F]at z;refine dK.at (λ_ s=>vH Q w0 sl l0 s l1) ?_ ?_
 ·refine dK.at (λst s=>st=(.bool (decide (i<m/\m<D)),())/\s=W) ?_ ?_
  ·apply cI (BO W false);by_cases f:i<m
   ·rw[qo f];apply cI (BO W false);exact⟨by simp[f],rfl⟩
   ·rw[cy,aZ (by grind)];exact⟨by simp[f],rfl⟩
  rintro _ s ⟨rfl,rfl⟩;unfold Kx;intro _;by_cases f:i<m/\m<D
  ·rw[qo f];rw[bZ f]at F;refine Ua P hn f.1 f.2 qZ λW'' G=>?_;rw[F];exact G
  ·rw[cy,aZ (by grind)];rw[aZ f]at F;rw[F];exact P
 rintro _ W hS1;unfold L0;intro _;obtain⟨l2,I⟩:=dW (if h:a<i/\i<e then symM (sK cf) a i e l1 else l1);rw[<-I]at z;refine dK.at (λ_ s=>vH Q w0 sl l0 s l2) ?_ ?_
 ·refine dK.at (λst s=>st=(.bool (decide (a<i/\i<e)),())/\s=W) ?_ ?_
  ·apply cI (BO W false);by_cases f:a<i
   ·rw[qo f];apply cI (BO W false);exact⟨by simp[f],rfl⟩
   ·rw[cy,aZ (by grind)];exact⟨by simp[f],rfl⟩
  rintro _ s ⟨rfl,rfl⟩;unfold KD;intro _;by_cases f:a<i/\i<e
  ·rw[qo f];rw[dif_pos f]at I;refine ih qZ hS1 f.1 f.2 qZ λW'' G=>?_;rw[I];exact G
  ·rw[cy,aZ (by grind)];rw[dif_neg f]at I;rw[I];exact hS1
 rintro _ W hS2;unfold Ly;intro _;refine dK.at (λst s=>st=(.bool (decide (e<D/\D<b)),())/\s=W) ?_ ?_
 ·apply cI (BO W false);by_cases f:e<D
  ·rw[qo f];apply cI (BO W false);exact⟨by simp[f],rfl⟩
  ·rw[cy,aZ (by grind)];exact⟨by simp[f],rfl⟩
 rintro _ s ⟨rfl,rfl⟩;unfold Kv;intro _;by_cases f:e<D/\D<b
 ·rw[qo f];rw[dif_pos ⟨f.1,f.2,hmb1.1⟩]at z;exact ih qZ hS2 f.1 f.2 hb z
 ·rw[cy,aZ (by grind)];rw[dif_neg (λh=>f ⟨h.1,h.2.1⟩)]at z;exact z _ hS2
end
section
variable{α:Type}{T:pe}{Q:Gf T α}{w0:Wt_}{sl fv:Vt_}{cf:α->α->Int}{l0:List α}
set_option maxRecDepth 10000 in
def HX(v:O8 Q w0 sl fv cf l0)(w:l0.length<=100000){W:Wt_}{K:cG}(h:vH Q w0 sl l0 W l0)
  (u:∀i,vH Q w0 sl l0 i (Srt.stable (sK cf) l0)->K (.tuple #[]) i):Ca pQ T.stab #[sl,gI (l0.length:Int),fv] W K:=by
 obtain⟨n,t⟩:=dW l0.length;have B:Srt.stable (sK cf) l0=mrg (sK cf) n 20 (blk (sK cf) n 0 20 l0):=by rw[t];rfl
 rw[B]at u;rw[<-t];apply Q.ok.stab;unfold Ft
 refine eS (λst W=>∃(a b:Nat) (l:List α),st=(gI a,gI b,())/\vH Q w0 sl l0 W l/\blk (sK cf) n a b l=blk (sK cf) n 0 20 l0/\a<=n/\b=a+20)
  (λst _=>match st.2.1 with| .int _ b=>n+20 - b.toNat|_=>0) ⟨0,20,l0,rfl,h,rfl,qZ,rfl⟩ ?_
 rintro⟨_,_,_⟩ W ⟨a,b,l,⟨⟩,k,H,q,N⟩ I j;unfold Il;intro _;apply cI (ZE W false);by_cases d:b<=n
 ·rw[qo d];refine LG v k w qZ qZ λi e=>?_;apply cI (AG (y:=20) i qZ true);refine j _ _ ⟨b,b+20,_,rfl,e,?_,d,rfl⟩ (by grind);rw[<-H]
  conv=>rhs;rw[blk]
  rw[bZ d]
 rw[cy,aZ (by grind)];refine LG v k w q qZ λW k=>?_
 have r:insSort (sK cf) a n l=blk (sK cf) n 0 20 l0:=by
  rw[<-H]
  conv=>rhs;rw[blk]
  rw[aZ d]
 rw[r]at k;clear H r j I;obtain⟨F,E⟩:=dW (blk (sK cf) n 0 20 l0);rw[<-E]at k u
 refine eS (λst W=>∃(c:Nat) (x y:Vt_) (l:List α),st=(gI c,x,y,())/\vH Q w0 sl l0 W l/\mrg (sK cf) n c l=mrg (sK cf) n 20 F/\0<c/\c<=2*n+20)
  (λst _=>match st.1 with| .int _ b=>2*n+40 - b.toNat|_=>0) ⟨20,_,_,F,rfl,k,rfl,qZ,qZ⟩ ?_
 rintro⟨_,_,_,_⟩ W ⟨c,x,y,l,⟨⟩,k,J,p,L⟩ I j;unfold HE;intro _;apply cI (BO W false);by_cases m:c<n
 ·rw[qo m]
  have s:mrg (sK cf) n (c*2) (mrgPass (sK cf) c n 0 (2*c) l)=mrg (sK cf) n 20 F:=by
   rw[<-J]
   conv=>rhs;rw[mrg]
   rw[bZ ⟨m,p⟩]
  apply cI (U6 W qZ)
  refine eS (λst W=>∃(a b:Nat) (o:List α),st=(gI a,gI b,())/\vH Q w0 sl l0 W o/\mrgPass (sK cf) c n a b o=mrgPass (sK cf) c n 0 (2*c) l/\b=a+2*c/\a<=n)
   (λst _=>match st.2.1 with| .int _ b=>n+1+2*c - b.toNat|_=>0) ⟨0,2*c,l,rfl,k,rfl,qZ,qZ⟩ ?_
  rintro⟨_,_,_⟩ W ⟨a,b,o,⟨⟩,e,M,P,q⟩ R A;have O:=e.pm.length_eq;unfold GZ;intro _;apply cI (ZE W false);by_cases d:b<=n
  ·rw[qo d];apply cI (AG W qZ false);refine KW v w (b - a) (cJ _) e qZ qZ qZ λi g=>?_;apply cI (U6 i qZ);apply cI (AG i qZ false);refine A _ _ ⟨b,b+2*c,_,rfl,g,?_,rfl,d⟩ (by grind);rw[<-M]
   conv=>rhs;rw[mrgPass]
   rw[bZ ⟨d,p⟩]
  ·rw[cy,aZ (by grind)];obtain⟨G,f⟩:=dW (if a+c<n then symM (sK cf) a (a+c) n o else o);have C:mrgPass (sK cf) c n a b o=G:=by rw[mrgPass,aZ (λh=>d h.1),f]
   rw[<-M,C]at s;refine dK.at (λ_ i=>vH Q w0 sl l0 i G) ?_ ?_
   ·refine cI (AG W qZ false) (cI (BO W false) ?_);by_cases z:a+c<n
    ·rw[qo z];rw[bZ z]at f;refine KW v w (n - a) (cJ _) e qZ z qZ λi g=>?_;rw[f];exact g
    ·rw[cy,aZ (by grind)];rw[aZ z]at f;rw[f];exact e
   rintro _ W D;unfold Iw;intro _;apply cI (XQ W qZ);exact j _ _ ⟨c*2,_,_,G,rfl,D,s,qZ,qZ⟩ (by grind)
 ·rw[cy,aZ (by grind)];have:mrg (sK cf) n c l=l:=by rw[mrg,aZ (λh=>m h.1)]
  rw[<-J,this]at u;exact u _ k
end
def LK:Tryz.prog.underlying 307=some (.slice 3):=cU
def an0:Tryz.prog.cellsOf 3=0+1:=cU
def Zr:lN pQ 3 1 8=true:=cU
abbrev Hh(w:Wt_)(sl:Vt_)(l:List Int):Prop:=jo w 3 1 sl l.length (l.flatMap wz)
def DI(l:List Int):l.flatMap wz=l.map λx=>gI x:=by
 induction l with
 |nil=>rfl
 |cons x l a=>rw[eu,a];rfl
def Hh.el(h:Hh w sl l){i:Nat}(hi:i<l.length):
  ∃p,(∀W,(iX 307 sl (gI (i:Int))).run pQ W=.ok p W)/\∀(W:Wt_) (l' :List Int),Hh W sl l' ->∀c:i<l'.length,
   (iL 3 p).run pQ W=.ok (gI l'[i]) W/\∀x:Int,∃g,(iS 3 p (gI x)).run pQ W=.ok () g/\Hh g sl (l'.set i x)/\de (cK sl) W g:=by
 obtain⟨b,d,rest,rfl,v,t,u⟩:=h.pos qZ;refine⟨.pointer (some ⟨b,i,none⟩),λW=>by simp[go_sem,hi,cS,LK,Program.elem,Go.Vc.oK an0],λW l' q c=>?_⟩;obtain⟨o,f,a,s,r,e,n,j⟩:=q.pos qZ;obtain⟨rfl,m,rfl⟩:b=o/\l.length=l'.length/\d=f:=by simpa using s
 have k:(l'.flatMap wz++a)[i]? =some (gI l'[i]):=by
  rw[DI,dC (by simpa using c),dO,cE c];rfl
 refine⟨by simp[go_sem,fy e,k],λx=>⟨W.setCell ⟨b,i,none⟩ (gI x),by simp[go_sem,fy e,k],⟨by rw[wT rT,ey],.inr ⟨b,d,a,by grind,by grind,?_,by grind,j⟩⟩,(de.refl _ W).setCell (.inl (show cK (.slice (some ⟨b,0,none⟩) l.length d) b from rfl)) _ _⟩⟩;rw[nL,bZ rfl,e,iK,ed,gZ _ _ (by rw[wT rT];omega),DI,DI,lY]
def qR.el{l:List Od}(h:qR w sl l){i:Nat}(hi:i<l.length):
  ∃p,(∀W,(iX 95 sl (gI (i:Int))).run pQ W=.ok p W)/\∀(W:Wt_) (l' :List Od),qR W sl l' ->∀d:i<l'.length,
   (iL pz p).run pQ W=.ok (oG l'[i]) W/\∀x:Od,∃j,(iS pz p (oG x)).run pQ W=.ok () j/\qR j sl (l'.set i x)/\de (cK sl) W j:=by
 obtain⟨b,c,rest,rfl,D,B,C⟩:=h.pos qZ;refine⟨.pointer (some ⟨b,i*5,none⟩),λW=>by simp[go_sem,hi,cS,mH],λW l' k d=>?_⟩;obtain⟨u,f,a,A,v,g,t,n⟩:=id (k.pos qZ);obtain⟨rfl,s,rfl⟩:b=u/\l.length=l'.length/\c=f:=by simpa using A
 obtain⟨z,zG,y,r,o⟩:=k.load d;have m:b=z/\c=zG:=by grind
 obtain⟨rfl,rfl⟩:=m;have q:=k.1;refine⟨o,λx=>⟨W.setRow b (mh (l'.flatMap fL++a) (i*5) (fL x)).toArray,ZU (fy g) (by grind),⟨by rw[wT gM,ey],.inr ⟨b,c,a,by grind,by grind,?_,by grind,n⟩⟩,(de.refl _ W).setRow (.inl (show cK (.slice (some ⟨b,0,none⟩) l.length c) b from rfl)) _⟩⟩;rw[ij,bZ rfl,g]
 have e:mh (l'.flatMap fL++a) (i*5) (fL x)=(l'.set i x).flatMap fL++a:=by
  unfold mh;rw[dh (by rw[q];omega),SN gM,gM,eZ (by rw[q];omega),show i*5+5=(i+1)*5 by omega,Vp gM,List.set_eq_take_append_cons_drop,bZ d];simp
 rw[e]
abbrev ltI(cf:Int->Int->Int):Int->Int->Bool:=sK cf
def aB3(w0:Wt_)(sl:Vt_)(fv:Vt_)(cf:Int->Int->Int)(l0:List Int):Prop:=
 ∃g cp,fv=.func (.func g) #[] cp/\∀x∈l0,∀y∈l0,∀W,de (cK sl) w0 W->∀K:cG,(∀W',M0 W W' ->K (gI (cf x y)) W')->Ca pQ g ⟨[.int .i64 x,gI y]++cp.toList⟩ W K
def Va:Gf HM Int:=⟨λx=>gI x,Hh,XR,λh _ hi=>h.el hi,λh m f=>jo.mod h m f⟩
def Qr{fv:Vt_}{cf:Int->Int->Int}(h:Hh w sl l)(j:l.length<=100000)(g:aB3 w sl fv cf l)
  (f:∀b,Hh b sl (Srt.stable (ltI cf) l)->de (cK sl) w b->K (.tuple #[]) b):Ca pQ 242 #[sl,fv] w K:=by
 apply ap9;unfold Fe;obtain⟨a,c,i,-⟩:=h.isSl;apply jm (gI (l.length:Int)) w (by rw[i];simp[go_sem]);have d:O8 Va w sl fv cf l:=g;refine HX (Q:=Va) d j ⟨h,fw _,lX⟩ λk e=>?_;exact f _ e.own e.md
abbrev TM(cf:Od->Od->Int):Od->Od->Bool:=sK cf
def ax7(w0:Wt_)(sl:Vt_)(fv:Vt_)(cf:Od->Od->Int)(l0:List Od):Prop:=
 ∃g cp,fv=.func (.func g) #[] cp/\∀x∈l0,∀y∈l0,∀W,de (cK sl) w0 W->∀K:cG,(∀W',M0 W W' ->K (gI (cf x y)) W')->Ca pQ g ⟨[oG x,oG y]++cp.toList⟩ W K
def Vj:Gf HV Od:=⟨oG,qR,YM,λh _ hi=>h.el hi,λh m f=>jo.mod h m f⟩
def RL{fv:Vt_}{cf:Od->Od->Int}{l:List Od}(h:qR w sl l)(j:l.length<=100000)(g:ax7 w sl fv cf l)
  (f:∀b,qR b sl (Srt.stable (TM cf) l)->de (cK sl) w b->K (.tuple #[]) b):Ca pQ 217 #[sl,fv] w K:=by
 apply am4;unfold Fe;obtain⟨a,c,i,-⟩:=h.isSl;apply jm (gI (l.length:Int)) w (by rw[i];simp[go_sem]);have d:O8 Vj w sl fv cf l:=g;refine HX (Q:=Vj) d j ⟨h,fw _,lX⟩ λk e=>?_;exact f _ e.own e.md
def Pe:Tryz.prog.cellsOf 2=0+1:=cU
def ai7:Tryz.prog.cellsOf 24=0+1:=cU
abbrev wC(w:Wt_)(sl:Vt_)(l:List Int):Prop:=jo w 2 1 sl l.length (l.flatMap wz)
abbrev vO(w:Wt_)(sl:Vt_)(l:List Int):Prop:=jo w 24 1 sl l.length (l.flatMap CB)
def GP(l:List Int):l.flatMap CB=l.map λx=>gQ x:=by
 induction l with
 |nil=>rfl
 |cons x l a=>rw[eu,a];rfl
def wC.el(h:wC w sl l){i:Nat}(hi:i<l.length):
  ∃p,(∀(k:IntKind) W,(iX 306 sl (.int k (i:Int))).run pQ W=.ok p W)/\∀(W:Wt_) (l' :List Int),wC W sl l' ->∀c:i<l'.length,
   (iL 2 p).run pQ W=.ok (gI l'[i]) W/\∀x:Int,∃g,(iS 2 p (gI x)).run pQ W=.ok () g/\wC g sl (l'.set i x)/\de (cK sl) W g:=by
 obtain⟨b,d,rest,rfl,y,u,v⟩:=h.pos qZ;refine⟨.pointer (some ⟨b,i,none⟩),λk W=>by simp[go_sem,hi,cS,zU,Program.elem,Go.Vc.oK Pe],λW l' r c=>?_⟩;obtain⟨q,f,a,t,s,e,o,j⟩:=r.pos qZ;obtain⟨rfl,n,rfl⟩:b=q/\l.length=l'.length/\d=f:=by simpa using t
 have m:(l'.flatMap wz++a)[i]? =some (gI l'[i]):=by
  rw[DI,dC (by simpa using c),dO,cE c];rfl
 refine⟨by simp[go_sem,fy e,m],λx=>⟨W.setCell ⟨b,i,none⟩ (gI x),by simp[go_sem,fy e,m],⟨by rw[wT rT,ey],.inr ⟨b,d,a,by grind,by grind,?_,by grind,j⟩⟩,(de.refl _ W).setCell (.inl (show cK (.slice (some ⟨b,0,none⟩) l.length d) b from rfl)) _ _⟩⟩;rw[nL,bZ rfl,e,iK,ed,gZ _ _ (by rw[wT rT];omega),DI,DI,lY]
def IE(x:Int):(CB x).length=1:=rfl
def vO.el(h:vO w sl l){i:Nat}(hi:i<l.length):
  ∃p,(∀(k:IntKind) W,(iX 49 sl (.int k (i:Int))).run pQ W=.ok p W)/\∀(W:Wt_) (l' :List Int),vO W sl l' ->∀c:i<l'.length,
   (iL 24 p).run pQ W=.ok (gQ l'[i]) W/\∀x:Int,∃g,(iS 24 p (gQ x)).run pQ W=.ok () g/\vO g sl (l'.set i x)/\de (cK sl) W g:=by
 obtain⟨b,d,rest,rfl,y,u,v⟩:=h.pos qZ;refine⟨.pointer (some ⟨b,i,none⟩),λk W=>by simp[go_sem,hi,cS,yu,Program.elem,Go.Vc.oK ai7],λW l' r c=>?_⟩;obtain⟨q,f,a,t,s,e,o,j⟩:=r.pos qZ;obtain⟨rfl,n,rfl⟩:b=q/\l.length=l'.length/\d=f:=by simpa using t
 have m:(l'.flatMap CB++a)[i]? =some (gQ l'[i]):=by
  rw[GP,dC (by simpa using c),dO,cE c];rfl
 refine⟨by simp[go_sem,fy e,m],λx=>⟨W.setCell ⟨b,i,none⟩ (gQ x),by simp[go_sem,fy e,m],⟨by rw[wT IE,ey],.inr ⟨b,d,a,by grind,by grind,?_,by grind,j⟩⟩,(de.refl _ W).setCell (.inl (show cK (.slice (some ⟨b,0,none⟩) l.length d) b from rfl)) _ _⟩⟩;rw[nL,bZ rfl,e,iK,ed,gZ _ _ (by rw[wT IE];omega),GP,GP,lY]
def mkZ{t e:TypeId}{by_:Nat}{z:Vt_}{n:Nat}(h:Tryz.prog.underlying t=some (.slice e))(l:lN pQ e 1 by_=true)(k:(Tryz.prog.info? e).bind (·.zero)=some z)(g:z.cells= #[z])(j:z.oneCell' =true)(f:by_<=1000)(m:n<=1000000)
  (i:∀a c,jo c e 1 a n (List.replicate n z)->M0 w c->(∀b,cK a b->w.heap.size<=b)->K a c):rx pQ (Ak t (gI (n:Int)) (gI (n:Int))) w K:=by
 have d:(by_:Int)*(n:Int)<=281474976710656:=by
  have:by_*n<=1000*1000000:=jE f m;omega
 apply Ll (z:=z) h (eO l) qZ qZ d k;rw[show(n:Int).toNat=n from rfl]
 have o:madeCells z.cells (n*1)=(List.replicate n z).toArray:=by
  apply nQ;rw[g,toList_madeCells_one,pX]
 rw[o];refine i _ _ ⟨by simp,.inr ⟨w.heap.size,n,[],rfl,cJ _,by rw[gy,bZ rfl,ew],by simp,rfl⟩⟩ lm λb d=>?_;have:b=w.heap.size:=by cases d;rfl
 omega
def Zn(n:Nat):(List.replicate n (gI 0):LV_)=(List.replicate n (0:Int)).flatMap wz:=by rw[DI,List.map_replicate]
def aC1(n:Nat):(List.replicate n (gQ 0):LV_)=(List.replicate n (0:Int)).flatMap CB:=by rw[GP,List.map_replicate]
def Nq{x:Int}(a:K (.bool (decide (x<0))) w):Ca pQ 239 #[.int .i64 x] w K:=by
 apply ah7;exact qSv0 (.bool (decide (x<0))) a
def Mw(h:Rd w 1 s l.length (l.flatMap wz))(G:l.length<=1000000)(g:K (.bool (l.any λx=>decide (x<0))) w):
  Ca pQ 238 #[s,.func (.func 239) #[] #[]] w K:=by
 apply ZW
 have m:Ca pQ 254 #[s,.func (.func 239) #[] #[]] w λv q=>rv pQ (qE .geq 3 true v (gI 0)) q λy r=>K y r:=by
  apply Zl;obtain⟨a,c,z⟩:=h.isSl;apply jm (gI (l.length:Int)) w (by rw[z];simp[go_sem])
  refine eS (λst W=>∃(i:Nat) (x:Vt_),i<=l.length/\st=(x,gI i,())/\W=w/\∀j:Nat,∀k:j<l.length,j<i->¬l[j]<0)
   (λst _=>match st.2.1 with| .int _ i=>l.length - i.toNat|_=>0) ⟨0,gI 0,qZ,rfl,rfl,λj _ h=>qZ⟩ ?_
  rintro⟨_,_⟩ W ⟨i,x,F,⟨⟩,rfl,n⟩ D o;unfold Pj;intro _;by_cases e:i<l.length
  ·have f:(i:Int)<(l.length:Int):=qZ;refine qSt1 f ?_;obtain⟨b,u,A,C,E,fz,hC,p⟩:=nU rT h rfl zU Pe e rfl;apply cI (A .i64);refine qS2 hC p ?_;simp only[kE];apply Nq;by_cases d:l[i]<0
   ·rw[qo d];have:(l.any λx=>decide (x<0))=true:=gA.2 ⟨_,cC e,by simpa using d⟩;rw[this]at g;exact qSv0 (.bool true) g
   ·rw[DN d];apply cx (gI ((i+1:Nat):Int)) W (by simp[go_sem];rw[wI_]);refine o _ _ ⟨i+1,_,qZ,rfl,rfl,λj k t=>?_⟩ (by grind);by_cases B:j=i
    ·subst B;exact d
    ·grind
  ·obtain rfl:i=l.length:=qZ;refine qSf0 ?_
   have:(l.any λx=>decide (x<0))=false:=by
    rw[nH];intro x d;obtain⟨j,k,rfl⟩:=cX d;simpa using n j k k
   rw[this]at g;exact qSv0 (.bool false) g
 exact m
def pO(t s:Nat)(ws:List Nat):List Nat:=ws.map λx=>t*x / s
def qQ(t s:Nat)(ws:List Nat):List Nat:=ws.map λx=>t*x%s
def Lc(t s:Nat)(ws:List Nat):s*(pO t s ws).sum+(qQ t s ws).sum=t*ws.sum:=by
 induction ws with
 |nil=>simp[pO,qQ]
 |cons x ws a=>
  unfold pO qQ at*;simp only[cM,di];have:=ie (t*x) s;rw[Nat.mul_add,Nat.mul_add];omega
def S3{s:Nat}(a:0<s)(t:Nat)(ws:List Nat):(qQ t s ws).sum<=ws.length*s:=by
 induction ws with
 |nil=>simp[qQ]
 |cons x ws b=>
  unfold qQ at*;simp only[cM,di,dc];have:=gR (t*x) a;rw[je];omega
def Gl{s:Nat}(b:0<s)(t:Nat){ws:List Nat}(h:ws.sum<=s):(pO t s ws).sum<=t:=by
 have d:=Lc t s ws;have c:t*ws.sum<=t*s:=oN t h;have a:s*(pO t s ws).sum<=s*t:=by grind
 exact Nat.le_of_mul_le_mul_left a b
def IB{s:Nat}(a:0<s)(t:Nat){ws:List Nat}(h:ws.sum=s):t - (pO t s ws).sum<=ws.length:=by
 have b:=Lc t s ws;have d:=S3 a t ws;rw[h,fe t s]at b
 have c:s*(t - (pO t s ws).sum)<=s*ws.length:=by
  rw[Nat.mul_sub,fe s ws.length];omega
 exact Nat.le_of_mul_le_mul_left c a
def AF(r:List Nat)(i k:Int):Int:=if r.getD k.toNat 0<r.getD i.toNat 0 then -1 else if r.getD i.toNat 0<r.getD k.toNat 0 then 1 else 0
def sB(r:List Nat):List Int:=Srt.stable (ltI (AF r)) ((List.range r.length).map λi:Nat=>(i:Int))
def ot:List Int->List Int->List Int
 | [],p=>p
 |i::ix,p=>ot ix (p.set i.toNat (p.getD i.toNat 0+1))
def tP(t:Nat)(ws:List Nat):List Int:=
 ot ((sB (qQ t ws.sum ws)).take (t - (pO t ws.sum ws).sum)) ((pO t ws.sum ws).map λx:Nat=>(x:Int))
def ib(t:Int)(l:List Int):List Int×Int:=
 if 1000<l.length then([],3)
 else if t<0\/(l.any λx=>decide (x<0))=true then([],2)
 else if¬jl l.sum then([],6)
 else if t=0 then(List.replicate l.length 0,0)
 else if l.sum=0 then([],10)
 else(tP t.toNat (l.map Int.toNat),0)
def NN{rp:Nat}{T:TypeId}{r:List Nat}{i k:Nat}(j:hC w rp #[s] T)(g:vO w s (r.map λx:Nat=>(x:Int)))(hi:i<r.length)(n:k<r.length)
  (e:∀t,M0 w t->K (gI (AF r (i:Int) (k:Int))) t):Ca pQ 243 #[.int .i64 (i:Int),gI (k:Int),.pointer (some ⟨rp,0,none⟩)] w K:=by
 apply as1;obtain⟨a,c,z,-⟩:=g.isSl;obtain⟨p,v,y⟩:=g.el (i:=i) (by simpa using hi);obtain⟨q,u,A⟩:=g.el (i:=k) (by simpa using n);have d:∀W,M0 w W->(iL 49 (pt rp 0)).run pQ W=.ok s W:=λW m=>by have:=m.hpk j id;rw[z]at this|-;simp[go_sem,this]
 have h:∀W,M0 w W->(iL 24 p).run pQ W=.ok (gQ ((r[i]:Nat):Int)) W:=λW m=>by
  have:=(y W _ (g.mod m eQ) (by simpa using hi)).1;simpa using this
 have f:∀W,M0 w W->(iL 24 q).run pQ W=.ok (gQ ((r[k]:Nat):Int)) W:=λW m=>by
  have:=(A W _ (g.mod m eQ) (by simpa using n)).1;simpa using this
 have md:M0 w w.drew:=mP;have b:M0 w w.drew.drew:=md.drew
 have B:AF r (i:Int) (k:Int)=if r[k]<r[i]then -1 else if r[i]<r[k]then 1 else 0:=by
  unfold AF;rw[kO,kO,iH,iH,cE hi,cE n,fT,fT]
 rw[B]at e;refine dp (d _ md) (dw (λW=>v .i64 W) (dp (h _ md) (dp (d _ md) (dw (λW=>u .i64 W) (dp (f _ md) ?_)))));refine qP0 ?_;by_cases o:r[k]<r[i]
 ·rw[qo o];rw[bZ o]at e;exact e _ md
 ·rw[cy,aZ (by grind)];rw[aZ o]at e;refine dp (d _ b) (dw (λW=>v .i64 W) (dp (h _ b) (dp (d _ b) (dw (λW=>u .i64 W) (dp (f _ b) ?_)))));refine qP0 ?_;by_cases l:r[i]<r[k]
  ·rw[qo l];rw[bZ l]at e;exact e _ b
  ·rw[cy,aZ (by grind)];rw[aZ l]at e;exact e _ b
def Cg{α:Type}{A:List α}{z:α}{n i:Nat}(c:A.length=n)(hi:i<n):(A.take i++List.replicate (n - i) z).set i (A[i]'qZ)=A.take (i+1)++List.replicate (n - (i+1)) z:=by
 have b:(A.take i).length=i:=by grind
 obtain⟨k,a⟩:∃k,n - i=k+1:=⟨n - i - 1,qZ⟩
 rw[gh _ _ qZ,b,mg,a,List.replicate_succ,List.set_cons_zero,show n - (i+1)=k by omega];have e:=eA (l:=A) (i:=i) qZ;rw[e,df];rfl
def Cq:∀{p:List Int} {k:Nat} (b:k<p.length) (x:Int),(p.set k x).sum=p.sum - p[k]+x
 |a::p,0,_,x=>by simp;omega
 |a::p,k+1,b,x=>by
  have:=Cq (p:=p) (k:=k) (by simpa using b) x;simp only[List.set_cons_succ,di,fA];omega
def Ka{p:List Int}(h:∀x∈p,0<=x):0<=p.sum:=by
 induction p with
 |nil=>simp
 |cons a p b=>
  have e:=b λx c=>h x (by simp[c]);have d:=h a (by simp);rw[di];omega
def zz:∀{p:List Int},(∀x∈p,0<=x)->∀x∈p,x<=p.sum
 |a::p,h,x,b=>by
  have e:=h a (by simp);have c:∀y∈p,0<=y:=λy d=>h y (by simp[d]);have f:0<=p.sum:=Ka c;rw[di];rcases cH.1 b with rfl|b
  ·omega
  ·have:=zz c x b;omega
def KK:∀{p:List Nat} {x:Nat},x∈p->x<=p.sum
 |a::p,x,b=>by
  rw[di];rcases cH.1 b with rfl|b
  ·omega
  ·have:=KK b;omega
def ti:∀(ws:List Nat),(ws.map λx:Nat=>(x:Int)).sum=(ws.sum:Int)
 | []=>rfl
 |x::ws=>by rw[cM,di,di,ti ws,iT]
def HF{t:Int}(h:Rd w 1 s l.length (l.flatMap wz))(hl:∀x∈l,jl x)(ht:jl t)(hn:l.length<=100000)
  (hK:∀s' w',wC w' s' (ib t l).1->M0 w w' ->(∀b,cK s' b->w.heap.size<=b)->K (.tuple #[s',gI (ib t l).2]) w'):Ca pQ 200 #[.int .i64 t,s] w K:=by
 apply ac9;obtain⟨a,c,hs⟩:=h.isSl;have A:∀{W:Wt_},(builtin .len #[306] 3 #[false] #[s]).run pQ W=.ok (.value (gI (l.length:Int))) W:=λ{W}=>by rw[hs];simp[go_sem]
 have Z:∀e,ib t l=([],e)->K (.tuple #[.slice none 0 0,gI e]) w:=λe he=>by
  have hk:=hK (.slice none 0 0) w (by rw[he];exact jo.nil _ _ _) lX λb d=>by cases d
  rw[he]at hk;exact hk
 apply mB A;by_cases o:1000<l.length
 ·have B:(1000:Int)<(l.length:Int):=qZ;refine qSt1 B ?_;exact Z 3 (by unfold ib;rw[bZ o])
 have B:¬(1000:Int)<(l.length:Int):=qZ;refine qSf1 B ?_;refine dK.at (λst W=>st=(.bool (decide (t<0\/(l.any λx=>decide (x<0))=true)),())/\W=w) ?_ ?_
 ·by_cases v:t<0
  ·refine qSt1 v ?_;exact⟨by simp[v],rfl⟩
  ·refine qSf1 v ?_;apply Mw h qZ;refine⟨?_,rfl⟩
   have e:decide (t<0\/(l.any λx=>decide (x<0))=true)=l.any λx=>decide (x<0):=by
    rw[iC,decide_eq_true_iff];exact⟨λh=>h.resolve_left v,.inr⟩
   rw[e]
 rintro _ W ⟨rfl,rfl⟩;unfold Sb;intro _;by_cases j:t<0\/(l.any λx=>decide (x<0))=true
 ·rw[qo j];exact Z 2 (by unfold ib;rw[aZ o,bZ j])
 rw[DN j];apply E6 h qZ hl;by_cases hR:jl l.sum
 case neg=>
  have hs6:tN l=(0,6):=by unfold tN;rw[aZ hR]
  rw[hs6];refine qS0 ?_;refine qS0 ?_;refine qSt0 ?_;exact Z 6 (by unfold ib;rw[aZ o,aZ j,bZ hR])
 have hs0:tN l=(l.sum,0):=by unfold tN;rw[bZ hR]
 rw[hs0];refine qS0 ?_;refine qS0 ?_;refine qSf0 ?_;apply mB A;refine mkZ zU Uy (z:=gI 0) cU rfl rfl qZ qZ λE w1 o1 m1 n1=>?_;rw[Zn]at o1
 have o1:wC w1 E (List.replicate l.length 0):=by
  unfold wC;rw[fG];exact o1
 by_cases v:t=0
 ·refine qSt1 v ?_;have e:ib t l=(List.replicate l.length 0,0):=by unfold ib;rw[aZ o,aZ j,aZ (by simpa using hR),bZ v]
  rw[e]at hK;exact hK E w1 o1 m1 n1
 refine qSf1 v ?_;by_cases L:l.sum=0
 ·refine qSt1 L ?_;have e:ib t l=([],10):=by unfold ib;rw[aZ o,aZ j,aZ (by simpa using hR),aZ v,bZ L]
  rw[e]at hK;exact hK (.slice none 0 0) w1 (jo.nil _ _ _) m1 λb d=>by cases d
 refine qSf1 L ?_;have e:ib t l=(tP t.toNat (l.map Int.toNat),0):=by unfold ib;rw[aZ o,aZ j,aZ (by simpa using hR),aZ v,aZ L]
 rw[e]at hK
 have hnn:∀x∈l,0<=x:=λx D=>by
  apply dU;intro hc;exact j (.inr (gA.2 ⟨x,D,by simp;omega⟩))
 obtain⟨f,hws⟩:=dW (l.map Int.toNat)
 have hlw:l=f.map λx:Nat=>(x:Int):=by
  rw[hws,dQ]
  conv=>lhs;rw[<-iP l]
  exact dt λx D=>by show x=((x.toNat:Nat):Int);have:=hnn x D;omega
 obtain⟨T,hT⟩:=dW (t.toNat:Nat)
 have htT:t=(T:Int):=by
  have:¬t<0:=λh=>j (.inl h);omega
 have hsw:l.sum=(f.sum:Int):=by rw[hlw,ti]
 obtain⟨S,hS⟩:=dW f.sum;obtain⟨n,hnd⟩:=dW l.length;have hwl:f.length=n:=by rw[hws,cz,hnd]
 rw[<-hws,<-hT]at hK;rw[<-hnd]at A o1;have hSp:0<S:=qZ
 have hn0:0<n:=by
  apply dU;intro hc;have:f=[]:=jF qZ;rw[this]at hS;simp at hS;omega
 clear j Z;apply mB A;refine mkZ yu Ry (z:=gQ 0) cU rfl rfl qZ qZ λN w2 o2 m2 n2=>?_;rw[aC1]at o2;have o2:vO w2 N (List.replicate n 0):=by unfold vO;rw[fG];exact o2
 obtain⟨ra,rc,hrs,-⟩:=o2.isSl;obtain⟨M,hvp⟩:=dW w2.heap.size;have m3:M0 w2 (w2.alloc (.cells #[.slice none 0 0] 49)):=lm;have b3:hC (w2.alloc (.cells #[.slice none 0 0] 49)) M #[.slice none 0 0] 49:=by rw[hvp];simp[go_sem]
 apply cx (pt M 0) (w2.alloc (.cells #[.slice none 0 0] 49)) (by rw[hvp];simp[go_sem]);generalize w2.alloc (.cells #[.slice none 0 0] 49)=w3 at m3 b3|-;apply pH (w3.setCell ⟨M,0,none⟩ N) (by rw[hrs];simp[go_sem,b3]);have m4:de (λx=>x=M) w3 (w3.setCell ⟨M,0,none⟩ N):=(de.refl (λx=>x=M) w3).sc;have b4:hC (w3.setCell ⟨M,0,none⟩ N) M #[N] 49:=by simp[go_sem,b3]
 generalize w3.setCell ⟨M,0,none⟩ N=w4 at m4 b4|-;have M24:M0 w2 w4:=m3.on m4 λx D=>gz;rw[htT];apply cx (gQ (T:Int)) w4 (by simp[go_sem];rw[wU_]);apply mB A;refine mkZ LK Zr (z:=gI 0) cU rfl rfl qZ qZ λos w5 o5 m5 n5=>?_;rw[Zn]at o5;have o5:Hh w5 os (List.replicate n 0):=by unfold Hh;rw[fG];exact o5
 apply mB A;have J:∀b,cK E b->b<w1.heap.size:=λb d=>o1.lt d;have I:∀b,cK N b->w1.heap.size<=b/\b<M:=λb d=>⟨n2 b d,by rw[hvp];exact o2.lt d⟩
 have hz4:=cB b4;have u:∀b,cK os b->M<b:=λb d=>by have:=n5 b d;omega
 have hs1:=m1.size;have hs2:=m2.size;have hq:=Gl hSp T (ws:=f) qZ;have ql:(pO T S f).length=n:=by unfold pO;rw[cz,hwl]
 have rl:(qQ T S f).length=n:=by unfold qQ;rw[cz,hwl]
 have M15:M0 W w5:=((m1.trans m2).trans M24).trans m5;let m:Nat->Int:=λx=>(x:Int)
 refine eS (λst U=>∃(i left:Nat),st=(gQ (left:Int),gI i,())/\i<=n/\left+(pO T S (f.take i)).sum=T/\wC U E (((pO T S f).map m).take i++List.replicate (n - i) 0)/\vO U N (((qQ T S f).map m).take i++List.replicate (n - i) 0)/\
   Hh U os (((List.range n).map m).take i++List.replicate (n - i) 0)/\hC U M #[N] 49/\M0 W U)
  (λst _=>match st.2.1 with| .int _ i=>n - i.toNat|_=>0) ⟨0,T,rfl,qZ,by simp[pO],?_,?_,?_,m5.hpk b4 id,M15⟩ ?_
 ·rw[kw,jO,lz];exact o1.mod ((m2.trans M24).trans m5) eQ
 ·rw[kw,jO,lz];exact o2.mod (M24.trans m5) eQ
 ·rw[kw,jO,lz];exact o5
 rintro⟨_,_,_⟩ W6 ⟨i,left,⟨⟩,hi,hleft,j1,j2,j3,j4,j5⟩ KN hKN;unfold OI;intro _;have hcl:((pO T S f).map m).length=n:=by rw[cz,ql]
 have hcl2:((qQ T S f).map m).length=n:=by rw[cz,rl]
 have hcl3:((List.range n).map m).length=n:=by rw[cz,List.length_range]
 by_cases G:i<n
 ·have hlt' :(i:Int)<(n:Int):=qZ;have hil:i<l.length:=qZ;have hiw:i<f.length:=qZ;rw[<-hnd]at h;refine qSt1 G ?_;obtain⟨b,off,e1,C,e',fz,hC,hCx⟩:=nU rT (h.mod j5 eQ) hnd zU Pe hil rfl;apply cI (e1 .i64);have hli:l[i]=((f[i]:Nat):Int):=by simp only[hlw,eL]
  obtain⟨x,D⟩:=dW (f[i]);rw[<-D]at hli;have hxS:x<=S:=by rw[D,hS];exact KK (cC hiw)
  apply cx (gI (x:Int)) W6 (by rw[hli]at hCx;simp[go_sem,hC,hCx]);apply cx (gQ (T:Int)) W6 (by simp[go_sem];rw[wU_]);apply cx (gQ (x:Int)) W6 (by simp[go_sem];rw[wU_]);apply OM qZ qZ;refine qS0 ?_;refine qS0 ?_;rw[hsw,<-hS];apply cx (gQ (S:Int)) W6 (by simp[go_sem];rw[wU_])
  have hp1:T*x<S*18446744073709551616:=by
   have h1:T*x<=T*S:=oN T hxS;have h2:T*S<18446744073709551616*S:=Nat.mul_lt_mul_of_pos_right qZ hSp;rw[fe S];omega
  refine PO ((iR (show 0<18446744073709551616 by omega)).2 hp1) qZ (gR _ qZ) λR m7=>?_;rw[qK (T*x) 18446744073709551616];obtain⟨q,hqd⟩:=dW (T*x / S);obtain⟨r,hrd⟩:=dW (T*x%S);rw[<-hqd,<-hrd]
  have hqT:q<=T:=by
   rw[hqd];have:T*x<=S*T:=by rw[fe S];exact oN T hxS
   exact Nat.div_le_of_le_mul this
  refine qS0 ?_;refine qS0 ?_;have md:M0 W6 R.drew:=m7.drew;have k1:wC R.drew E _:=j1.mod md eQ;have k2:vO R.drew N _:=j2.mod md eQ;have k3:Hh R.drew os _:=j3.mod md eQ;have k4:=md.hpk j4 id;have k5:=j5.trans md
  dsimp only
  generalize R.drew=W8 at md k1 k2 k3 k4 k5|-;apply oy N (by rw[hrs]at k4|-;simp[go_sem,k4]);apply oy (gI (q:Int)) (by simp[go_sem];rw[wI_]);obtain⟨p1,f1,g1⟩:=k1.el (i:=i) (by rw[cD,cZ,fG];omega);obtain⟨p2,f2,g2⟩:=k2.el (i:=i) (by rw[cD,cZ,fG];omega);obtain⟨p3,f3,g3⟩:=k3.el (i:=i) (by rw[cD,cZ,fG];omega);apply dw (λW=>f1 .i64 W);obtain⟨W9,s1,q1,H⟩:=(g1 _ _ k1 (by rw[cD,cZ,fG];omega)).2 (q:Int);apply ir s1;have c4:=H.hpk k4 λd=>by have:=J _ d;omega
  refine⟨by rw[hrs]at c4|-;simp[go_sem,c4],?_⟩;apply dw (λW=>f2 .i64 W);have c2:vO W9 N _:=k2.mod H λb d g=>by have:=J _ g;have:=I _ d;omega
  obtain⟨W10,s2,q2,X⟩:=(g2 _ _ c2 (by rw[cD,cZ,fG];omega)).2 (r:Int);apply ir s2;apply dw (λW=>f3 W);have c3:Hh W10 os _:=(k3.mod H λb d g=>by have:=J _ g;have:=u _ d;omega).mod X λb d g=>by have:=I _ g;have:=u _ d;omega
  obtain⟨W11,s3,q3,Y⟩:=(g3 _ _ c3 (by rw[cD,cZ,fG];omega)).2 (i:Int);apply ir s3
  have hqs:(pO T S (f.take (i+1))).sum=(pO T S (f.take i)).sum+q:=by
   rw[eA hiw];unfold pO;rw[dy,g9,hqd,D];simp
  have hqs2:(pO T S (f.take (i+1))).sum<=T:=Gl hSp T (by
   rw[hS]
   conv=>rhs;rw[<-fP (i+1) f]
   rw[g9];omega)
  apply cx (gQ ((left - q:Nat):Int)) W11 (by simp[go_sem];rw[wU_];omega);apply cx (gI ((i+1:Nat):Int)) W11 (by simp[go_sem];rw[wI_]);refine hKN _ _ ⟨i+1,left - q,rfl,qZ,qZ,?_,?_,?_,?_,?_⟩ (by show n - (((i+1:Nat):Int)).toNat<n - ((i:Int)).toNat;omega)
  ·have e1:((pO T S f).map m)[i]'qZ=(q:Int):=by
    rw[eL];show((_:Nat):Int)=_;unfold pO;rw[eL,hqd,D]
   rw[<-Cg hcl G,e1];exact(q1.mod X λb d g=>by have:=J _ d;have:=I _ g;omega).mod Y λb d g=>by have:=J _ d;have:=u _ g;have:=hz4;omega
  ·have e1:((qQ T S f).map m)[i]'qZ=(r:Int):=by
    rw[eL];show((_:Nat):Int)=_;unfold qQ;rw[eL,hrd,D]
   rw[<-Cg hcl2 G,e1];exact q2.mod Y λb d g=>by have:=I _ d;have:=u _ g;omega
  ·have e1:((List.range n).map m)[i]'qZ=(i:Int):=by
    rw[eL];show((_:Nat):Int)=_;rw[List.getElem_range]
   rw[<-Cg hcl3 G,e1];exact q3
  ·exact Y.hpk (X.hpk c4 λd=>by have:=I _ d;omega) λd=>by have:=u _ d;omega
  ·refine((k5.on H λb d=>.inr (n1 b d)).on X λb d=>.inr ?_).on Y λb d=>.inr ?_
   ·have:=I b d;omega
   ·have:=u b d;omega
 have hin:i=n:=qZ;subst hin;have hlt' :¬(i:Int)<(i:Int):=qZ;refine qSf1 hlt' ?_;rw[cT qZ,mg,List.replicate_zero,ew]at j1 j2 j3;rw[cT qZ]at hleft;have P:((List.range i).map m).length=i:=hcl3;refine Qr (cf:=AF (qQ T S f)) j3 (by rw[P];omega) ⟨_,_,rfl,λx D y hy U mW K' hK' =>?_⟩ λR o7 m7=>?_
 ·obtain⟨xi,hxi,rfl⟩:=cF.1 D;obtain⟨yi,hyi,rfl⟩:=cF.1 hy;exact NN (mW.hpk j4 λd=>by have:=u _ d;omega) (j2.mod mW λb d g=>by have:=I _ d;have:=u _ g;omega) (by rw[rl];exact iQ.1 hxi) (by rw[rl];exact iQ.1 hyi) hK'
 have hord:sB (qQ T S f)=Srt.stable (ltI (AF (qQ T S f))) ((List.range i).map m):=by unfold sB;rw[rl]
 rw[<-hord]at o7;have hop:(sB (qQ T S f)).Perm ((List.range i).map m):=by rw[hord];exact stable_perm _ _
 have V:(sB (qQ T S f)).length=i:=by rw[hop.length_eq,P]
 obtain⟨O,hO⟩:=dW (sB (qQ T S f));rw[<-hO]at o7 hop V;have hll:=IB hSp T (ws:=f) hS.symm;have hleft2:left=T - (pO T S f).sum:=qZ;rw[hwl]at hll;obtain⟨ob,F,orest,rfl,oc,oh,orl,or1⟩:=o7.pos qZ;have hk1:wC R E ((pO T S f).map m):=j1.mod m7 λb d g=>by have:=J _ d;have:=u _ g;omega
 have M7:M0 W R:=j5.on m7 λb d=>.inr (by have:=u _ d;omega);apply cI (IU LK an0 (show left<=F by omega) qZ R)
 have hov:Hh R (.slice (some ⟨ob,0,none⟩) left F) (O.take left):=by
  have G:(O.take left).length=left:=by rw[cZ,V];omega
  refine⟨by rw[wT rT],.inr ⟨ob,F,(O.drop left).flatMap wz++orest,by rw[G],by rw[G];omega,?_,?_,?_⟩⟩
  ·rw[oh,<-df,<-eJ,fP]
  ·rw[cD,wT rT,dV,orl,G,V];omega
  ·rw[gj,MH xy,or1];rfl
 have hob:cK (.slice (some ⟨ob,0,none⟩) O.length F) ob:=rfl;have hobv:=u ob hob;obtain⟨v83,Q⟩:=dW (.slice (some ⟨ob,0,none⟩) left F:Vt_);rw[<-Q]at hov|-;have hOt:(O.take left).length=left:=by rw[cZ,V];omega
 have hvb:∀b,cK v83 b->M<b:=λb d=>by rw[Q]at d;have:b=ob:=(by cases d;rfl);omega
 apply jm (gI (left:Int)) R (by rw[Q];simp[go_sem])
 refine eS (λst U=>∃(k:Nat) (p:List Int),st=(gI k,())/\k<=left/\wC U E p/\ot ((O.take left).drop k) p=tP T f/\p.length=i/\(∀x∈p,0<=x)/\p.sum+left=T+k/\Hh U v83 (O.take left)/\M0 W U)
  (λst _=>match st.1 with| .int _ k=>left - k.toNat|_=>0) ⟨0,_,rfl,qZ,hk1,?_,hcl,λx D=>?_,?_,hov,M7⟩ ?_
 ·unfold tP;rw[<-hS,<-hO,<-hleft2,iw]
 ·obtain⟨y,-,rfl⟩:=cF.1 D;exact Int.natCast_nonneg y
 ·have:((pO T S f).map m).sum=((pO T S f).sum:Int):=ti _;rw[this];omega
 rintro⟨_,_⟩ W8 ⟨k,p,⟨⟩,hk,p1,p2,p3,p4,p5,p6,p7⟩ KN hKN;unfold Pc;intro _;by_cases hkl:k<left
 ·have hkl' :(k:Int)<(left:Int):=qZ;refine qSt1 hkl ?_;obtain⟨a1,f1,g1⟩:=p6.el (i:=k) qZ;apply cI (f1 W8);apply cI (g1 _ _ p6 qZ).1;have hmem:(O.take left)[k]'qZ∈(List.range i).map m:=hop.mem_iff.1 (ek (cC _));obtain⟨y,hy,hye⟩:=cF.1 hmem;have hyi:=iQ.1 hy;rw[<-hye];obtain⟨a2,f2,g2⟩:=p1.el (i:=y) qZ;apply cI (f2 .i64 W8);apply cI (g2 _ _ p1 qZ).1;have hpy:=p4 _ (cC (show y<p.length by omega));have hpy2:=zz p4 _ (cC (show y<p.length by omega));apply cx (gI (p[y]'qZ+1)) W8 (by simp[go_sem];rw[wI_]);apply cI (f2 .i64 W8);obtain⟨W9,s1,q1,H⟩:=(g2 _ _ p1 qZ).2 (p[y]'qZ+1);apply ir s1;apply cx (gI ((k+1:Nat):Int)) W9 (by simp[go_sem];rw[wI_]);refine hKN _ _ ⟨k+1,_,rfl,qZ,q1,?_,by rw[ey];exact p3,λx D=>?_,?_,p6.mod H λb d g=>by have:=hvb _ d;have:=J _ g;omega,p7.on H λb d=>.inr (n1 b d)⟩ (by show left - (((k+1:Nat):Int)).toNat<left - ((k:Int)).toNat;omega)
  ·rw[<-p2];have hd:(O.take left).drop k=(O.take left)[k]'qZ::(O.take left).drop (k+1):=(gK qZ).symm;rw[hd,ot,<-hye];congr 1;show p.set y _=p.set ((y:Nat):Int).toNat (p.getD ((y:Nat):Int).toNat 0+1);rw[kO,iH,cE qZ,fT]
  ·rcases gG D with D|rfl
   ·exact p4 x D
   ·omega
  ·rw[Cq qZ];omega
 ·have hkl' :k=left:=qZ;have hnl:¬(k:Int)<(left:Int):=qZ;refine qSf1 hkl ?_;rw[hkl',fg qZ,ot]at p2;subst p2;exact hK E W8 p1 p7 n1
end Go.Proofs
namespace Go.Proofs
open Go Go.Vc
attribute [local congr] cR
variable {sells:Bool}{n q:Int}{s:Vt_}{w:Wt_}{K:cG}
section
variable{α:Type}{f:α->List Value}{S:Nat}
def ml{w:Wt_}{e:TypeId}{sl:Vt_}{l:List α}(k:∀x,(f x).length=S)(h:jo w e S sl l.length (l.flatMap f)){i:Nat}(hi:i<l.length):
  ∃b a rest,sl=.slice (some ⟨b,0,none⟩) l.length a/\hC w b (l.flatMap f++rest).toArray e/\At w b (i*S) (f l[i])/\∀j,j<S->(l.flatMap f++rest)[i*S+j]? =(f l[i])[j]? :=by
 obtain⟨b,a,rest,rfl,s,d,r⟩:=h.pos qZ;have m:=h.1;have p:(i+1)*S<=l.length*S:=dM S hi;rw[im,Nat.one_mul]at p;have c:At w b 0 (l.flatMap f++rest):=At.all (fy d);have g:=c.sub (i*S) S (by grind);rw[eZ (by rw[m];omega),dh (by grind),oB f S l i (λx _=>k x) hi,eU]at g;refine⟨b,a,rest,rfl,fy d,g,λj q=>?_⟩;rw[dC (by rw[m];omega)];have o:=oB f S l i (λx _=>k x) hi;have n:(((l.flatMap f).drop (i*S)).take S)[j]? =(f l[i])[j]? :=by rw[o]
 rw[iE,bZ q,iY]at n;exact n
def lO{w:Wt_}{e:TypeId}{b cap:Nat}{l:List α}(o:∀x,(f x).length=S)(h:jo w e S (.slice (some ⟨b,0,none⟩) l.length cap) l.length (l.flatMap f)){i:Nat}(hi:i<l.length){j:Nat}(u:j<S){v:Vt_}{a:α}(d:(f l[i]).set j v=f a):
  jo (w.setCell ⟨b,i*S+j,none⟩ v) e S (.slice (some ⟨b,0,none⟩) (l.set i a).length cap) (l.set i a).length ((l.set i a).flatMap f):=by
 obtain⟨m,c,rest,s,y,n,q,k⟩:=h.pos qZ;obtain⟨rfl,rfl⟩:b=m/\cap=c:=by simpa using s
 have p:=h.1;have r:(i+1)*S<=l.length*S:=dM S hi;rw[im,Nat.one_mul]at r
 have g:∀(l:List α) (i:Nat) (hi:i<l.length),(f l[i]).set j v=f a->(l.flatMap f).set (i*S+j) v=(l.set i a).flatMap f:=by
  intro l;induction l with
  |nil=>intro i hi;simp at hi
  |cons x l t=>
   intro i hi d;cases i with
   |zero=>
    simp only[iN]at d;rw[eu,nv,eU,gZ _ _ (by rw[o];omega),d];rfl
   |succ i=>
    have e:(i+1)*S+j=(f x).length+(i*S+j):=by grind
    rw[eu,e,gh _ _ qZ,jN,t i (by simpa using hi) (by simpa using d)];rfl
 refine⟨by grind,.inr ⟨b,cap,rest,by grind,by grind,?_,by grind,k⟩⟩;rw[nL,bZ rfl,n,iK,ed,gZ _ _ (by rw[p];omega),g l i hi d]
end
structure Du where
 acct:Int
 cash:Int
 v:Int
variable {l:List Du}
structure Sd where
 acct:Int
 cash:Int
 dfl:Bool
 cut:Int
def IH(d:Du):List Value:=[.int .u32 d.acct,gI d.cash,gI d.v]
def zp(d:Sd):List Value:=[.int .u32 d.acct,gI d.cash,.bool d.dfl,gI d.cut]
def LH(d:Du):(IH d).length=3:=rfl
def rf(d:Sd):(zp d).length=4:=rfl
def S6(d:Sd):(zp d).all (·.oneCell')=true:=rfl
def Th(d:Du):(IH d).all (·.oneCell')=true:=rfl
def Y9(d:Du):Value:=.agg (IH d).toArray
def aj5:Tryz.prog.underlying 257=some (.slice 259):=cU
def ai8:Tryz.prog.underlying 260=some (.slice 264):=cU
def nSd:Tryz.prog.cellsOf 264=3+1:=cU
def xb(n:Int):Bool:=amongB n 0 1000000000000000
def Eo(a:K (.bool (xb n)) w):Ca pQ 237 #[.int .i64 n] w K:=by
 apply ap3;unfold xb amongB at a;by_cases h:0<=n
 ·simp[go_sem,h]at a|-;exact a
 ·simp[go_sem,h]at a|-;exact a
def Du.Fit(d:Du):Prop:=pL d.acct/\jl d.cash/\jl d.v
def Du.ok(d:Du):Bool:=xb d.cash&& amongB d.v (-100000000000000000) 100000000000000000
def B3:Int->List Du->Bool
 |_,[]=>true
 |last,d::l=>decide (last<d.acct)&& d.ok&& B3 d.acct l
def pJ(fund:Int)(l:List Du):Bool:=B3 0 l&& xb fund
def ak3(h:Rd w 3 s l.length (l.flatMap IH)){i:Nat}(hi:i<l.length):
  ∃p,(iX 257 s (gI (i:Int))).run pQ w=.ok p w/\(iL 259 p).run pQ w=.ok (Y9 l[i]) w:=by
 obtain⟨b,d,k,a,j,m⟩:=h.item LH hi rfl;obtain⟨C,e,fz,hC,c⟩:=m.get;have g0:=c 0 (gU l[i].acct) rfl;have g1:=c 1 (gI l[i].cash) rfl;have g:=c 2 (gI l[i].v) rfl;simp only[jU,dS]at g0 g1 g;exact⟨.pointer (some ⟨b,d+i*3,none⟩),by rw[a];simp[go_sem,hi,cS,aj5],by simp[go_sem,fy hC,g0,g1,g,Y9,IH]⟩
def UU(d:Du)(w:Wt_):∃a c,(iA 259 true (.tuple #[])).run pQ w=.ok (pt w.heap.size 0) a/\(iS 259 (pt w.heap.size 0) (Y9 d)).run pQ a=.ok () c/\hC c w.heap.size (IH d).toArray 259/\M0 w c:=by
 obtain⟨a,b⟩:=dW (w.alloc (.cells #[.int .u32 0,gI 0,gI 0] 259));have g:M0 w a:=by rw[b];exact(de.refl _ w).alloc _
 have e:hC a w.heap.size #[.int .u32 0,gI 0,gI 0] 259:=by rw[b];simp[go_sem]
 refine⟨a,((a.setCell ⟨w.heap.size,0,none⟩ (gU d.acct)).setCell ⟨w.heap.size,1,none⟩ (gI d.cash)).setCell ⟨w.heap.size,2,none⟩ (gI d.v),by rw[b];simp[go_sem],by simp[go_sem,e,Y9,IH],by simp[go_sem,e,IH],?_⟩;exact g.on ((((de.refl (λx=>x=w.heap.size) a).sc).sc).sc) λx h=>gz
def JF{fund:Int}(h:Rd w 3 s l.length (l.flatMap IH))(R:l.length<=1000000)(I:∀d∈l,d.Fit)
  (C:∀y,M0 w y->K (.bool (pJ fund l)) y):Ca pQ 199 #[.int .i64 fund,s] w K:=by
 apply ad9;obtain⟨a,c,L⟩:=h.isSl;apply jm (gI (l.length:Int)) w (by rw[L];simp[go_sem])
 refine eS (λst W=>∃(i:Nat) (last:Int) (x:Vt_),i<=l.length/\st=(x,gU last,gI i,())/\M0 w W/\B3 0 l=B3 last (l.drop i))
  (λst _=>match st.2.2.1 with| .int _ i=>l.length - i.toNat|_=>0) ⟨0,0,_,qZ,rfl,lX,rfl⟩ ?_
 rintro⟨_,_,_,_⟩ W ⟨i,last,x,Q,⟨⟩,n,e⟩ P o;unfold RA;intro _;by_cases k:i<l.length
 ·have m:(i:Int)<(l.length:Int):=qZ;refine qSt1 m ?_;obtain⟨p,M,H⟩:=ak3 (h.mod n eQ) k;refine cI M (cI H ?_);obtain⟨O,N,D,E,b,J⟩:=UU l[i] W;obtain⟨q,G⟩:=dW W.heap.size;rw[<-G]at D E b;refine cI D (ir E ?_);obtain⟨d,v⟩:=dW (l[i]);rw[<-v]at b;have r:=I d (by grind);have g:l.drop i=d::l.drop (i+1):=by rw[v];exact(gK k).symm
  rw[g,B3]at e;unfold IH at b;have F:=n.trans J;refine dK.at (λst u=>st=(.bool (!(decide (last<d.acct)&& d.ok)),())/\u=N) ?_ ?_
  ·refine qS0 ?_;refine qS1 b ?_;by_cases B:d.acct<=last
   ·refine qSt1 B ?_
    exact⟨by
      have:¬last<d.acct:=qZ;simp[this],rfl⟩
   ·refine qSf1 B ?_;have t:last<d.acct:=qZ;refine qS0 ?_;refine qS1 b ?_;simp only[kE];apply Eo;refine qS0 ?_;cases z:xb d.cash with
    |false=>
     rw[cy,bZ (show(!false)=true from rfl)];exact⟨by simp[Du.ok,z],rfl⟩
    |true=>
     rw[cy,aZ (by simp)];refine qS0 ?_;refine qS1 b ?_;apply lH r.2.2 qZ;refine qS0 ?_;exact⟨by simp[Du.ok,z,t],rfl⟩
  rintro _ u ⟨rfl,rfl⟩;unfold PB;intro _;cases A:(decide (last<d.acct)&& d.ok)with
  |false=>
   rw[cy,bZ (show(!false)=true from rfl)];rw[A,jp]at e;have j:=C _ F;unfold pJ at j;rw[e,jp]at j;exact j
  |true=>
   rw[cy,aZ (by simp)];rw[A,oo]at e;refine qS0 ?_;refine qS1 b ?_;apply cx (gI ((i+1:Nat):Int)) u (by simp[go_sem];rw[wI_]);exact o _ _ ⟨i+1,_,_,qZ,rfl,F,e⟩ (by grind)
 ·obtain rfl:i=l.length:=qZ;refine qSf0 ?_;simp only[kE];apply Eo;rw[fg (cJ _),B3]at e;have j:=C _ n;unfold pJ at j;rw[e,oo]at j;exact j
def yp(d:Du):Sd:=if d.cash+d.v<0 then⟨d.acct,0,true,0⟩else⟨d.acct,d.cash+d.v,false,0⟩
def iO(d:Du):Int:=if d.cash+d.v<0 then -(d.cash+d.v)else 0
def gH(l:List Du):List Int:=(l.filter λd=>decide (0<d.v)).map (·.v)
def mU:Nat->List Du->List Nat
 |_,[]=>[]
 |i,d::l=>if 0<d.v then i::mU (i+1) l else mU (i+1) l
def kS:List Nat->List Int->List Sd->List Sd
 |i::ix,p::ps,o=>kS ix ps (match o[i]? with|some x=>o.set i {x with cut:=p,cash:=IntKind.i64.wrap (x.cash - p)}|none=>o)
 |_,_,o=>o
def lP(fund:Int)(l:List Du):List Sd×Int×Int:=
 if 64<l.length then([],0,3)
 else if pJ fund l=false then([],0,2)
 else if(tN (l.map (·.v))).2≠0\/(tN (l.map (·.v))).1≠0 then([],0,130)
 else if(ib ((l.map iO).sum - min fund (l.map iO).sum) (gH l)).2≠0 then([],0,(ib ((l.map iO).sum - min fund (l.map iO).sum) (gH l)).2)
 else(kS (mU 0 l) (ib ((l.map iO).sum - min fund (l.map iO).sum) (gH l)).1 (l.map yp),fund - min fund (l.map iO).sum,0)
def Cu:∀(l:List Du) (i:Nat) (d:Du),mU i (l++[d])=mU i l++(if 0<d.v then [i+l.length]else [])
 | [],i,d=>by simp[mU]
 |x::l,i,d=>by
  rw[List.cons_append,mU,mU,Cu l (i+1) d,dc];have e:i+1+l.length=i+(l.length+1):=qZ;rw[e];split<;>simp
def ES(l:List Du)(d:Du):gH (l++[d])=gH l++(if 0<d.v then [d.v]else []):=by
 unfold gH;rw[dJ,dy];congr 1;by_cases h:0<d.v<;>simp[h]
def vZ:∀(l:List Du) (i:Nat),(mU i l).length=(gH l).length
 | [],i=>rfl
 |d::l,i=>by
  unfold gH;rw[mU];have:=vZ l (i+1);unfold gH at this;by_cases h:0<d.v
  ·grind
  ·grind
def zv:∀(l:List Du) (i:Nat),∀x∈mU i l,i<=x/\x<i+l.length
 | [],i,x,a=>by simp[mU]at a
 |d::l,i,x,a=>by
  rw[mU]at a;rw[dc];by_cases h:0<d.v
  ·rw[bZ h]at a;rcases cH.1 a with rfl|a
   ·omega
   ·have:=zv l (i+1) x a;omega
  ·rw[aZ h]at a;have:=zv l (i+1) x a;omega
abbrev JW(w:Wt_)(sl:Vt_)(l:List Sd):Prop:=jo w 264 4 sl l.length (l.flatMap zp)
def SG(d:Sd):Value:=.agg (zp d).toArray
def JS:Sd:=⟨0,0,false,0⟩
def JW.el{sl:Vt_}{l:List Sd}(h:JW w sl l){i:Nat}(hi:i<l.length):
  ∃b,cK sl b/\(∀W,(iX 260 sl (gI (i:Int))).run pQ W=.ok (pt b (i*4)) W)/\∀(W:Wt_) (l' :List Sd),JW W sl l' ->∀f:i<l'.length,
   (iL 2 (pt b (i*4+1))).run pQ W=.ok (gI l'[i].cash) W/\
   (∀x:Int,∃d,(iS 2 (pt b (i*4+1)) (gI x)).run pQ W=.ok () d/\JW d sl (l'.set i {l'[i]with cash:=x})/\de (cK sl) W d)/\
   (∀x:Bool,∃d,(iS 4 (pt b (i*4+2)) (.bool x)).run pQ W=.ok () d/\JW d sl (l'.set i {l'[i]with dfl:=x})/\de (cK sl) W d)/\
   (∀x:Int,∃d,(iS 2 (pt b (i*4+3)) (gI x)).run pQ W=.ok () d/\JW d sl (l'.set i {l'[i]with cut:=x})/\de (cK sl) W d)/\
   (∀x:Sd,∃d,(iS 264 (pt b (i*4)) (SG x)).run pQ W=.ok () d/\JW d sl (l'.set i x)/\de (cK sl) W d):=by
 obtain⟨b,c,rest,rfl,Q,S,R⟩:=ml rf h hi;have q:cK (.slice (some ⟨b,0,none⟩) l.length c) b:=rfl;refine⟨b,q,λW=>by simp[go_sem,hi,cS,ai8],λW l' G f=>?_⟩
 have A:l'.length=l.length:=by
  obtain⟨F,p,a,K,-⟩:=G.pos qZ;have:l.length=l'.length:=by grind
  exact this.symm
 have r:jo W 264 4 (.slice (some ⟨b,0,none⟩) l'.length c) l'.length (l'.flatMap zp):=by
  have J:jo W 264 4 (.slice (some ⟨b,0,none⟩) l.length c) l'.length (l'.flatMap zp):=G;rw[<-A]at J;exact J
 obtain⟨F,p,a,K,g,-,m⟩:=ml rf r f;obtain⟨rfl,rfl⟩:b=F/\c=p:=by simpa using K
 have g0:=m 0 qZ;have g1:=m 1 qZ;have O:=m 2 qZ;have L:=m 3 qZ;simp only[dS]at g0;have md:∀j v,de (cK (.slice (some ⟨b,0,none⟩) l.length c)) W (W.setCell ⟨b,j,none⟩ v):=λj v=>(de.refl _ W).setCell (.inl q) _ _;have z:∀{W:Wt_} {o:List Sd},o.length=l.length->jo W 264 4 (.slice (some ⟨b,0,none⟩) o.length c) o.length (o.flatMap zp)->JW W (.slice (some ⟨b,0,none⟩) l.length c) o:=λe h=>by grind
 refine⟨by simp[go_sem,g,g1,zp],λx=>⟨_,by simp[go_sem,g,g1,zp],z (by grind) (lO rf r f (j:=1) qZ rfl),md _ _⟩,λx=>⟨_,by simp[go_sem,g,O,zp],z (by grind) (lO rf r f (j:=2) qZ rfl),md _ _⟩,
  λx=>⟨_,by simp[go_sem,g,L,zp],z (by grind) (lO rf r f (j:=3) qZ rfl),md _ _⟩,λx=>?_⟩
 have C:i*4+4<=(l'.flatMap zp++a).toArray.size:=by
  have:=(cP.1 (L.trans rfl)).1;rw[eT];omega
 have B:=xw (P:=pQ) (t:=264) (w:=W) (b:=b) (off:=i*4) (cs:=zp x) (n:=3) nSd rfl g (by rw[rf];exact C) (S6 x);refine⟨_,B,?_,(de.refl _ W).setRow (.inl q) _⟩;obtain⟨N,u,k,D,M,y,H,E⟩:=r.pos qZ;obtain⟨rfl,rfl⟩:b=N/\c=u:=by simpa using D
 have I:=r.1
 have s:a=k:=by
  have e:hp W b=some (.cells (l'.flatMap zp++k).toArray 264 (0,0)):=y;rw[g]at e;simpa using e
 subst s;refine z (by grind) ⟨by rw[wT rf,ey],.inr ⟨b,c,a,by grind,by grind,?_,by grind,E⟩⟩;rw[ij,bZ rfl,y]
 have e:mh (l'.flatMap zp++a) (i*4) (zp x)=(l'.set i x).flatMap zp++a:=by
  unfold mh;rw[dh (by rw[I];omega),SN rf,rf,eZ (by rw[I];omega),show i*4+4=(i+1)*4 by omega,Vp rf,List.set_eq_take_append_cons_drop,bZ f];simp
 rw[<-e]
def Fz:∀{l:List Du} {last:Int},B3 last l=true->∀d∈l,d.ok=true
 |d::l,last,h,x,a=>by
  rw[B3,cL,cL]at h;rcases cH.1 a with rfl|a
  ·exact h.1.2
  ·exact Fz h.2 x a
def Du.rng{d:Du}(h:d.ok=true):0<=d.cash/\d.cash<=1000000000000000/\ -100000000000000000<=d.v/\d.v<=100000000000000000:=by
 unfold Du.ok xb amongB at h;simp only[cL,dN]at h;omega
def LR(h:∀d∈l,d.ok=true):0<=(l.map iO).sum/\(l.map iO).sum<=l.length*100000000000000000:=by
 have:=vu (l:=l.map iO) (B:=100000000000000000) λx b=>by
  obtain⟨d,a,rfl⟩:=cF.1 b;have:=Du.rng (h d a);unfold iO;split<;>omega
 rwa[cz]at this
def eSd:lN pQ 264 4 32=true:=cU
def ao3(h:∀d∈l,d.ok=true):(∀x∈gH l,jl x)/\(gH l).length<=l.length:=by
 refine⟨λx b=>?_,by unfold gH;rw[cz];exact dm _ _⟩;obtain⟨d,a,rfl⟩:=cF.1 b;have:=Du.rng (h d (cO.1 a).1);constructor<;>omega
def ag5(n:Nat):(madeCells (zp JS).toArray (n*4)).toList=(List.replicate n JS).flatMap zp:=by
 unfold madeCells;rw[Array.toList_map,Array.toList_range];induction n with
 |zero=>rfl
 |succ n a=>
  have e:(n+1)*4=n*4+1+1+1+1:=qZ;rw[e,oR,oR,oR,oR,dy,dy,dy,dy,a,List.replicate_succ',eJ];have d:(n*4)%4=0:=qZ;have c:(n*4+1)%4=1:=qZ;have b:(n*4+1+1)%4=2:=qZ;have f:(n*4+1+1+1)%4=3:=qZ;simp[zp,JS,d,c,b,f,df]
def ay9{n:Nat}(g:n<=1000000)(e:∀a c,JW c a (List.replicate n JS)->M0 w c->(∀b,cK a b->w.heap.size<=b)->K a c):
  rx pQ (Ak 260 (gI (n:Int)) (gI (n:Int))) w K:=by
 apply Ll (z:=SG JS) ai8 (eO eSd) qZ qZ qZ cU;rw[show(n:Int).toNat=n from rfl]
 have d:madeCells (SG JS).cells (n*4)=((List.replicate n JS).flatMap zp).toArray:=by
  apply nQ;rw[show(SG JS).cells=(zp JS).toArray from rfl];exact ag5 n
 rw[d];refine e _ _ ?_ lm λb f=>?_
 ·unfold JW;rw[fG];exact⟨by rw[wT rf,fG],.inr ⟨w.heap.size,n,[],rfl,cJ _,by rw[gy,bZ rfl,ew],by simp,rfl⟩⟩
 ·have:b=w.heap.size:=by cases f;rfl
  omega
def DD{x y:Int}{W:Wt_}(h:jl (x - y)):(qE .sub 2 false (gI x) (gI y)).run pQ W=.ok (gI (x - y)) W:=by
 simp[go_sem];rw[uP h.1 h.2]
def zd:∀ix p,(ot ix p).length=p.length
 | [],p=>rfl
 |i::ix,p=>by rw[ot,zd ix,ey]
def yH{t:Int}{l:List Int}(h:(ib t l).2=0):(ib t l).1.length=l.length:=by
 unfold ib at h|-;split at h
 ·cases h
 split at h
 ·cases h
 split at h
 ·cases h
 split at h
 ·grind
 split at h
 ·cases h
 ·rename_i c a e b d
  rw[aZ c,aZ a,aZ e,aZ b,aZ d];unfold tP;rw[zd,cz];unfold pO;rw[cz,cz]
structure StI(w0 W:Wt_)(l:List Du)(i:Nat)(v10 sA sW sP:Vt_):Prop where
 out:JW W v10 ((l.take i).map yp++List.replicate (l.length - i) JS)
 a:wC W sA ((l.take i).map (·.v))
 wn:wC W sW (gH (l.take i))
 ix:Hh W sP ((mU 0 (l.take i)).map λx:Nat=>(x:Int))
 md:M0 w0 W
 nw:∀b,cK v10 b\/cK sA b\/cK sW b\/cK sP b->w0.heap.size<=b
 d1:∀b,cK v10 b->¬cK sA b/\¬cK sW b/\¬cK sP b
 d2:∀b,cK sA b->¬cK sW b/\¬cK sP b
 d3:∀b,cK sW b->¬cK sP b
def NL{fund:Int}(h:Rd w 3 s l.length (l.flatMap IH))(hn:l.length<=100000)(hl:∀d∈l,d.Fit)(hf:jl fund)
  (hK:∀s' w',JW w' s' (lP fund l).1->M0 w w' ->(∀b,cK s' b->w.heap.size<=b)->K (.tuple #[s',gI (lP fund l).2.1,gI (lP fund l).2.2]) w'):Ca pQ 164 #[.int .i64 fund,s] w K:=by
 apply ae5;obtain⟨a,c,hs⟩:=h.isSl;have S:∀{W:Wt_},(builtin .len #[257] 3 #[false] #[s]).run pQ W=.ok (.value (gI (l.length:Int))) W:=λ{W}=>by rw[hs];simp[go_sem]
 have bad:∀e W,lP fund l=([],0,e)->M0 w W->K (.tuple #[.slice none 0 0,gI 0,gI e]) W:=λe W he m=>by
  have hk:=hK (.slice none 0 0) W (by rw[he];exact jo.nil _ _ _) m λb g=>by cases g
  rw[he]at hk;exact hk
 apply mB S;by_cases h64:64<l.length
 ·have T:(64:Int)<(l.length:Int):=qZ;refine qSt1 T ?_;exact bad 3 w (by unfold lP;rw[bZ h64]) lX
 have T:¬(64:Int)<(l.length:Int):=qZ;refine qSf1 T ?_;refine JF h qZ hl λw1 m1=>?_;cases I:pJ fund l with
 |false=>
  refine qSt0 ?_;exact bad 2 w1 (by unfold lP;rw[aZ h64,bZ I]) m1
 |true=>
 refine qSf0 ?_;have E:=I;unfold pJ at E;rw[cL]at E;have hok:=Fz E.1;have hfr:=dR E.2;apply mB S;refine ay9 qZ λF w2 o2 m2 n2=>?_;apply mB S;obtain⟨n,hnd⟩:=dW l.length;have hs1:=m1.size
 refine eS (λst W=>∃(i:Nat) (sA sW sP:Vt_),st=(sA,sW,sP,gI (((l.take i).map iO).sum),gI i,())/\i<=l.length/\StI w W l i F sA sW sP)
  (λst _=>match st.2.2.2.2.1 with| .int _ i=>l.length - i.toNat|_=>0) ⟨0,.slice none 0 0,.slice none 0 0,.slice none 0 0,by simp,qZ,?_⟩ ?_
 ·refine⟨by simpa using o2,jo.nil _ _ _,jo.nil _ _ _,jo.nil _ _ _,m1.trans m2,λb g=>?_,λb g=>⟨λh=>(by cases h),λh=>(by cases h),λh=>(by cases h)⟩,λb g=>(by cases g),λb g=>(by cases g)⟩;rcases g with g|g|g|g
  ·have:=n2 b g;omega
  ·cases g
  ·cases g
  ·cases g
 rintro⟨sA,sW,sP,_,_,_⟩ W ⟨i,sA0,sW0,sP0,⟨⟩,hi,t⟩ KN hKN;unfold OY;intro _;have hokT:∀d∈l.take i,d.ok=true:=λd hd=>hok d (ek hd);have hmb:=LR hokT;have htl:(l.take i).length<=64:=by rw[cZ];omega
 by_cases hlt:i<l.length
 ·have hlt' :(i:Int)<(l.length:Int):=qZ;refine qSt1 hlt' ?_;obtain⟨p,e1,e2⟩:=ak3 (h.mod t.md eQ) hlt;refine cI e1 (cI e2 ?_);obtain⟨wv,w3,v1,v2,v3,v4⟩:=UU l[i] W;obtain⟨q,hq⟩:=dW W.heap.size;rw[<-hq]at v1 v2 v3;refine cI v1 (ir v2 ?_);obtain⟨d,hd⟩:=dW (l[i]);rw[<-hd]at v3;have hdl:d∈l:=by rw[hd];exact cC hlt
  have hdr:=Du.rng (hok d hdl);have O:l.take (i+1)=l.take i++[d]:=by rw[hd];exact eA hlt
  unfold IH at v3
  have u:∀b,cK F b\/cK sA b\/cK sW b\/cK sP b->b<q:=λb g=>by
   rw[hq];rcases g with g|g|g|g
   ·exact t.out.lt g
   ·exact t.a.lt g
   ·exact t.wn.lt g
   ·exact t.ix.lt g
  have hq3:=cB v3;refine qS0 ?_;refine qS1 v3 ?_;have own3:=t.a.mod v4 eQ;refine vK (x:=d.v) (f:=wz) zU (eO Uy) (λ_=>rfl) xy rfl own3 (by rw[cz];omega) qZ λY w4 o4 m4 n4=>?_;have c4:=m4.hpk v3 λg=>by have:=u _ (.inr (.inl g));omega
  have out4:JW w4 F _:=(t.out.mod v4 eQ).mod m4 λb g j=>(t.d1 b g).1 j;have wn4:wC w4 sW _:=(t.wn.mod v4 eQ).mod m4 λb g j=>(t.d2 b j).1 g;have ix4:Hh w4 sP _:=(t.ix.mod v4 eQ).mod m4 λb g j=>(t.d2 b j).2 g;have v:∀b,cK Y b->cK sA b\/q<b:=λb g=>(n4 b g).imp id λ_=>by omega
  refine qS0 ?_;refine qS1 c4 ?_;refine qS0 ?_;refine qS1 c4 ?_;refine qS0 ?_;refine qS1 c4 ?_;apply cx (gI (d.cash+d.v)) w4 (by simp[go_sem];rw[wI_]);apply cx (SG ⟨d.acct,d.cash+d.v,false,0⟩) w4 (by simp[go_sem,SG,zp]);have hol:((l.take i).map yp++List.replicate (l.length - i) JS).length=l.length:=by rw[cD,cz,cZ,fG];omega
  obtain⟨b,hbin,f1,g1⟩:=out4.el (i:=i) qZ;apply cI (f1 _);obtain⟨-,-,-,-,t1⟩:=g1 _ _ out4 qZ;obtain⟨w5,s5,o5,m5⟩:=t1 ⟨d.acct,d.cash+d.v,false,0⟩;apply ir s5
  have U:((l.take i).map yp++List.replicate (l.length - i) JS).set i (yp d)=(l.take (i+1)).map yp++List.replicate (l.length - (i+1)) JS:=by
   have e1:=Cg (A:=l.map yp) (z:=JS) (n:=l.length) (by simp) hlt;rw[eL,<-hd,<-List.map_take,<-List.map_take]at e1;exact e1
  refine dK.at (λst W' =>st=(gI (((l.take (i+1)).map iO).sum),())/\JW W' F ((l.take (i+1)).map yp++List.replicate (l.length - (i+1)) JS)/\de (cK F) w4 W') ?_ ?_
  ·obtain⟨g2,t2,t3,-,-⟩:=g1 _ _ o5 (by rw[ey];omega);rw[gV]at g2;replace g2:(iL 2 (pt b (i*4+1))).run pQ w5=.ok (gI (d.cash+d.v)) w5:=g2;apply cI (f1 _);refine qS1 cS ?_;apply cI g2;have hms:((l.take (i+1)).map iO).sum=((l.take i).map iO).sum+iO d:=by rw[O];simp
   by_cases C:d.cash+d.v<0
   ·refine qSt1 C ?_;apply cI (f1 _);refine qS1 cS ?_;apply cI g2;have hdm:iO d= -(d.cash+d.v):=by unfold iO;rw[bZ C]
    apply cI (DD (W:=w5) ⟨qZ,qZ⟩);apply cI (f1 _);refine qS1 cS ?_;obtain⟨w6,s6,o6,Q⟩:=t2 0;apply ir s6;obtain⟨-,-,t4,-,-⟩:=g1 _ _ o6 (by rw[ey,ey];omega);apply cI (f1 _);refine qS1 cS ?_;obtain⟨w7,s7,o7,m7⟩:=t4 true;apply ir s7;refine⟨by rw[hms,hdm];congr 2,?_,(m5.trans Q).trans m7⟩;have e:yp d=⟨d.acct,0,true,0⟩:=by unfold yp;rw[bZ C]
    rw[<-U,e];simp only[gV,nt]at o7;exact o7
   ·refine qSf1 C ?_;have hdm:iO d=0:=by unfold iO;rw[aZ C]
    refine⟨by rw[hms,hdm,ft],?_,m5⟩;have e:yp d=⟨d.acct,d.cash+d.v,false,0⟩:=by unfold yp;rw[aZ C]
    rw[<-U,e];exact o5
  rintro _ W5 ⟨rfl,o6,Q⟩;unfold QC;intro _;have c6:=Q.hpk c4 λg=>by have:=u _ (.inl g);omega
  have wn6:=wn4.mod Q λb g j=>(t.d1 b j).2.1 g;have ix6:=ix4.mod Q λb g j=>(t.d1 b j).2.2 g
  have a6:=o4.mod Q λb g j=>by
   rcases v b g with r|r
   ·exact(t.d1 b j).1 r
   ·have:=u _ (.inl j);omega
  have hA1:(l.take (i+1)).map (·.v)=(l.take i).map (·.v)++[d.v]:=by rw[O];simp
  rw[<-hA1]at a6;have M6:=((t.md.trans v4).on m4 λb g=>.inr (t.nw b (.inr (.inl g)))).on Q λb g=>.inr (t.nw b (.inl g));have hs46:=Q.size;have hs34:=m4.size;have hqn:w.heap.size<=q:=by rw[hq];exact t.md.size
  refine qS0 ?_;refine qS1 c6 ?_;by_cases D:0<d.v
  ·refine qSt1 D ?_;have hwl:(gH (l.take i)).length<=64:=by have:=(ao3 hokT).2;omega
   have hil:((mU 0 (l.take i)).map λx:Nat=>(x:Int)).length<=64:=by rw[cz,vZ];exact hwl
   refine vK (x:=(i:Int)) (f:=wz) LK (eO Zr) (λ_=>rfl) xy rfl ix6 qZ qZ λsP' w8 o8 Z n8=>?_;have X:∀b,cK sP' b->cK sP b\/w4.heap.size<=b:=λb g=>(n8 b g).imp id λ_=>by omega
   have c8:=Z.hpk c6 λg=>by have:=u _ (.inr (.inr (.inr g)));omega
   refine qS0 ?_;refine qS1 c8 ?_;have wn8:=wn6.mod Z λb g j=>t.d3 b g j;refine vK (x:=d.v) (f:=wz) zU (eO Uy) (λ_=>rfl) xy rfl wn8 qZ qZ λsW' w9 o9 m9 n9=>?_;apply qSj i;have hs8:=Z.size;have hW' :=n9;have hA4:∀b,cK Y b->b<w4.heap.size:=λb g=>o4.lt g;have hP8:∀b,cK sP' b->b<w8.heap.size:=λb g=>o8.lt g;refine hKN _ _ ⟨i+1,Y,sW',sP',rfl,qZ,?_,?_,?_,?_,?_,?_,?_,?_,?_⟩ (by show l.length - (((i+1:Nat):Int)).toNat<l.length - ((i:Int)).toNat;omega)
   ·exact(o6.mod Z λb g j=>(t.d1 b g).2.2 j).mod m9 λb g j=>(t.d1 b g).2.1 j
   ·refine(a6.mod Z λb g j=>?_).mod m9 λb g j=>?_
    ·rcases v b g with r|r
     ·exact(t.d2 b r).2 j
     ·have:=u _ (.inr (.inr (.inr j)));omega
    ·rcases v b g with r|r
     ·exact(t.d2 b r).1 j
     ·have:=u _ (.inr (.inr (.inl j)));omega
   ·have e:gH (l.take (i+1))=gH (l.take i)++[d.v]:=by rw[O,ES,bZ D]
    rw[e];exact o9
   ·have e:(mU 0 (l.take (i+1))).map (λx:Nat=>(x:Int))=(mU 0 (l.take i)).map (λx:Nat=>(x:Int))++[(i:Int)]:=by
     rw[O,Cu,bZ D,dy,cZ,eU,fS hi];rfl
    rw[e];refine o8.mod m9 λb g j=>?_;rcases X b g with r|r
    ·exact t.d3 b j r
    ·have:=u _ (.inr (.inr (.inl j)));omega
   ·exact(M6.on Z λb g=>.inr (t.nw b (.inr (.inr (.inr g))))).on m9 λb g=>.inr (t.nw b (.inr (.inr (.inl g))))
   ·intro b g;rcases g with g|g|g|g
    ·exact t.nw b (.inl g)
    ·rcases v b g with r|r
     ·exact t.nw b (.inr (.inl r))
     ·omega
    ·rcases hW' b g with r|r
     ·exact t.nw b (.inr (.inr (.inl r)))
     ·omega
    ·rcases X b g with r|r
     ·exact t.nw b (.inr (.inr (.inr r)))
     ·omega
   ·intro b g;have hbq:=u b (.inl g);refine⟨λB=>?_,λB=>?_,λB=>?_⟩
    ·rcases v b B with r|r
     ·exact(t.d1 b g).1 r
     ·omega
    ·rcases hW' b B with r|r
     ·exact(t.d1 b g).2.1 r
     ·omega
    ·rcases X b B with r|r
     ·exact(t.d1 b g).2.2 r
     ·omega
   ·intro b g;have hb4:=hA4 b g;refine⟨λB=>?_,λB=>?_⟩
    ·rcases hW' b B with r|r
     ·rcases v b g with J|J
      ·exact(t.d2 b J).1 r
      ·have:=u _ (.inr (.inr (.inl r)));omega
     ·omega
    ·rcases X b B with r|r
     ·rcases v b g with J|J
      ·exact(t.d2 b J).2 r
      ·have:=u _ (.inr (.inr (.inr r)));omega
     ·omega
   ·intro b g B;have h8:=hP8 b B;rcases hW' b g with r|r
    ·rcases X b B with J|J
     ·exact t.d3 b r J
     ·have:=u _ (.inr (.inr (.inl r)));omega
    ·omega
  ·refine qSf1 D ?_;apply qSj i;have hA4:∀b,cK Y b->b<w4.heap.size:=λb g=>o4.lt g;refine hKN _ _ ⟨i+1,Y,sW,sP,rfl,qZ,o6,a6,?_,?_,M6,?_,?_,?_,t.d3⟩ (by show l.length - (((i+1:Nat):Int)).toNat<l.length - ((i:Int)).toNat;omega)
   ·have e:gH (l.take (i+1))=gH (l.take i):=by rw[O,ES,aZ D,ew]
    rw[e];exact wn6
   ·have e:mU 0 (l.take (i+1))=mU 0 (l.take i):=by rw[O,Cu,aZ D,ew]
    rw[e];exact ix6
   ·intro b g;rcases g with g|g|g|g
    ·exact t.nw b (.inl g)
    ·rcases v b g with r|r
     ·exact t.nw b (.inr (.inl r))
     ·omega
    ·exact t.nw b (.inr (.inr (.inl g)))
    ·exact t.nw b (.inr (.inr (.inr g)))
   ·intro b g;have hbq:=u b (.inl g);refine⟨λB=>?_,(t.d1 b g).2⟩;rcases v b B with r|r
    ·exact(t.d1 b g).1 r
    ·omega
   ·intro b g;refine⟨λB=>?_,λB=>?_⟩
    ·rcases v b g with J|J
     ·exact(t.d2 b J).1 B
     ·have:=u _ (.inr (.inr (.inl B)));omega
    ·rcases v b g with J|J
     ·exact(t.d2 b J).2 B
     ·have:=u _ (.inr (.inr (.inr B)));omega
 ·obtain rfl:i=l.length:=qZ;refine qSf0 ?_;obtain⟨j1,j2,j3,j4,j5,j6,j7,j8,j9⟩:=t;rw[cN]at j1 j2 j3 j4 hmb;rw[mg,List.replicate_zero,ew]at j1;rw[cN];apply E6 j2.rd (by rw[cz];omega) (λx B=>by obtain⟨d,hd,rfl⟩:=cF.1 B;exact(hl d hd).2.2);refine qS0 ?_;refine qS0 ?_;refine dK.at (λst W' =>st=(.bool (decide ((tN (l.map (·.v))).2≠0\/(tN (l.map (·.v))).1≠0)),())/\W' =W) ?_ ?_
  ·by_cases hc:(tN (l.map (·.v))).2=0
   ·refine qSf1 hc ?_;by_cases hc2:(tN (l.map (·.v))).1=0
    ·refine qS1 hc2 ?_;exact⟨by rw[ej (λh=>h.elim (λh=>h hc) (λh=>h hc2))],rfl⟩
    ·refine qSv1 (.bool true) hc2 ?_;exact⟨by rw[db (.inr hc2)],rfl⟩
   ·refine qSt1 hc ?_;exact⟨by rw[db (.inl hc)],rfl⟩
  rintro _ W' ⟨rfl,rfl⟩;unfold Qb;intro _;by_cases L:(tN (l.map (·.v))).2≠0\/(tN (l.map (·.v))).1≠0
  ·rw[qo L];exact bad 130 W' (by unfold lP;rw[aZ h64,aZ (by rw[I];simp),bZ L]) j5
  rw[DN L];obtain⟨M,hM⟩:=dW ((l.map iO).sum)
  have G:lP fund l=if(ib (M - min fund M) (gH l)).2≠0 then([],0,(ib (M - min fund M) (gH l)).2)else(kS (mU 0 l) (ib (M - min fund M) (gH l)).1 (l.map yp),fund - min fund M,0):=by
   unfold lP;rw[aZ h64,aZ (by rw[I];simp),aZ L,hM]
  rw[<-hM]at hmb|-;refine qN0 ?_;have hmin:0<=min fund M/\min fund M<=fund/\min fund M<=M:=qZ;apply cI (DD (W:=W') ⟨qZ,qZ⟩);have hwr:=ao3 hok;refine HF j3.rd hwr.1 ⟨qZ,qZ⟩ qZ λH w6 o6 Q n6=>?_;have M6:=j5.trans Q;obtain⟨R,hR⟩:=dW (ib (M - min fund M) (gH l));rw[<-hR]at o6 G|-;obtain⟨va,vc,hva,-⟩:=o6.isSl;apply cx H w6 (by rw[hva];simp[go_sem]);refine qS0 ?_;by_cases N:R.2=0
  case neg=>
   refine qSt1 N ?_;exact bad R.2 w6 (by rw[G,bZ N]) M6
  refine qSf1 N ?_;rw[aZ (by simpa using N)]at G;have hRl:R.1.length=(gH l).length:=by rw[hR]at N|-;exact yH N
  have hal:=vZ l 0;obtain⟨pa,pc,hpa,-⟩:=j4.isSl;apply jm (gI ((mU 0 l).length:Int)) w6 (by rw[hpa];simp[go_sem]);have hn6:∀b,cK H b->¬cK F b:=λb g j=>by have:=n6 b g;have:=j1.lt j;omega
  refine eS (λst W2=>∃(k:Nat) (o:List Sd),st=(gI k,())/\k<=(mU 0 l).length/\JW W2 F o/\kS ((mU 0 l).drop k) (R.1.drop k) o=kS (mU 0 l) R.1 (l.map yp)/\o.length=l.length/\Hh W2 sP ((mU 0 l).map λx:Nat=>(x:Int))/\wC W2 H R.1/\M0 w W2)
   (λst _=>match st.1 with| .int _ k=>(mU 0 l).length - k.toNat|_=>0) ⟨0,_,rfl,qZ,j1.mod Q eQ,rfl,by rw[cz],j4.mod Q eQ,o6,M6⟩ ?_
  rintro⟨_,_⟩ W7 ⟨k,o,⟨⟩,hk,q1,q2,q3,q4,q5,q6⟩ KM hKM;unfold Su;intro _;by_cases V:k<(mU 0 l).length
  ·refine qSt1 V ?_;obtain⟨y,hy⟩:=dW ((mU 0 l)[k])
   have hyb:y<o.length:=by
    have:=zv l 0 y (by rw[hy];exact cC _);omega
   obtain⟨p1,f1,g1⟩:=q4.el (i:=k) (by rw[cz];exact V);apply cI (f1 W7);have hly:=(g1 _ _ q4 (by rw[cz];exact V)).1;rw[eL,<-hy]at hly;apply cI hly;obtain⟨p2,f2,g2⟩:=q5.el (i:=k) qZ;have hkR:k<R.1.length:=qZ;obtain⟨P,hP⟩:=dW (R.1[k]);have hlp:=λ(W:Wt_) (h:wC W H R.1)=>(g2 W _ h hkR).1;rw[<-hP]at hlp;refine cI (f2 .i64 W7) (cI (hlp _ q5) ?_);obtain⟨b,hbin,f3,g3⟩:=q1.el (i:=y) hyb;apply cI (f3 _);refine qS1 cS ?_;obtain⟨-,-,-,t3,-⟩:=g3 _ _ q1 hyb;obtain⟨w8,s8,o8,Z⟩:=t3 P;apply ir s8;have r8:=q5.mod Z λb g j=>hn6 b g j;have md:M0 w8 w8.drew:=mP;have o9:=o8.mod md eQ;have r9:=r8.mod md eQ;have i9:=(q4.mod Z λb g j=>(j7 b j).2.2 g).mod md eQ;have M9:=(q6.on Z λb g=>.inr (j6 b (.inl g))).trans md;generalize w8.drew=w9 at md o9 r9 i9 M9|-;refine dw f3 (qPv1 (pt b (y*4+1)) cS ?_);obtain⟨c1,t1,-,-,-⟩:=g3 _ _ o9 (by rw[ey];exact hyb);rw[gV]at c1;replace c1:(iL 2 (pt b (y*4+1))).run pQ w9=.ok (gI o[y].cash) w9:=c1;refine dp c1 (dw (λW=>f2 .i64 W) (dp (hlp _ r9) ?_));refine qP0 ?_;refine dw f3 (qPv1 (pt b (y*4+1)) cS ?_);obtain⟨wa,sa,oa,ma⟩:=t1 (IntKind.i64.wrap (o[y].cash - P));apply ir sa;apply qSj k;refine hKM _ _ ⟨k+1,_,rfl,qZ,oa,?_,by rw[ey,ey];exact q3,i9.mod ma λb g j=>(j7 b j).2.2 g,r9.mod ma λb g j=>hn6 b g j,M9.on ma λb g=>.inr (j6 b (.inl g))⟩ (by show(mU 0 l).length - (((k+1:Nat):Int)).toNat<(mU 0 l).length - ((k:Int)).toNat;omega);rw[<-q2];have d1:(mU 0 l).drop k=y::(mU 0 l).drop (k+1):=by rw[hy];exact(gK V).symm
   have d2:R.1.drop k=P::R.1.drop (k+1):=by rw[hP];exact(gK hkR).symm
   rw[d1,d2,kS,cE hyb];simp only[gV,nt]
  ·have hkl' :k=(mU 0 l).length:=qZ;refine qSf1 V ?_;apply cI (DD (W:=W7) ⟨qZ,qZ⟩)
   have hfin:o=kS (mU 0 l) R.1 (l.map yp):=by
    rw[<-q2,hkl',fg (cJ _),kS];intro _ _ _ _ h;cases h
   rw[G,<-hfin]at hK;exact hK F W7 q1 q6 λb g=>j6 b (.inl g)
structure Hd where
 acct:Int
 q:Int
def EH(d:Hd):List Value:=[.int .u32 d.acct,gI d.q]
def UC(d:Hd):Value:=.agg (EH d).toArray
def E9(d:Hd):(EH d).length=2:=rfl
def LS(d:Hd):(EH d).all (·.oneCell')=true:=rfl
def XV:Tryz.prog.underlying 288=some (.slice 290):=cU
def eHd:lN pQ 290 2 16=true:=cU
abbrev HdS(w:Wt_)(sl:Vt_)(l:List Hd):Prop:=jo w 290 2 sl l.length (l.flatMap EH)
def Hd.Fit(d:Hd):Prop:=pL d.acct/\jl d.q
def zW:Int->List Hd->Bool
 |_,[]=>true
 |last,d::l=>decide (last<d.acct)&& amongB d.q (-10000000) 10000000&& zW d.acct l
def zt(n:Int):Int:=max n (-n)
def rQ(q n:Int):Int:=if decide (0<n)=decide (0<q)then 0 else zt n
def vU(l:List (Hd×Int)):List Hd:=(l.filter λx=>decide (0<x.2)).map λx=>⟨x.1.acct,x.2⟩
def qT(q:Int)(l:List Hd):List Hd×Int:=
 if 64<l.length then([],3)
 else if q=0\/amongB q (-10000000) 10000000=false\/zW 0 l=false then([],2)
 else if(l.map λd=>rQ q d.q).sum<zt q then([],7)
 else if(ib (zt q) (l.map λd=>rQ q d.q)).2≠0 then([],(ib (zt q) (l.map λd=>rQ q d.q)).2)
 else(vU (l.zip (ib (zt q) (l.map λd=>rQ q d.q)).1),0)
def Ti{l:List Hd}(h:Rd w 2 s l.length (l.flatMap EH)){i:Nat}(hi:i<l.length):
  ∃b a,(∀W,(iX 288 s (gI (i:Int))).run pQ W=.ok (pt b a) W)/\(iL 290 (pt b a)).run pQ w=.ok (UC l[i]) w/\(iL 23 (pt b a)).run pQ w=.ok (gU l[i].acct) w:=by
 obtain⟨b,a,g,c,f,j⟩:=h.item E9 hi rfl;obtain⟨C,e,fz,hC,d⟩:=j.get;have g0:=d 0 (gU l[i].acct) rfl;have g1:=d 1 (gI l[i].q) rfl;simp only[jU,dS]at g0 g1;exact⟨b,a+i*2,λW=>by rw[c];simp[go_sem,hi,cS,XV],by simp[go_sem,fy hC,g0,g1,UC,EH],by simp[go_sem,fy hC,g0]⟩
def O0(d:Hd)(w:Wt_):∃a c,(iA 290 true (.tuple #[])).run pQ w=.ok (pt w.heap.size 0) a/\(iS 290 (pt w.heap.size 0) (UC d)).run pQ a=.ok () c/\hC c w.heap.size (EH d).toArray 290/\M0 w c:=by
 obtain⟨a,b⟩:=dW (w.alloc (.cells #[.int .u32 0,gI 0] 290));have f:M0 w a:=by rw[b];exact(de.refl _ w).alloc _
 have e:hC a w.heap.size #[.int .u32 0,gI 0] 290:=by rw[b];simp[go_sem]
 refine⟨a,(a.setCell ⟨w.heap.size,0,none⟩ (gU d.acct)).setCell ⟨w.heap.size,1,none⟩ (gI d.q),by rw[b];simp[go_sem],by simp[go_sem,e,UC,EH],by simp[go_sem,e,EH],?_⟩;exact f.on (((de.refl (λx=>x=w.heap.size) a).sc).sc) λx g=>gz
def Um{l:List Hd}(h:Rd w 2 s l.length (l.flatMap EH))(Q:l.length<=1000000)(H:∀d∈l,d.Fit)
  (A:∀v,M0 w v->K (.bool (zW 0 l)) v):Ca pQ 219 #[s] w K:=by
 apply aj2;obtain⟨a,c,J⟩:=h.isSl;apply jm (gI (l.length:Int)) w (by rw[J];simp[go_sem])
 refine eS (λst W=>∃(i:Nat) (last:Int) (x:Vt_),i<=l.length/\st=(x,gU last,gI i,())/\M0 w W/\zW 0 l=zW last (l.drop i))
  (λst _=>match st.2.2.1 with| .int _ i=>l.length - i.toNat|_=>0) ⟨0,0,_,qZ,rfl,lX,rfl⟩ ?_
 rintro⟨_,_,_,_⟩ W ⟨i,last,x,P,⟨⟩,n,e⟩ O o;unfold QB;intro _;by_cases j:i<l.length
 ·have k:(i:Int)<(l.length:Int):=qZ;refine qSt1 k ?_;obtain⟨b,G,L,F,-⟩:=Ti (h.mod n eQ) j;refine cI (L _) (cI F ?_);obtain⟨N,M,B,C,g,I⟩:=O0 l[i] W;obtain⟨q,E⟩:=dW W.heap.size;rw[<-E]at B C g;refine cI B (ir C ?_);obtain⟨d,u⟩:=dW (l[i]);rw[<-u]at g;have p:=H d (by grind);have f:l.drop i=d::l.drop (i+1):=by rw[u];exact(gK j).symm
  rw[f,zW]at e;unfold EH at g;have D:=n.trans I;refine dK.at (λst t=>st=(.bool (!(decide (last<d.acct)&& amongB d.q (-10000000) 10000000)),())/\t=M) ?_ ?_
  ·refine qS0 ?_;refine qS1 g ?_;by_cases z:d.acct<=last
   ·refine qSt1 z ?_
    exact⟨by
      have:¬last<d.acct:=qZ;simp[this],rfl⟩
   ·refine qSf1 z ?_;have r:last<d.acct:=qZ;refine qS0 ?_;refine qS1 g ?_;apply lH p.2 qZ;refine qS0 ?_;exact⟨by simp[r],rfl⟩
  rintro _ t ⟨rfl,rfl⟩;unfold PX;intro _;cases y:(decide (last<d.acct)&& amongB d.q (-10000000) 10000000)with
  |false=>
   rw[cy,bZ (show(!false)=true from rfl)];rw[y,jp]at e;have m:=A _ D;rw[e]at m;exact m
  |true=>
   rw[cy,aZ (by simp)];rw[y,oo]at e;refine qS0 ?_;refine qS1 g ?_;apply cx (gI ((i+1:Nat):Int)) t (by simp[go_sem];rw[wI_]);exact o _ _ ⟨i+1,_,_,qZ,rfl,D,e⟩ (by grind)
 ·obtain rfl:i=l.length:=qZ;refine qSf0 ?_;rw[fg (cJ _),zW]at e;have m:=A _ n;rw[e]at m;exact m
def CU(h: -9223372036854775808<n/\n<9223372036854775808)(a:K (gI (zt n)) w):Ca pQ 220 #[.int .i64 n] w K:=by
 apply ak8;apply cx (gI (-n)) w (by simp[go_sem];rw[wI_]);exact jm (gI (zt n)) w (by simp[go_sem,zt]) a
def If{p f:Nat}{T:TypeId}(h: -9223372036854775808<n/\n<9223372036854775808)(b:hC w p #[.int .i64 q] T)(d:hC w f #[.func (.func 220) #[] #[]] 198)
  (a:K (gI (rQ q n)) w):Ca pQ 221 #[.int .i64 n,.pointer (some ⟨p,0,none⟩),.pointer (some ⟨f,0,none⟩)] w K:=by
 apply ZY;refine qS0 ?_;refine qS1 b ?_;refine qS0 ?_;apply cx (.bool (decide (decide (0<n)=decide (0<q)))) w (by by_cases g:0<n<;>by_cases e:0<q<;>simp[go_sem,g,e]);unfold rQ at a;by_cases c:decide (0<n)=decide (0<q)
 ·rw[qo c];rw[bZ c]at a;exact a
 ·rw[cy,aZ (by grind)];rw[aZ c]at a;refine qS1 d ?_;simp only[kE];exact CU h a
def HA:∀{l:List Hd} {last:Int},zW last l=true->∀d∈l,-10000000<=d.q/\d.q<=10000000
 |d::l,last,h,x,a=>by
  rw[zW,cL,cL]at h;rcases cH.1 a with rfl|a
  ·exact dR h.1.2
  ·exact HA h.2 x a
def KH(h: -10000000<=n/\n<=10000000):0<=rQ q n/\rQ q n<=10000000:=by
 unfold rQ zt;split<;>omega
def Mv{l:List Hd}(h:Rd w 2 s l.length (l.flatMap EH))(hn:l.length<=100000)(hl:∀d∈l,d.Fit)(Y:jl q)
  (hK:∀s' w',HdS w' s' (qT q l).1->M0 w w' ->(∀b,cK s' b->w.heap.size<=b)->K (.tuple #[s',gI (qT q l).2]) w'):Ca pQ 183 #[.int .i64 q,s] w K:=by
 apply ag6;obtain⟨a,c,hs⟩:=h.isSl;obtain⟨n0,Z⟩:=dW w.heap.size;have m1:M0 w (w.alloc (.cells #[.int .i64 q] 2)):=lm;have b1:hC (w.alloc (.cells #[.int .i64 q] 2)) n0 #[.int .i64 q] 2:=by rw[Z];simp[go_sem]
 apply cx (pt n0 0) (w.alloc (.cells #[.int .i64 q] 2)) (by rw[Z];simp[go_sem]);generalize w.alloc (.cells #[.int .i64 q] 2)=w1 at m1 b1|-;have F:∀{W:Wt_},(builtin .len #[288] 3 #[false] #[s]).run pQ W=.ok (.value (gI (l.length:Int))) W:=λ{W}=>by rw[hs];simp[go_sem]
 have C:∀e W,qT q l=([],e)->M0 w W->K (.tuple #[.slice none 0 0,gI e]) W:=λe W he m=>by
  have hk:=hK (.slice none 0 0) W (by rw[he];exact jo.nil _ _ _) m λb g=>by cases g
  rw[he]at hk;exact hk
 apply mB F;by_cases J:64<l.length
 ·have u:(64:Int)<(l.length:Int):=qZ;refine qSt1 u ?_;exact C 3 w1 (by unfold qT;rw[bZ J]) m1
 have u:¬(64:Int)<(l.length:Int):=qZ;refine qSf1 u ?_;have hd1:=h.mod m1 eQ;refine dK.at (λst W=>st=(.bool (decide (q=0\/amongB q (-10000000) 10000000=false\/zW 0 l=false)),())/\M0 w1 W) ?_ ?_
 ·refine qS1 b1 ?_;by_cases I:q=0
  ·refine qSt1 I ?_;exact⟨by grind,lX⟩
  ·refine qSf1 I ?_;refine qS1 b1 ?_;apply lH Y qZ;cases P:amongB q (-10000000) 10000000 with
   |false=>
    refine qSt1 P ?_;exact⟨by simp,lX⟩
   |true=>
    refine qSf1 P ?_;refine Um hd1 qZ hl λE m2=>?_;refine qS0 ?_;exact⟨by cases zW 0 l<;>simp[I],m2⟩
 rintro _ E ⟨rfl,m2⟩;unfold Sz;intro _;by_cases n:q=0\/amongB q (-10000000) 10000000=false\/zW 0 l=false
 ·rw[qo n];exact C 2 E (by unfold qT;rw[aZ J,bZ n]) (m1.trans m2)
 rw[cy,aZ (by grind)]
 have hqr: -10000000<=q/\q<=10000000:=by
  have:amongB q (-10000000) 10000000=true:=by
   cases P:amongB q (-10000000) 10000000 with
   |true=>rfl
   |false=>exact absurd (.inr (.inl P)) n
  exact dR this
 have hds:zW 0 l=true:=by
  cases P:zW 0 l with
  |true=>rfl
  |false=>exact absurd (.inr (.inr P)) n
 have v:=HA hds;obtain⟨D,hf0⟩:=dW E.heap.size;have m3:M0 E (E.alloc (.cells #[.nilFunc] 198)):=lm;have b3:hC (E.alloc (.cells #[.nilFunc] 198)) D #[.nilFunc] 198:=by rw[hf0];simp[go_sem]
 apply cx (pt D 0) (E.alloc (.cells #[.nilFunc] 198)) (by rw[hf0];simp[go_sem]);generalize E.alloc (.cells #[.nilFunc] 198)=L at m3 b3|-;apply pH (L.setCell ⟨D,0,none⟩ (.func (.func 220) #[] #[])) (by simp[go_sem];rw[run_store _ _ _ _ _ rfl];simp[go_sem,b3]);have m4:de (λx=>x=D) L (L.setCell ⟨D,0,none⟩ (.func (.func 220) #[] #[])):=(de.refl (λx=>x=D) L).sc;have b4:hC (L.setCell ⟨D,0,none⟩ (.func (.func 220) #[] #[])) D #[.func (.func 220) #[] #[]] 198:=by simp[go_sem,b3]
 generalize L.setCell ⟨D,0,none⟩ (.func (.func 220) #[] #[])=w4 at m4 b4|-;have M24:M0 E w4:=m3.on m4 λx hx=>gz;have M4:=(m1.trans m2).trans M24;have c4:=(m2.trans M24).hpk b1 id;apply mB F
 refine eS (λst W=>∃(i:Nat) (O:Vt_),st=(O,gI (((l.take i).map λd=>rQ q d.q).sum),gI i,())/\i<=l.length/\wC W O ((l.take i).map λd=>rQ q d.q)/\M0 w4 W/\∀b,cK O b->w4.heap.size<=b)
  (λst _=>match st.2.2.1 with| .int _ i=>l.length - i.toNat|_=>0) ⟨0,.slice none 0 0,by simp,qZ,jo.nil _ _ _,lX,λb g=>(by cases g)⟩ ?_
 rintro⟨O,_,_,_⟩ W ⟨i,sA0,⟨⟩,hi,j1,j2,j3⟩ KN hKN;unfold Rc;intro _
 have H:∀i,0<=((l.take i).map λd=>rQ q d.q).sum/\((l.take i).map λd=>rQ q d.q).sum<=64*10000000:=λi=>by
  have:=vu (l:=(l.take i).map λd=>rQ q d.q) (B:=10000000) λx hx=>by
   obtain⟨d,S,rfl⟩:=cF.1 hx;exact KH (v d (ek S))
  rw[cz,cZ]at this;omega
 by_cases U:i<l.length
 ·have hlt' :(i:Int)<(l.length:Int):=qZ;refine qSt1 hlt' ?_;obtain⟨b,off,e1,e2,-⟩:=Ti ((h.mod M4 eQ).mod j2 eQ) U;refine cI (e1 _) (cI e2 ?_);obtain⟨wv,w5,v1,v2,V,v4⟩:=O0 l[i] W;obtain⟨p,hp0⟩:=dW W.heap.size;rw[<-hp0]at v1 v2 V;refine cI v1 (ir v2 ?_);obtain⟨d,S⟩:=dW (l[i]);rw[<-S]at V;have hdr:=v d (by grind);have htk:l.take (i+1)=l.take i++[d]:=by rw[S];exact eA U
  unfold EH at V;refine qS0 ?_;refine qS1 V ?_;simp only[kE];have J2:=j2.trans v4;apply If ⟨qZ,qZ⟩ (J2.hpk c4 id) (J2.hpk b4 id);have own5:wC w5 O ((l.take i).map λd=>rQ q d.q):=j1.mod v4 eQ;refine vK (x:=rQ q d.q) (f:=wz) zU (eO Uy) (λ_=>rfl) xy rfl own5 (by grind) qZ λsA' G N m6 n6=>?_;have hpA:∀b,cK O b->b<p:=λb g=>by rw[hp0];exact j1.lt g
  have c6:=m6.hpk V λg=>by grind
  have J6:=J2.on m6 λb g=>.inr (j3 b g);refine qS0 ?_;refine qS1 c6 ?_;apply If ⟨qZ,qZ⟩ (J6.hpk c4 id) (J6.hpk b4 id);have X:((l.take (i+1)).map λd=>rQ q d.q).sum=((l.take i).map λd=>rQ q d.q).sum+rQ q d.q:=by rw[htk];simp
  have hb1:=H i;have hb2:=H (i+1);obtain⟨S0,z⟩:=dW (((l.take i).map λd=>rQ q d.q).sum);rw[<-z]at hb1 X|-;apply cx (gI (S0+rQ q d.q)) G (by simp[go_sem];rw[wI_]);apply cx (gI ((i+1:Nat):Int)) G (by simp[go_sem];rw[wI_]);have hs5:=J2.size;refine hKN _ _ ⟨i+1,sA',by rw[X],qZ,?_,J6,λb g=>(n6 b g).elim (j3 b) λh' =>qZ⟩ (by grind);have e:((l.take (i+1)).map λd=>rQ q d.q)=((l.take i).map λd=>rQ q d.q)++[rQ q d.q]:=by rw[htk];simp
  rw[e];exact N
 ·obtain rfl:i=l.length:=qZ;refine qSf0 ?_;have hb0:=H l.length;rw[cN]at j1 hb0|-;have d4:=j2.hpk c4 id;have e4:=j2.hpk b4 id;refine qS1 e4 ?_;refine qS1 d4 ?_;simp only[kE];apply CU ⟨qZ,qZ⟩;obtain⟨S0,z⟩:=dW ((l.map λd=>rQ q d.q).sum);obtain⟨A,hA⟩:=dW (zt q);have hAb:0<=A/\A<=10000000:=by rw[hA];unfold zt;omega
  have MW:=M4.trans j2
  have y:qT q l=if S0<A then([],7)else if(ib A (l.map λd=>rQ q d.q)).2≠0 then([],(ib A (l.map λd=>rQ q d.q)).2)else(vU (l.zip (ib A (l.map λd=>rQ q d.q)).1),0):=by
   unfold qT;rw[aZ J,aZ n,<-z,<-hA]
  rw[<-z,<-hA];by_cases r:S0<A
  ·refine qSt1 r ?_;exact C 7 W (by grind) MW
  refine qSf1 r ?_;rw[aZ r]at y;refine qS1 e4 ?_;refine qS1 d4 ?_;simp only[kE];apply CU ⟨qZ,qZ⟩;rw[<-hA]
  refine HF j1.rd (λx hx=>by
   obtain⟨d,S,rfl⟩:=cF.1 hx;have:=KH (q:=q) (v d S);constructor<;>omega) ⟨qZ,qZ⟩ (by grind) λv76 G N m6 n6=>?_
  obtain⟨R,hR⟩:=dW (ib A (l.map λd=>rQ q d.q));rw[<-hR]at N y|-;obtain⟨va,vc,hva,-⟩:=N.isSl;have M6:=MW.trans m6;apply cx v76 G (by rw[hva];simp[go_sem]);refine qS0 ?_;by_cases t:R.2=0
  case neg=>
   refine qSt1 t ?_;exact C R.2 G (by grind) M6
  refine qSf1 t ?_;rw[aZ (by simpa using t)]at y
  have hRl:R.1.length=l.length:=by
   rw[hR]at t|-;rw[yH t,cz]
  apply jm (gI (R.1.length:Int)) G (by rw[hva];simp[go_sem]);have hzl:(l.zip R.1).length=l.length:=by grind
  have hs6:=M6.size
  refine eS (λst W2=>∃(k:Nat) (M:Vt_),st=(M,gI k,())/\k<=l.length/\HdS W2 M (vU ((l.zip R.1).take k))/\M0 G W2/\∀b,cK M b->G.heap.size<=b)
   (λst _=>match st.2.1 with| .int _ k=>l.length - k.toNat|_=>0) ⟨0,.slice none 0 0,rfl,qZ,jo.nil _ _ _,lX,λb g=>(by cases g)⟩ ?_
  rintro⟨M,_,_⟩ W7 ⟨k,sO0,⟨⟩,hk,q1,Q,q3⟩ KM hKM;unfold Pu;intro _
  have hpl:(vU ((l.zip R.1).take k)).length<=64:=by
   unfold vU;rw[cz];apply dD (dm _ _);rw[cZ];omega
  by_cases hkl:k<l.length
  ·have j:k<R.1.length:=qZ;refine qSt1 j ?_;obtain⟨p2,f2,g2⟩:=N.el (i:=k) j;have r7:wC W7 v76 R.1:=N.mod Q eQ;refine cI (f2 .i64 W7) (cI (g2 _ _ r7 j).1 ?_)
   have T:(l.zip R.1).take (k+1)=(l.zip R.1).take k++[(l[k],R.1[k])]:=by
    rw[eA qZ,List.getElem_zip]
   by_cases o:0<R.1[k]
   ·refine qSt1 o ?_;obtain⟨b,off,e1,-,e3⟩:=Ti ((h.mod M6 eQ).mod Q eQ) hkl;apply cI (e1 _);refine qS1 cS ?_;apply cI e3;apply cx (UC ⟨l[k].acct,R.1[k]⟩) W7 (by simp[go_sem,UC,EH]);refine vK (x:=(⟨l[k].acct,R.1[k]⟩:Hd)) (f:=EH) XV (eO eHd) E9 LS rfl q1 qZ qZ λsO' w8 o8 m8 n8=>?_;apply cx (gI ((k+1:Nat):Int)) w8 (by simp[go_sem];rw[wI_]);have hs7:=Q.size;refine hKM _ _ ⟨k+1,sO',rfl,qZ,?_,Q.on m8 λb g=>.inr (q3 b g),λb g=>(n8 b g).elim (q3 b) λh' =>qZ⟩ (by grind)
    have e:vU ((l.zip R.1).take (k+1))=vU ((l.zip R.1).take k)++[⟨l[k].acct,R.1[k]⟩]:=by
     rw[T];unfold vU;rw[dJ,dy,dI (by simpa using o)];rfl
    rw[e];exact o8
   ·refine qSf1 o ?_;apply cx (gI ((k+1:Nat):Int)) W7 (by simp[go_sem];rw[wI_]);refine hKM _ _ ⟨k+1,M,rfl,qZ,?_,Q,q3⟩ (by grind)
    have e:vU ((l.zip R.1).take (k+1))=vU ((l.zip R.1).take k):=by
     rw[T];unfold vU;rw[dJ,dy,cY (by simpa using o),iz,List.map_nil,ew]
    rw[e];exact q1
  ·have hkn:k=l.length:=qZ;have j:¬k<R.1.length:=qZ;refine qSf1 j ?_;rw[cT qZ]at q1;rw[y]at hK;exact hK M W7 q1 (M6.trans Q) λb g=>by grind
def oQ(l:List Int)(q:Int):Int:=l.foldl (λm s=>max m (-q*s)) 0
def GH(l:List Int)(x q:Int):oQ (l++[x]) q=max (oQ l q) (-q*x):=by
 unfold oQ;rw[kH];rfl
def E3{a b A B:Int}(h: -A<=a/\a<=A)(f: -B<=b/\b<=B): -(A*B)<=a*b/\a*b<=A*B:=by
 have e:0<=A:=qZ;have c:0<=B:=qZ;have d:a.natAbs*b.natAbs<=A.natAbs*B.natAbs:=jE qZ qZ;rw[<-Int.natAbs_mul,<-Int.natAbs_mul]at d;have g:0<=A*B:=lU e c;omega
def Im{s:Vector Int 16}(u:∀x∈s.toList,-10000000<=x/\x<=10000000)(C: -1000000000<=q/\q<=1000000000)
  (t:∀k,M0 w k->K (gI (oQ s.toList q)) k):Ca pQ 111 #[.agg (xD s).toArray,gI q] w K:=by
 apply am8;have m:M0 w (w.alloc (.cells (xD s).toArray 25)):=lm;apply cx (pt w.heap.size 0) (w.alloc (.cells (xD s).toArray 25)) rfl;have j:hC (w.alloc (.cells (xD s).toArray 25)) w.heap.size (xD s).toArray 25:=by simp[go_sem]
 generalize w.alloc (.cells (xD s).toArray 25)=o at m j|-;apply jq (xD s) 15 Y2 Y4 (rh _) (At.all j);have D:s.toList.length=16:=by simp
 refine eS (λst W=>∃i:Nat,i<=16/\st=(gI (oQ (s.toList.take i) q),gI i,())/\W=o)
  (λst _=>match st.2.1 with| .int _ i=>16 - i.toNat|_=>0) ⟨0,qZ,rfl,rfl⟩ ?_
 rintro⟨_,_,_⟩ W ⟨i,E,⟨⟩,rfl⟩ v g;unfold P0;intro _;by_cases d:i<16
 ·have f:(i:Int)<16:=qZ;have c:i<s.toList.length:=qZ;refine qSt1 f ?_;apply cx (gI s.toList[i]!) W (vD uSh Ys Xm Yt d (Fa _ i d));rw[jP s.toList i c];have n:=u _ (cC c);obtain⟨y,l⟩:=dW (s.toList[i]);rw[<-l]at n|-;have p:=E3 (a:= -q) (b:=y) (A:=1000000000) (B:=10000000) qZ n;apply cx (gI (-q)) W (by simp[go_sem];rw[wI_]);obtain⟨z,h⟩:=dW (-q*y);rw[<-h]at p;apply cx (gI z) W (by simp only[go_sem];simp;rw[<-h,wI_]);refine qN0 ?_;apply cx (gI ((i+1:Nat):Int)) W (by simp[go_sem];rw[wI_]);refine g _ _ ⟨i+1,qZ,?_,rfl⟩ (by grind);have e:=eA c;rw[e,GH,<-l,<-h]
 ·obtain rfl:i=16:=qZ;refine qSf0 ?_;have r:=t _ m;have e:s.toList.take 16=s.toList:=cT qZ;rw[e];exact r
def yx(s:Vector Int 16)(q:Int):Int×Int:=
 if s.toList.all (λx=>amongB x (-10000000) 10000000)=false\/amongB q (-1000000000) 1000000000=false then(0,2)else(oQ s.toList q,0)
def Uj{s:Vector Int 16}(z:∀x∈s.toList,jl x)(u:jl q)
  (n:∀p,M0 w p->K (.tuple #[.int .i64 (yx s q).1,gI (yx s q).2]) p):Ca pQ 113 #[.agg (xD s).toArray,gI q] w K:=by
 apply Zp;have l:M0 w (w.alloc (.cells (xD s).toArray 25)):=lm;apply cx (pt w.heap.size 0) (w.alloc (.cells (xD s).toArray 25)) rfl;have j:hC (w.alloc (.cells (xD s).toArray 25)) w.heap.size (xD s).toArray 25:=by simp[go_sem]
 obtain⟨C,o⟩:=dW w.heap.size;rw[<-o]at j|-;generalize w.alloc (.cells (xD s).toArray 25)=r at l j|-;apply jq (xD s) 15 Y2 Y4 (rh _) (At.all j);have D:s.toList.length=16:=by simp
 refine eS (λst W=>∃(i:Nat) (x y:Vt_),i<=16/\st=(x,y,gI i,())/\W=r/\(s.toList.take i).all (λx=>amongB x (-10000000) 10000000)=true)
  (λst _=>match st.2.2.1 with| .int _ i=>16 - i.toNat|_=>0) ⟨0,_,_,qZ,rfl,rfl,rfl⟩ ?_
 rintro⟨_,_,_,_⟩ W ⟨i,x,y,E,⟨⟩,rfl,a⟩ B m;unfold RR;intro _;by_cases f:i<16
 ·have g:(i:Int)<16:=qZ;have c:i<s.toList.length:=qZ;refine qSt1 g ?_;apply cx (gI s.toList[i]!) W (vD uSh Ys Xm Yt f (Fa _ i f));rw[jP s.toList i c];apply lH (z _ (cC c)) qZ;cases k:amongB s.toList[i] (-10000000) 10000000 with
  |false=>
   refine qSt1 k ?_;have d:=n _ l
   have e:yx s q=(0,2):=by
    unfold yx;exact bZ (.inl (nI.2 ⟨_,cC c,by rw[k];simp⟩))
   rw[e]at d;exact d
  |true=>
   refine qSf1 k ?_;apply cx (gI ((i+1:Nat):Int)) W (by simp[go_sem];rw[wI_]);refine m _ _ ⟨i+1,_,_,qZ,rfl,rfl,?_⟩ (by grind);have e:=eA c;rw[e,gj,a,qq,k];rfl
 ·obtain rfl:i=16:=qZ;refine qSf0 ?_;have v:s.toList.take 16=s.toList:=cT qZ;rw[v]at a;apply lH u qZ;cases b:amongB q (-1000000000) 1000000000 with
  |false=>
   refine qSt1 b ?_;have d:=n _ l;have e:yx s q=(0,2):=by unfold yx;rw[bZ (.inr b)]
   rw[e]at d;exact d
  |true=>
   refine qSf1 b ?_;apply jq (xD s) 15 Y2 Y4 (rh _) (At.all j)
   have e:yx s q=(oQ s.toList q,0):=by
    unfold yx;rw[aZ];rintro(h|h)
    ·rw[a]at h;cases h
    ·rw[b]at h;cases h
   refine Im (λx A=>dR (dF.1 a x A)) (dR b) λF t=>?_;have d:=n _ (l.trans t);rw[e]at d;exact d
def Mz(n:Int):Value:=gQ n
def Gq(n:Int):Value:=gI n
def ai3:Tryz.prog.underlying 24=some (.int .u64):=cU
def XT:vB pQ 24 Mz:=vB.int ai3
def Pb:Tryz.prog.underlying 347=some (.map 24 3):=cU
def TK:qw pQ 3=some (gI 0):=cU
def vw(sells:Bool):List Int->List Od->Bool
 |_,[]=>true
 |seen,o::l=>o.may&& (o.buy==sells)&& !seen.contains o.num&& vw sells (o.num::seen) l
def JL{l:List Od}(h:Rd w 5 s l.length (l.flatMap fL))(hn:l.length<=1000000)(hl:∀o∈l,o.Fit)
  (V:∀T,M0 w T->K (.bool (vw sells [] l)) T):Ca pQ 216 #[.bool sells,s] w K:=by
 apply an7;obtain⟨m,u⟩:=dW w.heap.size;have S:M0 w (w.alloc (.map #[] 0)):=lm;have U:fB Mz Gq (w.alloc (.map #[] 0)) m ([]:List (Int×Int)):=by rw[u];exact fB.new w
 apply cx (.map (some m)) (w.alloc (.map #[] 0)) (by rw[u];simp[go_sem]);generalize w.alloc (.map #[] 0)=w1 at S U|-;obtain⟨a,c,hs⟩:=h.isSl;apply jm (gI (l.length:Int)) w1 (by rw[hs];simp[go_sem])
 refine eS (λst W=>∃(i:Nat) (x:Vt_) (L:List (Int×Int)) (seen:List Int),i<=l.length/\st=(x,gI i,())/\M0 w W/\fB Mz Gq W m L/\(∀n,lk L n=if n∈seen then some 1 else none)/\vw sells [] l=vw sells seen (l.drop i))
  (λst _=>match st.2.1 with| .int _ i=>l.length - i.toNat|_=>0) ⟨0,_,[],[],qZ,rfl,S,U,λn=>by simp[lk],rfl⟩ ?_
 rintro⟨_,_,_⟩ W ⟨i,x,L,seen,hi,⟨⟩,F,R,G,j⟩ KN C;unfold Qz;intro _;by_cases k:i<l.length
 ·have z:(i:Int)<(l.length:Int):=qZ;refine qSt1 z ?_;obtain⟨b,D,cap,H,M,hA⟩:=(h.mod F eQ).item gM k rfl;apply cx (pt b (D+i*5)) W (by rw[H];simp[go_sem,k,cS,mH]);apply cI (lM (o:=l[i]) hA);obtain⟨w2,e2,X,m2⟩:=kD W;apply cI e2;obtain⟨q,hq⟩:=dW W.heap.size;rw[<-hq]at X|-;obtain⟨O,e3,A,m3⟩:=jK (o' :=l[i]) X;apply ir e3;obtain⟨o,N⟩:=dW (l[i]);rw[<-N]at A;have p:l.drop i=o::l.drop (i+1):=by rw[N];exact(gK k).symm
  rw[p,vw]at j;have I:M0 W O:=m2.on m3 λb d=>gz;refine dK.at (λst W' =>st=(.bool (!(o.may&& (o.buy==sells)&& !seen.contains o.num)),())/\M0 O W') ?_ ?_
  ·apply cI (lM (o:=o) (At.all A));refine Ab λy e=>?_;have r:=e.hpk A id;unfold fL at r;cases P:o.may with
   |false=>
    refine qSt0 ?_;exact⟨by simp,e⟩
   |true=>
    refine qSf0 ?_;refine qS0 ?_;refine qS1 r ?_;by_cases d:o.buy=sells
    ·apply cx (.bool false) y (by rw[d];cases sells<;>simp[go_sem]);rw[gP];refine qS0 ?_;refine qS1 r ?_;have f:=(R.mod I id).mod e id;apply vr (enc:=Mz) (ev:=Gq) (x:=o.num) (gI 0) Pb XT TK (.inr ⟨m,rfl,f⟩);rw[G];by_cases g:o.num∈seen
     ·rw[bZ g];apply cx (.bool true) y (by simp[go_sem,Gq]);exact⟨by simp[d,g],e⟩
     ·rw[aZ g];refine qS0 ?_;exact⟨by simp[d,g],e⟩
    ·apply cx (.bool true) y (by cases ho2:o.buy<;>cases sells<;>simp_all[go_sem]);rw[kx];exact⟨by simp[d],e⟩
  rintro _ y ⟨rfl,e⟩;unfold QR;intro _;have Q:=(F.trans I).trans e;cases d:(o.may&& (o.buy==sells)&& !seen.contains o.num)with
  |false=>
   rw[cy,bZ (show(!false)=true from rfl)];rw[d,jp]at j;have t:=V _ Q;rw[j]at t;exact t
  |true=>
   rw[cy,aZ (by simp)];rw[d,oo]at j
   have J:o.num ∉ seen:=by
    simp only[cL,Bool.not_eq_true',List.contains_eq_mem,jh]at d;exact d.2
   have r:=e.hpk A id;unfold fL at r;refine qS0 ?_;refine qS1 r ?_;have f:=(R.mod I id).mod e id;apply vr (enc:=Mz) (ev:=Gq) (x:=o.num) (gI 0) Pb XT TK (.inr ⟨m,rfl,f⟩);rw[G,aZ J];apply cx (Gq 1) y (by simp[go_sem,Gq];decide);refine kV (enc:=Mz) (ev:=Gq) (x:=o.num) (v:=1) Pb XT f λw5 E Y Z=>?_;apply cx (gI ((i+1:Nat):Int)) w5 (by simp[go_sem];rw[wI_]);refine C _ _ ⟨i+1,_,_,o.num::seen,qZ,rfl,Q.on Y λb d=>gz,E,λn=>?_,j⟩ (by grind);rw[sn,G];by_cases B:o.num=n
   ·subst B;simp
   ·grind
 ·obtain rfl:i=l.length:=qZ;refine qSf0 ?_;rw[fg (cJ _),vw]at j;have t:=V _ F;rw[j]at t;exact t
structure Fl where
 num:Int
 acct:Int
 qty:Int
def E5(x:Fl):List Value:=[.int .u64 x.num,gU x.acct,gI x.qty]
def LY(x:Fl):(E5 x).length=3:=rfl
def SU(x:Fl):(E5 x).all (·.oneCell')=true:=rfl
def aE9:Tryz.prog.underlying 282=some (.slice 286):=cU
def eFl:lN pQ 286 3 24=true:=cU
abbrev FlS(w:Wt_)(sl:Vt_)(l:List Fl):Prop:=jo w 286 3 sl l.length (l.flatMap E5)
def sC(sells:Bool)(a b:Od):Int:=if sells then b.price - a.price else a.price - b.price
def pB:Int->List Od->Int->List Fl×Int
 |_,[],pr=>([],pr)
 |qty,b::l,pr=>if min qty b.left=0 then([],pr)else(⟨b.num,b.acct,min qty b.left⟩::(pB (qty - min qty b.left) l b.price).1,(pB (qty - min qty b.left) l b.price).2)
def pG(sells:Bool)(qty:Int)(l:List Od):Int×List Fl×Int:=
 if 50<l.length then(0,[],3)
 else if qty<1\/10000000<qty\/vw sells [] l=false then(0,[],2)
 else((pB qty (Srt.stable (TM (sC sells)) l) 0).2,(pB qty (Srt.stable (TM (sC sells)) l) 0).1,0)
def EK:∀{l:List Od} {sells:Bool} {seen:List Int},vw sells seen l=true->∀o∈l,o.may=true
 |o::l,sells,seen,h,x,a=>by
  rw[vw,cL,cL,cL]at h;rcases cH.1 a with rfl|a
  ·exact h.1.1.1
  ·exact EK h.2 x a
def Od.price_bd{o:Od}(h:o.may=true):1<=o.price/\o.price<=10000000:=by
 unfold Od.may amongB MP at h;simp only[cL,dN]at h;omega
def Jy{p:Nat}{T:TypeId}{x y:Od}(c:hC w p #[.bool sells] T)(t:1<=x.price/\x.price<=10000000)(s:1<=y.price/\y.price<=10000000)
  (k:∀h,M0 w h->K (gI (sC sells x y)) h):Ca pQ 218 #[oG x,oG y,.pointer (some ⟨p,0,none⟩)] w K:=by
 apply ao8;obtain⟨e,o,f,n⟩:=vt x w;apply cI o;obtain⟨q,j⟩:=dW w.heap.size;rw[<-j]at f|-;obtain⟨u,l,b,g⟩:=vt y e;apply cI l;obtain⟨r,m⟩:=dW e.heap.size;rw[<-m]at b|-;have d:=g.hpk f id;have M:=n.trans g;have i:=M.hpk c id;unfold fL at d b;have a:=k _ M;unfold sC at a;refine qS1 i ?_;cases sells with
 |true=>
  rw[kx];rw[bZ rfl]at a;refine qS0 ?_;refine qS1 b ?_;refine qS0 ?_;refine qS1 d ?_;exact qSi (y.price - x.price) a
 |false=>
  rw[gP];rw[aZ gL]at a;refine qS0 ?_;refine qS1 d ?_;refine qS0 ?_;refine qS1 b ?_;exact qSi (x.price - y.price) a
def RB{l:List Od}{qty:Int}(h:Rd w 5 s l.length (l.flatMap fL))(hn:l.length<=1000000)(hl:∀o∈l,o.Fit)(hq64:jl qty)
  (hK:∀u w',FlS w' u (pG sells qty l).2.1->M0 w w' ->(∀b,cK u b->w.heap.size<=b)->K (.tuple #[.int .i64 (pG sells qty l).1,u,gI (pG sells qty l).2.2]) w'):Ca pQ 180 #[.bool sells,gI qty,s] w K:=by
 apply ab0;obtain⟨a,c,hs⟩:=h.isSl;obtain⟨p,M⟩:=dW w.heap.size;have Q:M0 w (w.alloc (.cells #[.bool sells] 4)):=lm;have X:hC (w.alloc (.cells #[.bool sells] 4)) p #[.bool sells] 4:=by rw[M];simp[go_sem]
 apply cx (pt p 0) (w.alloc (.cells #[.bool sells] 4)) (by rw[M];simp[go_sem]);generalize w.alloc (.cells #[.bool sells] 4)=w1 at Q X|-
 have J:∀e W,pG sells qty l=(0,[],e)->M0 w W->K (.tuple #[.int .i64 0,.slice none 0 0,gI e]) W:=λe W he m=>by
  have hk:=hK (.slice none 0 0) W (by rw[he];exact jo.nil _ _ _) m λb k=>by cases k
  rw[he]at hk;exact hk
 apply jm (gI (l.length:Int)) w1 (by rw[hs];simp[go_sem]);by_cases A:50<l.length
 ·have j:(50:Int)<(l.length:Int):=qZ;refine qSt1 j ?_;exact J 3 w1 (by unfold pG;rw[bZ A]) Q
 have j:¬(50:Int)<(l.length:Int):=qZ;refine qSf1 j ?_;refine dK.at (λst W=>st=(.bool (decide (qty<1\/10000000<qty\/vw sells [] l=false)),())/\M0 w1 W) ?_ ?_
 ·by_cases h1:qty<1
  ·refine qSt1 h1 ?_;exact⟨by grind,lX⟩
  ·refine qSf1 h1 ?_;by_cases h2:10000000<qty
   ·refine qSt1 h2 ?_;exact⟨by grind,lX⟩
   ·refine qSf1 h2 ?_;refine qS1 X ?_;refine JL (h.mod Q eQ) qZ hl λw2 R=>?_;refine qS0 ?_;exact⟨by cases vw sells [] l<;>simp[h1,h2],R⟩
 rintro _ w2 ⟨rfl,R⟩;unfold Rn;intro _;have M2:=Q.trans R;by_cases g:qty<1\/10000000<qty\/vw sells [] l=false
 ·rw[qo g];exact J 2 w2 (by unfold pG;rw[aZ A,bZ g]) M2
 rw[cy,aZ (by grind)]
 have U:vw sells [] l=true:=by
  cases hw:vw sells [] l with
  |true=>rfl
  |false=>exact absurd (.inr (.inr hw)) g
 have n:=EK U;have b2:=R.hpk X id;have hpl:=cB b2;refine ww (h.mod M2 eQ) qZ λsl w3 o3 m3 n3=>?_;have b3:=m3.hpk b2 id;refine RL (cf:=sC sells) o3 qZ ⟨_,_,rfl,λx hx y hy W mW K' hK' =>?_⟩ λD o4 m4=>?_
 ·exact Jy (mW.hpk b3 λk=>by grind) (Od.price_bd (n x hx)) (Od.price_bd (n y hy)) hK'
 have M4:M0 w D:=(M2.trans m3).on m4 λb k=>.inr (by grind);have d:=Srt.stable_perm (TM (sC sells)) l;obtain⟨S,hS⟩:=dW (Srt.stable (TM (sC sells)) l);have Z:pG sells qty l=((pB qty S 0).2,(pB qty S 0).1,0):=by unfold pG;rw[aZ A,aZ g,hS]
 rw[<-hS]at o4 d;have hSl:=d.length_eq;have hs4:=M4.size;refine dK.at (λst W=>∃x u,st=(x,gI (pB qty S 0).2,u,())/\FlS W u (pB qty S 0).1/\M0 D W/\∀b,cK u b->D.heap.size<=b) ?_ ?_
 ·obtain⟨sa,sc,hsl,-⟩:=o4.isSl;apply jm (gI (S.length:Int)) D (by rw[hsl];simp[go_sem])
  refine eS (λst W=>∃(i:Nat) (q P:Int) (H:Vt_) (F:List Fl),st=(gI q,gI P,H,gI i,())/\i<=S.length/\FlS W H F/\F.length=i/\M0 D W/\(∀b,cK H b->D.heap.size<=b)/\0<=q/\q<=10000000/\F++(pB q (S.drop i) P).1=(pB qty S 0).1/\(pB q (S.drop i) P).2=(pB qty S 0).2)
   (λst _=>match st.2.2.2.1 with| .int _ i=>S.length - i.toNat|_=>0) ⟨0,qty,0,.slice none 0 0,[],rfl,qZ,jo.nil _ _ _,rfl,lX,λb k=>(by cases k),qZ,qZ,rfl,rfl⟩ ?_
  rintro⟨_,_,H,_,_⟩ W ⟨i,q,P,sF0,F,⟨⟩,hi,j1,j2,G,N,j5,j6,v,t⟩ KN Y;unfold Sj;intro _;by_cases I:i<S.length
  ·have L:(i:Int)<(S.length:Int):=qZ;refine qSt1 L ?_;have oW:qR W sl S:=o4.mod G eQ;obtain⟨b,cap,hse,T,V⟩:=oW.load I;refine cI (T .i64) (cI V ?_);obtain⟨w5,e5,b5,m5⟩:=kD W;apply cI e5;obtain⟨r,hr⟩:=dW W.heap.size;rw[<-hr]at b5|-;obtain⟨C,e6,B,m6⟩:=jK (o' :=S[i]) b5;apply ir e6;obtain⟨o,ho⟩:=dW (S[i]);rw[<-ho]at B;have hol:=Od.left_bd (n o (d.mem_iff.1 (by grind)));have O:M0 W C:=m5.on m6 λb k=>gz;have z:S.drop i=o::S.drop (i+1):=by rw[ho];exact(gK I).symm
   rw[z,pB]at v t;unfold fL at B;refine qS0 ?_;refine qS1 B ?_;refine qN0 ?_;have f6:FlS C H F:=j1.mod O eQ;by_cases hz:min q o.left=0
   ·apply cx (.bool true) C (by simp only[go_sem];simp;omega);rw[kx];rw[bZ hz]at v t;simp only[ew]at v t;exact⟨_,_,by rw[<-t],by grind,G.trans O,N⟩
   ·apply cx (.bool false) C (by simp only[go_sem];simp;omega);rw[gP];rw[aZ hz]at v t;obtain⟨E,hmn⟩:=dW (min q o.left);have hmb:0<=E/\E<=q:=qZ;rw[<-hmn]at v t|-;refine qS0 ?_;refine qS1 B ?_;apply cx (gI (q - E)) C (by simp[go_sem];rw[wI_]);refine qS0 ?_;refine qS1 B ?_;refine qS0 ?_;refine qS1 B ?_;apply cx (.agg (E5 ⟨o.num,o.acct,E⟩).toArray) C (by simp[go_sem,E5]);refine vK (x:=(⟨o.num,o.acct,E⟩:Fl)) (f:=E5) aE9 (eO eFl) LY SU rfl f6 qZ qZ λsF' w7 o7 m7 n7=>?_;apply cx (gI ((i+1:Nat):Int)) w7 (by simp[go_sem];rw[wI_]);have hs6:=(G.trans O).size;refine Y _ _ ⟨i+1,q - E,o.price,sF',_,rfl,qZ,o7,by grind,(G.trans O).on m7 λb k=>.inr (N b k),λb k=>(n7 b k).elim (N b) λh' =>qZ,qZ,qZ,?_,t⟩ (by grind);rw[<-v,df];rfl
  ·obtain rfl:i=S.length:=qZ;refine qSf0 ?_;rw[fg (cJ _),pB]at v t;simp only[ew]at v t;exact⟨_,_,by rw[<-t],by grind,G,N⟩
 rintro _ W ⟨x,u,rfl,f1,f2,f3⟩;unfold Qu;intro _;rw[Z]at hK;exact hK u W f1 (M4.trans f2) λb k=>by grind
structure Lg where
 spec:Sp
 q:Int
def wX(x:Lg):List Value:=jA x.spec++[.int .i64 x.q]
def kZ(x:Lg):(wX x).length=26:=by simp[wX,dP]
def FT(x:Lg):(wX x).all (·.oneCell')=true:=by rw[wX,gj,xS];rfl
def lgT(x:Lg)(i:Nat)(h:i<25):(wX x)[i]? =(jA x.spec)[i]? :=by rw[wX,dC (by rw[dP];omega)]
def QU(x:Lg):(wX x)[25]? =some (gI x.q):=by rw[wX,cQ (by rw[dP];omega),dP];rfl
def av4(s:Sp):(jA s)[1]? =some (gB s.route):=rfl
def Zj(s:Sp):(jA s)[22]? =some (gI s.credit):=by have:=WJ s [];rwa[ew]at this
def ae8:Tryz.prog.underlying 146=some (.slice 94):=cU
def nLg:Tryz.prog.cellsOf 94=25+1:=cU
def aLg:pY pQ 94=true:=cU
def zLg:se pQ 94=true:=cU
def aw0:(lT pQ 94).length=25+1:=cU
def eLg:lN pQ 94 26 200=true:=cU
abbrev LgS(w:Wt_)(sl:Vt_)(l:List Lg):Prop:=jo w 94 26 sl l.length (l.flatMap wX)
def Vd{W:Wt_}{x:Lg}{K:Value->World->Prop}(c:∀a,hC a W.heap.size (wX x).toArray 94->M0 W a->K (pt W.heap.size 0) a):
  rx pQ (nE 94) W λv b=>nj pQ (jH 94 v (.agg (wX x).toArray)) b λa=>K v a:=by
 apply xM 25 zLg nLg (kZ x) aw0 (FT x);exact c _ (by simp[go_sem]) lm
def ac0{l:List Lg}(h:Rd w 26 s l.length (l.flatMap wX)){x:Nat}(e:x<l.length):
  ∃p,(iX 146 s (gI (x:Int))).run pQ w=.ok p w/\(fH 94 p).run pQ w=.ok (.agg (wX l[x]).toArray) w:=by
 obtain⟨b,a,f,c,d,g⟩:=h.item kZ e rfl;exact⟨.pointer (some ⟨b,a+x*26,none⟩),by rw[c];simp[go_sem,e,cS,ae8],gm aLg nLg (kZ _) g⟩
structure Rt where
 scans:Int
 longs:Int
 shorts:Int
 rate:Int
def I7(r:Rt):List Value:=[.int .i64 r.scans,gI r.longs,gI r.shorts,gI r.rate]
def wB(r:Rt):(I7 r).length=4:=rfl
def S7:Rt:=⟨0,0,0,0⟩
def av3:lT pQ 193=(List.replicate 9 S7).flatMap I7:=cU
def ag9:se pQ 193=true:=cU
def EE{α:Type}{f:α->List Value}{S j:Nat}{v:Vt_}{c:α}(b:∀x,(f x).length=S)(d:j<S):∀(l:List α) (i:Nat) (hi:i<l.length),(f l[i]).set j v=f c->(l.flatMap f).set (i*S+j) v=(l.set i c).flatMap f
 |x::l,0,hi,a=>by
  simp only[iN]at a;rw[eu,nv,eU,gZ _ _ (by rw[b];omega),a];rfl
 |x::l,i+1,hi,a=>by
  have e:(i+1)*S+j=(f x).length+(i*S+j):=by grind
  rw[eu,e,gh _ _ qZ,jN,EE b d l i (by simpa using hi) (by simpa using a)];rfl
def vM{α:Type}{f:α->List Value}{S j:Nat}(b:∀x,(f x).length=S)(c:j<S)(l:List α)(i:Nat)(hi:i<l.length):(l.flatMap f)[i*S+j]? =(f l[i])[j]? :=by
 have d:=oB f S l i (λx _=>b x) hi;have a:(((l.flatMap f).drop (i*S)).take S)[j]? =(f l[i])[j]? :=by rw[d]
 rw[iE,bZ c,iY]at a;exact a
def D9(r:Rt)(x:Lg):Rt:=
 ⟨r.scans+oQ x.spec.shifts.toList x.q,r.longs+max x.q 0,r.shorts+max (-x.q) 0,if(r.longs=0/\r.shorts=0)\/x.spec.credit<r.rate then x.spec.credit else r.rate⟩
def pV(rs:List Rt)(x:Lg):List Rt:=if x.q=0 then rs else match rs[x.spec.route.toNat]? with|some r=>rs.set x.spec.route.toNat (D9 r x)|none=>rs
def A2(x:Lg):Bool:=x.spec.may&& amongB x.q (-10000000) 10000000
def Bv(rs:List Rt):Int:=(rs.map λr=>max 0 (r.scans - min r.longs r.shorts*r.rate)).sum
def CE:List Int->List Lg->Bool
 |_,[]=>false
 |seen,x::l=>seen.contains x.spec.num||CE (x.spec.num::seen) l
def ng(l:List Lg):Int×Int:=
 if 16<l.length then(0,3)else if l.all A2=false then(0,2)else if CE [] l=true then(0,8)else(Bv (l.foldl pV (List.replicate 9 S7)),0)
def Rt.Bd(k:Int)(r:Rt):Prop:=0<=r.scans/\r.scans<=k*100000000000000/\0<=r.longs/\r.longs<=k*10000000/\0<=r.shorts/\r.shorts<=k*10000000/\0<=r.rate/\r.rate<=10000000
def Er(i: -10000000<=q/\q<=10000000):∀{l:List Int},(∀x∈l,-10000000<=x/\x<=10000000)->0<=oQ l q/\oQ l q<=100000000000000:=by
 intro l
 have key:∀(l:List Int) (m:Int),(∀x∈l,-10000000<=x/\x<=10000000)->0<=m/\m<=100000000000000->0<=l.foldl (λm s=>max m (-q*s)) m/\l.foldl (λm s=>max m (-q*s)) m<=100000000000000:=by
  intro l;induction l with
  |nil=>intro m _ h;exact h
  |cons x l g=>
   intro m c j;rw[ig];have d:=E3 (a:= -q) (b:=x) (A:=10000000) (B:=10000000) qZ (c x (by simp));obtain⟨z,e⟩:=dW (-q*x);rw[<-e]at d|-;exact g _ (λy f=>c y (by simp[f])) qZ
 exact λh=>key l 0 h qZ
def A3{s:Sp}(h:s.may=true):(∀x∈s.shifts.toList,-10000000<=x/\x<=10000000)/\1<=s.route/\s.route<=8/\0<=s.credit/\s.credit<=10000000:=by
 unfold Sp.may at h;simp only[cL]at h;obtain⟨⟨⟨⟨⟨⟨⟨⟨⟨⟨d,l⟩,o⟩,m⟩,e⟩,i⟩,n⟩,k⟩,j⟩,c⟩,f⟩:=h;refine⟨λx g=>dR (dF.1 d x g),?_⟩;have a:=dR e;have b:=dR c;unfold MP at b;omega
def QY{k:Int}{r:Rt}{x:Lg}(h:r.Bd k)(j:0<=k)(a:A2 x=true):(D9 r x).Bd (k+1):=by
 unfold A2 at a;rw[cL]at a;obtain⟨c,i,d,f,e⟩:=A3 a.1;have b:=dR a.2;have p:=Er b c;obtain⟨m,g,s,l,o,t,n,q⟩:=h;unfold D9;refine⟨?_,?_,?_,?_,?_,?_,?_,?_⟩<;>dsimp only
 ·omega
 ·omega
 ·omega
 ·omega
 ·omega
 ·omega
 ·split<;>omega
 ·split<;>omega
end Go.Proofs
