/- Part of a proof. -/
import Derived.Lib.Overlaps
import Derived.Test.YtnfloameajanhaaGreatY3
set_option linter.all false
namespace Go.Proofs
open Go Go.Vc
variable {S:Led}{F:NP_}{l:Nat}{w:Wt_}{K:cG}
def FL{a:Ac}(h:lA w l F S)(hn:0<=a.num/\a.num<4294967296)
  (g:∀G,lA G l F (S.set a).2->de F w G->K (gI (S.set a).1) G):Ca pQ 96 #[iG l,oz a] w K:=by
 have Z:=h;obtain⟨⟨r,m2,A,B,M,o,R,J,h5,T,h7⟩,u⟩:=h;have U:=cB M;have Y:=o.lt;have V:=R.lt;apply aw3;simp[go_sem,oz];generalize q:World.alloc _ _=C;have d:M0 w C:=by subst q;exact(de.refl _ w).alloc _
 have c:hC C w.heap.size #[.int .u32 a.num,gI a.cash,.bool a.kil,.bool a.dfl] 70:=by subst q;simp[go_sem]
 have z:=d.keep M id;have L:=Z.mod d eQ;have mF:de F w C:=d.to;apply pU L;simp[go_sem];unfold Led.set at g;have X:amongB a.cash 0 1000000000000000=amongB a.cash 0 MF:=rfl;refine dK.at (λs W=>s=(.bool (decide (amongB a.cash 0 MF=false\/(a.num=0/\(a.kil=true\/a.dfl=true)))),())/\W=C) ?_ ?_
 ·simp[go_sem,fy c];apply uA;rw[X];cases n:amongB a.cash 0 MF
  ·simp[go_sem]
  ·simp[go_sem,fy c];by_cases f:a.num=0
   ·grind
   ·simp[f]
 rintro _ W ⟨rfl,rfl⟩;unfold Wn;intro _;by_cases n:amongB a.cash 0 MF=false\/(a.num=0/\(a.kil=true\/a.dfl=true))
 ·rw[bZ n]at g;simp only[db n,cy,fh];exact g _ L mF
 ·rw[aZ n]at g;simp only[ej n,cy,dE,eW];have j:0<=a.cash/\a.cash<=MF:=amongB_iff.1 (by grind);have k:∀i,M0 W i->fB iI oz i r A:=λi m=>(o.mod d id).mod m id;simp[go_sem,iG,fy z,fy c];apply NQ (enc:=iI) (ev:=oz) (x:=a.num) (oz ⟨0,0,false,false⟩) vh rP Ze (.inr ⟨r,rfl,k _ mP⟩);rw[vX,lA.lkA o J];generalize H:(S.getO a.num).getD ⟨0,0,false,false⟩=x;have hsz:=cB c;have y:w.heap.size≠W.heap.size:=qZ;have t:l≠W.heap.size:=qZ;simp[go_sem,oz,fy c,fy z,y,t]
  have hl:∀i,M0 W i->(ji 130 (.map (some r)) (gU a.num) true).run pQ i=.ok (.tuple #[oz x,.bool (S.getO a.num).isSome]) i:=λi m=>by
   have:=Ey (P:=pQ) (enc:=iI) (ev:=oz) (x:=a.num) vh rP Ze (.inr ⟨r,rfl,k _ m⟩);rw[vX,lA.lkA o J,H]at this;exact this
  refine⟨hl _ (lm.drew),?_⟩;generalize I:(World.alloc _ _).drew=O;have E:M0 W O:=by subst I;exact lm.drew
  have e:=d.trans E;by_cases D:S.getO a.num=none
  ·rw[bZ D]at g|-;exact g _ (L.mod E eQ) (e.to)
  ·rw[aZ D]at g|-;refine kV (enc:=iI) (ev:=oz) (x:=a.num) (v:=a) vh rP (k _ (E.drew)) λN hA m4 hs4=>?_;have p:de (λb=>b=r) O N:=mP.trans m4;refine g N (lA.putA (a:=a) (e.keep M id) (o.mod e id) (R.mod e id) J h5 T h7 u ?_ ?_ hA p) ?_
   ·intro Q;have hk:¬(a.kil=true\/a.dfl=true):=λh=>n (.inr ⟨Q,h⟩);obtain⟨num,cash,kil,dfl⟩:=a;simp only[fundAc,Ac.mk.injEq,tJ]at*;refine⟨Q,?_,?_⟩
    ·grind
    ·grind
   ·apply u.putA hn j;by_cases f:a.num=0
    ·exact .inr (.inr f)
    ·rw[vR f]at D;exact .inl D
   ·exact(e.to).on p λb H=>.inl ((T b).2 (.inr (.inl H)))
def Ao{n:Int}(h:S.find n≠none):∃a∈S.all,a.num=n:=by
 obtain⟨x,b⟩:=Option.ne_none_iff_exists'.1 h;exact⟨x,Led.find_mem b⟩
def ag3:lN pQ 79 4 24=true:=cU
def IF{c b s p n:Int}(h:lA w l F S)(hc:0<=c/\c<4294967296)
  (u:∀w',lA w' l F (S.trade c b s p n).2->de F w w' ->K (gI (S.trade c b s p n).1) w'):Ca pQ 175 #[iG l,gU c,gU b,gU s,gI p,gI n] w K:=by
 have h0:=h;obtain⟨⟨m1,m2,A,B,r,h2,h3,h4,h5,h6,h7⟩,G⟩:=h;have hlt:=cB r;apply aq8;apply pU h0;simp[go_sem];unfold Led.trade at u;have hMp:∀x:Int,amongB x 1 10000000=amongB x 1 MP:=λ_=>rfl;generalize J:(decide (c=0\/b=0\/s=0\/b=s\/amongB p 1 MP=false\/amongB n 1 MP=false))=cd;refine dK.at (λst W=>st=(.bool cd,())/\W=w) ?_ ?_
 ·subst J;by_cases L:c=0
  ·simp[L]
  ·by_cases M:b=0
   ·simp[L,M]
   ·by_cases e3:s=0
    ·simp[L,M,e3]
    ·by_cases e4:b=s
     ·simp[L,M,e3,e4]
     ·simp[L,M,e3,e4];apply uA;rw[hMp];cases amongB p 1 MP
      ·simp[go_sem]
      ·simp[go_sem];apply uA;rw[hMp];simp[go_sem]
 rintro _ w ⟨rfl,rfl⟩;unfold Qh;intro _;cases cd with
 |true=>
  rw[bZ (dR J)]at u;simp;exact u _ h0 lX
 |false=>
  have k:=of_decide_eq_false J;rw[aZ k]at u
  have hl:∀(x:Int) f,M0 w f->(ji 130 (.map (some m1)) (gU x) true).run pQ f=.ok (.tuple #[oz ((S.getO x).getD ⟨0,0,false,false⟩),.bool (S.getO x).isSome]) f:=λx f m=>by
   have:=Ey (P:=pQ) (enc:=iI) (ev:=oz) (x:=x) vh rP Ze (.inr ⟨m1,rfl,h2.mod m id⟩);rw[vX,lA.lkA h2 h4]at this;exact this
  simp[go_sem,iG,fy r];apply iW (hl b _ lX);simp[go_sem,oz,fy r,Yi hlt];generalize hw1:World.alloc _ _=w1;have m1' :M0 w w1:=by subst hw1;exact(de.refl _ w).alloc _
  apply iW (hl s _ m1');simp[go_sem,oz];generalize hw2:World.alloc _ _=w2;have H:M0 w w2:=by subst hw2;exact m1'.alloc _
  have q2:=h0.mod H eQ
  obtain⟨L,M,e3,e4,e5,e6⟩:c≠0/\b≠0/\s≠0/\b≠s/\amongB p 1 MP=true/\amongB n 1 MP=true:=by
   refine⟨λe=>k (.inl e),λe=>k (.inr (.inl e)),λe=>k (.inr (.inr (.inl e))),λe=>k (.inr (.inr (.inr (.inl e)))),?_,?_⟩
   ·grind
   ·grind
  rw[vR M,vR e3];refine dK.at (λst W=>st=(.bool (decide (S.find b=none\/S.find s=none)),())/\W=w2) ?_ ?_
  ·cases S.find b<;>cases S.find s<;>simp
  rintro _ w2 ⟨rfl,rfl⟩;unfold PR;intro _;by_cases g:S.find b=none\/S.find s=none
  ·rw[bZ g]at u;simp only[db g,cy,fh];exact u _ q2 (H.to)
  ·rw[aZ g]at u;simp only[ej g,cy,dE,eW];have O:S.find b≠none/\S.find s≠none:=⟨λh=>g (.inl h),λh=>g (.inr h)⟩
   refine rK q2 λw3 m3=>?_;have q3:=q2.mod m3 eQ;refine rK q3 λw4 m4=>?_;have q4:=q3.mod m4 eQ;have m14:=(H.trans m3).trans m4;obtain⟨x1,x2,x3,x4,x5,x6⟩:=G.position c b;obtain⟨y1,y2,y3,y4,y5,y6⟩:=G.position c s;generalize S.position c b=x at*;generalize S.position c s=y at*;simp only at u;obtain⟨p1,p2⟩:=amongB_iff.1 e5;obtain⟨n1,n2⟩:=amongB_iff.1 e6;have hpn:=mul_bd (x:=p) (y:=n) (m:=MP) (n:=MP) ⟨by grind,p2⟩ ⟨qZ,n2⟩;have hpn0:0<=p*n:=lU qZ qZ;generalize hpnv:p*n=j at*;simp only[MP,MF]at x3 x4 x5 x6 y3 y4 y5 y6 p2 n2 hpn;have wr1:IntKind.i64.wrap (x.q+n)=x.q+n:=by rw[eF];omega
   have wr2:IntKind.i64.wrap j=j:=by rw[eF];omega
   have wr3:IntKind.i64.wrap (x.b+j)=x.b+j:=by rw[eF];omega
   have wr4:IntKind.i64.wrap (y.q - n)=y.q - n:=by rw[eF];omega
   have wr5:IntKind.i64.wrap (y.b - j)=y.b - j:=by rw[eF];omega
   simp[go_sem,tn,hpnv,wr1,wr2,wr3,wr4,wr5,x1,x2,y1,y2];let X:Po:=⟨c,b,x.q+n,x.b+j⟩
   let Y:Po:=⟨c,s,y.q - n,y.b - j⟩
   generalize I:World.alloc _ _=N;have m5:M0 w4 N:=by subst I;exact lm.alloc _
   have hX:hC N w4.heap.size #[.int .u32 c,gU b,gI (x.q+n),gI (x.b+j)] 79:=by subst I;simp[go_sem]
   have hY:hC N (w4.heap.size+1) #[.int .u32 c,gU s,gI (y.q - n),gI (y.b - j)] 79:=by subst I;simp[go_sem]
   refine oJ (e:=79) (sz:=4) [tn X,tn Y] cU (eO ag3) rfl rfl (by simp[tn,Value.cells]) (by decide) ?_;generalize T:World.alloc _ _=w6;have m6:M0 N w6:=by subst T;exact(de.refl _ N).alloc _
   have hQ:hC w6 N.heap.size #[.int .u32 c,gU b,gI (x.q+n),gI (x.b+j),gU c,gU s,gI (y.q - n),gI (y.b - j)] 79:=by
    subst T;simp[go_sem,tn,Value.cells,X,Y]
   have q6:=(q4.mod m5 eQ).mod m6 eQ;have Q:=(m14.trans m5).trans m6;have hX6:=m6.keep hX id;have hY6:=m6.keep hY id;simp[go_sem];have hMF:∀z:Int,amongB z (-1000000000000000) 1000000000000000=amongB z (-MF) MF:=λ_=>rfl;have hMP:∀z:Int,amongB z (-10000000) 10000000=amongB z (-MP) MP:=λ_=>rfl;let a:Po->Bool:=λz=>amongB z.q (-MP) MP&& amongB z.b (-MF) MF
   refine Bt (λst W=>∃(v:Vt_) (i:Nat),i<=2/\st=(v,gI i,())/\M0 w6 W/\(0<i->a X=true)/\(1<i->a Y=true))
    (λst _=>match st.2.1 with| .int _ i=>2 - i.toNat|_=>0) ⟨_,0,qZ,rfl,lX,qZ,qZ⟩ ?_
   rintro⟨sv,_⟩ W ⟨v,i,hi,⟨⟩,D,hi0,hi1⟩ KN V;unfold RP;intro _;have hQW:=D.keep hQ id;have qW:=q6.mod D eQ
   have step:∀(Z:Po) (f:Wt_),(a Z=false->K (gI 6) f)->(a Z=true->KN (sv,gI ((i:Int)+1),()) f)->Ju K (sv,gI (i:Int),()) KN (.bool (!a Z),()) f:=by
    intro Z f g hyes;unfold Ju;intro _;cases t:a Z
    ·simp;exact g t
    ·have hw:IntKind.i64.wrap ((i:Int)+1)=(i:Int)+1:=by rw[eF];omega
     simp[go_sem,hw];exact hyes t
   have R:a X=true↔¬(MP<X.q\/MF<X.b):=by
    simp only[a,cL,amongB_iff,MP,MF,X];omega
   have U:a Y=true↔¬(Y.q< -MP\/Y.b< -MF):=by
    simp only[a,cL,amongB_iff,MP,MF,Y];omega
   have mA:∀o,de F w (W.alloc o):=λo=>((Q.trans D).alloc o).to
   have E:(MP<X.q\/Y.q< -MP\/MF<X.b\/Y.b< -MF)->∀f,lA f l F S->de F w f->K (gI 6) f:=by
    intro h f hq' hm';have q:=u f;rw[bZ h]at q;exact q hq' hm'
   rcases(show i=0\/i=1\/i=2 by omega)with rfl|rfl|rfl
   ·simp[go_sem,fy hQW];refine dK.at (λst f=>st=(.bool (!a X),())/\f=W.alloc (.cells (ec X).toArray 79)) ?_ ?_
    ·simp[go_sem];apply lH ⟨by grind,by grind⟩ qZ;rw[hMP];cases r:amongB X.q (-MP) MP
     ·have d:=r;simp only[X]at d;simp[go_sem,d,a,r,ec,X]
     ·have d:=r;simp only[X]at d;simp[go_sem,d];apply lH ⟨by grind,by grind⟩ qZ;rw[hMF];simp[go_sem,a,d,ec,X]
    rintro _ f ⟨rfl,rfl⟩;refine step X _ (λt=>?_) (λt=>?_)
    ·refine E ?_ _ (qW.mod lm eQ) (mA _);have:¬a X=true:=by rw[t];simp
     rw[R]at this;omega
    ·exact V _ _ ⟨sv,1,qZ,rfl,D.alloc _,λ_=>t,qZ⟩ (by simp)
   ·simp[go_sem,fy hQW];refine dK.at (λst f=>st=(.bool (!a Y),())/\f=W.alloc (.cells (ec Y).toArray 79)) ?_ ?_
    ·simp[go_sem];apply lH ⟨by grind,by grind⟩ qZ;rw[hMP];cases r:amongB Y.q (-MP) MP
     ·have d:=r;simp only[Y]at d;simp[go_sem,d,a,r,ec,Y]
     ·have d:=r;simp only[Y]at d;simp[go_sem,d];apply lH ⟨by grind,by grind⟩ qZ;rw[hMF];simp[go_sem,a,d,ec,Y]
    rintro _ f ⟨rfl,rfl⟩;refine step Y _ (λt=>?_) (λt=>?_)
    ·refine E ?_ _ (qW.mod lm eQ) (mA _);have:¬a Y=true:=by rw[t];simp
     rw[U]at this;omega
    ·exact V _ _ ⟨sv,2,qZ,rfl,D.alloc _,λ_=>hi0 qZ,λ_=>t⟩ (by simp)
   ·have g1:=R.1 (hi0 qZ);have g2:=U.1 (hi1 qZ);have C:¬(MP<X.q\/Y.q< -MP\/MF<X.b\/Y.b< -MF):=qZ;have q:=λf=>u f;simp only[X,Y]at C;simp only[aZ C]at q;have hXW:=D.keep hX6 id;have hYW:=D.keep hY6 id;simp[go_sem,fy hXW];have okX:(S.putP X).Ok:=G.putP ⟨by grind,hc.2⟩ ⟨by simp only[X,MP];omega,by grind⟩ ⟨by simp only[X,MF];omega,by simp only[X,MF]at g1|-;omega⟩ (Ao O.1);have okY:((S.putP X).putP Y).Ok:=okX.putP ⟨by grind,hc.2⟩ ⟨by grind,by simp only[Y,MP];omega⟩ ⟨by grind,by simp only[Y,MF];omega⟩ (Ao (S:=S) O.2);refine Kh (p:=X) qW okX λw7 q7 m7=>?_;have hne:¬F (w4.heap.size+1):=λh=>by have:=h0.lt h;have:=m14.size;omega
    have hY7:=m7.keep hYW hne;simp[go_sem,fy hY7];refine Kh (p:=Y) q7 okY λw8 q8 m8=>?_;exact q w8 q8 ((((Q.trans D).to).trans m7).trans m8)
section
variable{κ ν:Type} [DecidableEq κ]
def JH{A B:List (κ×ν)}(c:(A.map (·.1)).Nodup)(b:(B.map (·.1)).Nodup)(h:∀k,lk A k=lk B k):A.Perm B:=by
 have nd:∀L:List (κ×ν),(L.map (·.1)).Nodup->L.Nodup:=λL d=>by
  rw[List.Nodup,fD]at d;exact d.imp λa e=>a (by rw[e])
 refine(List.perm_ext_iff_of_nodup (nd A c) (nd B b)).2 λ⟨k,v⟩=>?_;rw[<-lk_iff c,<-lk_iff b,h]
def H5{R:List (κ×ν)}(b:(R.map (·.1)).Nodup){i:Nat}{p:κ×ν}(h:R[i]? =some p):((R.eraseIdx i).map (·.1)).Nodup/\lk R p.1=some p.2/\lk (R.eraseIdx i) p.1=none/\∀k,k≠p.1->lk (R.eraseIdx i) k=lk R k:=by
 have hp:=oY h;have a:((p::R.eraseIdx i).map (·.1)).Nodup:=(hp.map _).nodup_iff.1 b;simp only[cM,dA]at a;refine⟨a.2,by rw[lk_perm b hp];simp[lk],rR a.1,λk c=>?_⟩;rw[lk_perm b hp];simp[lk,kG c]
def wm(A R C:List (κ×ν)):Prop:=(R.map (·.1)).Nodup/\∀k,(lk R k).or (lk C k)=lk A k
def wm.step{A R C:List (κ×ν)}(h:wm A R C){i:Nat}{p:κ×ν}(hi:R[i]? =some p):wm A (R.eraseIdx i) (put C p.1 p.2):=by
 obtain⟨b,c⟩:=h;obtain⟨a,d,g,f⟩:=H5 b hi;refine⟨a,λk=>?_⟩;rw[sn];by_cases e:k=p.1
 ·grind
 ·grind
def wm.done{A C:List (κ×ν)}(h:wm A [] C)(a:(A.map (·.1)).Nodup)(hC:(C.map (·.1)).Nodup):C.Perm A:=
 JH hC a λk=>by have:=h.2 k;simpa [lk]using this
end
def Led.empty:Led:=⟨0,[],[]⟩
def Led.empty_ok:Led.empty.Ok where
 fund:=by simp[Led.empty,MF]
 sa:=List.Pairwise.nil
 sp:=List.Pairwise.nil
 len:=by simp[Led.empty]
 acc:=by simp[Led.empty]
 pos:=by simp[Led.empty]
def OL(j:∀d l F,lA d l F Led.empty->M0 w d->(∀b,F b->w.heap.size<=b)->K (iG l) d):Ca pQ 50 #[] w K:=by
 apply az0;simp[go_sem];have o:=fB.new (enc:=iI) (ev:=oz) w;refine kV (enc:=iI) (ev:=oz) (x:=0) (v:=⟨0,0,false,false⟩) vh rP o λa k h e=>?_;have n:M0 w a:=lm.on h λb i=>gz;have m:a.heap.size=w.heap.size+1:=by rw[e,eG]
 (try simp[go_sem])
 generalize c:(a.alloc (.map #[] 0)).alloc _=g;have f:M0 a g:=by subst c;exact lm.alloc _
 refine j g (a.heap.size+1) (λb=>b=a.heap.size+1\/b=w.heap.size\/b=a.heap.size) ⟨⟨w.heap.size,a.heap.size,_,[],?_,k.mod f id,?_,?_,fw _,λ_=>fd,qZ,qZ,qZ⟩,Led.empty_ok⟩ (n.trans f) λb i=>by omega
 ·subst c;simp[go_sem,m]
 ·subst c;exact(fB.new (enc:=l9) (ev:=tn) a).mod ((de.refl (λ_=>False) _).alloc _) id
 ·exact fw _
def rV(h:lA w l F S)(hK:∀q e F',lA q e F' S->M0 w q->(∀b,F' b->w.heap.size<=b)->K (iG e) q):Ca pQ 46 #[iG l] w K:=by
 have h0:=h;obtain⟨⟨m1,m2,A,B,h1,U,Z,h4,h5,h6,h7⟩,hok⟩:=h;apply aE5;apply pU h0;simp[go_sem];refine OL λw1 e F' q1 n1 f1=>?_;obtain⟨⟨k1,k2,A',B',c1,c2,c3,c4,c5,c6,c7⟩,-⟩:=q1;have hk1:w.heap.size<=k1:=f1 k1 ((c6 k1).2 (.inr (.inl rfl)));have hk2:w.heap.size<=k2:=f1 k2 ((c6 k2).2 (.inr (.inr rfl)));have hl' :w.heap.size<=e:=f1 e ((c6 e).2 (.inl rfl));have e1:=n1.keep h1 id;have hlm1:=U.lt;have hlm2:=Z.lt;simp[go_sem,iG,fy e1];refine sw vh (U.mod n1 id) λw2 T n2=>?_;generalize hg:w1.heap.size=N at T;have hitl:=cB c1;have hc2l:=c2.lt;have hc3l:=c3.lt
 refine Bt (λs W=>∃(R C:List (Int×Ac)),s=()/\nD iI oz W N m1 R/\fB iI oz W k1 C/\wm A R C/\de (λb=>b=N\/b=k1) w1 W)
  (λs W=>rm N m1 W) ⟨A,A',rfl,T,c2.mod n2 id,⟨U.1,λk=>?_⟩,n2.to⟩ ?_
 ·have hA' :∀k,lk A' k=Led.empty.getO k:=λk=>lA.lkA c2 c4 k;rw[hA' k,lA.lkA U h4];unfold Led.getO;by_cases M:k=0
  ·simp[M]
  ·simp only[aZ M];cases S.find k<;>simp[Led.find,Led.empty]
 rintro _ W ⟨R,C,rfl,E,cW,Q,mW⟩ KN hKN;unfold WO;intro _;refine uv E ?_ ?_
 ·intro M q J hh;subst M;have j:de (λb=>b=N\/b=k1) w1 q:=mW.trans (J.to);have e1' :=j.keep e1 (by have:=cB h1;omega);simp[go_sem,fy e1'];have mF:M0 w q:=n1.on j λb a=>.inr (by grind);refine sw DZ (Z.mod mF id) λw4 X n4=>?_;generalize hg4:q.heap.size=o at X;have cA:=((Q.done U.1 cW.1).trans h4)
  have cW4:=(cW.mod J id).mod n4 id
  have hjt:N<o/\k1<o/\k2<o/\e<o:=by
   have:=j.size;have:=E.lt.2;have:=J.size;omega
  have m:hC w4 e #[.map (some k1),.map (some k2)] 133:=n4.keep (j.keep c1 qZ) id
  refine Bt (λs W=>∃(R C:List ((Int×Int)×Po)),s=()/\nD l9 tn W o m2 R/\fB l9 tn W k2 C/\wm B R C/\de (λb=>b=o\/b=k2) w4 W)
   (λs W=>rm o m2 W) ⟨B,B',rfl,X,(c3.mod j qZ).mod n4 id,⟨Z.1,λk=>?_⟩,lX⟩ ?_
  ·have hB' :∀k,lk B' k=Led.empty.pos? k:=λk=>lA.lkP c3 c5 k;rw[hB' k];cases lk B k<;>simp[Led.pos?,Led.empty]
  rintro _ W5 ⟨R5,C5,rfl,u,H,t,I⟩ KN5 P;unfold Vm;intro _;refine uv u ?_ ?_
  ·intro M d c hh'';subst M;simp[go_sem];have g:de (λb=>b=o\/b=k2) w4 d:=I.trans (c.to);refine hK d e F' ⟨⟨k1,k2,C,C5,g.keep m qZ,cW4.mod g qZ,H.mod c id,cA,(t.done Z.1 H.1).trans h5,c6,c7⟩,hok⟩ (mF.on ((n4.to (G:=λb=>b=o\/b=k2)).trans g) λb a=>.inr (by grind)) f1
  ·intro i p V d L f c hsz;simp[go_sem];apply sg f;have r:=(I.on c λb a=>.inl (.inl a)).keep m (by grind);have hlt:=cB r;have y:e≠d.heap.size:=qZ;have Y:e≠d.heap.size+1:=qZ;simp[go_sem,tn,l9,iG,fy r,y,Y];generalize z:World.drew _=w6;have D:M0 d w6:=by subst z;exact(lm.alloc _).drew
   refine kV (enc:=l9) (ev:=tn) (x:=p.1) (v:=p.2) DZ SM ((H.mod c (by grind)).mod D id) λw7 hA O hs7=>?_;have n:nD l9 tn w7 o m2 (R5.eraseIdx i):=(L.mod D id id).mod O qZ qZ;apply P _ _ ⟨_,_,rfl,n,hA,t.step V,((I.on c λb a=>.inl (.inl a)).on D λ_ h=>h.elim).on O λb a=>.inl (.inr a)⟩;rw[n.left,u.left,kP];have:i<R5.length:=(cP.1 V).1;rw[bZ this];omega
 ·intro i p V q L f J hsz;simp[go_sem];apply sg f;have m:=(mW.on J λb a=>.inl (.inl a)).keep c1 (by grind);have hlt:=cB m;have y:e≠q.heap.size:=qZ;simp[go_sem,oz,iI,iG,fy m,y];generalize z:World.drew _=w6;have D:M0 q w6:=by subst z;exact lm.drew
  refine kV (enc:=iI) (ev:=oz) (x:=p.1) (v:=p.2) vh rP ((cW.mod J (by grind)).mod D id) λw7 hA O hs7=>?_;have n:nD iI oz w7 N m1 (R.eraseIdx i):=(L.mod D id id).mod O qZ qZ;apply hKN _ _ ⟨_,_,rfl,n,hA,Q.step V,((mW.on J λb a=>.inl (.inl a)).on D λ_ h=>h.elim).on O λb a=>.inl (.inr a)⟩;rw[n.left,E.left,kP];have:i<R.length:=(cP.1 V).1;rw[bZ this];omega
end Go.Proofs
set_option maxRecDepth 100000
namespace Go.Proofs
open Go Go.Vc
section
variable{a b c:Vt_}{W:Wt_}{Z:cG}
def ON(a:cG)(b:Vt_)(c:T1)(d:Wt_):=NV->cV c.1 (a (gT (gI 0) (gI 6)) d) (a (gT b (gI 0)) d)
def aq7(D:gb .sub 2 false a b W λc d=>jW (λe=>gb .geq 2 true a (gI 0) d λf g=>cV f (gb .lss 2 true b (gI 0) g λh i=>cV h (gb .lss 2 true c (gI 0) i λj k=>cV j (e (bT,()) k) (gb .lss 2 true a (gI 0) k λl m=>cV l (gb .geq 2 true b (gI 0) m λn o=>cV n (gb .geq 2 true c (gI 0) o λp q=>e (p,()) q) (e (bF,()) o)) (e (bF,()) m))) (gb .lss 2 true a (gI 0) i λr s=>cV r (gb .geq 2 true b (gI 0) s λt u=>cV t (gb .geq 2 true c (gI 0) u λv w=>e (v,()) w) (e (bF,()) u)) (e (bF,()) s))) (gb .lss 2 true a (gI 0) g λx y=>cV x (gb .geq 2 true b (gI 0) y λz A=>cV z (gb .geq 2 true c (gI 0) A λB C=>e (B,()) C) (e (bF,()) A)) (e (bF,()) y))) (ON Z c)):Ca pQ 246 #[a,b] W Z:=cj Tryz.func246 D
def Rl(a b:Vt_)(c:cG)(d:T3)(e:Wt_)(f:T3->Wp):=gc d.2.2.1 a e λg h=>cV g (uB 306 b d.2.2.1 2 h λi j=>gr (convert 2 24 i) j λk l=>rnx pQ 235 [d.1,k,(gQ 0)] l λm n=>nR m n λo p q=>gb .shr 2 true i (gQ 63) q λr s=>gr (convert 24 2 p) s λt u=>gb .add 2 false r t u λv w=>gb .add 2 false d.2.1 v w λx y=>g1 d.2.2.1 y λz A=>f (o,x,z,()) A) (gr (convert 24 2 d.1) h λB C=>gb .shr 2 true B (gQ 63) C λD E=>gb .neq 2 false d.2.1 D E λF G=>cV F (c (gT (gI 0) (gI 6)) G) (gr (convert 24 2 d.1) G λH I=>c (gT H (gI 0)) I))
def ap5(h:gn 306 false a W λb c=>qC (Rl b a Z) ((gQ 0),(gI 0),(gI 0),()) c):Ca pQ 196 #[a] W Z:=cj Tryz.func196 h
def Pc(a b c:Vt_)(d:cG)(e:T1)(f:Wt_)(g:T1->Wp):=gc e.1 a f λh i=>cV h (uB 307 b e.1 3 i λj k=>uB 306 c j 2 k λl m=>gb .add 2 true l (gI 1) m λn o=>gi 306 c j o λp q=>gs 2 p n q λr=>g1 e.1 r λs t=>g (s,()) t) (d (gT c (gI 0)) i)
def OI(a b c d e f g:Vt_)(h:cG)(i:T2)(j:Wt_)(k:T2->Wp):=gc i.2.1 a j λl m=>cV l (uB 306 b i.2.1 2 m λn o=>gr (convert 2 24 c) o λp q=>gr (convert 2 24 n) q λr s=>Ca pQ 240 #[p,r] s λt u=>nR t u λv w x=>gr (convert 2 24 d) x λy z=>Ca pQ 241 #[v,w,y] z λA B=>nR A B λC D E=>eP 49 e E.drew λF=>gw (convert 24 2 C) E.drew λG=>mf 306 f i.2.1 λH=>gs 2 H G E.drew λI=>gk 49 e F I/\(mf 49 F i.2.1 λJ=>gs 24 J D I λK=>mf 307 g i.2.1 λL=>gs 3 L i.2.1 K λM=>gb .sub 24 false i.1 C M λN O=>g1 i.2.1 O λP Q=>k (N,P,()) Q)) (Ca pQ 242 #[g,(.func (.func 243) #[] #[e])] m λR S=>gr (Instr.sliceAt 307 g none (some i.1) none) S λT U=>gn 307 false T U λV X=>qA (Pc V T f h) ((gI 0),()) X)
def Sb(a:cG)(b c:Vt_)(d:T1)(e:Wt_):=NV->cV d.1 (a (gT (.slice none 0 0) (gI 2)) e) (Ca pQ 196 #[b] e λf g=>nR f g λh i j=>gE i j λk l=>cV k (a (gT (.slice none 0 0) i) l) (gn 306 false b l λm n=>gx (Ak 306 m m) n λo p=>gb .eql 2 true c (gI 0) p λq r=>cV q (a (gT o (gI 0)) r) (gb .eql 2 true h (gI 0) r λs t=>cV s (a (gT (.slice none 0 0) (gI 10)) t) (gn 306 false b t λu v=>gx (Ak 49 u u) v λw x=>gv 49 w x λy z=>gr (convert 2 24 c) z λA B=>gn 306 false b B λC D=>gx (Ak 307 C C) D λE F=>gn 306 false b F λG H=>qB (OI G b c h y o E a) (A,(gI 0),()) H))))
def ac9(l:gn 306 false b W λc d=>gb .gtr 3 true c (gI 1000) d λe f=>cV e (Z (gT (.slice none 0 0) (gI 3)) f) (jW (λg=>gb .lss 2 true a (gI 0) f λh i=>cV h (g (bT,()) i) (Ca pQ 238 #[b,(.func (.func 239) #[] #[])] i λj k=>g (j,()) k)) (Sb Z b a))):Ca pQ 200 #[a,b] W Z:=cj Tryz.func200 l
def ah7(h:gb .lss 2 true a (gI 0) W Z):Ca pQ 239 #[a] W Z:=cj Tryz.func239 h
def as1(r:eP 49 c W.drew λd=>mf 49 d a λe=>eP 24 e W.drew λf=>eP 49 c W.drew λg=>mf 49 g b λh=>eP 24 h W.drew λi=>my .gtr 24 false f i λj=>cV j (Z (gI (-1)) W.drew) (eP 49 c W.drew.drew λk=>mf 49 k a λl=>eP 24 l W.drew.drew λm=>eP 49 c W.drew.drew λn=>mf 49 n b λo=>eP 24 o W.drew.drew λp=>my .lss 24 false m p λq=>cV q (Z (gI 1) W.drew.drew) (Z (gI 0) W.drew.drew))):Ca pQ 243 #[a,b,c] W Z:=cj Tryz.func243 r
def Z9(h:gb .geq 2 false a b W λd e=>cV d (gb .leq 2 false a c e Z) (Z bF e)):Ca pQ 119 #[a,b,c] W Z:=cj Tryz.func119 h
def ap1(h:Ca pQ 119 #[b,(gI 1),(gI 10000000)] W λc d=>cV c (gb .rem 2 false b a d λe f=>gb .eql 2 true e (gI 0) f Z) (Z bF d)):Ca pQ 120 #[a,b] W Z:=cj Tryz.func120 h
def Vu(a:Vt_)(b:cG)(c:Vt_)(d:T4)(e:Wt_)(f:T4->Wp):=NV->gb .lss 3 true d.2.2.2.1 (gI 16) e λg h=>cV g (gr (Instr.index 25 a d.2.2.2.1) h λi j=>Ca pQ 108 #[i,(gI 10000000)] j λk l=>gt k l λm n=>cV m (b bF n) (cV d.2.1 (cV d.2.2.1 (g1 d.2.2.2.1 n λo p=>f (d.1,bT,bT,o,()) p) (gb .lss 2 true i (gI 0) n λq r=>g1 d.2.2.2.1 r λs t=>f (d.1,bT,q,s,()) t)) (gb .gtr 2 true i (gI 0) n λu v=>cV d.2.2.1 (g1 d.2.2.2.1 v λw x=>f (d.1,u,bT,w,()) x) (gb .lss 2 true i (gI 0) v λy z=>g1 d.2.2.2.1 z λA B=>f (d.1,u,y,A,()) B)))) (cV d.2.1 (cV d.2.2.1 (dz 27 c 0 23 h λC D=>gb .neq 23 true C (gU 0) D λE F=>cV E (dz 27 c 1 5 F λG H=>gr (convert 5 2 G) H λI J=>Ca pQ 119 #[I,(gI 1),(gI 8)] J λK L=>cV K (dz 27 c 2 2 L λM N=>Ca pQ 119 #[M,(gI 1),(gI 10000000)] N λO P=>cV O (dz 27 c 3 2 P λQ R=>Ca pQ 119 #[Q,(gI 1),(gI 1000000)] R λS T=>cV S (dz 27 c 4 2 T λU V=>Ca pQ 119 #[U,(gI 0),(gI 10000000)] V λX Y=>cV X (dz 27 c 5 2 Y λaa ab=>Ca pQ 119 #[aa,(gI 1),(gI 10000000)] ab λac ad=>cV ac (dz 27 c 7 2 ad λae af=>Ca pQ 119 #[ae,(gI 0),(gI 10000000)] af λag ah=>cV ag (dz 27 c 2 2 ah λai aj=>dz 27 c 9 2 aj λak al=>Ca pQ 120 #[ai,ak] al b) (b bF ah)) (b bF ad)) (b bF Y)) (b bF T)) (b bF P)) (b bF L)) (b bF F)) (b bF h)) (b bF h))
def aA1(h:gq 27 a W λb c=>gf 27 b 6 c λd e=>gx (fH 25 d) e λf g=>qD (Vu f Z b) (bF,bF,bF,(gI 0),()) g):Ca pQ 81 #[a] W Z:=cj Tryz.func81 h
def ai4(k:gq 27 a W λc d=>gx (fH 27 c) d λe f=>Ca pQ 81 #[e] f λg h=>cV g (dz 27 c 2 2 h λi j=>Ca pQ 120 #[i,b] j Z) (Z bF h)):Ca pQ 109 #[a,b] W Z:=cj Tryz.func109 k
def ao1(o:gq 27 a W λc d=>gx (fH 27 c) d λe f=>Ca pQ 81 #[e] f λg h=>cV g (Ca pQ 119 #[b,(gI 1),(gI 1000000)] h λi j=>cV i (dz 27 c 3 2 j λk l=>gb .rem 2 false b k l λm n=>gb .eql 2 true m (gI 0) n Z) (Z bF j)) (Z bF h)):Ca pQ 208 #[a,b] W Z:=cj Tryz.func208 o
def ZA(s:gq 27 a W λd e=>Ca pQ 246 #[c,b] e λf g=>nR f g λh i j=>gx (fH 27 d) j λk l=>Ca pQ 81 #[k] l λm n=>cV m (gb .eql 43 true i (gI 0) n λo p=>cV o (dz 27 d 4 2 p λq r=>Ca pQ 108 #[h,q] r Z) (Z bF p)) (Z bF n)):Ca pQ 209 #[a,b,c] W Z:=cj Tryz.func209 s
def ab2(h:gb .geq 2 true a (gI 0) W λb c=>cV b (gb .leq 2 true a (gI 1000000000) c Z) (Z bF c)):Ca pQ 207 #[a] W Z:=cj Tryz.func207 h
def ah1(N:gq 272 a W λb c=>dz 272 b 5 4 c λd e=>cV d (dz 272 b 2 2 e λf g=>dz 272 b 3 2 g λh i=>gb .add 2 false f h i λj k=>dz 272 b 7 2 k λl m=>gb .add 2 false j l m λn o=>gf 272 b 0 o λp q=>gf 83 p 0 q λr s=>dz 27 r 5 2 s λt u=>gb .gtr 2 false n t u Z) (dz 272 b 2 2 e λv w=>dz 272 b 4 2 w λx y=>gb .sub 2 false v x y λz A=>dz 272 b 7 2 A λB C=>gb .sub 2 false z B C λD E=>gf 272 b 0 E λF G=>gf 83 F 0 G λH I=>dz 27 H 5 2 I λJ K=>gr (Op.unary .neg J) K λL M=>gb .lss 2 false D L M Z)):Ca pQ 210 #[a] W Z:=cj Tryz.func210 N
def P1(a:cG)(b c:Vt_)(d:T1)(e:Wt_):=NV->cV d.1 (a (gI 2) e) (gx (fH 27 b) e λf g=>dz 272 c 7 2 g λh i=>Ca pQ 208 #[f,h] i λj k=>gt j k λl m=>cV l (a (gI 123) m) (gx (fH 27 b) m λn o=>dz 272 c 6 2 o λp q=>Ca pQ 109 #[n,p] q λr s=>gt r s λt u=>cV t (a (gI 52) u) (gx (fH 27 b) u λv w=>gf 272 c 0 w λx y=>dz 83 x 2 2 y λz A=>dz 272 c 6 2 A λB C=>Ca pQ 209 #[v,z,B] C λD E=>gt D E λF G=>cV F (a (gI 124) G) (gx (fH 272 c) G λH I=>Ca pQ 210 #[H] I λJ K=>cV J (a (gI 125) K) (a (gI 0) K)))))
def ar0(h0:gq 272 a W λb c=>gf 272 b 0 c λd e=>gf 83 d 0 e λf g=>gx (fH 27 f) g λh i=>gx (nE 27) i λj k=>nj pQ (jH 27 j h) k λl=>gf 272 b 1 l λm n=>dz 70 m 3 4 n λo p=>cV o (Z (gI 120) p) (gf 272 b 1 p λq r=>dz 70 q 2 4 r λs t=>cV s (Z (gI 121) t) (gf 272 b 0 t λu v=>dz 83 u 1 81 v λw x=>gb .eql 81 true w (gB 3) x λy z=>cV y (Z (gI 50) z) (gf 272 b 0 z λA B=>dz 83 A 1 81 B λC D=>gb .eql 81 true C (gB 2) D λE F=>cV E (Z (gI 122) F) (jW (λG=>gf 272 b 0 F λH I=>dz 83 H 1 81 I λJ K=>gb .neq 81 true J (gB 1) K λL M=>cV L (G (L,()) M) (gx (fH 27 j) M λN O=>gf 272 b 0 O λP Q=>dz 83 P 2 2 Q λR S=>Ca pQ 109 #[N,R] S λT U=>gt T U λV X=>cV V (G (V,()) X) (dz 272 b 3 2 X λY aa=>Ca pQ 207 #[Y] aa λab ac=>gt ab ac λad ae=>cV ad (G (ad,()) ae) (dz 272 b 4 2 ae λaf ag=>Ca pQ 207 #[af] ag λah ai=>gt ah ai λaj ak=>cV aj (G (aj,()) ak) (dz 272 b 2 2 ak λal am=>Ca pQ 108 #[al,(gI 10000000)] am λan ao=>gt an ao λap aq=>G (ap,()) aq))))) (P1 Z j b)))))):Ca pQ 172 #[a] W Z:=cj Tryz.func172 h0
def as6(z:gq 74 a W λb c=>dz 74 b 0 24 c λd e=>gb .neq 24 true d (gQ 0) e λf g=>cV f (dz 74 b 1 23 g λh i=>gb .neq 23 true h (gU 0) i λj k=>cV j (dz 74 b 3 2 k λl m=>gb .geq 2 true l (gI 1) m λn o=>cV n (dz 74 b 3 2 o λp q=>gb .leq 2 true p (gI 10000000) q λr s=>cV r (dz 74 b 4 2 s λt u=>gb .geq 2 true t (gI 1) u λv w=>cV v (dz 74 b 4 2 w λx y=>gb .leq 2 true x (gI 1000000) y Z) (Z bF w)) (Z bF s)) (Z bF o)) (Z bF k)) (Z bF g)):Ca pQ 110 #[a] W Z:=cj Tryz.func110 z
def am6(h:gr (Instr.build 188 #[(0,bT),(1,a)]) W λb c=>gq 188 b c Z):Ca pQ 127 #[a] W Z:=cj Tryz.func127 h
def an8(h:gb .neq 142 true a (.pointer none) W λb c=>cV b (ez a λd=>dz 188 d 0 4 c Z) (Z bF c)):Ca pQ 107 #[a] W Z:=cj Tryz.func107 h
def ah9(h:ez a λd=>dz 188 d 1 4 W λe f=>cV e (gb .gtr 2 false b c f Z) (gb .lss 2 false b c f Z)):Ca pQ 215 #[a,b,c] W Z:=cj Tryz.func215 h
def ao9(h:gq 24 b W λc d=>ez a λe=>dz 188 e 2 95 d λf g=>Ca pQ 138 #[f,(.func (.func 257) #[] #[c])] g Z):Ca pQ 245 #[a,b] W Z:=cj Tryz.func245 h
def ad3(i:gq 74 a W λc d=>dz 74 c 0 24 d λe f=>gl 24 b f λg h=>gb .eql 24 false e g h Z):Ca pQ 257 #[a,b] W Z:=cj Tryz.func257 i
def PC(a b:Vt_)(c:cG)(d:T1)(e:Wt_):=NV->eP 142 a e.drew λf=>eP 142 a e.drew λg=>ez g λh=>kg 188 h 2 λi=>eP 95 i e.drew λj=>eP 74 b e.drew λk=>gx (jQ 95 1 [(0,k)]) e.drew λl m=>gk 95 i j m/\gk 142 a g m/\gk 142 a f m/\(Ca pQ 248 #[j,d.1,l] m λn o=>gk 142 a f o/\(ez f λp=>kg 188 p 2 λq=>gs 95 q n o λr=>c (gI 0) r))
def Rj(a:cG)(b c:Vt_)(d:T1)(e:Wt_):=NV->cV d.1 (a (gI 2) e) (gl 142 b e λf g=>dz 74 c 0 24 g λh i=>Ca pQ 245 #[f,h] i λj k=>gb .geq 3 true j (gI 0) k λl m=>cV l (a (gI 8) m) (gl 142 b m λn o=>ez n λp=>dz 188 p 2 95 o λq r=>gn 95 false q r λs t=>gb .geq 3 true s (gI 100) t λu v=>cV u (a (gI 9) v) (gl 142 b v λw x=>ez w λy=>dz 188 y 2 95 x λz A=>Ca pQ 138 #[z,(.func (.func 247) #[] #[b,c])] A λB C=>jW (λD=>gb .lss 3 true B (gI 0) C λE F=>cV E (gl 142 b F λG H=>ez G λI=>dz 188 I 2 95 H λJ K=>gn 95 false J K λL M=>D (L,()) M) (D (B,()) F)) (PC b c a))))
def ac4(w:gq 142 a W λc d=>gq 74 b d λe f=>gl 142 c f λg h=>Ca pQ 107 #[g] h λi j=>gt i j λk l=>cV k (Z (gI 1) l) (jW (λm=>eP 74 e l.drew λn=>Ca pQ 110 #[n] l.drew λo p=>gp (Op.unary .not o) λq=>cV q (m (bT,()) p) (gY 74 e 2 4 p λr=>eP 142 c p λs=>ez s λt=>gY 188 t 1 4 p λu=>my .neq 4 false r u λv=>m (v,()) p)) (Rj Z c e))):Ca pQ 214 #[a,b] W Z:=cj Tryz.func214 w
def am3(l:gq 74 a W λd e=>gl 142 b e λf g=>dz 74 c 3 2 g λh i=>dz 74 d 3 2 i λj k=>Ca pQ 215 #[f,h,j] k Z):Ca pQ 247 #[a,b,c] W Z:=cj Tryz.func247 l
def Rm(a:Vt_)(b:cG)(c:Vt_)(d:T1)(e:Wt_):=NV->cV d.1 (gr (Instr.build 74 #[]) e λf g=>gs 74 a f g λh=>eP 74 a h λi=>b (gT i bF) h) (ez c λj=>dz 188 j 2 95 e λk l=>uB 95 k (gI 0) 74 l λm n=>gs 74 a m n λo=>eP 74 a o λp=>b (gT p bT) o)
def ZS(p:ga 74 W λb c=>jW (λd=>Ca pQ 107 #[a] c λe f=>gt e f λg h=>cV g (d (bT,()) h) (ez a λi=>dz 188 i 2 95 h λj k=>gn 95 false j k λl m=>gb .eql 3 true l (gI 0) m λn o=>d (n,()) o)) (Rm b Z a)):Ca pQ 211 #[a] W Z:=cj Tryz.func211 p
def Jg(a b:Vt_)(c:cG)(d:Unit)(e:Wt_):=NV->gl 74 a e λf g=>gs 74 b f g λh=>eP 74 b h λi=>c (gT i (gI 0)) h
def PL(a:Vt_)(b:cG)(c d:Vt_)(e:T1)(f:Wt_):=NV->cV e.1 (gr (Instr.build 74 #[]) f λg h=>gs 74 a g h λi=>eP 74 a i λj=>b (gT j (gI 2)) i) (ez c λk=>dz 188 k 2 95 f λl m=>gi 95 l (gI 0) m λn o=>dz 74 n 4 2 o λp q=>gb .sub 2 false p d q λr s=>gi 95 l (gI 0) s λt u=>qM 74 t 4 2 r u λv=>ez c λw=>dz 188 w 2 95 v λx y=>uB 95 x (gI 0) 74 y λz A=>gv 74 z A λB C=>dK (S:=Unit) (λD=>dz 74 B 4 2 C λE F=>gb .eql 2 true E (gI 0) F λG H=>cV G (ez c λI=>dz 188 I 2 95 H λJ K=>Ca pQ 140 #[J,(gI 0),(gI 1)] K λL M=>ez c λN=>qM 188 N 2 95 L M λO=>D (()) O) (D (()) H)) (Jg B a b))
def as7(J:ga 74 W λc d=>Ca pQ 107 #[a] d λe f=>gt e f λg h=>cV g (gr (Instr.build 74 #[]) h λi j=>gs 74 c i j λk=>eP 74 c k λl=>Z (gT l (gI 1)) k) (ez a λm=>dz 188 m 2 95 h λn o=>gn 95 false n o λp q=>gb .eql 3 true p (gI 0) q λr s=>cV r (gr (Instr.build 74 #[]) s λt u=>gs 74 c t u λv=>eP 74 c v λw=>Z (gT w (gI 7)) v) (jW (λx=>gb .lss 2 true b (gI 1) s λy z=>cV y (x (bT,()) z) (ez a λA=>dz 188 A 2 95 z λB C=>gi 95 B (gI 0) C λD E=>dz 74 D 4 2 E λF G=>gb .gtr 2 false b F G λH I=>x (H,()) I)) (PL c Z a b)))):Ca pQ 213 #[a,b] W Z:=cj Tryz.func213 J
def ah3(k:Ca pQ 107 #[a] W λc d=>gt c d λe f=>cV e (Z (gT (gI 0) (gI 1)) f) (Ca pQ 245 #[a,b] f λg h=>gb .geq 3 true g (gI 0) h λi j=>cV i (Z (gT g (gI 0)) j) (Z (gT (gI 0) (gI 7)) j))):Ca pQ 205 #[a,b] W Z:=cj Tryz.func205 k
def Zz(J:ga 74 W λc d=>Ca pQ 205 #[a,b] d λe f=>nR e f λg h i=>gE h i λj k=>cV j (gr (Instr.build 74 #[]) k λl m=>gs 74 c l m λn=>eP 74 c n λo=>Z (gT o h) n) (ez a λp=>dz 188 p 2 95 k λq r=>uB 95 q g 74 r λs t=>gv 74 s t λu v=>ez a λw=>dz 188 w 2 95 v λx y=>g1 g y λz A=>Ca pQ 140 #[x,g,z] A λB C=>ez a λD=>qM 188 D 2 95 B C λE=>gl 74 u E λF G=>gs 74 c F G λH=>eP 74 c H λI=>Z (gT I (gI 0)) H)):Ca pQ 170 #[a,b] W Z:=cj Tryz.func170 J
def O5(a:cG)(b c d:Vt_)(e:T1)(f:Wt_):=NV->cV e.1 (a (gI 2) f) (ez b λg=>dz 188 g 2 95 f λh i=>gi 95 h c i λj k=>qM 74 j 4 2 d k λl=>a (gI 0) l)
def ao0(w:Ca pQ 205 #[a,b] W λd e=>nR d e λf g h=>gE g h λi j=>cV i (Z g j) (jW (λk=>gb .lss 2 true c (gI 1) j λl m=>cV l (k (bT,()) m) (ez a λn=>dz 188 n 2 95 m λo p=>gi 95 o f p λq r=>dz 74 q 4 2 r λs t=>gb .gtr 2 false c s t λu v=>k (u,()) v)) (O5 Z a f c))):Ca pQ 173 #[a,b,c] W Z:=cj Tryz.func173 w
def ai0(w:ga 74 W λc d=>Ca pQ 205 #[a,b] d λe f=>nR e f λg h i=>gE h i λj k=>cV j (gr (Instr.build 74 #[]) k λl m=>gs 74 c l m λn=>eP 74 c n λo=>Z (gT o h) n) (ez a λp=>dz 188 p 2 95 k λq r=>uB 95 q g 74 r λs t=>gs 74 c s t λu=>eP 74 c u λv=>Z (gT v (gI 0)) u)):Ca pQ 204 #[a,b] W Z:=cj Tryz.func204 w
def Re(a b c d:Vt_)(e:Nat)(f:LV_)(g:Wt_)(h:Wp)(i:Code->Wp):=gv 74 (f.getD 0 undef) g λj k=>lC e k λl=>gl 142 a l λm n=>gl 2 b n λo p=>dz 74 j 3 2 p λq r=>Ca pQ 215 #[m,o,q] r λs t=>cV s (i (.exit 0) t) (dz 74 j 1 23 t λu v=>gl 23 c v λw x=>gb .neq 23 false u w x λy z=>cV y (gl 2 d z λA B=>dz 74 j 4 2 B λC D=>gb .add 2 false A C D λE F=>gs 2 d E F h) (h z))
def Jo(a:Vt_)(b:cG)(c:List Nat)(d:Option Code)(e:Wt_):=iJ (λf=>gl 2 a f λg h=>gs 2 a g h λi=>lj (c++[]) i λj=>eP 2 a j λk=>b k j) (λl=>lj (c++[]) l λm=>eP 2 a m λn=>b n m) (λo p=>bc (Nat.beq o 0) (gl 2 a p λq r=>gs 2 a q r λs=>lj (c++[]) s λt=>eP 2 a t λu=>b u t) (False)) d e
def ag8(p:gq 142 a W λd e=>gq 2 b e λf g=>gq 23 c g λh i=>ga 2 i λj k=>gl 142 d k λl m=>Ca pQ 58 #[l] m λn o=>yP pQ none n o 1 (Re d f h j) (Jo j Z)):Ca pQ 178 #[a,b,c] W Z:=cj Tryz.func178 p
def aA5(h:gq 142 a W λb c=>Z (.func (.func 106) #[] #[b]) c):Ca pQ 58 #[a] W Z:=cj Tryz.func58 h
def OC(a b c:Vt_)(d:cG)(e:T1)(f:Wt_)(g:T1->Wp):=gc e.1 a f λh i=>cV h (uB 95 b e.1 74 i λj k=>gv 74 j k λl m=>gl 74 l m λn o=>iv pQ c [n] o λp q=>gt p q λr s=>cV r (d (.tuple #[]) s) (g1 e.1 s λt u=>g (t,()) u)) (d (.tuple #[]) i)
def aq4(r:gl 142 b W λc d=>Ca pQ 107 #[c] d λe f=>gt e f λg h=>cV g (Z (.tuple #[]) h) (gl 142 b h λi j=>ez i λk=>dz 188 k 2 95 j λl m=>Ca pQ 48 #[l] m λn o=>gn 95 false n o λp q=>qA (OC p n a Z) ((gI 0),()) q)):Ca pQ 106 #[a,b] W Z:=cj Tryz.func106 r
def aj4(i:Ca pQ 107 #[a] W λb c=>gt b c λd e=>cV d (Z (gI 0) e) (ez a λf=>dz 188 f 2 95 e λg h=>gn 95 false g h Z)):Ca pQ 179 #[a] W Z:=cj Tryz.func179 i
def aa1(n:Ca pQ 107 #[a] W λb c=>gt b c λd e=>cV d (Z (.pointer none) e) (ez a λf=>kg 188 f 1 λg=>eP 4 g e.drew λh=>ez a λi=>gY 188 i 2 95 e.drew λj=>Ca pQ 48 #[j] e.drew λk l=>gk 4 g h l/\(gp (Instr.build 188 #[(0,bT),(1,h),(2,k)]) λm=>gq 188 m l Z))):Ca pQ 105 #[a] W Z:=cj Tryz.func105 n
def JD(a b c:Vt_)(d:cG)(e:T2)(f:Wt_)(g:T2->Wp):=gc e.2.1 a f λh i=>cV h (uB 95 b e.2.1 74 i λj k=>iv pQ c [j] k λl m=>cV l (d e.2.1 m) (g1 e.2.1 m λn o=>g (e.1,n,()) o)) (d (gI (-1)) i)
def WG(h:gn 95 false a W λc d=>qB (JD c a b Z) ((gI 0),(gI 0),()) d):Ca pQ 138 #[a,b] W Z:=cj Tryz.func138 h
def ag2(h0:gr (Instr.sliceAt 95 a (some b) none none) W λd e=>gn 95 false c e λf g=>gb .eql 3 true f (gI 0) g λh i=>cV h (Z a i) (gn 95 false a i λj k=>gb .eql 3 false b j k λl m=>cV l (gx (eg #[95,95] 95 [a,c]) m Z) (gb .add 3 false j f m λn o=>rn pQ (builtin .cap #[95] 3 #[false] #[a]) o λp q=>gb .gtr 3 false n p q λr s=>cV r (gr (Instr.sliceAt 95 a none (some b) none) s λt u=>gb .add 3 false j f u λv w=>gb .sub 3 false v b w λx y=>gx (eg #[95,3] 95 [t,x]) y λz A=>gr (Instr.sliceAt 95 z (some b) none none) A λB C=>gx (vY #[95,95] 3 [B,c]) C λD E=>my .add 3 false b f λF=>gp (Instr.sliceAt 95 z (some F) none none) λG=>gp (Instr.sliceAt 95 a (some b) none none) λH=>gx (vY #[95,95] 3 [G,H]) E.drew λI J=>Z z J) (gb .add 3 false j f s λK L=>gr (Instr.sliceAt 95 a none (some K) none) L λM N=>gb .add 3 false b f N λO P=>gr (Instr.sliceAt 95 M (some O) none none) P λQ R=>rnx pQ 258 [c,Q] R λS T=>gt S T λU V=>cV U (my .add 3 false b f λX=>gp (Instr.sliceAt 95 M (some X) none none) λY=>gp (Instr.sliceAt 95 M (some b) none none) λaa=>gx (vY #[95,95] 3 [Y,aa]) V.drew λab ac=>gr (Instr.sliceAt 95 M (some b) none none) ac λad ae=>gx (vY #[95,95] 3 [ad,c]) ae λaf ag=>Z M ag) (gr (Instr.sliceAt 95 M (some j) none none) V λah ai=>gx (vY #[95,95] 3 [ah,c]) ai λaj ak=>gr (Instr.sliceAt 95 M (some b) none none) ak λal am=>Ca pQ 259 #[al,f] am λan ao=>Z M ao))))):Ca pQ 248 #[a,b,c] W Z:=cj Tryz.func248 h0
def ap8(v:gn 95 false a W λd e=>gr (Instr.sliceAt 95 a (some b) (some c) (some d)) e λf g=>gb .eql 3 false b c g λh i=>cV h (Z a i) (gn 95 false a i λj k=>gp (Instr.sliceAt 95 a none (some b) none) λl=>gp (Instr.sliceAt 95 a (some c) none none) λm=>gx (eg #[95,95] 95 [l,m]) k.drew λn o=>gn 95 false n o λp q=>gr (Instr.sliceAt 95 n (some p) (some j) none) q λr s=>gx (Ay #[95] 0 [r]) s λt u=>Z n u)):Ca pQ 140 #[a,b,c] W Z:=cj Tryz.func140 v
def au9(h:gb .eql 95 true a (.slice none 0 0) W λb c=>cV b (Z (.slice none 0 0) c) (gx (jQ 95 0 []) c λd e=>gx (eg #[95,95] 95 [d,a]) e Z)):Ca pQ 48 #[a] W Z:=cj Tryz.func48 h
end
end Go.Proofs
namespace Go.Proofs
open Go Go.Vc
attribute [local congr] cR
variable {n:Int}{i:Nat}{w:Wt_}{K:cG}
abbrev jl(n:Int):Prop:= -9223372036854775808<=n/\n<9223372036854775808
abbrev pL(n:Int):Prop:=0<=n/\n<4294967296
abbrev P6(n:Int):Prop:=0<=n/\n<18446744073709551616
structure Sp where
 num:Int
 route:Int
 tick:Int
 lot:Int
 band:Int
 limit:Int
 shifts:Vector Int 16
 credit:Int
 last:Int
 first:Int
 deriving DecidableEq
variable {s:Sp}
def Sp.Fit(s:Sp):Prop:=pL s.num/\(0<=s.route/\s.route<256)/\jl s.tick/\jl s.lot/\jl s.band/\jl s.limit/\(∀x∈s.shifts.toList,jl x)/\jl s.credit/\pL s.last/\jl s.first
def xD(s:Vector Int 16):List Value:=s.toList.map λn=>gI n
def jA(s:Sp):List Value:=[.int .u32 s.num,gB s.route,gI s.tick,gI s.lot,gI s.band,gI s.limit]++(xD s.shifts++[.int .i64 s.credit,gU s.last,gI s.first])
def rh(s:Vector Int 16):(xD s).length=16:=by simp[xD]
def dP(s:Sp):(jA s).length=25:=by simp[jA,rh]
def xS(s:Sp):(jA s).all (·.oneCell')=true:=by simp[jA,xD,Value.oneCell']
def xK(s:Sp):((jA s).drop 6).take 16=xD s.shifts:=by
 simp only[jA];rw[eZ (by simp)];simp only[List.drop_succ_cons,List.drop_nil,iw,jO];rw[dh (by rw[rh];omega),cT (by rw[rh];omega)]
def spG{a:LV_}(hi:i<3):(jA s++a)[22+i]? =([.int .i64 s.credit,gU s.last,gI s.first]:LV_)[i]? :=by
 rw[dC (by rw[dP];omega)];simp only[jA];rw[cQ (by simp;omega)];rw[cQ (by rw[rh];simp;omega)];congr 1;rw[rh];simp;omega
def au5(s:Sp)(a:LV_):(jA s++a)[0]? =some (gU s.num):=rfl
def aE6(s:Sp)(a:LV_):(jA s++a)[1]? =some (gB s.route):=rfl
def ay8(s:Sp)(a:LV_):(jA s++a)[2]? =some (gI s.tick):=rfl
def az4(s:Sp)(a:LV_):(jA s++a)[3]? =some (gI s.lot):=rfl
def ax4(s:Sp)(a:LV_):(jA s++a)[4]? =some (gI s.band):=rfl
def av9(s:Sp)(a:LV_):(jA s++a)[5]? =some (gI s.limit):=rfl
def WJ(s:Sp)(a:LV_):(jA s++a)[22]? =some (gI s.credit):=spG (i:=0) qZ
def aq2(s:Sp)(a:LV_):(jA s++a)[23]? =some (gU s.last):=spG (i:=1) qZ
def Xa(s:Sp)(a:LV_):(jA s++a)[24]? =some (gI s.first):=spG (i:=2) qZ
def CG(tick n:Int):Bool:=amongB n 1 MP&& decide (n.tmod tick=0)
def xH(l:List Int):Bool:=l.all λx=>amongB x (-MP) MP
def Sp.may(s:Sp):Bool:=
 xH s.shifts.toList&& s.shifts.toList.any (λx=>decide (0<x))&& s.shifts.toList.any (λx=>decide (x<0))&& decide (s.num≠0)&& amongB s.route 1 8&& amongB s.tick 1 MP&& amongB s.lot 1 1000000&& amongB s.band 0 MP&& amongB s.limit 1 MP&& amongB s.credit 0 MP&& CG s.tick s.first
def Sp.isPrice(s:Sp)(n:Int):Bool:=s.may&& CG s.tick n
def Sp.isQty(s:Sp)(n:Int):Bool:=s.may&& (amongB n 1 1000000&& decide (n.tmod s.lot=0))
def Sp.inBand(s:Sp)(at_ n:Int):Bool:=s.may&& (decide (jl (n - at_))&& amongB (n - at_) (-s.band) s.band)
def pT{lo hi:Int}(a:K (.bool (amongB n lo hi)) w):Ca pQ 119 #[.int .i64 n,gI lo,gI hi] w K:=by
 apply Z9;unfold amongB at a;by_cases h:lo<=n
 ·simp[go_sem,h]at a|-;exact a
 ·simp[go_sem,h]at a|-;exact a
def Ef{tick:Int}(d:0<tick)(a:K (.bool (CG tick n)) w):Ca pQ 120 #[.int .i64 tick,gI n] w K:=by
 apply ap1;apply pT;unfold CG MP at a;have b:¬tick=0:=qZ;cases h:amongB n 1 10000000 with
 |false=>
  rw[h]at a;simpa using a
 |true=>
  rw[h]at a;have k:=dR h;simp[go_sem,b]at a|-
  have e:IntKind.i64.wrap (n.tmod tick)=n.tmod tick:=by
   have j:=Int.emod_nonneg n b;have g:=Int.emod_lt_of_pos n d;have f:n.tmod tick=n%tick:=kv qZ
   have i:n%tick<=n:=by
    by_cases c:n<tick
    ·rw[Int.emod_eq_of_lt qZ c];omega
    ·omega
   rw[f,wI_]
  first
   |exact a
   |(rw[e];exact a)
   |(simpa [e]using a)
def uSh:Tryz.prog.underlying 25=some (.array 16 2):=cU
def Y2:pY pQ 25=true:=cU
def Y4:Tryz.prog.cellsOf 25=15+1:=cU
def Ys:pY pQ 2=false:=cU
def Xm:(Tryz.prog.underlying 2).isSome=true:=cU
def Yt:Tryz.prog.cellsOf 2=0+1:=cU
def DW:pY pQ 27=true:=cU
def Cc:Tryz.prog.cellsOf 27=24+1:=cU
def Fa(s:Vector Int 16)(i:Nat)(h:i<16):(xD s).toArray[i]? =some (gI s.toList[i]!):=by
 have a:s.toList.length=16:=by simp
 simp[xD,cE,a,h]
def QZ{l:List Int}{p:Int->Bool}(h:i<l.length):(l.take (i+1)).all p=((l.take i).all p&& p l[i]!):=by
 rw[kL,cE h,gj];simp[h]
def GB{l:List Int}{p:Int->Bool}(h:i<l.length):(l.take (i+1)).any p=((l.take i).any p||p l[i]!):=by
 rw[kL,cE h,List.any_append];simp[h]
def vP(hf:s.Fit)(X:∀H,M0 w H->K (.bool s.may) H):Ca pQ 81 #[.agg (jA s).toArray] w K:=by
 apply aA1;obtain⟨p,q⟩:=dW w.heap.size;have O:M0 w (w.alloc (.cells (jA s).toArray 27)):=lm;apply cx (pt p 0) (w.alloc (.cells (jA s).toArray 27)) (by rw[q];rfl);have d:hC (w.alloc (.cells (jA s).toArray 27)) p (jA s).toArray 27:=by rw[q];simp[go_sem]
 generalize w.alloc (.cells (jA s).toArray 27)=C at O d|-;refine qS0 ?_
 have Y:At C p 6 (xD s.shifts):=by
  have F:At C p 0 (jA s):=⟨_,_,_,d,by simp,by simp⟩
  have:=F.sub 6 16 (by rw[dP];omega);rw[xK]at this;simpa using this
 apply jq (xD s.shifts) 15 Y2 Y4 (rh _) Y;have hl:s.shifts.toList.length=16:=by simp
 obtain⟨f1,f2,f3,f4,f5,f6,V,f8,f9,U⟩:=hf;have a:∀i:Nat,(jA s)[i]? =(jA s++[])[i]? :=λi=>by grind
 refine eS (λst W=>∃(i:Nat) (x:Vt_),i<=16/\st=(x,.bool ((s.shifts.toList.take i).any λx=>decide (0<x)),.bool ((s.shifts.toList.take i).any λx=>decide (x<0)),gI i,())/\W=C/\xH (s.shifts.toList.take i)=true)
  (λst _=>match st.2.2.2.1 with| .int _ i=>16 - i.toNat|_=>0) ⟨0,.bool false,qZ,rfl,rfl,rfl⟩ ?_
 rintro⟨_,_⟩ W ⟨i,x,hi,⟨⟩,rfl,g⟩ T E;unfold Vu;intro _;by_cases l:i<16
 ·have m:(i:Int)<16:=qZ;have f:i<s.shifts.toList.length:=qZ
  have hx:jl s.shifts.toList[i]! :=by
   rw[jP s.shifts.toList i f];exact V _ (cC f)
  refine qSt1 m ?_;apply cx (gI s.shifts.toList[i]!) W (vD uSh Ys Xm Yt l (Fa _ i l));generalize N:s.shifts.toList[i]! =y at*;apply lH hx qZ;have Z:IntKind.i64.wrap ((i:Int)+1)=((i+1:Nat):Int):=by rw[wI_];omega
  refine qS0 ?_;cases I:amongB y (-10000000) 10000000 with
  |false=>
   rw[cy,bZ (show(!false)=true from rfl)]
   have:s.may=false:=by
    have v:xH s.shifts.toList=false:=by
     rw[kI];intro hc;have:=(dF.1 hc) y (by grind);unfold MP at this;rw[I]at this;cases this
    unfold Sp.may;rw[v];simp
   have e:=X _ O;rw[this]at e;exact e
  |true=>
   rw[cy,aZ (by simp)]
   have k:xH (s.shifts.toList.take (i+1))=true:=by
    unfold xH;rw[QZ f,N];show(xH _&& _)=true;rw[g];simpa [MP]using I
   have j:∀(z:Vt_),T (z,.bool ((s.shifts.toList.take (i+1)).any λx=>decide (0<x)),.bool ((s.shifts.toList.take (i+1)).any λx=>decide (x<0)),gI ((i+1:Nat):Int),()) W:=λz=>
    E _ _ ⟨i+1,z,qZ,rfl,rfl,k⟩ (by grind)
   rw[GB f,GB f,N]at j;cases A:(s.shifts.toList.take i).any λx=>decide (0<x)<;>cases t:(s.shifts.toList.take i).any λx=>decide (x<0)
   all_goals
    rw[A,t]at j;simp only[cy,dE,eW,fh];simp[-Int.natCast_add,go_sem,Z];simpa using j _
 ·obtain rfl:i=16:=qZ;rw[cT qZ]at g;rw[cT qZ];refine qSf0 ?_;have c:∀b:Bool,b=s.may->K (.bool b) W:=λb h=>by grind
  unfold Sp.may at c;rw[g]at c;cases A:s.shifts.toList.any λx=>decide (0<x)with
  |false=>
   rw[gP];apply c _;rw[A];simp
  |true=>
   rw[A]at c;rw[kx];cases t:s.shifts.toList.any λx=>decide (x<0)with
   |false=>
    rw[gP];apply c _;rw[t];simp
   |true=>
    rw[t]at c;rw[kx];have g0:(jA s).toArray[0]? =some (gU s.num):=by rw[eX,a];exact au5 s []
    have g1:(jA s).toArray[1]? =some (gB s.route):=by rw[eX,a];exact aE6 s []
    have u:(jA s).toArray[2]? =some (gI s.tick):=by rw[eX,a];exact ay8 s []
    have S:(jA s).toArray[3]? =some (gI s.lot):=by rw[eX,a];exact az4 s []
    have M:(jA s).toArray[4]? =some (gI s.band):=by rw[eX,a];exact ax4 s []
    have R:(jA s).toArray[5]? =some (gI s.limit):=by rw[eX,a];exact av9 s []
    have r:(jA s).toArray[22]? =some (gI s.credit):=by rw[eX,a];exact WJ s []
    have o:(jA s).toArray[24]? =some (gI s.first):=by rw[eX,a];exact Xa s []
    refine qS2 d g0 ?_;refine qS2 d g0 ?_;by_cases B:s.num=0
    ·refine qSf1 B ?_;refine c _ (by simp[B])
    have G:decide (s.num≠0)=true:=by simpa using B
    rw[G]at c;refine qSt1 B ?_;refine qS2 d g1 ?_;refine qS2 d g1 ?_;refine qS1 (uP (n:=s.route) qZ qZ) ?_;apply pT;cases v:amongB s.route 1 8 with
    |false=>rw[gP];exact c _ (by rw[v];simp)
    |true=>
    rw[v]at c;rw[kx];refine qS2 d u ?_;refine qS2 d u ?_;apply pT;unfold MP at c;cases D:amongB s.tick 1 10000000 with
    |false=>rw[gP];exact c _ (by rw[D];simp)
    |true=>
    rw[D]at c;rw[kx];refine qS2 d S ?_;refine qS2 d S ?_;apply pT;cases P:amongB s.lot 1 1000000 with
    |false=>rw[gP];exact c _ (by rw[P];simp)
    |true=>
    rw[P]at c;rw[kx];refine qS2 d M ?_;refine qS2 d M ?_;apply pT;cases J:amongB s.band 0 10000000 with
    |false=>rw[gP];exact c _ (by rw[J];simp)
    |true=>
    rw[J]at c;rw[kx];refine qS2 d R ?_;refine qS2 d R ?_;apply pT;cases L:amongB s.limit 1 10000000 with
    |false=>rw[gP];exact c _ (by rw[L];simp)
    |true=>
    rw[L]at c;rw[kx];refine qS2 d r ?_;refine qS2 d r ?_;apply pT;cases Q:amongB s.credit 0 10000000 with
    |false=>rw[gP];exact c _ (by rw[Q];simp)
    |true=>
    rw[Q]at c;rw[kx];refine qS2 d u ?_;refine qS2 d u ?_;refine qS2 d o ?_;refine qS2 d o ?_;have ht:=dR D;apply Ef qZ;exact c _ (by simp)
def Qa(s:Sp):(jA s)[0]? =some (gU s.num):=rfl
def aw1(s:Sp):(jA s)[2]? =some (gI s.tick):=rfl
def aC3(s:Sp):(jA s)[3]? =some (gI s.lot):=rfl
def ay3(s:Sp):(jA s)[4]? =some (gI s.band):=rfl
def EN(s:Sp)(w:Wt_):∃a,(Instr.box 27 (.agg (jA s).toArray)).run pQ w=.ok (pt w.heap.size 0) a/\hC a w.heap.size (jA s).toArray 27/\M0 w a:=
 ⟨w.alloc (.cells (jA s).toArray 27),rfl,by simp[go_sem],(de.refl _ w).alloc _⟩
def At.all{b:Nat}{l:LV_}{T:TypeId}{fz:Nat×Nat}(h:hp w b=some (.cells l.toArray T fz)):At w b 0 l:=⟨_,_,_,h,by simp,by simp⟩
def Sp.may_tick(h:s.may=true):1<=s.tick/\1<=s.lot/\0<=s.band/\1<=s.limit/\s.limit<=10000000/\s.band<=10000000/\s.lot<=1000000/\s.tick<=10000000:=by
 unfold Sp.may amongB MP at h;simp only[cL,dN]at h;omega
def wL(h:s.Fit)(a:∀e,M0 w e->K (.bool (s.isPrice n)) e):Ca pQ 109 #[.agg (jA s).toArray,gI n] w K:=by
 apply ai4;obtain⟨j,i,d,g⟩:=EN s w;apply cI i;apply jq (jA s) 24 DW Cc (dP s) (At.all d);refine vP h λk c=>?_;have f:=c.hpk d id;unfold Sp.isPrice at a;cases b:s.may with
 |false=>
  rw[b]at a;rw[gP];exact a _ (g.trans c)
 |true=>
  rw[b]at a;rw[kx];refine qS1 f ?_;refine qS2 f aw1 ?_;apply Ef (by have:=Sp.may_tick b;omega);exact a _ (g.trans c)
def Ro(l:s.Fit)(a:∀i,M0 w i->K (.bool (s.isQty n)) i):Ca pQ 208 #[.agg (jA s).toArray,gI n] w K:=by
 apply ao1;obtain⟨r,o,g,c⟩:=EN s w;apply cI o;apply jq (jA s) 24 DW Cc (dP s) (At.all g);refine vP l λq b=>?_;have k:=b.hpk g id;unfold Sp.isQty at a;cases f:s.may with
 |false=>
  rw[f]at a;rw[gP];exact a _ (c.trans b)
 |true=>
  rw[f]at a;rw[kx];apply pT;have h:=Sp.may_tick f;have j:¬s.lot=0:=qZ;cases d:amongB n 1 1000000 with
  |false=>
   rw[d]at a;rw[gP];exact a _ (c.trans b)
  |true=>
   rw[d]at a;have p:=dR d;rw[kx];refine qS1 k ?_;refine qS2 k aC3 ?_
   have e:IntKind.i64.wrap (n.tmod s.lot)=n.tmod s.lot:=by
    have u:=Int.emod_nonneg n j;have t:=Int.emod_lt_of_pos n (show 0<s.lot by omega);have m:n.tmod s.lot=n%s.lot:=kv qZ;rw[m,wI_]
   refine qS2 j e ?_;apply cx (.bool (decide (n.tmod s.lot=0))) q (by simp[go_sem];rw[iC];simp);have:=a _ (c.trans b);simpa using this
def Yg{a b:Int}(m:jl a)(l:jl b)(h:K (.tuple #[.int .i64 (if jl (a - b)then a - b else 0),gI (if jl (a - b)then 0 else 6)]) w):Ca pQ 246 #[.int .i64 a,gI b] w K:=by
 apply aq7;obtain⟨c,i⟩:=dW (IntKind.i64.wrap (a - b));apply cx (gI c) w (by rw[i];simp[go_sem]);rw[eF]at i;refine dK.at (λst W=>st=(.bool (decide (¬jl (a - b))),())/\W=w) ?_ ?_
 ·by_cases j:0<=a
  ·refine qSt1 j ?_;have d:¬a<0:=qZ;by_cases f:b<0
   ·refine qSt1 f ?_;by_cases k:c<0
    ·refine qSt1 k ?_;refine⟨?_,rfl⟩;rw[db (by unfold jl;omega)]
    ·refine qSf1 k ?_;refine qSf1 d ?_;refine⟨?_,rfl⟩;rw[ej (by unfold jl;omega)]
   ·refine qSf1 f ?_;refine qSf1 d ?_;refine⟨?_,rfl⟩;rw[ej (by unfold jl;omega)]
  ·refine qSf1 j ?_;have d:a<0:=qZ;refine qSt1 d ?_;by_cases f:0<=b
   ·refine qSt1 f ?_;refine qS0 ?_;refine⟨?_,rfl⟩;have e:decide (0<=c)=decide (¬jl (a - b)):=by grind
    rw[e]
   ·refine qSf1 f ?_;refine⟨?_,rfl⟩;rw[ej (by unfold jl;omega)]
 rintro _ w ⟨rfl,rfl⟩;unfold ON;intro _;by_cases g:jl (a - b)
 ·rw[bZ g,bZ g]at h;rw[cy,aZ (by simpa using g)];rw[i,show(a - b+9223372036854775808)%18446744073709551616 - 9223372036854775808=a - b by grind];exact h
 ·rw[aZ g,aZ g]at h;rw[cy,bZ (by grind)];exact h
def Nn{at_:Int}(i:s.Fit)(l:jl at_)(j:jl n)(a:∀g,M0 w g->K (.bool (s.inBand at_ n)) g):Ca pQ 209 #[.agg (jA s).toArray,gI at_,gI n] w K:=by
 apply ZA;obtain⟨m,k,f,d⟩:=EN s w;apply cI k;apply Yg j l;refine qS0 ?_;refine qS0 ?_;apply jq (jA s) 24 DW Cc (dP s) (At.all f);refine vP i λp c=>?_;have h:=c.hpk f id;unfold Sp.inBand at a;cases e:s.may with
 |false=>
  rw[e]at a;rw[gP];exact a _ (d.trans c)
 |true=>
  rw[e]at a;rw[kx];have o:=Sp.may_tick e;by_cases b:jl (n - at_)
  ·rw[db b]at a;rw[bZ b,bZ b];refine qSt0 ?_;refine qS1 h ?_;refine qS2 h ay3 ?_;apply lH b qZ;exact a _ (d.trans c)
  ·rw[ej b]at a;rw[aZ b,aZ b];refine qSf0 ?_;exact a _ (d.trans c)
structure Ct where
 spec:Sp
 st:Int
 price:Int
 deriving DecidableEq
def Ct.Fit(k:Ct):Prop:=k.spec.Fit/\(0<=k.st/\k.st<256)/\jl k.price
def fI(k:Ct):List Value:=jA k.spec++[.int .u8 k.st,gI k.price]
def eE(k:Ct):(fI k).length=27:=by simp[fI,dP]
def sy(k:Ct):(fI k).all (·.oneCell')=true:=by
 rw[fI,gj,xS];rfl
def WW(k:Ct)(a:LV_):(fI k++a)[25]? =some (gB k.st):=by
 rw[dC (by rw[eE];omega),fI,cQ (by rw[dP];omega),dP];rfl
def VD(k:Ct)(a:LV_):(fI k++a)[26]? =some (gI k.price):=by
 rw[dC (by rw[eE];omega),fI,cQ (by rw[dP];omega),dP];rfl
structure Gt where
 k:Ct
 a:Ac
 q:Int
 buys:Int
 sells:Int
 buy:Bool
 price:Int
 qty:Int
def BE(g:Gt):List Value:=fI g.k++(dH g.a++[.int .i64 g.q,gI g.buys,gI g.sells,.bool g.buy,gI g.price,gI g.qty])
def zS(g:Gt):(BE g).length=37:=by simp[BE,eE,dH]
def U5(g:Gt)(i:Nat)(h:i<10):(BE g)[27+i]? =(dH g.a++[.int .i64 g.q,gI g.buys,gI g.sells,.bool g.buy,gI g.price,gI g.qty])[i]? :=by
 rw[BE,cQ (by rw[eE];omega),eE,jN]
def gt5(g:Gt):(BE g)[5]? =some (gI g.k.spec.limit):=rfl
def YW(g:Gt):(BE g)[25]? =some (gB g.k.st):=WW _ _
def al2(g:Gt):(BE g)[26]? =some (gI g.k.price):=VD _ _
def aE4(g:Gt):(BE g)[29]? =some (.bool g.a.kil):=U5 g 2 qZ
def ax9(g:Gt):(BE g)[30]? =some (.bool g.a.dfl):=U5 g 3 qZ
def Ye(g:Gt):(BE g)[31]? =some (gI g.q):=U5 g 4 qZ
def ZQ(g:Gt):(BE g)[32]? =some (gI g.buys):=U5 g 5 qZ
def al6(g:Gt):(BE g)[33]? =some (gI g.sells):=U5 g 6 qZ
def aB9(g:Gt):(BE g)[34]? =some (.bool g.buy):=U5 g 7 qZ
def af2(g:Gt):(BE g)[35]? =some (gI g.price):=U5 g 8 qZ
def Yu(g:Gt):(BE g)[36]? =some (gI g.qty):=U5 g 9 qZ
def Gt.far(g:Gt):Bool:=if g.buy then decide (g.k.spec.limit<g.q+g.buys+g.qty)else decide (g.q - g.sells - g.qty< -g.k.spec.limit)
def Gt.check(g:Gt):Int:=
 if g.a.dfl then 120 else if g.a.kil then 121 else if g.k.st=3 then 50 else if g.k.st=2 then 122
 else if g.k.st≠1\/¬g.k.spec.isPrice g.k.price\/¬amongB g.buys 0 1000000000\/¬amongB g.sells 0 1000000000\/¬amongB g.q (-MP) MP then 2
 else if¬g.k.spec.isQty g.qty then 123 else if¬g.k.spec.isPrice g.price then 52 else if¬g.k.spec.inBand g.k.price g.price then 124 else if g.far then 125 else 0
def Gt.Fit(g:Gt):Prop:=g.k.Fit/\jl g.q/\jl g.buys/\jl g.sells/\jl g.price/\jl g.qty
def aGt:pY pQ 272=true:=cU
def nGt:Tryz.prog.cellsOf 272=36+1:=cU
def VS(g:Gt)(w:Wt_):∃a,(Instr.box 272 (.agg (BE g).toArray)).run pQ w=.ok (pt w.heap.size 0) a/\hC a w.heap.size (BE g).toArray 272/\M0 w a:=
 ⟨w.alloc (.cells (BE g).toArray 272),rfl,by simp[go_sem],(de.refl _ w).alloc _⟩
def IC(a:K (.bool (amongB n 0 1000000000)) w):Ca pQ 207 #[.int .i64 n] w K:=by
 apply ab2;unfold amongB at a;by_cases h:0<=n
 ·simp[go_sem,h]at a|-;exact a
 ·simp[go_sem,h]at a|-;exact a
def SX{g:Gt}(c:amongB g.q (-MP) MP=true)(e:amongB g.buys 0 1000000000=true)(h:amongB g.sells 0 1000000000=true)(f:amongB g.qty 1 1000000=true)(m:1<=g.k.spec.limit/\g.k.spec.limit<=10000000)
  (b:∀d,M0 w d->K (.bool g.far) d):Ca pQ 210 #[.agg (BE g).toArray] w K:=by
 apply ah1;have c:=dR c;have e:=dR e;have h:=dR h;have f:=dR f;unfold MP at c;obtain⟨l,j,a,k⟩:=VS g w;have b:=b _ k;unfold Gt.far at b;apply cI j;refine qS1 a ?_;refine qS2 a aB9 ?_;cases i:g.buy with
 |true=>
  rw[i,bZ rfl]at b;rw[kx];refine qS1 a ?_;refine qS2 a Ye ?_;refine qS1 a ?_;refine qS2 a ZQ ?_;refine qS1 (uP (n:=g.q+g.buys) qZ qZ) ?_;refine qS1 a ?_;refine qS2 a Yu ?_;refine qS1 (uP (n:=g.q+g.buys+g.qty) qZ qZ) ?_;refine qS1 a ?_;refine qS1 a ?_;refine qS1 a ?_;refine qS2 a gt5 ?_;refine qS0 ?_;exact b
 |false=>
  rw[i,aZ gL]at b;rw[gP];refine qS1 a ?_;refine qS2 a Ye ?_;refine qS1 a ?_;refine qS2 a al6 ?_;refine qS1 (uP (n:=g.q - g.sells) qZ qZ) ?_;refine qS1 a ?_;refine qS2 a Yu ?_;refine qS1 (uP (n:=g.q - g.sells - g.qty) qZ qZ) ?_;refine qS1 a ?_;refine qS1 a ?_;refine qS1 a ?_;refine qS2 a gt5 ?_;refine qS1 (uP (n:= -g.k.spec.limit) qZ qZ) ?_;refine qS0 ?_;exact b
end Go.Proofs
namespace Go.Vc
open Go Go.Vc
variable {kh kl:IntKind}{sz b n cap hi lo:Nat}{P:Program}{t ty e:TypeId}{w:World}{K:cG}
def Gi{u v:TypeId}{off m:Nat}{C:Array Value}{T:TypeId}{x:Value}{a:List Value}
  (p:P.underlying t=some (.slice e))(y:P.underlying u=some (.slice v))(A:P.cellsOf e=sz+1)(q:w.heap[b]? =some (.cells C T (0,0)))(c:n+m<=cap)
  (j:Rd w (sz+1) x m a)(r:a.all (·.oneCell')=true)(l:off+(n+m)*(sz+1)<=C.size)
  (s:K (.slice (some ⟨b,off,none⟩) (n+m) cap) (w.setRow b (mh C.toList (off+n*(sz+1)) a).toArray)):rx P (eg #[t,u] ty [.slice (some ⟨b,off,none⟩) n cap,x]) w K:=by
 obtain⟨i,z,g⟩:=tC (n:=sz) A;have k:a.length=m*(sz+1):=j.1;have h:=j.first (P:=P) (ri _);have d:=run_storeCells_at P b (off+n*(sz+1)) T a 0 C w q (by grind) (sU r);simp only[dS]at d;refine sq (.slice (some ⟨b,off,none⟩) (n+m) cap) (w.setRow b (mh C.toList (off+n*(sz+1)) a).toArray) ?_ s;have o:(⟨b,off,none⟩:Addr).add (n*(sz+1))=⟨b,off+n*(sz+1),none⟩:=by rw[cS]
 unfold mh;simp[eg,Builtin.append_,dx p,sizeOf,typeInfo,z,g,dx y,j.lenOf,Result.andThen,h,c];rw[o,d];simp[df]
def tI{C sT:TypeId}{g o j r d k:Nat}{q:Value}{all:List Value}{l:Array Value}
  (L:P.underlying C=some (.slice e))(M:P.cellsOf e=sz+1)(E:w.heap[g]? =some (.cells l t (0,0)))(m:Rd w (sz+1) q d all)(A:k=Nat.min d j)
  (B:o+k*(sz+1)<=l.size)(F:all.all (·.oneCell')=true)(H:K (.int .i64 k) (w.setRow g (mh l.toList o (all.take (k*(sz+1)))).toArray)):
  rx P (vY #[C,sT] ty [.slice (some ⟨g,o,none⟩) j r,q]) w K:=by
 obtain⟨i,N,y⟩:=tC (n:=sz) M;have R:all.length=d*(sz+1):=m.1;have u:k<=d:=by grind
 have D:k*(sz+1)<=d*(sz+1):=dM _ u;have s:(all.take (k*(sz+1))).length=k*(sz+1):=by grind
 have z:∀v∈all.take (k*(sz+1)),v.oneCell' =true:=λv O=>sU F v (ek O);have p:=run_storeCells_at P g o t (all.take (k*(sz+1))) 0 l w E (by grind) z;simp only[dS]at p
 have h:(Builtin.firstCells (sz+1) k q).run P w=.ok (all.take (k*(sz+1))).toArray w:=by
  obtain⟨_,⟨Q,a,c,rfl⟩|⟨b,I,G,rfl,T,J⟩⟩:=m
  ·have x:k=0:=qZ;subst x;cases a<;>simp[Builtin.firstCells,loadCells,loadCellsFrom]
  ·have:=(J.sub 0 (k*(sz+1)) qZ).loads (P:=P);simp only[iw,dS,s]at this;simpa [Builtin.firstCells]using this
 refine sq (goInt (Nat.min d j)) (w.setRow g (mh l.toList o (all.take (k*(sz+1)))).toArray) ?_ (by rw[<-A];exact H);rw[A]at h p|-;simp[vY,Builtin.copy_,dx L,m.lenOf,sizeOf,typeInfo,N,y,Result.andThen,h,p,mh]
def Ek{g o c:Nat}{a:Array Value}{T:TypeId}{by_:Nat}(l:P.underlying t=some (.slice e))(y:wd P e (sz+1) by_)
  (p:w.heap[g]? =some (.cells a T (0,0)))(s:o+n*(sz+1)<=a.size)
  (d:∀z:List Value,z.length=n*(sz+1)->z.all (·.oneCell')=true->K (.tuple #[]) (w.setRow g (mh a.toList o z).toArray)):
  rx P (Ay #[t] ty [.slice (some ⟨g,o,none⟩) n c]) w K:=by
 obtain⟨⟨i,z,C,x,v,A,k,h⟩,r,j⟩:=y;have u:(Builtin.zeroCells z.cells n).toList.length=n*(sz+1):=by rw[tv,k]
 have q:=tm h (by grind) n;have d:=d _ u q;have b:=run_storeCells_at P g o T (Builtin.zeroCells z.cells n).toList 0 a w p (by grind) (sU q);simp only[dS]at b;refine sq (.tuple #[]) (w.setRow g (mh a.toList o (Builtin.zeroCells z.cells n).toList).toArray) ?_ d;cases n with
 |zero=>
  have e:(Builtin.zeroCells z.cells 0).toList=[]:=jF (by rw[u];simp);rw[e];have B:=setRow_self w g a T (0,0) p;simp[Ay,Builtin.clear_,dx l,Result.andThen,mh,B]
 |succ m=>simp[Ay,Builtin.clear_,dx l,zeroValue,typeInfo,C,x,Result.andThen,b,mh]
def Bs{u:TypeId}{ku:IntKind}{by_:Nat}{s:Value}{m:Nat}{cs:List Value}
  (U:P.underlying t=some (.slice e))(X:P.underlying u=some (.int ku))(hE:wd P e (sz+1) by_)
  (V:jo w e (sz+1) s n cs)(A:(n+m)*by_<=140737488355328)
  (hK:∀s' R z,z.length=m*(sz+1)->z.all (·.oneCell')=true->jo R e (sz+1) s' (n+m) (cs++z)->de (cK s) w R->(∀b,cK s' b->cK s b\/w.heap.size<=b)->(∀a c,s=.slice a n c->c<n+m->M0 w R/\∀b,cK s' b->w.heap.size<=b)->K s' R):
  rx P (eg #[t,u] ty [s,.int .i64 (m:Int)]) w K:=by
 obtain⟨⟨i,z,Y,hz,p,N,I,T⟩,M,E⟩:=hE;have hneed:n+m<=140737488355328:=dD (qj _ E) A;have hmb:m*by_<=140737488355328:=dD (dM _ qZ) A;have l:cs.length=n*(sz+1):=V.1;have O:(Builtin.zeroCells z.cells m).toList.length=m*(sz+1):=by rw[tv,I]
 have h1:=tm T (by grind) m;have k:IntKind.i64.wrap (m:Int)=(m:Int):=by rw[eF];omega
 have r:¬(m:Int)<0:=qZ
 have y:¬(281474976710656:Int)<(m:Int)*(i.bytes:Int):=by
  rw[N,<-iB];omega
 obtain⟨g,d,hsv,H,x⟩:∃g d,s=.slice g n d/\n<=d/\((g=none/\n=0/\d=0/\cs=[])\/∃b rest,g=some ⟨b,0,none⟩/\w.heap[b]? =some (.cells (cs++rest).toArray e (0,0))/\rest.length=(d - n)*(sz+1)/\rest.all (·.oneCell')=true):=by
  rcases V.2 with⟨rfl,rfl⟩|⟨b,d,rest,rfl,hc,G,hr⟩
  ·grind
  ·grind
 subst hsv;obtain⟨L,W⟩:∃L:Int,(m:Int)=L:=⟨_,rfl⟩
 rw[W];rw[W]at k;have k:IntKind.i64.wrap L=(m:Int):=k.trans W.symm;clear W;generalize hZ:Builtin.zeroCells z.cells m=Z at O h1;by_cases h0:m=0
 ·subst h0;have hZ0:Z= #[]:=lh (by grind);refine sq (.slice g n d) w ?_ (hK _ _ [] (by simp) rfl (by simpa using V) lX (λb A=>.inl A) λa c he J=>by grind);rcases x with⟨rfl,rfl,rfl,rfl⟩|⟨b,rest,rfl,G,B,hr1⟩
  ·simp[eg,Builtin.append_,dx U,sizeOf,typeInfo,Y,p,dx X,Result.andThen,asInt,asIntOf,k]
  ·have j:=run_storeCells_at P b (n*(sz+1)) e [] 0 (cs++rest).toArray w G (by simp[l]) (by simp);simp only[dS]at j;have F:=setRow_self w b (cs++rest).toArray e (0,0) G;have e0:(⟨b,0,none⟩:Addr).add (n*(sz+1))=⟨b,n*(sz+1),none⟩:=by rw[cS];simp
   have hnc:¬d<n:=qZ;simp at j;simp[eg,Builtin.append_,dx U,sizeOf,typeInfo,Y,p,dx X,Result.andThen,asInt,asIntOf,k,H,e0,j];simpa using F
 have Q:¬m*(sz+1)=0:=by
  rw[Nat.mul_eq_zero];omega
 by_cases h:n+m<=d
 ·rcases x with⟨rfl,rfl,rfl,rfl⟩|⟨b,rest,rfl,G,B,hr1⟩
  ·omega
  ·have j:=run_storeCells_at P b (n*(sz+1)) e Z.toList 0 (cs++rest).toArray w G (by
    simp only[eT,cD,l,B,O];have:=dM (sz+1) h;rw[im]at this;rw[qf];omega) (sU h1)
   simp only[dS]at j
   have D:(cs++rest).take (n*(sz+1))++Z.toList++(cs++rest).drop (n*(sz+1)+Z.toList.length)=(cs++Z.toList)++rest.drop Z.toList.length:=by
    rw[<-l];simp[df]
   refine sq (.slice (some ⟨b,0,none⟩) (n+m) d) (w.setRow b ((cs++Z.toList)++rest.drop Z.toList.length).toArray) ?_ (hK _ _ Z.toList O h1 ⟨?_,.inr ⟨b,d,rest.drop Z.toList.length,rfl,h,?_,?_,?_⟩⟩ ?_ ?_ λa c he J=>by grind)
   ·simp only[D]at j;have e0:(⟨b,0,none⟩:Addr).add (n*(sz+1))=⟨b,n*(sz+1),none⟩:=by rw[cS];simp
    simp[eg,Builtin.append_,dx U,sizeOf,typeInfo,zeroValue,hz,Y,p,dx X,Result.andThen,asInt,asIntOf,k,h,e0,r,y,h0,hZ,j];have q:=j;simp at q;rw[aZ Q];simp only;rw[q]
   ·grind
   ·rw[ij,bZ rfl,G]
   ·rw[dV,B,O,<-qf];congr 1;omega
   ·grind
   ·exact(de.refl (cK (.slice (some ⟨b,0,none⟩) n d)) w).setRow (.inl (show cK _ b from rfl)) _
   ·intro b' C;exact .inl C
 ·have hfit:=growslice_fits (old:=d) (need:=n+m) (bytes:=by_) qZ A;have h48:¬(281474976710656<Builtin.nextslicecap (n+m) d*i.bytes):=by rw[N];omega
  have h63:¬(9223372036854775807<((n:Int)+(m:Int))):=qZ;have o:n+m<=grownCap w (n+m) d e:=by simp[grownCap,Question.cut]
  have hrs:Rd w.drew (sz+1) (.slice g n d) n cs:=V.rd.keep λ_ _=>rfl;have hf1:=hrs.first (P:=P) M
  refine iW (v:=.slice (some ⟨w.heap.size,0,none⟩) (n+m) (grownCap w (n+m) d e))
   (w' :=w.drew.alloc (.cells (cs.toArray++Z++Builtin.zeroCells z.cells (grownCap w (n+m) d e - (n+m))) e)) ?_ (hK _ _ Z.toList O h1 ⟨?_,.inr ⟨w.heap.size,_,(Builtin.zeroCells z.cells (grownCap w (n+m) d e - (n+m))).toList,rfl,o,?_,?_,?_⟩⟩ ?_ ?_ λa c he J=>⟨mP.alloc _,λb A=>by cases A;exact cJ _⟩)
  ·simp[eg,Builtin.append_,dx U,sizeOf,typeInfo,zeroValue,Y,hz,p,dx X,Result.andThen,asInt,asIntOf,k,r,y,h0,h,h63,h48,Question.forced,hf1,newRow,grownCap,hZ];rw[aZ Q];rfl
  ·grind
  ·rw[gy,bZ (show w.heap.size=w.drew.heap.size from rfl)];simp
  ·rw[tv,I]
  ·exact tm T (by grind) _
  ·exact mP.alloc _
  ·rintro b' C;cases C;exact .inr (cJ _)
section
variable{α:Type}{f:α->List Value}{S:Nat}
def SN(a:∀x,(f x).length=S):∀(l:List α) (i:Nat),(l.flatMap f).take (i*S)=(l.take i).flatMap f
 | [],i=>by simp
 |x::l,0=>by simp
 |x::l,i+1=>by
  have e:(i+1)*S=(f x).length+i*S:=by grind
  rw[eu,lq,eu,e,lJ,SN a l i]
def Vp(a:∀x,(f x).length=S):∀(l:List α) (i:Nat),(l.flatMap f).drop (i*S)=(l.drop i).flatMap f
 | [],i=>by simp
 |x::l,0=>by simp
 |x::l,i+1=>by
  have e:(i+1)*S=(f x).length+i*S:=by grind
  rw[eu,List.drop_succ_cons,e,<-eN,fj,Vp a l i]
def wT(a:∀x,(f x).length=S)(l:List α):(l.flatMap f).length=l.length*S:=uE f S l λx _=>a x
def MH(a:∀x,(f x).all (·.oneCell')=true)(l:List α):(l.flatMap f).all (·.oneCell')=true:=by
 rw[List.all_flatMap,dF];exact λx _=>a x
def Rd.item{w:World}{v:Value}{n:Nat}{l:List α}(d:∀x,(f x).length=S)(h:Rd w S v n (l.flatMap f)){i:Nat}(hi:i<l.length)(o:n=l.length):
  ∃b c a,v=.slice (some ⟨b,c,none⟩) n a/\n<=a/\At w b (c+i*S) (f l[i]):=by
 obtain⟨m,⟨k,_⟩|⟨b,c,a,rfl,j,e⟩⟩:=h
 ·omega
 ·refine⟨b,c,a,rfl,j,?_⟩;have g:(i+1)*S<=l.length*S:=dM S hi;rw[im]at g;have:=e.sub (i*S) S (by rw[wT d];omega)
  rwa[oB f S l i (λx _=>d x) hi]at this
end
def jo.pos{v:Value}{cs:List Value}(h:jo w e sz v n cs)(d:0<n):
  ∃b a rest,v=.slice (some ⟨b,0,none⟩) n a/\n<=a/\w.heap[b]? =some (.cells (cs++rest).toArray e (0,0))/\rest.length=(a - n)*sz/\(rest.all (·.oneCell')=true):=by
 obtain⟨c,⟨rfl,rfl⟩|h⟩:=h
 ·omega
 ·exact h
def IU(d:P.underlying t=some (.slice e))(g:P.cellsOf e=sz+1)(h:hi<=cap)(i:0<cap)(W:World):
  (Instr.sliceAt t (.slice (some ⟨b,0,none⟩) n cap) none (some (.int kh (hi:Int))) none).run P W=.ok (.slice (some ⟨b,0,none⟩) hi cap) W:=by
 obtain⟨a,c⟩:=sS d;rw[run_sliceAt_slice W t _ _ _ _ a,run_slice_h W t _ n cap a kh hi qZ qZ,c,oK g];simp only[Result.andThen,sliced,kO,nv,lz];rw[aZ qZ,iD,cS]
def YS(c:P.underlying t=some (.slice e))(g:P.cellsOf e=sz+1)(i:lo<=hi)(h:hi<=cap)(j:lo<cap)(W:World):
  (Instr.sliceAt t (.slice (some ⟨b,0,none⟩) n cap) (some (.int kl (lo:Int))) (some (.int kh (hi:Int))) none).run P W=.ok (.slice (some ⟨b,lo*(sz+1),none⟩) (hi - lo) (cap - lo)) W:=by
 obtain⟨a,d⟩:=sS c;rw[run_sliceAt_slice W t _ _ _ _ a,run_slice_lh W t _ n cap a kl kh lo hi qZ qZ qZ,d,oK g];simp only[Result.andThen,sliced,kO];rw[aZ qZ,iD,cS,eU]
def yI(d:P.underlying t=some (.slice e))(g:P.cellsOf e=sz+1)(i:lo<=n)(h:n<=cap)(j:lo<cap)(W:World):
  (Instr.sliceAt t (.slice (some ⟨b,0,none⟩) n cap) (some (.int kl (lo:Int))) none none).run P W=.ok (.slice (some ⟨b,lo*(sz+1),none⟩) (n - lo) (cap - lo)) W:=by
 obtain⟨a,c⟩:=sS d;rw[run_sliceAt_slice W t _ _ _ _ a,run_slice_l W t _ n cap a kl lo qZ qZ,c,oK g];simp only[Result.andThen,sliced,kO];rw[aZ qZ,iD,cS,eU]
def XP{a:Option Addr}{mx:Nat}{km:IntKind}(g:P.underlying t=some (.slice e))(d:P.cellsOf e=sz+1)(j:lo<=hi)(i:hi<=mx)(k:mx<=cap)(W:World):
  ∃v,(Instr.sliceAt t (.slice a n cap) (some (.int kl (lo:Int))) (some (.int kh (hi:Int))) (some (.int km (mx:Int)))).run P W=.ok v W:=by
 obtain⟨b,h⟩:=sS g;have c:=run_slice_lhm W t a n cap b kl kh km lo hi mx qZ qZ qZ qZ;rw[h,oK d]at c;exact⟨_,(run_sliceAt_slice W t _ _ _ _ b).trans c⟩
end Go.Vc
namespace Go.Proofs
open Go Go.Vc
attribute [local congr] cR
variable {s:Vt_}{w:Wt_}{K:cG}
structure Od where
 num:Int
 acct:Int
 buy:Bool
 price:Int
 left:Int
 deriving DecidableEq
variable {l:List Od}
def fL(o:Od):List Value:=[.int .u64 o.num,gU o.acct,.bool o.buy,gI o.price,gI o.left]
def gM(o:Od):(fL o).length=5:=rfl
def pD(o:Od):(fL o).all (·.oneCell')=true:=rfl
def Od.Fit(o:Od):Prop:=P6 o.num/\pL o.acct/\jl o.price/\jl o.left
abbrev pz:TypeId:=74
abbrev Av:TypeId:=95
def mH:Tryz.prog.underlying Av=some (.slice pz):=cU
def B9:Tryz.prog.cellsOf pz=4+1:=cU
def Oh:lN pQ pz 5 32=true:=cU
abbrev qR(w:Wt_)(s:Vt_)(l:List Od):Prop:=jo w pz 5 s l.length (l.flatMap fL)
def ww(h:Rd w 5 s l.length (l.flatMap fL))(q:l.length<=1000000)
  (i:∀d e,qR e d l->M0 w e->(∀b,cK d b->w.heap.size<=b)->K d e):Ca pQ 48 #[s] w K:=by
 apply au9;obtain⟨a,c,f⟩:=h.isSl;by_cases g:a=none
 ·subst g;apply cx (.bool true) w (by rw[f];simp[go_sem]);rw[kx]
  have o:l=[]:=by
   obtain⟨-,⟨p,_⟩|⟨b,n,m,j,_⟩⟩:=h
   ·grind
   ·rw[f]at j;cases j
  subst o;exact i _ _ (jo.nil _ _ _) lX λb k=>by cases k
 ·apply cx (.bool false) w (by rw[f];cases a;exact absurd rfl g;simp[go_sem]);rw[gP];exact af6 mH (eO Oh) h (MH pD l) qZ i
set_option maxRecDepth 10000 in
def vq{i j:Nat}(h:qR w s l)(G:i<j)(E:j<=l.length)(T:l.length<=1000000)
  (I:∀p r,qR r p (l.take i++l.drop j)->de (cK s) w r->(∀b,cK p b->cK s b)->K p r):Ca pQ 140 #[s,gI (i:Int),gI (j:Int)] w K:=by
 obtain⟨b,c,rest,rfl,C,F,N,O⟩:=h.pos qZ;have D:=h.1;apply ap8;refine qN0 ?_;obtain⟨S,u⟩:=XP (P:=pQ) (t:=Av) (a:=some ⟨b,0,none⟩) (n:=l.length) (cap:=c) (lo:=i) (hi:=j) (mx:=l.length) (kl:=.i64) (kh:=.i64) (km:=.i64) mH B9 qZ E C w;apply cI u;have q:¬(i:Int)=(j:Int):=qZ;refine qSf1 q ?_;refine qN0 ?_;apply dw (λW=>IU mH B9 (show i<=c by omega) qZ W);have A:Rd w 5 (.slice (some ⟨b,0,none⟩) l.length c) l.length (l.flatMap fL):=h.rd;obtain⟨R,v,e,-⟩:=Rd.from_ (P:=pQ) (kl:=.i64) (lo:=j) mH B9 A E;apply dw (λW=>v W);simp only[Nat.reduceAdd]at e;rw[Vp gM]at e;have H:((l.drop j).flatMap fL).length=(l.length - j)*5:=by rw[wT gM,dV]
 have o:w.drew.heap[b]? =some (.cells (l.flatMap fL++rest).toArray pz (0,0)):=F;have L:(l.flatMap fL++rest).length=c*5:=by grind
 apply Gi (m:=l.length - j) mH mH B9 o qZ (e.keep λ_ _=>rfl) (MH pD _) (by grind);have B:de (cK (.slice (some ⟨b,0,none⟩) l.length c)) w (w.drew.setRow b (mh (l.flatMap fL++rest) (0+i*5) ((l.drop j).flatMap fL)).toArray):=mP.setRow (.inl (show cK (.slice (some ⟨b,0,none⟩) l.length c) b from rfl)) _
 have k:mh (l.flatMap fL++rest) (0+i*5) ((l.drop j).flatMap fL)=(l.take i++l.drop j).flatMap fL++(l.flatMap fL++rest).drop ((i+(l.length - j))*5):=by
  unfold mh;rw[H,eU,dh (by rw[D];omega),SN gM,eJ,df,df,<-im]
 have g:(w.drew.setRow b (mh (l.flatMap fL++rest) (0+i*5) ((l.drop j).flatMap fL)).toArray).heap[b]? =some (.cells ((l.take i++l.drop j).flatMap fL++(l.flatMap fL++rest).drop ((i+(l.length - j))*5)).toArray pz (0,0)):=by
  rw[ij,bZ rfl,o,k]
 rw[show(l.flatMap fL++rest).toArray.toList=l.flatMap fL++rest from rfl];generalize w.drew.setRow b (mh (l.flatMap fL++rest) (0+i*5) ((l.drop j).flatMap fL)).toArray=W at B g|-;refine qN0 ?_;apply cI (YS mH B9 (show i+(l.length - j)<=l.length by omega) C qZ W)
 have x:((l.take i++l.drop j).flatMap fL).length=(i+(l.length - j))*5:=by
  rw[wT gM,cD,cZ,dV,fS qZ]
 refine Ek mH (eO Oh) g (by grind) λz M J=>?_
 have f:mh ((l.take i++l.drop j).flatMap fL++(l.flatMap fL++rest).drop ((i+(l.length - j))*5)) ((i+(l.length - j))*5) z=(l.take i++l.drop j).flatMap fL++(z++rest):=by
  unfold mh;rw[M,dh (by grind),cT (by grind),<-eN,<-x,fj,df,eN,x];congr 2;rw[show(i+(l.length - j))*5+(l.length - (i+(l.length - j)))*5=(l.flatMap fL).length by rw[D];omega,fj]
 have d:(l.take i++l.drop j).length=i+(l.length - j):=by grind
 refine I _ _ ⟨by rw[x,d],.inr ⟨b,c,z++rest,by rw[d],qZ,?_,?_,?_⟩⟩ (B.setRow (.inl (show cK (.slice (some ⟨b,0,none⟩) l.length c) b from rfl)) _) λQ y=>y
 ·show(W.setRow b (mh ((l.take i++l.drop j).flatMap fL++(l.flatMap fL++rest).drop ((i+(l.length - j))*5)) ((i+(l.length - j))*5) z).toArray).heap[b]? =_;rw[ij,bZ rfl,g,f]
 ·grind
 ·grind
def shp{b:Nat}{C:Array Value}{T:TypeId}{fz:Nat×Nat}(h:w.heap[b]? =some (.cells C T fz)):w.shape? b=some (T,C.size):=by simp[World.shape?,h]
def Ku{b:Nat}{C:Array Value}{T:TypeId}(h:w.heap[b]? =some (.cells C T (0,0)))(i:Nat):w.frozen? ⟨b,i,none⟩=false:=by simp[go_sem,fy h]
def sOd(w:Wt_):(Go.sizeOf pz).run pQ w=.ok 5 w:=Go.Vc.oK B9 w
def XI:Extern.find Tryz.f258=some (Extern.SlicesOverlaps.overlaps #[Av,Av] #[4]):=cU
def GL{v:Vt_}{o:Od}{i:Nat}(h:qR w s l)(hv:qR w v [o])(hd:∀b,cK s b->¬cK v b)(hi:i<=l.length)(hn:l.length<=1000000)
  (hK:∀s' w',qR w' s' (l.take i++o::l.drop i)->de (cK s) w w' ->(∀b,cK s' b->cK s b\/w.heap.size<=b)->K s' w'):Ca pQ 248 #[s,gI (i:Int),v] w K:=by
 obtain⟨M,g,vrest,rfl,hvc,L,hvl,hv1⟩:=hv.pos (by simp);simp only[nP]at hvc hvl
 have n:(l.take i++o::l.drop i).length=l.length+1:=by
  rw[cD,cZ,dc,dV,fS hi];omega
 have T:([o].flatMap fL)=fL o:=by simp
 apply ag2;obtain⟨v0,hv0,-,-⟩:=Rd.from_ (P:=pQ) (kl:=.i64) (lo:=i) mH B9 (h.rd:Rd w (4+1) s l.length (l.flatMap fL)) hi;apply cI (hv0 w);refine qN0 ?_;refine qSf0 ?_;obtain⟨sa,sc,hs,-⟩:=h.isSl;apply jm (gI l.length) w (by rw[hs];simp[go_sem]);by_cases hil:i=l.length
 ·have r:(i:Int)=(l.length:Int):=qZ;refine qSt1 r ?_;refine jR mH mH (eO Oh) h hv.rd (MH pD _) (by grind) λs3 A o3 C n3=>?_;refine hK _ _ ?_ C n3;have:l.take i++o::l.drop i=l++[o]:=by grind
  rw[this];unfold qR;rw[eJ,cD];exact o3
 have r:¬(i:Int)=(l.length:Int):=qZ;refine qSf1 r ?_;obtain⟨b,c,rest,hse,hc,N,hrl,O⟩:=h.pos qZ;clear hs;subst hse;have hne:M≠b:=λe=>hd b rfl (by rw[<-e];rfl);have Y:=h.1;apply cx (gI ((l.length+1:Nat):Int)) w (by simp[go_sem];rw[wI_]);refine qN1 mH ?_;have B:(l.flatMap fL++rest).length=c*5:=by grind
 by_cases hroom:c<l.length+1
 ·have f:(c:Int)<(l.length:Int)+1:=qZ;refine qSt1 f ?_;apply cI (IU mH B9 (show i<=c by omega) qZ w);apply cx (gI ((l.length+1:Nat):Int)) w (by simp[go_sem];rw[wI_]);apply cx (gI ((l.length+1 - i:Nat):Int)) w (by simp only[go_sem];simp;rw[wI_];omega)
  have hOi:jo w pz (4+1) (.slice (some ⟨b,0,none⟩) i c) i ((l.take i).flatMap fL):=by
   refine⟨by rw[wT gM,cZ,fS hi],.inr ⟨b,c,(l.flatMap fL++rest).drop (i*5),rfl,qZ,?_,?_,?_⟩⟩
   ·rw[N];congr 2
    have:(l.take i).flatMap fL=(l.flatMap fL++rest).take (i*5):=by
     rw[dh (by rw[Y];omega),SN gM]
    rw[this,fP]
   ·grind
   ·refine dF.2 λx E=>?_;have E:=kT E;rcases dg.1 E with y|y
    ·exact dF.1 (MH pD l) x y
    ·grind
  refine Bs mH Tryz.underlying3 (eO Oh) hOi qZ λs2 D z hz hz1 o2 m2 n2 Z=>?_;obtain⟨mF,nF⟩:=Z _ _ rfl qZ;rw[show i+(l.length+1 - i)=l.length+1 by omega]at o2;obtain⟨m,zG,a,rfl,H,V,X,S⟩:=o2.pos qZ;have U:w.heap.size<=m:=nF m rfl;have hbb:b≠m:=by grind
  apply cI (yI mH B9 qZ H qZ D);have hA:((l.take i).flatMap fL).length=i*5:=by rw[wT gM,cZ,fS hi]
  have hsz2:((l.take i).flatMap fL++z++a).length=zG*5:=by grind
  have hv2:Rd D 5 (.slice (some ⟨M,0,none⟩) 1 g) 1 (fL o):=by
   have:=hv.rd.mod mF eQ;rw[T]at this;exact this
  apply tI (sz:=4) (k:=1) mH B9 V hv2 (by grind) (by grind) (pD o);have C:de (λb=>b=m) D (D.setRow m (mh ((l.take i).flatMap fL++z++a) (i*5) ((fL o).take 5)).toArray):=(de.refl (λb=>b=m) D).setRow (.inl rfl) _;have e5:(fL o).take 5=fL o:=rfl
  have I:mh ((l.take i).flatMap fL++z++a) (i*5) (fL o)=(l.take i).flatMap fL++fL o++(z++a).drop 5:=by
   unfold mh;rw[df ((l.take i).flatMap fL) z a,<-hA,fN,gM,<-eN,fj]
  have j:(D.setRow m (mh ((l.take i).flatMap fL++z++a) (i*5) ((fL o).take 5)).toArray).heap[m]? =some (.cells ((l.take i).flatMap fL++fL o++(z++a).drop 5).toArray pz (0,0)):=by
   rw[ij,bZ rfl,V,e5,I]
  show wS _ _ _;rw[show((l.take i).flatMap fL++z++a).toArray.toList=(l.take i).flatMap fL++z++a from rfl,show 1*(4+1)=5 from rfl];generalize D.setRow m (mh ((l.take i).flatMap fL++z++a) (i*5) ((fL o).take 5)).toArray=A at C j|-;apply dX (gI ((i+1:Nat):Int)) (λW=>by simp[go_sem];rw[wI_]);apply dw (λW=>yI mH B9 (show i+1<=l.length+1 by omega) H qZ W);apply dw (λW=>yI mH B9 (show i<=l.length by omega) hc qZ W);have mD:de (λb=>b=m) D A.drew:=C.drew;have q:A.drew.heap[m]? =some (.cells ((l.take i).flatMap fL++fL o++(z++a).drop 5).toArray pz (0,0)):=j
  have t:Rd A.drew (4+1) (.slice (some ⟨b,i*(4+1),none⟩) (l.length - i) (c - i)) (l.length - i) ((l.drop i).flatMap fL):=by
   have G:At w b 0 (l.flatMap fL):=⟨_,_,_,N,by grind,by simp⟩
   have y:=G.sub (i*5) ((l.length - i)*5) (by rw[Y];omega);rw[Vp gM,cT (by rw[wT gM,dV];exact cJ _),eU]at y;refine⟨by rw[wT gM,dV],.inr ⟨b,i*(4+1),c - i,rfl,qZ,?_⟩⟩;exact(y.mod mF id).mod mD λe=>hbb e
  have hsz3:((l.take i).flatMap fL++fL o++(z++a).drop 5).length=zG*5:=by
   rw[cD,cD,hA,gM,dV,cD,hz,X];omega
  apply tI (sz:=4) (k:=l.length - i) mH B9 q t (by grind) (by grind) (MH pD _);have u:((l.drop i).flatMap fL).length=(l.length - i)*5:=by rw[wT gM,dV]
  have J:mh ((l.take i).flatMap fL++fL o++(z++a).drop 5) ((i+1)*(4+1)) (((l.drop i).flatMap fL).take ((l.length - i)*(4+1)))=(l.take i++o::l.drop i).flatMap fL++a:=by
   have hAo:((l.take i).flatMap fL++fL o).length=(i+1)*(4+1):=by grind
   have e2:((l.drop i).flatMap fL).take ((l.length - i)*(4+1))=(l.drop i).flatMap fL:=cT (by grind);rw[e2];unfold mh;rw[<-hAo,fN,u,<-eN,fj,eN];rw[show 5+(l.length - i)*5=z.length by rw[hz];omega,fj];simp[df]
  refine hK _ _ ⟨by grind,.inr ⟨m,zG,a,by rw[n],by rw[n];exact H,?_,by grind,S⟩⟩ ?_ λb' p=>?_
  ·rw[ij,bZ rfl,q];show some (Obj.cells (mh ((l.take i).flatMap fL++fL o++(z++a).drop 5) ((i+1)*(4+1)) (((l.drop i).flatMap fL).take ((l.length - i)*(4+1)))).toArray pz (0,0))=_;rw[J]
  ·exact((mF.to).on mD λb' p=>.inr (by grind)).setRow (.inr U) _
  ·grind
 ·have f:¬(c:Int)<(l.length:Int)+1:=qZ;refine qSf1 f ?_;apply cx (gI ((l.length+1:Nat):Int)) w (by simp[go_sem];rw[wI_]);apply cI (IU mH B9 (show l.length+1<=c by omega) qZ w);apply cx (gI ((i+1:Nat):Int)) w (by simp[go_sem];rw[wI_]);apply cI (yI mH B9 (show i+1<=l.length+1 by omega) qZ qZ w)
  have hov:(callFunc 258 #[.slice (some ⟨M,0,none⟩) 1 g,.slice (some ⟨b,(i+1)*(4+1),none⟩) (l.length+1 - (i+1)) (c - (i+1))]).run pQ w=.ok (.value (.bool false)) w:=by
   rw[run_callFunc_extern Tryz.func258 cU cU cU XI];rw[Lib.run_overlaps_apart w Av 4 pz mH 5 sOd ⟨M,0,none⟩ ⟨b,(i+1)*(4+1),none⟩ 1 g _ _ hne pz pz _ _ (shp L) (shp N) (by grind) (Ku L _) (Ku L _)];rfl
  refine⟨?_⟩;show rn pQ (callFunc 258 #[.slice (some ⟨M,0,none⟩) 1 g,.slice (some ⟨b,(i+1)*(4+1),none⟩) (l.length+1 - (i+1)) (c - (i+1))]) w _;apply mB hov;refine qSt0 ?_;apply dX (gI ((i+1:Nat):Int)) (λW=>by simp[go_sem];rw[wI_]);apply dw (λW=>yI mH B9 (show i+1<=l.length+1 by omega) qZ qZ W);apply dw (λW=>yI mH B9 (show i<=l.length+1 by omega) qZ qZ W);have q:w.drew.heap[b]? =some (.cells (l.flatMap fL++rest).toArray pz (0,0)):=N;have Q:5<=rest.length:=by rw[hrl];omega
  have t:Rd w.drew (4+1) (.slice (some ⟨b,i*(4+1),none⟩) (l.length+1 - i) (c - i)) (l.length+1 - i) ((l.drop i).flatMap fL++rest.take 5):=by
   have G:At w b 0 (l.flatMap fL++rest):=At.all (fy N);have y:=G.sub (i*5) ((l.length+1 - i)*5) (by rw[B];omega);rw[eZ (by rw[Y];omega),Vp gM,eU]at y
   have e1:((l.drop i).flatMap fL++rest).take ((l.length+1 - i)*5)=(l.drop i).flatMap fL++rest.take 5:=by
    have hd:((l.drop i).flatMap fL).length=(l.length - i)*5:=by rw[wT gM,dV]
    rw[show(l.length+1 - i)*5=((l.drop i).flatMap fL).length+5 by rw[hd];omega,lJ]
   rw[e1]at y;refine⟨by rw[cD,wT gM,dV,cZ,fS Q];omega,.inr ⟨b,i*(4+1),c - i,rfl,qZ,y.keep rfl⟩⟩
  have u:((l.drop i).flatMap fL).length=(l.length - i)*5:=by rw[wT gM,dV]
  apply tI (sz:=4) (k:=l.length - i) mH B9 q t (by grind) (by rw[eT,B];omega) (by rw[gj,MH pD];exact dF.2 λx E=>dF.1 O x (ek E));have hA:((l.take i).flatMap fL).length=i*5:=by rw[wT gM,cZ,fS hi]
  obtain⟨d,R,F⟩:∃d:List Value,l.flatMap fL++rest=(l.take i).flatMap fL++(d++((l.flatMap fL++rest).drop ((i+1)*5)))/\d.length=5:=by
   refine⟨((l.flatMap fL++rest).drop (i*5)).take 5,?_,by grind⟩;have e1:(l.take i).flatMap fL=(l.flatMap fL++rest).take (i*5):=by rw[dh (by rw[Y];omega),SN gM]
   rw[e1,show(i+1)*5=i*5+5 by omega,<-eN,fP,fP]
  have I:mh (l.flatMap fL++rest) ((i+1)*(4+1)) (((l.drop i).flatMap fL++rest.take 5).take ((l.length - i)*(4+1)))=(l.take i).flatMap fL++d++((l.drop i).flatMap fL++rest.drop 5):=by
   have e2:((l.drop i).flatMap fL++rest.take 5).take ((l.length - i)*(4+1))=(l.drop i).flatMap fL:=by
    rw[show(l.length - i)*(4+1)=((l.drop i).flatMap fL).length by rw[u],fN]
   have e3:(l.flatMap fL++rest).take ((i+1)*(4+1))=(l.take i).flatMap fL++d:=by
    rw[R,<-df,show(i+1)*(4+1)=((l.take i).flatMap fL++d).length by grind,fN]
   have e4:(l.flatMap fL++rest).drop ((i+1)*(4+1)+(l.length - i)*5)=rest.drop 5:=by
    rw[show(i+1)*(4+1)+(l.length - i)*5=(l.flatMap fL).length+5 by rw[Y];omega,<-eN,fj]
   unfold mh;rw[e2,u,e3,e4];simp[df]
  have C:de (cK (.slice (some ⟨b,0,none⟩) l.length c)) w (w.drew.setRow b (mh (l.flatMap fL++rest) ((i+1)*(4+1)) (((l.drop i).flatMap fL++rest.take 5).take ((l.length - i)*(4+1)))).toArray):=mP.setRow (.inl (show cK (.slice (some ⟨b,0,none⟩) l.length c) b from rfl)) _
  have j:(w.drew.setRow b (mh (l.flatMap fL++rest) ((i+1)*(4+1)) (((l.drop i).flatMap fL++rest.take 5).take ((l.length - i)*(4+1)))).toArray).heap[b]? =some (.cells ((l.take i).flatMap fL++d++((l.drop i).flatMap fL++rest.drop 5)).toArray pz (0,0)):=by
   rw[ij,bZ rfl,q,I]
  rw[show(l.flatMap fL++rest).toArray.toList=l.flatMap fL++rest from rfl];generalize w.drew.setRow b (mh (l.flatMap fL++rest) ((i+1)*(4+1)) (((l.drop i).flatMap fL++rest.take 5).take ((l.length - i)*(4+1)))).toArray=A at C j|-;apply cI (yI mH B9 (show i<=l.length+1 by omega) qZ qZ A)
  have hv3:Rd A 5 (.slice (some ⟨M,0,none⟩) 1 g) 1 (fL o):=by
   have:=hv.rd.mod C λb' p hs' =>hd b' hs' p.sl;rw[T]at this;exact this
  apply tI (sz:=4) (k:=1) mH B9 j hv3 (by grind) (by grind) (pD o)
  have J:mh ((l.take i).flatMap fL++d++((l.drop i).flatMap fL++rest.drop 5)) (i*(4+1)) ((fL o).take (1*(4+1)))=(l.take i++o::l.drop i).flatMap fL++rest.drop 5:=by
   have e5:(fL o).take (1*(4+1))=fL o:=rfl;rw[e5];unfold mh;rw[gM,show i*(4+1)=((l.take i).flatMap fL).length by rw[hA],df ((l.take i).flatMap fL) d,fN,<-eN,fj,<-F,fj];simp[df]
  refine hK _ _ ⟨by rw[wT gM,n],.inr ⟨b,c,rest.drop 5,by rw[n],by rw[n];omega,?_,by grind,dF.2 λx E=>dF.1 O x (kT E)⟩⟩ (C.setRow (.inl (show cK (.slice (some ⟨b,0,none⟩) l.length c) b from rfl)) _) λb' p=>.inl p;show(A.setRow b (mh ((l.take i).flatMap fL++d++((l.drop i).flatMap fL++rest.drop 5)) (i*(4+1)) ((fL o).take (1*(4+1)))).toArray).heap[b]? =_;rw[ij,bZ rfl,j,J]
def Jb(w:Wt_)(fv:Vt_)(p:Od->Bool)(l:List Od):Prop:=
 ∃g cp,fv=.func (.func g) #[] cp/\∀x∈l,∀W,M0 w W->∀K:cG,(∀W',M0 W W' ->K (.bool (p x)) W')->Ca pQ g ⟨[.agg (fL x).toArray]++cp.toList⟩ W K
def uK{α:Type}(l:List α)(p:α->Bool):Int:=match l.findIdx? p with|some i=>(i:Int)|none=> -1
def wE{fv:Vt_}{p:Od->Bool}(h:Rd w 5 s l.length (l.flatMap fL))(R:l.length<=1000000)(I:Jb w fv p l)
  (B:∀z,M0 w z->K (gI (uK l p)) z):Ca pQ 138 #[s,fv] w K:=by
 obtain⟨g,S,rfl,y⟩:=I;apply WG;obtain⟨a,c,L⟩:=h.isSl;apply jm (gI (l.length:Int)) w (by rw[L];simp[go_sem])
 refine eS (λst W=>∃(i:Nat) (x:Vt_),i<=l.length/\st=(x,gI i,())/\M0 w W/\∀j:Nat,∀f:j<l.length,j<i->p l[j]=false)
  (λst _=>match st.2.1 with| .int _ i=>l.length - i.toNat|_=>0) ⟨0,gI 0,qZ,rfl,lX,λj _ h=>qZ⟩ ?_
 rintro⟨_,_⟩ W ⟨i,x,Q,⟨⟩,m,k⟩ P u;unfold JD;intro _;by_cases d:i<l.length
 ·have o:(i:Int)<(l.length:Int):=qZ;refine qSt1 o ?_;obtain⟨b,v,H,t,D,J⟩:=(h.mod m eQ).item gM d rfl;obtain⟨C,e,fz,hC,n⟩:=J.get;have g0:=n 0 (gQ l[i].num) rfl;have g1:=n 1 (gU l[i].acct) rfl;have A:=n 2 (.bool l[i].buy) rfl;have F:=n 3 (gI l[i].price) rfl;have E:=n 4 (gI l[i].left) rfl;simp only[jU,dS]at g0 g1 A F E;apply cx (pt b (v+i*5)) W (by rw[t];simp[go_sem,d,cS]);apply cx (.agg (fL l[i]).toArray) W (by simp[go_sem,fy hC,g0,g1,A,F,E,fL]);simp only[kE];refine y l[i] (cC d) W m _ λO r=>?_;cases hp:p l[i]with
  |true=>
   rw[kx]
   have:uK l p=(i:Int):=by
    unfold uK
    have:l.findIdx? p=some i:=by
     rw[eB];refine⟨d,hp,λj f=>?_⟩;rw[k j qZ f];simp
    rw[this]
   have q:=B _ (m.trans r);rw[this]at q;exact q
  |false=>
   rw[gP];apply cx (gI ((i+1:Nat):Int)) O (by simp[go_sem];rw[wI_]);refine u _ _ ⟨i+1,_,qZ,rfl,m.trans r,λj f G=>?_⟩ (by grind);by_cases N:j=i
   ·subst N;exact hp
   ·grind
 ·obtain rfl:i=l.length:=qZ;refine qSf0 ?_
  have:uK l p= -1:=by
   unfold uK
   have:l.findIdx? p=none:=by
    rw[fR];intro x M;obtain⟨j,f,rfl⟩:=cX M;exact k j f f
   rw[this]
  have q:=B _ m;rw[this]at q;exact q
end Go.Proofs
