/- Part of a proof. -/
import Derived.Test.YtekbnpagidkbbaaGreatQ26
import Derived.Test.YtekbnpagidkbbaaGreatQ28
set_option linter.all false
set_option maxRecDepth 100000
set_option maxHeartbeats 1000000
namespace Go.Proofs
open Go Go.Vc
attribute [local congr] aZ
variable {f:Int}{A:List Ac}{l d a:Nat}{w W e:Wt_}
def Ie{P:Program}{s:Sem Unit}{K:World->Prop}{w' :Wt_}(h:s.run P w=.ok () w')(a:K w'):ru P s w K:=by
 rw[Ax];unfold Up;rw[h];exact a
def zr{κ ν:Type} [DecidableEq κ]{L:List (κ×ν)}{k:κ}{v:ν}(h:∀p∈L,p.1≠k):put L k v=L++[(k,v)]:=by
 induction L with
 |nil=>rfl
 |cons p L c=>
  obtain⟨a,b⟩:=p;have h1:a≠k:=h (a,b) ai;simp only[put,aa h1,fg];rw[c λx d=>h x (af _ d)]
def t8(f:Int)(A:List Ac):List (Int×Ac):=(0,nu f)::A.map λa=>(a.num,a)
def Qx(P:List Po):List ((Int×Int)×Po):=P.map λp=>(p.key,p)
def Nf(h:PA A){i:Nat}(hi:i<A.length):put (t8 f (A.take i)) A[i].num A[i]=t8 f (A.take (i+1)):=by
 rw[zr,sh hi]
 ·simp only[t8,aM,fg,aD,fw]
 ·intro p hp;rcases ar.1 hp with rfl|hp
  ·have:=(h.num A[i] (av hi)).1;simp only;omega
  ·obtain⟨a,b,rfl⟩:=aL.1 hp;have:a.num<A[i].num:=zo h.srt hi b;simp only;omega
def Ll{P:List Po}{i:Nat}(hi:i<P.length){c d q b:Int}(h:tA (P.take i) c d q b)(e:uJ (c,d) P[i].key=true):put (Qx (P.take i)) P[i].key P[i]=Qx (P.take (i+1)):=by
 rw[zr,sh hi]
 ·simp only[Qx,aM,aD,fw]
 ·intro p hp;obtain⟨a,f,rfl⟩:=aL.1 hp;exact tv (xp (h.top a f) e)
structure I2(w W:Wt_)(l m1 m2:Nat)(LA:List (Int×Ac))(LB:List ((Int×Int)×Po)):Prop where
 mod:M0 w W
 h1:hp W l=some (.cells #[.map (some m1),.map (some m2)] 176 (0,0))
 a:eF eQ kx W m1 LA
 b:eF ie ox W m2 LB
def I2.on{b:List (Int×Ac)}{c:List ((Int×Int)×Po)}(h:I2 w W l d a b c)(m:M0 W e):I2 w e l d a b c:=
 ⟨h.mod.trans m,m.keep h.h1 id,h.a.mod m id,h.b.mod m id⟩
def I2.upA{j c:List (Int×Ac)}{g:List ((Int×Int)×Po)}(h:I2 w W l a d j g)(f:l≠a/\l≠d/\a≠d)(k:w.heap.size<=a)(m:aS (λb=>b=a) W e)(i:eF eQ kx e a c):I2 w e l a d c g:=
 ⟨h.mod.on m λb n=>.inr qZ,m.keep h.h1 f.1,i,h.b.mod m f.2.2.symm⟩
def I2.upB{g:List (Int×Ac)}{j c:List ((Int×Int)×Po)}(h:I2 w W l d a g j)(f:l≠d/\l≠a/\d≠a)(k:w.heap.size<=a)(m:aS (λb=>b=a) W e)(i:eF ie ox e a c):I2 w e l d a g c:=
 ⟨h.mod.on m λb i=>.inr qZ,m.keep h.h1 f.2.1,h.a.mod m f.2.2,i⟩
def CJ{n:Int}(a:n≠0):(lk (t8 f A) n).isSome=true↔∃x∈A,x.num=n:=by
 have:lk (t8 f A) n=A.find? λx=>decide (x.num=n):=by
  rw[<-Ej];simp only[t8,lk,aa (lv a)]
 rw[this,List.find?_isSome];simp
set_option maxRecDepth 10000 in
set_option maxHeartbeats 2000000 in
def Tt{va vp:Vt_}{P:List Po}{K:aY}(hA:Rd w 4 va A.length (A.flatMap db))(hP:Rd w 4 vp P.length (P.flatMap dy))(hn:A.length<4294967296)(hl:P.length<=1024)
  (uA:∀a∈A,0<=a.num/\a.num<4294967296)(uP:∀p∈P,((0<=p.c/\p.c<4294967296)/\(0<=p.a/\p.a<4294967296))/\(-9223372036854775808<=p.q/\p.q<9223372036854775808)/\(-9223372036854775808<=p.b/\p.b<9223372036854775808))
  (hok:vq f A P->∀L l F,ig L l F ⟨f,A,P⟩->M0 w L->(∀b,F b->w.heap.size<=b)->K (.tuple #[eu l,gI 0]) L)
  (E:¬vq f A P->∀L,M0 w L->K (.tuple #[.pointer none,gI 2]) L):
  Ca pQ 50 #[.int .i64 f,va,vp] w K:=by
 obtain⟨aA,cA,rfl⟩:=hA.isSl;obtain⟨aP,cP,rfl⟩:=hP.isSl;refine cN Tryz.func50 ?_;refine KW hA hn λb w1 mo1 M=>?_;cases b with
 |false=>
  refine kf (v:=.bool true) (w' :=w1) (by simp[go_sem]) ?_;rw[jV];exact E (λh=>by have:=M.2 ⟨h.len,h.fund,h.pa,h.tot⟩;cases this) _ mo1
 |true=>
  obtain⟨h64,hf,hpa,htot⟩:=M.1 rfl;refine kf (v:=.bool false) (w' :=w1) (by simp[go_sem]) ?_;rw[ij];refine HE λw2 l F q2 mo2 f2=>?_;obtain⟨⟨J,Y,A0,B0,h1,h2,h3,h4,h5,h6,h7⟩,-⟩:=q2;obtain rfl:B0=[]:=List.Perm.eq_nil h5;have hl0:=f2 l ((h6 l).2 (.inl rfl));have hm10:=f2 J ((h6 J).2 (.inr (.inl rfl)));have hm20:=f2 Y ((h6 Y).2 (.inr (.inr rfl)));have hs1:=mo1.size;have fr0:I2 w w2 l J Y A0 []:=⟨mo1.trans mo2,h1,h2,h3⟩
  obtain rfl:A0=[(0,nu 0)]:=List.perm_singleton.1 h4;simp[go_sem,eu,bT h1];refine gL (enc:=eQ) (ev:=kx) (x:=0) (v:=nu f) oN kM h2 λw3 hA3 mo3 hs3=>?_;have j:I2 w w3 l J Y (t8 f []) []:=fr0.upA h7 qZ mo3 hA3
  (try simp[go_sem])
  refine uo (λs W=>∃i:Nat,i<=A.length/\s=(gI i,())/\I2 w W l J Y (t8 f (A.take i)) [])
   (λs _=>match s.1 with| .int _ i=>A.length - i.toNat|_=>0) ⟨0,qZ,rfl,j⟩ ?_
  rintro⟨_,_⟩ W ⟨i,hi,⟨⟩,k⟩ KN N;refine lE ?_;intro _;by_cases d:i<A.length
  ·obtain⟨b,off,cap,C,e',fz,e,hC,c0,c1,c2,c3⟩:=Ya (hA.mod k.mod dS) d;cases e;have hw:=DX (i:=i) qZ;refine kf (v:=.bool true) (w' :=W) (by simp[go_sem,d]) ?_;rw[jV];refine kf (by simp[-Int.natCast_add,go_sem,d];first|exact⟨rfl,rfl⟩|exact rfl) ?_;refine kf (by simp[-Int.natCast_add,go_sem,d,hC,c0,c1,c2,c3];first|exact⟨rfl,rfl⟩|exact rfl) ?_;refine kf (by simp[go_sem];first|exact⟨rfl,rfl⟩|exact rfl) ?_;refine Ie (by simp[-Int.natCast_add,go_sem];first|exact⟨rfl,rfl⟩|exact rfl) ?_;have hlm:=ay k.h1;generalize r:W.alloc _=H;have u:M0 W H:=by subst r;exact(aS.refl _ W).alloc _
   have hloc:hp H W.heap.size=some (.cells #[.int .u32 A[i].num,gI A[i].cash,.bool A[i].kil,.bool A[i].dfl] 100 (0,0)):=by subst r;simp[go_sem]
   have Q:=k.on (u.trans (aS.refl _ H).drew);simp[-Int.natCast_add,go_sem,eu,bT hloc,bT (u.keep k.h1 id)];refine gL (enc:=eQ) (ev:=kx) (x:=A[i].num) (v:=A[i]) oN kM Q.a λy hA2 mo hs=>?_;rw[Nf hpa d]at hA2;simp[-Int.natCast_add,go_sem,hw];exact N _ _ ⟨i+1,qZ,rfl,Q.upA h7 qZ mo hA2⟩ (by simp;omega)
  ·obtain rfl:i=A.length:=qZ;clear N;rw[aC (az _)]at k;refine kf (v:=.bool false) (w' :=W) (by simp[go_sem]) ?_;rw[ij];obtain⟨nk,hnk⟩:=df W.heap.size;refine kf (by simp[go_sem];first|exact⟨rfl,rfl⟩|exact rfl) ?_;rw[<-hnk];generalize r:W.alloc _=H;have u:M0 W H:=by subst r;exact(aS.refl _ W).alloc _
   have gk:hp H nk=some (.cells #[.int .u32 0,gU 0] 235 (0,0)):=by subst r hnk;simp[go_sem]
   have Q:=k.on u
   have hkl:l<nk/\J<nk/\Y<nk/\w.heap.size<=nk:=by
    have:=ay k.h1;have:=k.a.lt;have:=k.b.lt;have:=k.mod.size;omega
   simp[go_sem]
   refine uo (λs W=>∃(i:Nat) (o S q b:Int) (x1 x2:Vt_),i<=P.length/\s=(x1,x2,gI q,gI b,gI i,())/\tA (P.take i) o S q b/\(∀p∈P.take i,A8 A p)/\hp W nk=some (.cells #[.int .u32 o,gU S] 235 (0,0))/\I2 w W l J Y (t8 f A) (Qx (P.take i)))
    (λs _=>match s.2.2.2.2.1 with| .int _ i=>P.length - i.toNat|_=>0) ⟨0,0,0,0,0,_,_,qZ,rfl,tA.nil,by simp,gk,Q⟩ ?_
   clear r gk Q u k;rintro⟨y1,_⟩ W ⟨i,o,S,q,b,x1,x2,hi,⟨⟩,c,n,gk,k⟩ KN N;have hbd:=Sk n (by rw[aB];omega) o;rw[<-c.q,<-c.b]at hbd;refine lE ?_;intro _;by_cases d:i<P.length
   ·obtain⟨b0,off,cap,C,e',fz,e,hC,c0,c1,c2,c3⟩:=ag3 (hP.mod k.mod dS) d;cases e;have hmem:P[i]∈P:=av d;have hu:=uP P[i] hmem;have hw:=DX (i:=i) qZ;have htk:=sh d;have hbs:= @tA.bad_sum P i d o S q b c;have hbk:= @tA.bad_key A P i d o S q b c ⟨hu.1.1.1,hu.1.2.1⟩;have B:= @tA.step _ o S q b c P[i];have R:=λh=> @Ll P i d o S q b c h;rw[<-htk]at B;obtain⟨np,hnp⟩:=df W.heap.size;have lnk:=ay gk;have hgd:vq f A P->A8 A P[i]:=λh=>h.good _ hmem;have hpk:P[i].key=(P[i].c,P[i].a):=rfl;rw[hpk]at R hbk B;refine kf (v:=.bool true) (w' :=W) (by simp[go_sem,d]) ?_;rw[jV];refine kf (by simp[-Int.natCast_add,go_sem,d];first|exact⟨rfl,rfl⟩|exact rfl) ?_;refine kf (by simp[-Int.natCast_add,go_sem,d,hC,c0,c1,c2,c3];first|exact⟨rfl,rfl⟩|exact rfl) ?_;refine kf (by simp[go_sem];first|exact⟨rfl,rfl⟩|exact rfl) ?_;refine Ie (by simp[-Int.natCast_add,go_sem];first|exact⟨rfl,rfl⟩|exact rfl) ?_;rw[<-hnp];generalize hp0:P[i]=p at*;generalize r:W.alloc _=H;have u:M0 W H:=by subst r;exact(aS.refl _ W).alloc _
    have g1:hp H np=some (.cells #[.int .u32 p.c,gU p.a,gI p.q,gI p.b] 124 (0,0)):=by subst r hnp;simp[go_sem]
    refine kf (by simp[go_sem];first|exact⟨rfl,rfl⟩|exact rfl) ?_;refine kf (by simp[go_sem,bT g1];first|exact⟨rfl,rfl⟩|exact rfl) ?_;refine kf (by simp[go_sem];first|exact⟨rfl,rfl⟩|exact rfl) ?_;refine kf (by simp[go_sem,bT g1];first|exact⟨rfl,rfl⟩|exact rfl) ?_;refine kf (by simp[go_sem];first|exact⟨rfl,rfl⟩|exact rfl) ?_;obtain⟨nq,hnq⟩:=df H.heap.size;refine kf (by simp[go_sem];first|exact⟨rfl,rfl⟩|exact rfl) ?_;refine Ie (by simp[go_sem];first|exact⟨rfl,rfl⟩|exact rfl) ?_;rw[<-hnq];generalize hW2:H.alloc _=y;have mw2:M0 H y:=by subst hW2;exact(aS.refl _ H).alloc _
    have g2:=mw2.keep g1 id;have zgq:hp y nq=some (.cells #[.int .u32 p.c,gU p.a] 235 (0,0)):=by subst hW2 hnq;simp[go_sem]
    have I:=(u.trans mw2).keep gk id;have G:=k.on (u.trans mw2);have lnp:=ay g1;have lnq:=ay zgq;refine cG.at (λs z=>s=(x2,y1,())/\z=y/\(p.c≠o->q=0/\b=0)) ?_ ?_
    ·by_cases hc:p.c=o
     ·simp[go_sem,bT zgq,bT I,hc]
     ·simp[go_sem,bT zgq,bT I,hc];refine cG.at (λs z=>s=(.bool (decide (q≠0\/b≠0)),())/\z=y) ?_ ?_
      ·by_cases hq:q=0
       ·by_cases M:b=0
        ·simp[go_sem,hq,M]
        ·simp[go_sem,hq,M]
       ·simp[go_sem,hq]
      rintro _ y ⟨rfl,rfl⟩;refine jG ?_;intro _;by_cases D:q≠0\/b≠0
      ·simp only[aQ D,aw,cZ];exact E (λh=>hbs hc D ⟨h.srt,h.zero⟩) _ G.mod
      ·simp only[br D,aw,bj,da];obtain⟨e1,e2⟩:q=0/\b=0:=qZ;simp[e1,e2]
    rintro _ y ⟨rfl,rfl,hsum⟩;refine jG ?_;intro _;simp[go_sem,eu,bT G.h1,bT g2]
    have hl:∀z,M0 y z->(ju 173 (.map (some J)) (gU p.a) true).run pQ z=.ok (.tuple #[kx ((lk (t8 f A) p.a).getD ⟨0,0,false,false⟩),.bool (lk (t8 f A) p.a).isSome]) z:=λz m=>by
     have:=xL (P:=pQ) (enc:=eQ) (ev:=kx) (x:=p.a) oN kM UR (.inr ⟨J,rfl,(G.on m).a⟩);rw[qg]at this;exact this
    refine C6 (enc:=eQ) (ev:=kx) (x:=p.a) (kx ⟨0,0,false,false⟩) oN kM UR (.inr ⟨J,rfl,(G.on ((aS.refl _ y).drew)).a⟩) ?_;rw[qg];generalize(lk (t8 f A) p.a).getD ⟨0,0,false,false⟩=xa at hl|-;have ne1:np≠y.heap.size:=qZ;have ne2:l≠y.heap.size:=qZ;simp[go_sem,kx,bT G.h1,bT g2,ne1,ne2];refine⟨hl _ (((aS.refl _ y).alloc _).drew),?_⟩;generalize hW3:(World.alloc _ _).drew=T;have U:M0 y T:=by subst hW3;exact((aS.refl _ y).alloc _).drew
    have Z:=U.keep g2 id;have X:=U.keep zgq id;have O:=U.keep I id;have j:=G.on U;have ne3:nq≠y.heap.size:=qZ;have ne4:nk≠y.heap.size:=qZ
    have hv:(!uJ (o,S) (p.c,p.a))=(if p.c<o then true else if p.c=o then decide (p.a<=S)else false):=by
     unfold uJ;by_cases h1:p.c<o
     ·rw[ae h1];simp;omega
     ·rw[aa h1];by_cases h2:p.c=o
      ·rw[ae h2,dr];simp;omega
      ·rw[aa h2];simp;omega
    refine cG.at (λs z=>s=(.bool (!uJ (o,S) (p.c,p.a)),())/\z=T) ?_ ?_
    ·rw[hv];by_cases h1:p.c<o
     ·simp[go_sem,bT X,bT O,bT zgq,bT I,ne3,ne4,h1]
     ·by_cases h2:p.c=o
      ·simp[go_sem,bT X,bT O,bT zgq,bT I,ne3,ne4,h1,h2]
      ·simp[go_sem,bT X,bT O,bT zgq,bT I,ne3,ne4,h1,h2]
    clear hW3;rintro _ T ⟨rfl,rfl⟩;refine jG ?_;intro _;cases hk:uJ (o,S) (p.c,p.a)with
    |false=>
     simp only[Bool.not_false,aw,cZ];exact E (λh=>hbk hk ⟨h.srt,h.good⟩) _ j.mod
    |true=>
     simp only[jk,aw,bj,da];refine cG.at (λs z=>s=(.bool (decide (p.c=0\/p.a=0\/(lk (t8 f A) p.a).isSome=false\/(p.q=0/\p.b=0))),())/\z=T) ?_ ?_
     ·by_cases a1:p.c=0
      ·simp[go_sem,bT Z,a1]
      ·by_cases a2:p.a=0
       ·simp[go_sem,bT Z,a1,a2]
       ·cases a3:(lk (t8 f A) p.a).isSome
        ·simp[go_sem,bT Z,a1,a2,a3]
        ·by_cases a4:p.q=0
         ·by_cases a5:p.b=0
          ·simp[go_sem,bT Z,a1,a2,a3,a4,a5]
          ·simp[go_sem,bT Z,a1,a2,a3,a4,a5]
         ·simp[go_sem,bT Z,a1,a2,a3,a4]
     rintro _ T ⟨rfl,rfl⟩;refine jG ?_;intro _;by_cases t:p.c=0\/p.a=0\/(lk (t8 f A) p.a).isSome=false\/(p.q=0/\p.b=0)
     ·simp only[aQ t,aw,cZ];refine E (λh=>?_) _ j.mod;have g:=hgd h;rcases t with t|t|t|t
      ·exact g.c t
      ·exact g.a t
      ·rw[(CJ g.a).2 g.there]at t;cases t
      ·have:=g.some;simp[Po.isZ,t]at this
     simp only[br t,aw,bj,da];refine cG.at (λs z=>s=(.bool (!aW p.q (-10000000) 10000000|| !aW p.b (-1000000000000000) 1000000000000000),())/\z=T) ?_ ?_
     ·simp[go_sem,bT Z];refine gF hu.2.1 qZ ?_;cases hq:aW p.q (-10000000) 10000000
      ·simp[go_sem]
      ·simp[go_sem,bT Z];refine gF hu.2.2 qZ ?_;simp[go_sem]
     rintro _ T ⟨rfl,rfl⟩;refine jG ?_;intro _;have eq1:aW p.q (-MP) MP=aW p.q (-10000000) 10000000:=rfl;have eq2:aW p.b (-MF) MF=aW p.b (-1000000000000000) 1000000000000000:=rfl;by_cases hr:(!aW p.q (-10000000) 10000000|| !aW p.b (-1000000000000000) 1000000000000000)=true
     ·rw[hr];simp only[aw,cZ];refine E (λh=>?_) _ j.mod;have g:=hgd h;rw[<-eq1,<-eq2,g.q,g.b]at hr;cases hr
     rw[ez.2 hr];simp only[aw,bj,da]
     have hg:A8 A p:=by
      refine⟨λe=>t (.inl e),λe=>t (.inr (.inl e)),?_,?_,?_,?_⟩
      ·refine(CJ (f:=f) λe=>t (.inr (.inl e))).1 ?_;cases h:(lk (t8 f A) p.a).isSome with
       |true=>rfl
       |false=>exact absurd (.inr (.inr (.inl h))) t
      ·rw[Po.isZ,fj];exact λe=>t (.inr (.inr (.inr e)))
      ·rw[eq1];cases h:aW p.q (-10000000) 10000000 with
       |true=>rfl
       |false=>rw[h]at hr;exact absurd rfl hr
      ·rw[eq2];cases h:aW p.b (-1000000000000000) 1000000000000000 with
       |true=>rfl
       |false=>rw[h]at hr;simp at hr
     have hq2:=fQ.1 hg.q;have hb2:=fQ.1 hg.b;simp only[MP,MF]at hq2 hb2;have hwq:IntKind.i64.wrap (q+p.q)=q+p.q:=by rw[bU];omega
     have hwb:IntKind.i64.wrap (b+p.b)=b+p.b:=by rw[bU];omega
     have n1:l≠nk:=qZ;have n2:nq≠nk:=qZ;have n3:np≠nk:=qZ;simp[-Int.natCast_add,go_sem,eu,bT X,bT Z,bT O,bT j.h1,hwq,hwb,n1,n2,n3];generalize hW4:World.drew (World.drew _)=W4;have V:aS (λb=>b=nk) T W4:=by subst hW4;exact(((aS.refl (λb=>b=nk) T).setCell (b:=nk) (.inl rfl) _ _).setCell (b:=nk) (.inl rfl) _ _).drew.drew
     have gk4:hp W4 nk=some (.cells #[.int .u32 p.c,gU p.a] 235 (0,0)):=by subst hW4;simp[go_sem,bT O]
     have fr4:I2 w W4 l J Y (t8 f A) (Qx (P.take i)):=⟨j.mod.on V λb M=>.inr qZ,V.keep j.h1 n1,j.a.mod V qZ,j.b.mod V qZ⟩
     refine gL (enc:=ie) (ev:=ox) (x:=(p.c,p.a)) (v:=p) zM NA fr4.b λW5 hB mo hs=>?_;rw[R hk]at hB;rw[hw];refine N _ _ ⟨i+1,p.c,p.a,q+p.q,b+p.b,_,_,qZ,rfl,B hk hsum,λx hx=>?_,mo.keep gk4 qZ,fr4.upB h7 qZ mo hB⟩ (by simp;omega);rw[htk]at hx;rcases bm.1 hx with hx|hx
     ·exact n x hx
     ·rw[bN]at hx;subst hx;exact hg
   ·obtain rfl:i=P.length:=qZ;clear N;rw[aC (az _)]at k c n;refine kf (v:=.bool false) (w' :=W) (by simp[go_sem]) ?_;rw[ij];refine cG.at (λs z=>s=(.bool (decide (q≠0\/b≠0)),())/\z=W) ?_ ?_
    ·by_cases hq:q=0
     ·by_cases M:b=0
      ·simp[go_sem,hq,M]
      ·simp[go_sem,hq,M]
     ·simp[go_sem,hq]
    rintro _ _ ⟨rfl,rfl⟩;refine jG ?_;intro _;by_cases D:q≠0\/b≠0
    ·simp only[aQ D,aw,cZ];exact E (λh=>c.bad_end D h.zero) _ k.mod
    ·simp only[br D,aw,bj,da];obtain⟨rfl,rfl⟩:q=0/\b=0:=qZ;have ok:vq f A P:=⟨h64,hf,hpa,htot,c.srt,n,c.done⟩
     refine hok ok _ l F ⟨⟨J,Y,_,_,k.h1,k.a,k.b,cR _,cR _,h6,h7⟩,ok.ok uA λp hp=>(uP p hp).1.1⟩ k.mod λb M=>by have:=f2 b M;omega
end Go.Proofs
set_option maxRecDepth 100000
set_option maxHeartbeats 1000000
namespace Go.Proofs
open Go Go.Vc
attribute [local congr] aZ
variable {p:Nat}{W:Wt_}
def Wx(x y:Int×Od)(W:Wt_):(gx .neq uX false (GP x) (GP y)).run pQ W=.ok (.bool (!decide (x=y))) W:=by
 obtain⟨c,o⟩:=x;obtain⟨i,p⟩:=y;obtain⟨g,h,l,a,n⟩:=o;obtain⟨e,j,m,k,f⟩:=p
 have:(.ok (.bool (!decide (((c,⟨g,h,l,a,n⟩):Int×Od)=(i,⟨e,j,m,k,f⟩)))) W:Result Value)=.ok (.bool (!(decide (c=i)&& (decide (g=e)&& (decide (h=j)&& (decide (l=m)&& (decide (a=k)&& decide (n=f)))))))) W:=by
  congr 3;rw[dr];simp
 rw[this];simp[go_sem,GP,jD,dx]
 (repeat' split)<;>simp_all
set_option maxRecDepth 10000 in
set_option maxHeartbeats 1000000 in
def Jc{w:Wt_}{K:aY}{a b:Vt_}{c g:List (Int×Od)}(x:Rd w 6 a c.length (c.flatMap jD))(t:Rd w 6 b g.length (g.flatMap jD))(M:c.length<=100000)(q:∀r,M0 w r->K (.bool (decide (c=g))) r):Ca pQ 55 #[a,b] w K:=by
 refine cN Tryz.func55 ?_;obtain⟨N,J,C⟩:=x.isSl;obtain⟨O,L,B⟩:=t.isSl;have v:∀W,(builtin .len #[56] 3 #[false] #[a]).run pQ W=.ok (.value (gI (c.length:Int))) W:=λW=>by rw[C];simp[go_sem]
 refine sr (v _) ?_;refine iq (gI (g.length:Int)) w (by rw[B];simp[go_sem]) ?_;by_cases h:c.length=g.length
 rotate_left
 ·refine ax (.bool true) w (by simp[go_sem];omega) ?_;rw[jV];have j:c≠g:=λe=>h (by rw[e]);have:=q w (aS.refl _ _);rw[br j]at this;exact this
 refine ax (.bool false) w (by simp[go_sem];omega) ?_;rw[ij];refine sr (v _) ?_
 refine d8 (λst W=>∃k:Nat,st=(.bool false,gI k,())/\k<=c.length/\c.take k=g.take k/\M0 w W)
  (λst _=>match st.2.1 with| .int _ k=>c.length - k.toNat|_=>0) ⟨0,rfl,qZ,rfl,aS.refl _ _⟩ ?_
 rintro _ W ⟨k,rfl,H,f,m⟩ F p;refine lE ?_;intro _;by_cases l:k<c.length
 ·have n:(k:Int)<(c.length:Int):=qZ;refine dB n ?_;have md:=m.drew;have s:=x.mod md dS;have rb:=t.mod md dS;generalize W.drew=u at md s rb|-;have i:k<g.length:=qZ;obtain⟨I,po,z,y⟩:=Qf s l;obtain⟨G,P,E,A⟩:=Qf rb i;refine bQ (λW=>z W _) (cK (xW y) ?_);refine bQ (λW=>E W _) (cK (xW A) ?_);refine bQ (λW=>Wx _ _ W) ?_;by_cases o:c[k]=g[k]
  ·rw[aQ o,show(!true)=false from rfl,aw,aa dw];refine ax (gI ((k+1:Nat):Int)) u (by simp[go_sem];rw[fI qZ qZ]) ?_;refine p _ _ ⟨k+1,rfl,qZ,?_,md⟩ (by show c.length - (((k+1:Nat):Int)).toNat<c.length - ((k:Int)).toNat;omega);rw[cq l,cq i,f,o]
  ·rw[br o,show(!false)=true from rfl,aw,ae rfl];have j:c≠g:=λe=>o (by subst e;rfl);have:=q u md;rw[br j]at this;exact this
 ·obtain rfl:k=c.length:=qZ;refine eK ?_
  have D:c=g:=by
   rw[aV,h,aV]at f;exact f
  have:=q W m;rw[aQ D]at this;exact this
section
variable{w:Wt_}{b:Nat}{d nx fu:Int}{ss:Nat->Value}
def zk(h:nS w b d nx fu ss)(hs:∀i,3<=i->i<=7->∃a n c,ss i=.slice a n c):(iL 53 (bO b 3)).run pQ w=.ok (ss 3) w/\(iL 54 (bO b 4)).run pQ w=.ok (ss 4) w/\(iL 55 (bO b 5)).run pQ w=.ok (ss 5) w:=
 ⟨Hh h hs 3 qZ qZ,Hh h hs 4 qZ qZ,Hh h hs 5 qZ qZ⟩
def ZH(h:nS w b d nx fu ss)(hs:∀i,3<=i->i<=7->∃a n c,ss i=.slice a n c):(iL uL (bO b 0)).run pQ w=.ok (BM d nx fu ss) w:=by
 have e:hp w b=some (.cells (uE d nx fu ss).toArray uL (0,0)):=h;obtain⟨_,_,_,g⟩:=hs 3 qZ qZ;obtain⟨_,_,_,k⟩:=hs 4 qZ qZ;obtain⟨_,_,_,f⟩:=hs 5 qZ qZ;obtain⟨_,_,_,j⟩:=hs 6 qZ qZ;obtain⟨_,_,_,l⟩:=hs 7 qZ qZ;simp only[uE,BM,g,k,f,j,l]at e|-;simp[go_sem,e]
end
abbrev Oe:TypeId:=24
def ZE(W:Wt_):∃a,(iA Oe true (.tuple #[])).run pQ W=.ok (bO W.heap.size 0) a/\hp a W.heap.size=some (.cells #[.pointer none] Oe (0,0))/\M0 W a:=
 ⟨W.alloc (.cells #[.pointer none] Oe),by simp[go_sem],by simp[go_sem],(aS.refl _ W).alloc _⟩
def Yh{x:Vt_}(v:Nat)(h:hp W p=some (.cells #[x] Oe (0,0))):∃a,(iS Oe (bO p 0) (dL v)).run pQ W=.ok () a/\hp a p=some (.cells #[dL v] Oe (0,0))/\aS (λy=>y=p) W a:=
 ⟨W.setCell ⟨p,0,none⟩ (dL v),by simp[go_sem,h,dL],by simp[go_sem,h],(aS.refl (λy=>y=p) W).setCell (.inl rfl) _ _⟩
def Le{v:Nat}(h:hp W p=some (.cells #[dL v] Oe (0,0))):(iL Oe (bO p 0)).run pQ W=.ok (dL v) W:=by simp[go_sem,h,dL]
abbrev PoB(W:Wt_)(p:Nat)(x:Po):Prop:=hp W p=some (.cells (dy x).toArray 124 (0,0))
def ae0{x:Po}(h:PoB W p x):(iL 45 (bO p 0)).run pQ W=.ok (gU x.c) W:=by
 have a:hp W p=some (.cells (dy x).toArray 124 (0,0)):=h;simp only[dy]at a;simp[go_sem,a]
def ab0{s:Vt_}{L:List Po}(h:Rd W 4 s L.length (L.flatMap dy)){i:Nat}(hi:i<L.length):
  ∃b a,(iX 55 s (gI (i:Int))).run pQ W=.ok (bO b a) W/\(iL 124 (bO b a)).run pQ W=.ok (ox L[i]) W:=by
 obtain⟨b,a,f,c,e,g⟩:=h.item (show∀x,(dy x).length=4 from λ_=>rfl) hi rfl;have u:Tryz.prog.underlying 55=some (.slice 124):=cy;refine⟨b,a+i*4,by rw[c];simp[go_sem,hi,bD,u],?_⟩;exact fK (P:=pQ) (t:=124) cy (show Tryz.prog.cellsOf 124=3+1 by kernel_rfl) rfl g
def Pz{S:bo}(h:S.Ok):S.state.ords.length<=100000/\S.state.bids.length<=100000:=by
 have h1:=Bp h.ord S.nums.length;have a:=AN h.ord S.nums.length;unfold vQ at h1;unfold vH at a;rw[aV]at h1 a;have e:=h.cal.len;have c:S.nums.length=S.cal.l.length:=by unfold bo.nums;rw[ah]
 exact⟨by show(S.nums.flatMap _).length<=_;omega,by show(S.nums.flatMap _).length<=_;omega⟩
def SF(s:zg)(n:Int):({sx s with bk:=eL (sx s).bk n Bk.empty}:bo)=sx s:=by
 have e:eL (λ_:Int=>Bk.empty) n Bk.empty=λ_=>Bk.empty:=by
  funext m;unfold eL;split<;>rfl
 show(⟨(sx s).cal,(sx s).led,eL (λ_:Int=>Bk.empty) n Bk.empty,(sx s).bd,(sx s).next⟩:bo)=_;rw[e];rfl
set_option maxRecDepth 10000 in
set_option maxHeartbeats 8000000 in
def QB{w:Wt_}{K:aY}{ss:Nat->Value}{s:zg}(h:tj w ss s)(hf:s.Fit)(hl:s.accts.length<=100000/\s.cts.length<=100000/\s.poss.length<=1024/\s.ords.length<=100000/\s.bids.length<=100000)
  (hK:∀(x:Vt_) (e:Int) (w' :Wt_),M0 w w' ->(match yw s with|none=>e=2/\x=.pointer none|some S=>e=0/\∃v F,x=dL v/\oP w' v F S/\∀y,F y->w.heap.size<=y)->K (.tuple #[x,gI e]) w'):Ca pQ 16 #[BM s.day s.next s.fund ss] w K:=by
 obtain⟨hlA,hlC,hlP,hlO,hlB⟩:=hl;have t:=h.sl;have bad:yw s=none->∀w',M0 w w' ->K (.tuple #[.pointer none,gI 2]) w' :=λhn w' m=>hK _ 2 w' m (by rw[hn];exact⟨rfl,rfl⟩);have nf:¬Bz s->yw s=none:=λhn=>by unfold yw;rw[aa hn]
 refine cN Tryz.func16 ?_;obtain⟨w1,e1,b1,m1⟩:=NI s.day s.next s.fund ss w;obtain⟨r,hsb⟩:∃p,p=w.heap.size:=⟨_,rfl⟩
 rw[<-hsb]at e1 b1;refine bh e1 (bh (uT r 0 qZ _) (bh (GL b1).1 ?_));refine bh (uT r 4 qZ _) (bh (zk b1 t).2.1 ?_);have h1:=h.md0 m1;refine HG h1.cts hlC hf.cts hf.day (λhc16 hcup c Fc w2 qc m2 nc=>?_) λhcn w2 m2=>?_
 rotate_left
 ·refine ax (.pointer none) w2 (by simp[go_sem]) (ax (gI 2) w2 (by simp[go_sem]) ?_);refine jZ ?_;exact bad (nf λh0=>hcn ⟨h0.len,h0.cts⟩) _ (m1.trans m2)
 refine ax (fF c) w2 (by simp[go_sem]) (ax (gI 0) w2 (by simp[go_sem]) ?_);refine eK ?_;have M2:=m1.trans m2;have h2:=h.md0 M2;have b2:nS w2 r s.day s.next s.fund ss:=m2.hpk b1 id;refine bh (uT r 2 qZ _) (bh (GL b2).2.2 ?_);refine bh (uT r 3 qZ _) (bh (zk b2 t).1 ?_);refine bh (uT r 5 qZ _) (bh (zk b2 t).2.2 ?_);refine Tt (f:=s.fund) h2.accts h2.poss qZ hlP (λa ha=>(hf.accts a ha).1) hf.poss (λhF0 C l Fl ql J nl=>?_) λhF0 C J=>?_
 rotate_left
 ·refine ax (.pointer none) C (by simp[go_sem]) (ax (gI 2) C (by simp[go_sem]) ?_);refine jZ ?_;exact bad (nf λh0=>hF0 h0.led) _ (M2.trans J)
 refine ax (eu l) C (by simp[go_sem]) (ax (gI 0) C (by simp[go_sem]) ?_);refine eK ?_;have M3:=M2.trans J;have b3:nS C r s.day s.next s.fund ss:=J.hpk b2 id;refine cG.at (λst W=>st=(.bool (decide (¬(1<=s.next/\s.next<=jH+1))),())/\C=W) ?_ ?_
 ·refine bh (uT r 1 qZ _) (bh (GL b3).2.1 ?_);refine dq ?_;by_cases c1:s.next<1
  ·rw[aw,ae (by simpa using c1)];have:¬1<=s.next:=qZ;exact⟨by simp[this],rfl⟩
  rw[aw,aa (by simpa using c1)];refine bh (uT r 1 qZ _) (bh (GL b3).2.1 ?_);refine ax (.bool (decide (¬(1<=s.next/\s.next<=jH+1)))) C ?_ ⟨rfl,rfl⟩;have c1' :1<=s.next:=qZ;simp[go_sem,c1',jH]
 rintro _ _ ⟨rfl,rfl⟩;refine jG ?_;intro _;by_cases hnx:1<=s.next/\s.next<=jH+1
 rotate_left
 ·simp only[aQ hnx];rw[jV];exact bad (nf λh0=>hnx h0.next) _ M3
 simp only[br (λhcc:¬(1<=s.next/\s.next<=jH+1)=>hcc hnx)];rw[ij];have bc:∀x,Fc x->w1.heap.size<=x/\x<w2.heap.size:=λx V=>⟨nc x V,qc.lt V⟩
 have bl:∀x,Fl x->w2.heap.size<=x/\x<C.heap.size:=λx V=>⟨nl x V,ql.lt V⟩
 replace qc:=qc.mod J dS;have z1:=m1.size;have z2:=m2.size;have z3:=J.size;have hlsb:r<w1.heap.size:=ay b1;obtain⟨nb,hnb⟩:=df C.heap.size;have m4:M0 C (C.alloc (.map #[] 0)):=(aS.refl _ C).alloc _;have ab:eF eQ fa (C.alloc (.map #[] 0)) nb ([]:List (Int×Nat)):=by rw[hnb];exact eF.new C
 refine ax (.map (some nb)) (C.alloc (.map #[] 0)) (by rw[hnb];simp[go_sem]) ?_;generalize C.alloc (.map #[] 0)=w4 at m4 ab|-;have z4:=m4.size;have bb:=ab.lt;replace qc:=qc.mod m4 dS;replace ql:=ql.mod m4 dS;obtain⟨nd,hnd⟩:=df w4.heap.size;have m5:M0 w4 (w4.alloc (.map #[] 0)):=(aS.refl _ w4).alloc _;have ad:eF eQ xk (w4.alloc (.map #[] 0)) nd ([]:List (Int×Value)):=by rw[hnd];exact eF.new w4
 refine ax (.map (some nd)) (w4.alloc (.map #[] 0)) (by rw[hnd];simp[go_sem]) ?_;generalize w4.alloc (.map #[] 0)=w5 at m5 ad|-;have z5:=m5.size;replace qc:=qc.mod m5 dS;replace ql:=ql.mod m5 dS;replace ab:=ab.mod m5 id;have M5:=(M3.trans m4).trans m5;have b5:nS w5 r s.day s.next s.fund ss:=m5.hpk (m4.hpk b3 id) id;refine bh (uT r 1 qZ _) (bh (GL b5).2.1 ?_);refine ax (.agg #[fF c,eu l,.map (some nb),.map (some nd),gQ s.next]) w5 (by simp[go_sem,fF,eu]) ?_;refine Tl (w:=w1) (S:=sx s) (((m2.trans J).trans m4).trans m5) qc ql ab ad bc bl qZ qZ qZ qZ qZ qZ qZ λv w6 O v6 m6 n6=>?_;rw[SC]at v6;replace v6:qN w6 v c l nb nd [] [] O (sx s):=v6;have b6:nS w6 r s.day s.next s.fund ss:=m6.hpk b1 id;obtain⟨w7,e7,b7,m7⟩:=ZE w6;obtain⟨Q,hpb⟩:∃p,p=w6.heap.size:=⟨_,rfl⟩
 rw[<-hpb]at e7 b7;obtain⟨w8,e8,b8,m8⟩:=Yh v b7;refine bh e7 (gg e8 ?_);have M68:M0 w6 w8:=m7.on m8 λy g=>.inr qZ;have z6:=m6.size;have v8:=v6.mod M68 λ_ _ _ h=>h;refine Dn v8.cal λgv w9 ht m9=>?_;have M69:=M68.trans m9;have z69:=M69.size;have v9:=v6.mod M69 λ_ _ _ h=>h;have b9:hp w9 Q=some (.cells #[dL v] Oe (0,0)):=m9.hpk b8 id;have s9:nS w9 r s.day s.next s.fund ss:=M69.hpk b6 id;have hpl6:Q=w6.heap.size:=hpb;have hf0:∀y,kK O y->w1.heap.size<=y/\y<Q:=λy ⟨pt,g⟩=>⟨n6 pt y g,by have:=v6.lt g;omega⟩
 have hpb9:Q<w9.heap.size:=ay b9;have h0pb:¬kK O Q:=λB=>by have:=hf0 Q B;omega
 have h0sb:¬kK O r:=λB=>by have:=hf0 r B;omega
 have M19:M0 w w9:=(m1.trans m6).trans M69;let I:(Nat->Prop)->Nat->World->Prop:=λX i W=>∃(A' :List (Int×Nat)) (o:Pt->Nat->Prop),qN W v c l nb nd A' [] o (sx s)/\(∀n,(lk A' n).isSome=true↔∃k∈s.cts.take i,k.spec.num=n)/\(∀y,X y↔kK o y)/\∀y,kK o y->w1.heap.size<=y/\y≠Q;obtain⟨hcs,hrise⟩:=tI hcup;refine Uu ?_;refine OP (X0:=kK O) (fv:=λk:Ct=>.agg (dD k).toArray) (asg:=λx W K=>rx pQ (tW kP) W λv w1=>vD pQ (oT kP v x) w1 λw2=>K v w2) (Pv:=FW kP dD) (xs:=s.cts) ht KA Ec I (λ_ _ _=>False) ?_ (λ_ _ _ _ _ h=>h.elim) (λx ⟨pt,V⟩=>v9.lt V) ⟨[],O,v9,λn=>?_,λy=>aG,λy g=>⟨(hf0 y g).1,by have:=(hf0 y g).2;omega⟩⟩ ?_ ?_ (λ_ _ _ _ _ h=>h.elim)
 ·rintro X i W W' H ⟨A',o,i1,i2,i3,i4⟩ hm hX;exact⟨A',o,i1.mod hm λpt y g=>hX y ((i3 y).2 ⟨pt,g⟩),i2,i3,i4⟩
 ·constructor
  ·intro B;cases B
  ·grind
 ·rintro X i hi W q vv ⟨A',o,i1,i2,i3,i4⟩ mW hX hdq hqW ⟨rfl,zgq⟩ ⟨rec0,hrec⟩ KN KJ hKN hKJ;have bW:hp W Q=some (.cells #[dL v] Oe (0,0)):=mW.hpk b9 h0pb;obtain⟨n,hn⟩:=df ((s.cts[i]).spec.num);have P:M0 W W.drew:=(aS.refl _ W).drew;have i1d:=i1.mod P λ_ _ _ h=>h;have gqd:Hj W.drew q s.cts[i]:=P.hpk zgq id;have bd:=P.hpk bW id;have hpW:Q<W.heap.size:=ay bW;have hzd:W.drew.heap.size=W.heap.size:=rfl;generalize W.drew=W2 at P i1d gqd bd hzd|-;refine cK (Le bd) ?_;simp only[dL,cj];refine bQ (uf 2 qZ) (cK (ZJ _ i1d.blk) ?_);refine cT (bO q 0) (λW=>by simp[go_sem]) (cT (bO q 0) (λW=>by simp[go_sem]) (cK (Sj gqd) ?_));refine Fo λbk Gb C q3 J n3=>?_;have i1e:=i1d.mod J λ_ _ _ h=>h;refine⟨Sj (J.hpk gqd id),ZJ _ i1e.blk,Le (J.hpk bd id),?_⟩;rw[<-hn]
  have hA:lk A' n=none:=by
   cases hl:lk A' n with
   |none=>rfl
   |some b=>
    obtain⟨k,hk,hkn⟩:=(i2 n).1 (by rw[hl];rfl);exfalso
    have h1:k.spec.num<(s.cts[i]).spec.num:=by
     have hd:s.cts=s.cts.take i++s.cts.drop i:=(cH i s.cts).symm;have hr:=hrise;unfold nm at hr;rw[hd,de]at hr;exact hr.2.2 k hk _ (by rw[dA hi];exact ai)
    omega
  refine gL (enc:=eQ) (ev:=fa) (x:=n) (v:=bk) wA kM i1e.mbk λw4 a4 m4 hs4=>?_;have v4:=i1d.addBk (n:=n) hA J q3 n3 a4 m4;rw[SF]at v4;have hnb:X nb:=(i3 nb).2 ⟨.mb,(i1.fmb nb).2 rfl⟩;have hz3:=J.size;have hz2:=P.size;refine hKN (kK (xS o (.bk n) Gb)) w4 ⟨_,_,v4,λm=>?_,λy=>aG,λy ⟨pt,g⟩=>?_⟩ (((P.to).trans (J.to)).trans (m4.mono λy _ g=>by rw[g];exact hnb)) λy ⟨pt,g⟩=>⟨?_,v4.lt g⟩
  ·rw[kJ,cq hi];constructor
   ·intro hm;by_cases hnm:n=m
    ·grind
    ·grind
   ·rintro⟨k,hk,hkm⟩;by_cases hnm:n=m
    ·rw[ae hnm];rfl
    ·rw[aa hnm];refine(i2 m).2 ?_;rcases bm.1 hk with hk|hk
     ·exact⟨k,hk,hkm⟩
     ·grind
  ·by_cases hpt:pt=.bk n
   ·subst hpt;rw[lF]at g;have:=n3 y g;exact⟨qZ,qZ⟩
   ·rw[fk hpt]at g;exact i4 y ⟨pt,g⟩
  ·by_cases hpt:pt=.bk n
   ·subst hpt;rw[lF]at g;have:=n3 y g;exact .inr qZ
   ·rw[fk hpt]at g;exact .inl ((i3 y).2 ⟨pt,g⟩)
 rintro X W d hd ⟨A',o,i1,i2,i3,i4⟩ mW hdef hX
 have vR:pO W v c l nb nd A' [] o (sx s):=⟨i1,λn=>by
  rw[dr,i2 n,aV,<-ry];unfold bo.nums;rw[aL];exact aG,λn hn=>(by cases hn)⟩
 have hdn:∀y,kK o y->y≠d:=λy g e=>by
  subst e;rcases(hX y ((i3 y).2 g)).2 with h' |h'
  ·grind
  ·omega
 have hdW:d<W.heap.size:=ay hdef;have bW:hp W Q=some (.cells #[dL v] Oe (0,0)):=mW.hpk b9 h0pb;have sW:nS W r s.day s.next s.fund ss:=mW.hpk s9 h0sb;have MW:M0 w W:=M19.on mW λy g=>.inr (by have:=(hf0 y g).1;omega);have hW:=h.md0 MW;have hzW:=MW.size;refine Nn ?_;simp only[jx];refine bh (uT r 5 qZ _) (bh (zk sW t).2.2 ?_);obtain⟨pa,pc,hp5⟩:=hW.poss.isSl;refine iq (gI (s.poss.length:Int)) W (by rw[hp5];simp[go_sem]) ?_
 refine d8 (λst W' =>∃i:Nat,i<=s.poss.length/\st=(.pointer none,gI 0,gI i,())/\(∀p∈s.poss.take i,bt s.cts p.c=0)/\M0 W W')
  (λst _=>match st.2.2.1 with| .int _ i=>s.poss.length - i.toNat|_=>0) ⟨0,qZ,rfl,λp hp=>(by rw[dR]at hp;cases hp),aS.refl _ _⟩ ?_
 rintro _ W1 ⟨i,hi,rfl,hal,u⟩ KN hKN;refine lE ?_;intro _;have E:=u.hpk hdef id;have bW1:=u.hpk bW id;have v1:=vR.md0 u;by_cases hlt:i<s.poss.length
 ·have hlt' :(i:Int)<(s.poss.length:Int):=qZ;refine dB hlt' ?_;obtain⟨eb,eo,e10,e11⟩:=ab0 (hW.poss.mod u dS) hlt;refine bh e10 (bh e11 ?_);obtain⟨x,V⟩:=df (s.poss[i]);rw[<-V];obtain⟨w2',R,e2',e3',b3',N⟩:=Ua x W1;obtain⟨p,hp0⟩:=df W1.heap.size;rw[<-hp0]at e2' e3' b3';refine bh e2' (gg e3' ?_);refine bh (Le (N.hpk bW1 id)) ?_;refine ax (bO p 0) R (by simp[go_sem]) (bh (ae0 b3') ?_);refine Cd (v1.md0 N) λw4' m4' =>?_;obtain⟨k,hk⟩:=df (dI (sx s).cal.l x.c);rw[<-hk];refine dq ?_;refine dq ?_;refine zV _ λD b5' m5' =>?_;obtain⟨z,hz0⟩:=df w4'.heap.size;rw[<-hz0]at b5' |-;refine Mi (k' :=k.1) b5' λL b6' A=>?_;have M6' :M0 W1 L:=((N.trans m4').trans m5').on A λy g=>.inr (by have:=(N.trans m4').size;omega);refine dq ?_;by_cases hca:bt (sx s).cal.l x.c=0
  ·rw[aQ hca,show(!true)=false from rfl,aw,aa dw];refine ax (gI ((i+1:Nat):Int)) L (by simp[go_sem];rw[fI qZ qZ]) ?_;refine hKN _ _ ⟨i+1,qZ,rfl,λy g=>?_,u.trans M6'⟩ (by show s.poss.length - (((i+1:Nat):Int)).toNat<s.poss.length - ((i:Int)).toNat;omega);rw[cq hlt,<-V]at g;rcases bm.1 g with g|g
   ·exact hal y g
   ·rw[bN.1 g];exact hca
  ·rw[br hca,show(!false)=true from rfl,aw,ae rfl];refine yH (M6'.hpk E id) λW9 mr=>?_;refine bad (nf λh0=>hca ?_) _ (((MW.trans u).trans M6').on mr λy g=>.inr ?_)
   ·rw[V];exact h0.poss _ (av hlt)
   ·have:=M19.size;omega
 obtain rfl:i=s.poss.length:=qZ;refine eK ?_;rw[aV]at hal;have h0:Bz s:=⟨hc16,hcup,hF0,hnx,hal⟩
 have sW1:nS W1 r s.day s.next s.fund ss:=u.hpk sW id;have hW1:=hW.md0 u;have hzW1:=u.size;refine bh (Le bW1) (bh (ZH sW1 t) ?_);have G:∀y,kK o y->w.heap.size<=y:=λy g=>by have:=(i4 y g).1;omega
 have hfr:yw s=(Co s).bind λS=>if S.state.ords=s.ords/\S.state.bids=s.bids then some S else none:=by unfold yw;rw[ae h0]
 have hdw:w.heap.size<=d:=by have:=M19.size;omega
 refine Qa (s:=s) v1 (rH.zero h0 hf) hW1 hf hlO hlB (λj y hj1 hj2 g B=>by have:=G y B;have:=(h j hj1 hj2).lt g;omega) (λT D' fp'' w2' hT vT hI mT nT=>?_) λw2' hT mT=>?_
 rotate_left
 ·refine jZ ?_;refine yH (mT.hpk E λB=>hdn d B rfl) λW9 mr=>?_;refine bad (by rw[hfr];unfold Co;rw[hT];rfl) _ (((MW.trans u).on mT λy g=>.inr (G y g)).on mr λy g=>.inr qZ)
 refine eK ?_;obtain⟨U,hU⟩:=hI;have hfl:Co s=some T:=hT;have hnpb:¬kK o Q:=λB=>(i4 Q B).2 rfl;have bW2:=mT.hpk bW1 hnpb;have M2' :M0 w w2' :=(MW.trans u).on mT λy g=>.inr (G y g);have hsbn:¬kK o r:=λB=>by have:=(i4 r B).1;omega
 have sW2:nS w2' r s.day s.next s.fund ss:=mT.hpk sW1 hsbn;have hdef2:=mT.hpk E λB=>hdn d B rfl;refine bh (Le bW2) ?_;refine xo vT hU.ok λss' tb' lo R sT hlo N hb' =>?_;obtain⟨w4',e4',b4',m4'⟩:=Ay R;obtain⟨tb,htb⟩:∃p,p=R.heap.size:=⟨_,rfl⟩
 rw[<-htb]at e4' b4'
 have Z:∀i,3<=i->i<=7->∃a n c,ss' i=.slice a n c:=λi hi hj=>by
  obtain⟨a,cc,hs',-⟩:=(sT.own i hi hj).isSl;exact⟨_,_,_,hs'⟩
 obtain⟨D,e5',b5',m5'⟩:=T5 (d:=T.cal.day) (n:=T.next) (f:=T.led.fund) (ss:=ss') b4' rfl Z;refine bh e4' (gg e5' ?_);have M45:M0 R D:=m4'.on m5' λy g=>.inr qZ;have M35:M0 w2' D:=N.trans M45;have sT5:=sT.mod M45 id λ_ _ _ _ _ h=>h.elim;have hO6:Rd D 6 (ss' 6) T.state.ords.length (T.state.ords.flatMap jD):=(sT5.own 6 qZ qZ).rd;have hO7:Rd D 6 (ss' 7) T.state.bids.length (T.state.bids.flatMap jD):=(sT5.own 7 qZ qZ).rd;have h5' :=h.md0 (M2'.trans M35);have sW5:nS D r s.day s.next s.fund ss:=M35.hpk sW2 id;have Y:T.state.ords.length<=100000/\T.state.bids.length<=100000:=Pz hU.ok;refine cG.at (λst W' =>st=(.bool (!decide (T.state.ords=s.ords/\T.state.bids=s.bids)),())/\M0 D W') ?_ ?_
 ·refine bh (uT tb 6 qZ _) (bh (Be b5' Z).1 ?_);refine bh (uT r 6 qZ _) (bh (Be sW5 t).1 ?_);refine Jc hO6 h5'.ords Y.1 λL A=>?_;by_cases c1:T.state.ords=s.ords
  rotate_left
  ·refine dB c1 ?_;exact⟨by simp[c1],A⟩
  refine ey c1 ?_;have b6' :nS L tb T.cal.day T.next T.led.fund ss' :=A.hpk b5' id;have sW6:nS L r s.day s.next s.fund ss:=A.hpk sW5 id;refine bh (uT tb 7 qZ _) (bh (Be b6' Z).2 ?_);refine bh (uT r 7 qZ _) (bh (Be sW6 t).2 ?_);refine Jc (hO7.mod A dS) (h5'.md0 A).bids Y.2 λw7' m7' =>?_;refine tX (.bool (!decide (T.state.ords=s.ords/\T.state.bids=s.bids))) c1 ?_;exact⟨rfl,A.trans m7'⟩
 rintro _ L ⟨rfl,A⟩;refine jG ?_;intro _;have M:=M35.trans A;by_cases B:T.state.ords=s.ords/\T.state.bids=s.bids
 ·rw[aQ B,show(!true)=false from rfl,aw,aa dw];refine bh (Le (M.hpk bW2 id)) ?_;refine yH (M.hpk hdef2 id) λW9 mr=>?_;refine hK (dL v) 0 W9 ((M2'.trans M).on mr λy g=>.inr qZ) ?_;rw[hfr,hfl,Option.bind_some,ae B];refine⟨rfl,v,kK fp'',rfl,((vT.md0 M).mod mr λpt y g e=>?_).q,λy g=>?_⟩
  ·rcases nT y ⟨pt,g⟩with h' |h'
   ·exact hdn y h' e
   ·omega
  ·rcases nT y g with h' |h'
   ·exact G y h'
   ·omega
 ·rw[br B,show(!false)=true from rfl,aw,ae rfl];refine yH (M.hpk hdef2 id) λW9 mr=>?_;refine bad ?_ _ ((M2'.trans M).on mr λy g=>.inr qZ);rw[hfr,hfl,Option.bind_some,aa B]
end Go.Proofs
namespace Go.Proofs
open Go Go.Vc
attribute [local congr] aZ
def wN(x:Int×Od):(jD x).length=6:=rfl
abbrev ae3:TypeId:=56
def ZC:Tryz.prog.underlying ae3=some (.slice 132):=cy
end Go.Proofs
set_option maxRecDepth 100000
set_option maxHeartbeats 1000000
namespace Go.Proofs
open Go Go.Vc
attribute [local congr] aZ
def Yo(a:Ac)(W:Wt_):(gx .neq 100 false (kx a) (kx a)).run pQ W=.ok (.bool false) W:=by simp[go_sem,kx]
def Zt(a:Po)(W:Wt_):(gx .neq 124 false (.agg (dy a).toArray) (.agg (dy a).toArray)).run pQ W=.ok (.bool false) W:=by simp[go_sem,dy]
def Zy(a:Int×Od)(W:Wt_):(gx .neq 132 false (.agg (jD a).toArray) (.agg (jD a).toArray)).run pQ W=.ok (.bool false) W:=by simp[go_sem,jD,dx]
def Yb(a:Ct)(w:Wt_):(Op.equalIn 10000 120 (.agg (dD a).toArray) (.agg (dD a).toArray)).run pQ w=.ok true w:=by
 have u:Tryz.prog.underlying 120=some (.struct (Tryz.prog.fieldsOf 120)):=cy;have h:Tryz.prog.stoodInHeld 120=false:=cy;rw[run_equalIn_struct w 9999 120 _ _ u h];unfold Program.fieldsOf;rw[Tryz.underlying120]
 have e:∀(t:TypeId) (q:IntKind) (x:Int),Tryz.prog.underlying t=some (.int q)->(Op.equalIn 9999 t (.int q x) (.int q x)).run pQ w=.ok true w:=λt q x g=>by
  have:=run_equalIn_int w 9998 t q q x x g;simpa using this
 have b:=UU a.spec a.spec 9996 w;rw[aQ rfl]at b
 have c:((dD a).drop 0).take 25=fC a.spec:=by
  show(fC a.spec++_).take 25=_;rw[<-bG a.spec,dG]
 have f:(dD a)[25]? =some (gB a.st):=by unfold dD;rw[bH (by rw[bG];omega),bG];rfl
 have d:(dD a)[26]? =some (gI a.price):=by unfold dD;rw[bH (by rw[bG];omega),bG];rfl
 refine lU (r:=true) (r' :=true) (by decide) (CS (n:=24) cy cy c) (CS (n:=24) cy cy c) b ?_;refine lU (r:=true) (r' :=true) (by decide) (gC cy f) (gC cy f) (e _ _ _ cy) ?_;refine lU (r:=true) (r' :=true) (by decide) (gC cy d) (gC cy d) (e _ _ _ cy) ?_;exact Ov
def XY(a:Ct)(w:Wt_):(gx .neq 120 false (.agg (dD a).toArray) (.agg (dD a).toArray)).run pQ w=.ok (.bool false) w:=by
 have:=Yb a w;generalize(dD a).toArray=A at this;simp[go_sem,this,Result.andThen]
abbrev StR(w:Wt_)(ss:Nat->Value)(A:List Ac)(C:List Ct)(P:List Po)(O B:List (Int×Od)):Prop:=∀i,3<=i->i<=7->Rd w (Np i) (ss i) (LN A C P O B i) (LC A C P O B i)
def US(d nx b:Int)(ss:Nat->Value)(w:Wt_):∃a,(Instr.box uL (BM d nx b ss)).run pQ w=.ok (bO w.heap.size 0) a/\hC a w.heap.size (uE d nx b ss).toArray uL/\M0 w a:=
 ⟨w.alloc (.cells (uE d nx b ss).toArray uL),rfl,by show hp _ _=_;simp[go_sem],(aS.refl _ w).alloc _⟩
def UE{w:Wt_}{b:Nat}{d nx g:Int}{ss:Nat->Value}(h:hC w b (uE d nx g ss).toArray uL)(hs:∀i,3<=i->i<=7->∃a n c,ss i=.slice a n c)(i:Nat)(hi:3<=i)(f:i<=7):(iL (BD i) (bO b i)).run pQ w=.ok (ss i) w:=by
 obtain⟨a,n,c,e⟩:=hs i hi f;have:i=3\/i=4\/i=5\/i=6\/i=7:=qZ;rcases this with rfl|rfl|rfl|rfl|rfl<;>(simp only[BD];rw[e];simp only[uE]at h;rw[e]at h;simp[go_sem,h])
def Cy{w:Wt_}{K:aY}{s t:Vt_}{L:List (Int×Od)}(hs:Rd w 6 s L.length (L.flatMap jD))(d:Rd w 6 t L.length (L.flatMap jD))(E:L.length<=100000)(j:∀c,M0 w c->K (.bool true) c):
  Ca pQ 62 #[s,t] w K:=by
 refine cN Tryz.func62 ?_;obtain⟨F,C,v⟩:=hs.isSl;obtain⟨G,D,p⟩:=d.isSl;have e:∀W,(builtin .len #[56] 3 #[false] #[s]).run pQ W=.ok (.value (gI (L.length:Int))) W:=λW=>by rw[v];exact FO ZC _ _ _ _
 refine sr (e _) ?_;refine iq (gI (L.length:Int)) w (by rw[p];exact FO ZC _ _ _ _) ?_;refine ax (.bool false) w (by simp[go_sem]) ?_;rw[ij]
 refine d8 (λst W=>∃(x:Vt_) (k:Nat),st=(x,gI k,())/\k<=L.length/\M0 w W)
  (λst _=>match st.2.1 with| .int _ k=>L.length - k.toNat|_=>0) ⟨_,0,rfl,qZ,oU⟩ ?_
 rintro⟨_,_⟩ W ⟨x,k,⟨⟩,A,m⟩ z b;refine lE ?_;intro _;refine sr (e _) ?_;refine bh (ZQ _ _ _) ?_;by_cases a:k<L.length
 ·rw[aw,ae (by simpa using a)];have M:=m.trans sK
  try dsimp only
  generalize W.drew=B at M|-;obtain⟨g,q,i,h1,-,y⟩:=(hs.mod M dS).item (f:=jD) wN a rfl;obtain⟨r,o,l,h,-,u⟩:=(d.mod M dS).item (f:=jD) wN a rfl;refine cT (bO g (q+k*6)) (λW=>by rw[h1];simp[go_sem,a,bD]) ?_;refine cK (fK (n:=5) (t:=132) cy cy (wN _) y) ?_;refine cT (bO r (o+k*6)) (λW=>by rw[h];simp[go_sem,a,bD]) ?_;refine cK (fK (n:=5) (t:=132) cy cy (wN _) u) ?_;refine bQ (λW=>Zy _ W) ?_;rw[ij];refine bh (Tg qZ _) ?_;exact b _ _ ⟨_,k+1,rfl,qZ,M⟩ (by show L.length - (k+1)<L.length - k;omega)
 ·rw[aw,aa (by simpa using a)];exact j W m
end Go.Proofs
set_option maxRecDepth 100000
set_option maxHeartbeats 1000000
namespace Go.Proofs
open Go Go.Vc
attribute [local congr] aZ
def X6:Tryz.prog.underlying 55=some (.slice 124):=cy
set_option maxRecDepth 10000 in
def Mm{w:Wt_}{K:aY}{d nx M:Int}{ss j:Nat->Value}{A:List Ac}{C:List Ct}{P:List Po}{O B:List (Int×Od)}(hs:StR w ss A C P O B)(L:StR w j A C P O B)
  (hl:A.length<=100000/\C.length<=100000/\P.length<=100000/\O.length<=100000/\B.length<=100000)(hK:∀w',M0 w w' ->K (.bool true) w'):
  Ca pQ 19 #[BM d nx M ss,BM d nx M j] w K:=by
 refine cN Tryz.func19 ?_;obtain⟨w1,e1,H,m1⟩:=US d nx M ss w;refine bh e1 ?_;generalize w.heap.size=p at H|-;obtain⟨r,e2,I,m2⟩:=US d nx M j w1;refine bh e2 ?_;generalize w1.heap.size=q at I|-;have H:=m2.hpk H id;have E:=m1.trans m2;have qs:∀i,3<=i->i<=7->∃a c,ss i=.slice a (LN A C P O B i) c:=λi h1 h=>(hs i h1 h).isSl;have qt:∀i,3<=i->i<=7->∃a c,j i=.slice a (LN A C P O B i) c:=λi h1 h=>(L i h1 h).isSl;have qs' :∀i,3<=i->i<=7->∃a n c,ss i=.slice a n c:=λi h1 h=>by obtain⟨a,c,e⟩:=qs i h1 h;exact⟨a,_,c,e⟩
 have qt' :∀i,3<=i->i<=7->∃a n c,j i=.slice a n c:=λi h1 h=>by obtain⟨a,c,e⟩:=qt i h1 h;exact⟨a,_,c,e⟩
 have u:∀W,M0 r W->∀i,3<=i->i<=7->(iL (BD i) (bO p i)).run pQ W=.ok (ss i) W:=λW m i h1 h=>UE (m.hpk H id) qs' i h1 h;have J:∀W,M0 r W->∀i,3<=i->i<=7->(iL (BD i) (bO q i)).run pQ W=.ok (j i) W:=λW m i h1 h=>UE (m.hpk I id) qt' i h1 h;obtain⟨a3,c3,s3⟩:=qs 3 qZ qZ;obtain⟨a4,c4,s4⟩:=qs 4 qZ qZ;obtain⟨a5,c5,s5⟩:=qs 5 qZ qZ;obtain⟨d3,f3,t3⟩:=qt 3 qZ qZ;obtain⟨d4,f4,t4⟩:=qt 4 qZ qZ;obtain⟨d5,f5,t5⟩:=qt 5 qZ qZ;have s3:ss 3=.slice a3 A.length c3:=s3;have s4:ss 4=.slice a4 C.length c4:=s4;have s5:ss 5=.slice a5 P.length c5:=s5;have t3:j 3=.slice d3 A.length f3:=t3;have t4:j 4=.slice d4 C.length f4:=t4;have t5:j 5=.slice d5 P.length f5:=t5;have n3:∀W,(builtin .len #[53] 3 #[false] #[ss 3]).run pQ W=.ok (.value (gI (A.length:Int))) W:=λW=>by rw[s3];exact FO U7 _ _ _ _
 have n4:∀W,(builtin .len #[54] 3 #[false] #[ss 4]).run pQ W=.ok (.value (gI (C.length:Int))) W:=λW=>by rw[s4];exact FO qh _ _ _ _
 have n5:∀W,(builtin .len #[55] 3 #[false] #[ss 5]).run pQ W=.ok (.value (gI (P.length:Int))) W:=λW=>by rw[s5];exact FO X6 _ _ _ _
 have k3:∀W,(builtin .len #[53] 3 #[false] #[j 3]).run pQ W=.ok (.value (gI (A.length:Int))) W:=λW=>by rw[t3];exact FO U7 _ _ _ _
 have k4:∀W,(builtin .len #[54] 3 #[false] #[j 4]).run pQ W=.ok (.value (gI (C.length:Int))) W:=λW=>by rw[t4];exact FO qh _ _ _ _
 have k5:∀W,(builtin .len #[55] 3 #[false] #[j 5]).run pQ W=.ok (.value (gI (P.length:Int))) W:=λW=>by rw[t5];exact FO X6 _ _ _ _
 have G:∀(n:Nat) W,(gx .neq 3 false (gI (n:Int)) (gI (n:Int))).run pQ W=.ok (.bool false) W:=λn W=>by simp[go_sem]
 refine cG.at (λst W=>st=(.bool false,())/\W=r) ?_ ?_
 ·have g1:(iL 45 (bO p 0)).run pQ r=.ok (gU d) r:=by simp only[uE]at H;simp[go_sem,H]
  have g2:(iL 37 (bO p 1)).run pQ r=.ok (gQ nx) r:=by simp only[uE]at H;simp[go_sem,H]
  have g3:(iL 2 (bO p 2)).run pQ r=.ok (gI M) r:=by simp only[uE]at H;simp[go_sem,H]
  have h1:(iL 45 (bO q 0)).run pQ r=.ok (gU d) r:=by simp only[uE]at I;simp[go_sem,I]
  have h:(iL 37 (bO q 1)).run pQ r=.ok (gQ nx) r:=by simp only[uE]at I;simp[go_sem,I]
  have h3:(iL 2 (bO q 2)).run pQ r=.ok (gI M) r:=by simp only[uE]at I;simp[go_sem,I]
  refine bh (iY _ 0 qZ) (bh g1 (bh (iY _ 0 qZ) (bh h1 ?_)));refine bh (v:=.bool false) (by simp[go_sem]<;>first|exact tF|exact rfl) ?_;rw[ij];refine bh (iY _ 1 qZ) (bh g2 (bh (iY _ 1 qZ) (bh h ?_)));refine bh (v:=.bool false) (by simp[go_sem]<;>first|exact tF|exact rfl) ?_;rw[ij];refine bh (iY _ 2 qZ) (bh g3 (bh (iY _ 2 qZ) (bh h3 ?_)));refine bh (v:=.bool false) (by simp[go_sem]<;>first|exact tF|exact rfl) ?_;rw[ij];refine bh (iY _ 3 qZ) (bh (u _ oU 3 qZ qZ) (sr (n3 _) (bh (iY _ 3 qZ) (bh (J _ oU 3 qZ qZ) (sr (k3 _) (bh (G _ _) ?_))))));rw[ij];refine bh (iY _ 4 qZ) (bh (u _ oU 4 qZ qZ) (sr (n4 _) (bh (iY _ 4 qZ) (bh (J _ oU 4 qZ qZ) (sr (k4 _) (bh (G _ _) ?_))))));rw[ij];refine bh (iY _ 5 qZ) (bh (u _ oU 5 qZ qZ) (sr (n5 _) (bh (iY _ 5 qZ) (bh (J _ oU 5 qZ qZ) (sr (k5 _) (bh (G _ _) ?_))))));exact tF
 rintro _ W ⟨rfl,rfl⟩;refine jG ?_;intro _;rw[ij]
 refine d8 (λst X=>∃(x:Vt_) (k:Nat),st=(x,gI k,())/\k<=A.length/\M0 W X)
  (λst _=>match st.2.1 with| .int _ k=>A.length - k.toNat|_=>0) ⟨_,0,rfl,qZ,oU⟩ ?_
 rintro⟨_,_⟩ X ⟨x,k,⟨⟩,hk,o⟩ KN l;refine lE ?_;intro _;refine bh (iY _ 3 qZ) (bh (u _ o 3 qZ qZ) (sr (n3 _) (bh (ZQ _ _ _) ?_)));by_cases b:k<A.length
 ·rw[aw,ae (by simpa using b)];have g:=o.trans sK
  try dsimp only
  generalize X.drew=Y at g|-;have D:Rd Y 4 (ss 3) A.length (A.flatMap db):=(hs 3 qZ qZ).mod (E.trans g) dS;obtain⟨z,U,S,h1,-,V⟩:=D.item (f:=db) (λx=>by simp[db]) b rfl;have F:Rd Y 4 (j 3) A.length (A.flatMap db):=(L 3 qZ qZ).mod (E.trans g) dS;obtain⟨y,T,Q,h,-,R⟩:=F.item (f:=db) (λx=>by simp[db]) b rfl;refine bQ (λ_=>iY _ 3 qZ) (cK (u _ g 3 qZ qZ) ?_);refine cT (bO z (U+k*4)) (λW=>by rw[h1];simp[go_sem,b,bD]) ?_;refine cK (fK (n:=3) (t:=100) cy cy rfl V) ?_;refine bQ (λ_=>iY _ 3 qZ) (cK (J _ g 3 qZ qZ) ?_);refine cT (bO y (T+k*4)) (λW=>by rw[h];simp[go_sem,b,bD]) ?_;refine cK (fK (n:=3) (t:=100) cy cy rfl R) ?_;refine bQ (λW=>Yo _ W) ?_;rw[ij];refine bh (Tg qZ _) ?_;exact l _ _ ⟨_,k+1,rfl,qZ,g⟩ (by show A.length - (k+1)<A.length - k;omega)
 rw[aw,aa (by simpa using b)];clear l
 refine d8 (λst Z=>∃(x:Vt_) (k:Nat),st=(x,gI k,())/\k<=C.length/\M0 W Z)
  (λst _=>match st.2.1 with| .int _ k=>C.length - k.toNat|_=>0) ⟨_,0,rfl,qZ,o⟩ ?_
 rintro⟨_,_⟩ X ⟨x,k,⟨⟩,hk,o⟩ KN l;refine lE ?_;intro _;refine bh (iY _ 4 qZ) (bh (u _ o 4 qZ qZ) (sr (n4 _) (bh (ZQ _ _ _) ?_)));by_cases b:k<C.length
 ·rw[aw,ae (by simpa using b)];have g:=o.trans sK
  try dsimp only
  generalize X.drew=Y at g|-;have D:Rd Y 27 (ss 4) C.length (C.flatMap dD):=(hs 4 qZ qZ).mod (E.trans g) dS;obtain⟨z,U,S,h1,-,V⟩:=D.item (f:=dD) bV b rfl;have F:Rd Y 27 (j 4) C.length (C.flatMap dD):=(L 4 qZ qZ).mod (E.trans g) dS;obtain⟨y,T,Q,h,-,R⟩:=F.item (f:=dD) bV b rfl;refine bQ (λ_=>iY _ 4 qZ) (cK (u _ g 4 qZ qZ) ?_);refine cT (bO z (U+k*27)) (λW=>by rw[h1];simp[go_sem,b,bD]) ?_;refine nt (fK (n:=26) (t:=120) cy cy (bV _) V) ?_;refine bQ (λ_=>iY _ 4 qZ) (cK (J _ g 4 qZ qZ) ?_);refine cT (bO y (T+k*27)) (λW=>by rw[h];simp[go_sem,b,bD]) ?_;refine nt (fK (n:=26) (t:=120) cy cy (bV _) R) ?_;refine bQ (λW=>XY _ W) ?_;rw[ij];refine bh (Tg qZ _) ?_;exact l _ _ ⟨_,k+1,rfl,qZ,g⟩ (by show C.length - (k+1)<C.length - k;omega)
 rw[aw,aa (by simpa using b)];clear l
 refine d8 (λst Z=>∃(x:Vt_) (k:Nat),st=(x,gI k,())/\k<=P.length/\M0 W Z)
  (λst _=>match st.2.1 with| .int _ k=>P.length - k.toNat|_=>0) ⟨_,0,rfl,qZ,o⟩ ?_
 rintro⟨_,_⟩ X ⟨x,k,⟨⟩,hk,o⟩ KN l;refine lE ?_;intro _;refine bh (iY _ 5 qZ) (bh (u _ o 5 qZ qZ) (sr (n5 _) (bh (ZQ _ _ _) ?_)));by_cases b:k<P.length
 ·rw[aw,ae (by simpa using b)];have g:=o.trans sK
  try dsimp only
  generalize X.drew=Y at g|-;have D:Rd Y 4 (ss 5) P.length (P.flatMap dy):=(hs 5 qZ qZ).mod (E.trans g) dS;obtain⟨z,U,S,h1,-,V⟩:=D.item (f:=dy) (λx=>by simp[dy]) b rfl;have F:Rd Y 4 (j 5) P.length (P.flatMap dy):=(L 5 qZ qZ).mod (E.trans g) dS;obtain⟨y,T,Q,h,-,R⟩:=F.item (f:=dy) (λx=>by simp[dy]) b rfl;refine bQ (λ_=>iY _ 5 qZ) (cK (u _ g 5 qZ qZ) ?_);refine cT (bO z (U+k*4)) (λW=>by rw[h1];simp[go_sem,b,bD]) ?_;refine cK (fK (n:=3) (t:=124) cy cy rfl V) ?_;refine bQ (λ_=>iY _ 5 qZ) (cK (J _ g 5 qZ qZ) ?_);refine cT (bO y (T+k*4)) (λW=>by rw[h];simp[go_sem,b,bD]) ?_;refine cK (fK (n:=3) (t:=124) cy cy rfl R) ?_;refine bQ (λW=>Zt _ W) ?_;rw[ij];refine bh (Tg qZ _) ?_;exact l _ _ ⟨_,k+1,rfl,qZ,g⟩ (by show P.length - (k+1)<P.length - k;omega)
 rw[aw,aa (by simpa using b)]
 have hS:∀(N:Wt_),M0 W N->Rd N 6 (ss 6) O.length (O.flatMap jD)/\Rd N 6 (j 6) O.length (O.flatMap jD)/\Rd N 6 (ss 7) B.length (B.flatMap jD)/\Rd N 6 (j 7) B.length (B.flatMap jD):=λN m=>
  ⟨(hs 6 qZ qZ).mod (E.trans m) dS,(L 6 qZ qZ).mod (E.trans m) dS,(hs 7 qZ qZ).mod (E.trans m) dS,(L 7 qZ qZ).mod (E.trans m) dS⟩
 refine bh (iY _ 6 qZ) (bh (u _ o 6 qZ qZ) (bh (iY _ 6 qZ) (bh (J _ o 6 qZ qZ) ?_)));refine Cy (hS _ o).1 (hS _ o).2.1 qZ λY mY=>?_;rw[jV];have s:=o.trans mY;refine bh (iY _ 7 qZ) (bh (u _ s 7 qZ qZ) (bh (iY _ 7 qZ) (bh (J _ s 7 qZ qZ) ?_)));refine Cy (hS _ s).2.2.1 (hS _ s).2.2.2 qZ λZ mZ=>?_;exact hK Z ((E.trans s).trans mZ)
end Go.Proofs
set_option maxRecDepth 100000
set_option maxHeartbeats 1000000
namespace Go.Proofs
open Go Go.Vc
def Xy(ss:Nat->Value)(s:zg):As:=⟨λw F=>(∀i,3<=i->i<=7->gD w (RM i) (Np i) (ss i) (LN s.accts s.cts s.poss s.ords s.bids i) (LC s.accts s.cts s.poss s.ords s.bids i))/\∀b,F b↔∃i,3<=i/\i<=7/\aK (ss i) b,λh hb=>by
  obtain⟨i,h1,h2,h3⟩:=(h.2 _).1 hb;exact(h.1 i h1 h2).lt h3,λh m hg=>⟨λi h1 h2=>(h.1 i h1 h2).mod m λb hb=>hg b ((h.2 b).2 ⟨i,h1,h2,hb⟩),h.2⟩⟩
def BV{S:bo}(h:S.Ok):(S.state.accts.length<=64/\S.state.cts.length<=16/\S.state.poss.length<=1024)/\S.state.ords.length<=3200/\S.state.bids.length<=800:=by
 have h1:=h.cal.len;have c:=h.led.led.len;have b:=Bp h.ord S.nums.length;have a:=AN h.ord S.nums.length;have d:S.nums.length=S.cal.l.length:=by unfold bo.nums;rw[ah]
 unfold vQ at b;unfold vH at a;rw[aV,d]at b a;exact⟨⟨c,h1,by rw[nN h];exact sw h.cal h.led⟩,by show(S.nums.flatMap _).length<=_;omega,by show(S.nums.flatMap _).length<=_;omega⟩
section
variable{L L0 M M' :List As}{φ:WP}{K:Value->WP}{v:Nat}{S:bo}{ss tt:Nat->Value}{x:Cm}{w0:Wt_}
def yb(d:S.Ok)(j:∀ss,Gs (Xy ss S.state::L) (K (BM S.state.day S.state.next S.state.fund ss)))(p:dV L (tZ v S::M):=by repeat first|(with_reducible exact eg)|(with_reducible apply ee)):Gs L (Cw pQ 17 #[dL v] K):=
 Gs.nw (φ:=λk=>Cw pQ _ _ k) (val:=λss=>BM S.state.day S.state.next S.state.fund ss) (p:=λ_=>True) (B:=λss=>Xy ss S.state) (λw y K h=>(jF p y).elim λF ⟨c,l,mb,md,A,D,q,o,u⟩=>xo o d λss b z g f e m r=>h ss g _ trivial ⟨λi h1 a=>f.own i h1 a,λ_=>aG⟩ m λy ⟨i,h1,a,n⟩=>ci e (f.nw i y h1 a n).1) (λss _=>j ss)
def IK(p:dV L (Xy ss S.state::M)):∀w,Ss w L->tj w ss S.state:=λw y=>(jF p y).elim λF h i h1 a=>(h.1 i h1 a).rd
def PF(b:S.Ok)(g:uW S)(f:∀a,Gs (tZ a S::L) (K (.tuple #[dL a,gI 0])))(p:dV L (Xy ss S.state::M):=by repeat first|(with_reducible exact eg)|(with_reducible apply ee)):Gs L (Cw pQ 16 #[BM S.state.day S.state.next S.state.fund ss] K):=by
 obtain⟨⟨o,r,j⟩,l,i⟩:=BV b
 exact Gs.nw (φ:=λk=>Cw pQ _ _ k) (val:=λa=>.tuple #[dL a,gI 0]) (p:=λ_=>True) (B:=λa=>tZ a S) (λw y K h=>QB (IK p w y) (LR b) ⟨qZ,qZ,qZ,qZ,qZ⟩ λx e d m c=>by
  rw[H7 b g]at c;obtain⟨rfl,a,F,rfl,q,n⟩:=c;exact h a d F trivial q m n) (λa _=>f a)
def Ld(a:S.Ok)(b:Gs L (K (.bool true)))(p:dV L (Xy ss S.state::M):=by repeat first|(with_reducible exact eg)|(with_reducible apply ee))(q:dV L (Xy tt S.state::M'):=by repeat first|(with_reducible exact eg)|(with_reducible apply ee)):Gs L (Cw pQ 19 #[BM S.state.day S.state.next S.state.fund ss,BM S.state.day S.state.next S.state.fund tt] K):=by
 obtain⟨⟨e,f,h⟩,d,g⟩:=BV a;exact⟨λw y=>Mm (A:=S.state.accts) (C:=S.state.cts) (P:=S.state.poss) (O:=S.state.ords) (B:=S.state.bids) (IK p w y) (IK q w y) ⟨qZ,qZ,qZ,qZ,qZ⟩ λc m=>b.go c (y.md0 m)⟩
def GW(a:Gs L (K (.bool true))):Gs L (Cw pQ 14 #[] K):=⟨λw y=>QZ λb m=>a.go b (y.md0 m)⟩
def Wg(a:∀v,Gs (tZ v bo.empty::L) (K (dL v))):Gs L (Cw pQ 8 #[] K):=J0 λv c l mb md=>uQ (C:=bo.empty.cal) oB.nil (a v)
def HF(a:S.Ok)(c:x.Fit)(b:∀t g u,Z5 (S.apply x).1->Gs (tZ v (S.apply x).2::Ak (ej t (S.apply x).1.trades.length) (S.apply x).1.trades::sB (ej g (S.apply x).1.gone.length) (S.apply x).1.gone::yT (ej u (S.apply x).1.accts.length) (S.apply x).1.accts::L) (K (wT (S.apply x).1 (ej t (S.apply x).1.trades.length) (ej g (S.apply x).1.gone.length) (ej u (S.apply x).1.accts.length))))(p:dV L0 (tZ v S::L):=by repeat first|(with_reducible exact eg)|(with_reducible apply ee)):
  Gs L0 (Cw pQ 15 #[dL v,vg x] K):=(C9 a c b).pk p
def wQ(p:dV L (CA w0 (λ_=>False)::M)):∀w,Ss w L->M0 w0 w:=λw y=>(jF p y).elim λF h=>h.2
end
section
variable{K:Value->WP}{s t:Vt_}{w0:Wt_}{A B:List Cm}
set_option maxHeartbeats 2000000 in
def Gf(q:Rd w0 35 s A.length (A.flatMap jO))(r:Rd w0 35 t B.length (B.flatMap jO))(C:∀c∈A,c.Fit)(G:∀c∈B,c.Fit)(u:Gs [CA w0 λ_=>False] (K (.bool true))):
  Gs [CA w0 λ_=>False] (Cw pQ 4 #[s,t] K):=by
 refine sN Tryz.func4 ?_;refine Wg λv=>?_;refine Gs.j1 (.bool (decide (60<A.length)||decide (40<B.length)),()) (λJ j=>?_) ?_
 ·refine au ?_;refine Gs.len PQ (λw y=>q.mod (wQ (by repeat first|(with_reducible exact eg)|(with_reducible apply ee)) w y) dS) ?_;refine au ?_;refine Gs.I (λh=>?_) λh=>?_
  ·have:(decide (60<A.length)||decide (40<B.length))=true:=by simp;omega
   rw[this]at j;exact j
  refine Gs.len PQ (λw y=>r.mod (wQ (by repeat first|(with_reducible exact eg)|(with_reducible apply ee)) w y) dS) ?_;refine au ?_;have:decide (60<A.length)=false:=by simp;omega
  rw[this,fG]at j;rw[show decide ((40:Int)<(B.length:Int))=decide (40<B.length)from kA.2 qZ];exact j
 refine Gs.z ?_;refine Gs.Ib (λh=>?_) λh=>?_
 ·refine au ?_;refine GW ?_;exact u.drop
 refine Gs.len PQ (λw y=>q.mod (wQ (by repeat first|(with_reducible exact eg)|(with_reducible apply ee)) w y) dS) ?_;have N:A.length<=60/\B.length<=40:=by simp at h;omega
 clear h;refine Gs.l (λx:Nat×bo=>(gI x.1,())) (A.length - ·.1) (λx=>[tZ v x.2,CA w0 λ_=>False]) (λx=>x.1<=A.length/\x.2.Ok/\uW x.2) (0,bo.empty) rfl ⟨aJ _,Gu,RP⟩ ?_ .refl;rintro⟨i,S⟩ ⟨n,d,m⟩ z k
 dsimp only at n d m|-
 refine Gs.z (au ?_);refine Gs.I (λh=>?_) λh=>?_
 ·have f:i<A.length:=qZ;obtain⟨D,F,o,g⟩:=VE q f;refine Gs.V (λw _=>o w) ?_;refine Gs.X (λw y=>Gl (g.mod (wQ (by repeat first|(with_reducible exact eg)|(with_reducible apply ee)) w y) id)) ?_;have e:=C _ (av f);refine HF d e λa b c _=>?_;refine au ?_;exact(k (i+1,(S.apply A[i]).2) ⟨f,sC d e,I5 d m _⟩ (by dsimp only;omega)).fin
 clear k;refine yb d λss=>?_;refine PF d m λp=>?_;refine au ?_;refine Gs.j1 (.bool false,()) (λJ j=>?_) ?_
 ·refine au ?_;exact j
 refine Gs.z (au ?_);refine Gs.len PQ (λw y=>r.mod (wQ (by repeat first|(with_reducible exact eg)|(with_reducible apply ee)) w y) dS) ?_;refine Gs.fin (M:=[tZ p S,tZ v S,CA w0 λ_=>False]) ?_;refine Gs.l (λx:Nat×bo=>(.bool false,gI x.1,())) (B.length - ·.1) (λx=>[tZ p x.2,tZ v x.2,CA w0 λ_=>False]) (λx=>x.1<=B.length/\x.2.Ok/\uW x.2) (0,S) rfl ⟨aJ _,d,m⟩ ?_ .refl;clear d m n h i S ss;rintro⟨i,S⟩ ⟨n,d,m⟩ z k
 dsimp only at n d m|-
 refine Gs.z (au ?_);refine Gs.I (λh=>?_) λh=>?_
 ·have f:i<B.length:=qZ;obtain⟨D,F,o,g⟩:=VE r f;have e:=G _ (av f);refine Gs.j (λ_:Unit=>(.bool false,())) (λ_=>[tZ p (S.apply B[i]).2,tZ v (S.apply B[i]).2,CA w0 λ_=>False]) (λ_=>True) (λJ j=>?_) λ_ _=>?_
  ·refine Gs.D (Gs.Pu o ?_);refine Gs.WX (λw y=>Gl (g.mod (wQ (by repeat first|(with_reducible exact eg)|(with_reducible apply ee)) w y) id)) ?_;refine Gs.Pu o ?_;refine Gs.WX (λw y=>Gl (g.mod (wQ (by repeat first|(with_reducible exact eg)|(with_reducible apply ee)) w y) id)) ?_;refine HF d e λa b c E=>?_;refine Gs.E (λw y=>Gl (g.mod (wQ (by repeat first|(with_reducible exact eg)|(with_reducible apply ee)) w y) id)) ?_;refine HF d e λO I H _=>?_;refine MZ E ?_;replace j:=j () trivial;have l:=sC d e;generalize(S.apply B[i]).2=P at l j|-;refine au ?_;refine yb l λss=>?_;refine yb l λtt=>?_;refine Ld l ?_;refine au ?_;exact j.fin
  refine Gs.z (au ?_);exact k (i+1,(S.apply B[i]).2) ⟨f,sC d e,I5 d m _⟩ (by dsimp only;omega)
 refine GW ?_;exact u.fin
def Fv{w:Wt_}{K:aY}(f:Rd w 35 s A.length (A.flatMap jO))(d:∀c∈A,c.Fit)(i:Rd w 35 t B.length (B.flatMap jO))(g:∀c∈B,c.Fit)(e:∀a,M0 w a->K (.bool true) a):Ca pQ 4 #[s,t] w K:=
 (Gf (K:=K) f i d g ⟨λa y=>e a (wQ (by repeat first|(with_reducible exact eg)|(with_reducible apply ee)) a y)⟩).go w ⟨_,_,λ_=>False,⟨λ_=>aG,aS.refl _ _⟩,λ_ h=>h,dS,λb=>(or_iff_left id).symm⟩
end
end Go.Proofs
