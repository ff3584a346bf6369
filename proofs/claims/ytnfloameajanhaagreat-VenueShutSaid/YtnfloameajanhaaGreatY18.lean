/- Part of a proof. -/
import Derived.Laws.BitsAllLaws
import Derived.Test.YtnfloameajanhaaGreatRows
import Derived.WalkKit
import Derived.ProofKit
import Derived.OpenShut
import Derived.Test.YtnfloameajanhaaGreatY17
set_option linter.all false
namespace Go.Proofs
open Go Go.Vc
attribute [local congr] cR
variable {a:Ac}{l:List UInt8}{F:NP_}{r:Nat}{s:Rs}{v:Vt_}{w:Wt_}{K:cG}
def LM(e:Int)(W:Wt_):(Instr.build 52 #[(0,gI e)]).run pQ W=.ok (ud (failR e) dv dv dv) W:=by simp[go_sem,ud,failR,zRp,dv]
def QN:Oi.2.apply kC6=ML:=by rw[ML]
def OK:ML.2.apply Z5=ze:=by rw[ze]
def XG:ze.2.apply kC8=YN:=by rw[YN]
def aE3(h:Oi.2.Ok):ML.2.Ok:=by rw[<-QN];exact mV h N8.2.2.2.2.2.1
def ax8(h:ML.2.Ok):ze.2.Ok:=by rw[<-OK];exact mV h N8.2.2.2.2.2.2.1
def aD1:∃a b,ze.2.led.all=[a,b]/\a.cash=1030/\b.cash=970:=by
 have h:=S9;generalize ze.2.led.all=L at h;have d:L.length=2:=by have:=fC List.length h;simpa using this
 obtain⟨a,b,rfl⟩:∃a b,L=[a,b]:=by
  cases L with
  |nil=>cases d
  |cons a t=>
   cases t with
   |nil=>cases d
   |cons b u=>
    cases u with
    |nil=>exact⟨a,b,rfl⟩
    |cons c z=>simp at d
 simp only[cM,List.map_nil,mR,and_true]at h;exact⟨a,b,rfl,h.1,h.2⟩
def XW{v:Nat}(h:lw w v F Oi.2)(f:Oi.2.Ok)
  (m:∀j l k i g,lw g v i ML.2->ML.2.Ok->de F w g->(∀y,i y->F y\/w.heap.size<=y)->K (ud ML.1 j l k) g):Ca pQ 18 #[eY v,vI kC6] w K:=by
 refine kW h f N8.2.2.2.2.2.1 λj l k i g a b c d e=>?_;rw[QN]at a b|-;exact m j l k i g a (aE3 f) c d
def Yk{v:Nat}(h:lw w v F ML.2)(f:ML.2.Ok)
  (m:∀j l k i g,lw g v i ze.2->ze.2.Ok->de F w g->(∀y,i y->F y\/w.heap.size<=y)->K (ud ze.1 j l k) g):Ca pQ 18 #[eY v,vI Z5] w K:=by
 refine kW h f N8.2.2.2.2.2.2.1 λj l k i g a b c d e=>?_;rw[OK]at a b|-;exact m j l k i g a (ax8 f) c d
def Xk{v:Nat}(h:lw w v F ze.2)(i:ze.2.Ok)
  (m:∀j l k g f,lw f v g YN.2->de F w f->(∀y,g y->F y\/w.heap.size<=y)->K (ud YN.1 j l k) f):Ca pQ 18 #[eY v,vI kC8] w K:=by
 refine kW h i N8.2.2.2.2.2.2.2 λj l k g f a b c d e=>?_;rw[XG]at a b|-;exact m j l k g f a c d
def NM 
  (t:∀v F W,lw W v F ze.2->ze.2.Ok->M0 w W->(∀y,F y->w.heap.size<=y)->J13_0 K (eY v) (.bool false,()) W):Ca pQ 13 #[] w K:=by
 apply ca13;refine Pr λv F A r j m x=>?_;refine qS0 ?_;refine qS0 ?_;refine dK.at (λs W=>s=(.bool false,())/\∃F,lw W v F ze.2/\ze.2.Ok/\M0 w W/\∀y,F y->w.heap.size<=y) ?_ ?_
 ·refine qSf0 ?_;refine lL bk6 (XW r j λf i g d z k a c n=>?_);apply cI (BG ML.1 f i g z);rw[XE];refine qSf0 ?_;refine lL bk7 (Yk k a λf i g F3 p u e o q=>?_);apply cI (BG ze.1 f i g p);rw[Xt];refine qS0 ?_;have C:=m.size;have B:=c.size;have l:∀y,d y->w.heap.size<=y:=λy b=>by grind
  refine⟨rfl,F3,u,e,(m.on c λy b=>.inr (x y b)).on o λy b=>.inr (l y b),λy b=>?_⟩;rcases q y b with h|h
  ·exact l y h
  ·omega
 rintro _ W ⟨rfl,d,k,a,c,n⟩;exact t v d W k a c n
def av8{L:List Ac}{b:Ac}(h:L=[a,b])(hi:0<L.length):L[0]=a:=by subst h;rfl
def au3{L:List Ac}{b:Ac}(h:L=[a,b])(hi:1<L.length):L[1]=b:=by subst h;rfl
def qV{b off:Nat}(h:At w b off (dH a)):(iL 2 (pt b (off+1))).run pQ w=.ok (gI a.cash) w:=by
 have:=h.cell 1 (gI a.cash) rfl;obtain⟨C,e,fz,d,c⟩:=h.get;have f:=c 1 _ rfl;simp[go_sem,d,f]
def Mh{v:Nat}(h:lw w v F ze.2)(f:ze.2.Ok)
  (hK:∀m W,lw W v m YN.2->de F w W->(∀y,m y->F y\/w.heap.size<=y)->
   wS pQ (Instr.build 52 #[(0,(gI 160))]) λu=>
   rx pQ (jQ 31 1 [(0,(gB 99))]) W λr s=>
   Ca pQ 15 #[eY v,r] s λk g=>
   pS pQ (uL 31 9 k) g λj=>
   Ca pQ 16 #[u] g λC d=>
   (uL 31 9 k).run pQ d=.ok j d/\
   (pS pQ (uL 31 9 C) d λG=>
   wS pQ (qE .eql 9 false j G) λz=>
   K z d)):J13_0 K (eY v) (.bool false,()) w:=by
 unfold J13_0;intro _;rw[gP];obtain⟨c,l,mb,md,A,D,fp,N,V⟩:=h;have hQ:lw w v F ze.2:=⟨c,l,mb,md,A,D,fp,N,V⟩
 refine mK N f λss b lo w1 s1 R m1 hb=>?_;refine pZ s1 λp H s2 m2 hp2=>?_;have M:=m1.trans m2;obtain⟨x,y,B,Q,t⟩:=aD1;have hl:ze.2.led.all.length=2:=by rw[B];rfl
 have E:(LN ze.2.led.all ze.2.cal.l (ze.2.nums.flatMap ze.2.led.holders) (ze.2.nums.flatMap λn=>(ze.2.bk n).all.map λo=>(n,o)) (ze.2.nums.flatMap λn=>(ze.2.bd n).map λo=>(n,o)) 3)=2:=hl;have md:M0 H H.drew:=mP;have e:=SB.modX s2 md eQ;have q:=M.trans md
 try dsimp only
 generalize H.drew=w3 at e q|-;have O:=hQ.md0 q;obtain⟨a,cc,J,_⟩:=(e.own 3 qZ qZ).isSl;rw[E]at J;obtain⟨a0,o0,X,I,-⟩:=uj e (i:=0) qZ;obtain⟨a1,o1,i1,L,-⟩:=uj e (i:=1) qZ;have T:=av8 B qZ;have x1:=au3 B qZ;rw[T]at I;rw[x1]at L;refine dw (λ_=>dZ _ 3 qZ) (dp (e.ld 3 qZ qZ) ?_);apply oy (gI 2) (by rw[J];simp[go_sem]);refine qPt0 ?_;refine dw (λ_=>dZ _ 3 qZ) (dp (e.ld 3 qZ qZ) (dw X ?_));refine qP0 ?_;apply oy (gI 1030) (by rw[qV I,Q]);refine qPt0 ?_;refine dw (λ_=>dZ _ 3 qZ) (dp (e.ld 3 qZ qZ) (dw i1 ?_));refine qP0 ?_;apply oy (gI 970) (by rw[qV L,t]);refine qPt0 ?_;refine AN bk8 (Xk O f λP U Z m Y q4 S n4=>?_);apply dw (λW=>BG YN.1 P U Z W);rw[YO];refine qPt0 ?_
 exact hK m Y q4 ((q.to).trans S) λy t=>by
  rcases n4 y t with h|h
  ·exact .inl h
  ·have:=q.size;exact gz
def UF:lN pQ 5 1 1=true:=cU
def u8C:Tryz.prog.cellsOf 5=0+1:=cU
abbrev tBs:TypeId:=31
def Gr:Tryz.prog.underlying tBs=some (.slice 5):=Tryz.underlying31
set_option maxRecDepth 100000 in
def Ul(n:Nat):bits .or .u8 (IntKind.u8.wrap (n:Int)) 128=((UInt8.ofNat (n%128+128)).toNat:Int):=by
 have a:IntKind.u8.wrap (n:Int)=((n%256:Nat):Int):=by rw[mQ];omega
 have b:(UInt8.ofNat (n%128+128)).toNat=n%128+128:=Lq qZ;rw[a,show(128:Int)=((128:Nat):Int)from rfl,u8_or_nat _ _ qZ qZ,b];congr 1;have h:∀m:Fin 256,m.val|||128=m.val%128+128:=by decide
 have:=h ⟨n%256,qZ⟩;simp only at this;rw[this];omega
def Uf{s:Vt_}{k n:Nat}(h:jo w 5 1 s k (bv l))(J:n<18446744073709551616)(O:k<=1000000000)
  (F:∀g u,jo u 5 1 g (k+(pP n).length) (bv (l++pP n))->de (cK s) w u->(∀b,cK g b->cK s b\/w.heap.size<=b)->K g u):
  Ca pQ 73 #[s,gQ n] w K:=by
 apply ca73
 refine eS (λst W=>∃(m:Nat) (a:List UInt8) (g:Vt_),pP n=a++pP m/\m<=n/\st=(gQ (m:Int),g,())/\jo W 5 1 g (k+a.length) (bv (l++a))/\de (cK s) w W/\(∀b,cK g b->cK s b\/w.heap.size<=b))
  (λst _=>match st.1 with| .int _ i=>i.toNat|_=>0) ⟨n,[],s,rfl,cJ _,rfl,by simpa using h,lX,λb o=>.inl o⟩ ?_
 rintro⟨_,_⟩ W ⟨m,a,g,c,P,⟨⟩,C,t,f⟩ N z;unfold L73_0;intro _;have q:=CT J;rw[c,cD]at q;by_cases E:128<=m
 ·have d:(128:Int)<=(m:Int):=qZ;refine qSt1 d ?_;refine qS0 ?_;refine qS0 ?_;rw[Ul];refine Qm [UInt8.ofNat (m%128+128)] Gr (eO UF) rfl rfl qZ λv I A j M=>?_;refine jR (m:=1) Gr Gr (eO UF) (C.mod j eQ) A.rd (JE _) qZ λD H r x y=>?_;refine qS0 ?_;have B:pP m=UInt8.ofNat (m%128+128)::pP (m / 128):=Co qZ;refine z _ _ ⟨m / 128,a++[UInt8.ofNat (m%128+128)],D,by rw[c,B];simp,qZ,rfl,?_,?_,?_⟩ ?_
  ·rw[<-A4,df]at r;have e:k+(a++[UInt8.ofNat (m%128+128)]).length=k+a.length+1:=by simp;omega
   rw[e];exact r
  ·exact(t.on j λ_ h=>h.elim).on x f
  ·intro b o;rcases y b o with p|p
   ·exact f b p
   ·have:=(t.on j (G:=λ_=>False) λ_ h=>h.elim).size;omega
  ·grind
 ·have d:¬(128:Int)<=(m:Int):=qZ;refine qSf1 d ?_
  have L:IntKind.u8.wrap (m:Int)=((UInt8.ofNat m).toNat:Int):=by
   rw[Lq qZ,mQ];omega
  refine qS0 ?_;rw[L];refine Qm [UInt8.ofNat m] Gr (eO UF) rfl rfl qZ λv I A j M=>?_;refine jR (m:=1) Gr Gr (eO UF) (C.mod j eQ) A.rd (JE _) qZ λD H r x y=>?_;have B:pP m=[UInt8.ofNat m]:=wK qZ;refine F _ _ ?_ ((t.on j λ_ h=>h.elim).on x f) ?_
  ·rw[c,B];rw[<-A4,df]at r;have e:k+(a++[UInt8.ofNat m]).length=k+a.length+1:=by simp;omega
   rw[e];exact r
  ·intro b o;rcases y b o with p|p
   ·exact f b p
   ·have:=(t.on j (G:=λ_=>False) λ_ h=>h.elim).size;omega
def uD(r:Nat):Value:=pt r 0
structure sJ(w:Wt_)(r:Nat)(v:Vt_)(l:List UInt8)(s:Rs):Prop where
 blk:hC w r #[v,gI s.at_,gI s.e] 200
 rd:Rd w 1 v l.length (bv l)
 le:s.at_<=l.length
 ne:¬BQ v r
 len:l.length<=1000000000
def sJ.mod{w' :Wt_}(h:sJ w r v l s)(a:de F w w')(d:¬F r)(c:∀b,BQ v b->¬F b):sJ w' r v l s:=
 ⟨a.keep h.blk d,h.rd.mod a c,h.le,h.ne,h.len⟩
def sJ.lt(h:sJ w r v l s):r<w.heap.size:=cB h.blk
def FC(h:Rd w 1 v l.length (bv l))(d:l.length<=1000000000)
  (e:∀b,sJ b w.heap.size v l ⟨0,0⟩->M0 w b->K (uD w.heap.size) b):Ca pQ 62 #[v] w K:=by
 obtain⟨a,c,rfl⟩:=h.isSl;apply ca62;simp[go_sem];refine e _ ⟨?_,h.mod lm eQ,nY _,λf=>Nat.lt_irrefl _ (h.lt f),d⟩ lm;simp[go_sem]
def X8(h:sJ w r v l s)(a:K (.bool (decide (s.e≠0))) w):Ca pQ 114 #[uD r] w K:=by
 apply ca114;have c:=h.blk;simp[go_sem,uD,c]
 have e:((s.e:Int) != 0)=decide (s.e≠0):=by
  by_cases b:s.e=0<;>simp[b]
 first
  |exact a
  |(rw[e];exact a)
  |(simpa using a)
def IP(l:List UInt8)(at_:Nat):Value:=
 match ID (l.drop at_) 0 0 with
 | .error e=>.tuple #[.int .u64 0,gI 0,gI e]
 | .ok (n,k)=>.tuple #[.int .u64 n,gI (at_+k:Nat),gI 0]
def aC9(k:Nat):(2:Int) ^ (7*k)=((128 ^ k:Nat):Int):=by
 rw[Int.pow_mul];simp
def XZ(h:sJ w r v l s)(G:∀w',M0 w w' ->K (IP l s.at_) w'):Ca pQ 115 #[uD r] w K:=by
 have H:=h.blk;have hlen:=h.len;obtain⟨v',z,F,hin⟩:=h.rd.from_ (P:=pQ) Gr u8C h.le .i64;simp only[eU,pX]at F;rw[Ud]at F;apply ca115;simp only[uD,dr];apply dX (pt r 0) (λW=>by simp[go_sem]);refine qW1 H ?_;apply dX (pt r 1) (λW=>by simp[go_sem]);refine qW1 H ?_;apply dX v' z;obtain⟨a',c',V⟩:=F.isSl;apply oy (gI ((l.length - s.at_:Nat):Int)) (by rw[V];simp[go_sem]);have o:=F.mod (de.refl (λ_=>False) w).drew eQ;generalize I:w.drew=T at o|-;have j:M0 w T:=by subst I;exact(de.refl _ w).drew
 have Z:hp T r=some (.cells #[v,gI s.at_,gI s.e] 200 (0,0)):=j.keep H id;obtain⟨L,q⟩:=dW (l.drop s.at_);rw[<-q]at o;have hLl:L.length=l.length - s.at_:=by rw[q];simp
 refine eS (λst W=>∃(i acc:Nat),i<=L.length/\i<=9/\acc<128 ^ i/\ID L 0 0=ID (L.drop i) i acc/\(∃x1 x2:Value,st=(gQ (acc:Int),x1,x2,gI (i:Int),()))/\W=T)
  (λst _=>match st.2.2.2.1 with| .int _ i=>10 - i.toNat|_=>0) ⟨0,0,qZ,qZ,by decide,rfl,⟨_,_,rfl⟩,rfl⟩ ?_
 rintro⟨_,_⟩ W ⟨i,acc,hi,O,hacc,B,⟨x1,x2,⟨⟩⟩,rfl⟩ KN M;unfold L115_2;intro _;by_cases u:i<L.length
 ·obtain⟨b,off,cap,C,e,fz,Q,hcap,hC,R⟩:=o.byte (i:=i) qZ u;have hx:=(L[i]).toNat_lt;have X:L.drop i=L[i]::L.drop (i+1):=fF u;have g:(i:Int)<((l.length - s.at_:Nat):Int):=qZ;refine qS1 g ?_;rw[cy,bZ rfl,Q];have D:i<l.length - s.at_:=qZ;refine qS2 D cS ?_;refine qS2 hC R ?_;obtain⟨x,m⟩:=dW ((L[i]).toNat);rw[<-m];rw[<-m]at hx
  have a:ID L 0 0=if i=9/\1<x\/9<i then .error 5
    else if x<128 then(if x=0/\0<i then .error 5 else .ok (acc+x%128*128 ^ i,i+1))
    else ID (L.drop (i+1)) (i+1) (acc+x%128*128 ^ i):=by
   rw[B,X];simp only[ID];rw[<-m]
  refine dK.at (λst S=>st=(.bool (decide (i=9/\1<x\/9<i)),())/\S=W) ?_ ?_
  ·by_cases Y:i=9
   ·subst Y;refine qSt0 ?_;by_cases h1:1<x
    ·have p:(1:Int)<(x:Int):=qZ;refine qSt1 p ?_;exact⟨by simp[h1],rfl⟩
    ·have p:¬(1:Int)<(x:Int):=qZ;refine qSf1 p ?_;refine qS0 ?_;exact⟨by simp[h1],rfl⟩
   ·have J:¬(i:Int)=9:=qZ;have y:¬(9:Int)<(i:Int):=qZ;refine qSf1 J ?_;refine qS1 y ?_;exact⟨by simp[Y];omega,rfl⟩
  rintro _ W ⟨rfl,rfl⟩;unfold J115_1;intro _;by_cases c:i=9/\1<x\/9<i
  ·rw[bZ c]at a;simp only[c,qb,cy,fh];have:=G _ j;unfold IP at this;rw[<-q,a]at this;exact this
  rw[aZ c]at a;simp only[c,decide_false,cy,dE,eW]
  have ea:bits .and .u8 (x:Int) 127=((x%128:Nat):Int):=by
   rw[show(127:Int)=((127:Nat):Int)from rfl,u8_and_nat _ _ qZ qZ];congr 1;exact Nat.and_two_pow_sub_one_eq_mod x 7
  have hs:x%128*128 ^ i<18446744073709551616:=by
   by_cases Y:i=9
   ·grind
   ·have h8:128 ^ i<=128 ^ 8:=lS (by decide) qZ;have h7:=jE (show x%128<=127 by omega) h8;have e8:(127:Nat)*128 ^ 8<18446744073709551616:=by decide
    omega
  have f:acc<18446744073709551616:=by
   have h8:128 ^ i<=128 ^ 9:=lS (by decide) O;have e9:(128:Nat) ^ 9=9223372036854775808:=by decide
   omega
  have eo:acc|||(x%128*128 ^ i)=acc+x%128*128 ^ i:=by
   have e1:(128:Nat) ^ i=2 ^ (7*i):=by rw[Nat.pow_mul]
   have:=Nat.two_pow_add_eq_or_of_lt (i:=7*i) (b:=acc) (by grind) (x%128);rw[<-e1,fe (128 ^ i)]at this;rw[Nat.or_comm,<-this,jf]
  have hsum:acc+x%128*128 ^ i<18446744073709551616:=by
   rw[<-eo];exact Nat.or_lt_two_pow (n:=64) f hs
  apply cx (gB ((x%128:Nat):Int)) W (by simp only[go_sem];simp[-Int.natCast_emod,go_sem,ea]);apply cx (gQ ((x%128:Nat):Int)) W (by simp[-Int.natCast_emod,go_sem,G8 (n:=((x%128:Nat):Int)) qZ qZ]);apply cx (gI ((7*i:Nat):Int)) W (by simp[go_sem];rw[wI_]);refine cx (gQ ((x%128*128 ^ i:Nat):Int)) W ?_ ?_
  ·have e7:((7*i:Nat):Int).toNat=7*i:=qZ;have e8:¬((7*i:Nat):Int)<0:=qZ;simp[-Int.natCast_mul,-Int.natCast_emod,go_sem,e7,e8];rw[aC9,<-iB,wU_]
  refine cx (gQ ((acc+x%128*128 ^ i:Nat):Int)) W ?_ ?_
  ·simp only[go_sem];simp[-Int.natCast_add,-Int.natCast_mul,-Int.natCast_emod,go_sem];rw[u64_or_nat _ _ f hs,eo]
  by_cases k:x<128
  ·have d:(x:Int)<128:=qZ;rw[bZ k]at a;refine qSt1 d ?_;refine dK.at (λst S=>st=(.bool (decide (x=0/\0<i)),())/\S=W) ?_ ?_
   ·by_cases U:x=0
    ·refine qSt1 U ?_;refine qSv0 (.bool (decide ((0:Int)<(i:Int)))) ?_;refine⟨?_,rfl⟩;have e:decide ((0:Int)<(i:Int))=decide (x=0/\0<i):=by grind
     rw[e]
    ·have h0' :¬(x:Int)=0:=qZ;refine qSf1 U ?_;exact⟨by simp[U],rfl⟩
   rintro _ W ⟨rfl,rfl⟩;unfold J115_0;intro _;by_cases E:x=0/\0<i
   ·rw[bZ E]at a;simp only[E,and_self,qb,cy,fh];have:=G _ j;unfold IP at this;rw[<-q,a]at this;exact this
   rw[aZ E]at a;simp only[E,decide_false,cy,dE,eW];have hat:s.at_+i+1<9223372036854775808:=qZ;simp only[uD,dr];apply dX (pt r 1) (λW=>by simp[go_sem])
   have t:∀A,A.heap=W.heap->(iL 3 (pt r 1)).run pQ A=.ok (gI s.at_) A:=λA e=>by
    have N:hp A r=some (.cells #[v,gI s.at_,gI s.e] 200 (0,0)):=by unfold hp;rw[e];exact Z
    simp[go_sem,N]
   refine oy (gI s.at_) (t _ rfl) ?_;apply dX (gI ((s.at_+i:Nat):Int)) (λW=>by simp[go_sem];rw[wI_]);apply dX (gI ((s.at_+(i+1):Nat):Int)) (λW=>by simp[go_sem];rw[wI_];omega);refine⟨t _ rfl,?_⟩;have:=G _ j.drew;unfold IP at this;rw[<-q,a]at this;exact this
  ·have d:¬(x:Int)<128:=qZ;rw[aZ k]at a;refine qSf1 d ?_;apply cx (gI ((i+1:Nat):Int)) W (by simp[go_sem];rw[wI_]);have hi9' :i≠9:=λe=>c (.inl ⟨e,qZ⟩);refine M _ _ ⟨i+1,_,qZ,qZ,?_,a,⟨_,_,rfl⟩,rfl⟩ ?_
   ·rw[Nat.pow_succ];have:x%128*128 ^ i<=127*128 ^ i:=dM _ qZ;omega
   ·grind
 ·have g:¬(i:Int)<((l.length - s.at_:Nat):Int):=qZ;refine qSf1 g ?_
  have a:ID L 0 0=.error 4:=by
   rw[B,List.drop_eq_nil_of_le qZ];rfl
  have:=G _ j;unfold IP at this;rw[<-q,a]at this;exact this
def TJ:∀{k acc e:Nat},ID l k acc=.error e->e=4\/e=5:=by
 induction l with
 |nil=>intro k acc e h;cases h;exact .inl rfl
 |cons x r a=>
  intro k acc e h;simp only[ID]at h;split at h
  ·cases h;exact .inr rfl
  ·split at h
   ·split at h
    ·cases h;exact .inr rfl
    ·cases h
   ·exact a h
def sJ.fault(h:sJ w r v l s)(e:Nat):
  sJ (w.setCell ⟨r,2,none⟩ (gI e)) r v l {s with e:=e}/\de (λb=>b=r) w (w.setCell ⟨r,2,none⟩ (gI e)):=by
 have a:de (λb=>b=r) w (w.setCell ⟨r,2,none⟩ (gI e)):=(de.refl (λb=>b=r) w).sc;exact⟨⟨by simp[go_sem,h.blk],h.rd.mod a λb c e=>h.ne (by grind),h.le,h.ne,h.len⟩,a⟩
def sJ.go(h:sJ w r v l s)(a:Nat)(d:a<=l.length):
  sJ (w.setCell ⟨r,1,none⟩ (gI a)) r v l {s with at_:=a}/\de (λb=>b=r) w (w.setCell ⟨r,1,none⟩ (gI a)):=by
 have c:de (λb=>b=r) w (w.setCell ⟨r,1,none⟩ (gI a)):=(de.refl (λb=>b=r) w).sc;exact⟨⟨by simp[go_sem,h.blk],h.rd.mod c λb f e=>h.ne (by grind),d,h.ne,h.len⟩,c⟩
def OQ{most:Nat}(h:sJ w r v l s)(y:most<18446744073709551616)
  (i:∀x,sJ x r v l (uu l most s).2->de (λb=>b=r) w x->K (gQ (uu l most s).1) x):Ca pQ 63 #[uD r,gQ most] w K:=by
 apply ca63;apply X8 h;by_cases z:s.e≠0
 ·rw[qo z];have j:uu l most s=(0,s):=by unfold uu;rw[bZ z]
  rw[j]at i;exact i _ h lX
 rw[cy,aZ (by grind)]
 have j:uu l most s=match ID (l.drop s.at_) 0 0 with
  | .error e=>(0,{s with e:=e})
  | .ok (n,k)=>if most<n then(0,{s with e:=5})else(n,{s with at_:=s.at_+k}):=by unfold uu;rw[aZ z];cases ID (l.drop s.at_) 0 0<;>rfl
 refine XZ h λa t=>?_;have g:=h.mod t id eQ
 have o:∀(e n k:Nat) (a:Wt_),sJ a r v l s->M0 w a->s.at_+k<=l.length->
   (if e≠0 then uu l most s=(0,{s with e:=e})else uu l most s=(n,{s with at_:=s.at_+k}))->
   J63_1 (uD r) K (gI (s.at_+k:Nat)) (gQ n) (gI e,()) a:=by
  intro e n k a g t E u;unfold J63_1;intro _;have C:∀A,de (λb=>b=r) a A->de (λb=>b=r) w A:=λA D=>(t.to).trans D;by_cases B:e≠0
  ·rw[bZ B]at u;rw[u]at i;have f:¬(e:Int)=0:=qZ;apply cx (.bool true) a (by simp[go_sem,f];omega);rw[kx];obtain⟨q,m⟩:=g.fault e;simp only[uD,dr];refine qS0 ?_;refine qU1 g.blk ?_;exact i _ q (C _ m)
  ·rw[aZ B]at u;rw[u]at i;have f:(e:Int)=0:=qZ;refine qSf1 f ?_;obtain⟨q,m⟩:=g.go (s.at_+k) E;simp only[uD,dr];refine qS0 ?_;refine qU1 g.blk ?_;exact i _ q (C _ m)
 cases d:ID (l.drop s.at_) 0 0 with
 |error e=>
  have F:=TJ d;unfold IP;rw[d]at j|-;simp only at j|-;refine qS0 ?_;refine qS0 ?_;refine qS0 ?_;refine dK.at (λst W=>st=(gI e,())/\W=a) ?_ ?_
  ·refine dK.at (λst W=>st=(.bool false,())/\W=a) ?_ ?_
   ·have f:¬(e:Int)=0:=qZ;apply cx (.bool false) a (by simp[go_sem];omega);rw[gP];exact sI
   ·rintro _ a ⟨rfl,rfl⟩;unfold J63_0;intro _;rw[gP];exact sI
  ·rintro _ a ⟨rfl,rfl⟩;have I:e≠0:=qZ;unfold J63_1;intro _;rw[j]at i;apply cx (.bool true) a (by simp[go_sem];omega);rw[kx];obtain⟨q,m⟩:=g.fault e;simp only[uD,dr];refine qS0 ?_;refine qU1 g.blk ?_;exact i _ q ((t.to).trans m)
 |ok p=>
  obtain⟨n,k⟩:=p;have G:=Sx d;have H:=h.le;rw[dV]at G;unfold IP;rw[d]at j|-;simp only at j|-;refine qS0 ?_;refine qS0 ?_;refine qS0 ?_;refine dK.at (λst W=>st=(gI (if most<n then 5 else 0:Nat),())/\W=a) ?_ ?_
  ·refine dK.at (λst W=>st=(.bool (decide (most<n)),())/\W=a) ?_ ?_
   ·refine qSt0 ?_;refine qS0 ?_;exact sI
   ·rintro _ a ⟨rfl,rfl⟩;unfold J63_0;intro _;by_cases c:most<n
    ·rw[qo c,bZ c];simp
    ·rw[cy,aZ (by grind),aZ c];simp
  ·rintro _ a ⟨rfl,rfl⟩;apply o (if most<n then 5 else 0) n k _ g t qZ;by_cases c:most<n
   ·grind
   ·grind
def Tz(h:sJ w r v l s)
  (g:∀f,M0 w f->K (gI (Gn l s)) f):Ca pQ 71 #[uD r] w K:=by
 have b:=h.blk;obtain⟨a,c,rfl⟩:=h.rd.isSl;apply ca71;apply cx (.bool false) w (by simp[go_sem,uD]);rw[gP];refine dK.at (λst W=>st=(.bool (decide (s.e=0/\s.at_<l.length)),())/\W=w.drew) ?_ ?_
 ·simp only[uD,dr];apply dX (pt r 2) (λW=>by simp[go_sem]);refine qW1 b ?_;by_cases d:s.e=0
  ·apply dX (.bool true) (λW=>by simp[go_sem,d]);rw[kx];apply dX (pt r 1) (λW=>by simp[go_sem]);refine qW1 b ?_;apply dX (pt r 0) (λW=>by simp[go_sem]);refine qW1 b ?_;refine qW0 ?_;apply dX (.bool (decide (s.at_<l.length))) (λW=>by simp[go_sem]);simp[d]
  ·apply dX (.bool false) (λW=>by simp[go_sem];omega);rw[gP];simp[d]
 rintro _ _ ⟨rfl,rfl⟩;unfold J71_0;intro _;have i:M0 w w.drew:=mP;by_cases e:s.e=0/\s.at_<l.length
 ·rw[qo e];have:=g _ i;unfold Gn at this;rw[bZ e]at this;exact this
 ·rw[cy,aZ (by grind)];have:=g _ i;unfold Gn at this;rw[aZ e]at this;simp only[uD,dr];refine qS0 ?_;refine qS1 b ?_;exact this
def az3:uu [99] 14 ⟨0,0⟩=(0,⟨0,5⟩):=by rfl
def aj9:Gn [99] ⟨0,5⟩=5:=by rfl
def bkZ:Tryz.prog.built om [(0,gB 0)]=some (cmC zCm).toArray:=cU
def aD3:Tryz.prog.built om []=some (cmC zCm).toArray:=cU
def GX{W:Wt_}{p:Nat}{a b:Cm}{d:World->Prop}(h:iy W p a)(e:∀c,iy c p b->de (λy=>y=p) W c->d c):nj pQ (jH om (pt p 0) (.agg (cmC b).toArray)) W d:=by
 refine uH nCm (ni b) h (by rw[eT,ni,ni];omega) (Ky b) (e _ ?_ ((de.refl (λy=>y=p) W).setRow (.inl rfl) _));have f:W.heap[p]? =some (.cells (cmC a).toArray om (0,0)):=h;show(W.setRow p _).heap[p]? =_;rw[ij,bZ rfl,f,tp (by show(cmC b).length=(cmC a).length;rw[ni,ni])]
def Na(h:Rd w 1 v 1 (bv [99]))(X:∀E,M0 w E->K (.tuple #[vI zCm,gI 5]) E):Ca pQ 34 #[v] w K:=by
 apply ca34;apply rg NT;rw[yA];obtain⟨z,H⟩:=dW w.heap.size;have A:M0 w (w.alloc (.cells (cmC zCm).toArray om)):=lm;have m:iy (w.alloc (.cells (cmC zCm).toArray om)) z zCm:=by show hp _ _=_;rw[H];simp[go_sem]
 rw[<-H];generalize w.alloc (.cells (cmC zCm).toArray om)=O at A m|-;have P:=h.mod A eQ;refine FC (l:=[99]) P (by decide) λi B n=>?_;generalize hr:O.heap.size=r at B n|-;have b2:=n.hpk m id;have hzr:z<r:=by have:=cB m;omega
 have Z:w.heap.size<=z:=qZ;have M2:=A.trans n;obtain⟨q,o⟩:=dW i.heap.size;have N:r<q:=by have:=B.lt;omega
 have f:∃c,(i.alloc (.cells #[.pointer none] 151)).setCell ⟨q,0,none⟩ (uD r)=c/\M0 i c/\hC c q #[uD r] 151:=
  ⟨_,rfl,lm.setCell (.inr (by grind)) _ _,by rw[o];simp[go_sem,uD]⟩
 obtain⟨c,d,C,L⟩:=f;apply cx (pt q 0) (i.alloc (.cells #[.pointer none] 151)) (by rw[o];simp[go_sem]);apply pH c (by rw[<-d,o];simp[go_sem,uD]);clear d;have S:=B.mod C id eQ;have Y:=C.hpk b2 id;apply cx (uD r) c (by simp[go_sem,L,uD]);refine OQ (l:=[99]) (s:=⟨0,0⟩) (most:=14) S (by decide) λa G u=>?_;rw[az3]at G|-;have hql:∀b,BQ v b->b<z:=λb F=>by have:=h.lt F;omega
 have c5:=u.hpk Y qZ;have D:=u.hpk L qZ;have Q:M0 w a:=(M2.trans C).on u λy t=>gz;apply cx (gB 0) a (by simp[go_sem];decide);apply lL bkZ;apply rg NT;rw[yA];obtain⟨y,t⟩:=dW a.heap.size;have k:M0 a (a.alloc (.cells (cmC zCm).toArray om)):=lm;have J:iy (a.alloc (.cells (cmC zCm).toArray om)) y zCm:=by show hp _ _=_;rw[t];simp[go_sem]
 rw[<-t];generalize a.alloc (.cells (cmC zCm).toArray om)=w6 at k J|-;have hqy:q<y:=by have:=cB D;omega
 refine GX (b:=zCm) J λg M I=>?_;have p:M0 a g:=k.on I λx hx=>gz;have U:=(G.mod k id eQ).mod I qZ λb F e=>by grind
 have V:=p.hpk c5 id;have b7:=p.hpk D id;refine dK.at (λs W=>s=()/\W=g) ?_ ?_
 ·apply qSv0 (pt y 0);apply cx (gB 0) g (sH M);refine dK.at (λs W=>s=(.bool false,())/\W=g) ?_ ?_
  ·apply qSv0 (.bool false);rw[gP];apply qSv0 (.bool false);exact sI
  ·rintro _ W ⟨rfl,rfl⟩;unfold J34_0;intro _;rw[gP];apply qSv0 (.bool false);rw[gP];apply qSv0 (.bool false);rw[gP];apply qSv0 (.bool false);rw[gP];apply qSv0 (.bool false);rw[gP];apply qSv0 (.bool false);rw[gP];apply qSv0 (.bool false);rw[gP];apply qSv0 (.bool false);rw[gP];apply qSv0 (.bool false);rw[gP];apply qSv0 (.bool false);rw[gP];apply qSv0 (.bool false);rw[gP];apply qSv0 (.bool false);rw[gP];exact sI
 rintro _ W ⟨rfl,rfl⟩;unfold J34_2;intro _;refine dK.at (λs W' =>s=(.bool true,())/\M0 W W') ?_ ?_
 ·apply cx (uD r) W (by simp[go_sem,b7,uD]);refine Tz U λw8 j=>?_;rw[aj9];apply qSv0 (.bool true);rw[kx];exact⟨rfl,j⟩
 rintro _ W8 ⟨rfl,j⟩;unfold J34_1;intro _;rw[kx];apply lL aD3;refine GX (b:=zCm) (j.hpk V id) λw9 T R=>?_;apply li (vm T);exact X w9 (((Q.trans p).trans j).on R λx hx=>gz)
end Go.Proofs
set_option maxRecDepth 100000
namespace Go.Proofs
open Go Go.Vc
section
variable{a:Vt_}{W:Wt_}{Z:cG}
def au8(r:gb .lss 24 true a (gQ 128) W λb c=>cV b (gr (convert 24 5 a) c λd e=>gx (jQ 31 1 [(0,d)]) e Z) (gb .rem 24 true a (gQ 128) c λf g=>gr (convert 24 5 f) g λh i=>gb .add 5 true h (gB 128) i λj k=>gx (jQ 31 1 [(0,j)]) k λl m=>gb .quo 24 true a (gQ 128) m λn o=>Ca pQ 36 #[n] o λp q=>gx (eg #[31,31] 31 [l,p]) q Z)):Ca pQ 36 #[a] W Z:=cj Tryz.func36 r
def ar2(F:gq 52 a W λb c=>dz 52 b 1 24 c λd e=>gb .eql 24 true d (gQ 0) e λf g=>cV f (dz 52 b 2 2 g λh i=>gb .eql 2 true h (gI 0) i λj k=>cV j (dz 52 b 3 2 k λl m=>gb .eql 2 true l (gI 0) m λn o=>cV n (dz 52 b 4 48 o λp q=>gn 48 false p q λr s=>dz 52 b 5 49 s λt u=>gn 49 false t u λv w=>gb .add 3 false r v w λx y=>dz 52 b 6 50 y λz A=>gn 50 false z A λB C=>gb .add 3 false x B C λD E=>gb .eql 3 true D (gI 0) E Z) (Z bF o)) (Z bF k)) (Z bF g)):Ca pQ 117 #[a] W Z:=cj Tryz.func117 F
end
end Go.Proofs
namespace Go.Proofs
open Go Go.Vc
attribute [local congr] cR
variable {e:Nat}{w:Wt_}{K:cG}
def TS:∀(n:Nat) (u:n<18446744073709551616) {w:Wt_} {K:cG}
  (d:∀g h,jo h 5 1 g (pP n).length (bv (pP n))->M0 w h->(∀b,cK g b->w.heap.size<=b)->K g h),Ca pQ 36 #[.int .u64 n] w K:=by
 intro n;induction n using Nat.strongRecOn with
 |_ n y=>
  intro u w K d;apply au8;by_cases k:n<128
  ·have a:(n:Int)<128:=qZ;apply qSv1 (.bool true) a;rw[kx]
   have x:IntKind.u8.wrap (n:Int)=((UInt8.ofNat n).toNat:Int):=by
    rw[Lq qZ,mQ];omega
   apply qSv0 (gB (IntKind.u8.wrap (n:Int)));rw[x];refine Qm [UInt8.ofNat n] Gr (eO UF) rfl rfl qZ λv o j e f=>?_;rw[wK k]at d;exact d _ _ j e λb c=>(f b c).1
  ·have a:¬(n:Int)<128:=qZ;apply qSv1 (.bool false) a;rw[gP];apply cx (gQ ((n%128:Nat):Int)) w (by simp[go_sem];try rw[kv qZ]);apply cx (gB ((n%128:Nat):Int)) w (by simp[go_sem];rw[mQ];omega);apply cx (gB ((UInt8.ofNat (n%128+128)).toNat:Int)) w (by rw[Lq qZ];simp[go_sem];rw[mQ];omega);refine Qm [UInt8.ofNat (n%128+128)] Gr (eO UF) rfl rfl qZ λv o j e f=>?_;apply cx (gQ ((n / 128:Nat):Int)) o (by simp[go_sem];try rw[wU_]);refine y (n / 128) qZ qZ λF C r i D=>?_;have E:=CT (n:=n / 128) qZ;refine jR (m:=(pP (n / 128)).length) Gr Gr (eO UF) (j.mod i eQ) r.rd (JE _) qZ λB A t z q=>?_;rw[<-A4]at t;rw[Co k]at d;have s:=e.size;have p:=i.size;refine d _ _ ?_ ((e.trans i).on z λb c=>.inr (f b c).1) λb c=>?_
   ·grind
   ·rcases q b c with l|l
    ·exact(f b l).1
    ·omega
def GE(q:0<e/\e<=999)(k:∀s c,jo c 5 1 s (pP e).length (bv (pP e))->M0 w c->(∀b,cK s b->w.heap.size<=b)->K s c):
  Ca pQ 16 #[ud (failR e) dv dv dv] w K:=by
 apply ca16;obtain⟨g,n,a,i⟩:=boxRp (failR e) dv dv dv w;apply cI n;obtain⟨p,d⟩:=dW w.heap.size;rw[<-d]at a|-;apply qSv0 (pt p 0);apply cx (gI e) g (by simp[go_sem,a,mC,failR]);apply cx (gQ e) g (by simp[go_sem];rw[wU_]);refine TS e qZ λs f l h o=>?_;have m:=h.hpk a id;apply qSv0 (pt p 0);apply cx (gI e) f (by simp[go_sem,m,mC,failR]);apply cx (.bool true) f (by simp[go_sem];omega);rw[kx];exact k s f l (i.trans h) λb j=>by have:=o b j;have:=i.size;omega
def Tv{e:Int}(f:∀b,M0 w b->K (.bool true) b):Ca pQ 117 #[ud (failR e) dv dv dv] w K:=by
 apply ar2;obtain⟨c,d,a,g⟩:=boxRp (failR e) dv dv dv w;apply cI d;generalize w.heap.size=p at a|-;simp[go_sem,a,mC,failR,zRp,dv];exact f c g
def Tr(k:0<e/\e<=999)(h:∀g,M0 w g->K (.bool true) g):Ca pQ 72 #[ud (failR e) dv dv dv] w K:=by
 apply ca72;obtain⟨a,j,c,i⟩:=boxRp (failR e) dv dv dv w;apply cI j;generalize w.heap.size=p at c|-;refine dK.at (λs W=>s=(.bool false,())/\M0 w W/\hC W p (mC (failR e) dv dv dv).toArray lx) ?_ ?_
 ·have lf:(iF lx (pt p 0) 0).run pQ a=.ok (pt p 0) a:=by simp[go_sem]
  have d:(iL 43 (pt p 0)).run pQ a=.ok (gI e) a:=by simp[go_sem,c,mC,failR]
  refine cI lf (cI d ?_);apply qSv0 (.bool false);rw[gP];refine cI lf (cI d ?_);apply cx (.bool false) a (by simp[go_sem];omega);rw[gP];refine cI lf (cI d ?_);apply cx (.bool true) a (by simp[go_sem];omega);rw[kx];apply cI (lB c);refine Tv λl f=>?_;apply qSv0 (.bool false);exact⟨rfl,i.trans f,f.hpk c id⟩
 rintro _ W ⟨rfl,M,b⟩;unfold J72_0;intro _;rw[gP];simp[go_sem,b,mC,failR,zRp,dv];exact h W M
def GS(B:0<e/\e<=999)(x:∀s g,jo g 5 1 s (pP e).length (bv (pP e))->M0 w g->(∀b,cK s b->w.heap.size<=b)->K (.tuple #[s,gI 0]) g):
  Ca pQ 35 #[ud (failR e) dv dv dv] w K:=by
 apply ca35;obtain⟨C,A,d,q⟩:=boxRp (failR e) dv dv dv w;apply cI A;obtain⟨p,i⟩:=dW w.heap.size;rw[<-i]at d|-;apply cI (lB d);refine Tr B λj f=>?_;have o:=f.hpk d id;apply qSv0 (.bool false);rw[gP];apply qSv0 (pt p 0);apply cx (gI e) j (by simp[go_sem,o,mC,failR]);apply cx (gQ e) j (by simp[go_sem];rw[wU_]);refine Uf (l:=[]) (k:=0) (n:=e) (jo.nil _ _ _) qZ qZ λs c m r u=>?_;have a:M0 j c:=r.mono λy _ z=>by cases z
 have v:=a.hpk o id;apply qSv0 (pt p 0);apply cx (gI e) c (by simp[go_sem,v,mC,failR]);apply cx (.bool true) c (by simp[go_sem];omega);rw[kx];rw[eU,jO]at m
 exact x s c m ((q.trans f).trans a) λb t=>by
  rcases u b t with h|h
  ·cases h
  ·have:=(q.trans f).size;omega
def Me:Tryz.prog.underlying 9=some .string:=cU
def Y3:Tryz.prog.underlying 5=some (.int .u8):=cU
def YQ(x y:List UInt8)(w:Wt_):(qE .eql 9 false (.string (tY x)) (.string (tY y))).run pQ w=.ok (.bool (decide (x=y))) w:=by
 simp[go_sem];by_cases h:x=y<;>simp[h]
def TR{v:Nat}{F:NP_}{S:Ven}{s:Vt_}(h:lw w v F S)(Z:Rd w 1 s 1 (bv [99]))
  (P:∀f i,jo i 5 1 f (pP 160).length (bv (pP 160))->M0 w i->(∀b,cK f b->w.heap.size<=b)->K f i):Ca pQ 15 #[eY v,s] w K:=by
 apply ca15;refine vQ λm x=>?_;obtain⟨w2,R,B,H⟩:=qy m;apply cI R;obtain⟨p,k⟩:=dW m.heap.size;rw[<-k]at B|-;obtain⟨o,e3,L,I⟩:=pl (r:=failR 1) (sT:=dv) (sG:=dv) (sA:=dv) B rfl ⟨gJ,gJ,gJ⟩;apply ir e3;have hwp:w.heap.size<=p:=by have:=x.size;omega
 have j:M0 w o:=(x.trans H).on I λy g=>gz;refine dK.at (λ_ W=>M0 w W/\hC W p (mC (failR 160) dv dv dv).toArray lx) ?_ ?_
 ·have Y:=h.md0 j;obtain⟨c,l,mb,md,A,D,fp,V,hF⟩:=Y;apply vT V.blk;rw[kx];refine Na (Z.mod j eQ) λd C=>?_;apply qSv0 (vI zCm);apply qSv0 (gI 5);apply rg NT;rw[yA];obtain⟨z,t⟩:=dW d.heap.size;have u:M0 d (d.alloc (.cells (cmC zCm).toArray om)):=lm;have n:iy (d.alloc (.cells (cmC zCm).toArray om)) z zCm:=by show hp _ _=_;rw[t];simp[go_sem]
  rw[<-t];generalize d.alloc (.cells (cmC zCm).toArray om)=w5 at u n|-;refine GX (b:=zCm) n λJ b6 G=>?_;have T:M0 o J:=(C.trans u).on G λy g=>.inr (by have:=C.size;omega);refine vQ λw7 U=>?_;have q:=T.trans U;obtain⟨w8,X,b8,O⟩:=pl (r:=failR 160) (sT:=dv) (sG:=dv) (sA:=dv) (q.hpk L id) rfl ⟨gJ,gJ,gJ⟩;apply ir X;apply qSv0 (.bool false);rw[gP];exact⟨(j.trans q).on O λy g=>gz,b8⟩
 rintro _ W ⟨M,b⟩;unfold J15_0;intro _;apply cI (lB b);refine GS (e:=160) (by decide) λf w9 E N Q=>?_;obtain⟨a,c,rfl⟩:=E.rd.isSl;apply qSv0 (.slice a (pP 160).length c);apply qSv0 (gI 0);exact P _ w9 E (M.trans N) λy g=>by have:=Q y g;have:=M.size;omega
def kf(p:∀c,M0 w c->K (.bool true) c):Ca pQ 13 #[] w K:=by
 refine NM λv F B o b g j=>?_;refine Mh o b λm k z l x=>?_
 have C:∀y,m y->w.heap.size<=y:=λy a=>by
  rcases x y a with h|h
  ·exact j y h
  ·have:=g.size;omega
 have t:M0 w k:=g.on l λy a=>.inr (j y a);apply dw (λW=>LM 160 W);show rx pQ (jQ tBs 1 [(0,gB (((99:UInt8).toNat:Nat):Int))]) k _;refine Qm [99] Gr (eO UF) rfl rfl qZ λs G r d H=>?_;refine TR (z.md0 d) r.rd λD A i u I=>?_;apply xV Gr Y3 Me i.rd;refine GE (e:=160) (by decide) λJ q n f E=>?_;refine⟨AM Gr Y3 Me (i.mod f eQ).rd,?_⟩;apply xV Gr Y3 Me n.rd;apply dw (λW=>YQ _ _ W);rw[db rfl];exact p q (((t.trans d).trans u).trans f)
section
variable{w:Wt_}{b lo:Nat}{d nx fu:Int}{ss:Nat->Value}{A:List Ac}{C:List Ct}{P:List Po}{O B:List (Int×Od)}
end
def lenV{T e:TypeId}(f:Tryz.prog.underlying T=some (.slice e))(a:Option Addr)(n:Nat)(c:Nat)(W:Wt_):(builtin .len #[T] 3 #[false] #[.slice a n c]).run pQ W=.ok (.value (gI (n:Int))) W:=by simp[go_sem,f]
def ltV(a b:Nat)(W:Wt_):(qE .lss 3 false (gI (a:Int)) (gI (b:Int))).run pQ W=.ok (.bool (decide (a<b))) W:=by simp[go_sem]
def addV{i:Nat}(h:i<1000000)(W:Wt_):(qE .add 3 true (gI (i:Int)) (gI 1)).run pQ W=.ok (gI ((i+1:Nat):Int)) W:=by
 simp[go_sem];rw[wI_]
end Go.Proofs
namespace Go.Proofs.YtnfloameajanhaaGreat
open Go Go.Vc Go.Proofs Go.ChangeShapes Go.WideShapes Go.ChangeAt Go.RowKit
variable {n:Int}{c:List Value}
def own:ownKnob Tryz.prog.godebug=none:=cU
def laidOut:laidOutB Tryz.prog=true:=cU
def list_choose{α β:Type}{f:β->α}{Q:β->Prop}:∀{L:List α},(∀c∈L,∃o,c=f o/\Q o)->∃l:List β,L=l.map f/\∀o∈l,Q o
 | [],_=>⟨[],rfl,by simp⟩
 |c::L,h=>by
  obtain⟨o,rfl,b⟩:=h c List.mem_cons_self;obtain⟨l,rfl,d⟩:=list_choose λc a=>h c (List.mem_cons_of_mem _ a);exact⟨o::l,rfl,λx e=>by grind⟩
def wfR(h:(Lit.int .i64 n).wf=true):jl n:=by
 simp[Lit.wf,IntKind.min,IntKind.max,IntKind.signed,IntKind.bits]at h;exact⟨qZ,qZ⟩
def wfU(h:(Lit.int .u32 n).wf=true):pL n:=by
 simp[Lit.wf,IntKind.min,IntKind.max,IntKind.signed,IntKind.bits]at h;exact⟨qZ,qZ⟩
def wfQ(h:(Lit.int .u64 n).wf=true):P6 n:=by
 simp[Lit.wf,IntKind.min,IntKind.max,IntKind.signed,IntKind.bits]at h;exact⟨qZ,qZ⟩
def wf8(h:(Lit.int .u8 n).wf=true):0<=n/\n<256:=by
 simp[Lit.wf,IntKind.min,IntKind.max,IntKind.signed,IntKind.bits]at h;exact⟨qZ,qZ⟩
section
variable{H:Type}{enc:TypeId×Value->H}{w:World}{c:List Value}{fs:Array Field}
def Flds(enc:TypeId×Value->H)(w:World)(c:List Value)(fs:Array Field):Prop:=
 ∀f∈fs.toList,∃f' y,DataW.trod enc Tryz.prog w 0 (λ_=>true) true f' f.type ((c.drop f.offset).take (Tryz.prog.cellsOf f.type))=some y/\Wt Tryz.prog reachBytes f.type y.1
def Flds.int(h:Flds enc w c fs)(i:Nat){f:Field}(d:fs.toList[i]? =some f){k:IntKind}(g:Tryz.prog.underlying f.type=some (.int k))(j:Tryz.prog.cellsOf f.type=1):∃n,c.drop f.offset=.int k n::c.drop (f.offset+1)/\(Lit.int k n).wf=true:=by
 obtain⟨l,y,a,-⟩:=h f (List.mem_of_getElem? d);rw[j]at a;obtain⟨n,e,-,b⟩:=DataW.trod_int g a;refine⟨n,?_,b⟩;rw[<-List.take_append_drop 1 (c.drop f.offset),e,List.drop_drop];rfl
def Flds.bool(h:Flds enc w c fs)(i:Nat){f:Field}(b:fs.toList[i]? =some f)(d:Tryz.prog.underlying f.type=some .bool)(g:Tryz.prog.cellsOf f.type=1):∃n,c.drop f.offset=.bool n::c.drop (f.offset+1):=by
 obtain⟨j,y,a,-⟩:=h f (List.mem_of_getElem? b);rw[g]at a;obtain⟨n,e,-⟩:=DataW.trod_bool d a;refine⟨n,?_⟩;rw[<-List.take_append_drop 1 (c.drop f.offset),e,List.drop_drop];rfl
end
def drop_at{o n:Nat}{x:List Value}(h:(c.drop o).take n=x):c.drop o=x++c.drop (o+n):=by
 rw[<-h,<-List.drop_drop,List.take_append_drop]
def open_sp{H:Type}{enc:TypeId×Value->H}{w:World}{f:Nat}{y:DataW H×List MemPlace}(hl:c.length=25)(h:DataW.trod enc Tryz.prog w 0 (λ_=>true) true f 27 c=some y)(hB:Wt Tryz.prog reachBytes 27 y.1):
  ∃o,c=jA o/\o.Fit:=by
 have a:Flds enc w c _:=ET Tryz.underlying27 h hB;obtain⟨X,v,w0⟩:=a.int 0 rfl (k:=.u32) cU cU;obtain⟨n1,F,K⟩:=a.int 1 rfl (k:=.u8) cU cU;obtain⟨n2,D,w2⟩:=a.int 2 rfl (k:=.i64) cU cU;obtain⟨P,G,O⟩:=a.int 3 rfl (k:=.i64) cU cU;obtain⟨S,I,J⟩:=a.int 4 rfl (k:=.i64) cU cU;obtain⟨N,z,V⟩:=a.int 5 rfl (k:=.i64) cU cU;obtain⟨f6,y6,t,-⟩:=a _ (List.mem_of_getElem? (i:=6) rfl);obtain⟨n7,A,T⟩:=a.int 7 rfl (k:=.i64) cU cU;obtain⟨n8,E,w8⟩:=a.int 8 rfl (k:=.u32) cU cU;obtain⟨W,B,w9⟩:=a.int 9 rfl (k:=.i64) cU cU;simp only at v F D G I z A E B t;have b:Tryz.prog.cellsOf 25=16:=cU;have Z:Tryz.prog.cellsOf 2=1:=cU;rw[b]at t;obtain⟨xs,m,-,-,u,M,g⟩:=DataW.trod_array Tryz.underlying25 t;rw[b]at u;rw[Z]at g
 obtain⟨L,Y,R⟩:=list_choose (L:=(c.drop 6).take 16) (f:=λn:Int=>Value.int .i64 n) (Q:=jl) λx s=>by
  obtain⟨i,r⟩:=List.getElem?_of_mem s;have d:=(List.getElem?_eq_some_iff.1 r).1;have C:=g i qZ;rw[Nat.mul_one,List.getElem?_eq_getElem (l:=xs) qZ]at C;obtain⟨n,e,-,hw⟩:=DataW.trod_int Tryz.underlying2 C;refine⟨n,?_,wfR hw⟩;rw[List.drop_eq_getElem_cons d,List.take_succ_cons,List.take_zero]at e;rw[List.getElem?_eq_getElem d]at r;exact(Option.some.inj r).symm.trans (List.cons.inj e).1
 have j:L.length=16:=by grind
 refine⟨⟨X,n1,n2,P,S,N,⟨L.toArray,by simpa using j⟩,n7,n8,W⟩,?_,wfU w0,wf8 K,wfR w2,wfR O,wfR J,wfR V,λx g=>R x (by simpa using g),wfR T,wfU w8,wfR w9⟩;have U:=drop_at Y;have q:c.drop 25=[]:=List.drop_eq_nil_of_le qZ;have p:c=c.drop 0:=rfl;rw[p,v,F,D,G,I,z,U,A,E,B,q];rfl
def open_cm{H:Type}{enc:TypeId×Value->H}{w:World}{f:Nat}{y:DataW H×List MemPlace}(W:c.length=35)(h:DataW.trod enc Tryz.prog w 0 (λ_=>true) true f 30 c=some y)(S:Wt Tryz.prog reachBytes 30 y.1):
  ∃o,c=cmC o/\o.Fit:=by
 have a:Flds enc w c _:=ET Tryz.underlying30 h S;obtain⟨J,p,M⟩:=a.int 0 rfl (k:=.u8) cU cU;obtain⟨Q,x,C⟩:=a.int 1 rfl (k:=.u32) cU cU;obtain⟨U,u,T⟩:=a.int 2 rfl (k:=.u32) cU cU;obtain⟨F,z,E⟩:=a.int 3 rfl (k:=.u64) cU cU;obtain⟨G,A,B⟩:=a.int 4 rfl (k:=.i64) cU cU;obtain⟨X,V,j,q⟩:=a _ (List.mem_of_getElem? (i:=5) rfl);obtain⟨K,t⟩:=a.bool 6 rfl cU cU;obtain⟨L,r⟩:=a.bool 7 rfl cU cU;obtain⟨O,v,P⟩:=a.int 8 rfl (k:=.u8) cU cU;obtain⟨I,s,R⟩:=a.int 9 rfl (k:=.i64) cU cU;obtain⟨g,b,n⟩:=a.int 10 rfl (k:=.i64) cU cU;simp only at p x u z A t r v s b j q;have m:Tryz.prog.cellsOf 27=25:=cU;rw[m]at j;obtain⟨sp,N,d⟩:=open_sp (by grind) j q;refine⟨⟨J,Q,U,F,G,sp,K,L,O,I,g⟩,?_,wf8 M,wfU C,wfU T,wfQ E,wfR B,d,wf8 P,wfR R,wfR n⟩;have D:=drop_at N;have e:c.drop 35=[]:=List.drop_eq_nil_of_le qZ;have l:c=c.drop 0:=rfl;rw[l,p,x,u,z,A,D,t,r,v,s,b,e];rfl
end Go.Proofs.YtnfloameajanhaaGreat
