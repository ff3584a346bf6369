/- Part of a proof. -/
import Derived.Test.YtekbnpagidkbbaaGreatR19
set_option linter.all false
set_option maxRecDepth 100000
set_option maxHeartbeats 4000000
namespace Go.Proofs
open Go Go.Vc
attribute [local congr] bj
variable {a:Int}{ids:List Int}{L:List Od}{p:Nat}{sl s:Vt_}{w:Wt_}{K:aZ}
section
variable{w:Wt_}{K:aZ}{v c l mb md:Nat}{A:List (Int×Nat)}{D:List (Int×Value)}{fp:Pt->Nat->Prop}{S:bt}
end
structure ri(w:Wt_)(p:Nat)(sl:Vt_)(ids:List Int):Prop where
 at_:hC w p #[sl] 39
 own:Bj w sl ids
 ne:∀y,aF sl y->y≠p
def ri.mod{F:NP_}{w' :Wt_}(h:ri w p sl ids)(a:aR F w w')(h1:¬F p)(b:∀y,aF sl y->¬F y):ri w' p sl ids:=⟨a.hpk h.at_ h1,h.own.mod a b,h.ne⟩
def ri.ld(h:ri w p sl ids):(iL 39 (bO p 0)).run pQ w=.ok sl w:=by
 obtain⟨a,c,b,-⟩:=h.own.isSl;have:=h.at_;subst b;simp[go_sem,this]
def Vr{x:Int}{K:World->Prop}(h:ri w p sl ids)(F:ids.length<=100000)
  (u:∀g b,ri b p g (ids++[x])->aR (λy=>y=p\/aF sl y) w b->(∀y,aF g y->aF sl y\/w.heap.size<=y)->K b):
  rx pQ (rg 39 1 [(0,gQ x)]) w λv s=>rx pQ (fb #[39,39] 39 [sl,v]) s λz B=>ru pQ (iS 39 (bO p 0) z) B K:=by
 refine JI (x:=x) (f:=vZ) yf (dB Oa) (λ_=>rfl) (Gi x) rfl h.own qZ qZ λE b o q k=>?_;obtain⟨a,i,rfl,-⟩:=o.isSl;have t:=aB h.at_;have m:=q.hpk h.at_ λC=>h.ne _ C rfl;apply nE (b.setCell ⟨p,0,none⟩ (.slice a (ids++[x]).length i)) (by simp[go_sem,m])
 have d:∀y,aF (.slice a (ids++[x]).length i) y->y≠p:=λy j e=>by
  rcases k y j with n|n
  ·exact h.ne y n e
  ·omega
 have r:aR (λy=>y=p) b (b.setCell ⟨p,0,none⟩ (.slice a (ids++[x]).length i)):=(aR.refl (λy=>y=p) b).sc;exact u _ _ ⟨by simp[go_sem,m],o.mod r λy j e=>d y j e,d⟩ ((q.mono λ_ _ h=>.inr h).trans (r.mono λ_ _ h=>.inl h)) k
def BP(a:Int)(ids:List Int)(o:Od):List Int:=if lw a o then ids++[o.num]else ids
def FZ{o:Od}{n e:Nat}(E:hC w n #[.int .u32 a] 45)(x:ri w e sl ids)(P:ids.length<=100000)(z:n≠e)(G:¬aF sl n)
  (H:∀b h,ri h e b (BP a ids o)->aR (λy=>y=e\/aF sl y) w h->(∀y,aF b y->aF sl y\/w.heap.size<=y)->(lw a o=false->M0 w h/\b=sl)->K (.bool (lw a o)) h):
  Ca pQ 221 #[kx o,.pointer (some ⟨n,0,none⟩),.pointer (some ⟨e,0,none⟩)] w K:=by
 refine cN Tryz.func221 ?_;obtain⟨f,R,m,j⟩:=ux o w;apply bo R;obtain⟨q,F⟩:=di w.heap.size;rw[<-F]at m|-;have i:=j.hpk E id;have g:=x.mod j id d9;have M:=aB x.at_;have I:=j.size;refine cT.at (λst W=>∃b,ri W e b (BP a ids o)/\aR (λy=>y=e\/aF sl y) f W/\(∀y,aF b y->aF sl y\/f.heap.size<=y)/\(lw a o=false->f=W/\b=sl)) ?_ ?_
 ·refine ao (bO q 1) f (by simp[go_sem]) (ao (gU o.acct) f (by simp[go_sem,m,dF]) ?_);refine dN i ?_;by_cases d:o.acct=a
  ·have t:lw a o=true:=by unfold lw;simp[d]
   refine dY d ?_;apply bo g.ld;refine ao (bO q 0) f (by simp[go_sem]) (ao (gQ o.num) f (by simp[go_sem,m,dF]) ?_);refine Vr g P λb h T O C=>?_;refine⟨b,?_,O,C,λB=>by grind⟩;unfold BP;rw[t];exact T
  ·have t:lw a o=false:=by unfold lw;simp[d]
   refine fF d ?_;refine⟨sl,?_,rZ,λy u=>.inl u,λ_=>⟨rfl,rfl⟩⟩;unfold BP;rw[t];exact g
 rintro _ W ⟨b,Q,s,J,L⟩;refine kR ?_;intro _
 have p:¬(q=e\/aF sl q):=λk=>by
  rcases k with k|k
  ·omega
  ·have:=x.own.lt k;omega
 have N:=s.hpk m p;have r:=s.hpk i λk=>by grind
 refine ao (bO q 1) W (by simp[go_sem]) (ao (gU o.acct) W (by simp[go_sem,N,dF]) ?_);refine dN r ?_;apply ao (.bool (lw a o)) W (by simp[go_sem,lw];rfl);refine H b W Q ((j.to).trans s) (λy u=>(J y u).imp id λU=>qZ) λB=>?_;obtain⟨rfl,rfl⟩:=L B;exact⟨j,rfl⟩
def Yr(h:Rd w 5 s L.length (L.flatMap dF)){i:Nat}(hi:i<L.length):
  ∃p,(iX 146 s (gI (i:Int))).run pQ w=.ok p w/\(iL jG p).run pQ w=.ok (kx L[i]) w:=by
 obtain⟨b,f,q,d,k,r⟩:=h.item dV hi rfl;obtain⟨C,e,t,hC,a⟩:=r.get;have j:=a 0 (gQ L[i].num) rfl;have n:=a 1 (gU L[i].acct) rfl;have g:=a 2 (.bool L[i].buy) rfl;have o:=a 3 (gI L[i].price) rfl;have m:=a 4 (gI L[i].left) rfl;simp only[ey,cB]at j n g o m;exact⟨.pointer (some ⟨b,f+i*5,none⟩),by rw[d];simp[go_sem,hi,bK],by simp[go_sem,bT hC,j,n,g,o,m,dF,kx]⟩
def NC{r m:Nat}(h:Rd w 5 s L.length (L.flatMap dF))(X:L.length<=100000)(E:hC w r #[.int .u32 a] 45)(Q:ri w m sl ids)
  (z:ids.length<=100000)(n:r≠m)(u:¬aF sl r)
  (F:L.findIdx? (lw a)=none->∀f,M0 w f->K (gI (-1)) f)
  (h1:∀i (hi:i<L.length),(∀j (p:j<L.length),j<i->lw a L[j]=false)->lw a L[i]=true->∀d f,ri f m d (ids++[L[i].num])->aR (λy=>y=m\/aF sl y) w f->(∀y,aF d y->aF sl y\/w.heap.size<=y)->K (gI (i:Int)) f):
  Ca pQ 213 #[s,.func (.func 221) #[] #[.pointer (some ⟨r,0,none⟩),.pointer (some ⟨m,0,none⟩)]] w K:=by
 refine cN Tryz.func213 ?_;obtain⟨sa,sc,N⟩:=h.isSl;apply iI (gI (L.length:Int)) w (by rw[N];simp[go_sem])
 refine d8 (λst W=>∃(i:Nat) (x:Vt_),i<=L.length/\st=(x,gI i,())/\M0 w W/\∀j,∀p,j<i->lw a L[j]=false)
  (λst _=>match st.2.1 with| .int _ i=>L.length - i.toNat|_=>0) ⟨0,gI 0,qZ,rfl,rZ,λj _ h=>qZ⟩ ?_
 rintro⟨_,_⟩ W ⟨i,x,hi,⟨⟩,e,g⟩ U t;refine lV ?_;intro _;by_cases k:i<L.length
 ·have b:(i:Int)<(L.length:Int):=qZ;refine dY b ?_;obtain⟨q,G,P⟩:=Yr (h.mod e d9) k;apply bo G;apply bo P;simp only[eX];refine FZ (e.hpk E id) (Q.mod e id d9) z n u λd T B O C M=>?_;cases hp:lw a L[i]with
  |true=>
   rw[kJ];refine h1 i k g hp d T ?_ ((e.to).trans O) λy J=>(C y J).imp id λV=>by have:=e.size;omega
   unfold BP at B;rw[hp]at B;exact B
  |false=>
   rw[jO];apply VE i;refine t _ _ ⟨i+1,_,qZ,rfl,e.trans (M hp).1,λj p H=>?_⟩ (by grind);by_cases R:j=i
   ·subst R;exact hp
   ·grind
 ·obtain rfl:i=L.length:=qZ;have b:¬(L.length:Int)<(L.length:Int):=qZ;refine fF b ?_;refine F ?_ W e;rw[dH];intro o I;obtain⟨j,p,rfl⟩:=bQ I;exact g j p p
def Gq{i:Nat}(hi:i<L.length)(d:∀j (e:j<L.length),j<i->lw a L[j]=false):(L.take i).filter (lw a)=[]/\(L.take i).filter (λo=> !lw a o)=L.take i:=by
 have key:∀o∈L.take i,lw a o=false:=λo b=>by
  obtain⟨j,e,rfl⟩:=bQ b;rw[List.getElem_take];rw[az]at e;exact d j qZ qZ
 exact⟨gl.2 λo b=>by rw[key o b];simp,cO.2 λo b=>by rw[key o b];rfl⟩
def Mn{T u:Nat}(h:qT w s L)(hn:L.length<=1000)(h2:hC w T #[.int .u32 a] 45)(h6:ri w u sl ids)
  (hni:ids.length<=50000)(B:T≠u)(N:¬aF sl T)(hd:∀y,aF s y->y≠T/\y≠u/\¬aF sl y)
  (hK:∀s' g w',qT w' s' (L.filter λo=> !lw a o)->ri w' u g (ids++(L.filter (lw a)).map (·.num))->aR (λy=>aF s y\/y=u\/aF sl y) w w' ->(∀y,aF s' y->aF s y)->(∀y,aF g y->aF sl y\/w.heap.size<=y)->K s' w'):
  Ca pQ 220 #[s,.func (.func 221) #[] #[.pointer (some ⟨T,0,none⟩),.pointer (some ⟨u,0,none⟩)]] w K:=by
 refine cN Tryz.func220 ?_;refine NC h.rd qZ h2 h6 qZ B N (λI w1 P=>?_) λi0 E hno H sl1 w1 ids1 P n1=>?_
 ·refine lh ?_;rw[dH]at I;have e1:L.filter (lw a)=[]:=gl.2 λo J=>by grind
  have e2:(L.filter λo=> !lw a o)=L:=cO.2 λo J=>by grind
  rw[e1,e2]at hK;exact hK s sl w1 (h.mod P d9) (by simpa using h6.mod P id d9) (P.to) (λ_ h=>h) λ_ h=>.inl h
 ·obtain⟨b,p,rest,rfl,f,hb,hrl,hr1⟩:=h.pos qZ;have hbs:=aB hb;have t:∀y,aF (.slice (some ⟨b,0,none⟩) L.length p) y↔y=b:=λy=>⟨λd=>(by cases d;rfl),λd=>by subst d;exact rfl⟩
  have m:=hd b ((t b).2 rfl);refine eU ?_;apply VE i0;have hs1:=P.size
  have h1:=h.mod P λy d f=>by
   rw[t]at d;subst d;rcases f with f|f
   ·exact m.2.1 f
   ·exact m.2.2 f
  obtain⟨t1,t2⟩:=Gq E hno
  refine d8 (λst W=>∃(i j:Nat) (M:List Od) (g:Vt_),st=(gI i,gI j,())/\i<j/\j<=L.length/\qT W (.slice (some ⟨b,0,none⟩) L.length p) M/\M.length=L.length/\M.take i=(L.take j).filter (λo=> !lw a o)/\M.drop j=L.drop j/\
    ri W u g (ids++((L.take j).filter (lw a)).map (·.num))/\aR (λy=>y=b\/y=u\/aF sl y) w W/\∀y,aF g y->aF sl y\/w.heap.size<=y)
   (λst _=>match st.2.1 with| .int _ j=>L.length - j.toNat|_=>0) ⟨i0,i0+1,L,sl1,rfl,qZ,E,h1,rfl,?_,rfl,?_,P.mono λ_ _ h=>.inr h,n1⟩ ?_
  ·rw[bR E,cy,t2,aV (by rw[H];simp)];simp
  ·rw[bR E,cy,t1,bL H];exact ids1
  rintro _ W ⟨i,j,M,g,rfl,hij,hjL,r1,r2,r3,r4,r5,r6,Z⟩ KN hKN;refine lV ?_;intro _;refine IF ?_;have hMW:=r6.size
  have X:¬aF g T:=λf=>by
   rcases Z _ f with r|r
   ·exact N r
   ·have:=aB h2;omega
  have F:¬aF g b:=λf=>by
   rcases Z _ f with r|r
   ·exact m.2.2 r
   ·omega
  have h2W:=r6.hpk h2 λf=>by
   rcases f with f|f|f
   ·exact m.1 f.symm
   ·exact B f
   ·exact N f
  by_cases x:j<L.length
  ·apply ao (.bool true) W (by simp[go_sem];omega);rw[kJ]
   have hMj:M[j]'qZ=L[j]:=by
    have e:=ep (λl=>l[0]?) r4;simp only[fl,cB]at e;rw[av qZ,av x]at e;exact cZ e
   have hrd:=r1.rd;obtain⟨pj,f1,f2⟩:=Yr (i:=j) hrd qZ;rw[hMj]at f2
   have C:(ids++((L.take j).filter (lw a)).map (·.num)).length<=100000:=by
    have h1:=bh (lw a) (L.take j);rw[af,ah];rw[az]at h1;omega
   refine cT.at (λst W' =>∃(i' :Nat) (U:List Od) (n:Vt_),st=(gI i',())/\i' <j+1/\qT W' (.slice (some ⟨b,0,none⟩) L.length p) U/\U.length=L.length/\U.take i' =(L.take (j+1)).filter (λo=> !lw a o)/\U.drop (j+1)=L.drop (j+1)/\
    ri W' u n (ids++((L.take (j+1)).filter (lw a)).map (·.num))/\aR (λy=>y=b\/y=u\/aF sl y) w W' /\∀y,aF n y->aF sl y\/w.heap.size<=y) ?_ ?_
   ·refine bo f1 (bo f2 ?_);obtain⟨W1,e1,b1,m1'⟩:=jY W;apply bo e1;obtain⟨q,hq⟩:=di W.heap.size;rw[<-hq]at b1|-;obtain⟨W2,e2,b2,m2'⟩:=jE (o' :=L[j]) b1;apply iE e2;have M2:=m1'.on m2' λy d=>gr;apply bo (lE (o:=L[j]) (At.all b2));simp only[eX];have i2:=r5.mod M2 id d9
    have hqsl:¬(q=u\/aF g q):=λf=>by
     rcases f with f|f
     ·have:=aB r5.at_;omega
     ·have:=r5.own.lt f;omega
    refine FZ (M2.hpk h2W id) i2 C B X λn W3 i3 m3 n3 f3=>?_;refine dI ?_
    have M3:aR (λy=>y=b\/y=u\/aF sl y) w W3:=by
     refine(r6.trans (M2.to (G:=λy=>y=b\/y=u\/aF sl y))).on m3 λy d=>?_;rcases d with d|d
     ·grind
     ·rcases Z y d with r|r
      ·grind
      ·exact .inr r
    have o3:=(r1.mod M2 d9).mod m3 λy d f=>by
     rw[t]at d;subst d;rcases f with f|f
     ·exact m.2.1 f
     ·exact F f
    have b3:=m3.hpk b2 hqsl
    have Q:∀y,aF n y->aF sl y\/w.heap.size<=y:=λy d=>by
     rcases n3 y d with r|r
     ·exact Z y r
     ·exact .inr (by have:=M2.size;omega)
    have V:BP a (ids++((L.take j).filter (lw a)).map (·.num)) L[j]=ids++((L.take (j+1)).filter (lw a)).map (·.num):=by
     unfold BP;rw[bR x,cy];cases J:lw a L[j]with
     |true=>rw[bL J];simp
     |false=>rw[aV (by rw[J];simp)];simp
    rw[V]at i3
    have hdr:M.drop (j+1)=L.drop (j+1):=by
     have:=ep (List.drop 1) r4
     rwa[cL,cL]at this
    cases J:lw a L[j]with
    |false=>
     rw[show(!false)=true from rfl,ay,ae rfl];apply bo (lE (o:=L[j]) (At.all b3));obtain⟨pi,g1,g2⟩:=qT.el (l:=M) o3 (i:=i) qZ (sl:=.slice (some ⟨b,0,none⟩) L.length p) (w:=W3);obtain⟨-,g4⟩:=g2 W3 M o3 qZ;obtain⟨W4,s4,o4,m4⟩:=g4 L[j];refine bo (g1 W3) (iE s4 ?_);apply VE i;have m4' :=m4.mono λy _ d=>(t y).1 d;refine⟨i+1,M.set i L[j],n,rfl,qZ,o4,by grind,?_,?_,i3.mod m4' (λe=>m.2.1 e.symm) λy d e=>?_,M3.trans (m4'.mono λy _ d=>.inl d),Q⟩
     ·rw[bR (by grind),eg,List.take_set_of_le (aD _),r3,bR x,cy,bL (by rw[J];rfl)];rfl
     ·rw[List.drop_set_of_lt qZ];exact hdr
     ·subst e;rcases Q y d with r|r
      ·exact m.2.2 r
      ·omega
    |true=>
     rw[show(!true)=false from rfl,ay,aa dp];refine⟨i,M,n,rfl,qZ,o3,r2,?_,hdr,i3,M3,Q⟩;rw[r3,bR x,cy,aV (by rw[J];simp)];simp
   rintro _ W' ⟨i',U,n,rfl,u1,u2,u3,u4,u5,u6,u7,u8⟩;refine kR ?_;intro _;apply VE j;exact hKN _ _ ⟨i',j+1,U,n,rfl,u1,x,u2,u3,u4,u5,u6,u7,u8⟩ (by grind)
  ·obtain rfl:j=L.length:=qZ;refine eU ?_;rw[aK]at r3 r5;apply bo (wO ik Ax (show i<=L.length by omega) f qZ W);obtain⟨b',Y,k,he',hc',hb',hrl',hr1'⟩:=r1.pos qZ;obtain⟨rfl,-,rfl⟩:b=b' /\L.length=M.length/\p=Y:=by simpa using he'
   have hMl:(M.flatMap dF).length=M.length*5:=by rw[uB dV]
   refine Dq ik (dB MY) hb' (by grind) λz hz hz1=>?_;have R:(M.take i).length=i:=by grind
   have hA:((M.take i).flatMap dF).length=i*5:=by rw[uB dV,R]
   have O:jp (M.flatMap dF++k) (i*5) z=(M.take i).flatMap dF++(z++k):=by
    unfold jp;rw[hz,aO (by rw[hMl];omega),Ta dV,ar,show i*5+(L.length - i)*(4+1)=(M.flatMap dF).length by rw[hMl];omega,da]
   apply bo (IN ik Ax (show i<=p by omega) qZ _);have m9:aR (λy=>y=b) W (W.setRow b (jp (M.flatMap dF++k).toArray.toList (i*(4+1)) z).toArray):=(aR.refl (λy=>y=b) W).setRow (.inl rfl) _;refine hK _ g _ (?_ :qT _ _ _) (r5.mod m9 (λe=>m.2.1 e.symm) λy d e=>F (e▸d)) ((r6.mono λy _ d=>?_).trans (m9.mono λy _ d=>.inl ((t y).2 d))) (λy d=>(t y).2 (by cases d;rfl)) Z
   ·rw[<-r3];refine⟨by rw[hA,R],.inr ⟨b,p,z++k,by rw[R],qZ,?_,?_,?_⟩⟩
    ·rw[eK,ae rfl,hb'];rw[O]
    ·grind
    ·grind
   ·rcases d with d|d
    ·grind
    ·exact .inr d
end Go.Proofs
namespace Go.Proofs
open Go Go.Vc
attribute [local congr] bj
variable {a k:Int}{S:bt}
def ym(a k:Int)(S:bt)(i:Nat):List Int×bt:=((S.nums.take i).filter λn=>decide (k=0\/k=n)).foldl (uL a) ([],S)
def Mw{i:Nat}(hi:i<S.cal.l.length):ym a k S (i+1)=if k=0\/k=S.cal.l[i].spec.num then uL a (ym a k S i) S.cal.l[i].spec.num else ym a k S i:=by
 unfold ym;have b:i<S.nums.length:=by unfold bt.nums;rw[ah];exact hi
 have c:S.nums[i]=S.cal.l[i].spec.num:=by simp[bt.nums]
 rw[bR b,cy,iV,c];by_cases h:k=0\/k=S.cal.l[i].spec.num
 ·grind
 ·grind
def Pc:ym a k S S.cal.l.length=S.clear a k:=by
 unfold ym bt.clear;rw[aC (by unfold bt.nums;rw[ah];exact aD _)]
def P8{i:Nat}:(ym a k S i).2.cal=S.cal:=BS _ _ _
def Hq{B:Bk}(h:B.all.length<=200):(jk B a).2.length<=200:=ck (bh _ _) h
end Go.Proofs
namespace Go.Proofs
open Go Go.Vc
attribute [local congr] bj
def Mq(n:Int):Value:=gI n
def Wa:Tryz.prog.underlying 309=some (.map 45 2):=cV
def al6:lT pQ 2=some (gI 0):=cV
def C8(w:Wt_)(mw:Nat)(won:Int->Int):Prop:=∃L:List (Int×Int),eM eY Mq w mw L/\∀n,(lk L n).getD 0=won n
def C8.mod{F:NP_}{w w' :Wt_}{a:Nat}{won:Int->Int}(h:C8 w a won)(b:aR F w w')(h1:¬F a):C8 w' a won:=by
 obtain⟨L,c,d⟩:=h;exact⟨L,c.mod b h1,d⟩
def C8.look{w:Wt_}{a:Nat}{won:Int->Int}(h:C8 w a won)(n:Int):(jQ 309 (.map (some a)) (gU n) false).run pQ w=.ok (gI (won n)) w:=by
 obtain⟨L,c,d⟩:=h;have:=mY (ok:=false) (x:=n) Wa lu al6 (.inr ⟨a,rfl,c⟩:Af eY Mq w (.map (some a)) L);rw[<-d n];cases b:lk L n with
 |none=>rw[b]at this;exact this
 |some x=>rw[b]at this;exact this
abbrev tAc:TypeId:=100
def ah2{W:Wt_}{r:Nat}{a:Ac}(h:hC W r (cY a).toArray tAc):(iL tAc (bO r 0)).run pQ W=.ok (jX a) W:=by
 unfold cY at h;simp[go_sem,h,jX]
def eDu:fY pQ 369 3 24=true:=cV
def JG:Tryz.prog.underlying 40=some (.slice 45):=cV
def ZB:fY pQ 45 1 4=true:=cV
end Go.Proofs
namespace Go.Proofs
open Go Go.Vc
attribute [local congr] bj
def Mf{S:bt}(h:S.led.Ok)(a:Int):0<=(S.acc a).num/\(S.acc a).num<4294967296:=by
 unfold bt.acc bJ.getO;by_cases b:a=0
 ·rw[ae b];exact⟨by show(0:Int)<=0;omega,by show(0:Int)<_;omega⟩
 ·rw[aa b];cases c:S.led.find a with
  |none=>exact⟨by grind,by grind⟩
  |some x=>
   have:=h.acc x (dG c);exact⟨by grind,this.2.1⟩
def QZ(a:Int)(x:List Int×bt)(n m:Int):((uL a x n).2.bd m).length<=(x.2.bd m).length:=by
 show(eS x.2.bd n _ m).length<=_;by_cases h:m=n
 ·subst h;rw[cQ];exact bh _ _
 ·rw[eR _ _ _ h];exact aD _
def Dp(S:bt)(a k:Int)(m:Int):((S.clear a k).2.bd m).length<=(S.bd m).length:=by
 have:∀(b:List Int) (x:List Int×bt),((b.foldl (uL a) x).2.bd m).length<=(x.2.bd m).length:=by
  intro b;induction b with
  |nil=>intro x;exact aD _
  |cons n b c=>intro x;exact ck (c _) (QZ a x n m)
 exact this _ _
end Go.Proofs
namespace Go.Proofs
open Go Go.Vc
attribute [local congr] bj
variable {L:bJ}
def OH:∀{l m:List Int},l.Nodup->(∀x∈l,x∈m)->l.length<=m.length:=by
 intro l;induction l with
 |nil=>intro m _ _;exact aH _
 |cons a l j=>
  intro m d g;rw[ce]at d;have f:=g a (aw ..)
  have:=j (m:=m.erase a) d.2 λx i=>by
   have b:x≠a:=λe=>d.1 (e▸i);exact(List.mem_erase_of_ne b).2 (g x (ag _ i))
  rw[List.length_erase_of_mem f]at this;have h:0<m.length:=List.length_pos_of_mem f;rw[be];omega
def qP(h:L.Ok)(c:Int):(L.holders c).length<=64:=by
 have k:((L.holders c).map (·.a)).Nodup:=by
  have f:=(h.sp.nodup).sublist ((eI (p:=λp:Po=>decide (p.c=c))).map Po.key);show((L.held.filter λp=>decide (p.c=c)).map (·.a)).Nodup
  have e:(L.held.filter λp=>decide (p.c=c)).map Po.key=((L.held.filter λp=>decide (p.c=c)).map (·.a)).map λa=>(c,a):=by
   rw[dQ];refine eh λp hp=>?_;have:=(aU.1 hp).2;rw[aS]at this;show(p.c,p.a)=(c,p.a)
   rw[this]
  rw[e]at f;exact List.Pairwise.of_map (λa=>(c,a)) (λa b d e=>d (by rw[e])) f
 have:=OH (m:=L.all.map (·.num)) k λx j=>by
  obtain⟨p,hp,rfl⟩:=aL.1 j;obtain⟨a,i,g⟩:=(h.pos p (aU.1 hp).1).2.2.2.2.2.2.2;exact aL.2 ⟨a,i,g⟩
 rw[ah,ah]at this;exact ck this h.len
def Tv(p:Po->Bool):∀l:List Po,(l.filter p).length+(l.filter λx=> !p x).length=l.length:=by
 intro l;induction l with
 |nil=>rfl
 |cons a l b=>cases hp:p a<;>simp[hp]<;>omega
def Vz{L:bJ}:∀(a:List Int) (H:List Po),(∀p∈H,p.c∈a)->H.length<=(a.map λn=>(H.filter λp=>decide (p.c=n)).length).sum:=by
 intro a;induction a with
 |nil=>intro H h;cases H with|nil=>simp|cons p H=>exact absurd (h p (aw ..)) (by simp)
 |cons n a b=>
  intro H h
  have h1:=b (H.filter λp=> !decide (p.c=n)) λp hp=>by
   obtain⟨d,i⟩:=aU.1 hp;rcases ax.1 (h p d)with e|e
   ·grind
   ·exact e
  have f:(H.filter λp=>decide (p.c=n)).length+(H.filter λp=> !decide (p.c=n)).length=H.length:=by
   exact Tv _ H
  have g:(a.map λm=>((H.filter λp=> !decide (p.c=n)).filter λp=>decide (p.c=m)).length).sum<=(a.map λm=>(H.filter λp=>decide (p.c=m)).length).sum:=by
   clear b h h1;induction a with
   |nil=>simp
   |cons m a b=>
    simp only[aI,bH]
    have:((H.filter λp=> !decide (p.c=n)).filter λp=>decide (p.c=m)).length<=(H.filter λp=>decide (p.c=m)).length:=
     (eI.filter _).length_le
    omega
  simp only[aI,bH];omega
def tJ{C:oR}(hC:C.Ok)(h:I3 C L):L.held.length<=1024:=by
 have h1:=Vz (L:=L) (C.l.map (·.spec.num)) L.held λp hp=>by
  obtain⟨k,g,-,e,f⟩:=oI (h.held p hp);exact aL.2 ⟨k,f,e⟩
 have b:∀a:List Int,(a.map λn=>(L.held.filter λp=>decide (p.c=n)).length).sum<=64*a.length:=by
  intro a;induction a with
  |nil=>simp
  |cons n a j=>
   have:=qP h.led n;unfold bJ.holders at this;simp only[aI,bH,be];omega
 have d:=b (C.l.map (·.spec.num));have i:=hC.len;rw[ah]at d;omega
def WR(B:Int)(won:Int->Int):Prop:=∀n,-B<=won n/\won n<=B
def zh{V:Int}(j:0<=V):∀(l:List (Int×Int)) {won:Int->Int} {B:Int},WR B won->(∀x∈l,-V<=x.2/\x.2<=V)->WR (B+V*l.length) (iy won l):=by
 intro l;induction l with
 |nil=>intro won B h _ n;have:=h n;simpa [iy]using this
 |cons x l g=>
  intro won B h a;have i:=a x (aw ..)
  have h1:WR (B+V) (eS won x.1 (won x.1+x.2)):=λn=>by
   by_cases b:n=x.1
   ·subst b;rw[cQ];have:=h x.1;omega
   ·rw[eR _ _ _ b];have:=h n;omega
  have d:=g h1 λy f=>a y (ag _ f);intro n;have:=d n
  have e:B+V*((x::l).length:Int)=B+V+V*l.length:=by
   rw[be];push_cast;rw[Int.mul_add];omega
  rw[e];exact this
def yM(h:L.Ok)(c price:Int)(cl:Bool):(L.mark c price cl).2.1.length<=64/\∀x∈(L.mark c price cl).2.1,(-1100000000000000<=x.2/\x.2<=1100000000000000)/\iU x.1:=by
 unfold bJ.mark;split
 ·grind
 ·rename_i f
  have hp:aY price 1 MP=true:=by
   cases d:aY price 1 MP with
   |true=>rfl
   |false=>exact absurd (.inr d) f
  have g:=fe.1 hp;have e:MP=10000000:=rfl;have j:MF=1000000000000000:=rfl;refine⟨by show((L.holders c).map _).length<=64;rw[ah];exact qP h c,λx i=>?_⟩;obtain⟨p,b,rfl⟩:=aL.1 i;obtain⟨o,y,q,s,r,n,m,a,d,u⟩:=h.pos p (aU.1 b).1;have:=h.acc a d
  have k:p.q*price<=10000000*10000000:=by
   have h1:p.q*price<=10000000*price:=ia qZ qZ;omega
  have t: -(10000000*10000000)<=p.q*price:=by
   have h1:(-10000000)*price<=p.q*price:=ia qZ qZ;omega
  refine⟨⟨?_,?_⟩,⟨?_,?_⟩⟩
  ·grind
  ·grind
  ·show 0<=p.a;omega
  ·show p.a<_;omega
section
variable{w:Wt_}{K:aZ}{v c l mb md:Nat}{A:List (Int×Nat)}{D:List (Int×Value)}{fp:Pt->Nat->Prop}{S:bt}
end
def E6{w:Wt_}{K:aZ}{s:Vt_}{L:List Int}{a:Int}(h:Rd w 1 s L.length (L.flatMap Cu))(O:L.length<=100000)(m:∀y,M0 w y->K (.bool (L.contains a)) y):
  Ca pQ 208 #[s,gU a] w K:=by
 refine cN Tryz.func208 ?_;refine cN Tryz.func266 ?_;obtain⟨sa,sc,H⟩:=h.isSl;apply iI (gI (L.length:Int)) w (by rw[H];simp[go_sem])
 refine d8 (λst W=>∃(i:Nat) (x:Vt_),i<=L.length/\st=(x,gI i,())/\M0 w W/\∀j:Nat,∀n:j<L.length,j<i->L[j]≠a)
  (λst _=>match st.2.1 with| .int _ i=>L.length - i.toNat|_=>0) ⟨0,gI 0,qZ,rfl,rZ,λj _ h=>qZ⟩ ?_
 rintro⟨_,_⟩ W ⟨i,x,N,⟨⟩,k,o⟩ J q;refine lV ?_;intro _;by_cases f:i<L.length
 ·have g:(i:Int)<(L.length:Int):=qZ;refine dY g ?_;obtain⟨b,t,F,p,z,G⟩:=(h.mod k d9).item (show∀x,(Cu x).length=1 from λ_=>rfl) f rfl;obtain⟨C,e,M,hC,B⟩:=G.get;have r:=B 0 (gU L[i]) rfl;simp only[cB]at r;apply ao (bO b (t+i*1)) W (by rw[p];simp[go_sem,f,bK]);apply ao (gU L[i]) W (by simp only[pl]at r|-;simp[go_sem,bT hC,r]);by_cases d:L[i]=a
  ·refine dY d ?_;refine dI ?_;have:L.contains a=true:=by grind
   rw[this]at m;exact m W k
  ·apply ao (.bool false) W (by simp[go_sem];exact λe=>d e.symm);rw[jO];apply ao (gI ((i+1:Nat):Int)) W (by simp[go_sem];rw[mR]);refine q _ _ ⟨i+1,_,qZ,rfl,k,λj n E=>?_⟩ (by grind);by_cases u:j=i
   ·subst u;exact d
   ·grind
 ·obtain rfl:i=L.length:=qZ;refine eU ?_;refine dI ?_
  have:L.contains a=false:=by
   rw[eJ,Ne,List.contains_iff_mem];intro I;obtain⟨j,n,u⟩:=bQ I;exact o j n n u
  rw[this]at m;exact m W k
end Go.Proofs
namespace Go.Proofs
open Go Go.Vc
attribute [local congr] bj
def Ng{L:bJ}{won:Int->Int}(k:Ct):jK [k] L won=if k.st=3 then(0,L,won)else((L.mark k.spec.num k.price false).1,(L.mark k.spec.num k.price false).2.2,iy won (L.mark k.spec.num k.price false).2.1):=by
 unfold jK;split
 ·rfl
 ·simp only;split
  ·rfl
  ·rename_i h
   simp only[jK];have:(L.mark k.spec.num k.price false).1=0:=by simpa using h
   rw[this]
end Go.Proofs
namespace Go.Proofs
open Go Go.Vc
attribute [local congr] bj
def Fu{C:oR}(h:C.Ok)(n:Int):(fG C n).2.Ok:=by
 unfold fG;split
 ·exact h
 ·obtain⟨h1,g,i⟩:=pU (l:=C.l) (n:=n) (f:=λk=>{k with st:=3}) (λk e _=>⟨by
   obtain⟨a,b,c,d⟩:=h.ok k e;exact⟨⟨a.1,⟨by grind,by grind⟩,a.2.2⟩,b,c,by grind,by grind⟩,rfl⟩) h.ok h.srt
  exact⟨by show(iu _ _ _).length<=16;rw[i];exact h.len,h.day,h1,g⟩
def CV{C:oR}(n m:Int):(cj (fG C n).2.l m).isSome=(cj C.l m).isSome:=by
 unfold fG;split
 ·rfl
 ·show(cj (iu C.l n λk=>{k with st:=3}) m).isSome=_;rw[qq (f:=λk=>{k with st:=3}) λ_ _=>rfl,mO]
def vM:∀(l:List Sd) (r:Rp) (S:bt),(nJ l r S).2.2.cal=S.cal/\∀m,((nJ l r S).2.2.bd m).length<=(S.bd m).length
 | [],r,S=>⟨rfl,λ_=>aD _⟩
 |s::l,r,S=>by
  have h1:(if s.dfl then(S.clear s.acct 0).2 else S).cal=S.cal/\∀m,((if s.dfl then(S.clear s.acct 0).2 else S).bd m).length<=(S.bd m).length:=by
   split
   ·exact⟨su _ _ _,λm=>Dp _ _ _ m⟩
   ·grind
  obtain⟨b,a⟩:=di (if s.dfl then(S.clear s.acct 0).2 else S:bt);rw[<-a]at h1;unfold nJ;simp only;rw[<-a];split
  ·exact h1
  ·exact⟨(vM l _ _).1.trans h1.1,λm=>ck ((vM l _ _).2 m) (h1.2 m)⟩
def Sj(S:bt)(won:Int->Int):(S.pay won).2.2.cal=S.cal/\∀m,((S.pay won).2.2.bd m).length<=(S.bd m).length:=by
 unfold bt.pay;simp only;split
 ·grind
 ·split
  ·exact vM _ _ _
  ·exact vM (ie S.led.fund (S.dues won)).1 kI S
def VA(S:bt)(won:Int->Int)(m:Int):((S.pay won).2.2.bd m).length<=(S.bd m).length:=(Sj S won).2 m
end Go.Proofs
namespace Go.Proofs
open Go Go.Vc
attribute [local congr] bj
section
variable{W:Wt_}{q:Nat}{r:Rp}{sT:Vt_}
end
def Ph:∀{l:List Int},(∀x∈l,0<=x)->0<=l.sum/\∀x∈l,x<=l.sum
 | [],_=>⟨by simp,by simp⟩
 |a::l,h=>by
  have h1:=h a (aw ..);have⟨h2,h3⟩:=Ph (l:=l) λx b=>h x (ag _ b);rw[bH];refine⟨qZ,λx b=>?_⟩;rcases ax.1 b with rfl|b
  ·omega
  ·have:=h3 x b;omega
def IK(q:Int)(l:List Hd):(ky q l).1.length<=64/\∀h∈(ky q l).1,(0<=h.q/\h.q<=10000000)/\∃d∈l,d.acct=h.acct:=by
 unfold ky;split
 ·simp
 ·split
  ·simp
  ·split
   ·simp
   ·split
    ·simp
    ·rename_i h1 k y p
     have e:=BT (t:=xq q) (l:=l.map λd=>oN q d.q) (by simpa using p)
     have o:aY q (-10000000) 10000000=true:=by
      cases m:aY q (-10000000) 10000000 with
      |true=>rfl
      |false=>exact absurd (.inr (.inl m)) k
     have n:=fe.1 o;have g:xq q<=10000000:=by unfold xq;omega
     have f:=Ph e.2.2.1;refine⟨?_,λh i=>?_⟩
     ·unfold tF;rw[ah];exact ck (bh _ _) (by grind)
     ·unfold tF at i;obtain⟨x,u,rfl⟩:=aL.1 i;have a:=(aU.1 u).1;have b:=List.of_mem_zip a;have j:=e.2.2.1 _ b.2;have s:=f.2 _ b.2;rw[e.2.1]at s;exact⟨⟨j,by grind⟩,x.1,b.1,rfl⟩
section
variable{w:Wt_}{K:aZ}{v c l mb md:Nat}{A:List (Int×Nat)}{D:List (Int×Value)}{fp:Pt->Nat->Prop}{S:bt}
end
end Go.Proofs
namespace Go.Proofs
open Go Go.Vc
attribute [local congr] bj
def XZ{w:Wt_}{p:Nat}{f:Fl}(h:hC w p (Me f).toArray 390)(l:List Od):Ey w (.func (.func 277) #[] #[.pointer (some ⟨p,0,none⟩)]) (λo=>decide (o.num=f.num)) l:=by
 refine⟨_,_,rfl,λo k W g K j=>?_⟩;refine cN Tryz.func277 ?_;obtain⟨a,e,i,b⟩:=ux o W;apply bo e;have d:=b.hpk (g.hpk h id) id;unfold Me at d;refine ao (bO W.heap.size 0) a (by simp[go_sem]) (ao (gQ o.num) a (by simp[go_sem,i,dF]) ?_);refine ao (bO p 0) a (by simp[go_sem]) (ao (gQ f.num) a (by simp[go_sem,d]) ?_);apply ao (.bool (decide (o.num=f.num))) a (by simp[go_sem];rfl);exact j a b
def Ei{l:List Od}{num qty:Int}{o:Od}(b:o∈l)(g:o.num≠num):o∈kT l num qty:=by
 unfold kT;cases k:l.findIdx? λo=>decide (o.num=num)with
 |none=>exact b
 |some i=>
  obtain⟨d,a,-⟩:=bz.1 k;rw[aS]at a;obtain⟨j,m,rfl⟩:=bQ b;have f:j≠i:=λe=>g (by subst e;exact a);simp only;split
  ·rcases EA (av d) b with h|h
   ·grind
   ·exact h
  ·refine List.mem_iff_getElem.2 ⟨j,by grind,?_⟩;rw[List.getElem_set_ne (λe=>f e.symm)]
def Su(sells:Bool)(qty:Int)(l:List Od):(jj sells qty l).2.1.length<=50:=by
 have key:∀l q p,(my q l p).1.length<=l.length:=by
  intro l;induction l with
  |nil=>intro q p;simp[my]
  |cons o l a=>
   intro q p;unfold my;split
   ·simp
   ·grind
 unfold jj;split
 ·simp
 ·split
  ·simp
  ·rename_i h1 b
   have e:=key (Srt.stable (oM (pH sells)) l) qty 0;have d:=(Srt.stable_perm (oM (pH sells)) l).length_eq;simp only;omega
section
variable{w:Wt_}{K:aZ}{v c l mb md:Nat}{A:List (Int×Nat)}{D:List (Int×Value)}{fp:Pt->Nat->Prop}{S:bt}
def GT(k:Ct)(a:Int)(long:Bool)(price left:Int)(Fs:List Fl)(r:Rp)(S:bt):Int×Rp×bt:=
 let f:=nR k.spec.num a long price Fs left r S
 if f.1≠0 then(f.1,f.2.2.1,f.2.2.2)
 else if f.2.1=0 then(0,f.2.2.1,f.2.2.2)
 else
  let p:=ky (if long then f.2.1 else -f.2.1) (((f.2.2.2.led.holders k.spec.num).filter λp=>decide (p.a≠a)).map λp=>⟨p.a,p.q⟩)
  if p.2≠0 then(p.2,f.2.2.1,f.2.2.2)else nL k.spec.num a long k.price p.1 f.2.2.1 f.2.2.2
def UU(S:bt)(k:Ct)(a q:Int)(r:Rp):S.sell k a q r=if(jj (decide (0<q)) (max q (-q)) ((S.bd k.spec.num).filter λo=>o.buy==decide (0<q))).2.2≠0 then((jj (decide (0<q)) (max q (-q)) ((S.bd k.spec.num).filter λo=>o.buy==decide (0<q))).2.2,r,S)else
  GT k a (decide (0<q)) (jj (decide (0<q)) (max q (-q)) ((S.bd k.spec.num).filter λo=>o.buy==decide (0<q))).1 (max q (-q)) (jj (decide (0<q)) (max q (-q)) ((S.bd k.spec.num).filter λo=>o.buy==decide (0<q))).2.1 r S:=rfl
end
end Go.Proofs
namespace Go.Proofs
open Go Go.Vc
attribute [local congr] bj
def GR{L:bJ}(h:L.Ok)(c a:Int): -10000000<=(L.position c a).q/\(L.position c a).q<=10000000:=by
 unfold bJ.position;cases d:L.pos? (c,a)with
 |none=>exact⟨by grind,by grind⟩
 |some p=>
  have b:=dG d;have:=h.pos p b;have e:MP=10000000:=rfl;exact⟨by grind,by grind⟩
section
variable{w:Wt_}{K:aZ}{v c l mb md:Nat}{A:List (Int×Nat)}{D:List (Int×Value)}{fp:Pt->Nat->Prop}{S:bt}
end
end Go.Proofs
namespace Go.Vc
open Go Go.Vc
variable {L:List As}{w:Wt_}
def pt(b:Nat)(cs:LV_)(T:TypeId):As:=
 ⟨λw F=>hp w b=some (.cells cs.toArray T (0,0))/\∀x,F x↔x=b,λh hb=>by rw[(h.2 _).1 hb];exact aB h.1,λh m hg=>⟨m.keep h.1 (hg b ((h.2 b).2 rfl)),h.2⟩⟩
def td{b:Nat}{cs:LV_}{T:TypeId}{M:List As}(k:eG L (pt b cs T::M))(h:Ss w L):hp w b=some (.cells cs.toArray T (0,0)):=by
 obtain⟨F,x⟩:=h;obtain⟨a,c,h1,-⟩:=(k.out w F).1 x;exact h1.1
def Ss.upd{A B:As}{w' :Wt_}(h:Ss w (A::L))(k:∀F,A.P w F->∃c,B.P w' c/\aR F w w' /\∀b,c b->F b\/w.heap.size<=b):Ss w' (B::L):=by
 obtain⟨j,g,h1,e,f⟩:=Ss.cons.1 h;obtain⟨c,k1,k2,k3⟩:=k j h1;refine Ss.cons.2 ⟨c,g,k1,e.md k2 λb a d=>f b d a,λb a d=>?_⟩;rcases k3 b a with a|a
 ·exact f b a d
 ·have:=e.lt d;omega
def Ss.new{B:As}{w' :Wt_}(h:Ss w L)(m:M0 w w'){F' :NP_}(k:B.P w' F')(n:∀b,F' b->w.heap.size<=b):Ss w' (B::L):=by
 obtain⟨F,x⟩:=h;refine Ss.cons.2 ⟨F',F,k,x.md m d9,λb a c=>?_⟩;have:=x.lt c;have:=n b a;omega
section
variable{P:Program}{L M:List As}{b i:Nat}{cs cs' :LV_}{T t:TypeId}{v x:Vt_}{k:Value->WP}{k0:WP}{s:Sem Value}
def Gs.ld(a:eG L (pt b cs T::M))(h:∀w,hp w b=some (.cells cs.toArray T (0,0))->(iL t (bO b i)).run P w=.ok v w)(c:Gs L (k v)):Gs L (Vw P (iL t (bO b i)) k):=
 Gs.V (λw x=>h w (td a x)) c
def Gs.ldW(a:eG L (pt b cs T::M))(h:∀w,hp w b=some (.cells cs.toArray T (0,0))->(iL t (bO b i)).run P w=.ok v w)(c:Gs L (k v)):Gs L (Ww P (iL t (bO b i)) k):=
 Gs.W (λw x=>h w (td a x)) c
def Gs.ldE(a:eG L (pt b cs T::M))(h:∀w,hp w b=some (.cells cs.toArray T (0,0))->(iL t (bO b i)).run P w=.ok v w)(c:Gs L k0):Gs L (Ew P (iL t (bO b i)) v k0):=
 Gs.E (λw x=>h w (td a x)) c
def T6{w:Wt_}(h:hp w b=some (.cells cs.toArray T (0,0)))(e:cs.set i x=cs'):hp (w.setCell ⟨b,i,none⟩ x) b=some (.cells cs'.toArray T (0,0))/\aR (λy=>y=b) w (w.setCell ⟨b,i,none⟩ x):=by
 refine⟨?_,(aR.refl (λy=>y=b) w).setCell (.inl rfl) _ _⟩;rw[Bp,ae rfl,h,jJ,<-e];simp
def Gs.al(h:∀w,s.run P w=.ok (bO w.heap.size 0) (w.alloc (.cells cs.toArray T)))(a:∀b,Gs (pt b cs T::L) (k (bO b 0))):Gs L (Vw P s k):=⟨λw y=>by
 refine bo (h w) ((a _).go _ (y.new ((aR.refl _ w).alloc _) (F' :=λx=>x=w.heap.size) ⟨?_,λ_=>aG⟩ λx c=>qZ));rw[vJ,ae rfl]⟩
def Gs.call{A:As}{f:FuncId}{a:Array Value}{α:Type}{val:α->Value}{p:α->Prop}{B:α->As}(h:eG L (A::M))
  (d:∀w F,A.P w F->∀K:aZ,(∀x e g,p x->(B x).P e g->aR F w e->(∀y,g y->F y\/w.heap.size<=y)->K (val x) e)->Ca P f a w K)(o:∀x,p x->Gs (B x::M) (k (val x))):Gs L (Cw P f a k):=⟨λw y=>by
 obtain⟨F,z⟩:=y;have r:Ss w (A::M):=⟨F,(h.out w F).1 z⟩
 obtain⟨q,n,h1,j,l⟩:=Ss.cons.1 r;refine d w q h1 k λx e g hp C m u=>(o x hp).go e (Ss.cons.2 ⟨g,n,C,j.md m λb c d=>l b d c,λb c d=>?_⟩);rcases u b c with c|c
 ·exact l b c d
 ·have:=j.lt d;omega⟩
def Gs.al0(h:∀w,(iA T true (.tuple #[])).run P w=.ok (bO w.heap.size 0) (w.alloc (.cells cs.toArray T)))(a:∀b,Gs (pt b cs T::L) (k (bO b 0))):Gs L (Vw P (iA T true (.tuple #[])) k):=Gs.al h a
def Gs.bx(h:∀w,(Instr.box T x).run P w=.ok (bO w.heap.size 0) (w.alloc (.cells cs.toArray T)))(a:∀b,Gs (pt b cs T::L) (k (bO b 0))):Gs L (Vw P (Instr.box T x) k):=Gs.al h a
def Gs.stG{u:Sem Unit}(c:eG L (pt b cs T::M))(h:∀w,hp w b=some (.cells cs.toArray T (0,0))->∃a,u.run P w=.ok () a/\hp a b=some (.cells cs'.toArray T (0,0))/\aR (λy=>y=b) w a)
  (f:Gs (pt b cs' T::M) k0):Gs L (Uw P u k0):=⟨λw y=>by
 obtain⟨F,z⟩:=y;have m:Ss w (pt b cs T::M):=⟨F,(c.out w F).1 z⟩
 obtain⟨a,h1,j,l⟩:=h w (td c ⟨F,z⟩);refine iE h1 (f.go a (m.upd λg e=>⟨g,⟨j,e.2⟩,l.mono λy _ d=>(e.2 y).2 d,λy d=>.inl d⟩))⟩
def Gs.st(a:eG L (pt b cs T::M))(h:∀w,hp w b=some (.cells cs.toArray T (0,0))->(iS t (bO b i) x).run P w=.ok () (w.setCell ⟨b,i,none⟩ x))(e:cs.set i x=cs')
  (c:Gs (pt b cs' T::M) k0):Gs L (Uw P (iS t (bO b i) x) k0):=Gs.stG a (λw y=>⟨_,h w y,T6 y e⟩) c
def Cr{n:Nat}{xs:LV_}{w:Wt_}(c:xs.length=n+1)(f:P.cellsOf t=n+1)(d:i+xs.length<=cs.length)(h1:xs.all (·.oneCell')=true)(e:jp cs i xs=cs')(h:hp w b=some (.cells cs.toArray T (0,0))):
  ∃a,(rS t (bO b i) (.agg xs.toArray)).run P w=.ok () a/\hp a b=some (.cells cs'.toArray T (0,0))/\aR (λy=>y=b) w a:=by
 have r:=vu (P:=P) (w:=w) (b:=b) (off:=i) f c h (by simpa using d) h1;refine⟨_,r,?_,(aR.refl (λy=>y=b) w).setRow (.inl rfl) _⟩;rw[DI,ae rfl,h,<-e]
def Gs.sta{n:Nat}{xs:LV_}(a:eG L (pt b cs T::M))(d:xs.length=n+1)(f:P.cellsOf t=n+1)(g:i+xs.length<=cs.length)(h1:xs.all (·.oneCell')=true)(e:jp cs i xs=cs')(c:Gs (pt b cs' T::M) k0):
  Gs L (Uw P (iS t (bO b i) (.agg xs.toArray)) k0):=Gs.stG a (λw h=>Cr (t:=t) d f g h1 e h) c
def Gs.stx{n:Nat}{xs:LV_}(h:x=.agg xs.toArray)(a:eG L (pt b cs T::M))(d:xs.length=n+1)(f:P.cellsOf t=n+1)(g:i+xs.length<=cs.length)(h1:xs.all (·.oneCell')=true)(e:jp cs i xs=cs')(c:Gs (pt b cs' T::M) k0):
  Gs L (Uw P (iS t (bO b i) x) k0):=by subst h;exact Gs.sta a d f g h1 e c
def Gs.stY{n:Nat}{xs:LV_}(a:eG L (pt b cs T::M))(d:xs.length=n+1)(f:P.cellsOf t=n+1)(g:i+xs.length<=cs.length)(h1:xs.all (·.oneCell')=true)(e:jp cs i xs=cs')(c:Gs (pt b cs' T::M) k0):
  Gs L (Yw P (rS t (bO b i) (.agg xs.toArray)) k0):=⟨λw y=>⟨(Gs.stG a (λw h=>Cr (t:=t) d f g h1 e h) c).go w y⟩⟩
def Gs.Ib{c:Bool}{a b:WP}(d:c=true->Gs L a)(e:c=false->Gs L b):Gs L (Iw (.bool c) a b):=by
 cases c
 ·exact Gs.If (e rfl)
 ·exact Gs.It (d rfl)
structure Wr(G:Prop):Prop where
 out:G
def Snt:WP:=λ_=>True
def Gs.snt:Gs L Snt:=⟨λ_ _=>trivial⟩
def au{φ:WP}{G:Prop}(g:G)(h:Wr G->Gs L φ:=by
 intro g
 fail_if_success with_reducible exact Gs.snt
 repeat first
  |with_reducible apply Gs.D
  |with_reducible apply Gs.Q
  |with_reducible apply Gs.It
  |with_reducible apply Gs.If
  |((with_reducible apply Gs.ld);(· (repeat first|(with_reducible exact Ou)|(with_reducible apply OV)));(· (intro w h;simp[go_sem,h]<;>first|exact⟨rfl,rfl⟩|exact rfl)))
  |((with_reducible apply Gs.ldW);(· (repeat first|(with_reducible exact Ou)|(with_reducible apply OV)));(· (intro w h;simp[go_sem,h]<;>first|exact⟨rfl,rfl⟩|exact rfl)))
  |((with_reducible apply Gs.ldE);(· (repeat first|(with_reducible exact Ou)|(with_reducible apply OV)));(· (intro w h;simp[go_sem,h]<;>first|exact⟨rfl,rfl⟩|exact rfl)))
  |((with_reducible apply Gs.stx);(·rfl);(· (repeat first|(with_reducible exact Ou)|(with_reducible apply OV)));(·rfl);(·kernel_rfl);(·exact Nat.le_of_ble_eq_true rfl);(·rfl);(·first|exact lF rfl|(simp[jp];done)|(simp[jp];rfl)))
  |((with_reducible apply Gs.st);(· (repeat first|(with_reducible exact Ou)|(with_reducible apply OV)));(· (intro w h;simp[go_sem,h]));(· (simp only[List.set_cons_succ,List.set_cons_zero]<;>rfl)))
  |((with_reducible apply Gs.al0);(· (intro w;simp[go_sem]<;>first|exact⟨rfl,rfl⟩|exact rfl)))
  |((with_reducible apply Gs.bx);(· (intro w;simp[go_sem]<;>first|exact⟨rfl,rfl⟩|exact rfl)))
  |((with_reducible apply Gs.V);(· (intro w _;simp[go_sem]<;>first|(rw[ew]<;>omega)|(rw[ly]<;>omega)|exact⟨rfl,rfl⟩|exact rfl)))
  |((with_reducible apply Gs.N);(· (intro w _;simp[go_sem]<;>first|(rw[ew]<;>omega)|(rw[ly]<;>omega)|exact⟨rfl,rfl⟩|exact rfl)))
  |((with_reducible apply Gs.W);(· (intro w _;simp[go_sem]<;>first|(rw[ew]<;>omega)|(rw[ly]<;>omega)|exact⟨rfl,rfl⟩|exact rfl)))
  |((with_reducible apply Gs.E);(· (intro w _;simp[go_sem]<;>first|(rw[ew]<;>omega)|(rw[ly]<;>omega)|exact⟨rfl,rfl⟩|exact rfl)))
  |((with_reducible apply Gs.Pu);(· (intro w;simp[go_sem]<;>first|(rw[ew]<;>omega)|(rw[ly]<;>omega)|exact⟨rfl,rfl⟩|exact rfl)))
 exact g.out):Gs L φ:=h ⟨g⟩
end
end Go.Vc
namespace Go.Vc
open Go Go.Proofs
section
variable{P:Program}{A A' C:As}{L M:List As}{k:Value->WP}{k0:WP}{w w' :Wt_}
def Gs.old{α:Type}{φ:(Value->WP)->WP}{val:α->Value}{p:α->Prop}{B:α->As}(c:∀w F,Ss w L->A.P w F->∀K:aZ,(∀x w' d,p x->(B x).P w' d->aR F w w' ->(∀y,d y->F y\/w.heap.size<=y)->K (val x) w')->φ K w)
  (j:∀x,p x->Gs (B x::M) (k (val x)))(f:eG L (A::M)):Gs L (φ k):=⟨λw y=>by
 obtain⟨F,z⟩:=y;obtain⟨l,i,h1,g,h⟩:=Ss.cons.1 (⟨F,(f.out w F).1 z⟩:Ss w (A::M));refine c w l ⟨F,z⟩ h1 k λx w' d hp q m o=>(j x hp).go w' (Ss.cons.2 ⟨d,i,q,g.md m λb a c=>h b c a,λb a c=>?_⟩);rcases o b a with a|a
 ·exact h b a c
 ·have:=g.lt c;omega⟩
def Gs.nw{α:Type}{φ:(Value->WP)->WP}{val:α->Value}{p:α->Prop}{B:α->As}(f:∀w,Ss w L->∀K:aZ,(∀x w' a,p x->(B x).P w' a->M0 w w' ->(∀y,a y->w.heap.size<=y)->K (val x) w')->φ K w)(c:∀x,p x->Gs (B x::L) (k (val x))):Gs L (φ k):=
 ⟨λw y=>f w y k λx w' a hp d m g=>(c x hp).go w' (y.new m d g)⟩
def As.mul(A B:As):As:=⟨λw F=>∃F1 F2,A.P w F1/\B.P w F2/\(∀b,F1 b->¬F2 b)/\∀b,F b↔F1 b\/F2 b,
 λ⟨F1,F2,h1,h2,_,h4⟩ hb=>((h4 _).1 hb).elim (A.lt h1) (B.lt h2),λ⟨F1,F2,h1,h2,h3,h4⟩ m hg=>⟨F1,F2,A.md h1 m λb hb=>hg b ((h4 b).2 (.inl hb)),B.md h2 m λb hb=>hg b ((h4 b).2 (.inr hb)),h3,h4⟩⟩
def O3:eG (A.mul C::L) (A::C::L):=⟨λw F=>⟨λ⟨q,j,⟨F3,g,p,o,i,d⟩,l,h,f⟩=>⟨F3,λb=>g b\/j b,p,⟨g,j,o,l,λb a c=>h b ((d b).2 (.inr a)) c,λ_=>aG⟩,λb a c=>by
 rcases c with c|c
 ·exact i b a c
 ·exact h b ((d b).2 (.inl a)) c,λb=>by rw[f,d,or_assoc]⟩,
 λ⟨F3,F5,p,⟨g,j,o,l,h,f⟩,i,d⟩=>⟨λb=>F3 b\/g b,j,⟨F3,g,p,o,λb a c=>i b a ((f b).2 (.inl c)),λ_=>aG⟩,l,λb a c=>by
 rcases a with a|a
 ·exact i b a ((f b).2 (.inr c))
 ·exact h b a c,λb=>by rw[d,f,or_assoc]⟩⟩⟩
def Gs.fact{p:Prop}{φ:WP}(a:∀w F,A.P w F->p)(h:p->Gs (A::L) φ):Gs (A::L) φ:=⟨λw y=>by
 obtain⟨c,g,h1,d,f⟩:=Ss.cons.1 y;exact(h (a w c h1)).go w y⟩
def Hi(w0:Wt_)(X:NP_):As:=⟨λw F=>(∀b,F b↔b<w0.heap.size/\¬X b)/\aR X w0 w,λh hb=>by have:=h.2.size;have:=(h.1 _).1 hb;omega,λh m hg=>⟨h.1,ck h.2.size m.size,m.out.trans h.2.out,m.os.trans h.2.os,λb hb hx=>(m.blk b (bI hb h.2.size) (hg b ((h.1 b).2 ⟨hb,hx⟩))).trans (h.2.blk b hb hx)⟩⟩
def Gs.j{S α:Type}{a:(S->WP)->WP}{b:S->WP}(st:α->S)(c:α->List As)(p:α->Prop)(f:∀J:S->WP,(∀x,p x->Gs (c x) (J (st x)))->Gs L (a J))(g:∀x,p x->Gs (c x) (b (st x))):Gs L (Jw a b):=⟨λw y=>
 cT.at (A:=λJ=>a J w) (B:=b) (λs w=>∃x,p x/\s=st x/\Ss w (c x)) ((f (λs w=>∃x,p x/\s=st x/\Ss w (c x)) λx d=>⟨λw z=>⟨x,d,rfl,z⟩⟩).go w y) λs w ⟨x,d,e,z⟩=>by rw[e];exact(g x d).go w z⟩
def Gs.j1{S:Type}{a:(S->WP)->WP}{b:S->WP}(st:S)(c:∀J:S->WP,Gs L (J st)->Gs L (a J))(f:Gs L (b st)):Gs L (Jw a b):=
 Gs.j (λ_:Unit=>st) (λ_=>L) (λ_=>True) (λJ d=>c J (d () trivial)) λ_ _=>f
def Gs.z(h:Gs L k0):Gs L (Zw k0):=⟨λw x _=>h.go w x⟩
def Iy{p:NP_}(h:∃n,p n):∃n,p n/\∀m,p m->n<=m:=by
 obtain⟨n,d⟩:=h;induction n using Nat.strongRecOn with
 |_ n c=>
  by_cases a:∃m,m<n/\p m
  ·grind
  ·grind
def Gs.l{S α:Type}{body:S->(S->WP)->WP}{s:S}(st:α->S)(m:α->Nat)(d:α->List As)(p:α->Prop)(c:α)(e:s=st c)(r:p c)
  (h:∀x,p x->∀K:S->WP,(∀y,p y->m y<m x->Gs (d y) (K (st y)))->Gs (d x) (body (st x) K))(i:eG L (d c)):Gs L (Lw body s):=⟨λw z=>by
 classical
 let I:S->World->Nat->Prop:=λs w n=>∃x,p x/\s=st x/\m x=n/\Ss w (d x);let f:S->World->Nat:=λs w=>if h:∃n,I s w n then Classical.choose (Iy h)else 0
 refine Zl (λs w=>∃n,I s w n) f ⟨m c,c,r,e,rfl,z.out.elim λF y=>⟨F,(i.out w F).1 y⟩⟩ λs w o=>?_;obtain⟨x,G,e,H,E⟩:=(Classical.choose_spec (Iy o)).1;rw[e];refine(h x G (λj w' =>(∃n,I j w' n)/\f j w' <f (st x) w) λy q g=>⟨λw' l=>?_⟩).go w E;have a:∃n,I (st y) w' n:=⟨m y,y,q,rfl,rfl,l⟩
 have B:f (st x) w=m x:=by
  have:∃n,I (st x) w n:=e▸o;show(if h:∃n,I (st x) w n then Classical.choose (Iy h)else 0)=_;rw[pT this,H];congr 1;rw[e]
 refine⟨a,?_⟩;rw[B];show(if h:∃n,I (st y) w' n then Classical.choose (Iy h)else 0)<_;rw[pT a];exact fk ((Classical.choose_spec (Iy a)).2 _ ⟨y,q,rfl,rfl,l⟩) g⟩
def ow(s:Vt_)(T:TypeId)(sz n:Nat)(cs:LV_):As:=⟨λw F=>ic w T sz s n cs/\∀b,F b↔aF s b,λh hb=>h.1.lt ((h.2 _).1 hb),λh m hg=>⟨h.1.mod m λb hb=>hg b ((h.2 b).2 hb),h.2⟩⟩
def rd(s:Vt_)(sz n:Nat)(cs:LV_):As:=⟨λw F=>Rd w sz s n cs/\∀b,F b↔tq s b,λh hb=>h.1.lt ((h.2 _).1 hb),λh m hg=>⟨h.1.mod m λb hb=>hg b ((h.2 b).2 hb),h.2⟩⟩
def iK(h:eG L (A::M))(x:Ss w L):∃F,A.P w F:=by
 obtain⟨F,z⟩:=x;obtain⟨a,c,h1,-⟩:=(h.out w F).1 z;exact⟨a,h1⟩
section
variable{s x:Vt_}{e T t u ty e' :TypeId}{sz by_ n m:Nat}{cs news:LV_}
def XD(h:eG L (ow s T sz n cs::M)):∀w,Ss w L->ic w T sz s n cs:=λw x=>(iK h x).elim λ_ h=>h.1
def nG(h:eG L (ow s T sz n cs::M)):∀w,Ss w L->Rd w sz s n cs:=λw x=>(XD h w x).rd
def Gs.nil{φ:WP}(T:TypeId)(sz:Nat)(h:Gs (ow (.slice none 0 0) T sz 0 []::L) φ):Gs L φ:=⟨λw y=>h.go w (y.new (aR.refl _ w) (F' :=λ_=>False) ⟨ic.nil w T sz,λb=>⟨False.elim,λh=>by cases h⟩⟩ λ_ h=>h.elim)⟩
def Gs.nilF{φ:WP}{α:Type}(T:TypeId)(sz:Nat)(f:α->List Value)(h:Gs (ow (.slice none ([]:List α).length 0) T sz ([]:List α).length (([]:List α).flatMap f)::L) φ):Gs L φ:=Gs.nil T sz h
def Gs.app(g:P.underlying t=some (.slice e))(E:P.underlying u=some (.slice e'))(r:fY P e sz by_=true)(G:∀w,Ss w L->Rd w sz x m news)(h1:news.all (·.oneCell')=true)(i:(n+m)*by_<=140737488355328)
  (j:∀a c,Gs (ow (.slice a (n+m) c) e sz (n+m) (cs++news)::M) (k (.slice a (n+m) c)))(f:eG L (ow s e sz n cs::M)):Gs L (Xw P (fb #[t,u] ty [s,x]) k):=
 Gs.old (A:=ow s e sz n cs) (φ:=λk=>Xw P (fb #[t,u] ty [s,x]) k) (val:=λy:Option Addr×Nat=>.slice y.1 (n+m) y.2) (p:=λ_=>True) (B:=λy=>ow (.slice y.1 (n+m) y.2) e sz (n+m) (cs++news))
  (λw F q d K l=>kg g E (dB r) d.1 (G w q) h1 i λH w' o md nw=>by
   obtain⟨a,c,rfl,-⟩:=o.isSl;exact l (a,c) w' (aF _) trivial ⟨o,λ_=>aG⟩ (md.mono λb _ h=>(d.2 b).2 h) λy z=>(nw y z).imp (d.2 y).2 id) (λy _=>j y.1 y.2) f
def Gs.push{α:Type}{l:List α}{xv:Vt_}{x:α}{f:α->List Value}(j:P.underlying t=some (.slice e))(G:fY P e sz by_=true)(H:∀x,(f x).length=sz)(i:(f x).all (·.oneCell')=true)(J:xv.cells.toList=f x)(q:(l.length+1)*by_<=140737488355328)(E:sz<=1000)
  (r:∀a c,Gs (ow (.slice a (l++[x]).length c) e sz (l++[x]).length ((l++[x]).flatMap f)::M) (k (.slice a (l++[x]).length c)))(g:eG L (ow s e sz l.length (l.flatMap f)::M)):Gs L (Xw P (rg t 1 [(0,xv)]) λv=>Xw P (fb #[t,t] t [s,v]) k):=
 Gs.old (A:=ow s e sz l.length (l.flatMap f)) (φ:=λk=>Xw P (rg t 1 [(0,xv)]) λv=>Xw P (fb #[t,t] t [s,v]) k) (val:=λy:Option Addr×Nat=>.slice y.1 (l++[x]).length y.2) (p:=λ_=>True) (B:=λy=>ow (.slice y.1 (l++[x]).length y.2) e sz (l++[x]).length ((l++[x]).flatMap f))
  (λw F O d K z=>JI j (dB G) H i J d.1 q E λN w' o md nw=>by
   obtain⟨a,c,rfl,-⟩:=o.isSl;exact z (a,c) w' (aF _) trivial ⟨o,λ_=>aG⟩ (md.mono λb _ h=>(d.2 b).2 h) λy I=>(nw y I).imp (d.2 y).2 id) (λy _=>r y.1 y.2) g
end
section
variable{κ ν:Type} [DecidableEq κ]{enc:κ->Value}{ev:ν->Value}{t kt e:TypeId}{b:Nat}{D:List (κ×ν)}{x:κ}{v:ν}
def mp(enc:κ->Value)(ev:ν->Value)(b:Nat)(D:List (κ×ν)):As:=⟨λw F=>eM enc ev w b D/\∀x,F x↔x=b,λh hb=>by rw[(h.2 _).1 hb];exact h.1.lt,λh m hg=>⟨h.1.mod m (hg b ((h.2 b).2 rfl)),h.2⟩⟩
def ad7(h:eG L (mp enc ev b D::M)):∀w,Ss w L->Af enc ev w (.map (some b)) D:=λw x=>(iK h x).elim λ_ h=>.inr ⟨b,rfl,h.1⟩
def Gs.look(z:Vt_)(f:P.underlying t=some (.map kt e))(a:rB P kt enc)(g:lT P e=some z)(d:Gs L (k ((lk D x).elim z ev)))(c:eG L (mp enc ev b D::M)):Gs L (Xw P (jQ t (.map (some b)) (enc x) false) k):=
 ⟨λw y=>xC z f a g (ad7 c w y) (d.go w y)⟩
def Gs.mup(g:P.underlying t=some (.map kt e))(a:rB P kt enc)(i:Gs (mp enc ev b (put D x v)::M) k0)(c:eG L (mp enc ev b D::M)):Gs L (Yw P (qX t (.map (some b)) (enc x) (ev v)) k0):=⟨λw y=>by
 obtain⟨F,z⟩:=y;obtain⟨l,h,h1,f,d⟩:=Ss.cons.1 (⟨F,(c.out w F).1 z⟩:Ss w (mp enc ev b D::M));refine gZ g a h1.1 λw' o m _=>i.go w' (Ss.cons.2 ⟨l,h,⟨o,h1.2⟩,f.md m λy j p=>d y ((h1.2 y).2 p) j,d⟩)⟩
end
section
variable{b n:Nat}{cs xs:LV_}{t T:TypeId}{x:Vt_}{parts:Array (Nat×Value)}{cells:Array Value}
def Gs.bvar{k:Value->WP}(o:nj P t=true)(l:P.cellsOf t=n+1)(c:xs.length=n+1)(a:(jf P t).length=n+1)(h1:xs.all (·.oneCell')=true)(f:∀b,Gs (pt b xs t::L) (k (bO b 0))):
  Gs L (Xw P (uK t) λv=>Yw P (rS t v (.agg xs.toArray)) (k v)):=⟨λw y=>by
 refine rC o ⟨?_⟩;have d:hp (w.alloc (.cells (jf P t).toArray t)) w.heap.size=some (.cells (jf P t).toArray t (0,0)):=by rw[vJ,ae rfl]
 obtain⟨w',g,j,h⟩:=Cr (P:=P) (t:=t) (i:=0) (cs' :=xs) c l (by rw[c,a];omega) h1 (lF (by rw[c,a])) d;refine iE g ((f _).go w' (y.new (F' :=λy=>y=w.heap.size) (((aR.refl (λ_=>False) w).alloc _).on h λb d=>.inr qZ) ⟨j,λ_=>aG⟩ λb d=>qZ))⟩
def iH(a:eG L (pt b cs T::M))(d:mh P t=true)(f:P.cellsOf t=n+1)(c:cs.length=n+1):∀w,Ss w L->(qE t (bO b 0)).run P w=.ok (.agg cs.toArray) w:=λw y=>
 jh d f c (At.all (td a y))
def Gs.bB{k:Value->WP}(h:P.built t parts.toList=some cells)(a:Gs L (k (.agg cells))):Gs L (Xw P (CA t parts) k):=⟨λw y=>xH h (a.go w y)⟩
def Gs.bBP{k:Value->WP}(h:P.built t parts.toList=some cells)(a:Gs L (k (.agg cells))):Gs L (PXw P (CA t parts) k):=⟨λw y=>DM h (a.go w y)⟩
end
end
end Go.Vc
namespace Go.Proofs
open Go Go.Vc
variable {p:Nat}
def PO:jf pQ tA=ny LG:=cV
def ae1:nj pQ tA=true:=cV
def XU(W:Wt_):(iF tA (bO p 0) 0).run pQ W=.ok (bO p 0) W:=by simp[go_sem]
def aj1(W:Wt_):(iF tA (bO p 0) 5).run pQ W=.ok (bO p 5) W:=by simp[go_sem]
def Yj{W:Wt_}{c:Cm}(h:CN W p c):(iL 44 (bO p 0)).run pQ W=.ok (gB c.kind) W:=by simp[go_sem,h,cm0]
def Rx{W:Wt_}{c:Cm}(h:CN W p c):At W p 5 (eV c.spec):=by
 have:=(At.all h).sub 5 25 (by rw[fL];omega)
 have e:((ny c).drop 5).take 25=eV c.spec:=by
  show(eV c.spec++_).take 25=_;rw[<-br c.spec,dU]
 rw[e]at this;exact this
def TD(k:Int):Tryz.prog.built tA [(0,gB k)]=some (ny {LG with kind:=k}).toArray:=by
 have h:Tryz.prog.built tA [(0,gB k)]=some (((List.range 35).map λi=>if i=0 then gB k else(ny LG).getD i undef)).toArray:=cV;rw[h];rfl
def SI:Tryz.prog.built 48 []=some (eV uv).toArray:=cV
attribute [local go_sem] ZQ cm2 YK Z1 O6 Tu Vo UM Uv
def V4(c:Cm)(s:Sp):jp (ny c) 5 (eV s)=ny {c with spec:=s}:=by
 unfold ny;simp[jp,br,List.drop_left']
def aj5(c:Cm)(f:Bool):(ny c).set 30 (.bool f)=ny {c with on:=f}:=by
 unfold ny;rw[cI _ _ (by show 5<=30;omega),cI _ _ (by rw[br];show 25<=30 - 5;omega),br];rfl
section
variable{L M:List As}{K:Value->WP}{k0:WP}{b:Nat}{c:Cm}
def Gs.cq{c' :Cm}{cs:LV_}(e:cs=ny c')(h:Gs (pt b (ny c') tA::M) k0):Gs (pt b cs tA::M) k0:=e▸h
def Gs.bZ{k:Value->WP}(a:∀b,Gs (pt b (ny LG) tA::L) (k (bO b 0))):Gs L (Xw pQ (uK tA) k):=⟨λw y=>by
 refine rC ae1 ((a _).go _ (y.new ((aR.refl _ w).alloc _) (F' :=λx=>x=w.heap.size) ⟨?_,λ_=>aG⟩ λx d=>qZ));rw[vJ,ae rfl,PO]⟩
def Uf{x:Cm}(d:Gs L (K (zF x.bare))):Gs L (Cw pQ 130 #[zF x] K):=by
 refine sN Tryz.func130 ?_;refine Gs.bx (T:=tA) (cs:=ny x) (λw=>by simp[go_sem,zF]) λp=>?_;refine Gs.bZ λz=>?_;refine au ?_;refine Gs.bB (TD x.kind) ?_;refine Gs.bvar (xs:=ny {LG with kind:=x.kind}) ae1 H9 (fL _) (by rw[PO];exact fL _) (Ep _) (λq=>?_);rw[show ny {LG with kind:=x.kind}=[.int .u8 x.kind,gU 0,gU 0,gQ 0,gI 0,gU 0,gB 0,gI 0,gI 0,gI 0,gI 0,gI 0,gI 0,gI 0,gI 0,gI 0,gI 0,gI 0,gI 0,gI 0,gI 0,gI 0,gI 0,gI 0,gI 0,gI 0,gI 0,gI 0,gU 0,gI 0,.bool false,.bool false,gB 0,gI 0,gI 0]from rfl];refine au ?_
 have tail:Gs (pt q (ny x.bare) tA::pt z (ny LG) tA::pt p (ny x) tA::L) (Xw pQ (qE tA (bO q 0)) λv=>Yw pQ (rS tA (bO z 0) v) (Yc pQ (qE tA (bO z 0)) λv=>K v)):=by
  refine Gs.X (iH (cs:=ny x.bare) iP LS H9 (fL _)) ?_;refine Gs.stY (cs' :=ny x.bare) (n:=34) iP (fL _) H9 (by rw[fL,fL];decide) (Ep _) (lF (by rw[fL,fL])) ?_;refine Gs.WX (iH (cs:=ny x.bare) iP LS H9 (fL _)) ?_;exact d.fin
 refine Gs.j1 (.bool (decide (x.kind=1\/x.kind=2)),()) (λJ a=>?_) ?_
 ·refine au ?_;refine Gs.Ib (λh=>?_) λh=>?_
  ·rw[aW (.inl (by simpa using h))]at a;rw[h];exact a
  ·refine au ?_
   have e:decide (x.kind=1\/x.kind=2)=(x.kind==2):=by
    have:¬x.kind=1:=by simpa using h
    rw[dh];simp[this]
   rw[e]at a;exact a
 refine Gs.z ?_;refine Gs.I (λh=>?_) λh=>?_
 ·refine au ?_;exact Gs.cq (c' :=x.bare) (by rw[Cm.bare,ae h];rfl) tail.fin
 refine au ?_;refine Gs.Ib (λh=>?_) λi=>?_
 ·refine au ?_;refine Gs.X (λw y=>jh zi we (br _) (Rx (td iP y))) ?_;refine au ?_;refine Gs.cq (c' :={LG with kind:=x.kind}) rfl ?_;refine Gs.stY (cs' :=ny {LG with kind:=x.kind,spec:=x.spec}) (n:=24) iP (br _) we (by rw[br,fL];decide) (qw _) (V4 {LG with kind:=x.kind} _) ?_;exact Gs.cq (c' :=x.bare) (by simp[Cm.bare,eq_of_beq h]) tail.fin
 refine au ?_;refine Gs.Ib (λh=>?_) λf=>?_
 ·refine au ?_;exact Gs.cq (c' :=x.bare) (by simp[Cm.bare,eq_of_beq h];rfl) tail.fin
 refine au ?_;refine Gs.Ib (λh=>?_) λg=>?_
 ·refine Gs.cq (c' :={LG with kind:=x.kind}) rfl ?_;refine Gs.X (iH (cs:=ny x) iP LS H9 (fL _)) ?_;refine Gs.stY (cs' :=ny x) (n:=34) iP (fL _) H9 (by rw[fL,fL];decide) (Ep _) (lF (by rw[fL,fL])) ?_;refine Gs.bB SI ?_;refine au ?_;refine Gs.st (cs' :=ny {x with num:=0}) iP (λw h=>by simp[go_sem,h,YK]) rfl ?_;refine au ?_;refine Gs.st (cs' :=ny {x with num:=0,amt:=0}) iP (λw h=>by simp[go_sem,h,Z1]) rfl ?_;refine au ?_;refine Gs.stY (cs' :=ny {x with num:=0,amt:=0,spec:=uv}) (n:=24) iP (br _) we (by simp[br,fL]) (qw _) (V4 {x with num:=0,amt:=0} _) ?_;refine au ?_;refine Gs.st iP (λw h=>by simp[go_sem,h,O6]) (aj5 _ _) ?_;exact Gs.cq (c' :=x.bare) (by simp[Cm.bare,eq_of_beq h]) tail.fin
 iterate 8
  refine au ?_;refine Gs.Ib (λh=>?_) λ_=>?_
  ·refine au ?_;exact Gs.cq (c' :=x.bare) (by simp[Cm.bare,eq_of_beq h];rfl) tail.fin
 simp only[beq_eq_false_iff_ne]at*;exact Gs.cq (c' :=x.bare) (by simp_all[Cm.bare];rfl) tail.fin
end
def U8{x:Cm}{w:Wt_}{K:aZ}(d:∀a,M0 w a->K (zF x.bare) a):Ca pQ 130 #[zF x] w K:=
 (Uf (L:=[Hi w λ_=>False]) (K:=K) ⟨λa y=>(iK Ou y).elim λF h=>d a h.2⟩).go w ⟨_,_,λ_=>False,⟨λ_=>aG,aR.refl _ _⟩,λ_ h=>h,d9,λb=>(or_iff_left id).symm⟩
end Go.Proofs
