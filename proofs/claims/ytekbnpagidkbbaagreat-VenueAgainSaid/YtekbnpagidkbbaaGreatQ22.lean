/- Part of a proof. -/
import Derived.Test.YtekbnpagidkbbaaGreatQ21
set_option linter.all false
set_option maxRecDepth 100000
set_option maxHeartbeats 1000000
namespace Go.Proofs
open Go Go.Vc
attribute [local congr] aZ
variable {a:Int}{ids:List Int}{L:List Od}{p:Nat}{sl s:Vt_}{w:Wt_}{K:aY}
section
variable{w:Wt_}{K:aY}{v c l mb md:Nat}{A:List (Int×Nat)}{D:List (Int×Value)}{fp:Pt->Nat->Prop}{S:bo}
end
structure qB(w:Wt_)(p:Nat)(sl:Vt_)(ids:List Int):Prop where
 at_:hC w p #[sl] 39
 own:Ah w sl ids
 ne:∀y,aK sl y->y≠p
def qB.mod{F:NP_}{w' :Wt_}(h:qB w p sl ids)(a:aS F w w')(h1:¬F p)(b:∀y,aK sl y->¬F y):qB w' p sl ids:=⟨a.hpk h.at_ h1,h.own.mod a b,h.ne⟩
def qB.ld(h:qB w p sl ids):(iL 39 (bO p 0)).run pQ w=.ok sl w:=by
 obtain⟨a,c,b,-⟩:=h.own.isSl;have:=h.at_;subst b;simp[go_sem,this]
def TG{x:Int}{K:World->Prop}(h:qB w p sl ids)(F:ids.length<=100000)
  (u:∀g b,qB b p g (ids++[x])->aS (λy=>y=p\/aK sl y) w b->(∀y,aK g y->aK sl y\/w.heap.size<=y)->K b):
  rx pQ (pN 39 1 [(0,gQ x)]) w λv s=>rx pQ (eZ #[39,39] 39 [sl,v]) s λz B=>ru pQ (iS 39 (bO p 0) z) B K:=by
 refine Im (x:=x) (f:=ua) wS (dp Ms) (λ_=>rfl) (EI x) rfl h.own qZ qZ λE b o q k=>?_;obtain⟨a,i,rfl,-⟩:=o.isSl;have t:=ay h.at_;have m:=q.hpk h.at_ λC=>h.ne _ C rfl;apply pl (b.setCell ⟨p,0,none⟩ (.slice a (ids++[x]).length i)) (by simp[go_sem,m])
 have d:∀y,aK (.slice a (ids++[x]).length i) y->y≠p:=λy j e=>by
  rcases k y j with n|n
  ·exact h.ne y n e
  ·omega
 have r:aS (λy=>y=p) b (b.setCell ⟨p,0,none⟩ (.slice a (ids++[x]).length i)):=(aS.refl (λy=>y=p) b).sc;exact u _ _ ⟨by simp[go_sem,m],o.mod r λy j e=>d y j e,d⟩ ((q.mono λ_ _ h=>.inr h).trans (r.mono λ_ _ h=>.inl h)) k
def AO(a:Int)(ids:List Int)(o:Od):List Int:=if kO a o then ids++[o.num]else ids
def ED{o:Od}{n e:Nat}(E:hC w n #[.int .u32 a] 45)(x:qB w e sl ids)(P:ids.length<=100000)(z:n≠e)(G:¬aK sl n)
  (H:∀b h,qB h e b (AO a ids o)->aS (λy=>y=e\/aK sl y) w h->(∀y,aK b y->aK sl y\/w.heap.size<=y)->(kO a o=false->M0 w h/\b=sl)->K (.bool (kO a o)) h):
  Ca pQ 221 #[jQ o,.pointer (some ⟨n,0,none⟩),.pointer (some ⟨e,0,none⟩)] w K:=by
 refine cN Tryz.func221 ?_;obtain⟨f,R,m,j⟩:=tK o w;apply bh R;obtain⟨q,F⟩:=df w.heap.size;rw[<-F]at m|-;have i:=j.hpk E id;have g:=x.mod j id dS;have M:=ay x.at_;have I:=j.size;refine cG.at (λst W=>∃b,qB W e b (AO a ids o)/\aS (λy=>y=e\/aK sl y) f W/\(∀y,aK b y->aK sl y\/f.heap.size<=y)/\(kO a o=false->f=W/\b=sl)) ?_ ?_
 ·refine ax (bO q 1) f (by simp[go_sem]) (ax (gU o.acct) f (by simp[go_sem,m,dx]) ?_);refine dE i ?_;by_cases d:o.acct=a
  ·have t:kO a o=true:=by unfold kO;simp[d]
   refine dB d ?_;apply bh g.ld;refine ax (bO q 0) f (by simp[go_sem]) (ax (gQ o.num) f (by simp[go_sem,m,dx]) ?_);refine TG g P λb h T O C=>?_;refine⟨b,?_,O,C,λB=>by grind⟩;unfold AO;rw[t];exact T
  ·have t:kO a o=false:=by unfold kO;simp[d]
   refine ey d ?_;refine⟨sl,?_,oU,λy u=>.inl u,λ_=>⟨rfl,rfl⟩⟩;unfold AO;rw[t];exact g
 rintro _ W ⟨b,Q,s,J,L⟩;refine jG ?_;intro _
 have p:¬(q=e\/aK sl q):=λk=>by
  rcases k with k|k
  ·omega
  ·have:=x.own.lt k;omega
 have N:=s.hpk m p;have r:=s.hpk i λk=>by grind
 refine ax (bO q 1) W (by simp[go_sem]) (ax (gU o.acct) W (by simp[go_sem,N,dx]) ?_);refine dE r ?_;apply ax (.bool (kO a o)) W (by simp[go_sem,kO];rfl);refine H b W Q ((j.to).trans s) (λy u=>(J y u).imp id λU=>qZ) λB=>?_;obtain⟨rfl,rfl⟩:=L B;exact⟨j,rfl⟩
def WL(h:Rd w 5 s L.length (L.flatMap dx)){i:Nat}(hi:i<L.length):
  ∃p,(iX 146 s (gI (i:Int))).run pQ w=.ok p w/\(iL ji p).run pQ w=.ok (jQ L[i]) w:=by
 obtain⟨b,f,q,d,k,r⟩:=h.item dP hi rfl;obtain⟨C,e,t,hC,a⟩:=r.get;have j:=a 0 (gQ L[i].num) rfl;have n:=a 1 (gU L[i].acct) rfl;have g:=a 2 (.bool L[i].buy) rfl;have o:=a 3 (gI L[i].price) rfl;have m:=a 4 (gI L[i].left) rfl;simp only[eD,cx]at j n g o m;exact⟨.pointer (some ⟨b,f+i*5,none⟩),by rw[d];simp[go_sem,hi,bD],by simp[go_sem,bT hC,j,n,g,o,m,dx,jQ]⟩
def LW{r m:Nat}(h:Rd w 5 s L.length (L.flatMap dx))(X:L.length<=100000)(E:hC w r #[.int .u32 a] 45)(Q:qB w m sl ids)
  (z:ids.length<=100000)(n:r≠m)(u:¬aK sl r)
  (F:L.findIdx? (kO a)=none->∀f,M0 w f->K (gI (-1)) f)
  (h1:∀i (hi:i<L.length),(∀j (p:j<L.length),j<i->kO a L[j]=false)->kO a L[i]=true->∀d f,qB f m d (ids++[L[i].num])->aS (λy=>y=m\/aK sl y) w f->(∀y,aK d y->aK sl y\/w.heap.size<=y)->K (gI (i:Int)) f):
  Ca pQ 213 #[s,.func (.func 221) #[] #[.pointer (some ⟨r,0,none⟩),.pointer (some ⟨m,0,none⟩)]] w K:=by
 refine cN Tryz.func213 ?_;obtain⟨sa,sc,N⟩:=h.isSl;apply iq (gI (L.length:Int)) w (by rw[N];simp[go_sem])
 refine d8 (λst W=>∃(i:Nat) (x:Vt_),i<=L.length/\st=(x,gI i,())/\M0 w W/\∀j,∀p,j<i->kO a L[j]=false)
  (λst _=>match st.2.1 with| .int _ i=>L.length - i.toNat|_=>0) ⟨0,gI 0,qZ,rfl,oU,λj _ h=>qZ⟩ ?_
 rintro⟨_,_⟩ W ⟨i,x,hi,⟨⟩,e,g⟩ U t;refine lE ?_;intro _;by_cases k:i<L.length
 ·have b:(i:Int)<(L.length:Int):=qZ;refine dB b ?_;obtain⟨q,G,P⟩:=WL (h.mod e dS) k;apply bh G;apply bh P;simp only[fR];refine ED (e.hpk E id) (Q.mod e id dS) z n u λd T B O C M=>?_;cases hp:kO a L[i]with
  |true=>
   rw[jV];refine h1 i k g hp d T ?_ ((e.to).trans O) λy J=>(C y J).imp id λV=>by have:=e.size;omega
   unfold AO at B;rw[hp]at B;exact B
  |false=>
   rw[ij];apply TT i;refine t _ _ ⟨i+1,_,qZ,rfl,e.trans (M hp).1,λj p H=>?_⟩ (by grind);by_cases R:j=i
   ·subst R;exact hp
   ·grind
 ·obtain rfl:i=L.length:=qZ;have b:¬(L.length:Int)<(L.length:Int):=qZ;refine ey b ?_;refine F ?_ W e;rw[dC];intro o I;obtain⟨j,p,rfl⟩:=bM I;exact g j p p
def EO{i:Nat}(hi:i<L.length)(d:∀j (e:j<L.length),j<i->kO a L[j]=false):(L.take i).filter (kO a)=[]/\(L.take i).filter (λo=> !kO a o)=L.take i:=by
 have key:∀o∈L.take i,kO a o=false:=λo b=>by
  obtain⟨j,e,rfl⟩:=bM b;rw[List.getElem_take];rw[aB]at e;exact d j qZ qZ
 exact⟨gf.2 λo b=>by rw[key o b];simp,cL.2 λo b=>by rw[key o b];rfl⟩
def KH{T u:Nat}(h:qp w s L)(hn:L.length<=1000)(h2:hC w T #[.int .u32 a] 45)(h6:qB w u sl ids)
  (hni:ids.length<=50000)(B:T≠u)(N:¬aK sl T)(hd:∀y,aK s y->y≠T/\y≠u/\¬aK sl y)
  (hK:∀s' g w',qp w' s' (L.filter λo=> !kO a o)->qB w' u g (ids++(L.filter (kO a)).map (·.num))->aS (λy=>aK s y\/y=u\/aK sl y) w w' ->(∀y,aK s' y->aK s y)->(∀y,aK g y->aK sl y\/w.heap.size<=y)->K s' w'):
  Ca pQ 220 #[s,.func (.func 221) #[] #[.pointer (some ⟨T,0,none⟩),.pointer (some ⟨u,0,none⟩)]] w K:=by
 refine cN Tryz.func220 ?_;refine LW h.rd qZ h2 h6 qZ B N (λI w1 P=>?_) λi0 E hno H sl1 w1 ids1 P n1=>?_
 ·refine jZ ?_;rw[dC]at I;have e1:L.filter (kO a)=[]:=gf.2 λo J=>by grind
  have e2:(L.filter λo=> !kO a o)=L:=cL.2 λo J=>by grind
  rw[e1,e2]at hK;exact hK s sl w1 (h.mod P dS) (by simpa using h6.mod P id dS) (P.to) (λ_ h=>h) λ_ h=>.inl h
 ·obtain⟨b,p,rest,rfl,f,hb,hrl,hr1⟩:=h.pos qZ;have hbs:=ay hb;have t:∀y,aK (.slice (some ⟨b,0,none⟩) L.length p) y↔y=b:=λy=>⟨λd=>(by cases d;rfl),λd=>by subst d;exact rfl⟩
  have m:=hd b ((t b).2 rfl);refine eK ?_;apply TT i0;have hs1:=P.size
  have h1:=h.mod P λy d f=>by
   rw[t]at d;subst d;rcases f with f|f
   ·exact m.2.1 f
   ·exact m.2.2 f
  obtain⟨t1,t2⟩:=EO E hno
  refine d8 (λst W=>∃(i j:Nat) (M:List Od) (g:Vt_),st=(gI i,gI j,())/\i<j/\j<=L.length/\qp W (.slice (some ⟨b,0,none⟩) L.length p) M/\M.length=L.length/\M.take i=(L.take j).filter (λo=> !kO a o)/\M.drop j=L.drop j/\
    qB W u g (ids++((L.take j).filter (kO a)).map (·.num))/\aS (λy=>y=b\/y=u\/aK sl y) w W/\∀y,aK g y->aK sl y\/w.heap.size<=y)
   (λst _=>match st.2.1 with| .int _ j=>L.length - j.toNat|_=>0) ⟨i0,i0+1,L,sl1,rfl,qZ,E,h1,rfl,?_,rfl,?_,P.mono λ_ _ h=>.inr h,n1⟩ ?_
  ·rw[cq E,cw,t2,aU (by rw[H];simp)];simp
  ·rw[cq E,cw,t1,bI H];exact ids1
  rintro _ W ⟨i,j,M,g,rfl,hij,hjL,r1,r2,r3,r4,r5,r6,Z⟩ KN hKN;refine lE ?_;intro _;refine Hn ?_;have hMW:=r6.size
  have X:¬aK g T:=λf=>by
   rcases Z _ f with r|r
   ·exact N r
   ·have:=ay h2;omega
  have F:¬aK g b:=λf=>by
   rcases Z _ f with r|r
   ·exact m.2.2 r
   ·omega
  have h2W:=r6.hpk h2 λf=>by
   rcases f with f|f|f
   ·exact m.1 f.symm
   ·exact B f
   ·exact N f
  by_cases x:j<L.length
  ·apply ax (.bool true) W (by simp[go_sem];omega);rw[jV]
   have hMj:M[j]'qZ=L[j]:=by
    have e:=dW (λl=>l[0]?) r4;simp only[fe,cx]at e;rw[aq qZ,aq x]at e;exact cS e
   have hrd:=r1.rd;obtain⟨pj,f1,f2⟩:=WL (i:=j) hrd qZ;rw[hMj]at f2
   have C:(ids++((L.take j).filter (kO a)).map (·.num)).length<=100000:=by
    have h1:=bi (kO a) (L.take j);rw[ag,ah];rw[aB]at h1;omega
   refine cG.at (λst W' =>∃(i' :Nat) (U:List Od) (n:Vt_),st=(gI i',())/\i' <j+1/\qp W' (.slice (some ⟨b,0,none⟩) L.length p) U/\U.length=L.length/\U.take i' =(L.take (j+1)).filter (λo=> !kO a o)/\U.drop (j+1)=L.drop (j+1)/\
    qB W' u n (ids++((L.take (j+1)).filter (kO a)).map (·.num))/\aS (λy=>y=b\/y=u\/aK sl y) w W' /\∀y,aK n y->aK sl y\/w.heap.size<=y) ?_ ?_
   ·refine bh f1 (bh f2 ?_);obtain⟨W1,e1,b1,m1'⟩:=jE W;apply bh e1;obtain⟨q,hq⟩:=df W.heap.size;rw[<-hq]at b1|-;obtain⟨W2,e2,b2,m2'⟩:=jf (o' :=L[j]) b1;apply gg e2;have M2:=m1'.on m2' λy d=>fM;apply bh (kX (o:=L[j]) (At.all b2));simp only[fR];have i2:=r5.mod M2 id dS
    have hqsl:¬(q=u\/aK g q):=λf=>by
     rcases f with f|f
     ·have:=ay r5.at_;omega
     ·have:=r5.own.lt f;omega
    refine ED (M2.hpk h2W id) i2 C B X λn W3 i3 m3 n3 f3=>?_;refine dq ?_
    have M3:aS (λy=>y=b\/y=u\/aK sl y) w W3:=by
     refine(r6.trans (M2.to (G:=λy=>y=b\/y=u\/aK sl y))).on m3 λy d=>?_;rcases d with d|d
     ·grind
     ·rcases Z y d with r|r
      ·grind
      ·exact .inr r
    have o3:=(r1.mod M2 dS).mod m3 λy d f=>by
     rw[t]at d;subst d;rcases f with f|f
     ·exact m.2.1 f
     ·exact F f
    have b3:=m3.hpk b2 hqsl
    have Q:∀y,aK n y->aK sl y\/w.heap.size<=y:=λy d=>by
     rcases n3 y d with r|r
     ·exact Z y r
     ·exact .inr (by have:=M2.size;omega)
    have V:AO a (ids++((L.take j).filter (kO a)).map (·.num)) L[j]=ids++((L.take (j+1)).filter (kO a)).map (·.num):=by
     unfold AO;rw[cq x,cw];cases J:kO a L[j]with
     |true=>rw[bI J];simp
     |false=>rw[aU (by rw[J];simp)];simp
    rw[V]at i3
    have hdr:M.drop (j+1)=L.drop (j+1):=by
     have:=dW (List.drop 1) r4
     rwa[cB,cB]at this
    cases J:kO a L[j]with
    |false=>
     rw[show(!false)=true from rfl,aw,ae rfl];apply bh (kX (o:=L[j]) (At.all b3));obtain⟨pi,g1,g2⟩:=qp.el (l:=M) o3 (i:=i) qZ (sl:=.slice (some ⟨b,0,none⟩) L.length p) (w:=W3);obtain⟨-,g4⟩:=g2 W3 M o3 qZ;obtain⟨W4,s4,o4,m4⟩:=g4 L[j];refine bh (g1 W3) (gg s4 ?_);apply TT i;have m4' :=m4.mono λy _ d=>(t y).1 d;refine⟨i+1,M.set i L[j],n,rfl,qZ,o4,by grind,?_,?_,i3.mod m4' (λe=>m.2.1 e.symm) λy d e=>?_,M3.trans (m4'.mono λy _ d=>.inl d),Q⟩
     ·rw[cq (by grind),dY,List.take_set_of_le (az _),r3,cq x,cw,bI (by rw[J];rfl)];rfl
     ·rw[List.drop_set_of_lt qZ];exact hdr
     ·subst e;rcases Q y d with r|r
      ·exact m.2.2 r
      ·omega
    |true=>
     rw[show(!true)=false from rfl,aw,aa dw];refine⟨i,M,n,rfl,qZ,o3,r2,?_,hdr,i3,M3,Q⟩;rw[r3,cq x,cw,aU (by rw[J];simp)];simp
   rintro _ W' ⟨i',U,n,rfl,u1,u2,u3,u4,u5,u6,u7,u8⟩;refine jG ?_;intro _;apply TT j;exact hKN _ _ ⟨i',j+1,U,n,rfl,u1,x,u2,u3,u4,u5,u6,u7,u8⟩ (by grind)
  ·obtain rfl:j=L.length:=qZ;refine eK ?_;rw[aV]at r3 r5;apply bh (vG gX zi (show i<=L.length by omega) f qZ W);obtain⟨b',Y,k,he',hc',hb',hrl',hr1'⟩:=r1.pos qZ;obtain⟨rfl,-,rfl⟩:b=b' /\L.length=M.length/\p=Y:=by simpa using he'
   have hMl:(M.flatMap dx).length=M.length*5:=by rw[tN dP]
   refine Ck gX (dp Ln) hb' (by grind) λz hz hz1=>?_;have R:(M.take i).length=i:=by grind
   have hA:((M.take i).flatMap dx).length=i*5:=by rw[tN dP,R]
   have O:iC (M.flatMap dx++k) (i*5) z=(M.take i).flatMap dx++(z++k):=by
    unfold iC;rw[hz,aN (by rw[hMl];omega),Rv dP,aH,show i*5+(L.length - i)*(4+1)=(M.flatMap dx).length by rw[hMl];omega,cU]
   apply bh (Hx gX zi (show i<=p by omega) qZ _);have m9:aS (λy=>y=b) W (W.setRow b (iC (M.flatMap dx++k).toArray.toList (i*(4+1)) z).toArray):=(aS.refl (λy=>y=b) W).setRow (.inl rfl) _;refine hK _ g _ (?_ :qp _ _ _) (r5.mod m9 (λe=>m.2.1 e.symm) λy d e=>F (e▸d)) ((r6.mono λy _ d=>?_).trans (m9.mono λy _ d=>.inl ((t y).2 d))) (λy d=>(t y).2 (by cases d;rfl)) Z
   ·rw[<-r3];refine⟨by rw[hA,R],.inr ⟨b,p,z++k,by rw[R],qZ,?_,?_,?_⟩⟩
    ·rw[d9,ae rfl,hb'];rw[O]
    ·grind
    ·grind
   ·rcases d with d|d
    ·grind
    ·exact .inr d
end Go.Proofs
set_option maxRecDepth 100000
set_option maxHeartbeats 1000000
namespace Go.Proofs
open Go Go.Vc
attribute [local congr] aZ
variable {a k:Int}{S:bo}
def wZ(a k:Int)(S:bo)(i:Nat):List Int×bo:=((S.nums.take i).filter λn=>decide (k=0\/k=n)).foldl (tY a) ([],S)
def KV{i:Nat}(hi:i<S.cal.l.length):wZ a k S (i+1)=if k=0\/k=S.cal.l[i].spec.num then tY a (wZ a k S i) S.cal.l[i].spec.num else wZ a k S i:=by
 unfold wZ;have b:i<S.nums.length:=by unfold bo.nums;rw[ah];exact hi
 have c:S.nums[i]=S.cal.l[i].spec.num:=by simp[bo.nums]
 rw[cq b,cw,iD,c];by_cases h:k=0\/k=S.cal.l[i].spec.num
 ·grind
 ·grind
def NE:wZ a k S S.cal.l.length=S.clear a k:=by
 unfold wZ bo.clear;rw[aC (by unfold bo.nums;rw[ah];exact az _)]
def OC{i:Nat}:(wZ a k S i).2.cal=S.cal:=AR _ _ _
def FG{B:Bk}(h:B.all.length<=200):(iK B a).2.length<=200:=ci (bi _ _) h
end Go.Proofs
set_option maxRecDepth 100000
set_option maxHeartbeats 1000000
namespace Go.Proofs
open Go Go.Vc
section
variable{L L0 M:List As}{φ:WP}{K:Value->WP}{v c l mb md b p2 p6:Nat}{A:List (Int×Nat)}{D:List (Int×Value)}{S:bo}{n a:Int}{bk:Int->Bk}{bd:Int->List Od}{B:Bk}{s:Vt_}{os:List Od}{ids:List Int}{x:Option Addr×Nat}
abbrev OW(p:Nat)(x:Option Addr×Nat)(ids:List Int)(L:List As):List As:=pt p [ej x ids.length] 39::sB (ej x ids.length) ids::L
def Lt(hn:os.length<=1000)(r:ids.length<=50000)(R:∀d x,Gs (lX d (os.filter λo=> !kO a o)::OW p6 x (ids++(os.filter (kO a)).map (·.num)) (pt p2 [.int .u32 a] 45::M)) (K d))(q:dV L (lX s os::OW p6 x ids (pt p2 [.int .u32 a] 45::M)):=by repeat first|(with_reducible exact dV.refl)|((apply nL);(·repeat first|(with_reducible exact eg)|(with_reducible apply ee)))):
  Gs L (Cw pQ 220 #[s,.func (.func 221) #[] #[.pointer (some ⟨p2,0,none⟩),.pointer (some ⟨p6,0,none⟩)]] K):=by
 let T:List Int:=ids++(os.filter (kO a)).map (·.num);refine Gs.pk ?_ q;refine Gs.old (φ:=λk=>Cw pQ _ _ k) (A:=(lX s os).mul ((pt p6 [ej x ids.length] 39).mul ((sB (ej x ids.length) ids).mul (pt p2 [.int .u32 a] 45)))) (val:=λy:Value×Option Addr×Nat=>y.1) (p:=λ_=>True) (B:=λy=>(lX y.1 (os.filter λo=> !kO a o)).mul ((pt p6 [ej y.2 T.length] 39).mul ((sB (ej y.2 T.length) T).mul (pt p2 [.int .u32 a] 45)))) (λw F _ ⟨F1,F2,⟨o,e1⟩,⟨F3,F4,⟨u,e3⟩,⟨F5,F6,⟨i,e5⟩,⟨j,e6⟩,O,g4⟩,V,g2⟩,Q,g0⟩ K h=>?_) (λy _=>(((R y.1 y.2).pk (dV.cons (dV.cons Nx))).pk (dV.cons Nx)).pk Nx) ((Nx.trans (dV.cons (Nx.trans (dV.cons Nx)))).symm);have h1:∀y,aK s y->y≠p2/\y≠p6/\¬aK (ej x ids.length) y:=by grind
 have N:p2≠p6:=by grind
 have Y:¬aK (ej x ids.length) p2:=by grind
 have U:∀y,aK (ej x ids.length) y->y≠p6:=by grind
 refine KH o hn j ⟨u,i,U⟩ r N Y h1 λd sl' I Z i' m H t=>?_;have l2:=ay j;have l6:=ay u;have P:=λy (g:aK s y)=>o.lt g;have J:=m.hpk j (by grind);obtain⟨W,E,X⟩:=i';obtain⟨C,G,rfl,-⟩:=E.isSl;refine h (d,C,G) I (λz=>aK d z\/(z=p6\/(aK (ej (C,G) T.length) z\/z=p2))) trivial ⟨aK d,_,⟨Z,λ_=>aG⟩,⟨λz=>z=p6,_,⟨W,λ_=>aG⟩,⟨aK _,λz=>z=p2,⟨E,λ_=>aG⟩,⟨J,λ_=>aG⟩,λz f e=>?_,λ_=>aG⟩,λz f e=>?_,λ_=>aG⟩,λz f e=>?_,λ_=>aG⟩ (m.mono λy _ g=>?_) λy g=>?_
 ·have:=t z f;grind
 ·have:=X p6;grind
 ·have:=H z f;have:=P z this;have:=t z;grind
 ·grind
 ·have:=H y;have:=t y;grind
set_option maxHeartbeats 2000000 in
def yg{k:Int}(hv:oB A D S.cal.l S.bk)(t:S.cal.Ok)(hbl:∀n,(S.bd n).length<=50)
  (hK:∀y D',oB A D' S.cal.l (S.clear a k).2.bk->(S.clear a k).1.length<=4000->Gs (vs v c l mb md A D' (S.clear a k).2 (sB (ej y (S.clear a k).1.length) (S.clear a k).1::L)) (K (ej y (S.clear a k).1.length)))
  (pk:dV L0 (vs v c l mb md A D S L):=by repeat first|(with_reducible exact dV.refl)|((apply nL);(·repeat first|(with_reducible exact eg)|(with_reducible apply ee)))):Gs L0 (Cw pQ 144 #[dL v,gU a,gU k] K):=by
 refine Gs.pk ?_ pk;refine sN Tryz.func144 ?_;unfold dL;refine au ?_;intro p0;refine au ?_;intro p1;refine au ?_;intro p2;refine au ?_;intro V;refine au ?_;refine Gs.idn (zp λgv=>?_);refine Gg.rf (L:=L) (λ_ _ _ _=>rfl) (Ko _) (I:=λi (b:(Option Addr×Nat)×List (Int×Value)) M=>OW V b.1 (wZ a k S i).1 (pt p1 [.int .u32 a] 45::pt p2 [.int .u32 k] 45::pt p0 [.pointer (some ⟨v,0,none⟩)] 24::vs v c l mb md A b.2 (wZ a k S i).2 M)) (E:=λ(_:Unit) M=>M) (λ_ _ _=>rfl) (λ_ _=>rfl) (λi b=>oB A b.2 S.cal.l (wZ a k S i).2.bk/\(wZ a k S i).1.length<=250*i/\∀n,((wZ a k S i).2.bd n).length<=50) (λ_ _=>False) ((none,0),D) ⟨hv,aJ _,hbl⟩ ?_ ?_ (λ_ _ _ (h:False)=>h.elim) ?_
 ·rintro i hi ⟨x,Q⟩ ⟨h1,H,z⟩ l1 r1 q M kn kj e -;have u:=KV (a:=a) (k:=k) hi;have hn:(cg S.cal.l S.cal.l[i].spec.num).isSome=true:=by rw[Cf t (av hi)];rfl
  have N:(wZ a k S i).2.cal=S.cal:=OC;have hil:=t.len
  dsimp only at h1 H z e|-
  generalize S.cal.l[i]=C at u hn|-;rw[u]at e;generalize wZ a k S i=Y at e N h1 H z|-;obtain⟨g,T⟩:=Y
  dsimp only at N h1 H z e|-
  refine au ?_;refine Gs.j1 (.bool (decide (¬(k=0\/k=C.spec.num))),()) (λJ hJ=>au ?_) ?_
  ·refine Gs.Ib (λG=>?_) λG=>?_
   ·refine au ?_;have G:¬k=0:=by simpa using G
    simpa [G,show(k != C.spec.num)= !decide (k=C.spec.num)from rfl]using hJ
   ·have G:k=0:=by simpa using G
    simpa [G]using hJ
  refine Gs.z (Gs.I (λhc=>?_) λhc=>au ?_)
  ·rw[aa hc]at e;exact(e (x,Q) _ ⟨h1,(by omega:g.length<=_),z⟩).fin
  rw[ae (Decidable.not_not.1 hc)]at e;unfold tY at e
  dsimp only at e
  have hnb:∀m,((eL T.bd C.spec.num ((T.bd C.spec.num).filter λo=> !kO a o)) m).length<=50:=λm=>by
   by_cases hm:m=C.spec.num
   ·subst hm;rw[cO];exact ci (bi _ _) (z _)
   ·rw[eJ _ _ _ hm];exact z m
  have hfl:=ci (bi (kO a) _) (z C.spec.num);have hbl' :=z C.spec.num;obtain⟨b,W⟩:=AP h1 hn;refine Gs.WX (Xn W) ?_;refine au ?_;refine tq W ?_;refine Gs.fact (λw F q=>(fU.all q).1) λX=>?_;have hml:=FG (a:=a) X;refine Kw (λy1 y2=>?_);refine vz W ?_;generalize(iK (T.bk C.spec.num) a).2=O at e hml|-;generalize(iK (T.bk C.spec.num) a).1=B' at e|-;refine Gs.lenW gX (λw y=>mO (by repeat first|(with_reducible exact eg)|(with_reducible apply ee)) w y) ?_;refine Gs.l (λy:Nat×(Option Addr×Nat)=>(gI y.1,())) (λy=>O.length - y.1) (λy=>OW V y.2 (g++(O.take y.1).map (·.num)) (lX (.slice y1 O.length y2) O::pt q (dD C) kP::pt p1 [.int .u32 a] 45::pt p2 [.int .u32 k] 45::pt p0 [.pointer (some ⟨v,0,none⟩)] 24::vs v c l mb md A Q {T with bk:=eL T.bk C.spec.num B' } (wP l1 r1::M))) (λy=>y.1<=O.length) (0,x) rfl (aJ _) ?_ ?_
  rotate_left
  ·show dV _ (OW V x (g++[]) _);rw[bg];exact(by repeat first|(with_reducible exact dV.refl)|((apply nL);(·repeat first|(with_reducible exact eg)|(with_reducible apply ee))))
  rintro⟨j,x'⟩ hj KN R
  dsimp only at hj R|-
  refine Gs.z (au ?_);refine Gs.I (λh=>?_) λh=>?_
  ·have P:j<O.length:=qZ;have htk:=cq P;refine Gs.it gX OB dP Qv (λw y=>mO (by repeat first|(with_reducible exact eg)|(with_reducible apply ee)) w y) rfl P ?_;have hLl:(g++(O.take j).map (·.num)).length<=10000:=by rw[ag,ah,aB];omega
   have p:=λz1 z2=>R (j+1,z1,z2) (by dsimp only;omega) (by dsimp only;omega)
   dsimp only at p
   rw[htk,aM,<-aH,aD,fw]at p;generalize O[j]=o at p|-;generalize g++(O.take j).map (·.num)=I at hLl p|-;refine au ?_;intro r;refine au ?_;refine Gs.push (x:=o.num) (f:=ua) (l:=I) wS Ms (λ_=>rfl) rfl rfl qZ qZ (λz1 z2=>?_) (by repeat first|(with_reducible exact eg)|(with_reducible apply ee));refine au ?_;exact(p z1 z2).fin
  obtain rfl:j=O.length:=qZ;rw[aV];have Z:(g++O.map (·.num)).length<=10000:=by rw[ag,ah];omega
  have U:(g++O.map (·.num)++((T.bd C.spec.num).filter (kO a)).map (·.num)).length<=250*(i+1):=by rw[ag,ag,ah,ah];omega
  generalize g++O.map (·.num)=I at Z U e|-;refine au ?_;refine Gs.WX KO ?_;refine wI (n:=C.spec.num) ?_;refine Lt (a:=a) (os:=T.bd C.spec.num) (ids:=I) (x:=x') qZ qZ (λs' x2=>?_);refine au ?_;refine Gs.mup (enc:=eQ) (ev:=xk) (x:=C.spec.num) (v:=s') qD kM ?_ (by repeat first|(with_reducible exact eg)|(with_reducible apply ee));refine A6 (n:=C.spec.num) ?_;have:=e (x2,put Q C.spec.num s') (dD C) ⟨(h1.upb W).put hn,U,hnb⟩;exact this.fin
 ·rintro⟨x,Q⟩ d ⟨h1,H,z⟩;have N:=t.len;rw[NE]at h1 H|-
  dsimp only at h1 H|-
  generalize S.clear a k=Y at h1 H hK|-;obtain⟨I,T⟩:=Y;refine Gs.ak (au ?_);refine Gs.tw ?_;refine au ?_;exact(hK x Q h1 qZ).fin
 ·show dV _ (pt V [.slice none 0 0] 39::sB (ej (none,0) 0) []::pt p1 [.int .u32 a] 45::pt p2 [.int .u32 k] 45::pt p0 [.pointer (some ⟨v,0,none⟩)] 24::vs v c l mb md A D S L);exact(by repeat first|(with_reducible exact dV.refl)|((apply nL);(·repeat first|(with_reducible exact eg)|(with_reducible apply ee))))
end
end Go.Proofs
namespace Go.Proofs
open Go Go.Vc
attribute [local congr] aZ
def KL(n:Int):Value:=gI n
def Ux:Tryz.prog.underlying 309=some (.map 45 2):=cy
def ag0:lw pQ 2=some (gI 0):=cy
def B4(w:Wt_)(mw:Nat)(won:Int->Int):Prop:=∃L:List (Int×Int),eF eQ KL w mw L/\∀n,(lk L n).getD 0=won n
def B4.mod{F:NP_}{w w' :Wt_}{a:Nat}{won:Int->Int}(h:B4 w a won)(b:aS F w w')(h1:¬F a):B4 w' a won:=by
 obtain⟨L,c,d⟩:=h;exact⟨L,c.mod b h1,d⟩
def B4.look{w:Wt_}{a:Nat}{won:Int->Int}(h:B4 w a won)(n:Int):(ju 309 (.map (some a)) (gU n) false).run pQ w=.ok (gI (won n)) w:=by
 obtain⟨L,c,d⟩:=h;have:=mB (ok:=false) (x:=n) Ux kM ag0 (.inr ⟨a,rfl,c⟩:yW eQ KL w (.map (some a)) L);rw[<-d n];cases b:lk L n with
 |none=>rw[b]at this;exact this
 |some x=>rw[b]at this;exact this
abbrev tAc:TypeId:=100
def ab2{W:Wt_}{r:Nat}{a:Ac}(h:hC W r (db a).toArray tAc):(iL tAc (bO r 0)).run pQ W=.ok (kx a) W:=by
 unfold db at h;simp[go_sem,h,kx]
def eDu:gP pQ 369 3 24=true:=cy
def Ik:Tryz.prog.underlying 40=some (.slice 45):=cy
def Yk:gP pQ 45 1 4=true:=cy
end Go.Proofs
set_option maxRecDepth 100000
set_option maxHeartbeats 1000000
namespace Go.Proofs
open Go Go.Vc
attribute [local congr] aZ
def Kz{S:bo}(h:S.led.Ok)(a:Int):0<=(S.acc a).num/\(S.acc a).num<4294967296:=by
 unfold bo.acc bE.getO;by_cases b:a=0
 ·rw[ae b];exact⟨by show(0:Int)<=0;omega,by show(0:Int)<_;omega⟩
 ·rw[aa b];cases c:S.led.find a with
  |none=>exact⟨by grind,by grind⟩
  |some x=>
   have:=h.acc x (dz c);exact⟨by grind,this.2.1⟩
def Px(a:Int)(x:List Int×bo)(n m:Int):((tY a x n).2.bd m).length<=(x.2.bd m).length:=by
 show(eL x.2.bd n _ m).length<=_;by_cases h:m=n
 ·subst h;rw[cO];exact bi _ _
 ·rw[eJ _ _ _ h];exact az _
def Cj(S:bo)(a k:Int)(m:Int):((S.clear a k).2.bd m).length<=(S.bd m).length:=by
 have:∀(b:List Int) (x:List Int×bo),((b.foldl (tY a) x).2.bd m).length<=(x.2.bd m).length:=by
  intro b;induction b with
  |nil=>intro x;exact az _
  |cons n b c=>intro x;exact ci (c _) (Px a x n m)
 exact this _ _
end Go.Proofs
set_option maxRecDepth 100000
set_option maxHeartbeats 1000000
namespace Go.Proofs
open Go Go.Vc
attribute [local congr] aZ
variable {L:bE}
def MV:∀{l m:List Int},l.Nodup->(∀x∈l,x∈m)->l.length<=m.length:=by
 intro l;induction l with
 |nil=>intro m _ _;exact aJ _
 |cons a l j=>
  intro m d g;rw[bY]at d;have f:=g a (ai ..)
  have:=j (m:=m.erase a) d.2 λx i=>by
   have b:x≠a:=λe=>d.1 (e▸i);exact(List.mem_erase_of_ne b).2 (g x (af _ i))
  rw[List.length_erase_of_mem f]at this;have h:0<m.length:=List.length_pos_of_mem f;rw[be];omega
def qj(h:L.Ok)(c:Int):(L.holders c).length<=64:=by
 have k:((L.holders c).map (·.a)).Nodup:=by
  have f:=(h.sp.nodup).sublist ((ew (p:=λp:Po=>decide (p.c=c))).map Po.key);show((L.held.filter λp=>decide (p.c=c)).map (·.a)).Nodup
  have e:(L.held.filter λp=>decide (p.c=c)).map Po.key=((L.held.filter λp=>decide (p.c=c)).map (·.a)).map λa=>(c,a):=by
   rw[dK];refine dZ λp hp=>?_;have:=(aT.1 hp).2;rw[aX]at this;show(p.c,p.a)=(c,p.a)
   rw[this]
  rw[e]at f;exact List.Pairwise.of_map (λa=>(c,a)) (λa b d e=>d (by rw[e])) f
 have:=MV (m:=L.all.map (·.num)) k λx j=>by
  obtain⟨p,hp,rfl⟩:=aL.1 j;obtain⟨a,i,g⟩:=(h.pos p (aT.1 hp).1).2.2.2.2.2.2.2;exact aL.2 ⟨a,i,g⟩
 rw[ah,ah]at this;exact ci this h.len
def RQ(p:Po->Bool):∀l:List Po,(l.filter p).length+(l.filter λx=> !p x).length=l.length:=by
 intro l;induction l with
 |nil=>rfl
 |cons a l b=>cases hp:p a<;>simp[hp]<;>omega
def TO{L:bE}:∀(a:List Int) (H:List Po),(∀p∈H,p.c∈a)->H.length<=(a.map λn=>(H.filter λp=>decide (p.c=n)).length).sum:=by
 intro a;induction a with
 |nil=>intro H h;cases H with|nil=>simp|cons p H=>exact absurd (h p (ai ..)) (by simp)
 |cons n a b=>
  intro H h
  have h1:=b (H.filter λp=> !decide (p.c=n)) λp hp=>by
   obtain⟨d,i⟩:=aT.1 hp;rcases ar.1 (h p d)with e|e
   ·grind
   ·exact e
  have f:(H.filter λp=>decide (p.c=n)).length+(H.filter λp=> !decide (p.c=n)).length=H.length:=by
   exact RQ _ H
  have g:(a.map λm=>((H.filter λp=> !decide (p.c=n)).filter λp=>decide (p.c=m)).length).sum<=(a.map λm=>(H.filter λp=>decide (p.c=m)).length).sum:=by
   clear b h h1;induction a with
   |nil=>simp
   |cons m a b=>
    simp only[aD,bC]
    have:((H.filter λp=> !decide (p.c=n)).filter λp=>decide (p.c=m)).length<=(H.filter λp=>decide (p.c=m)).length:=
     (ew.filter _).length_le
    omega
  simp only[aD,bC];omega
def sw{C:oe}(hC:C.Ok)(h:HK C L):L.held.length<=1024:=by
 have h1:=TO (L:=L) (C.l.map (·.spec.num)) L.held λp hp=>by
  obtain⟨k,g,-,e,f⟩:=nR (h.held p hp);exact aL.2 ⟨k,f,e⟩
 have b:∀a:List Int,(a.map λn=>(L.held.filter λp=>decide (p.c=n)).length).sum<=64*a.length:=by
  intro a;induction a with
  |nil=>simp
  |cons n a j=>
   have:=qj h.led n;unfold bE.holders at this;simp only[aD,bC,be];omega
 have d:=b (C.l.map (·.spec.num));have i:=hC.len;rw[ah]at d;omega
def Vn(B:Int)(won:Int->Int):Prop:=∀n,-B<=won n/\won n<=B
def yd{V:Int}(j:0<=V):∀(l:List (Int×Int)) {won:Int->Int} {B:Int},Vn B won->(∀x∈l,-V<=x.2/\x.2<=V)->Vn (B+V*l.length) (ii won l):=by
 intro l;induction l with
 |nil=>intro won B h _ n;have:=h n;simpa [ii]using this
 |cons x l g=>
  intro won B h a;have i:=a x (ai ..)
  have h1:Vn (B+V) (eL won x.1 (won x.1+x.2)):=λn=>by
   by_cases b:n=x.1
   ·subst b;rw[cO];have:=h x.1;omega
   ·rw[eJ _ _ _ b];have:=h n;omega
  have d:=g h1 λy f=>a y (af _ f);intro n;have:=d n
  have e:B+V*((x::l).length:Int)=B+V+V*l.length:=by
   rw[be];push_cast;rw[Int.mul_add];omega
  rw[e];exact this
def xF(h:L.Ok)(c price:Int)(cl:Bool):(L.mark c price cl).2.1.length<=64/\∀x∈(L.mark c price cl).2.1,(-1100000000000000<=x.2/\x.2<=1100000000000000)/\kV x.1:=by
 unfold bE.mark;split
 ·grind
 ·rename_i f
  have hp:aW price 1 MP=true:=by
   cases d:aW price 1 MP with
   |true=>rfl
   |false=>exact absurd (.inr d) f
  have g:=eU.1 hp;have e:MP=10000000:=rfl;have j:MF=1000000000000000:=rfl;refine⟨by show((L.holders c).map _).length<=64;rw[ah];exact qj h c,λx i=>?_⟩;obtain⟨p,b,rfl⟩:=aL.1 i;obtain⟨o,y,q,s,r,n,m,a,d,u⟩:=h.pos p (aT.1 b).1;have:=h.acc a d
  have k:p.q*price<=10000000*10000000:=by
   have h1:p.q*price<=10000000*price:=gN qZ qZ;omega
  have t: -(10000000*10000000)<=p.q*price:=by
   have h1:(-10000000)*price<=p.q*price:=gN qZ qZ;omega
  refine⟨⟨?_,?_⟩,⟨?_,?_⟩⟩
  ·grind
  ·grind
  ·show 0<=p.a;omega
  ·show p.a<_;omega
section
variable{w:Wt_}{K:aY}{v c l mb md:Nat}{A:List (Int×Nat)}{D:List (Int×Value)}{fp:Pt->Nat->Prop}{S:bo}
end
def DU{w:Wt_}{K:aY}{s:Vt_}{L:List Int}{a:Int}(h:Rd w 1 s L.length (L.flatMap yO))(O:L.length<=100000)(m:∀y,M0 w y->K (.bool (L.contains a)) y):
  Ca pQ 208 #[s,gU a] w K:=by
 refine cN Tryz.func208 ?_;refine cN Tryz.func266 ?_;obtain⟨sa,sc,H⟩:=h.isSl;apply iq (gI (L.length:Int)) w (by rw[H];simp[go_sem])
 refine d8 (λst W=>∃(i:Nat) (x:Vt_),i<=L.length/\st=(x,gI i,())/\M0 w W/\∀j:Nat,∀n:j<L.length,j<i->L[j]≠a)
  (λst _=>match st.2.1 with| .int _ i=>L.length - i.toNat|_=>0) ⟨0,gI 0,qZ,rfl,oU,λj _ h=>qZ⟩ ?_
 rintro⟨_,_⟩ W ⟨i,x,N,⟨⟩,k,o⟩ J q;refine lE ?_;intro _;by_cases f:i<L.length
 ·have g:(i:Int)<(L.length:Int):=qZ;refine dB g ?_;obtain⟨b,t,F,p,z,G⟩:=(h.mod k dS).item (show∀x,(yO x).length=1 from λ_=>rfl) f rfl;obtain⟨C,e,M,hC,B⟩:=G.get;have r:=B 0 (gU L[i]) rfl;simp only[cx]at r;apply ax (bO b (t+i*1)) W (by rw[p];simp[go_sem,f,bD]);apply ax (gU L[i]) W (by simp only[oD]at r|-;simp[go_sem,bT hC,r]);by_cases d:L[i]=a
  ·refine dB d ?_;refine dq ?_;have:L.contains a=true:=by grind
   rw[this]at m;exact m W k
  ·apply ax (.bool false) W (by simp[go_sem];exact λe=>d e.symm);rw[ij];apply ax (gI ((i+1:Nat):Int)) W (by simp[go_sem];rw[lL]);refine q _ _ ⟨i+1,_,qZ,rfl,k,λj n E=>?_⟩ (by grind);by_cases u:j=i
   ·subst u;exact d
   ·grind
 ·obtain rfl:i=L.length:=qZ;refine eK ?_;refine dq ?_
  have:L.contains a=false:=by
   rw[ez,Ne,List.contains_iff_mem];intro I;obtain⟨j,n,u⟩:=bM I;exact o j n n u
  rw[this]at m;exact m W k
end Go.Proofs
set_option maxRecDepth 100000
set_option maxHeartbeats 1000000
namespace Go.Proofs
open Go Go.Vc
def tS(mw:Nat)(won:Int->Int):As:=⟨λw F=>B4 w mw won/\∀x,F x↔x=mw,λh hb=>by
  obtain⟨⟨L,h1,-⟩,h2⟩:=h;rw[(h2 _).1 hb];exact h1.lt,λh m hg=>⟨h.1.mod m (hg mw ((h.2 mw).2 rfl)),h.2⟩⟩
abbrev ZS(s:Vt_)(l:List (Int×Int)):As:=ow s 366 2 l.length (l.flatMap oC)
def ac5:Tryz.prog.cellsOf 366=1+1:=cy
def XF(x:Int×Int)(w:Wt_)(b off:Nat)(h:At w b off (oC x)):(iL 366 (bO b off)).run pQ w=.ok (.agg (oC x).toArray) w:=by
 obtain⟨C,e,i,hC,g⟩:=h.get;have f:=g 0 (gU x.1) rfl;have d:=g 1 (gI x.2) rfl;simp only[cx]at f d;simp[go_sem,bT hC,f,d,oC]
section
variable{L L0 M:List As}{φ:WP}{K:Value->WP}{k0:WP}{v c l mb md b mw:Nat}{A:List (Int×Nat)}{D:List (Int×Value)}{S:bo}{n a:Int}{X:bE}{won:Int->Int}
def Gs.wonL(d:Gs L (K (gI (won n))))(q:dV L (tS mw won::M):=by repeat first|(with_reducible exact eg)|(with_reducible apply ee)):Gs L (Xw pQ (ju 309 (.map (some mw)) (gU n) false) K):=⟨λw y=>(jF q y).elim λF h=>jP (h.1.look n) (d.go w y)⟩
def Gs.wonU{x:Int}(p:Gs (tS mw (eL won n x)::M) k0)(q:dV L (tS mw won::M):=by repeat first|(with_reducible exact eg)|(with_reducible apply ee)):Gs L (Yw pQ (qw 309 (.map (some mw)) (gU n) (gI x)) k0):=⟨λw ⟨F,z⟩=>by
 obtain⟨t,i,⟨⟨Lw,r,j⟩,h1⟩,h,f⟩:=Ss.cons.1 (⟨F,(q.out w F).1 z⟩:Ss w (tS mw won::M));refine gL (enc:=eQ) (ev:=KL) (x:=n) (v:=x) Ux kM r λg o m _=>p.go g (Ss.cons.2 ⟨t,i,⟨⟨_,o,λk=>?_⟩,h1⟩,h.md m λy s u=>f y ((h1 y).2 u) s,f⟩);rw[kJ];by_cases d:k=n
 ·subst d;rw[cO,ae rfl];rfl
 ·rw[eJ _ _ _ d,aa λe=>d e.symm,j]⟩
def RF{ct price:Int}{cl:Bool}(g:X.held.length<4294967295)(f:∀y,Gs (mi l (X.mark ct price cl).2.2::ZS (ej y (X.mark ct price cl).2.1.length) (X.mark ct price cl).2.1::M) (K (.tuple #[ej y (X.mark ct price cl).2.1.length,gI (X.mark ct price cl).1])))(p:dV L (mi l X::M):=by repeat first|(with_reducible exact eg)|(with_reducible apply ee)):
  Gs L (Cw pQ 263 #[eu l,gU ct,gI price,.bool cl] K):=
 Gs.old (A:=mi l X) (val:=λy:Option Addr×Nat=>.tuple #[ej y (X.mark ct price cl).2.1.length,gI (X.mark ct price cl).1]) (p:=λ_=>True) (B:=λy=>(mi l (X.mark ct price cl).2.2).mul (ZS (ej y (X.mark ct price cl).2.1.length) (X.mark ct price cl).2.1)) (λw F _ q K h=>T3 q g λe sl j o i nn=>by
  obtain⟨x,y,rfl,-⟩:=o.isSl;exact h (x,y) e (λy=>F y\/aK _ y) trivial ⟨F,aK _,j,⟨o,λ_=>aG⟩,λy d k=>by have:=nn y k;have:=q.lt d;omega,λ_=>aG⟩ i λy d=>d.elim .inl λh=>.inr (nn y h)) (λx _=>(f x).pk Nx) p
def FV(h:X.Ok->Gs L φ)(p:dV L (mi l X::M):=by repeat first|(with_reducible exact eg)|(with_reducible apply ee)):Gs L φ:=⟨λw y=>(jF p y).elim λF q=>(h q.ok).go w y⟩
def ES{k:Ct}{cl:Bool}{B:Int}(F:S.led.held.length<4294967295)(G:Vn B won)(C:0<=B/\B<=2000000000000000000)
  (t:Gs (tS mw (ii won (S.led.mark k.spec.num k.price cl).2.1)::vs v c l mb md A D {S with led:=(S.led.mark k.spec.num k.price cl).2.2} L) (K (gI (S.led.mark k.spec.num k.price cl).1)))(pk:dV L0 (tS mw won::vs v c l mb md A D S L):=by repeat first|(with_reducible exact dV.refl)|((apply nL);(·repeat first|(with_reducible exact eg)|(with_reducible apply ee)))):
  Gs L0 (Cw pQ 205 #[dL v,.agg (dD k).toArray,.bool cl,.map (some mw)] K):=by
 refine Gs.pk ?_ pk;refine sN Tryz.func205 ?_;unfold dL;refine FV (X:=S.led) (λz=>?_);obtain⟨m,d⟩:=xF z k.spec.num k.price cl;refine au ?_;intro r;refine au ?_;refine RF F (λy=>?_);generalize S.led.mark k.spec.num k.price cl=X at m d t|-;obtain⟨e,V,Y⟩:=X
 dsimp only at m d t|-
 refine au ?_;refine Gs.l (λi:Nat=>(gI i,())) (V.length - ·) (λi=>tS mw (ii won (V.take i))::ZS (ej y V.length) V::pt r (dD k) kP::vs v c l mb md A D {S with led:=Y} L) (·<=V.length) 0 rfl (aJ _) ?_ (show dV _ (tS mw won::ZS (ej y V.length) V::pt r (dD k) kP::vs v c l mb md A D {S with led:=Y} L)from(by repeat first|(with_reducible exact dV.refl)|((apply nL);(·repeat first|(with_reducible exact eg)|(with_reducible apply ee)))));intro i O I s
 dsimp only
 refine Gs.z (au ?_);refine Gs.I (λh=>?_) λh=>?_
 ·have j:i<V.length:=qZ;have p:=cq j;have u:=d _ (av j);have g:=s (i+1) qZ qZ
  have o:Vn (B+1100000000000000*64) (ii won (V.take i)):=by
   have h1:=yd (V:=1100000000000000) qZ (V.take i) G λy E=>(d y (cE E)).1;intro n;have J:=h1 n;have N:((V.take i).length:Int)<=64:=by rw[aB];omega
   omega
  rw[p,show ii won (V.take i++[V[i]])=eL (ii won (V.take i)) V[i].1 (ii won (V.take i) V[i].1+V[i].2) by unfold ii;rw[iD];rfl]at g;refine Gs.it (T:=366) (f:=oC) cy ac5 (λ_=>rfl) XF (λw y=>mO (by repeat first|(with_reducible exact eg)|(with_reducible apply ee)) w y) rfl j ?_;generalize ii won (V.take i)=wn at o g|-;generalize V[i]=x at u g|-;have H:=o x.1;unfold oC;refine au ?_;intro q;refine au ?_;refine Gs.wonL ?_;refine au ?_;refine Gs.wonU ?_;refine au ?_;exact g.fin
 ·obtain rfl:i=V.length:=qZ;rw[aV];exact t.fin
end
end Go.Proofs
set_option maxRecDepth 100000
set_option maxHeartbeats 1000000
namespace Go.Proofs
open Go Go.Vc
abbrev duA(s:Vt_)(l:List Du):As:=ow s 369 3 l.length (l.flatMap I1)
abbrev YK(s:Vt_)(l:List Sd):As:=ow s 374 4 l.length (l.flatMap vY)
abbrev sdX(d:Sd):List Value:=[.int .u32 d.acct,gI d.cash,.bool d.dfl,gI d.cut]
structure ac3 where
 i:Nat
 g:Option Addr×Nat
 u:Option Addr×Nat
 D:List (Int×Value)
 gn:List Int
 ac:List Int
 T:bo
def MQ(s:Sd)(l:List Sd)(gn ac:List Int)(S:bo):mR (s::l) ⟨0,0,0,0,[],gn,ac⟩ S=
  if((if s.dfl then(S.clear s.acct 0).2 else S).led.set {S.acc s.acct with cash:=s.cash,dfl:=(S.acc s.acct).dfl||s.dfl}).1≠0 then
   (((if s.dfl then(S.clear s.acct 0).2 else S).led.set {S.acc s.acct with cash:=s.cash,dfl:=(S.acc s.acct).dfl||s.dfl}).1,⟨0,0,0,0,[],if s.dfl then gn++(S.clear s.acct 0).1 else gn,if s.dfl then ac++[s.acct]else ac⟩,{(if s.dfl then(S.clear s.acct 0).2 else S)with led:=((if s.dfl then(S.clear s.acct 0).2 else S).led.set {S.acc s.acct with cash:=s.cash,dfl:=(S.acc s.acct).dfl||s.dfl}).2})
  else mR l ⟨0,0,0,0,[],if s.dfl then gn++(S.clear s.acct 0).1 else gn,if s.dfl then ac++[s.acct]else ac⟩ {(if s.dfl then(S.clear s.acct 0).2 else S)with led:=((if s.dfl then(S.clear s.acct 0).2 else S).led.set {S.acc s.acct with cash:=s.cash,dfl:=(S.acc s.acct).dfl||s.dfl}).2}:=by
 cases h:s.dfl<;>simp only[mR,h,cZ,da,bj]<;>rfl
def Bu(won:Int->Int)(a:Ac):Du:=⟨a.num,a.cash,won a.num⟩
def XH(x:Sd)(w:Wt_)(b off:Nat)(h:At w b off (vY x)):(iL 374 (bO b off)).run pQ w=.ok (Rm x) w:=by
 obtain⟨C,e,m,hC,d⟩:=h.get;have i:=d 0 (gU x.acct) rfl;have g:=d 1 (gI x.cash) rfl;have f:=d 2 (.bool x.dfl) rfl;have j:=d 3 (gI x.cut) rfl;simp only[cx]at i g f j;simp[go_sem,bT hC,i,g,f,j,vY,Rm]
attribute [go_sem] Rm vY
section
variable{L L0 M:List As}{φ:WP}{K:Value->WP}{k0:WP}{v c l mb md b mw:Nat}{A:List (Int×Nat)}{D:List (Int×Value)}{S:bo}{n a:Int}{X:bE}{won:Int->Int}
def MH{s:Vt_}{ds:List Du}{fund:Int}(q:ds.length<=100000)(j:∀d∈ds,d.Fit)(i:eP fund)(g:∀y,Gs (YK (ej y (gR fund ds).1.length) (gR fund ds).1::L) (K (.tuple #[ej y (gR fund ds).1.length,gI (gR fund ds).2.1,gI (gR fund ds).2.2])))(p:dV L (duA s ds::M):=by repeat first|(with_reducible exact eg)|(with_reducible apply ee)):
  Gs L (Cw pQ 264 #[.int .i64 fund,s] K):=
 Gs.nw (φ:=λk=>Cw pQ _ _ k) (val:=λy:Option Addr×Nat=>.tuple #[ej y (gR fund ds).1.length,gI (gR fund ds).2.1,gI (gR fund ds).2.2]) (p:=λ_=>True) (B:=λy=>YK (ej y (gR fund ds).1.length) (gR fund ds).1) (λw y K h=>Mz (mO p w y) q j i λr f o m nn=>by
  obtain⟨x,y,rfl,-⟩:=o.isSl;exact h (x,y) f (aK _) trivial ⟨o,λ_=>aG⟩ m nn) (λy _=>g y)
section
variable{P:Program}{k:Value->WP}{s s1:Vt_}{e t:TypeId}{sz by_:Nat}
def Gs.cat{α:Type}{l l1:List α}{f:α->List Value}(d:P.underlying t=some (.slice e))(g:gP P e sz by_=true)(h1:∀x,(f x).all (·.oneCell')=true)(j:(l.length+l1.length)*by_<=140737488355328)
  (h:∀a c,Gs (ow (.slice a (l++l1).length c) e sz (l++l1).length ((l++l1).flatMap f)::ow s1 e sz l1.length (l1.flatMap f)::M) (k (.slice a (l++l1).length c)))(p:dV L (ow s e sz l.length (l.flatMap f)::ow s1 e sz l1.length (l1.flatMap f)::M):=by repeat first|(with_reducible exact dV.refl)|((apply nL);(·repeat first|(with_reducible exact eg)|(with_reducible apply ee)))):Gs L (Xw P (eZ #[t,t] t [s,s1]) k):=by
 refine Gs.pk (Gs.app d d g (λw y=>mO (M:=ow s e sz l.length (l.flatMap f)::M) .swap w y) ?_ j (λa c=>?_) .refl) p
 ·rw[bf];intro x m;obtain⟨y,-,i⟩:=List.mem_flatMap.1 m;exact bf.1 (h1 y) x i
 ·have:=h a c;rw[ag,cJ]at this;exact this
end
set_option maxHeartbeats 4000000 in
def Kb(hv:oB A D S.cal.l S.bk)(hcal:S.cal.Ok)(hbl:∀n,(S.bd n).length<=50)(hw64:∀n,eP (won n))
  (hK:∀g u D',oB A D' S.cal.l (S.pay won).2.2.bk->(S.pay won).2.2.cal=S.cal->(S.pay won).2.1.gone.length<=256000->(S.pay won).2.1.accts.length<=64->(S.pay won).2.1.trades=[]->
   Gs (vs v c l mb md A D' (S.pay won).2.2 (sB (ej g (S.pay won).2.1.gone.length) (S.pay won).2.1.gone::yT (ej u (S.pay won).2.1.accts.length) (S.pay won).2.1.accts::tS mw won::L)) (K (.tuple #[wT (S.pay won).2.1 (.slice none 0 0) (ej g (S.pay won).2.1.gone.length) (ej u (S.pay won).2.1.accts.length),gI (S.pay won).1])))
  (pk:dV L0 (tS mw won::vs v c l mb md A D S L):=by repeat first|(with_reducible exact dV.refl)|((apply nL);(·repeat first|(with_reducible exact eg)|(with_reducible apply ee)))):Gs L0 (Cw pQ 206 #[dL v,.map (some mw)] K):=by
 refine Gs.pk ?_ pk;refine sN Tryz.func206 ?_;unfold dL;refine FV (X:=S.led) (λV=>?_);have hal:=V.len;refine au ?_;intro p0;refine au ?_;intro q;refine au ?_;intro p4;refine au ?_;refine Gs.nilF 369 3 I1 (yn λgv=>?_);refine Gg.rf (L:=pt q Nl qL::vs v c l mb md A D S L) (λ_ _ _ _=>rfl) (Rq nQ.ac) (I:=λi (b:Option Addr×Nat) M=>pt p4 [ej b ((S.led.all.take i).map (Bu won)).length] 367::duA (ej b ((S.led.all.take i).map (Bu won)).length) ((S.led.all.take i).map (Bu won))::pt p0 [.map (some mw)] 309::tS mw won::M) (E:=λ(_:Unit) M=>M) (λ_ _ _=>rfl) (λ_ _=>rfl) (λi b=>True) (λ_ _=>False) (none,0) trivial ?_ ?_ (λ_ _ _ (h:False)=>h.elim) ?_
 ·rintro i hi x - l1 r1 q1 M kn kj N -;have htk:=cq hi;have C:((S.led.all.take i).map (Bu won)).length<=64:=by rw[ah,aB];omega
  rw[htk,aM,aD,fw]at N;generalize S.led.all[i]=a at N|-;generalize(S.led.all.take i).map (Bu won)=I at C N|-;unfold db;refine au ?_;refine Gs.wonL ?_;refine au ?_;refine Gs.push (x:=Bu won a) (f:=I1) (l:=I) YX eDu (λ_=>rfl) rfl rfl qZ qZ (λz1 z2=>?_) (by repeat first|(with_reducible exact eg)|(with_reducible apply ee));refine au ?_;exact(N (z1,z2) _ trivial).fin
 ·rintro x0 d -;have C:(S.dues won).length<=64:=by unfold bo.dues;rw[ah];omega
  have hdu:∀x∈S.dues won,x.Fit:=λx hx=>by
   obtain⟨a,ha,rfl⟩:=aL.1 hx;have:=V.acc a ha;unfold MF at this;exact⟨⟨by show 0<=a.num;omega,this.2.1⟩,⟨by show _<=a.cash;omega,by show a.cash<_;omega⟩,hw64 _⟩
  have hf:eP S.led.fund:=by have:=V.fund;unfold MF at this;constructor<;>omega
  rw[aV,show S.led.all.map (Bu won)=S.dues won from rfl]
  have j:S.pay won=if(gR S.led.fund (S.dues won)).2.2≠0 then((gR S.led.fund (S.dues won)).2.2,jw,S)else
    if(mR (gR S.led.fund (S.dues won)).1 jw S).1≠0 then mR (gR S.led.fund (S.dues won)).1 jw S else
     (((mR (gR S.led.fund (S.dues won)).1 jw S).2.2.led.set ⟨0,(gR S.led.fund (S.dues won)).2.1,false,false⟩).1,(mR (gR S.led.fund (S.dues won)).1 jw S).2.1,{(mR (gR S.led.fund (S.dues won)).1 jw S).2.2 with led:=((mR (gR S.led.fund (S.dues won)).1 jw S).2.2.led.set ⟨0,(gR S.led.fund (S.dues won)).2.1,false,false⟩).2}):=rfl
  have Q:=JV (fund:=S.led.fund) (l:=S.dues won);have hdl:∀s∈S.dues won,kV s.acct:=λs hs=>(hdu s hs).1;generalize S.dues won=ds at C hdu j Q hdl|-;refine Gs.ak (au ?_);refine rq ?_;rw[show S.led.getV 0=(⟨0,S.led.fund,false,false⟩,0)from rfl];refine au ?_;intro r0;refine au ?_;refine MH (ds:=ds) qZ hdu hf (λy=>?_);generalize gR S.led.fund ds=X at j Q|-;obtain⟨out,left,e⟩:=X
  dsimp only at j Q|-
  refine au ?_;refine Gs.Ib (λU=>?_) λU=>?_
  ·rw[ae (by simpa using U)]at j;rw[j]at hK;refine au ?_;refine Gs.tw ?_;refine au ?_;refine Gs.idn (Gs.uin ?_);have:=hK (none,0) (none,0) D hv rfl (aJ _) (aJ _) rfl
   dsimp only[jw,List.length_nil]at this
   exact this.fin
  obtain rfl:e=0:=by simpa using U
  rw[aa (by simp)]at j;obtain⟨hsa,-⟩:=Q rfl;have hol:out.length<=64:=by have:=dW List.length hsa;rw[ah,ah]at this;omega
  have hoa:∀s∈out,kV s.acct:=λs hs=>by
   have h1:s.acct∈ds.map (·.acct):=by rw[<-hsa];exact aR hs
   obtain⟨x,hx,p⟩:=aL.1 h1;rw[<-p];exact hdl x hx
  refine au ?_;refine Gs.idn (Gs.uin ?_);refine Gs.fin (M:=YK (ej y out.length) out::pt q Nl qL::sB (ej (none,0) 0) []::yT (ej (none,0) 0) []::Ns d::tS mw won::vs v c l mb md A D S L) ?_
  refine Gs.l (λx:ac3=>(gI 0,gI x.i,())) (λx=>out.length - x.i) (λx=>YK (ej y out.length) out::pt q (BF 0 0 0 0 (.slice none 0 0) (ej x.g x.gn.length) (ej x.u x.ac.length)) qL::sB (ej x.g x.gn.length) x.gn::yT (ej x.u x.ac.length) x.ac::Ns d::tS mw won::vs v c l mb md A x.D x.T L)
   (λx=>x.i<=out.length/\mR out jw S=mR (out.drop x.i) ⟨0,0,0,0,[],x.gn,x.ac⟩ x.T/\oB A x.D S.cal.l x.T.bk/\x.T.cal=S.cal/\(∀n,(x.T.bd n).length<=50)/\x.gn.length<=4000*x.i/\x.ac.length<=x.i) ⟨0,(none,0),(none,0),D,[],[],S⟩ rfl ⟨aJ _,rfl,hv,rfl,hbl,aJ _,aJ _⟩ ?_ .refl
  rintro⟨i,g,u,D1,gn,ac,T⟩ ⟨h1,p,h3,Y,h5,h6,h7⟩ KN hKN
  dsimp only at h1 p h3 Y h5 h6 h7 hKN|-
  refine Gs.z (au ?_);refine Gs.I (λh=>?_) λh=>?_
  ·have O:i<out.length:=qZ;have hsm:=hoa _ (av O);rw[<-ce O]at p;refine Gs.it (f:=vY) V7 nSd (λ_=>rfl) XH (λw y=>mO (by repeat first|(with_reducible exact eg)|(with_reducible apply ee)) w y) rfl O ?_;generalize out[i]=s at hsm p|-;rw[MQ]at p;refine FV (X:=T.led) (λhTk=>?_);have hau:=Kz hTk s.acct;refine au ?_;intro r1;unfold Rm vY;refine au ?_;refine Gs.jv (λr=>(.pointer (some ⟨r,0,none⟩),())) (Xq (T.acc s.acct)) 100 (λJ hJ=>au ?_) λr=>?_
   ·refine Gs.An ?_ (au ?_)
    ·refine rq ?_;rw[nC T];refine au ?_;intro r;refine au ?_;exact(hJ r).fin
    ·intro r;refine au ?_;refine rq ?_;rw[nC T];refine au ?_;exact(hJ r).fin
   dsimp only
   refine Gs.z (au ?_);obtain⟨H,o⟩:∃x,x=if s.dfl then gn++(T.clear s.acct 0).1 else gn:=⟨_,rfl⟩
   obtain⟨F,B⟩:∃x,x=if s.dfl then ac++[s.acct]else ac:=⟨_,rfl⟩
   obtain⟨T1,m⟩:∃x,x=if s.dfl then(T.clear s.acct 0).2 else T:=⟨_,rfl⟩
   have hcl:=rA T s.acct 0;have R:=Cj T s.acct 0;rw[<-o,<-B,<-m]at p
   refine Gs.j (λ_:(Option Addr×Nat)×(Option Addr×Nat)×List (Int×Value)=>()) (λz=>pt r [.int .u32 (T.acc s.acct).num,gI s.cash,.bool (T.acc s.acct).kil,.bool ((T.acc s.acct).dfl||s.dfl)] 100::pt r1 (sdX s) 374::YK (ej y out.length) out::pt q (BF 0 0 0 0 (.slice none 0 0) (ej z.1 H.length) (ej z.2.1 F.length)) qL::sB (ej z.1 H.length) H::yT (ej z.2.1 F.length) F::Ns d::tS mw won::vs v c l mb md A z.2.2 T1 L)
    (λz=>oB A z.2.2 S.cal.l T1.bk/\H.length<=4000*(i+1)/\F.length<=i+1) (λJ hJ=>?_) λz hz=>?_
   ·refine au ?_;refine Gs.Ib (λhd=>?_) λhd=>?_
    ·rw[ae hd]at o B m;refine au ?_;refine Gs.push (x:=s.acct) (f:=yO) (l:=ac) Ik Yk (λ_=>rfl) rfl rfl qZ qZ (λz1 z2=>?_) (by repeat first|(with_reducible exact eg)|(with_reducible apply ee));refine au ?_;refine yg (S:=T) (by rw[Y];exact h3) (by rw[Y];exact hcal) h5 (λy' D' w1 w2=>?_);rw[Y]at w1;rw[<-m]at w1|-;have hl:(ac++[s.acct]).length<=i+1:=by rw[ag];exact Nat.add_le_add_right h7 1
     rw[<-B]at hl|-;have hg:(gn++(T.clear s.acct 0).1).length<=4000*(i+1):=by rw[ag];omega
     generalize(T.clear s.acct 0).1=G at o w2 hg|-;refine au ?_;refine Gs.cat (l:=gn) (l1:=G) (f:=ua) wS Ms (λ_=>rfl) qZ (λx1 x2=>?_);rw[<-o]at hg|-;refine au ?_;have:=hJ ((x1,x2),(z1,z2),D') ⟨w1,hg,hl⟩;rw[hd,Bool.or_true]at this;exact this.fin
    ·rw[hd]at o B m;simp only[bj,da]at o B m;subst o B m;have:=hJ (g,u,D1) ⟨h3,qZ,qZ⟩;rw[hd,Bool.or_false]at this;exact this.fin
   obtain⟨⟨z1,z2,z3⟩,hz1,Z,hz3⟩:∃y,y=z/\_:=⟨z,rfl,hz⟩
   subst hz1
   dsimp only at Z|-
   have hc1:T1.cal=S.cal:=by rw[m];split;exact hcl.trans Y;exact Y
   have hb1:∀n,(T1.bd n).length<=50:=λn=>by rw[m];split;exact ci (R n) (h5 n);exact h5 n
   clear hcl R o B m hbl h3 h5 h6 h7;refine Gs.z (au ?_);refine Dt (a:={T.acc s.acct with cash:=s.cash,dfl:=(T.acc s.acct).dfl||s.dfl}) hau ?_;generalize T1.led.set {T.acc s.acct with cash:=s.cash,dfl:=(T.acc s.acct).dfl||s.dfl}=W at p|-;obtain⟨e,W⟩:=W
   dsimp only at p|-
   refine au ?_;refine Gs.Ib (λU=>?_) λU=>?_
   ·rw[ae (by simpa using U)]at p;rw[p]at j;rw[ae (by simpa using U)]at j;rw[j]at hK;refine au ?_;refine Gs.tw ?_;refine au ?_;exact(hK z1 z2 z3 Z hc1 (by dsimp only;omega) (by dsimp only;omega) rfl).fin
   ·obtain rfl:e=0:=by simpa using U
    rw[aa (by simp)]at p;refine au ?_;exact(hKN ⟨i+1,z1,z2,z3,H,F,{T1 with led:=W}⟩ ⟨O,p,Z,hc1,hb1,hz3.1,hz3.2⟩ (by dsimp only;omega)).fin
  ·obtain rfl:i=out.length:=qZ;rw[ck (az _)]at p;rw[p]at j;rw[show mR [] (⟨0,0,0,0,[],gn,ac⟩:Rp) T=(0,⟨0,0,0,0,[],gn,ac⟩,T)from rfl,aa (by simp)]at j
   dsimp only at j
   rw[j]at hK;refine au ?_;refine Dt (a:=⟨0,left,false,false⟩) ⟨by show(0:Int)<=0;omega,by show(0:Int)<_;omega⟩ ?_;refine au ?_;refine Gs.tw ?_;refine au ?_;exact(hK g u D1 h3 Y (by dsimp only;omega) (by dsimp only;omega) rfl).fin
 ·simp only[duA,dR,fw,List.length_nil,ff];exact(by repeat first|(with_reducible exact dV.refl)|((apply nL);(·repeat first|(with_reducible exact eg)|(with_reducible apply ee))))
end
end Go.Proofs
set_option maxRecDepth 100000
set_option maxHeartbeats 1000000
namespace Go.Proofs
open Go Go.Vc
attribute [local congr] aZ
def Lx{L:bE}{won:Int->Int}(k:Ct):jj [k] L won=if k.st=3 then(0,L,won)else((L.mark k.spec.num k.price false).1,(L.mark k.spec.num k.price false).2.2,ii won (L.mark k.spec.num k.price false).2.1):=by
 unfold jj;split
 ·rfl
 ·simp only;split
  ·rfl
  ·rename_i h
   simp only[jj];have:(L.mark k.spec.num k.price false).1=0:=by simpa using h
   rw[this]
end Go.Proofs
set_option maxRecDepth 100000
set_option maxHeartbeats 1000000
namespace Go.Proofs
open Go Go.Vc
abbrev Um(p:Nat)(e:Int):As:=pt p [.int .i64 e] 29
abbrev Xu(p v:Nat):As:=pt p [.pointer (some ⟨v,0,none⟩)] 24
section
variable{L L0 M:List As}{φ:WP}{K:Value->WP}{k0:WP}{v c l mb md b mw:Nat}{A:List (Int×Nat)}{D:List (Int×Value)}{S:bo}{n a:Int}{X:bE}{won:Int->Int}
def Gs.mkW(d:∀mw,Gs (tS mw jq::L) (K (.map (some mw)))):Gs L (Vw pQ (Instr.makeMap 309 none) K):=⟨λw y=>by
 refine bh (zO _) ((d _).go _ (y.new ((aS.refl _ w).alloc _) (F' :=λx=>x=w.heap.size) ⟨⟨[],eF.new w,λ_=>rfl⟩,λ_=>aG⟩ λx e=>qZ))⟩
def FI{s:Vt_}{l:List Int}(f:l.length<=100000)(e:Gs L (K (.bool (l.contains a))))(p:dV L (yT s l::M):=by repeat first|(with_reducible exact eg)|(with_reducible apply ee)):Gs L (Cw pQ 208 #[s,gU a] K):=⟨λw y=>DU (mO p w y) f λd m=>e.go d (y.md0 m)⟩
def IA(accts:List Int)(a:Ac)(l:List Ac)(e:Int)(L:bE):qf accts (a::l) e L=if a.dfl=true/\(L.ofA a.num).isEmpty=true/\accts.contains a.num=false then qf accts l (L.set {a with dfl:=false}).1 (L.set {a with dfl:=false}).2 else qf accts l e L:=by rw[qf]
def IV(k:Ct)(l:List Ct)(L:bE)(won:Int->Int)(h:¬k.st=3):jj (k::l) L won=if(L.mark k.spec.num k.price false).1≠0 then((L.mark k.spec.num k.price false).1,(L.mark k.spec.num k.price false).2.2,ii won (L.mark k.spec.num k.price false).2.1)else jj l (L.mark k.spec.num k.price false).2.2 (ii won (L.mark k.spec.num k.price false).2.1):=by rw[jj,aa h]
set_option maxHeartbeats 4000000 in
def Hz(hv:oB A D S.cal.l S.bk)(W:S.Ok)(hK:QE v c l mb md A S.settle L K)(pk:dV L0 (vs v c l mb md A D S L):=by repeat first|(with_reducible exact dV.refl)|((apply nL);(·repeat first|(with_reducible exact eg)|(with_reducible apply ee)))):Gs L0 (Cw pQ 137 #[dL v] K):=by
 refine Gs.pk ?_ pk;refine sN Tryz.func137 ?_;unfold dL;obtain⟨C,hC⟩:=df (eS S.cal);obtain⟨N,hM⟩:∃m,m=jj C.2.l S.led jq:=⟨_,rfl⟩
 obtain⟨P,hP⟩:=df (({S with cal:=C.2,led:=N.2.1}:bo).pay N.2.2)
 have f:S.settle=if C.1≠0 then(C.1,jw,{S with cal:=C.2})else if N.1≠0 then(N.1,jw,{S with cal:=C.2,led:=N.2.1})else
   if P.1≠0 then P else((qf P.2.1.accts P.2.2.led.all 0 P.2.2.led).1,P.2.1,{P.2.2 with led:=(qf P.2.1.accts P.2.2.led.all 0 P.2.2.led).2}):=by rw[hP,hM,hC];rfl
 have o:=W.day;have B:=wj W;have hCl:=Ix S.cal;have G:=hv;rw[<-hCl]at G;refine au ?_;intro p0;refine au ?_;intro q;refine au ?_;intro p4;refine au ?_;refine Rl ?_;rw[<-hC]at o B hCl G|-;rw[<-hM]at B;obtain⟨e,C⟩:=C
 dsimp only at f hM hP o B hCl G|-
 refine au ?_;refine Gs.Ib (λt=>?_) λt=>?_
 ·rw[ae (by simpa using t)]at f;refine au ?_;exact hK.fail f (D:=D) G
 rw[aa (by simpa using t)]at f;obtain rfl:e=0:=by simpa using t
 refine Gs.mkW (λmw=>?_);refine au ?_;intro p8;refine au ?_;refine zp (C:=C) (λgv=>?_);have hcl:C.l.length<=16:=o.cal.len;refine Gg.rf (L:=L) (λ_ _ _ _=>rfl) (Ko _) (I:=λi (b:bE×(Int->Int)) M=>Um p4 0::pt q Nl qL::pt p8 [.map (some mw)] 309::Xu p0 v::tS mw b.2::vs v c l mb md A D {S with cal:=C,led:=b.1} M) (E:=λ(_:Unit) M=>Um p4 N.1::pt q Nl qL::vs v c l mb md A D {S with cal:=C,led:=N.2.1} M) (λ_ _ _=>rfl) (λ_ _=>rfl) (λi b=>jj (C.l.drop i) b.1 b.2=N/\HK C b.1/\Vn (1100000000000000*64*i) b.2) (λcd _=>cd=.ret/\N.1≠0) (S.led,jq) ⟨hM.symm,o.led,λn=>by show _<=(0:Int)/\(0:Int)<=_;omega⟩ ?_ ?_ ?_ (by repeat first|(with_reducible exact dV.refl)|((apply nL);(·repeat first|(with_reducible exact eg)|(with_reducible apply ee))))
 ·rintro i hi ⟨X,won⟩ ⟨h1,F,U⟩ l1 r1 q1 M kn kj p hkj
  dsimp only at h1 F U p|-
  rw[<-ce hi]at h1;generalize C.l[i]=k at h1|-;refine au ?_;refine Gs.Ib (λhs=>?_) λhs=>?_
  ·have O:¬k.st=3:=by simpa using hs
   rw[IV k _ _ _ O]at h1;have Q:=Lx (L:=X) (won:=won) k;rw[aa O]at Q
   have H:HK C (X.mark k.spec.num k.price false).2.2:=by
    have:=(uj o.cal [k] X won F).1;rw[Q]at this;exact this
   obtain⟨hvl,hvb⟩:=xF F.led k.spec.num k.price false;refine au ?_;refine Gs.X (λw z=>ky (by repeat first|(with_reducible exact eg)|(with_reducible apply ee)) Hk tM (bV _) w z) ?_;refine au ?_;refine ES (S:={S with cal:=C,led:=X}) (by have:=sw o.cal F;show X.held.length<_;omega) U qZ ?_
   have hwb:Vn (1100000000000000*64*((i+1:Nat):Int)) (ii won (X.mark k.spec.num k.price false).2.1):=λn=>by
    have:=yd (V:=1100000000000000) qZ _ U (λx hx=>(hvb x hx).1) n
    push_cast
    omega
   generalize X.mark k.spec.num k.price false=Y at h1 H hwb|-;obtain⟨e,V,Y⟩:=Y
   dsimp only at h1 H hwb|-
   refine au ?_;refine Gs.Ib (λt=>?_) λt=>?_
   ·rw[ae (by simpa using t)]at h1;subst h1;refine au ?_;exact(hkj .ret () _ ⟨rfl,by simpa using t⟩).fin
   ·obtain rfl:e=0:=by simpa using t
    rw[aa (by simp)]at h1;exact(p (Y,ii won V) _ ⟨h1,H,hwb⟩).fin
  ·have O:k.st=3:=by simpa using hs
   rw[jj,ae O]at h1;exact(p (X,won) _ ⟨h1,F,λn=>by have:=U n;push_cast;omega⟩).fin
 ·rintro⟨X,won⟩ d ⟨h1,F,U⟩
  dsimp only at h1 F U|-
  rw[gi]at h1;subst h1;have hw64:∀n,eP (won n):=λn=>by have:=U n;constructor<;>omega
  rw[aa (by simp[jj])]at f
  dsimp only[jj]at f hP B
  refine Gs.ak (au ?_);refine Kb (S:={S with cal:=C,led:=X}) G o.cal (λn=>W.ord.bdl n) hw64 (λg u D' w1 w2 w3 w4 w5=>?_);have s:=λh=>(HM B.led B.ord (won:=won) h).1;rw[<-hP]at w1 w2 w3 w4 w5 s|-;obtain⟨e,r,T⟩:=P;obtain⟨r1,r2,r3,r4,r5,R,y⟩:=r
  dsimp only at w1 w2 w3 w4 w5 s f|-
  subst w5;refine au ?_;refine Gs.Ib (λt=>?_) λt=>?_
  ·rw[ae (by simpa using t)]at f;rw[f]at hK;refine au ?_;refine Gs.tw ?_;refine au ?_;refine Gs.tdn ?_;have:=hK (none,0) g u D' (by dsimp only;rw[w2];exact w1) ⟨aJ _,by dsimp only;omega,by dsimp only;omega⟩
   dsimp only[List.length_nil]at this
   exact this.fin
  obtain rfl:e=0:=by simpa using t
  rw[aa (by simp)]at f;have s:=s rfl;have Z:T.led.held.length<4294967295:=by have:=sw (by rw[s.cal];exact o.cal) s.led;omega
  refine au ?_;refine yn (λgv2=>?_);refine Gg.rf (L:=sB (ej g R.length) R::Ns d::tS mw won::pt p8 [.map (some mw)] 309::L) (λ_ _ _ _=>rfl) (Rq nQ.ac) (I:=λi (b:Int×bE) M=>Um p4 b.1::pt q (BF r1 r2 r3 r4 (.slice none 0 0) (ej g R.length) (ej u y.length)) qL::Xu p0 v::yT (ej u y.length) y::vs v c l mb md A D' {T with led:=b.2} M) (E:=λ(_:Unit) M=>M) (λ_ _ _=>rfl) (λ_ _=>rfl) (λi b=>qf y (T.led.all.drop i) b.1 b.2=qf y T.led.all 0 T.led/\b.2.held=T.led.held) (λ_ _=>False) (0,T.led) ⟨rfl,rfl⟩ ?_ ?_ (λ_ _ _ (h:False)=>h.elim) ?_
  ·rintro i hi ⟨e,X⟩ ⟨h1,F⟩ l1 r1' q1 M kn kj p -
   dsimp only at h1 F p|-
   rw[<-ce hi]at h1;have hal:=s.led.led.acc _ (av hi);generalize T.led.all[i]=a at h1 hal|-;rw[IA]at h1;unfold db;refine au ?_;intro pb;refine au ?_;refine RU (X:=X) (by rw[F];exact Z) (λgv3=>?_);refine Gg.r0 (L:=M) (λ_ _ _ _=>rfl) (I:=λi (h:Bool) M=>pt pb [.bool h] 4::pt q1 [.int .u32 a.num,gI a.cash,.bool a.kil,.bool a.dfl] 100::Um p4 e::pt q (BF r1 r2 r3 r4 (.slice none 0 0) (ej g R.length) (ej u y.length)) qL::Xu p0 v::yT (ej u y.length) y::vs v c l mb md A D' {T with led:=X} M) (λ_ _ _=>rfl) (λi h=>h=decide (0<i)) false rfl ?_ ?_ (by repeat first|(with_reducible exact dV.refl)|((apply nL);(·repeat first|(with_reducible exact eg)|(with_reducible apply ee))))
   ·rintro j hj h - l2 M2 kn2 kj2 hkn2;refine au ?_;exact(hkn2 true (aQ (lB j)).symm).fin
   ·rintro h rfl;rw[show(decide (0<(X.ofA a.num).length))= !(X.ofA a.num).isEmpty by cases X.ofA a.num<;>rfl];refine Gs.ak ?_;refine Gs.j1 (.bool (decide (a.dfl=true/\(X.ofA a.num).isEmpty=true/\y.contains a.num=false)),()) (λJ hJ=>?_) ?_
    ·refine au ?_;refine Gs.Ib (λhd=>?_) λhd=>?_
     ·refine au ?_;refine Gs.Ib (λhh=>?_) λhh=>?_
      ·refine au ?_;refine FI (l:=y) qZ ?_;refine au ?_;simpa [hd,hh]using hJ
      ·simpa [hd,hh]using hJ
     ·simpa [hd]using hJ
    refine Gs.z (Gs.I (λhc=>?_) λhc=>?_)
    ·rw[ae hc]at h1;refine au ?_;refine Dt (a:={a with dfl:=false}) ⟨by show 0<=a.num;omega,hal.2.1⟩ ?_;have hs:(X.set {a with dfl:=false}).2.held=T.led.held:=by rw[oz];exact F
     generalize X.set {a with dfl:=false}=Y at h1 hs|-;refine au ?_;exact(p (Y.1,Y.2) _ ⟨h1,hs⟩).fin
    ·rw[aa hc]at h1;exact(p (e,X) _ ⟨h1,F⟩).fin
  ·rintro⟨e,X⟩ d2 ⟨h1,F⟩
   dsimp only at h1|-
   rw[gi]at h1;rw[<-h1]at f
   dsimp only[qf]at f
   rw[f]at hK;refine Gs.ak (au ?_);refine Gs.twc ?_;refine Gs.tw ?_;refine au ?_;refine Gs.tdn ?_;have:=hK (none,0) g u D' (by dsimp only;rw[w2];exact w1) ⟨aJ _,by dsimp only;omega,by dsimp only;omega⟩
   dsimp only[List.length_nil]at this
   exact this.fin
  ·show dV _ (Um p4 0::pt q (BF r1 r2 r3 r4 (.slice none 0 0) (ej g R.length) (ej u y.length)) qL::Xu p0 v::yT (ej u y.length) y::vs v c l mb md A D' T (sB (ej g R.length) R::Ns d::tS mw won::pt p8 [.map (some mw)] 309::L));exact(by repeat first|(with_reducible exact dV.refl)|((apply nL);(·repeat first|(with_reducible exact eg)|(with_reducible apply ee))))
 ·rintro cd _ d ⟨rfl,t⟩;rw[ae t]at f;refine Gs.akr ?_;refine Gs.tw ?_;refine au ?_;exact hK.fail f (D:=D) G
end
end Go.Proofs
set_option maxRecDepth 100000
set_option maxHeartbeats 1000000
namespace Go.Proofs
open Go Go.Vc
attribute [local congr] aZ
def Eb{C:oe}(h:C.Ok)(n:Int):(fq C n).2.Ok:=by
 unfold fq;split
 ·exact h
 ·obtain⟨h1,g,i⟩:=pv (l:=C.l) (n:=n) (f:=λk=>{k with st:=3}) (λk e _=>⟨by
   obtain⟨a,b,c,d⟩:=h.ok k e;exact⟨⟨a.1,⟨by grind,by grind⟩,a.2.2⟩,b,c,by grind,by grind⟩,rfl⟩) h.ok h.srt
  exact⟨by show(ic _ _ _).length<=16;rw[i];exact h.len,h.day,h1,g⟩
def BR{C:oe}(n m:Int):(cg (fq C n).2.l m).isSome=(cg C.l m).isSome:=by
 unfold fq;split
 ·rfl
 ·show(cg (ic C.l n λk=>{k with st:=3}) m).isSome=_;rw[pL (f:=λk=>{k with st:=3}) λ_ _=>rfl,mj]
def uI:∀(l:List Sd) (r:Rp) (S:bo),(mR l r S).2.2.cal=S.cal/\∀m,((mR l r S).2.2.bd m).length<=(S.bd m).length
 | [],r,S=>⟨rfl,λ_=>az _⟩
 |s::l,r,S=>by
  have h1:(if s.dfl then(S.clear s.acct 0).2 else S).cal=S.cal/\∀m,((if s.dfl then(S.clear s.acct 0).2 else S).bd m).length<=(S.bd m).length:=by
   split
   ·exact⟨rA _ _ _,λm=>Cj _ _ _ m⟩
   ·grind
  obtain⟨b,a⟩:=df (if s.dfl then(S.clear s.acct 0).2 else S:bo);rw[<-a]at h1;unfold mR;simp only;rw[<-a];split
  ·exact h1
  ·exact⟨(uI l _ _).1.trans h1.1,λm=>ci ((uI l _ _).2 m) (h1.2 m)⟩
def QG(S:bo)(won:Int->Int):(S.pay won).2.2.cal=S.cal/\∀m,((S.pay won).2.2.bd m).length<=(S.bd m).length:=by
 unfold bo.pay;simp only;split
 ·grind
 ·split
  ·exact uI _ _ _
  ·exact uI (gR S.led.fund (S.dues won)).1 jw S
def TP(S:bo)(won:Int->Int)(m:Int):((S.pay won).2.2.bd m).length<=(S.bd m).length:=(QG S won).2 m
end Go.Proofs
