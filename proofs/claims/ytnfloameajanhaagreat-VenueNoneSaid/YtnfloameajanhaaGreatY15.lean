/- Part of a proof. -/
import Derived.Test.YtnfloameajanhaaGreatY14
set_option linter.all false
namespace Go.Proofs
open Go Go.Vc
attribute [local congr] cR
variable {L:Led}{v p:Nat}{S:Ven}{s:Vt_}{w W:Wt_}{K:cG}{C:sE}
def aD7{L:List Sd}(h:Rd w 4 s L.length (L.flatMap zp)){i:Nat}(hi:i<L.length):
  ∃p,(iX 260 s (gI (i:Int))).run pQ w=.ok p w/\(iL 264 p).run pQ w=.ok (SG L[i]) w:=by
 obtain⟨b,d,k,c,g,l⟩:=h.item rf hi rfl;obtain⟨C,e,fz,hC,a⟩:=l.get;have g0:=a 0 (gU L[i].acct) rfl;have g1:=a 1 (gI L[i].cash) rfl;have f:=a 2 (.bool L[i].dfl) rfl;have j:=a 3 (gI L[i].cut) rfl;simp only[jU,dS]at g0 g1 f j;exact⟨.pointer (some ⟨b,d+i*4,none⟩),by rw[c];simp[go_sem,hi,cS],by simp[go_sem,fy hC,g0,g1,f,j,zp,SG]⟩
def Zt(d:Sd)(w:Wt_):∃b a,(iA 264 true (.tuple #[])).run pQ w=.ok (pt w.heap.size 0) b/\(iS 264 (pt w.heap.size 0) (SG d)).run pQ b=.ok () a/\hC a w.heap.size (zp d).toArray 264/\M0 w a:=by
 refine⟨w.alloc (.cells #[.int .u32 0,gI 0,.bool false,gI 0] 264),_,by simp[go_sem],by simp[go_sem,SG,zp];rfl,by simp[go_sem,zp],(de.refl _ w).alloc _⟩
def LZ(h:S.led.Ok)(a:Int):0<=(S.acc a).num/\(S.acc a).num<4294967296:=by
 unfold Ven.acc Led.getO;by_cases b:a=0
 ·rw[bZ b];exact⟨by show(0:Int)<=0;omega,by show(0:Int)<_;omega⟩
 ·rw[aZ b];cases c:S.led.find a with
  |none=>exact⟨by grind,by grind⟩
  |some x=>
   have:=h.acc x (fl c);exact⟨by grind,this.2.1⟩
def Qw(a:Int)(x:List Int×Ven)(n m:Int):((clr1 a x n).2.bd m).length<=(x.2.bd m).length:=by
 show(upd x.2.bd n _ m).length<=_;by_cases h:m=n
 ·subst h;rw[upd_self];exact dm _ _
 ·rw[upd_ne _ _ _ h];exact cJ _
def Ei(S:Ven)(a k:Int)(m:Int):((S.clear a k).2.bd m).length<=(S.bd m).length:=by
 have:∀(b:List Int) (x:List Int×Ven),((b.foldl (clr1 a) x).2.bd m).length<=(x.2.bd m).length:=by
  intro b;induction b with
  |nil=>intro x;exact cJ _
  |cons n b c=>intro x;exact dD (c _) (Qw a x n m)
 exact this _ _
def LJ{c l mb md mw:Nat}{A:List (Int×Nat)}{D:List (Int×Value)}{fp:Pt->Nat->Prop}{won:Int->Int}(h:ik w v c l mb md A D fp S)(hcal:S.cal.Ok)(hbl:∀n,(S.bd n).length<=50)
  (hw:vJ w mw won)(hw64:∀n,jl (won n))
  (hK:∀D' z J Y w',ik w' v c l mb md A D' z (S.pay won).2.2->vG w' dv J Y (S.pay won).2.1->de (dY fp) w w' ->(∀y,dY z y->dY fp y\/w.heap.size<=y)->(∀y,cK J y\/cK Y y->w.heap.size<=y/\¬dY z y)->
   (S.pay won).2.1.gone.length<=256000->(S.pay won).2.1.accts.length<=64->K (.tuple #[ud (S.pay won).2.1 dv J Y,gI (S.pay won).1]) w'):
  Ca pQ 131 #[eY v,.map (some mw)] w K:=by
 apply Z2;obtain⟨n0,hn0⟩:=dW w.heap.size
 have hlay:∃w1,w.alloc (.cells #[.map (some mw)] 217)=w1/\w1.heap.size=n0+1/\M0 w w1/\hC w1 n0 #[.map (some mw)] 217:=by
  refine⟨_,rfl,by simp[go_sem,hn0],(de.refl _ w).alloc _,?_⟩;simp[go_sem,hn0]
 obtain⟨w1,hw1,hsz1,m1,b1⟩:=hlay;apply cx (pt n0 0) w1 (by rw[<-hw1,hn0];simp[go_sem]);clear hw1;obtain⟨w2,e2,b2,m2⟩:=qy w1;apply cI e2;obtain⟨q,hq⟩:=dW (n0+1);rw[hsz1,<-hq]at b2|-;have hsz2:q<w2.heap.size:=cB b2;obtain⟨p4,hp4⟩:∃p,p=w2.heap.size:=⟨_,rfl⟩
 have m3:M0 w2 (w2.alloc (.cells #[dv] 257)):=lm;have b3:hC (w2.alloc (.cells #[dv] 257)) p4 #[dv] 257:=by rw[hp4];simp[go_sem]
 apply cx (pt p4 0) (w2.alloc (.cells #[dv] 257)) (by rw[hp4];simp[go_sem,dv]);generalize w2.alloc (.cells #[dv] 257)=w3 at m3 b3|-;have M3:=(m1.trans m2).trans m3;have h3:=h.md0 M3;simp only[eY,dr];refine cI (jk 1 qZ _) (cI (ld1 _ h3.blk) ?_);refine tU h3.led λgv w5 ht m5=>?_;have M5:=M3.trans m5;have h5:=h3.md0 m5;have g1:=m5.hpk (m3.hpk (m2.hpk b1 id) id) id;have g2:=m5.hpk (m3.hpk b2 id) id;have g3:=m5.hpk b3 id;have hw5:=hw.mod M5 id;have hfl:∀pt x,fp pt x->x<n0:=λpt x hx=>by rw[hn0];exact h.lt hx
 have haf:∀x,dY fp x->x<n0:=λx ⟨pt,hx⟩=>hfl pt x hx;have hmw:mw<n0:=by rw[hn0];obtain⟨L,h2,-⟩:=hw;exact h2.lt
 have E:S.led.Ok:=by obtain⟨-,hok⟩:=h.led;exact hok
 have hal64:=E.len;have hs5:p4<w5.heap.size:=cB g3;obtain⟨du,hdu⟩:=dW (λa=>⟨a.num,a.cash,won a.num⟩:Ac->Du);let I:(Nat->Prop)->Nat->World->Prop:=λX i W=>∃sl,hC W p4 #[sl] 257/\jo W 259 3 sl ((S.led.all.take i).map du).length (((S.led.all.take i).map du).flatMap IH)/\(∀y,X y↔y=p4\/cK sl y)/\∀y,cK sl y->p4<y
 delta Pn
 refine zj (X0:=λx=>x=p4) (T:=Gv) (fc:=dH) ht.m rS.ac I (λ_ _ _=>False) ?_ (λ_ _ _ _ _ h=>h.elim) (λx hx=>qZ) ⟨dv,g3,jo.nil _ _ _,λy=>⟨.inl,λg=>g.elim id λg=>by cases g⟩,λy g=>(by cases g)⟩ ?_ ?_ (λ_ _ _ _ _ h=>h.elim)
 ·rintro X i W W' H ⟨sl,i1,i2,i3,i4⟩ hm hX;exact⟨sl,hm.hpk i1 (hX _ ((i3 _).2 (.inl rfl))),i2.mod hm λy g=>hX y ((i3 y).2 (.inr g)),i3,i4⟩
 ·rintro X i hi W r ⟨sl,i1,i2,i3,i4⟩ mW hX hdq hqW zgq KN KJ hKN hKJ;obtain⟨a,ha⟩:=dW (S.led.all[i]);rw[<-ha]at zgq;unfold dH at zgq;obtain⟨sa,sc,hsl,-⟩:=i2.isSl;have f1:=mW.hpk g1 qZ;have hwW:=hw5.mod mW qZ;have htk:=eA hi;rw[<-ha]at htk;apply cx sl W (by rw[hsl]at i1|-;simp[go_sem,i1]);refine cx (pt r 0) W (by simp[go_sem]) (cx (gU a.num) W (by simp[go_sem,zgq]) ?_);refine cx (pt r 1) W (by simp[go_sem]) (cx (gI a.cash) W (by simp[go_sem,zgq]) ?_);refine qS1 f1 ?_;refine cx (pt r 0) W (by simp[go_sem]) (cx (gU a.num) W (by simp[go_sem,zgq]) ?_);apply iW (hwW.look a.num);apply cx (Y9 (du a)) W (by rw[hdu];simp[go_sem,Y9,IH]);have hl64:((S.led.all.take i).map du).length<=64:=by grind
  refine yM (x:=du a) (f:=IH) aj5 (eO eDu) LH (Th _) rfl i2 qZ qZ λs' W1 o1 mo n1=>?_;obtain⟨ta,tc,hs',-⟩:=o1.isSl;have hpW:=cB i1;have z1:=mo.hpk i1 λj=>by grind
  apply pH (W1.setCell ⟨p4,0,none⟩ s') (by rw[hs'];simp[go_sem,z1]);have mS:de (λy=>y=p4) W1 (W1.setCell ⟨p4,0,none⟩ s'):=(de.refl (λy=>y=p4) W1).sc;have bS:hC (W1.setCell ⟨p4,0,none⟩ s') p4 #[s'] 257:=by simp[go_sem,z1]
  generalize W1.setCell ⟨p4,0,none⟩ s' =W2 at mS bS|-;have hsW:=mo.size;have hs2W:=mS.size
  have hn4:∀y,cK s' y->p4<y:=λy g=>by
   rcases n1 y g with o|o
   ·exact i4 y o
   ·omega
  refine hKN (λy=>y=p4\/cK s' y) W2 ⟨s',bS,?_,λy=>fd,hn4⟩ ((mo.mono λy _ g=>(i3 y).2 (.inr g)).trans (mS.mono λy _ g=>(i3 y).2 (.inl g))) λy g=>?_
  ·rw[htk,dy];exact o1.mod mS λy g e=>by have:=hn4 y g;omega
  ·rcases g with rfl|g
   ·exact⟨.inl ((i3 _).2 (.inl rfl)),qZ⟩
   ·refine⟨(n1 y g).imp (λo=>(i3 y).2 (.inr o)) id,?_⟩;have:=o1.lt g;omega
 ·rintro X W d hd ⟨sl,i1,i2,i3,i4⟩ mW hdef hX;have i2' :jo W 259 3 sl ((S.led.all.take S.led.all.length).map du).length (((S.led.all.take S.led.all.length).map du).flatMap IH):=i2;have hdus:(S.led.all.take S.led.all.length).map du=S.dues won:=by rw[cN,hdu];rfl
  rw[hdus]at i2';clear i2;obtain⟨sa,sc,hsl,-⟩:=i2'.isSl;unfold R7;simp only[iJ];have h6:=h5.mod mW λpt y g e=>by grind
  have q6:=mW.hpk g2 qZ;have mW' :M0 w W:=M5.on mW λy g=>gz;simp only[dr];refine cI (jk 1 qZ _) (cI (ld1 _ h6.blk) ?_);refine ug h6.led λw7 m7=>?_;have hg0:S.led.getV 0=(⟨0,S.led.fund,false,false⟩,0):=rfl;rw[hg0];refine qS0 ?_;refine qS0 ?_;obtain⟨w8,w9,e8,e9,b9,m9⟩:=C0 ⟨0,S.led.fund,false,false⟩ w7;obtain⟨V,hra⟩:=dW w7.heap.size;refine cI e8 (ir e9 ?_);rw[<-hra]at b9|-;unfold dH at b9;have M79:=m7.trans m9;have z9:=M79.hpk i1 id;refine cx (pt V 1) w9 (by simp[go_sem]) (cx (gI S.led.fund) w9 (by simp[go_sem,b9]) ?_);apply cx sl w9 (by rw[hsl]at z9|-;simp[go_sem,z9]);have hdl:(S.dues won).length<=64:=by grind
  have hMF:MF=1000000000000000:=rfl;refine NL (l:=S.dues won) (fund:=S.led.fund) (i2'.mod M79 eQ).rd qZ (λx hx=>?_) (by have:=E.fund;constructor<;>omega) λs' t o10 m10 n10=>?_
  ·unfold Ven.dues at hx;obtain⟨a,ha,rfl⟩:=cF.1 hx;have:=E.acc a ha;exact⟨⟨by grind,this.2.1⟩,⟨by grind,by grind⟩,hw64 _⟩
  obtain⟨X0,hX0⟩:=dW (lP S.led.fund (S.dues won));rw[<-hX0]at o10|-;refine qS0 ?_;refine qS0 ?_;refine qS0 ?_;have M10:=(mW'.trans M79).trans m10;have h10:=(h6.md0 M79).md0 m10;have q10:=m10.hpk (M79.hpk q6 id) id;have d10:=m10.hpk (M79.hpk hdef id) id
  have M:S.pay won=if X0.2.2≠0 then(X0.2.2,zRp,S)else
    (if(payL X0.1 zRp S).1≠0 then payL X0.1 zRp S else(((payL X0.1 zRp S).2.2.led.set ⟨0,X0.2.1,false,false⟩).1,(payL X0.1 zRp S).2.1,{(payL X0.1 zRp S).2.2 with led:=((payL X0.1 zRp S).2.2.led.set ⟨0,X0.2.1,false,false⟩).2})):=by
   unfold Ven.pay;rw[<-hX0]
  have hdn:d<t.heap.size:=cB d10;have hdd:n0<d/\q≠d:=qZ
  have tell:∀(e:Int) (r:Rp) (T:Ven) (D' :List (Int×Value)) (z:Pt->Nat->Prop) (J Y:Vt_) (W:Wt_),S.pay won=(e,r,T)->ik W v c l mb md A D' z T->BN W q J Y r (n0+2) (dY z)->de (dY fp) w W->(∀y,dY z y->dY fp y\/d<y)->(∀y,cK J y\/cK Y y->d<y)->hp W d=some (.deferred (some []))->r.gone.length<=256000->r.accts.length<=64->
    ru pQ (iS lx (pt q 0) (ud r dv J Y)) W λw82=>lj ([d]++[]) w82 λw83=>uc pQ (iL lx (pt q 0)) w83 λv84=>K (.tuple #[v84,gI e]) w83:=by
   intro e r T D' z J Y W he a b m hup hds hdW hl1 hl2;obtain⟨t1,t2,t3⟩:=b.rp.isSl;obtain⟨w11,e11,b11,m11⟩:=pl (r:=r) b.at_ rfl ⟨t1,t2,t3⟩;apply ir e11
   have hqn:∀y,dY z y->y≠q:=λy g=>by
    rcases hup y g with o|o
    ·have:=haf y o;omega
    ·omega
   refine Bz (m11.hpk hdW qZ) λw12 m12=>?_;apply dp (lB (m12.hpk b11 qZ));have hk:=hK D' z J Y w12;rw[he]at hk;refine hk ((a.mod m11 λpt y g e=>hqn y ⟨pt,g⟩ e).mod m12 λpt y g e=>?_) ((b.rp.mod m11 λy g e=>?_).mod m12 λy g e=>?_) ((m.on m11 λy g=>gz).on m12 λy g=>gz) (λy g=>(hup y g).imp id λo=>qZ) (λy g=>⟨by grind,(b.nw y g).2.2⟩) hl1 hl2
   ·rcases hup y ⟨pt,g⟩with o|o
    ·have:=haf y o;omega
    ·omega
   ·rcases g with g|g
    ·cases g
    ·exact(b.nw y g).2.1 e
   ·rcases g with g|g
    ·cases g
    ·have:=hds y g;omega
  have rp0' :BN t q dv dv zRp (n0+2) (dY fp):=⟨q10,vG.nil _ 0,λy g=>by rcases g with g|g<;>cases g⟩
  by_cases hXe:X0.2.2≠0
  ·rw[bZ hXe]at M;refine qSt1 hXe ?_;apply cI (lB q10);exact tell X0.2.2 zRp S D fp dv dv t M h10 rp0' (M10.to) (λy g=>.inl g) (λy g=>by rcases g with g|g<;>cases g) d10 (by show 0<=_;omega) (by show 0<=_;omega)
  rw[aZ hXe]at M;have hX0e:X0.2.2=0:=by simpa using hXe
  refine qSf1 hX0e ?_;obtain⟨out,hout⟩:=dW X0.1;rw[<-hout]at o10 M;have hso:=setl_ok (hX0▸hX0e:(lP S.led.fund (S.dues won)).2.2=0);rw[<-hX0,<-hout]at hso
  have hol:out.length<=64:=by
   have:=fC List.length hso.acct;rw[cz,cz]at this;omega
  have hoa:∀s∈out,pL s.acct:=λs hs=>by
   have h1:s.acct∈(S.dues won).map (·.acct):=by rw[<-hso.acct];exact dn hs
   unfold Ven.dues at h1;rw[dQ]at h1;obtain⟨a,ha,he⟩:=cF.1 h1;have:=E.acc a ha;rw[<-he];exact⟨by grind,this.2.1⟩
  obtain⟨oa,oc,hos,-⟩:=o10.isSl;have hnew:∀y,cK s' y->d<y/\y<t.heap.size:=λy g=>⟨by have:=n10 y g;have:=M79.hpk hdef id;have:=cB this;omega,o10.lt g⟩
  apply jm (gI (out.length:Int)) t (by rw[hos];simp[go_sem]);rw[hX0e]
  refine eS (λst W=>∃(i:Nat) (r:Rp) (T:Ven) (D' :List (Int×Value)) (z:Pt->Nat->Prop) (J Y:Vt_),i<=out.length/\st=(gI 0,gI i,())/\payL (out.drop i) r T=payL out zRp S/\ik W v c l mb md A D' z T/\BN W q J Y r (n0+2) (dY z)/\de (λy=>dY fp y\/y=q) t W/\
    (∀y,dY z y->dY fp y\/t.heap.size<=y)/\(∀y,cK J y\/cK Y y->t.heap.size<=y)/\T.cal=S.cal/\(∀n,(T.bd n).length<=50)/\r.gone.length<=4000*i/\r.accts.length<=i)
   (λst _=>match st.2.1 with| .int _ i=>out.length - i.toNat|_=>0) ⟨0,zRp,S,D,fp,dv,dv,qZ,rfl,rfl,h10,rp0',lX,λy g=>.inl g,λy g=>(by rcases g with g|g<;>cases g),rfl,hbl,by show 0<=_;omega,by show 0<=_;omega⟩ ?_
  rintro _ W1 ⟨i,r,T,D',z,J,Y,hi,rfl,j1,j2,j3,j4,j5,j6,j7,j8,j9,j10⟩ KM hKM;unfold I9;intro _;have hsW1:=j4.size
  have Q:∀y,dY z y->y≠q/\y≠d:=λy g=>by
   rcases j5 y g with o|o
   ·have:=haf y o;omega
   ·omega
  have hkeep:∀{y},n0<=y->y≠q->¬(dY fp y\/y=q):=λh1 h2 j=>by
   rcases j with j|j
   ·have:=haf _ j;omega
   ·exact h2 j
  have d1:=j4.hpk d10 (hkeep qZ qZ);have so1:=o10.mod j4 λy g=>hkeep (by grind) (by grind);by_cases hlt:i<out.length
  ·have hlt' :(i:Int)<(out.length:Int):=qZ;apply cx (.bool true) W1 (by simp[go_sem];omega);rw[kx];obtain⟨s,hs⟩:=dW (out[i]);have hdrop:out.drop i=s::out.drop (i+1):=by rw[hs];exact fF hlt
   rw[hdrop]at j1;obtain⟨pi,f1,f2⟩:=aD7 so1.rd hlt;rw[<-hs]at f2;refine cI f1 (cI f2 ?_);obtain⟨wa,wb,ea,eb,bb,mb'⟩:=Zt s W1;refine cI ea (ir eb ?_);obtain⟨qs,hqs⟩:=dW W1.heap.size;rw[<-hqs]at bb|-;unfold zp at bb;have k2:=j2.md0 mb';have hqsb:=cB bb;refine dK.at (λst W=>∃V,st=(.pointer (some ⟨V,0,none⟩),())/\hC W V (dH (T.acc s.acct)).toArray Gv/\qs<V/\M0 wb W) ?_ ?_
   ·have k:M0 wb wb.drew:=mP;have h4:=k2.md0 k;have c4:=k.hpk bb id;have hsd:=k.size
    try dsimp only
    generalize wb.drew=u at k h4 c4 hsd|-;have lds:∀{W},hC W qs #[.int .u32 s.acct,gI s.cash,.bool s.dfl,gI s.cut] 264->(iL 23 (pt qs 0)).run pQ W=.ok (gU s.acct) W:=λhW=>by simp[go_sem,hW]
    refine dw (jk 1 qZ) (dp (ld1 _ h4.blk) ?_);refine qPv0 (pt qs 0) (dp (lds c4) ?_);refine⟨?_,?_⟩
    ·refine ug h4.led λu2 mu2=>?_;rw[oV];refine qP0 ?_;refine qP0 ?_;obtain⟨u3,u4,x1,x2,x3,x4⟩:=C0 (T.acc s.acct) u2;refine cI x1 (ir x2 ?_);exact⟨_,rfl,x3,by have:=mu2.size;omega,(k.trans mu2).trans x4⟩
    ·obtain⟨u2,x1,x2,mu2⟩:=zi u;apply cI x1;have h5' :=h4.md0 mu2;refine⟨lds (mu2.hpk c4 id),ld1 _ h5'.blk,?_⟩;refine ug h5'.led λu3 mu3=>?_;rw[oV];refine qP0 ?_;refine qP0 ?_;obtain⟨u4,y1,y2,y3⟩:=zR (T.acc s.acct) (mu3.hpk x2 id);apply ir y1;exact⟨_,rfl,y2,qZ,((k.trans mu2).trans mu3).on y3 λb hb=>gz⟩
   rintro _ W2 ⟨V,rfl,z1,z2,z3⟩;unfold RH;intro _;have bs:=z3.hpk bb id;refine cx (pt qs 1) W2 (by simp[go_sem]) (cx (gI s.cash) W2 (by simp[go_sem,bs]) ?_);refine qS0 ?_;obtain⟨W3,e3,r3,m3'⟩:=YX s.cash z1;apply ir e3;have M13:M0 W1 W3:=(mb'.trans z3).on m3' λy g=>gz;have k23:=j2.md0 M13;have k33:=j3.mod M13 id eQ;have bs3:=m3'.hpk bs qZ;obtain⟨ac,hac⟩:=dW ({T.acc s.acct with cash:=s.cash,dfl:=(T.acc s.acct).dfl||s.dfl}:Ac);obtain⟨T1,hT1⟩:=dW (if s.dfl then(T.clear s.acct 0).2 else T:Ven);obtain⟨r1,hr1⟩:=dW (if s.dfl then{r with accts:=r.accts++[s.acct],gone:=r.gone++(T.clear s.acct 0).1}else r:Rp)
   have hpl:payL (s::out.drop (i+1)) r T=if(T1.led.set ac).1≠0 then((T1.led.set ac).1,r1,{T1 with led:=(T1.led.set ac).2})else payL (out.drop (i+1)) r1 {T1 with led:=(T1.led.set ac).2}:=by
    rw[hac,hT1,hr1];rfl
   rw[hpl]at j1;have hacn:ac.num=(T.acc s.acct).num:=by rw[hac]
   have hTl:T1.led=T.led:=by
    rw[hT1];split
    ·exact clear_led _ _
    ·rfl
   have hTc:T1.cal=S.cal:=by
    rw[hT1];split
    ·rw[rE];exact j7
    ·exact j7
   have hraW3:V<W3.heap.size:=cB r3
   refine dK.at (λst W=>∃(D'' :List (Int×Value)) (N:Pt->Nat->Prop) (sG' O:Vt_),st=()/\ik W v c l mb md A D'' N T1/\BN W q sG' O r1 (n0+2) (dY N)/\hC W V (dH ac).toArray Gv/\de (λy=>dY fp y\/y=q) t W/\
    (∀y,dY N y->(dY fp y\/t.heap.size<=y)/\y≠V)/\(∀y,cK sG' y\/cK O y->t.heap.size<=y/\y≠V)/\(∀n,(T1.bd n).length<=50)/\r1.gone.length<=4000*(i+1)/\r1.accts.length<=i+1/\hp W d=some (.deferred (some []))) ?_ ?_
   ·refine cx (pt qs 2) W3 (by simp[go_sem]) (cx (.bool s.dfl) W3 (by simp[go_sem,bs3]) ?_);have raFp:∀y,dY z y->y≠V:=λy ⟨pt,g⟩=>by have:=j2.lt g;omega
    have R:∀y,cK J y\/cK Y y->y≠V:=λy g=>by
     rcases g with g|g
     ·have:=j3.rp.go.lt g;omega
     ·have:=j3.rp.ac.lt g;omega
    have j43:de (λy=>dY fp y\/y=q) t W3:=j4.trans (M13.to);cases hdf:s.dfl with
    |false=>
     rw[gP];have e1:T1=T:=by rw[hT1,hdf];rfl
     have e2:r1=r:=by rw[hr1,hdf];rfl
     have e3:ac={T.acc s.acct with cash:=s.cash}:=by grind
     rw[e1,e2,e3];exact⟨D',z,J,Y,rfl,k23,k33,r3,j43,λy g=>⟨j5 y g,raFp y g⟩,λy g=>⟨j6 y g,R y g⟩,j8,qZ,qZ,M13.hpk d1 id⟩
    |true=>
     rw[kx];have e1:T1=(T.clear s.acct 0).2:=by rw[hT1,hdf];rfl
     have e2:r1={r with accts:=r.accts++[s.acct],gone:=r.gone++(T.clear s.acct 0).1}:=by rw[hr1,hdf];rfl
     have e3' :ac={{T.acc s.acct with cash:=s.cash}with dfl:=true}:=by grind
     refine qS0 ?_;obtain⟨W4,e4,r4,m4'⟩:=VW true r3;rw[<-e3']at r4;apply ir e4;have M34:de (λy=>y=V) W3 W4:=m4';have k24:=k23.mod m4' λpt y g e=>raFp y ⟨pt,g⟩ e;have hqW3:=cB k33.at_;have hqW1:=cB j3.at_;have B:=k33.mod m4' qZ λy g=>R y g;have bs4:=m4'.hpk bs3 qZ;have d4:=m4'.hpk (M13.hpk d1 id) (by grind);obtain⟨u1,u2,u3⟩:=B.rp.isSl;have hs4:=m4'.size;have j44:de (λy=>dY fp y\/y=q) t W4:=j43.on m4' λy g=>gz;refine qS0 ?_;apply cI (WU B.at_ u3);refine cx (pt qs 0) W4 (by simp[go_sem]) (cx (gU s.acct) W4 (by simp[go_sem,bs4]) ?_);refine yM (x:=s.acct) (f:=BH) De (eO ac6) (λ_=>rfl) rfl rfl B.rp.ac qZ qZ λO W5 o5 m5' n5=>?_;have hs5' :=m5'.size;have dG:∀y,cK J y->¬cK Y y:=B.rp.d3;have k25:=k24.mod m5' λpt y g j=>(B.nw y (.inr j)).2.2 ⟨pt,g⟩;have at5:=m5'.hpk B.at_ λj=>(B.nw q (.inr j)).2.1 rfl;have g5' :vO W5 J r.gone:=B.rp.go.mod m5' λy g j=>dG y g j;have ra5:=m5'.hpk r4 λj=>R V (.inr j) rfl;have hAlo:∀y,cK Y y->t.heap.size<=y:=λy g=>j6 y (.inr g);have qs10:t.heap.size<=qs:=qZ;have qsA:¬cK Y qs:=λj=>by have:=j3.rp.ac.lt j;omega
     have bs5:=m5'.hpk bs4 qsA;have d5:=m5'.hpk d4 λj=>by grind
     refine qS0 ?_;obtain⟨oa',oc',hsA',-⟩:=o5.isSl;obtain⟨W6,e6,at6,Z⟩:=Yd (L:=r.accts++[s.acct]) at5 ⟨_,_,_,hsA'⟩ u3;apply ir e6
     have C:∀y,cK O y->y≠q/\t.heap.size<=y/\y≠V/\y<W5.heap.size/\¬cK J y/\¬dY z y:=λy g=>by
      have hlt5:=o5.lt g;rcases n5 y g with o|o
      ·exact⟨(B.nw y (.inr o)).2.1,hAlo y o,R y (.inr o),hlt5,λj=>dG y j o,(B.nw y (.inr o)).2.2⟩
      ·refine⟨qZ,qZ,qZ,hlt5,λj=>?_,λ⟨pt,j⟩=>?_⟩
       ·have:=j3.rp.go.lt j;omega
       ·have:=j2.lt j;omega
     have k26:=k25.mod Z λpt y g e=>(Q y ⟨pt,g⟩).1 e;have g6:vO W6 J r.gone:=g5'.mod Z λy g e=>(B.nw y (.inl g)).2.1 e;have a6:jo W6 23 1 O (r.accts++[s.acct]).length ((r.accts++[s.acct]).flatMap BH):=o5.mod Z λy g e=>(C y g).1 e;have ra6:=Z.hpk ra5 qZ;have bs6:=Z.hpk bs5 qZ;have d6:=Z.hpk d5 qZ;have hs6:=Z.size;have k:M0 W6 W6.drew:=mP;have k27:=k26.md0 k;have g7:vO W6.drew J r.gone:=g6.mod k eQ;have a7:=a6.mod k eQ;have at7:=k.hpk at6 id;have ra7:=k.hpk ra6 id;have bs7:=k.hpk bs6 id;have d7:=k.hpk d6 id;have hs7:W6.drew.heap.size=W6.heap.size:=rfl;have j47:de (λy=>dY fp y\/y=q) t W6.drew:=(((j44.on m5' λy g=>.inr (hAlo y g)).on Z λy g=>.inl (.inr g))).trans (k.to)
     try dsimp only
     generalize W6.drew=W7 at k k27 g7 a7 at7 ra7 bs7 d7 hs7 j47|-;refine qPv0 (pt q 5) (dp (Lp at7 u2) ?_);refine qPv0 (pt qs 0) (qWv1 (gU s.acct) bs7 ?_);refine Ax k27 (by rw[j7];exact hcal) j8 λsi D8 fp8 W8 v8 i8 m8 n8 s8 l8=>?_;have hqf:¬dY z q:=λj=>(Q q j).1 rfl;have at8:=m8.hpk at7 hqf;refine⟨Lp at8 u2,?_⟩;have g8:vO W8 J r.gone:=g7.mod m8 λy g j=>(B.nw y (.inl g)).2.2 j;have hs8:=m8.size;refine X6 g8 i8 qZ λsG' W9 o9 m9 n9=>?_;refine qP0 ?_;obtain⟨pa,pc,hsG',-⟩:=o9.isSl;have hs9:=m9.size;have hGlt:∀y,cK J y->y<W1.heap.size:=λy g=>j3.rp.go.lt g
     have hf8:∀y,dY fp8 y->¬cK J y:=λy g j=>by
      rcases n8 y g with o|o
      ·exact(B.nw y (.inl j)).2.2 o
      ·have:=hGlt y j;omega
     have v9:=v8.mod m9 λpt y g j=>hf8 y ⟨pt,g⟩ j;have at9:=m9.hpk at8 λj=>(B.nw q (.inl j)).2.1 rfl;have a9:jo W9 23 1 O (r.accts++[s.acct]).length ((r.accts++[s.acct]).flatMap BH):=(a7.mod m8 λy g j=>(C y g).2.2.2.2.2 j).mod m9 λy g j=>(C y g).2.2.2.2.1 j;have ra9:=m9.hpk (m8.hpk ra7 λj=>raFp V j rfl) λj=>R V (.inl j) rfl;have d9:=m9.hpk (m8.hpk d7 λj=>(Q d j).2 rfl) λj=>by have:=j6 d (.inl j);omega
     obtain⟨W10,e10,at10,U⟩:=E7 (L:=r.gone++(T.clear s.acct 0).1) at9 ⟨_,_,_,hsG'⟩ u2;apply ir e10
     have hf8b:∀y,dY fp8 y->(dY fp y\/t.heap.size<=y)/\y≠V/\y≠q:=λy g=>by
      rcases n8 y g with o|o
      ·exact⟨j5 y o,raFp y o,(Q y o).1⟩
      ·exact⟨gz,qZ,qZ⟩
     have hG'b:∀y,cK sG' y->t.heap.size<=y/\y≠V/\y≠q/\¬dY fp8 y/\¬cK O y:=λy g=>by
      rcases n9 y g with o|o
      ·exact⟨j6 y (.inl o),R y (.inl o),(B.nw y (.inl o)).2.1,λj=>hf8 y j o,λj=>(C y j).2.2.2.2.1 o⟩
      ·refine⟨qZ,qZ,qZ,λ⟨pt,j⟩=>?_,λj=>?_⟩
       ·have:=v8.lt j;omega
       ·have:=(C y j).2.2.2.1;omega
     rw[e1,e2];refine⟨D8,fp8,sG',O,rfl,v9.mod U λpt y g e=>(hf8b y ⟨pt,g⟩).2.2 e,⟨at10,⟨?_,?_,?_,?_,?_,?_⟩,λy g=>?_⟩,U.hpk ra9 qZ,?_,λy g=>⟨(hf8b y g).1,(hf8b y g).2.1⟩,λy g=>?_,λn=>?_,?_,?_,U.hpk d9 qZ⟩
     ·exact(B.rp.tr.mod (F:=λ_=>False) lX eQ).keep λb hb=>(by cases hb)
     ·exact o9.mod U λy g e=>(hG'b y g).2.2.1 e
     ·exact a9.mod U λy g e=>(C y g).1 e
     ·intro y g;cases g
     ·intro y g;cases g
     ·exact λy g=>(hG'b y g).2.2.2.2
     ·rcases g with g|g
      ·have:=hG'b y g;exact⟨qZ,this.2.2.1,this.2.2.2.1⟩
      ·have:=C y g;refine⟨qZ,this.1,λj=>?_⟩;rcases n8 y j with o|o
       ·exact this.2.2.2.2.2 o
       ·omega
     ·refine((j47.on m8 λy g=>?_).on m9 λy g=>.inr (j6 y (.inl g))).on U λy g=>.inl (.inr g);rcases j5 y g with o|o
      ·exact .inl (.inl o)
      ·exact .inr o
     ·rcases g with g|g
      ·have:=hG'b y g;exact⟨this.1,this.2.1⟩
      ·have:=C y g;exact⟨this.2.1,this.2.2.1⟩
     ·exact dD (Ei T s.acct 0 n) (j8 n)
     ·show(r.gone++(T.clear s.acct 0).1).length<=_;rw[cD];omega
     ·show(r.accts++[s.acct]).length<=_;rw[cD];show _+1<=_;omega
   rintro _ W4 ⟨D'',N,sG',O,rfl,y1,y2,y3,y4,y5,y6,y7,y8,y9,y10⟩;unfold RW;intro _;have k:M0 W4 W4.drew:=mP;have h9:=y1.md0 k;have q9:=y2.mod k id eQ;have ra9:=k.hpk y3 id;have d9:=k.hpk y10 id;have y49:de (λy=>dY fp y\/y=q) t W4.drew:=y4.trans (k.to)
   try dsimp only
   generalize W4.drew=W5 at k h9 q9 ra9 d9 y49|-;simp only[dr];refine dw (jk 1 qZ) (dp (ld1 _ h9.blk) ?_);apply dp (O6 ra9);refine FL h9.led (by rw[hacn];exact LZ (by obtain⟨-,hok⟩:=j2.led;exact hok) _) λW6 q6' Z=>?_;have h10' :=h9.setLed Z q6'
   have hy5:∀y,dY N y->y≠q/\y≠d:=λy g=>by
    rcases(y5 y g).1 with o|o
    ·have:=haf y o;omega
    ·omega
   have P:=q9.mod Z (λj=>(hy5 q ⟨_,j⟩).1 rfl) λy g j=>(q9.nw y g).2.2 ⟨_,j⟩;have d10' :=Z.hpk d9 λj=>(hy5 d ⟨_,j⟩).2 rfl
   have y410:de (λy=>dY fp y\/y=q) t W6:=y49.on Z λy g=>by
    rcases(y5 y ⟨_,g⟩).1 with o|o
    ·exact .inl (.inl o)
    ·exact .inr o
   obtain⟨u1,u2,u3⟩:=P.rp.isSl;by_cases he:(T1.led.set ac).1≠0
   ·rw[bZ he]at j1;refine qSt1 he ?_;apply cI (lB P.at_)
    have hpe:S.pay won=((T1.led.set ac).1,r1,{T1 with led:=(T1.led.set ac).2}):=by
     rw[M,<-j1,bZ he]
    exact tell _ r1 _ D'' N sG' O W6 hpe h10' P ((M10.to (G:=dY fp)).on y410 λy g=>g.imp id λo=>qZ) (λy g=>(y5 y g).1.imp id λo=>qZ) (λy g=>by grind) d10' qZ qZ
   ·rw[aZ he]at j1;have he0:(T1.led.set ac).1=0:=by simpa using he
    refine qS1 he0 ?_;rw[cy,aZ gL,he0];apply cx (gI ((i+1:Nat):Int)) W6 (by simp[go_sem];rw[wI_]);exact hKM _ _ ⟨i+1,r1,_,D'',N,sG',O,qZ,rfl,j1,h10',P,y410,λy g=>(y5 y g).1,λy g=>(y6 y g).1,hTc,y7,y8,y9⟩ (by grind)
  ·obtain rfl:i=out.length:=qZ;refine qSf0 ?_;rw[lv]at j1;have j1' :payL out zRp S=(0,r,T):=j1.symm;rw[j1',aZ (by simp)]at M;have k:M0 W1 W1.drew:=mP;have h9:=j2.md0 k;have q9:=j3.mod k id eQ;have d9:=k.hpk d1 id;have y49:de (λy=>dY fp y\/y=q) t W1.drew:=j4.trans (k.to)
   try dsimp only
   generalize W1.drew=W5 at k h9 q9 d9 y49|-;apply dp (lB q9.at_);simp only[dr];refine dw (jk 1 qZ) (dp (ld1 _ h9.blk) ?_);apply dX (oz ⟨0,X0.2.1,false,false⟩) (λ_=>by simp[go_sem,oz]);refine FL h9.led (by grind) λW6 q6' Z=>?_;have h10' :=h9.setLed Z q6';have P:=q9.mod Z (λj=>(Q q ⟨_,j⟩).1 rfl) λy g j=>(q9.nw y g).2.2 ⟨_,j⟩;have d10' :=Z.hpk d9 λj=>(Q d ⟨_,j⟩).2 rfl;refine⟨lB P.at_,?_⟩
   have y410:de (λy=>dY fp y\/y=q) t W6:=y49.on Z λy g=>by
    rcases j5 y ⟨_,g⟩with o|o
    ·exact .inl (.inl o)
    ·exact .inr o
   exact tell _ r _ D' z J Y W6 M h10' P ((M10.to (G:=dY fp)).on y410 λy g=>g.imp id λo=>qZ) (λy g=>(j5 y g).imp id λo=>qZ) (λy g=>by grind) d10' qZ qZ
def NZ:∀{l m:List Int},l.Nodup->(∀x∈l,x∈m)->l.length<=m.length:=by
 intro l;induction l with
 |nil=>intro m _ _;exact nY _
 |cons a l j=>
  intro m d g;rw[dA]at d;have f:=g a (cw ..)
  have:=j (m:=m.erase a) d.2 λx i=>by
   have b:x≠a:=λe=>d.1 (e▸i);exact(List.mem_erase_of_ne b).2 (g x (cu _ i))
  rw[List.length_erase_of_mem f]at this;have h:0<m.length:=List.length_pos_of_mem f;rw[dc];omega
def tV(h:L.Ok)(c:Int):(L.holders c).length<=64:=by
 have k:((L.holders c).map (·.a)).Nodup:=by
  have f:=(h.sp.nodup).sublist ((jv (p:=λp:Po=>decide (p.c=c))).map Po.key);show((L.held.filter λp=>decide (p.c=c)).map (·.a)).Nodup
  have e:(L.held.filter λp=>decide (p.c=c)).map Po.key=((L.held.filter λp=>decide (p.c=c)).map (·.a)).map λa=>(c,a):=by
   rw[dQ];refine dt λp hp=>?_;have:=(cO.1 hp).2;rw[dN]at this;show(p.c,p.a)=(c,p.a)
   rw[this]
  rw[e]at f;exact List.Pairwise.of_map (λa=>(c,a)) (λa b d e=>d (by rw[e])) f
 have:=NZ (m:=L.all.map (·.num)) k λx j=>by
  obtain⟨p,hp,rfl⟩:=cF.1 j;obtain⟨a,i,g⟩:=(h.pos p (cO.1 hp).1).2.2.2.2.2.2.2;exact cF.2 ⟨a,i,g⟩
 rw[cz,cz]at this;exact dD this h.len
def S5(p:Po->Bool):∀l:List Po,(l.filter p).length+(l.filter λx=> !p x).length=l.length:=by
 intro l;induction l with
 |nil=>rfl
 |cons a l b=>cases hp:p a<;>simp[hp]<;>omega
def Up{L:Led}:∀(a:List Int) (H:List Po),(∀p∈H,p.c∈a)->H.length<=(a.map λn=>(H.filter λp=>decide (p.c=n)).length).sum:=by
 intro a;induction a with
 |nil=>intro H h;cases H with|nil=>simp|cons p H=>exact absurd (h p (cw ..)) (by simp)
 |cons n a b=>
  intro H h
  have d:=b (H.filter λp=> !decide (p.c=n)) λp hp=>by
   obtain⟨f,j⟩:=cO.1 hp;rcases cH.1 (h p f)with e|e
   ·grind
   ·exact e
  have g:(H.filter λp=>decide (p.c=n)).length+(H.filter λp=> !decide (p.c=n)).length=H.length:=by
   exact S5 _ H
  have i:(a.map λm=>((H.filter λp=> !decide (p.c=n)).filter λp=>decide (p.c=m)).length).sum<=(a.map λm=>(H.filter λp=>decide (p.c=m)).length).sum:=by
   clear b h d;induction a with
   |nil=>simp
   |cons m a b=>
    simp only[cM,di]
    have:((H.filter λp=> !decide (p.c=n)).filter λp=>decide (p.c=m)).length<=(H.filter λp=>decide (p.c=m)).length:=
     (jv.filter _).length_le
    omega
  simp only[cM,di];omega
def xo(hC:C.Ok)(h:Cb C L):L.held.length<=1024:=by
 have j:=Up (L:=L) (C.l.map (·.spec.num)) L.held λp hp=>by
  obtain⟨k,g,-,e,f⟩:=alive_get (h.held p hp);exact cF.2 ⟨k,f,e⟩
 have b:∀a:List Int,(a.map λn=>(L.held.filter λp=>decide (p.c=n)).length).sum<=64*a.length:=by
  intro a;induction a with
  |nil=>simp
  |cons n a m=>
   have:=tV h.led n;unfold Led.holders at this;simp only[cM,di,dc];omega
 have d:=b (C.l.map (·.spec.num));have i:=hC.len;rw[cz]at d;omega
def Xz(B:Int)(won:Int->Int):Prop:=∀n,-B<=won n/\won n<=B
def A0{V:Int}(k:0<=V):∀(l:List (Int×Int)) {won:Int->Int} {B:Int},Xz B won->(∀x∈l,-V<=x.2/\x.2<=V)->Xz (B+V*l.length) (wonAdd won l):=by
 intro l;induction l with
 |nil=>intro won B h _ n;have:=h n;simpa [wonAdd]using this
 |cons x l i=>
  intro won B h a;have j:=a x (cw ..)
  have f:Xz (B+V) (upd won x.1 (won x.1+x.2)):=λn=>by
   by_cases b:n=x.1
   ·subst b;rw[upd_self];have:=h x.1;omega
   ·rw[upd_ne _ _ _ b];have:=h n;omega
  have d:=i f λy g=>a y (cu _ g);intro n;have:=d n
  have e:B+V*((x::l).length:Int)=B+V+V*l.length:=by
   rw[dc];push_cast;rw[Int.mul_add];omega
  rw[e];exact this
def AD(h:L.Ok)(c price:Int)(cl:Bool):(L.mark c price cl).2.1.length<=64/\∀x∈(L.mark c price cl).2.1,(-1100000000000000<=x.2/\x.2<=1100000000000000)/\pL x.1:=by
 unfold Led.mark;split
 ·grind
 ·rename_i g
  have hp:amongB price 1 MP=true:=by
   cases d:amongB price 1 MP with
   |true=>rfl
   |false=>exact absurd (.inr d) g
  have i:=amongB_iff.1 hp;have e:MP=10000000:=rfl;have k:MF=1000000000000000:=rfl;refine⟨by show((L.holders c).map _).length<=64;rw[cz];exact tV h c,λx j=>?_⟩;obtain⟨p,b,rfl⟩:=cF.1 j;obtain⟨q,z,r,t,s,o,n,a,d,y⟩:=h.pos p (cO.1 b).1;have:=h.acc a d
  have m:p.q*price<=10000000*10000000:=by
   have f:p.q*price<=10000000*price:=fU qZ qZ;omega
  have u: -(10000000*10000000)<=p.q*price:=by
   have f:(-10000000)*price<=p.q*price:=fU qZ qZ;omega
  refine⟨⟨?_,?_⟩,⟨?_,?_⟩⟩
  ·grind
  ·grind
  ·show 0<=p.a;omega
  ·show p.a<_;omega
def av0{L:List (Int×Int)}(h:Rd w 2 s L.length (L.flatMap pE)){i:Nat}(hi:i<L.length):
  ∃p,(iX 252 s (gI (i:Int))).run pQ w=.ok p w/\(iL 256 p).run pQ w=.ok (.agg (pE L[i]).toArray) w:=by
 obtain⟨b,d,j,a,g,k⟩:=h.item (show∀x,(pE x).length=2 from λ_=>rfl) hi rfl;obtain⟨C,e,fz,hC,f⟩:=k.get;have g0:=f 0 (gU L[i].1) rfl;have g1:=f 1 (gI L[i].2) rfl;simp only[jU,dS]at g0 g1;exact⟨.pointer (some ⟨b,d+i*2,none⟩),by rw[a];simp[go_sem,hi,cS],by simp[go_sem,fy hC,g0,g1,pE]⟩
def aj0(x:Int×Int)(w:Wt_):∃b a,(iA 256 true (.tuple #[])).run pQ w=.ok (pt w.heap.size 0) b/\(iS 256 (pt w.heap.size 0) (.agg (pE x).toArray)).run pQ b=.ok () a/\hC a w.heap.size (pE x).toArray 256/\M0 w a:=
 ⟨w.alloc (.cells #[.int .u32 0,gI 0] 256),_,by simp[go_sem],by simp[go_sem,pE];rfl,by simp[go_sem,pE],(de.refl _ w).alloc _⟩
section
variable{w:Wt_}{K:cG}{v c l mb md:Nat}{A:List (Int×Nat)}{D:List (Int×Value)}{fp:Pt->Nat->Prop}{S:Ven}
def Ie{k:Ct}{cl:Bool}{b:Nat}{won:Int->Int}{B:Int}(h:ik w v c l mb md A D fp S)(hw:vJ w b won)(r:¬dY fp b)(hl:S.led.held.length<4294967295)(hB:Xz B won)(hBb:0<=B/\B<=2000000000000000000)
  (hK:∀G,ik G v c l mb md A D fp {S with led:=(S.led.mark k.spec.num k.price cl).2.2}->vJ G b (wonAdd won (S.led.mark k.spec.num k.price cl).2.1)->de (λy=>fp .led y\/y=b) w G->K (gI (S.led.mark k.spec.num k.price cl).1) G):
  Ca pQ 130 #[eY v,.agg (fI k).toArray,.bool cl,.map (some b)] w K:=by
 apply ak9;obtain⟨U,e1,b1,m1⟩:=GT k w;apply cI e1;obtain⟨p,hp0⟩:=dW w.heap.size;rw[<-hp0]at b1|-;have d:S.led.Ok:=by obtain⟨-,d⟩:=h.led;exact d
 have m:M0 U U.drew:=mP;have z:=m1.trans m;have g:=h.md0 z;have I:=m.hpk b1 id;have o:=hw.mod z id
 try dsimp only
 generalize U.drew=w2 at m z g I o|-;simp only[eY,dr];refine dw (jk 1 qZ) (dp (ld1 _ g.blk) ?_);refine qP0 ?_;refine qP0 ?_;refine qW2 I G9 ?_;refine qP0 ?_;refine qW2 I Hs ?_;refine Ux g.led hl λw3 vs q3 J Q n3=>?_;have t:¬fp .led b:=λhc=>r ⟨_,hc⟩;obtain⟨X,hX⟩:=dW (S.led.mark k.spec.num k.price cl);obtain⟨Z,j⟩:=AD d k.spec.num k.price cl;rw[<-hX]at q3 J Z j hK|-;have h3:=g.setLed Q q3;have R:=o.mod Q t;refine qP0 ?_;refine qP0 ?_;obtain⟨va,vc,M,-⟩:=J.isSl;apply jm (gI (X.2.1.length:Int)) w3 (by rw[M];simp[go_sem]);have hmwlt:b<w.heap.size:=by obtain⟨L,g,-⟩:=hw;exact g.lt
 have hs2:=z.size;have N:∀y,cK vs y->y≠b:=λy a=>by grind
 refine eS (λst W=>∃i:Nat,i<=X.2.1.length/\st=(gI i,())/\vJ W b (wonAdd won (X.2.1.take i))/\de (λy=>y=b) w3 W)
  (λst _=>match st.1 with| .int _ i=>X.2.1.length - i.toNat|_=>0) ⟨0,qZ,rfl,R,lX⟩ ?_
 rintro⟨_,_⟩ W ⟨i,hi,⟨⟩,T,F⟩ KN O;unfold Pl;intro _;have o4:=J.mod F λy a=>N y a;by_cases s:i<X.2.1.length
 ·have C:(i:Int)<(X.2.1.length:Int):=qZ;refine qSt1 C ?_;obtain⟨x,hx⟩:=dW (X.2.1[i]);obtain⟨pi,f1,f2⟩:=av0 o4.rd s;rw[<-hx]at f2;have hxb:=j x (by grind);refine cI f1 (cI f2 ?_);obtain⟨wa,u,ea,eb,H,E⟩:=aj0 x W;refine cI ea (ir eb ?_);obtain⟨q,hq⟩:=dW W.heap.size;rw[<-hq]at H|-;unfold pE at H;have Y:=T.mod E id;refine cx (pt q 0) u (by simp[go_sem]) (cx (gU x.1) u (by simp[go_sem,H]) ?_);apply iW (Y.look x.1);refine cx (pt q 1) u (by simp[go_sem]) (cx (gI x.2) u (by simp[go_sem,H]) ?_);obtain⟨wn,f⟩:=dW (wonAdd won (X.2.1.take i))
  have P:Xz (B+1100000000000000*64) wn:=by
   have h1:=A0 (V:=1100000000000000) qZ (X.2.1.take i) hB λy a=>(j y (ek a)).1;rw[<-f]at h1;intro n;have g:=h1 n;have h3:((X.2.1.take i).length:Int)<=64:=by grind
   omega
  rw[<-f]at Y|-;have h64:=P x.1;apply cx (gI (wn x.1+x.2)) u (by simp[go_sem];rw[wI_]);obtain⟨Lw,g1,g2⟩:=Y;refine kV (enc:=iI) (ev:=Ox) (x:=x.1) (v:=wn x.1+x.2) Vw rP g1 λW2 a2 m2 hs2' =>?_;apply cx (gI ((i+1:Nat):Int)) W2 (by simp[go_sem];rw[wI_]);refine O _ _ ⟨i+1,qZ,rfl,⟨_,a2,λn=>?_⟩,(F.trans (E.to)).trans m2⟩ (by grind);rw[sn,eA s,<-hx];unfold wonAdd;rw[kH];show _=upd (wonAdd won (X.2.1.take i)) x.1 (wonAdd won (X.2.1.take i) x.1+x.2) n;rw[<-f];by_cases hn:n=x.1
  ·subst hn;rw[upd_self,bZ rfl];rfl
  ·rw[upd_ne _ _ _ hn,aZ λe=>hn e.symm,g2]
 ·obtain rfl:i=X.2.1.length:=qZ;refine qSf0 ?_;rw[cN]at T;exact hK W (h3.mod F λpt y a e=>r (e▸⟨pt,a⟩)) T ((((z.to).trans (Q.mono λy _ a=>.inl a))).trans (F.mono λy _ a=>.inr a))
end
def FS{L:List Int}{a:Int}(h:Rd w 1 s L.length (L.flatMap BH))(M:L.length<=100000)(m:∀u,M0 w u->K (.bool (L.contains a)) u):
  Ca pQ 133 #[s,gU a] w K:=by
 apply as2;apply Zi;obtain⟨sa,sc,G⟩:=h.isSl;apply jm (gI (L.length:Int)) w (by rw[G];simp[go_sem])
 refine eS (λst W=>∃(i:Nat) (x:Vt_),i<=L.length/\st=(x,gI i,())/\M0 w W/\∀j:Nat,∀n:j<L.length,j<i->L[j]≠a)
  (λst _=>match st.2.1 with| .int _ i=>L.length - i.toNat|_=>0) ⟨0,gI 0,qZ,rfl,lX,λj _ h=>qZ⟩ ?_
 rintro⟨_,_⟩ W ⟨i,x,J,⟨⟩,k,o⟩ I q;unfold QE;intro _;by_cases f:i<L.length
 ·have g:(i:Int)<(L.length:Int):=qZ;refine qSt1 g ?_;obtain⟨b,r,E,p,y,F⟩:=(h.mod k eQ).item (show∀x,(BH x).length=1 from λ_=>rfl) f rfl;obtain⟨C,e,fz,hC,z⟩:=F.get;have g0:=z 0 (gU L[i]) rfl;simp only[dS]at g0;apply cx (pt b (r+i*1)) W (by rw[p];simp[go_sem,f,cS]);apply cx (gU L[i]) W (by simp only[pX]at g0|-;simp[go_sem,fy hC,g0]);by_cases d:L[i]=a
  ·refine qSt1 d ?_;refine qS0 ?_;have:L.contains a=true:=by grind
   rw[this]at m;exact m W k
  ·apply cx (.bool false) W (by simp[go_sem];exact λe=>d e.symm);rw[gP];apply cx (gI ((i+1:Nat):Int)) W (by simp[go_sem];rw[wI_]);refine q _ _ ⟨i+1,_,qZ,rfl,k,λj n B=>?_⟩ (by grind);by_cases t:j=i
   ·subst t;exact d
   ·grind
 ·obtain rfl:i=L.length:=qZ;refine qSf0 ?_;refine qS0 ?_
  have:L.contains a=false:=by
   rw[kI,Ne,List.contains_iff_mem];intro H;obtain⟨j,n,t⟩:=cX H;exact o j n n t
  rw[this]at m;exact m W k
def xO(fp:Pt->Nat->Prop)(p:Pt):mj fp p (fp p)=fp:=by
 funext q;unfold mj;split
 ·rename_i h;rw[h]
 ·rfl
abbrev yE(W:Wt_)(p:Nat)(e:Int):Prop:=hC W p #[.int .i64 e] 43
def Hb{e:Int}(x:Int)(h:yE W p e):∃a,(iS 43 (pt p 0) (gI x)).run pQ W=.ok () a/\yE a p x/\de (λb=>b=p) W a:=
 ⟨W.setCell ⟨p,0,none⟩ (gI x),by simp[go_sem,h],by show hp _ _=_;simp[go_sem,h],(de.refl (λb=>b=p) W).sc⟩
def B4{e:Int}(h:yE W p e):(iL 43 (pt p 0)).run pQ W=.ok (gI e) W:=by simp[go_sem,h]
def U1(W:Wt_):∃a,(iA 43 true (.tuple #[])).run pQ W=.ok (pt W.heap.size 0) a/\yE a W.heap.size 0/\M0 W a:=
 ⟨W.alloc (.cells #[.int .i64 0] 43),by simp[go_sem],by show hp _ _=_;simp[go_sem],(de.refl _ W).alloc _⟩
def MQ{won:Int->Int}(k:Ct):markL [k] L won=if k.st=3 then(0,L,won)else((L.mark k.spec.num k.price false).1,(L.mark k.spec.num k.price false).2.2,wonAdd won (L.mark k.spec.num k.price false).2.1):=by
 unfold markL;split
 ·rfl
 ·simp only;split
  ·rfl
  ·rename_i h
   simp only[markL];have:(L.mark k.spec.num k.price false).1=0:=by simpa using h
   rw[this]
def IM{F:NP_}(h:lw w v F S)(hok:S.Ok)(hK:AK w v F S.settle K):Ca pQ 88 #[eY v] w K:=by
 obtain⟨c,l,mb,md,A,D,fp,hr,hF⟩:=h;apply au7;obtain⟨n0,hn0⟩:=dW w.heap.size
 have hlay:∃w1,w.alloc (.cells #[eY v] 39)=w1/\w1.heap.size=n0+1/\M0 w w1/\hp w1 n0=some (.cells #[eY v] 39 (0,0)):=by
  refine⟨_,rfl,by simp[go_sem,hn0],(de.refl _ w).alloc _,?_⟩;simp[go_sem,hn0]
 obtain⟨w1,hw1,hsz1,m1,b1⟩:=hlay;apply cx (pt n0 0) w1 (by rw[<-hw1,hn0];rfl);clear hw1;obtain⟨w2,e2,b2,m2⟩:=qy w1;apply cI e2;obtain⟨q,hq⟩:=dW (n0+1);rw[hsz1,<-hq]at b2|-;obtain⟨w3,e3,b3,m3⟩:=U1 w2;apply cI e3;obtain⟨E,he4⟩:=dW w2.heap.size;rw[<-he4]at b3|-;have hqe:q<E:=by have:=cB b2;omega
 have M3:=(m1.trans m2).trans m3;have h3:=hr.md0 M3;have g0:=m3.hpk (m2.hpk b1 id) id;have g1:=m3.hpk b2 id;have hfl:∀pt x,fp pt x->x<n0:=λpt x B=>by rw[hn0];exact hr.lt B
 have haf:∀x,dY fp x->x<n0:=λx ⟨pt,B⟩=>hfl pt x B;have hFa:∀x,dY fp x↔F x:=λx=>(hF x).symm;have lv0:∀{W},hp W n0=some (.cells #[eY v] 39 (0,0))->(iL 39 (pt n0 0)).run pQ W=.ok (eY v) W:=λhW=>by simp[go_sem,hW,eY]
 apply cI (lv0 g0);simp only[eY,dr];refine cI (jk 0 qZ _) (cI (EQ _ h3.blk) ?_);obtain⟨C,hC⟩:=dW (eD S.cal);refine OA h3.cal λw4 q4 m4=>?_;rw[<-hC]at q4|-;have hCl:C.2.l=S.cal.l:=by rw[hC];exact Ds _
 have h4:=h3.setCal m4 q4 (λx B=>.inl B) (λn=>by rw[hCl]);rw[xO]at h4;obtain⟨u,hS0⟩:=dW ({S with cal:=C.2}:Ven);rw[<-hS0]at h4;have hok0:u.Ok:=by rw[hS0,hC];exact hok.day
 have hnc:∀{y},n0<=y->¬fp .cal y:=λf o=>by have:=hfl _ _ o;omega
 have k0:=m4.hpk g0 (hnc qZ);have k1:=m4.hpk g1 (hnc qZ);have k3:=m4.hpk b3 (hnc qZ);obtain⟨w5,e5,b5,m5⟩:=Hb C.1 k3;refine ir e5 (cI (B4 b5) ?_);have hne:∀pt y,fp pt y->y≠E:=λpt y f e=>by have:=hfl pt y f;omega
 have h5:=h4.mod m5 λpt y f e=>hne pt y f e;have l0:=m5.hpk k0 qZ;have l1:=m5.hpk k1 qZ;have M5:de (dY fp) w w5:=((M3.to (G:=dY fp)).trans (m4.mono λy _ f=>⟨_,f⟩)).on m5 λy f=>gz;have hse4:E<w5.heap.size:=cB b5
 have tellR:∀(e:Int) (r:Rp) (T:Ven) (D' :List (Int×Value)) (s:Pt->Nat->Prop) (sG sA:Vt_) (W:Wt_) (ds:List Nat),S.settle=(e,r,T)->ik W v c l mb md A D' s T->BN W q sG sA r (n0+2) (dY s)->yE W E e->de (dY fp) w W->(∀y,dY s y->(dY fp y\/E<y)/\y ∉ ds)->(∀y,cK sG y\/cK sA y->E<y/\y ∉ ds)->ds.Nodup->(∀d∈ds,hp W d=some (.deferred (some []))/\E<d)->
   lj ds W λw83=>uc pQ (iL lx (pt q 0)) w83 λv84=>uc pQ (iL 43 (pt E 0)) w83 λv85=>K (.tuple #[v84,v85]) w83:=by
  intro e r T D' s sG sA W ds he a b er m hup hds hnd hdW;refine Nk hnd (λd hd=>(hdW d hd).1) λW' m' =>?_;have hdq:∀d∈ds,E<d:=λd hd=>(hdW d hd).2;refine dp (lB (m'.hpk b.at_ λo=>by have:=hdq q o;omega)) (dp (B4 (m'.hpk er λo=>by have:=hdq E o;omega)) ?_);refine hK.tell (F' :=dY s) he (a.mod m' λpt y f o=>(hup y ⟨pt,f⟩).2 o).q (b.rp.mod m' λy f o=>?_) ((m.mono λy _ f=>(hFa y).1 f).on m' λy f=>.inr (by have:=hdq y f;omega)) (λy f=>(hup y f).1.imp (hFa y).1 λh' =>qZ) λy f=>?_
  ·rcases f with f|f
   ·cases f
   ·exact(hds y f).2 o
  ·rcases f with f|f
   ·cases f
   ·exact⟨by have:=(hds y f).1;omega,(b.nw y f).2.2⟩
 have tellS:∀(e:Int) (r:Rp) (T:Ven) (D' :List (Int×Value)) (s:Pt->Nat->Prop) (sG sA:Vt_) (W:Wt_) (ds:List Nat),S.settle=(e,r,T)->ik W v c l mb md A D' s T->BN W q sG sA r (n0+2) (dY s)->yE W E e->de (dY fp) w W->(∀y,dY s y->(dY fp y\/E<y)/\y ∉ ds)->(∀y,cK sG y\/cK sA y->E<y/\y ∉ ds)->ds.Nodup->(∀d∈ds,hp W d=some (.deferred (some []))/\E<d)->
   uc pQ (iL lx (pt q 0)) W λv80=>uc pQ (iL 43 (pt E 0)) W λv81=>ru pQ (iS lx (pt q 0) v80) W λw81=>Sem.run pQ (iL 43 (pt E 0)) w81=.ok v81 w81/\
    (ru pQ (iS 43 (pt E 0) v81) w81 λw82=>lj ds w82 λw83=>uc pQ (iL lx (pt q 0)) w83 λv84=>uc pQ (iL 43 (pt E 0)) w83 λv85=>K (.tuple #[v84,v85]) w83):=by
  intro e r T D' s sG sA W ds he a b er m hup hds hnd hdW;refine dp (lB b.at_) (dp (B4 er) ?_);obtain⟨t1,t2,t3⟩:=b.rp.isSl;obtain⟨W1,f1,x1,y1⟩:=pl (r:=r) b.at_ rfl ⟨t1,t2,t3⟩;refine ir f1 ⟨B4 (y1.hpk er qZ),?_⟩;obtain⟨W2,f2,x2,y2⟩:=Hb e (y1.hpk er qZ);apply ir f2
  have hup' :∀y,dY s y->y≠q/\y≠E:=λy f=>by
   rcases(hup y f).1 with h' |h'
   ·have:=haf y h';omega
   ·omega
  have b2' :BN W2 q sG sA r (n0+2) (dY s):=⟨y2.hpk x1 qZ,(b.rp.mod y1 λy f e=>by
   rcases f with f|f
   ·cases f
   ·exact(b.nw y f).2.1 e).mod y2 λy f e=>by
   rcases f with f|f
   ·cases f
   ·have:=(hds y f).1;omega,b.nw⟩
  exact tellR e r T D' s sG sA W2 ds he ((a.mod y1 λpt y f e=>(hup' y ⟨pt,f⟩).1 e).mod y2 λpt y f e=>(hup' y ⟨pt,f⟩).2 e) b2' x2 ((m.on y1 λy f=>gz).on y2 λy f=>gz) hup hds hnd
   λd hd=>⟨y2.hpk (y1.hpk (hdW d hd).1 (by have:=(hdW d hd).2;omega)) (by have:=(hdW d hd).2;omega),(hdW d hd).2⟩
 have rp0' :∀{W},hp W q=some (.cells (mC zRp dv dv dv).toArray lx (0,0))->BN W q dv dv zRp (n0+2) (dY fp):=λhW=>⟨hW,vG.nil _ 0,λy f=>by rcases f with f|f<;>cases f⟩
 have nilH:∀{ds:List Nat} y,cK dv y\/cK dv y->E<y/\y ∉ ds:=λy f=>by rcases f with f|f<;>cases f
 obtain⟨M,hM⟩:=dW (markL u.cal.l u.led noWon)
 have t:S.settle=if C.1≠0 then(C.1,zRp,u)else if M.1≠0 then(M.1,zRp,{u with led:=M.2.1})else
   if(({u with led:=M.2.1}:Ven).pay M.2.2).1≠0 then({u with led:=M.2.1}:Ven).pay M.2.2 else
    ((freeL (({u with led:=M.2.1}:Ven).pay M.2.2).2.1.accts (({u with led:=M.2.1}:Ven).pay M.2.2).2.2.led.all 0 (({u with led:=M.2.1}:Ven).pay M.2.2).2.2.led).1,(({u with led:=M.2.1}:Ven).pay M.2.2).2.1,
     {(({u with led:=M.2.1}:Ven).pay M.2.2).2.2 with led:=(freeL (({u with led:=M.2.1}:Ven).pay M.2.2).2.1.accts (({u with led:=M.2.1}:Ven).pay M.2.2).2.2.led.all 0 (({u with led:=M.2.1}:Ven).pay M.2.2).2.2.led).2}):=by
  rw[hM,hS0,hC];rfl
 by_cases hCe:C.1≠0
 ·rw[bZ hCe]at t;apply qSv1 (.bool true) hCe;rw[kx];have g:M0 w5 w5.drew:=mP;exact tellS C.1 zRp u D fp dv dv w5.drew [] t (h5.md0 g) (rp0' (g.hpk l1 id)) (g.hpk b5 id) (M5.trans (g.to)) (λy f=>⟨.inl f,by simp⟩) (λy f=>nilH y f) (by simp) (by simp)
 rw[aZ hCe]at t;have hC0:C.1=0:=by simpa using hCe
 apply qSv1 (.bool false) hC0;rw[gP];rw[hC0]at b5;obtain⟨Z,hmw⟩:=dW w5.heap.size;have m6:M0 w5 (w5.alloc (.map #[] 0)):=lm;have aw:fB iI Ox (w5.alloc (.map #[] 0)) Z ([]:List (Int×Int)):=by rw[hmw];exact fB.new w5
 apply cx (.map (some Z)) (w5.alloc (.map #[] 0)) (by rw[hmw];simp[go_sem]);have hs6:(w5.alloc (.map #[] 0)).heap.size=Z+1:=by rw[hmw];simp[go_sem]
 generalize w5.alloc (.map #[] 0)=w6 at m6 aw hs6|-
 have hlay2:∃w7,(w6.alloc (.cells #[.map none] 217)).setCell ⟨Z+1,0,none⟩ (.map (some Z))=w7/\M0 w6 w7/\hp w7 (Z+1)=some (.cells #[.map (some Z)] 217 (0,0)):=by
  refine⟨_,rfl,lm.setCell (.inr (by show w6.heap.size<=Z+1;omega)) _ _,?_⟩;rw[<-hs6];simp[go_sem]
 obtain⟨w7,hw7,m7,b7⟩:=hlay2;apply cx (pt (Z+1) 0) (w6.alloc (.cells #[.map none] 217)) (by rw[<-hs6];simp[go_sem]);apply pH w7 (by rw[<-hw7,<-hs6];simp[go_sem]);clear hw7;have M67:=m6.trans m7;have h7:=h5.md0 M67;have p0:=M67.hpk l0 id;have p1:=M67.hpk l1 id;have p3:=M67.hpk b5 id;have pw:vJ w7 Z noWon:=⟨[],aw.mod m7 id,λn=>rfl⟩
 have M7:=M5.trans (M67.to (G:=dY fp));have hs7:Z+1<w7.heap.size:=cB b7;apply cI (lv0 p0);simp only[eY,dr];refine cI (jk 0 qZ _) (cI (EQ _ h7.blk) ?_);refine zq h7.cal λgv w8 ht m8=>?_;have h8:=h7.md0 m8;have t0:=m8.hpk p0 id;have t1:=m8.hpk p1 id;have t3:=m8.hpk p3 id;have t7:=m8.hpk b7 id;have tw:=pw.mod m8 id;have M8:=M7.trans (m8.to (G:=dY fp));have hs8:=m8.size;obtain⟨X0,hX0⟩:=dW (λy=>dY fp y\/y=Z\/y=E\/y=q:NP_)
 have hX0lt:∀y,X0 y->y<Z+1:=λy f=>by
  rw[hX0]at f;rcases f with f|f|f|f
  ·have:=haf y f;omega
  ·omega
  ·omega
  ·omega
 have hX0n:¬X0 n0/\¬X0 (Z+1):=by
  rw[hX0];constructor
  ·rintro(f|f|f|f)
   ·have:=haf _ f;omega
   ·omega
   ·omega
   ·omega
  ·rintro(f|f|f|f)
   ·have:=haf _ f;omega
   ·omega
   ·omega
   ·omega
 let I:(Nat->Prop)->Nat->World->Prop:=λX i W=>(∀y,X y↔X0 y)/\∃(L:Led) (won:Int->Int),ik W v c l mb md A D fp {u with led:=L}/\vJ W Z won/\yE W E 0/\hp W q=some (.cells (mC zRp dv dv dv).toArray lx (0,0))/\markL (u.cal.l.drop i) L won=M/\Cb u.cal L/\Xz (1100000000000000*64*i) won;let Ex:Code->(Nat->Prop)->World->Prop:=λcc X W=>(∀y,X y↔X0 y)/\cc=.ret/\ik W v c l mb md A D fp {u with led:=M.2.1}/\yE W E M.1/\hp W q=some (.cells (mC zRp dv dv dv).toArray lx (0,0))/\M.1≠0;have hcl:u.cal.l.length<=16:=hok0.cal.len;have hXfp:∀{pt y},fp pt y->X0 y:=λf=>by rw[hX0];exact .inl ⟨_,f⟩
 have hXw:X0 Z:=by rw[hX0];exact .inr (.inl rfl)
 have hXe:X0 E:=by rw[hX0];exact .inr (.inr (.inl rfl))
 have hXq:X0 q:=by rw[hX0];exact .inr (.inr (.inr rfl))
 have hmwfp:¬dY fp Z:=λo=>by have:=haf _ o;omega
 delta OW
 refine CX (X0:=X0) (fv:=λk:Ct=>.agg (fI k).toArray) (asg:=λx W K=>rx pQ (nE oT) W λv w1=>nj pQ (jH oT v x) w1 λw2=>K v w2) (Pv:=AR oT fI) (xs:=u.cal.l) ht Ar wQ I Ex ?_ ?_ (λx B=>by have:=hX0lt x B;omega) ⟨λ_=>fd,u.led,noWon,h8,tw,t3,t1,by rw[iw,hM],hok0.led,λn=>by show _<=(0:Int)/\(0:Int)<=_;omega⟩ ?_ ?_ ?_
 ·rintro X i W W' H ⟨j,L,won,i1,i2,i3,i4,i5,i6,i7⟩ hm hX;have B:∀{b},X0 b->¬H b:=λhb=>hX _ ((j _).2 hb);exact⟨j,L,won,i1.mod hm λpt y f=>B (hXfp f),i2.mod hm (B hXw),hm.hpk i3 (B hXe),hm.hpk i4 (B hXq),i5,i6,i7⟩
 ·rintro cc X W W' H ⟨j,i0,i1,i2,i3,i4⟩ hm hX;have B:∀{b},X0 b->¬H b:=λhb=>hX _ ((j _).2 hb);exact⟨j,i0,i1.mod hm λpt y f=>B (hXfp f),hm.hpk i2 (B hXe),hm.hpk i3 (B hXq),i4⟩
 ·rintro X i hi W qk vv ⟨j,L,won,i1,i2,i3,i4,i5,i6,i7⟩ mW hX hdq hqW ⟨rfl,zgq⟩ ⟨rec0,hrec⟩ KN KJ hKN hKJ;have f0:=mW.hpk t0 hX0n.1;have f7:=mW.hpk t7 hX0n.2;obtain⟨k,hk⟩:=dW (u.cal.l[i]);have hk' :k=u.cal.l[i]'hi:=hk;rw[<-hk']at zgq;have hdrop:u.cal.l.drop i=k::u.cal.l.drop (i+1):=by rw[hk];exact fF hi
  rw[hdrop]at i5;have hXs:∀b,X b->b<W.heap.size:=λb hb=>by have:=(hX b hb).1;omega
  have z:∀{W' :Wt_},W.heap.size<=W'.heap.size->∀b,X b->(X b\/W.heap.size<=b)/\b<W'.heap.size:=λhle b hb=>⟨.inl hb,by have:=hXs b hb;omega⟩
  have hi16:i<16:=by have:i<u.cal.l.length:=hi;omega
  apply qSv0 (pt qk 25);apply qSv2 (gB k.st) zgq D5;by_cases hst:k.st=3
  ·apply qSv1 (.bool false) hst;rw[gP];have e5:markL (k::u.cal.l.drop (i+1)) L won=markL (u.cal.l.drop (i+1)) L won:=by rw[markL,bZ hst]
   rw[e5]at i5;exact hKN X W ⟨j,L,won,i1,i2,i3,i4,i5,i6,λn=>by have:=i7 n;push_cast;omega⟩ lX (z (cJ _))
  ·apply qSv1 (.bool true) hst;rw[kx];apply cI (lv0 f0);apply jq (fI k) 26 ME yV (eE k) (At.all zgq);apply qSv1 (.map (some Z)) f7;have hlh:L.held.length<4294967295:=by have:=xo hok0.cal i6;omega
   refine Ie (S:={u with led:=L}) i1 i2 hmwfp hlh i7 qZ λW1 v1 w1' m1' =>?_;obtain⟨Y,hY⟩:=dW (L.mark k.spec.num k.price false);replace v1:ik W1 v c l mb md A D fp {u with led:=(L.mark k.spec.num k.price false).2.2}:=v1;replace w1' :vJ W1 Z (wonAdd won (L.mark k.spec.num k.price false).2.1):=w1';show ru pQ (iS 43 (pt E 0) (gI (L.mark k.spec.num k.price false).1)) W1 _;obtain⟨hvl,hvb⟩:=AD i6.led k.spec.num k.price false;have hone:=MQ (L:=L) (won:=won) k;rw[aZ hst]at hone
   have O:Cb u.cal (L.mark k.spec.num k.price false).2.2:=by
    have:=(qS hok0.cal [k] L won i6).1;rw[hone]at this;exact this
   have e5:markL (k::u.cal.l.drop (i+1)) L won=if(L.mark k.spec.num k.price false).1≠0 then((L.mark k.spec.num k.price false).1,(L.mark k.spec.num k.price false).2.2,wonAdd won (L.mark k.spec.num k.price false).2.1)else markL (u.cal.l.drop (i+1)) (L.mark k.spec.num k.price false).2.2 (wonAdd won (L.mark k.spec.num k.price false).2.1):=by rw[markL,aZ hst]
   rw[e5]at i5;rw[<-hY]at v1 w1' hvl hvb O i5|-
   have m1x:de X W W1:=m1'.mono λy _ f=>(j y).2 (by
     rcases f with f|f;·exact hXfp f
     ·rw[f];exact hXw)
   have hne4:¬(fp .led E\/E=Z):=λo=>by
     rcases o with o|o;·have:=hfl _ _ o;omega
     ·omega
   have hnq:¬(fp .led q\/q=Z):=λo=>by
     rcases o with o|o;·have:=hfl _ _ o;omega
     ·omega
   obtain⟨W2,f2,x2,R⟩:=Hb Y.1 (m1'.hpk i3 hne4);refine ir f2 (cI (B4 x2) ?_);have v2:=v1.mod R λpt y f e=>hne pt y f e;have w2' :=w1'.mod R qZ;have r2:=R.hpk (m1'.hpk i4 hnq) qZ;have m2x:de X W W2:=m1x.trans (R.mono λy _ f=>(j y).2 (by rw[f];exact hXe));have hs2:=m2x.size;by_cases hye:Y.1≠0
   ·rw[bZ hye]at i5;apply qSv1 (.bool true) hye;rw[kx];have g:M0 W2 W2.drew:=mP;have v3:=v2.md0 g;have r3:=g.hpk r2 id;have x3:=g.hpk x2 id;have m3x:=m2x.trans (g.to (G:=X))
    try dsimp only
    generalize W2.drew=W3 at g v3 r3 x3 m3x|-;refine dp (lB r3) (dp (B4 x3) ?_);obtain⟨W4,f4,r4,U⟩:=pl (r:=zRp) r3 rfl ⟨gJ,gJ,gJ⟩;refine ir f4 ⟨B4 (U.hpk x3 qZ),?_⟩;obtain⟨W5,f5,x5,m5'⟩:=Hb Y.1 (U.hpk x3 qZ);apply ir f5;have hnqf:∀pt y,fp pt y->y≠q:=λpt y f e=>by have:=hfl pt y f;omega
    have m5x:de X W W5:=(m3x.trans (U.mono λy _ f=>(j y).2 (by rw[f];exact hXq))).trans (m5'.mono λy _ f=>(j y).2 (by rw[f];exact hXe));refine hKJ _ X W5 ⟨j,rfl,?_,?_,m5'.hpk r4 qZ,?_⟩ m5x (z m5x.size)
    ·rw[<-i5];exact(v3.mod U λpt y f e=>hnqf pt y f e).mod m5' λpt y f e=>hne pt y f e
    ·rw[<-i5];exact x5
    ·rw[<-i5];exact hye
   ·rw[aZ hye]at i5;have hy0:Y.1=0:=by simpa using hye
    apply qSv1 (.bool false) hy0;rw[gP];rw[hy0]at x2;refine hKN X W2 ⟨j,Y.2.2,wonAdd won Y.2.1,v2,w2',x2,r2,i5,O,λn=>?_⟩ m2x (z hs2);have:=A0 (V:=1100000000000000) qZ Y.2.1 i7 (λx B=>(hvb x B).1) n
    push_cast
    omega
 ·rintro X W d hd ⟨j,L,won,i1,i2,i3,i4,i5,i6,i7⟩ mW hdef hX
  have i5' :M=(0,L,won):=by
   have e:markL (u.cal.l.drop u.cal.l.length) L won=M:=i5;rw[lv]at e;rw[<-e];rfl
  have i7' :Xz (1100000000000000*64*u.cal.l.length) won:=i7;rw[i5',aZ (by simp)]at t;simp only at t;obtain⟨S1,hS1⟩:=dW ({u with led:=L}:Ven);rw[<-hS1]at t i1;have hS1c:S1.cal=u.cal:=by rw[hS1]
  have hS1b:S1.bd=u.bd:=by rw[hS1]
  have O:S1.Ok:=by
   have:=nC hok;rw[<-hC]at this
   have e:(markL C.2.l S.led noWon).2.1=L:=by
    have:M.2.1=L:=by rw[i5']
    rw[<-this,hM,hS0]
   rw[e]at this;rw[hS1,hS0];exact this
  have M9:de (dY fp) w W:=M8.on mW λy f=>by
   rw[hX0]at f;rcases f with f|f|f|f
   ·exact .inl f
   ·exact gz
   ·exact gz
   ·exact gz
  have f0:=mW.hpk t0 hX0n.1;have f7:=mW.hpk t7 hX0n.2;unfold Jp;simp only[iJ];apply cI (lv0 f0);apply qSv1 (.map (some Z)) f7;show Ca pQ _ #[eY v,_] W _;refine LJ i1 O.cal (λn=>O.ord.bdl n) i2 (λn=>by have:=i7' n;constructor<;>omega) λD' s sG sA W1 v1 r1 mp1 up1 sl1 gl1 al1=>?_;obtain⟨P,hP⟩:=dW (S1.pay won);rw[<-hP]at v1 r1 gl1 al1 t|-;apply cI (by simp[-Int.natCast_add,go_sem]<;>first|exact sI|exact rfl);apply cI (by simp[-Int.natCast_add,go_sem]<;>first|exact sI|exact rfl);have hnf:∀{y},n0<=y->¬dY fp y:=λf o=>by have:=haf _ o;omega
  have q1:=mp1.hpk i4 (hnf qZ);have e1:=mp1.hpk i3 (hnf qZ);have d1:=mp1.hpk hdef (hnf qZ);have z0:=mp1.hpk f0 (hnf qZ);obtain⟨u1,u2,u3⟩:=r1.isSl;have hsW:E<W.heap.size:=cB i3;have hdW:d<W.heap.size:=cB hdef;obtain⟨W2,f2,x2,R⟩:=pl (r:=P.2.1) q1 rfl ⟨u1,u2,u3⟩;apply ir f2
  have J:∀y,dY s y->(dY fp y\/d<y)/\y≠q/\y≠E/\y≠d:=λy f=>by
   rcases up1 y f with h' |h'
   ·have:=haf y h';exact⟨.inl h',qZ,qZ,qZ⟩
   ·exact⟨gz,qZ,qZ,qZ⟩
  obtain⟨W3,f3,x3,m3'⟩:=Hb P.1 (R.hpk e1 qZ);refine ir f3 (cI (B4 x3) ?_);have v3:=(v1.mod R λpt y f e=>(J y ⟨pt,f⟩).2.1 e).mod m3' λpt y f e=>(J y ⟨pt,f⟩).2.2.1 e
  have r3:BN W3 q sG sA P.2.1 (n0+2) (dY s):=⟨m3'.hpk x2 qZ,(r1.mod R λy f e=>by
   rcases f with f|f
   ·cases f
   ·have:=(sl1 y f).1;omega).mod m3' λy f e=>by
   rcases f with f|f
   ·cases f
   ·have:=(sl1 y f).1;omega,λy f=>⟨by have:=(sl1 y f).1;omega,by have:=(sl1 y f).1;omega,(sl1 y f).2⟩⟩
  have d3:=m3'.hpk (R.hpk d1 qZ) qZ;have y0:=m3'.hpk (R.hpk z0 qZ) qZ;have M3' :de (dY fp) w W3:=((M9.trans mp1).on R λy f=>gz).on m3' λy f=>gz;have hslb:∀y,cK sG y\/cK sA y->d<y:=λy f=>by have:=(sl1 y f).1;omega
  by_cases hPe:P.1≠0
  ·rw[bZ hPe]at t;apply qSv1 (.bool true) hPe;rw[kx];have g:M0 W3 W3.drew:=mP;exact tellS P.1 P.2.1 P.2.2 D' s sG sA W3.drew [d] t (v3.md0 g) (r3.mod g id eQ) (g.hpk x3 id) (M3'.trans (g.to)) (λy f=>⟨(J y f).1.imp id λh' =>qZ,by simpa using(J y f).2.2.2⟩) (λy f=>⟨by have:=hslb y f;omega,by have:=hslb y f;simp;omega⟩) (by simp) (λx B=>by rw[eK.1 B];exact⟨g.hpk d3 id,qZ⟩)
  rw[aZ hPe]at t;have hP0:P.1=0:=by simpa using hPe
  apply qSv1 (.bool false) hP0;rw[gP];rw[hP0]at x3;obtain⟨hpo,-⟩:=vA O.led O.ord (won:=won) (by rw[<-hP];exact hP0);rw[<-hP]at hpo;obtain⟨T,hT⟩:=dW P.2.2;rw[<-hT]at t v3 hpo;apply cI (lv0 y0);simp only[eY,dr];refine cI (jk 1 qZ _) (cI (ld1 _ v3.blk) ?_);refine tU v3.led λgv2 W4 ht2 U=>?_;have v4:=v3.md0 U;have r4:=r3.mod U id eQ;have d4:=U.hpk d3 id;have s0:=U.hpk y0 id;have x4:=U.hpk x3 id;have M4' :=M3'.trans (U.to (G:=dY fp));have hheld:T.led.held.length<4294967295:=by have:=xo (by rw[hpo.cal];exact O.cal) hpo.led;omega
  have hW4:∀y,dY s y->y<W4.heap.size:=λy ⟨pt,f⟩=>v4.lt f;have hdW4:d<W4.heap.size:=cB d4;have hqW4:q<W4.heap.size:=cB r4.at_;have hn0W4:n0<W4.heap.size:=cB s0;obtain⟨Y0,hY0⟩:=dW (λy=>dY s y\/y=E:NP_)
  have hYlt:∀y,Y0 y->y<W4.heap.size:=λy f=>by
   rw[hY0]at f;rcases f with f|f
   ·exact hW4 y f
   ·omega
  have hYn:∀{y},y=n0\/y=q\/y=d->¬Y0 y:=λf o=>by
   rw[hY0]at o;rcases o with o|o
   ·rcases(J _ o).1 with h' |h'
    ·have:=haf _ h';omega
    ·omega
   ·omega
  have hYfp:∀{pt y},s pt y->Y0 y:=λf=>by rw[hY0];exact .inl ⟨_,f⟩
  have hYe:Y0 E:=by rw[hY0];exact .inr rfl
  let I2:(Nat->Prop)->Nat->World->Prop:=λX i W=>(∀y,X y↔Y0 y)/\∃(e:Int) (L:Led),ik W v c l mb md A D' s {T with led:=L}/\yE W E e/\freeL P.2.1.accts (T.led.all.drop i) e L=freeL P.2.1.accts T.led.all 0 T.led/\L.held=T.led.held
  delta VJ
  refine Kw (X0:=Y0) (fv:=oz) (asg:=λx W K=>rv pQ (iA Gv true (.tuple #[])) W λv w1=>ru pQ (iS Gv v x) w1 λw2=>K v w2) (Pv:=AR Gv dH) (xs:=T.led.all) ht2.m (wF rS.ac) wQ I2 (λ_ _ _=>False) ?_ (λ_ _ _ _ _ h=>h.elim) (λx B=>hYlt x B) ⟨λ_=>fd,0,T.led,v4,x4,rfl,rfl⟩ ?_ ?_ (λ_ _ _ _ _ h=>h.elim)
  ·rintro X i W W' H ⟨j,e,L,i1,i2,i3,i4⟩ hm hX;have B:∀{b},Y0 b->¬H b:=λhb=>hX _ ((j _).2 hb);exact⟨j,e,L,i1.mod hm λpt y f=>B (hYfp f),hm.hpk i2 (B hYe),i3,i4⟩
  ·rintro X i hi W6 qa vv ⟨j,e,L,j1,j2,j3,j4⟩ mW6 hX6 hdq6 hqW6 ⟨rfl,zgq⟩ ⟨rec0,hrec⟩ KN KJ hKN hKJ;have f0' :=mW6.hpk s0 (hYn (.inl rfl))
   have r6:=r4.mod mW6 (hYn (.inr (.inl rfl))) λy f o=>by
    rw[hY0]at o;rcases o with o|o
    ·exact(r4.nw y f).2.2 o
    ·have:=hslb y f;omega
   obtain⟨a,ha⟩:=dW (T.led.all[i]);have ha' :a=T.led.all[i]'hi:=ha;rw[<-ha']at zgq;have ham:a∈T.led.all:=by rw[ha];exact cC hi
   have hdrop:T.led.all.drop i=a::T.led.all.drop (i+1):=by rw[ha];exact fF hi
   rw[hdrop]at j3;have hXs:∀b,X b->b<W6.heap.size:=λb hb=>by have:=(hX6 b hb).1;omega
   have z:∀{W' :Wt_},W6.heap.size<=W'.heap.size->∀b,X b->(X b\/W6.heap.size<=b)/\b<W'.heap.size:=λhle b hb=>⟨.inl hb,by have:=hXs b hb;omega⟩
   have hXqa:∀{y},Y0 y->y≠qa:=λf e=>by have:=(hX6 _ ((j _).2 f)).1;omega
   obtain⟨pb,hpb⟩:=dW W6.heap.size;have mb1:M0 W6 (W6.alloc (.cells #[.bool false] 4)):=lm;have bb1:hp (W6.alloc (.cells #[.bool false] 4)) pb=some (.cells #[.bool false] 4 (0,0)):=by rw[hpb];simp[go_sem]
   apply cx (pt pb 0) (W6.alloc (.cells #[.bool false] 4)) (by rw[hpb];simp[go_sem]);generalize W6.alloc (.cells #[.bool false] 4)=W7 at mb1 bb1|-
   have hlay3:∃W8,(iS 4 (pt pb 0) (.bool false)).run pQ W7=.ok () W8/\hp W8 pb=some (.cells #[.bool false] 4 (0,0))/\de (λy=>y=pb) W7 W8:=
    ⟨W7.setCell ⟨pb,0,none⟩ (.bool false),by simp[go_sem,bb1],by simp[go_sem,bb1],(de.refl (λy=>y=pb) W7).sc⟩
   obtain⟨W8,f8,bb8,m8'⟩:=hlay3;apply ir f8;have M68:M0 W6 W8:=mb1.on m8' λy f=>gz;have g:M0 W8 W8.drew:=mP;have M69:=M68.trans g;have k1:=j1.md0 M69;have k2:=M69.hpk j2 id;have kq:=M69.hpk zgq id;have k0:=M69.hpk f0' id;have kr:=r6.mod M69 id eQ;have kb:=g.hpk bb8 id;have krec:=M69.keep (hrec:hp W6 _=_) id;have hs9:W6.heap.size<W8.drew.heap.size:=by have:=cB kb;omega
   try dsimp only
   generalize W8.drew=W9 at g M69 k1 k2 kq k0 kr kb krec hs9|-;unfold dH at kq;apply dp (lv0 k0);simp only[eY,dr];refine dw (jk 1 qZ) (dp (ld1 _ k1.blk) ?_);refine qPv0 (pt qa 0) (qWv1 (gU a.num) kq ?_);have hlh:L.held.length<4294967295:=by rw[j4];exact hheld
   refine SZ k1.led hlh λgv3 W10 ht3 m10=>?_;have hrec10:=m10.keep (krec:hp W9 _=_) id;have nb10:=m10.hpk kb id;have hs10:=m10.size
   delta WE
   refine Lh (l0:=W4.heap.size+1) (X0:=λy=>y=pb) (fv:=tn) (asg:=λx W K=>K x W) (body:=λ_ _ w1 KN2 _=>ru pQ (iS 4 (pt pb 0) (.bool true)) w1 λw2=>KN2 w2) (Pv:=λ_ _ _ _=>True) (xs:=L.ofA a.num) ⟨_,hrec10⟩ ht3.m (λp hp W K hk=>hk W _ trivial lX) (λ_ _ _ _ _ _ _ _ _=>trivial)
    (λX i W=>(∀y,X y↔y=pb)/\hp W pb=some (.cells #[.bool (decide (0<i))] 4 (0,0))) (λ_ _ _=>False) ?_ (λ_ _ _ _ _ h=>h.elim) (λx B=>qZ) ⟨λ_=>fd,by simpa using nb10⟩ ?_ ?_ (λ_ _ _ h=>h.elim)
   ·rintro X i W W' H ⟨z1,z2⟩ hm hX;exact⟨z1,hm.hpk z2 (hX _ ((z1 _).2 rfl))⟩
   ·rintro X i hi N qz vz ⟨z1,z2⟩ mW11 hX11 hdq11 hqW11 - KN2 KJ2 hKN2 hKJ2;apply pH (N.setCell ⟨pb,0,none⟩ (.bool true)) (by simp[go_sem,z2]);refine hKN2 X _ ⟨z1,by simp[go_sem,z2]⟩ ((de.refl X N).setCell (.inl ((z1 pb).2 rfl)) _ _) λb hb=>⟨.inl hb,?_⟩
    have:=(hX11 b hb).1;have e:(N.setCell ⟨pb,0,none⟩ (.bool true)).heap.size=N.heap.size:=by simp[go_sem]
    omega
   ·rintro X2 N ⟨z1,z2⟩ mW11 hX11;replace z2:hp N pb=some (.cells #[.bool (decide (0<(L.ofA a.num).length))] 4 (0,0)):=z2;have M911:de (λy=>y=pb) W9 N:=(m10.to).trans mW11;have M611:M0 W6 N:=M69.on M911 λy f=>gz;have n1:=j1.md0 M611;have n2:=M611.hpk j2 id;have nq:=M611.hpk zgq id;have n0' :=M611.hpk f0' id;have nr:=r6.mod M611 id eQ;obtain⟨w1',w2',w3'⟩:=nr.rp.isSl;have nq' :=nq;unfold dH at nq';unfold Rf;simp only[iJ];obtain⟨cd,hcd⟩:=dW (decide (a.dfl=true/\(L.ofA a.num).isEmpty=true/\P.2.1.accts.contains a.num=false):Bool);refine dK.at (λst W=>st=(.bool cd,())/\M0 N W) ?_ ?_
    ·refine cx (pt qa 3) N (by simp[go_sem]) (cx (.bool a.dfl) N (by simp[go_sem,nq']) ?_);by_cases hdf:a.dfl=true
     ·rw[cy,bZ hdf];apply cx (.bool (decide (0<(L.ofA a.num).length))) N (by simp[go_sem,z2]);apply qSv0 (.bool (!decide (0<(L.ofA a.num).length)));by_cases hem:(L.ofA a.num).isEmpty=true
      ·have hl0:(L.ofA a.num).length=0:=by rw[List.isEmpty_iff]at hem;rw[hem];rfl
       rw[cy,bZ (by rw[hl0];rfl)];refine cx (pt q 6) N (by simp[go_sem]) (cI (WU nr.at_ w3') ?_);refine cx (pt qa 0) N (by simp[go_sem]) (cx (gU a.num) N (by simp[go_sem,nq']) ?_);refine FS nr.rp.ac.rd qZ λW12 m12=>?_;apply cx (.bool (!P.2.1.accts.contains a.num)) W12 (by simp[go_sem]);refine⟨?_,m12⟩;rw[hcd];cases hct:P.2.1.accts.contains a.num<;>simp[hdf,hem]
      ·have hl0:0<(L.ofA a.num).length:=by
        rcases Nat.eq_zero_or_pos (L.ofA a.num).length with h' |h'
        ·exact absurd (List.isEmpty_iff.2 (jF h')) hem
        ·exact h'
       rw[cy,aZ (by rw[db hl0];simp)];exact⟨by rw[hcd,ej λh=>hem h.2.1],lX⟩
     ·rw[cy,aZ hdf];exact⟨by rw[hcd,ej λh=>hdf h.1],lX⟩
    rintro _ W12 ⟨rfl,m12⟩;unfold PT;intro _;have Q:=M611.trans m12;have hfree:freeL P.2.1.accts (a::T.led.all.drop (i+1)) e L=if a.dfl=true/\(L.ofA a.num).isEmpty=true/\P.2.1.accts.contains a.num=false then freeL P.2.1.accts (T.led.all.drop (i+1)) (L.set {a with dfl:=false}).1 (L.set {a with dfl:=false}).2 else freeL P.2.1.accts (T.led.all.drop (i+1)) e L:=by rw[freeL]
    rw[hfree]at j3;have o1:=j1.md0 Q;have o2:=Q.hpk j2 id;have oq:=Q.hpk zgq id;have o0:=Q.hpk f0' id;by_cases o:a.dfl=true/\(L.ofA a.num).isEmpty=true/\P.2.1.accts.contains a.num=false
    ·rw[bZ o]at j3;rw[cy,bZ (by rw[hcd,db o])];apply qSv0 (pt qa 3);obtain⟨W13,f13,x13,m13⟩:=VW false oq;apply ir f13;have p1' :=o1.mod m13 λpt y f e=>hXqa (hYfp f) e;have p2' :=m13.hpk o2 λe=>hXqa hYe e;have hn0qa:n0≠qa:=qZ;have p0' :=m13.hpk o0 hn0qa;have g:M0 W13 W13.drew:=mP;have p1:=p1'.md0 g;have p2:=g.hpk p2' id;have p0:=g.hpk p0' id;have px:=g.hpk x13 id;have M6d:de (λy=>y=qa) W6 W13.drew:=(Q.to).trans (m13.trans (g.to))
     try dsimp only
     generalize W13.drew=W14 at g p1 p2 p0 px M6d|-;apply dp (lv0 p0);simp only[eY,dr];refine dw (jk 1 qZ) (dp (ld1 _ p1.blk) ?_);apply dp (O6 px);have haU:=hpo.led.led.acc a ham;refine FL p1.led (by show 0<=a.num/\a.num<_;omega) λW15 q15 m15=>?_;have v15:=p1.setLed m15 q15;obtain⟨W16,f16,x16,m16⟩:=Hb (L.set {a with dfl:=false}).1 (m15.hpk p2 λo=>by have:=(J _ ⟨_,o⟩).2.2.1;exact this rfl);apply ir f16
     have hXm:de (λb=>X b\/qa<=b) W6 W16:=by
      refine(de.refl _ W6).on (((M6d.mono (G:=λy=>y=qa\/Y0 y) λy _ f=>.inl f).trans (m15.mono λy _ f=>.inr (hYfp f))).trans (m16.mono λy _ f=>.inr (by rw[f];exact hYe))) λy f=>?_;rcases f with f|f
      ·exact .inl gz
      ·exact .inl (.inl ((j y).2 f))
     exact hKN X W16 ⟨j,_,_,v15.mod m16 λpt y f e=>(J y ⟨pt,f⟩).2.2.1 e,x16,j3,by rw[rZ];exact j4⟩ hXm (z hXm.size)
    ·rw[aZ o]at j3;rw[cy,aZ (by rw[hcd,dN];exact o)];exact hKN X W12 ⟨j,e,L,o1,o2,j3,j4⟩ (Q.to) (z Q.size)
  ·rintro X W6 d2 hd2 ⟨j,e,L,j1,j2,j3,j4⟩ mW6 hdef2 hX6
   have j3' :freeL P.2.1.accts T.led.all 0 T.led=(e,L):=by
    have ee:freeL P.2.1.accts (T.led.all.drop T.led.all.length) e L=freeL P.2.1.accts T.led.all 0 T.led:=j3;rw[lv]at ee;rw[<-ee];rfl
   rw[j3']at t;unfold OE;simp only[iJ]
   have r6:=r4.mod mW6 (hYn (.inr (.inl rfl))) λy f o=>by
    rw[hY0]at o;rcases o with o|o
    ·exact(r4.nw y f).2.2 o
    ·have:=hslb y f;omega
   have d6:=mW6.hpk d4 (hYn (.inr (.inr rfl)))
   have M6:de (dY fp) w W6:=M4'.on mW6 λy f=>by
    rw[hY0]at f;rcases f with f|f
    ·exact(J y f).1.imp id λh' =>by omega
    ·exact gz
   have g:M0 W6 W6.drew:=mP;have hYd2:∀y,dY s y->y<d2:=λy f=>by have:=hW4 y f;omega
   have hsld2:∀y,cK sG y\/cK sA y->y<d2:=λy f=>by
    rcases f with f|f
    ·have:=r4.rp.go.lt f;omega
    ·have:=r4.rp.ac.lt f;omega
   exact tellS e P.2.1 {T with led:=L} D' s sG sA W6.drew [d2,d] t (j1.md0 g) (r6.mod g id eQ) (g.hpk j2 id) (M6.trans (g.to)) (λy f=>⟨(J y f).1.imp id λh' =>qZ,by have:=hYd2 y f;have:=(J y f).2.2.2;simp;omega⟩) (λy f=>⟨by have:=hslb y f;omega,by have:=hslb y f;have:=hsld2 y f;simp;omega⟩) (by simp;omega) (λx B=>by
    rcases cH.1 B with rfl|B
    ·exact⟨g.hpk hdef2 id,qZ⟩
    ·rw[eK.1 B];exact⟨g.hpk d6 id,qZ⟩)
 ·rintro cc X W d hd ⟨j,rfl,i1,i2,i3,i4⟩ mW hdef hX;have hs:S.settle=(M.1,zRp,{u with led:=M.2.1}):=by rw[t,bZ i4]
  unfold Jp;simp only[iJ]
  have M9:de (dY fp) w W:=M8.on mW λy f=>by
   rw[hX0]at f;rcases f with f|f|f|f
   ·exact .inl f
   ·exact gz
   ·exact gz
   ·exact gz
  exact tellR M.1 zRp _ D fp dv dv W [d] hs i1 (rp0' i3) i2 M9 (λy f=>⟨.inl f,by have:=haf y f;simp;omega⟩) (λy f=>nilH y f) (by simp) (λx B=>by rw[eK.1 B];exact⟨hdef,qZ⟩)
def Ge(h:C.Ok)(n:Int):(jy C n).2.Ok:=by
 unfold jy;split
 ·exact h
 ·obtain⟨i,g,j⟩:=sM (l:=C.l) (n:=n) (f:=λk=>{k with st:=3}) (λk e _=>⟨by
   obtain⟨a,b,c,d⟩:=h.ok k e;exact⟨⟨a.1,⟨by grind,by grind⟩,a.2.2⟩,b,c,by grind,by grind⟩,rfl⟩) h.ok h.srt
  exact⟨by show(lr _ _ _).length<=16;rw[j];exact h.len,h.day,i,g⟩
def yw(n m:Int):(eR (jy C n).2.l m).isSome=(eR C.l m).isSome:=by
 unfold jy;split
 ·rfl
 ·show(eR (lr C.l n λk=>{k with st:=3}) m).isSome=_;rw[vf (f:=λk=>{k with st:=3}) λ_ _=>rfl,qe]
def Hw{lo:Nat}{sG sA:Vt_}{r:Rp}{Z:NP_}{x:Int}{K:World->Prop}(h:BN W p sG sA r lo Z)(Q:r.gone.length<=1000000)(H:lo<=W.heap.size)(P:∀y,Z y->y<W.heap.size)
  (B:∀j m,BN m p j sA {r with gone:=r.gone++[x]} lo Z->de (λy=>y=p\/cK sG y) W m->(∀y,cK j y->cK sG y\/W.heap.size<=y)->K m):
  rx pQ (jQ 49 1 [(0,gQ x)]) W λv t=>rx pQ (eg #[49,49] 49 [sG,v]) t λD I=>rv pQ (iF lx (pt p 0) 5) I λu w=>ru pQ (iS 49 u D) w K:=by
 obtain⟨N,A,O⟩:=h.rp.isSl;have E:=cB h.at_;refine yM (x:=x) (f:=CB) yu (eO Ry) (λ_=>rfl) (CC x) rfl h.rp.go qZ qZ λo J s n q=>?_;refine qS0 ?_;obtain⟨a,M,l,-⟩:=s.isSl;obtain⟨F,C,G,k⟩:=E7 (L:=r.gone++[x]) (n.hpk h.at_ λg=>(h.nw p (.inl g)).2.1 rfl) ⟨_,_,_,l⟩ A;apply ir C
 have d:∀y,cK o y->lo<=y/\y≠p/\¬Z y/\¬cK sA y:=λy c=>by
  rcases q y c with i|i
  ·exact⟨(h.nw y (.inl i)).1,(h.nw y (.inl i)).2.1,(h.nw y (.inl i)).2.2,h.rp.d3 y i⟩
  ·exact⟨qZ,qZ,λg=>by grind,λg=>by have:=h.rp.ac.lt g;omega⟩
 refine B o F ⟨G,⟨(h.rp.tr.keep λb z=>(by cases z)),s.mod k λy c e=>(d y c).2.1 e,(h.rp.ac.mod n λy c g=>h.rp.d3 y g c).mod k λy c e=>(h.nw y (.inr c)).2.1 e,λy c=>(by cases c),λy c=>(by cases c),λy c=>(d y c).2.2.2⟩,λy c=>?_⟩ ((n.mono λy _ c=>.inr c).trans (k.mono λy _ c=>.inl c)) q;rcases c with c|c
 ·grind
 ·exact h.nw y (.inr c)
def xQ:∀(l:List Sd) (r:Rp) (S:Ven),(payL l r S).2.2.cal=S.cal/\∀m,((payL l r S).2.2.bd m).length<=(S.bd m).length
 | [],r,S=>⟨rfl,λ_=>cJ _⟩
 |s::l,r,S=>by
  have b:(if s.dfl then(S.clear s.acct 0).2 else S).cal=S.cal/\∀m,((if s.dfl then(S.clear s.acct 0).2 else S).bd m).length<=(S.bd m).length:=by
   split
   ·exact⟨rE _ _ _,λm=>Ei _ _ _ m⟩
   ·grind
  obtain⟨c,a⟩:=dW (if s.dfl then(S.clear s.acct 0).2 else S:Ven);rw[<-a]at b;unfold payL;simp only;rw[<-a];split
  ·exact b
  ·exact⟨(xQ l _ _).1.trans b.1,λm=>dD ((xQ l _ _).2 m) (b.2 m)⟩
def Iq(S:Ven)(won:Int->Int):(S.pay won).2.2.cal=S.cal/\∀m,((S.pay won).2.2.bd m).length<=(S.bd m).length:=by
 unfold Ven.pay;simp only;split
 ·grind
 ·split
  ·exact xQ _ _ _
  ·exact xQ (lP S.led.fund (S.dues won)).1 zRp S
def PF(S:Ven)(won:Int->Int):(S.pay won).2.2.cal=S.cal:=(Iq S won).1
def Ur(S:Ven)(won:Int->Int)(m:Int):((S.pay won).2.2.bd m).length<=(S.bd m).length:=(Iq S won).2 m
def Jw{F:NP_}{n:Int}(h:lw w v F S)(J:S.Ok)(hK:AK w v F (S.expire n) K):Ca pQ 89 #[eY v,gU n] w K:=by
 obtain⟨c,l,mb,md,A,D,fp,hr,hF⟩:=h;apply aw5;obtain⟨w1,e1,b1,m1⟩:=qy w;apply cI e1;obtain⟨q,hq⟩:=dW w.heap.size;rw[<-hq]at b1|-;have h1:=hr.md0 m1;have hqW1:=cB b1;have hfl:∀pt x,fp pt x->x<q:=λpt x hx=>by rw[hq];exact hr.lt hx
 have haf:∀x,dY fp x->x<q:=λx ⟨pt,hx⟩=>hfl pt x hx;have hFa:∀x,dY fp x↔F x:=λx=>(hF x).symm;have Q:∀{y},q<=y->¬dY fp y:=λd f=>by grind
 simp only[eY,dr];refine cI (jk 0 qZ _) (cI (EQ _ h1.blk) ?_);obtain⟨k,hk⟩:=dW ((iU S.cal.l n).1);refine Cp h1.cal λw2 m2=>?_;rw[<-hk];refine qS0 ?_;refine qS0 ?_;refine Ep λw3 b3 m3=>?_;obtain⟨qk,hqk⟩:=dW w2.heap.size;rw[<-hqk]at b3|-;have M3:=(m1.trans m2).trans m3;have h3:=hr.md0 M3;have r3:=m3.hpk (m2.hpk b1 id) id;have hqqk:q<qk:=by have:=m2.size;omega
 refine cI (jk 0 qZ _) (cI (EQ _ h3.blk) ?_);obtain⟨C,hC⟩:=dW (jy S.cal n);refine Km h3.cal λw4 q4 m4=>?_;rw[<-hC]at q4|-;have h4:=h3.setCal m4 q4 (λx hx=>.inl hx) (λm=>by rw[hC];exact yw n m);rw[xO]at h4;obtain⟨S0,E⟩:=dW ({S with cal:=C.2}:Ven);rw[<-E]at h4;have hcal0:S0.cal.Ok:=by rw[E,hC];exact Ge J.cal n
 have r4:=m4.hpk r3 λf=>Q (cJ _) ⟨_,f⟩;have b4:=m4.hpk b3 λf=>Q qZ ⟨_,f⟩;have M4:de (dY fp) w w4:=(M3.to).trans (m4.mono λy _ d=>⟨_,d⟩);obtain⟨M,hM⟩:=dW (S0.led.mark k.spec.num k.price true);obtain⟨S1,hS1⟩:=dW ({S0 with led:=M.2.2}:Ven);obtain⟨P,hP⟩:=dW (S1.pay (wonAdd noWon M.2.1))
 have g:S.expire n=if C.1≠0 then(C.1,zRp,S0)else if M.1≠0 then(M.1,zRp,S1)else if P.1≠0 then P else
   (0,{P.2.1 with gone:=(P.2.1.gone++(qi (P.2.2.bk n) 0).2.map (·.num))++(P.2.2.bd n).map (·.num)},{P.2.2 with bk:=upd P.2.2.bk n (qi (P.2.2.bk n) 0).1,bd:=upd P.2.2.bd n []}):=by
  rw[hP,hS1,hM,E,hC,hk];rfl
 have tell:∀(e:Int) (r:Rp) (T:Ven) (D' :List (Int×Value)) (p:Pt->Nat->Prop) (sG Y:Vt_) (W:Wt_),S.expire n=(e,r,T)->ik W v c l mb md A D' p T->BN W q sG Y r (q+1) (dY p)->de (dY fp) w W->(∀y,dY p y->dY fp y\/q<y)->
   rv pQ (iL lx (pt q 0)) W λv37 w38=>ru pQ (iS lx (pt q 0) v37) w38 λw39=>uc pQ (iL lx (pt q 0)) w39 λv40=>K (.tuple #[v40,gI e]) w39:=by
  intro e r T D' p sG Y W he a b m hup;obtain⟨t1,t2,t3⟩:=b.rp.isSl;apply cI (lB b.at_);obtain⟨W1,f1,x1,y1⟩:=pl (r:=r) b.at_ rfl ⟨t1,t2,t3⟩;refine ir f1 (dp (lB x1) ?_)
  have hqf:∀y,dY p y->y≠q:=λy d=>by
   rcases hup y d with o|o
   ·have:=haf y o;omega
   ·omega
  refine hK.tell (F' :=dY p) he (a.mod y1 λpt y d e=>hqf y ⟨pt,d⟩ e).q (b.rp.mod y1 λy d e=>?_) ((m.mono λy _ d=>(hFa y).1 d).on y1 λy d=>gz) (λy d=>(hup y d).imp (hFa y).1 λo=>qZ) λy d=>?_
  ·rcases d with d|d
   ·cases d
   ·exact(b.nw y d).2.1 e
  ·rcases d with d|d
   ·cases d
   ·have:=b.nw y d;exact⟨qZ,this.2.2⟩
 have rp0' :∀{W},hp W q=some (.cells (mC zRp dv dv dv).toArray lx (0,0))->BN W q dv dv zRp (q+1) (dY fp):=λhW=>⟨hW,vG.nil _ 0,λy d=>by rcases d with d|d<;>cases d⟩
 by_cases L:C.1≠0
 ·rw[bZ L]at g;refine qSt1 L ?_;exact tell C.1 zRp S0 D fp dv dv w4 g h4 (rp0' r4) M4 λy d=>.inl d
 rw[aZ L]at g;have hC0:C.1=0:=by simpa using L
 refine qSf1 hC0 ?_;obtain⟨mw,hmw⟩:=dW w4.heap.size;have m5:M0 w4 (w4.alloc (.map #[] 0)):=lm;have aw:fB iI Ox (w4.alloc (.map #[] 0)) mw ([]:List (Int×Int)):=by rw[hmw];exact fB.new w4
 apply cx (.map (some mw)) (w4.alloc (.map #[] 0)) (by rw[hmw];simp[go_sem]);generalize w4.alloc (.map #[] 0)=w5 at m5 aw|-;have h5:=h4.md0 m5;have r5:=m5.hpk r4 id;have b5:=m5.hpk b4 id;have pw:vJ w5 mw noWon:=⟨[],aw,λn=>rfl⟩
 have M5:=M4.trans (m5.to (G:=dY fp));have hq4:=cB r4;apply jq (fI k) 26 ME yV (eE k) (At.all b5);have hmwfp:¬dY fp mw:=Q qZ;have hS0l:S0.led=S.led:=by rw[E]
 have hlh:S0.led.held.length<4294967295:=by rw[hS0l];have:=xo J.cal J.led;omega
 show Ca pQ _ #[eY v,_,_,_] w5 _;refine Ie h5 pw hmwfp hlh (B:=0) (λn=>by show(-0:Int)<=0/\(0:Int)<=0;omega) qZ λw6 v6 w6' m6=>?_;rw[<-hM]at v6 w6' |-;rw[<-hS1]at v6
 have m6' :de (dY fp) w w6:=M5.on m6 λy d=>by
  rcases d with d|d
  ·exact .inl ⟨_,d⟩
  ·exact gz
 have hm6q:∀{y},q<=y->y≠mw->¬(fp .led y\/y=mw):=λh1 h2 f=>by
  rcases f with f|f
  ·exact Q h1 ⟨_,f⟩
  ·exact h2 f
 have r6:=m6.hpk r5 (hm6q (cJ _) qZ);by_cases hMe:M.1≠0
 ·rw[bZ hMe]at g;refine qSt1 hMe ?_;exact tell M.1 zRp S1 D fp dv dv w6 g v6 (rp0' r6) m6' λy d=>.inl d
 rw[aZ hMe]at g;have hM0:M.1=0:=by simpa using hMe
 refine qSf1 hM0 ?_;have hS1c:S1.cal=S0.cal:=by rw[hS1]
 have hS1b:S1.bd=S.bd:=by rw[hS1,E]
 have hbl1:∀m,(S1.bd m).length<=50:=λm=>by rw[hS1b];exact J.ord.bdl m
 obtain⟨hvl,hvb⟩:=AD (hS0l▸J.led.led:S0.led.Ok) k.spec.num k.price true;rw[<-hM]at hvl hvb;have hwb:=A0 (V:=1100000000000000) qZ M.2.1 (won:=noWon) (B:=0) (λn=>by show(-0:Int)<=0/\(0:Int)<=0;omega) λx hx=>(hvb x hx).1;show Ca pQ _ #[eY v,_] w6 _;refine LJ v6 (by grind) hbl1 w6' (λn=>by have:=hwb n;constructor<;>omega) λD' p sG Y w7 v7 r7 mp7 up7 sl7 gl7 al7=>?_;rw[<-hP]at v7 r7 gl7 al7|-;refine qS0 ?_;refine qS0 ?_;have q7:=mp7.hpk r6 (Q (cJ _));obtain⟨u1,u2,u3⟩:=r7.isSl;have hq6:q<w6.heap.size:=cB r6;obtain⟨w8,f8,x8,m8⟩:=pl (r:=P.2.1) q7 rfl ⟨u1,u2,u3⟩;apply ir f8
 have u:∀y,dY p y->(dY fp y\/q<y)/\y≠q:=λy d=>by
  rcases up7 y d with o|o
  ·have:=haf y o;exact⟨.inl o,qZ⟩
  ·exact⟨gz,qZ⟩
 have v8:=v7.mod m8 λpt y d e=>(u y ⟨pt,d⟩).2 e
 have r8:BN w8 q sG Y P.2.1 (q+1) (dY p):=⟨x8,r7.mod m8 λy d e=>by
  rcases d with d|d
  ·cases d
  ·have:=(sl7 y d).1;omega,λy d=>⟨by grind,by grind,(sl7 y d).2⟩⟩
 have M8:de (dY fp) w w8:=(m6'.trans mp7).on m8 λy d=>gz;by_cases hPe:P.1≠0
 ·rw[bZ hPe]at g;refine qSt1 hPe ?_;exact tell P.1 P.2.1 P.2.2 D' p sG Y w8 g v8 r8 M8 λy d=>(u y d).1
 rw[aZ hPe]at g;have hP0:P.1=0:=by simpa using hPe
 refine qSf1 hP0 ?_;obtain⟨T,hT⟩:=dW P.2.2;rw[<-hT]at v8 g
 have hTc:T.cal=S0.cal:=by
  rw[hT,hP]
  have:(S1.pay (wonAdd noWon M.2.1)).2.2.cal=S1.cal:=by
   have hpc:=PF S1 (wonAdd noWon M.2.1);exact hpc
  rw[this,hS1c]
 have hdue:qI S.cal n=0:=by
  apply dU;intro f;apply L;rw[hC];unfold jy;rw[bZ f];exact f
 obtain⟨k0,hk0,-⟩:=alive_get (zK hdue)
 have hsome:(eR T.cal.l n).isSome=true:=by
  rw[hTc,E];show(eR C.2.l n).isSome=true;rw[hC,yw,hk0];rfl
 have hTb:∀m,(T.bd m).length<=50:=λm=>by
  have:=Ur S1 (wonAdd noWon M.2.1) m;rw[<-hP,<-hT]at this;exact dD this (hbl1 m)
 obtain⟨b,hb,hB⟩:=Wm v8 hsome;refine cI (jk 2 qZ _) (cI (IL _ v8.blk) ?_);apply iW (xz v8.mbk hb);have hBl:=hB.all;refine KV hB λG so w9 q9 o9 m9 n9 s9=>?_;obtain⟨O,hO⟩:=dW ((qi (T.bk n) 0).2);have hOl:O.length<=200:=by rw[hO];exact HL hBl.1
 have v9:=v8.setBk hb m9 q9 n9;rw[<-hO]at o9 g;obtain⟨oa,oc,hso,-⟩:=o9.isSl;apply jm (gI (O.length:Int)) w9 (by rw[hso];simp[go_sem]);obtain⟨t,hfp2⟩:=dW (mj p (.bk n) G);obtain⟨T2,hT2⟩:=dW ({T with bk:=upd T.bk n (qi (T.bk n) 0).1}:Ven);rw[<-hfp2,<-hT2]at v9;have hw8q:q<w8.heap.size:=cB x8;have hup2:∀y,dY t y->dY p y\/w8.heap.size<=y:=by rw[hfp2];exact zX n9
 have hfB:∀y,p (.bk n) y->dY p y:=λy d=>⟨_,d⟩
 have s:∀y,dY t y->(dY fp y\/q<y)/\y≠q:=λy d=>by
  rcases hup2 y d with o|o
  ·exact u y o
  ·exact⟨gz,qZ⟩
 have hsl8:∀y,cK sG y\/cK Y y->y<w8.heap.size:=λy d=>by
  rcases d with d|d
  ·exact r8.rp.go.lt d
  ·exact r8.rp.ac.lt d
 have r9:BN w9 q sG Y P.2.1 (q+1) (dY t):=(r8.mod m9 (λf=>(u q (hfB _ f)).2 rfl) λy d f=>(r8.nw y d).2.2 (hfB _ f)).z λy d f=>by
  rcases hup2 y f with o|o
  ·exact(r8.nw y d).2.2 o
  ·have:=hsl8 y d;omega
 have M9:de (dY fp) w w9:=M8.on m9 λy d=>by
  rcases(u y (hfB _ d)).1 with o|o
  ·exact .inl o
  ·exact gz
 have hsoN:∀y,cK so y->w8.heap.size<=y/\¬dY t y/\y<w9.heap.size:=λy d=>⟨(s9 y d).1,λ⟨pt,f⟩=>by
  rw[hfp2]at f;by_cases U:pt=.bk n
  ·subst U;rw[ip]at f;exact(s9 y d).2 f
  ·rw[eH U]at f;have:=v8.lt f;have:=(s9 y d).1;omega,o9.lt d⟩
 have hs89:=m9.size
 refine eS (λst W=>∃(j:Nat) (I:Vt_),j<=O.length/\st=(gI j,())/\BN W q I Y {P.2.1 with gone:=P.2.1.gone++(O.take j).map (·.num)} (q+1) (dY t)/\de (λy=>y=q\/cK sG y) w9 W/\∀y,cK I y->cK sG y\/w9.heap.size<=y)
  (λst _=>match st.1 with| .int _ i=>O.length - i.toNat|_=>0) ⟨0,sG,qZ,rfl,by simpa using r9,lX,λy d=>.inl d⟩ ?_
 rintro⟨_,_⟩ W ⟨j,I,hj,⟨⟩,t1,t2,t3⟩ KM hKM;unfold Wg;intro _;have hsW:=t2.size
 have oW:qR W so O:=o9.mod t2 λy d f=>by
  have h1:=(hsoN y d).1;rcases f with f|f
  ·omega
  ·have:=hsl8 y (.inl f);omega
 have vW:=v9.mod t2 λpt y d f=>by
  rcases f with f|f
  ·exact(s y ⟨pt,d⟩).2 f
  ·exact(r9.nw y (.inl f)).2.2 ⟨pt,d⟩
 have MW:de (dY fp) w W:=M9.on t2 λy d=>by
  rcases d with d|d
  ·exact gz
  ·exact .inr (by grind)
 have hgl:(P.2.1.gone++(O.take j).map (·.num)).length<=300000:=by grind
 by_cases N:j<O.length
 ·have Z:(j:Int)<(O.length:Int):=qZ;refine qSt1 Z ?_;obtain⟨pj,p1,p2⟩:=J7 oW.rd N;refine cI p1 (cI p2 ?_);obtain⟨wa,ea,ba,ma⟩:=kD W;apply cI ea;obtain⟨q5,hq5⟩:=dW W.heap.size;rw[<-hq5]at ba|-;obtain⟨wb,eb,bb,mb'⟩:=jK (o' :=O[j]) ba;apply ir eb;have Mb:M0 W wb:=ma.on mb' λb hb=>gz;have tb:=t1.mod Mb id eQ;obtain⟨y1,y2,y3⟩:=tb.rp.isSl;refine qSv0 (pt q 5) (cI (Lp tb.at_ y2) ?_);refine cx (pt q5 0) wb (by simp[go_sem]) (cx (gQ O[j].num) wb (by simp[go_sem,bb,fL]) ?_);have hsb:=Mb.size;refine Hw tb (by grind) qZ (λy ⟨pt,d⟩=>by have:=vW.lt d;omega) λz wc rc mc nc=>?_;apply cx (gI ((j+1:Nat):Int)) wc (by simp[go_sem];rw[wI_]);refine hKM _ _ ⟨j+1,z,qZ,rfl,?_,(t2.trans (Mb.to)).on mc λy d=>?_,λy d=>?_⟩ (by show O.length - (((j+1:Nat):Int)).toNat<O.length - ((j:Int)).toNat;omega)
  ·rw[eA N,dy,<-df];exact rc
  ·rcases d with d|d
   ·exact .inl (.inl d)
   ·exact(t3 y d).imp .inr id
  ·rcases nc y d with o|o
   ·exact t3 y o
   ·exact gz
 ·obtain rfl:j=O.length:=qZ;refine qSf0 ?_;rw[cN]at t1 hgl;refine cI (jk 3 qZ _) (cI (AJ _ vW.blk) ?_);apply iW (uF vW.mbd n);have hbd:=vW.bd n;have hT2b:T2.bd=T.bd:=by rw[hT2]
  rw[hT2b]at hbd;obtain⟨Bd,hBd⟩:=dW (T.bd n);have hBdl:Bd.length<=50:=by grind
  rw[<-hBd]at hbd g;obtain⟨ba,bc,hbs,-⟩:=hbd.isSl;apply jm (gI (Bd.length:Int)) W (by rw[hbs];simp[go_sem]);obtain⟨r2,hr2⟩:=dW ({P.2.1 with gone:=P.2.1.gone++O.map (·.num)}:Rp);rw[<-hr2]at t1;have hr2g:r2.gone=P.2.1.gone++O.map (·.num):=by rw[hr2]
  rw[<-hr2g]at hgl
  refine eS (λst W2=>∃(j:Nat) (z:Vt_),j<=Bd.length/\st=(gI j,())/\BN W2 q z Y {r2 with gone:=r2.gone++(Bd.take j).map (·.num)} (q+1) (dY t)/\de (λy=>y=q\/cK I y) W W2/\∀y,cK z y->cK I y\/W.heap.size<=y)
   (λst _=>match st.1 with| .int _ i=>Bd.length - i.toNat|_=>0) ⟨0,I,qZ,rfl,by simpa using t1,lX,λy d=>.inl d⟩ ?_
  rintro⟨_,_⟩ W2 ⟨j,z,hj,⟨⟩,z1,z2,z3⟩ KN hKN;unfold WI;intro _;have hsW2:=z2.size
  have H:=vW.mod z2 λpt y d f=>by
   rcases f with f|f
   ·exact(s y ⟨pt,d⟩).2 f
   ·exact(t1.nw y (.inl f)).2.2 ⟨pt,d⟩
  have oW2:qR W2 (rz D' n) Bd:=by have:=H.bd n;rw[hT2b,<-hBd]at this;exact this
  have MW2:de (dY fp) w W2:=MW.on z2 λy d=>by
   rcases d with d|d
   ·exact gz
   ·exact .inr (by grind)
  have hgl2:(r2.gone++(Bd.take j).map (·.num)).length<=400000:=by grind
  by_cases N:j<Bd.length
  ·have Z:(j:Int)<(Bd.length:Int):=qZ;refine qSt1 Z ?_;obtain⟨pj,p1,p2⟩:=J7 oW2.rd N;refine cI p1 (cI p2 ?_);obtain⟨wa,ea,ba',ma⟩:=kD W2;apply cI ea;obtain⟨q5,hq5⟩:=dW W2.heap.size;rw[<-hq5]at ba' |-;obtain⟨wb,eb,bb,mb'⟩:=jK (o' :=Bd[j]) ba';apply ir eb;have Mb:M0 W2 wb:=ma.on mb' λb hb=>gz;have tb:=z1.mod Mb id eQ;obtain⟨y1,y2,y3⟩:=tb.rp.isSl;refine qSv0 (pt q 5) (cI (Lp tb.at_ y2) ?_);refine cx (pt q5 0) wb (by simp[go_sem]) (cx (gQ Bd[j].num) wb (by simp[go_sem,bb,fL]) ?_);have hsb:=Mb.size;refine Hw tb (by show(r2.gone++(Bd.take j).map (·.num)).length<=_;omega) qZ (λy ⟨pt,d⟩=>by have:=H.lt d;omega) λsG3 wc rc mc nc=>?_;apply cx (gI ((j+1:Nat):Int)) wc (by simp[go_sem];rw[wI_]);refine hKN _ _ ⟨j+1,sG3,qZ,rfl,?_,(z2.trans (Mb.to)).on mc λy d=>?_,λy d=>?_⟩ (by grind)
   ·rw[eA N,dy,<-df];exact rc
   ·rcases d with d|d
    ·exact .inl (.inl d)
    ·exact(z3 y d).imp .inr id
   ·rcases nc y d with o|o
    ·exact z3 y o
    ·exact gz
  ·obtain rfl:j=Bd.length:=qZ;refine qSf0 ?_;rw[cN]at z1;refine cI (jk 3 qZ _) (cI (AJ _ H.blk) ?_);refine Em (enc:=iI) (ev:=yh) (x:=n) xn rP (.inr ⟨md,rfl,H.mbd⟩) λW3 a3 m3' hs3=>?_;have X:de (λy=>y=md) W2 W3:=m3'.mono λy _ d=>by cases d;rfl
   have a3' :fB iI yh W3 md (DF D' n):=by
    rcases a3 with⟨o,-⟩|⟨b',o,h''⟩
    ·cases o
    ·cases o;exact h''
   have v10:=H.delBd a3' X;have R:dY t md:=⟨.md,(H.fmd md).2 rfl⟩
   have z10:BN W3 q z Y {r2 with gone:=r2.gone++Bd.map (·.num)} (q+1) (dY t):=z1.mod X (λe=>(s md R).2 e.symm) λy d e=>(z1.nw y d).2.2 (by rw[e];exact R)
   have hres:S.expire n=(0,{r2 with gone:=r2.gone++Bd.map (·.num)},{T2 with bd:=upd T2.bd n []}):=by
    rw[g,hr2,hT2,hBd]
   have hsub:∀y,dY (mj t (.bd n) λ_=>False) y->dY t y:=λy ⟨pt,d⟩=>by
    by_cases U:pt=.bd n
    ·subst U;rw[ip]at d;exact d.elim
    ·rw[eH U]at d;exact⟨pt,d⟩
   exact tell 0 _ _ (DF D' n) _ z Y W3 hres v10 (z10.z λy d f=>(z10.nw y d).2.2 (hsub y f)) (MW2.on X λy d=>by
    rw[d];rcases(s md R).1 with o|o
    ·exact .inl o
    ·exact gz) λy d=>(s y (hsub y d)).1
end Go.Proofs
