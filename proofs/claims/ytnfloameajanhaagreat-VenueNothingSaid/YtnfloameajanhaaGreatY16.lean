/- Part of a proof. -/
import Derived.Test.YtnfloameajanhaaGreatY15
set_option linter.all false
namespace Go.Proofs
open Go Go.Vc
attribute [local congr] cR
variable {c x:Cm}{Z:NP_}{p lo:Nat}{P:Program}{r:Rp}{sT:Vt_}{w W:Wt_}{K:cG}
abbrev V1(w:Wt_)(s:Vt_)(l:List Td):Prop:=jo w Vy 4 s l.length (l.flatMap Fg)
def UD{t:Td}(f:∀a b,b=w.heap.size->V1 a (.slice (some ⟨b,0,none⟩) 1 1) [t]->M0 w a->K (.slice (some ⟨b,0,none⟩) 1 1) a):rx pQ (jQ 48 1 [(0,PS t)]) w K:=by
 refine oJ [PS t] JA (eO eTd) rfl rfl (by intro v e;rw[eK.1 e];rfl) qZ ?_;have d:(([PS t]:LV_).flatMap (·.cells.toList)).toArray=(Fg t).toArray:=rfl;rw[d];exact f _ _ rfl ⟨rfl,.inr ⟨_,1,[],rfl,cJ _,by rw[gy,bZ rfl];simp,by simp,by simp⟩⟩ lm
def U4{s s1:Vt_}{L:List Td}{t:Td}(h:V1 w s L)(g:V1 w s1 [t])(k:L.length<=100000)
  (i:∀a d,V1 d a (L++[t])->de (cK s) w d->(∀b,cK a b->cK s b\/w.heap.size<=b)->K a d):rx pQ (eg #[48,48] 48 [s,s1]) w K:=by
 refine jR JA JA (eO eTd) h g.rd (by show(Fg t++[]).all _=true;rw[ew];exact LV t) (by grind) λa d e j f=>i a d ?_ j f;rw[<-eJ]at e;show jo d Vy 4 a (L++[t]).length _;rw[cD];exact e
structure B5(w:Wt_)(p:Nat)(sT:Vt_)(r:Rp)(lo:Nat)(Z:NP_):Prop where
 at_:hC w p (mC r sT dv dv).toArray lx
 own:V1 w sT r.trades
 g0:r.gone=[]
 a0:r.accts=[]
 nw:∀y,cK sT y->lo<=y/\y≠p/\¬Z y
def B5.mod{F:NP_}{w' :Wt_}(h:B5 w p sT r lo Z)(a:de F w w')(d:¬F p)(b:∀y,cK sT y->¬F y):B5 w' p sT r lo Z:=
 ⟨a.hpk h.at_ d,h.own.mod a b,h.g0,h.a0,h.nw⟩
def B5.z{b:NP_}(h:B5 w p sT r lo Z)(d:∀y,cK sT y->¬b y):B5 w p sT r lo b:=⟨h.at_,h.own,h.g0,h.a0,λy a=>⟨(h.nw y a).1,(h.nw y a).2.1,d y a⟩⟩
def B5.q(h:B5 w p sT r lo Z):vG w sT dv dv r:=by
 refine⟨h.own,?_,?_,λx _ a=>(by cases a),λx _ a=>(by cases a),λx a=>(by cases a)⟩
 ·rw[h.g0];exact jo.nil _ _ _
 ·rw[h.a0];exact jo.nil _ _ _
section
variable{W:Wt_}{q:Nat}{r:Rp}{sT:Vt_}
def L4(h:hC W q (mC r sT dv dv).toArray lx)(b:∃a n c,sT=.slice a n c):(iL 48 (pt q 4)).run pQ W=.ok sT W:=by
 obtain⟨_,_,_,rfl⟩:=b;simp[go_sem,h,mC]
def Z1(h:hC W q (mC r sT dv dv).toArray lx):(iL 2 (pt q 2)).run pQ W=.ok (gI r.filled) W:=by simp[go_sem,h,mC]
def ZR(h:hC W q (mC r sT dv dv).toArray lx):(iL 2 (pt q 3)).run pQ W=.ok (gI r.left) W:=by simp[go_sem,h,mC]
def Sv{d:Vt_}{L:List Td}(h:hC W q (mC r sT dv dv).toArray lx)(f:∃a n c,d=.slice a n c)(g:∃a n c,sT=.slice a n c):
  ∃e,(iS 48 (pt q 4) d).run pQ W=.ok () e/\hC e q (mC {r with trades:=L} d dv dv).toArray lx/\de (λb=>b=q) W e:=by
 obtain⟨_,_,_,rfl⟩:=g;obtain⟨a,n,c,rfl⟩:=f;unfold mC at h;exact⟨W.setCell ⟨q,4,none⟩ (.slice a n c),by simp[go_sem,h],by simp[go_sem,h,mC],(de.refl (λb=>b=q) W).sc⟩
def Yh(x:Int)(h:hC W q (mC r sT dv dv).toArray lx):
  ∃a,(iS 2 (pt q 2) (gI x)).run pQ W=.ok () a/\hC a q (mC {r with filled:=x} sT dv dv).toArray lx/\de (λb=>b=q) W a:=by
 unfold mC at h;exact⟨W.setCell ⟨q,2,none⟩ (gI x),by simp[go_sem,h],by simp[go_sem,h,mC],(de.refl (λb=>b=q) W).sc⟩
def Xs(x:Int)(h:hC W q (mC r sT dv dv).toArray lx):
  ∃a,(iS 2 (pt q 3) (gI x)).run pQ W=.ok () a/\hC a q (mC {r with left:=x} sT dv dv).toArray lx/\de (λb=>b=q) W a:=by
 unfold mC at h;exact⟨W.setCell ⟨q,3,none⟩ (gI x),by simp[go_sem,h],by simp[go_sem,h,mC],(de.refl (λb=>b=q) W).sc⟩
end
def OD:∀{l:List Int},(∀x∈l,0<=x)->0<=l.sum/\∀x∈l,x<=l.sum
 | [],_=>⟨by simp,by simp⟩
 |a::l,h=>by
  have d:=h a (cw ..);have⟨h2,h3⟩:=OD (l:=l) λx b=>h x (cu _ b);rw[di];refine⟨qZ,λx b=>?_⟩;rcases cH.1 b with rfl|b
  ·omega
  ·have:=h3 x b;omega
def IQ(q:Int)(l:List Hd):(qT q l).1.length<=64/\∀h∈(qT q l).1,(0<=h.q/\h.q<=10000000)/\∃d∈l,d.acct=h.acct:=by
 unfold qT;split
 ·simp
 ·split
  ·simp
  ·split
   ·simp
   ·split
    ·simp
    ·rename_i y k z p
     have e:=splitR_sum (t:=zt q) (l:=l.map λd=>rQ q d.q) (by simpa using p)
     have o:amongB q (-10000000) 10000000=true:=by
      cases m:amongB q (-10000000) 10000000 with
      |true=>rfl
      |false=>exact absurd (.inr (.inl m)) k
     have n:=amongB_iff.1 o;have g:zt q<=10000000:=by unfold zt;omega
     have f:=OD e.2.2.1;refine⟨?_,λh i=>?_⟩
     ·unfold vU;rw[cz];exact dD (dm _ _) (by grind)
     ·unfold vU at i;obtain⟨x,u,rfl⟩:=cF.1 i;have a:=(cO.1 u).1;have b:=List.of_mem_zip a;have j:=e.2.2.1 _ b.2;have s:=f.2 _ b.2;rw[e.2.1]at s;exact⟨⟨j,by grind⟩,x.1,b.1,rfl⟩
section
variable{w:Wt_}{K:cG}{v c l mb md:Nat}{A:List (Int×Nat)}{D:List (Int×Value)}{fp:Pt->Nat->Prop}{S:Ven}
def J5{k:Ct}{a q' :Int}{long:Bool}{p pk pa lo:Nat}{sT:Vt_}{r:Rp}{x1:Vt_}{x2:Value×Unit}(h:ik w v c l mb md A D fp S)(hlen:S.led.held.length<4294967295)(hn:pL k.spec.num)(hq64:jl q')
  (bk:hC w pk (fI k).toArray oT)(ba:hC w pa #[.int .u32 a] 23)(hr:B5 w p sT r lo (dY fp))(hpk:¬dY fp pk/\pk≠p/\¬cK sT pk)(hpa:¬dY fp pa/\pa≠p/\¬cK sT pa)(hpf:¬dY fp p)(hlo:lo<=w.heap.size)
  (hb:(0<=r.left/\r.left<=1000000000000)/\r.trades.length<=10000)
  (hK:∀J w' Y,Y=(if(qT q' (((S.led.holders k.spec.num).filter λp=>decide (p.a≠a)).map λp=>⟨p.a,p.q⟩)).2≠0 then((qT q' (((S.led.holders k.spec.num).filter λp=>decide (p.a≠a)).map λp=>⟨p.a,p.q⟩)).2,r,S)else partsL k.spec.num a long k.price (qT q' (((S.led.holders k.spec.num).filter λp=>decide (p.a≠a)).map λp=>⟨p.a,p.q⟩)).1 r S)->
   ik w' v c l mb md A D fp Y.2.2->B5 w' p J Y.2.1 lo (dY fp)->de (λy=>fp .led y\/y=p\/cK sT y) w w' ->(∀y,cK J y->cK sT y\/w.heap.size<=y)->(0<=Y.2.1.left/\Y.2.1.left<=r.left+640000000)/\Y.2.1.trades.length<=r.trades.length+64/\Y.2.1.filled=r.filled->K (gI Y.1) w'):
  JU (eY v) (gU k.spec.num) (pt pa 0) K (pt pk 0) (.bool long) (pt p 0) (gI 0,x1,x2) (gI q',()) w:=by
 unfold JU;intro _;obtain⟨X,hX⟩:=dW (qT q' (((S.led.holders k.spec.num).filter λp=>decide (p.a≠a)).map λp=>(⟨p.a,p.q⟩:Hd)));rw[<-hX]at hK;obtain⟨hXl,hXb⟩:=IQ q' (((S.led.holders k.spec.num).filter λp=>decide (p.a≠a)).map λp=>(⟨p.a,p.q⟩:Hd));rw[<-hX]at hXl hXb;have u:S.led.Ok:=by obtain⟨-,hok⟩:=h.led;exact hok
 obtain⟨F,hph⟩:=dW w.heap.size;have m1:M0 w (w.alloc (.cells #[dv] 288)):=lm;have b1:hC (w.alloc (.cells #[dv] 288)) F #[dv] 288:=by rw[hph];simp[go_sem]
 apply cx (pt F 0) (w.alloc (.cells #[dv] 288)) (by rw[hph];simp[go_sem,dv]);generalize w.alloc (.cells #[dv] 288)=w1 at m1 b1|-;have h1:=h.md0 m1;simp only[eY,dr];refine cI (jk 1 qZ _) (cI (ld1 _ h1.blk) ?_);refine yJ h1.led hlen λgv w2 ht m2=>?_;have M2:=m1.trans m2;have a2:=M2.hpk ba id;have b2:=m2.hpk b1 id;have hph2:=cB b2;have hpkw:=cB bk;have hpaw:=cB ba;have hpw:=cB hr.at_;obtain⟨H,hH⟩:=dW (S.led.holders k.spec.num);have hHl:H.length<=64:=by rw[hH];exact tV u _
 have hHm:∀p∈H,p∈S.led.held:=λp hp=>by rw[hH]at hp;exact(cO.1 hp).1
 rw[<-hH]at ht hX;let hd:Po->Hd:=λp=>⟨p.a,p.q⟩
 let s:List Po->List Hd:=λl=>(l.filter λp=>decide (p.a≠a)).map hd;let I:(Nat->Prop)->Nat->World->Prop:=λQ i W=>∃sl,hC W F #[sl] 288/\jo W 290 2 sl (s (H.take i)).length ((s (H.take i)).flatMap EH)/\(∀y,Q y↔y=F\/cK sl y)/\∀y,cK sl y->F<y
 delta Ra
 refine zj (X0:=λx=>x=F) (T:=79) (fc:=ec) ht.m rS.po I (λ_ _ _=>False) ?_ (λ_ _ _ _ _ h=>h.elim) (λx hx=>qZ) ⟨dv,b2,jo.nil _ _ _,λy=>⟨.inl,λg=>g.elim id λg=>by cases g⟩,λy g=>(by cases g)⟩ ?_ ?_ (λ_ _ _ _ _ h=>h.elim)
 ·rintro Q i W W' G ⟨sl,i1,U,i3,i4⟩ hm hQ;exact⟨sl,hm.hpk i1 (hQ _ ((i3 _).2 (.inl rfl))),U.mod hm λy g=>hQ y ((i3 y).2 (.inr g)),i3,i4⟩
 ·rintro Q i hi W rr ⟨sl,i1,U,i3,i4⟩ mW hQ hdq hqW zgq KN KJ hKN hKJ;obtain⟨po,hpo⟩:=dW (H[i]);rw[<-hpo]at zgq;unfold ec at zgq;obtain⟨sa,sc,hsl,-⟩:=U.isSl;have aW:=mW.hpk a2 qZ;have htk:=eA hi;rw[<-hpo]at htk;have hQs:∀b,Q b->b<W.heap.size:=λb hb=>by grind
  refine cx (pt rr 1) W (by simp[go_sem]) (cx (gU po.a) W (by simp[go_sem,zgq]) ?_);refine qS1 aW ?_;by_cases O:po.a≠a
  ·refine qSt1 O ?_;apply cx sl W (by rw[hsl]at i1|-;simp[go_sem,i1]);refine cx (pt rr 1) W (by simp[go_sem]) (cx (gU po.a) W (by simp[go_sem,zgq]) ?_);refine cx (pt rr 2) W (by simp[go_sem]) (cx (gI po.q) W (by simp[go_sem,zgq]) ?_);apply cx (UC (hd po)) W (by simp[go_sem,UC,EH,hd])
   have hl64:(s (H.take i)).length<=64:=by
    show(((H.take i).filter _).map hd).length<=_;rw[cz];exact dD (dm _ _) (by grind)
   refine yM (x:=hd po) (f:=EH) XV (eO eHd) E9 (LS _) rfl U qZ qZ λs' B o1 mo n1=>?_;obtain⟨ta,tc,hs',-⟩:=o1.isSl;have hpW:=cB i1;have z1:=mo.hpk i1 λm=>by have:=i4 _ m;omega
   apply pH (B.setCell ⟨F,0,none⟩ s') (by rw[hs'];simp[go_sem,z1]);have mS:de (λy=>y=F) B (B.setCell ⟨F,0,none⟩ s'):=(de.refl (λy=>y=F) B).sc;have bS:hC (B.setCell ⟨F,0,none⟩ s') F #[s'] 288:=by simp[go_sem,z1]
   generalize B.setCell ⟨F,0,none⟩ s' =W2 at mS bS|-;have hsW:=mo.size;have hs2W:=mS.size
   have hn4:∀y,cK s' y->F<y:=λy g=>by
    rcases n1 y g with z|z
    ·exact i4 y z
    ·omega
   refine hKN (λy=>y=F\/cK s' y) W2 ⟨s',bS,?_,λy=>fd,hn4⟩ ((mo.mono λy _ g=>(i3 y).2 (.inr g)).trans (mS.mono λy _ g=>(i3 y).2 (.inl g))) λy g=>?_
   ·have e:s (H.take (i+1))=s (H.take i)++[hd po]:=by
     show((H.take (i+1)).filter _).map hd=_;rw[htk,dJ,dI (by simpa using O),iz,dy];rfl
    rw[e];exact o1.mod mS λy g e=>by have:=hn4 y g;omega
   ·rcases g with rfl|g
    ·grind
    ·refine⟨(n1 y g).imp (λz=>(i3 y).2 (.inr z)) id,?_⟩;have:=o1.lt g;omega
  ·have hpa0:po.a=a:=by simpa using O
   refine qSf1 hpa0 ?_;refine hKN Q W ⟨sl,i1,?_,i3,i4⟩ lX λb hb=>⟨.inl hb,hQs b hb⟩
   have e:s (H.take (i+1))=s (H.take i):=by
    show((H.take (i+1)).filter _).map hd=_;rw[htk,dJ,cY (by simpa using O),iz,ew]
   rw[e];exact U
 ·rintro Q W d hd' ⟨sl,i1,U,i3,i4⟩ mW hdef hQ;replace U:jo W 290 2 sl (s (H.take H.length)).length ((s (H.take H.length)).flatMap EH):=U;rw[cN]at U;obtain⟨sa,sc,hsl,-⟩:=U.isSl;have MW:M0 w W:=M2.on mW λy g=>gz;have h3:=h.md0 MW;have k3:=MW.hpk bk id;have a3:=MW.hpk ba id;have r3:=hr.mod MW id eQ;have hdw:w.heap.size<d:=qZ;unfold OJ;simp only[iJ];apply cx sl W (by rw[hsl]at i1|-;simp[go_sem,i1])
  have hsel64:(s H).length<=64:=by
   show((H.filter _).map hd).length<=_;rw[cz];exact dD (dm _ _) hHl
  refine Mv (l:=s H) (q:=q') U.rd qZ (λx hx=>?_) hq64 λs' w4 o4 m4 n4=>?_
  ·obtain⟨po,hpo,rfl⟩:=cF.1 hx;obtain⟨g1,g2,g3,g4,g5,g6,g7,ac,hac,hae⟩:=u.pos po (hHm po (cO.1 hpo).1);have:=u.acc ac hac;have hMP:MP=10000000:=rfl;exact⟨⟨by grind,by grind⟩,⟨by grind,by grind⟩⟩
  have hXs:X=qT q' (s H):=hX;rw[<-hXs]at o4|-;refine qS0 ?_;refine qS0 ?_;have M4:=MW.trans m4;have h4:=h3.md0 m4;have k4:=m4.hpk k3 id;have a4:=m4.hpk a3 id;have r4:=r3.mod m4 id eQ;have d4:=m4.hpk hdef id;have hs4:=M4.size;have hdlt4:=cB d4
  have tell:∀(Y:Int×Rp×Ven) (J:Vt_) (W' :Wt_),Y=(if X.2≠0 then(X.2,r,S)else partsL k.spec.num a long k.price X.1 r S)->ik W' v c l mb md A D fp Y.2.2->B5 W' p J Y.2.1 lo (dY fp)->de (λy=>fp .led y\/y=p\/cK sT y) w W' ->(∀y,cK J y->(cK sT y\/w.heap.size<=y)/\y≠d)->
    (0<=Y.2.1.left/\Y.2.1.left<=r.left+640000000)/\Y.2.1.trades.length<=r.trades.length+64/\Y.2.1.filled=r.filled->hp W' d=some (.deferred (some []))->lj ([d]++[]) W' λw307=>K (gI Y.1) w307:=by
   intro Y J W' hY a1 b1 m1 n1 hb1 hd1;refine Bz hd1 λW3 mr=>?_;refine hK J W3 Y hY (a1.mod mr λpt y g e=>?_) (b1.mod mr qZ λy g e=>(n1 y g).2 e) (m1.on mr λy g=>gz) (λy g=>(n1 y g).1) hb1;have:=h.lt g;omega
  by_cases hXe:X.2≠0
  ·refine qSt1 hXe ?_;have:=tell (X.2,r,S) sT w4 (by rw[bZ hXe]) h4 r4 (M4.to) (λy g=>⟨.inl g,by have:=hr.own.lt g;omega⟩) ⟨⟨hb.1.1,by grind⟩,by grind,rfl⟩ d4;exact this
  have hX0:X.2=0:=by simpa using hXe
  refine qSf1 hX0 ?_;obtain⟨pa',pc',hps,-⟩:=o4.isSl;apply jm (gI (X.1.length:Int)) w4 (by rw[hps];simp[go_sem]);have hs'b:∀y,cK s' y->d<y/\y<w4.heap.size:=λy g=>⟨by have:=n4 y g;have:=cB hdef;omega,o4.lt g⟩
  refine eS (λst B=>∃(j:Nat) (t:Rp) (P:Led) (C:Vt_),j<=X.1.length/\st=(gI 0,gI j,())/\partsL k.spec.num a long k.price (X.1.drop j) t {S with led:=P}=partsL k.spec.num a long k.price X.1 r S/\ik B v c l mb md A D fp {S with led:=P}/\B5 B p C t lo (dY fp)/\de (λy=>fp .led y\/y=p\/cK sT y) w4 B/\(∀y,cK C y->cK sT y\/w4.heap.size<=y)/\
    (0<=t.left/\t.left<=r.left+10000000*j)/\t.trades.length<=r.trades.length+j/\t.filled=r.filled)
   (λst _=>match st.2.1 with| .int _ i=>X.1.length - i.toNat|_=>0) ⟨0,r,S.led,sT,qZ,rfl,rfl,h4,r4,lX,λy g=>.inl g,⟨hb.1.1,qZ⟩,qZ,rfl⟩ ?_
  rintro _ B ⟨j,t,P,C,hj,rfl,j1,j2,j3,j4,j5,j6,j7,j8⟩ KM hKM;unfold Kc;intro _;have hsTw:∀y,cK sT y->y<w.heap.size:=λy g=>hr.own.lt g;have hlw:∀{y},fp .led y->y<w.heap.size:=λg=>h.lt g
  have hkp:∀{y},w.heap.size<=y->¬(fp .led y\/y=p\/cK sT y):=λg m=>by
   rcases m with m|m|m
   ·have:=hlw m;omega
   ·omega
   ·grind
  have d1:=j4.hpk d4 (hkp qZ)
  have k1:=j4.hpk k4 λm=>by
    rcases m with m|m|m;·exact hpk.1 ⟨_,m⟩
    ·exact hpk.2.1 m
    ·exact hpk.2.2 m
  have a1:=j4.hpk a4 λm=>by
    rcases m with m|m|m;·exact hpa.1 ⟨_,m⟩
    ·exact hpa.2.1 m
    ·exact hpa.2.2 m
  have o1:=o4.mod j4 λy g=>hkp (by grind);have hsW1:=j4.size;have MwW1:de (λy=>fp .led y\/y=p\/cK sT y) w B:=(M4.to).trans j4;by_cases hlt:j<X.1.length
  ·have hlt' :(j:Int)<(X.1.length:Int):=qZ;apply cx (.bool true) B (by simp[go_sem];omega);rw[kx];obtain⟨n,hhh⟩:=dW (X.1[j]);have hdrop:X.1.drop j=n::X.1.drop (j+1):=by rw[hhh];exact fF hlt
   rw[hdrop]at j1;have hhb:=(hXb n (by grind)).1;obtain⟨b0,off0,f1,f2,-⟩:=Ti o1.rd hlt;rw[<-hhh]at f2;refine cI (f1 B) (cI f2 ?_);obtain⟨wa,wb,ea,eb,bb,M⟩:=O0 n B;refine cI ea (ir eb ?_);obtain⟨qs,hqs⟩:=dW B.heap.size;rw[<-hqs]at bb|-;unfold EH at bb;have k5:=M.hpk k1 id;have a5:=M.hpk a1 id;have h5:=j2.md0 M;have r5:=j3.mod M id eQ;have d5:=M.hpk d1 id;have hsb:=M.size;apply jq (fI k) 26 ME yV (eE k) (At.all k5);refine qS1 a5 ?_;refine cx (pt qs 0) wb (by simp[go_sem]) (cx (gU n.acct) wb (by simp[go_sem,bb]) ?_);refine cx (pt pk 26) wb (by simp[go_sem]) (cx (gI k.price) wb (by simp[go_sem,k5,Hs]) ?_);refine cx (pt qs 1) wb (by simp[go_sem]) (cx (gI n.q) wb (by simp[go_sem,bb]) ?_);show Ca pQ _ #[eY v,_,_,_,_,_,_] wb _;refine GM (k:=k) h5 hn λw6 v6 m6=>?_;obtain⟨Y,hY⟩:=dW (swapL P k.spec.num a n.acct long k.price n.q);replace v6:ik w6 v c l mb md A D fp {S with led:=(swapL P k.spec.num a n.acct long k.price n.q).2}:=v6;show rv pQ (qE .neq 43 true (gI (swapL P k.spec.num a n.acct long k.price n.q).1) (gI 0)) w6 _;have hpl:partsL k.spec.num a long k.price (n::X.1.drop (j+1)) t {S with led:=P}=if(swapL P k.spec.num a n.acct long k.price n.q).1≠0 then((swapL P k.spec.num a n.acct long k.price n.q).1,t,{S with led:=(swapL P k.spec.num a n.acct long k.price n.q).2})else partsL k.spec.num a long k.price (X.1.drop (j+1)) {t with left:=t.left+n.q,trades:=t.trades++[⟨k.price,n.q,0,n.acct⟩]} {S with led:=(swapL P k.spec.num a n.acct long k.price n.q).2}:=rfl
   rw[hpl]at j1;rw[<-hY]at v6 j1|-;have R:∀{y},w.heap.size<=y->¬fp .led y:=λg m=>by grind
   have r6:=r5.mod m6 (λm=>hpf ⟨_,m⟩) λy g m=>(j3.nw y g).2.2 ⟨_,m⟩;have d6:=m6.hpk d5 (R qZ);have k6:=m6.hpk k5 λm=>hpk.1 ⟨_,m⟩;have bb6:=m6.hpk bb (R qZ);have hs6:=m6.size;have M16:de (λy=>fp .led y\/y=p\/cK sT y) w4 w6:=(j4.trans (M.to)).trans (m6.mono λy _ g=>.inl g);by_cases hye:Y.1≠0
   ·rw[bZ hye]at j1;refine qSt1 hye ?_;refine tell (Y.1,t,{S with led:=Y.2}) C w6 (by grind) v6 r6 ((M4.to).trans M16) (λy g=>⟨(j5 y g).imp id λz=>qZ,?_⟩) ⟨⟨j6.1,by grind⟩,by grind,j8⟩ d6;rcases j5 y g with z|z
    ·grind
    ·omega
   rw[aZ hye]at j1;have hy0:Y.1=0:=by simpa using hye
   refine qSf1 hy0 ?_;simp only[dr];have o:M0 w6 w6.drew:=mP;have v7:=v6.md0 o;have r7:=r6.mod o id eQ;have d7:=o.hpk d6 id;have k7:=o.hpk k6 id;have bb7:=o.hpk bb6 id;have hs7:w6.drew.heap.size=w6.heap.size:=rfl;have M17:=M16.trans (o.to (G:=λy=>fp .led y\/y=p\/cK sT y))
   try dsimp only
   generalize w6.drew=w7 at o v7 r7 d7 k7 bb7 hs7 M17|-;refine qPv0 (pt p 3) (dp (ZR r7.at_) ?_);refine qPv0 (pt qs 1) (qWv1 (gI n.q) bb7 ?_);apply dX (gI (t.left+n.q)) (λ_=>by simp[go_sem];rw[wI_]);refine qP0 ?_;obtain⟨w8,e8,at8,m8⟩:=Xs (t.left+n.q) r7.at_;apply ir e8;have hpfp:∀pt y,fp pt y->y≠p:=λpt y g e=>hpf (e▸⟨pt,g⟩);have v8:=v7.mod m8 λpt y g e=>hpfp pt y g e;have own8:=r7.own.mod m8 λy g e=>(r7.nw y g).2.1 e;have d8:=m8.hpk d7 qZ;have k8:=m8.hpk k7 hpk.2.1;have bb8:=m8.hpk bb7 qZ;have hs8:=m8.size;have M18:=M17.trans (m8.mono (G:=λy=>fp .led y\/y=p\/cK sT y) λy _ g=>.inr (.inl g));have o:M0 w8 w8.drew:=mP;have v9:=v8.md0 o;have at9:=o.hpk at8 id;have N:V1 w8.drew C t.trades:=own8.mod o eQ;have d9:=o.hpk d8 id;have k9:=o.hpk k8 id;have bb9:=o.hpk bb8 id;have hs9:w8.drew.heap.size=w8.heap.size:=rfl;have M19:=M18.trans (o.to (G:=λy=>fp .led y\/y=p\/cK sT y))
   try dsimp only
   generalize w8.drew=w9 at o v9 at9 N d9 k9 bb9 hs9 M19|-;obtain⟨sa1,sc1,V,-⟩:=N.isSl;refine qPv0 (pt p 4) (dp (L4 at9 ⟨_,_,_,V⟩) ?_);refine qPv0 (pt pk 26) (qWv2 (gI k.price) k9 Hs ?_);refine qPv0 (pt qs 1) (qWv1 (gI n.q) bb9 ?_);refine qPv0 (pt qs 0) (qWv1 (gU n.acct) bb9 ?_);apply dX (PS ⟨k.price,n.q,0,n.acct⟩) (λ_=>by simp[go_sem,PS,Fg]);refine UD λw10 b10 hb10 l10 Z=>?_;have at10:=Z.hpk at9 id;refine⟨L4 at10 ⟨_,_,_,V⟩,?_⟩;have own10:=N.mod Z eQ;refine U4 own10 l10 qZ λsT2 w11 o11 m11 n11=>?_;have hs11:=m11.size;have hs10:=Z.size;have at11:=m11.hpk at10 λm=>(j3.nw p m).2.1 rfl;refine qP0 ?_;obtain⟨sa2,sc2,hsT2,-⟩:=o11.isSl;obtain⟨w12,e12,at12,m12⟩:=Sv (L:=t.trades++[⟨k.price,n.q,0,n.acct⟩]) at11 ⟨_,_,_,hsT2⟩ ⟨_,_,_,V⟩;apply ir e12;apply cx (gI ((j+1:Nat):Int)) w12 (by simp[go_sem];rw[wI_]);have v11:=(v9.md0 Z).mod m11 λpt y g m=>(j3.nw y m).2.2 ⟨pt,g⟩;have hT1b:∀y,cK C y->y<w9.heap.size:=λy g=>N.lt g
   have E:∀y,cK sT2 y->(cK sT y\/w4.heap.size<=y)/\lo<=y/\y≠p/\¬dY fp y:=λy g=>by
    rcases n11 y g with z|z
    ·exact⟨j5 y z,(j3.nw y z).1,(j3.nw y z).2.1,(j3.nw y z).2.2⟩
    ·exact⟨gz,qZ,qZ,λ⟨pt,m⟩=>by have:=h.lt m;omega⟩
   refine hKM _ _ ⟨j+1,_,Y.2,sT2,qZ,rfl,j1,v11.mod m12 λpt y g e=>hpfp pt y g e,⟨at12,o11.mod m12 λy g e=>(E y g).2.2.1 e,j3.g0,j3.a0,λy g=>(E y g).2⟩,((M19.trans (Z.to)).on m11 λy g=>(j5 y g).imp (λz=>.inr (.inr z)) id).trans (m12.mono λy _ g=>.inr (.inl g)),λy g=>(E y g).1,⟨by show 0<=t.left+n.q;omega,by grind⟩,by grind,j8⟩ (by show X.1.length - (((j+1:Nat):Int)).toNat<X.1.length - ((j:Int)).toNat;omega)
  ·obtain rfl:j=X.1.length:=qZ;refine qSf0 ?_;rw[lv]at j1;have j1' :partsL k.spec.num a long k.price X.1 r S=(0,t,{S with led:=P}):=j1.symm;refine tell (0,t,{S with led:=P}) C B (by grind) j2 j3 MwW1 (λy g=>⟨(j5 y g).imp id λz=>qZ,?_⟩) ⟨⟨j6.1,by grind⟩,by grind,j8⟩ d1;rcases j5 y g with z|z
   ·grind
   ·omega
end
def aD9{s:Vt_}{L:List Fl}(h:Rd w 3 s L.length (L.flatMap E5)){i:Nat}(hi:i<L.length):
  ∃p,(iX 282 s (gI (i:Int))).run pQ w=.ok p w/\(iL 286 p).run pQ w=.ok (.agg (E5 L[i]).toArray) w:=by
 obtain⟨b,f,k,a,j,m⟩:=h.item LY hi rfl;obtain⟨C,e,fz,hC,d⟩:=m.get;have g0:=d 0 (gQ L[i].num) rfl;have g1:=d 1 (gU L[i].acct) rfl;have g:=d 2 (gI L[i].qty) rfl;simp only[jU,dS]at g0 g1 g;exact⟨.pointer (some ⟨b,f+i*3,none⟩),by rw[a];simp[go_sem,hi,cS],by simp[go_sem,fy hC,g0,g1,g,E5]⟩
def ad1(d:Fl)(w:Wt_):∃b a,(iA 286 true (.tuple #[])).run pQ w=.ok (pt w.heap.size 0) b/\(iS 286 (pt w.heap.size 0) (.agg (E5 d).toArray)).run pQ b=.ok () a/\hC a w.heap.size (E5 d).toArray 286/\M0 w a:=
 ⟨w.alloc (.cells #[.int .u64 0,gU 0,gI 0] 286),_,by simp[go_sem],by simp[go_sem,E5];rfl,by simp[go_sem,E5],(de.refl _ w).alloc _⟩
def Yx{f:Fl}(h:hC w p (E5 f).toArray 286)(l:List Od):Jb w (.func (.func 182) #[] #[.pointer (some ⟨p,0,none⟩)]) (λo=>decide (o.num=f.num)) l:=by
 refine⟨_,_,rfl,λo k W g K j=>?_⟩;apply ar4;obtain⟨a,e,i,b⟩:=vt o W;apply cI e;have d:=b.hpk (g.hpk h id) id;unfold E5 at d;refine cx (pt W.heap.size 0) a (by simp[go_sem]) (cx (gQ o.num) a (by simp[go_sem,i,fL]) ?_);refine cx (pt p 0) a (by simp[go_sem]) (cx (gQ f.num) a (by simp[go_sem,d]) ?_);apply cx (.bool (decide (o.num=f.num))) a (by simp[go_sem];rfl);exact j a b
def E8{l:List Od}{num qty:Int}{o:Od}(b:o∈l)(g:o.num≠num):o∈bidFill l num qty:=by
 unfold bidFill;cases k:l.findIdx? λo=>decide (o.num=num)with
 |none=>exact b
 |some i=>
  obtain⟨d,a,-⟩:=eB.1 k;rw[dN]at a;obtain⟨j,m,rfl⟩:=cX b;have f:j≠i:=λe=>g (by subst e;exact a);simp only;split
  ·rcases wy (cE d) b with h|h
   ·grind
   ·exact h
  ·refine List.mem_iff_getElem.2 ⟨j,by grind,?_⟩;rw[List.getElem_set_ne (λe=>f e.symm)]
def R3(sells:Bool)(qty:Int)(l:List Od):(pG sells qty l).2.1.length<=50:=by
 have key:∀l q p,(pB q l p).1.length<=l.length:=by
  intro l;induction l with
  |nil=>intro q p;simp[pB]
  |cons o l a=>
   intro q p;unfold pB;split
   ·simp
   ·grind
 unfold pG;split
 ·simp
 ·split
  ·simp
  ·rename_i e b
   have f:=key (Srt.stable (TM (sC sells)) l) qty 0;have d:=(Srt.stable_perm (TM (sC sells)) l).length_eq;simp only;omega
section
variable{w:Wt_}{K:cG}{v c l mb md:Nat}{A:List (Int×Nat)}{D:List (Int×Value)}{fp:Pt->Nat->Prop}{S:Ven}
def Et(k:Ct)(a:Int)(long:Bool)(price left:Int)(Fs:List Fl)(r:Rp)(S:Ven):Int×Rp×Ven:=
 let f:=fillsL k.spec.num a long price Fs left r S
 if f.1≠0 then(f.1,f.2.2.1,f.2.2.2)
 else if f.2.1=0 then(0,f.2.2.1,f.2.2.2)
 else
  let p:=qT (if long then f.2.1 else -f.2.1) (((f.2.2.2.led.holders k.spec.num).filter λp=>decide (p.a≠a)).map λp=>⟨p.a,p.q⟩)
  if p.2≠0 then(p.2,f.2.2.1,f.2.2.2)else partsL k.spec.num a long k.price p.1 f.2.2.1 f.2.2.2
def T5(S:Ven)(k:Ct)(a q:Int)(r:Rp):S.sell k a q r=if(pG (decide (0<q)) (max q (-q)) ((S.bd k.spec.num).filter λo=>o.buy==decide (0<q))).2.2≠0 then((pG (decide (0<q)) (max q (-q)) ((S.bd k.spec.num).filter λo=>o.buy==decide (0<q))).2.2,r,S)else
  Et k a (decide (0<q)) (pG (decide (0<q)) (max q (-q)) ((S.bd k.spec.num).filter λo=>o.buy==decide (0<q))).1 (max q (-q)) (pG (decide (0<q)) (max q (-q)) ((S.bd k.spec.num).filter λo=>o.buy==decide (0<q))).2.1 r S:=rfl
def IR{k:Ct}{a s price:Int}{long:Bool}{p pk pa lo:Nat}{sT sf:Vt_}{r:Rp}{B:List Fl}(h:ik w v c l mb md A D fp S)(hok:S.Ok)(hal:ex S.cal.l k.spec.num=0)(hn:pL k.spec.num)
  (bk:hC w pk (fI k).toArray oT)(ba:hC w pa #[.int .u32 a] 23)(hr:B5 w p sT r lo (dY fp))(hpk:¬dY fp pk/\pk≠p/\¬cK sT pk)(U:¬dY fp pa/\pa≠p/\¬cK sT pa)(hpf:¬dY fp p)(hlo:lo<=w.heap.size)
  (hf:FlS w sf B)(hfs:∀y,cK sf y->¬dY fp y/\y≠p/\¬cK sT y)(hl0:0<=s/\s<=10000000)(hFl:B.length<=50)(hFn:(B.map (·.num)).Nodup)(hFb:∀f∈B,1<=f.qty/\∃b∈S.bd k.spec.num,b.num=f.num/\f.qty<=b.left)
  (hb:((0<=r.left/\r.left<=100000000000)/\0<=r.filled/\r.filled<=100000000000)/\r.trades.length<=5000)
  (hK:∀D' fp' sT' w' Y,Y=Et k a long price s B r S->ik w' v c l mb md A D' fp' Y.2.2->B5 w' p sT' Y.2.1 lo (dY fp')->de (λy=>dY fp y\/y=p\/cK sT y) w w' ->(∀y,dY fp' y->dY fp y\/w.heap.size<=y)->(∀y,cK sT' y->cK sT y\/w.heap.size<=y)->
   ((0<=Y.2.1.left/\Y.2.1.left<=r.left+640000000)/\0<=Y.2.1.filled/\Y.2.1.filled<=r.filled+50000000)/\Y.2.1.trades.length<=r.trades.length+114->K (gI Y.1) w'):
  lG (JN (gI (B.length:Int)) sf (pt pk 0) (pt pa 0) (eY v) (.bool long) (gI price) K (pt p 0) (gU k.spec.num)) (gI 0,gI s,gI 0,()) w:=by
 have hpkw:=cB bk;have hpaw:=cB ba;have hpw:=cB hr.at_
 refine eS (λst W1=>∃(j:Nat) (left:Int) (u:Rp) (z:Ven) (D1:List (Int×Value)) (t:Pt->Nat->Prop) (J:Vt_),j<=B.length/\st=(gI 0,gI left,gI j,())/\fillsL k.spec.num a long price (B.drop j) left u z=fillsL k.spec.num a long price B s r S/\z.Ok/\z.cal=S.cal/\
   ik W1 v c l mb md A D1 t z/\B5 W1 p J u lo (dY t)/\de (λy=>dY fp y\/y=p\/cK sT y) w W1/\(∀y,dY t y->dY fp y\/w.heap.size<=y)/\(∀y,cK J y->cK sT y\/w.heap.size<=y)/\
   (∀f∈B.drop j,∃b∈z.bd k.spec.num,b.num=f.num/\f.qty<=b.left)/\(s - 1000000*j<=left/\left<=s)/\(u.left=r.left/\0<=u.filled/\u.filled<=r.filled+1000000*j)/\u.trades.length<=r.trades.length+j)
  (λst _=>match st.2.2.1 with| .int _ i=>B.length - i.toNat|_=>0) ⟨0,s,r,S,D,fp,sT,qZ,rfl,rfl,hok,rfl,h,hr,lX,λy d=>.inl d,λy d=>.inl d,λf hf' =>(hFb f hf').2,qZ,⟨rfl,hb.1.2.1,qZ⟩,qZ⟩ ?_
 rintro _ W1 ⟨j,left,u,z,D1,t,J,hj,rfl,j1,j2,j3,j4,j5,j6,j7,j8,j9,j10,j11,j12⟩ KM hKM;unfold JN;intro _;have hsW1:=j6.size;have hal1:ex z.cal.l k.spec.num=0:=by rw[j3];exact hal
 have hfpw:∀{y},dY fp y->y<w.heap.size:=λ⟨pt,d⟩=>h.lt d
 have k1:=j6.hpk bk λm=>by
   rcases m with m|m|m;·exact hpk.1 m
   ·exact hpk.2.1 m
   ·exact hpk.2.2 m
 have a1:=j6.hpk ba λm=>by
   rcases m with m|m|m;·exact U.1 m
   ·exact U.2.1 m
   ·exact U.2.2 m
 have f1:=hf.mod j6 λy d m=>by
  have:=hfs y d;rcases m with m|m|m
  ·exact this.1 m
  ·exact this.2.1 m
  ·exact this.2.2 m
 have hn1:∀{y},y<w.heap.size->¬dY fp y->¬dY t y:=λh1 h2 m=>by
  rcases j7 _ m with I|I
  ·exact h2 I
  ·omega
 have pk1:=hn1 hpkw hpk.1;have pa1:=hn1 hpaw U.1;have pf1:=hn1 hpw hpf
 have H:Et k a long price s B r S=(let f:=fillsL k.spec.num a long price (B.drop j) left u z
   if f.1≠0 then(f.1,f.2.2.1,f.2.2.2)else if f.2.1=0 then(0,f.2.2.1,f.2.2.2)else
    if(qT (if long then f.2.1 else -f.2.1) (((f.2.2.2.led.holders k.spec.num).filter λp=>decide (p.a≠a)).map λp=>(⟨p.a,p.q⟩:Hd))).2≠0 then((qT (if long then f.2.1 else -f.2.1) (((f.2.2.2.led.holders k.spec.num).filter λp=>decide (p.a≠a)).map λp=>(⟨p.a,p.q⟩:Hd))).2,f.2.2.1,f.2.2.2)else
     partsL k.spec.num a long k.price (qT (if long then f.2.1 else -f.2.1) (((f.2.2.2.led.holders k.spec.num).filter λp=>decide (p.a≠a)).map λp=>(⟨p.a,p.q⟩:Hd))).1 f.2.2.1 f.2.2.2):=by
  unfold Et;rw[j1]
 by_cases hlt:j<B.length
 ·have hlt' :(j:Int)<(B.length:Int):=qZ;apply cx (.bool true) W1 (by simp[go_sem];omega);rw[kx];obtain⟨f,hff⟩:=dW (B[j]);have M:B.drop j=f::B.drop (j+1):=by rw[hff];exact fF hlt
  have hfm:f∈B:=by rw[hff];exact cC hlt
  have hfb:=(hFb f hfm).1;obtain⟨b0,hb0,hb0n,hb0q⟩:=j9 f (by rw[M];exact cw ..);have hb0l:=may_left (j2.ord.bdMay _ b0 hb0);rw[M]at j1 H;obtain⟨pi,e1,e2⟩:=aD9 f1.rd hlt;rw[<-hff]at e2;refine cI e1 (cI e2 ?_);obtain⟨wa,wb,ea,eb,bb,mb'⟩:=ad1 f W1;refine cI ea (ir eb ?_);obtain⟨qs,hqs⟩:=dW W1.heap.size;rw[<-hqs]at bb|-;have bb' :=bb;unfold E5 at bb';have k5:=mb'.hpk k1 id;have a5:=mb'.hpk a1 id;have h5:=j4.md0 mb';have r5:=j5.mod mb' id eQ;have hsb:=mb'.size;apply jq (fI k) 26 ME yV (eE k) (At.all k5);refine qS1 a5 ?_;refine cx (pt qs 1) wb (by simp[go_sem]) (cx (gU f.acct) wb (by simp[go_sem,bb']) ?_);refine cx (pt qs 2) wb (by simp[go_sem]) (cx (gI f.qty) wb (by simp[go_sem,bb']) ?_);refine GM (k:=k) h5 hn λw6 v6 m6=>?_;obtain⟨Y,hY⟩:=dW (swapL z.led k.spec.num a f.acct long price f.qty)
  have hpl:fillsL k.spec.num a long price (f::B.drop (j+1)) left u z=if Y.1≠0 then(Y.1,left,u,{z with led:=Y.2})else
    fillsL k.spec.num a long price (B.drop (j+1)) (left - f.qty) {u with filled:=u.filled+f.qty,trades:=u.trades++[⟨price,f.qty,f.num,f.acct⟩]} {z with led:=Y.2,bd:=upd z.bd k.spec.num (bidFill (z.bd k.spec.num) f.num f.qty)}:=by rw[hY];rfl
  have hokY:({z with led:=Y.2}:Ven).Ok:=by rw[hY];exact FK j2 hal1
  rw[<-hY]at v6|-;have r6:=r5.mod m6 (λm=>pf1 ⟨_,m⟩) λy d m=>(j5.nw y d).2.2 ⟨_,m⟩;have hledlt:∀{y},dY t y->y<W1.heap.size:=λ⟨pt,d⟩=>j4.lt d;have k6:=m6.hpk k5 λm=>pk1 ⟨_,m⟩;have a6:=m6.hpk a5 λm=>pa1 ⟨_,m⟩;have bb6:=m6.hpk bb λm=>by have:=hledlt ⟨_,m⟩;omega
  have hs6:=m6.size;have M6:de (λy=>dY fp y\/y=p\/cK sT y) w w6:=(j6.trans (mb'.to)).on m6 λy d=>(j7 y ⟨_,d⟩).imp .inl id;by_cases hye:Y.1≠0
  ·rw[hpl,bZ hye]at H;refine qSt1 hye ?_;have he:Et k a long price s B r S=(Y.1,u,{z with led:=Y.2}):=by rw[H];simp only;rw[bZ hye]
   exact hK D1 t J w6 (Y.1,u,{z with led:=Y.2}) he.symm v6 r6 M6 j7 j8 ⟨⟨⟨by show 0<=u.left;omega,by show u.left<=_;omega⟩,j11.2.1,by show u.filled<=_;omega⟩,by show u.trades.length<=_;omega⟩
  have hy0:Y.1=0:=by simpa using hye
  rw[hpl,aZ hye]at j1;refine qSf1 hy0 ?_;have bb6' :=bb6;unfold E5 at bb6';refine cx (pt qs 2) w6 (by simp[go_sem]) (cx (gI f.qty) w6 (by simp[go_sem,bb6']) ?_);apply cx (gI (left - f.qty)) w6 (by simp[go_sem];rw[wI_]);simp only[eY,dr];have hpfp:∀pt y,t pt y->y≠p:=λpt y d e=>pf1 (e▸⟨pt,d⟩);have q:M0 w6 w6.drew:=mP;have v7:=v6.md0 q;have r7:=r6.mod q id eQ;have k7:=q.hpk k6 id;have a7:=q.hpk a6 id;have bb7:=q.hpk bb6 id;have hs7:w6.drew.heap.size=w6.heap.size:=rfl;have M7:=M6.trans (q.to (G:=λy=>dY fp y\/y=p\/cK sT y))
  try dsimp only
  generalize w6.drew=w7 at q v7 r7 k7 a7 bb7 hs7 M7|-;have bb7' :=bb7;unfold E5 at bb7';refine qPv0 (pt p 2) (dp (Z1 r7.at_) ?_);refine qPv0 (pt qs 2) (qWv1 (gI f.qty) bb7' ?_);apply dX (gI (u.filled+f.qty)) (λ_=>by simp[go_sem];rw[wI_]);refine qP0 ?_;obtain⟨w8,e8,at8,m8⟩:=Yh (u.filled+f.qty) r7.at_;apply ir e8;have v8:=v7.mod m8 λpt y d e=>hpfp pt y d e;have own8:=r7.own.mod m8 λy d e=>(r7.nw y d).2.1 e;have k8:=m8.hpk k7 hpk.2.1;have a8:=m8.hpk a7 U.2.1;have bb8:=m8.hpk bb7 qZ;have hs8:=m8.size;have M8:=M7.trans (m8.mono (G:=λy=>dY fp y\/y=p\/cK sT y) λy _ d=>.inr (.inl d));have q:M0 w8 w8.drew:=mP;have v9:=v8.md0 q;have at9:=q.hpk at8 id;have own9:V1 w8.drew J u.trades:=own8.mod q eQ;have k9:=q.hpk k8 id;have a9:=q.hpk a8 id;have bb9:=q.hpk bb8 id;have hs9:w8.drew.heap.size=w8.heap.size:=rfl;have M9:=M8.trans (q.to (G:=λy=>dY fp y\/y=p\/cK sT y))
  try dsimp only
  generalize w8.drew=w9 at q v9 at9 own9 k9 a9 bb9 hs9 M9|-;have bb9' :=bb9;unfold E5 at bb9';obtain⟨sa1,sc1,hsT1,-⟩:=own9.isSl;refine qPv0 (pt p 4) (dp (L4 at9 ⟨_,_,_,hsT1⟩) ?_);refine qPv0 (pt qs 2) (qWv1 (gI f.qty) bb9' ?_);refine qPv0 (pt qs 0) (qWv1 (gQ f.num) bb9' ?_);refine qPv0 (pt qs 1) (qWv1 (gU f.acct) bb9' ?_);apply dX (PS ⟨price,f.qty,f.num,f.acct⟩) (λ_=>by simp[go_sem,PS,Fg]);refine UD λw10 b10 hb10 l10 m10=>?_;have at10:=m10.hpk at9 id;refine⟨L4 at10 ⟨_,_,_,hsT1⟩,?_⟩;have own10:=own9.mod m10 eQ;refine U4 own10 l10 qZ λsT2 w11 o11 m11 n11=>?_;have hs11:=m11.size;have hs10:=m10.size;have at11:=m11.hpk at10 λm=>(j5.nw p m).2.1 rfl;refine qP0 ?_;obtain⟨sa2,sc2,hsT2,-⟩:=o11.isSl;obtain⟨w12,e12,at12,m12⟩:=Sv (L:=u.trades++[⟨price,f.qty,f.num,f.acct⟩]) at11 ⟨_,_,_,hsT2⟩ ⟨_,_,_,hsT1⟩;apply ir e12;have hsT1W:∀y,cK J y->y<W1.heap.size:=λy d=>j5.own.lt d;have v12:=((v9.md0 m10).mod m11 λpt y d m=>(j5.nw y m).2.2 ⟨pt,d⟩).mod m12 λpt y d e=>hpfp pt y d e
  have N:∀y,cK sT2 y->(cK sT y\/w.heap.size<=y)/\lo<=y/\y≠p/\¬dY t y:=λy d=>by
   rcases n11 y d with I|I
   ·exact⟨j8 y I,(j5.nw y I).1,(j5.nw y I).2.1,(j5.nw y I).2.2⟩
   ·exact⟨gz,qZ,qZ,λm=>by have:=hledlt m;omega⟩
  have own12:V1 w12 sT2 (u.trades++[⟨price,f.qty,f.num,f.acct⟩]):=o11.mod m12 λy d e=>(N y d).2.2.1 e;have bb12:=m12.hpk (m11.hpk (m10.hpk bb9 id) λm=>by have:=hsT1W _ m;omega) qZ;have M12:de (λy=>dY fp y\/y=p\/cK sT y) w w12:=((M9.trans (m10.to)).on m11 λy d=>(j8 y d).imp (λI=>.inr (.inr I)) id).trans (m12.mono λy _ d=>.inr (.inl d));have hs12:=m12.size;obtain⟨r2,hr2⟩:=dW ({u with filled:=u.filled+f.qty,trades:=u.trades++[⟨price,f.qty,f.num,f.acct⟩]}:Rp)
  have rt12:B5 w12 p sT2 r2 lo (dY t):=by
   rw[hr2];exact⟨at12,own12,j5.g0,j5.a0,λy d=>(N y d).2⟩
  obtain⟨Bd,O⟩:=dW (z.bd k.spec.num);have hBdl:Bd.length<=50:=by rw[O];exact j2.ord.bdl _
  have hsm:(eR ({z with led:=Y.2}:Ven).cal.l k.spec.num).isSome=true:=yO hal1;refine cI (jk 3 qZ _) (cI (AJ _ v12.blk) ?_);apply iW (uF v12.mbd k.spec.num);have hbd12:qR w12 (rz D1 k.spec.num) Bd:=by rw[O];exact v12.bd k.spec.num
  refine wE (l:=Bd) hbd12.rd qZ (Yx bb12 _) λw13 m13=>?_
  have hib:∃i,Bd.findIdx? (λo=>decide (o.num=f.num))=some i:=by
   cases hix:Bd.findIdx? (λo=>decide (o.num=f.num))with
   |some i=>exact⟨i,rfl⟩
   |none=>
    rw[fR]at hix;have:=hix b0 (by rw[O];exact hb0);rw[jh]at this;exact absurd hb0n this
  obtain⟨i,hix⟩:=hib;obtain⟨hil,hip,-⟩:=eB.1 hix;rw[dN]at hip
  have hib0:Bd[i]=b0:=by
   have h1:=sdGet_some (by rw[O];exact j2.ord.bdNd _:(Bd.map (·.num)).Nodup) (cC hil);have h2:=sdGet_some (by rw[O];exact j2.ord.bdNd _:(Bd.map (·.num)).Nodup) (by rw[O];exact hb0:b0∈Bd);rw[hip,<-hb0n,h2]at h1;exact(dB h1).symm
  have hi:uK Bd (λo=>decide (o.num=f.num))=(i:Int):=by unfold uK;rw[hix]
  rw[hi];have v13:=v12.md0 m13;have bb13:=m13.hpk bb12 id;have rt13:=rt12.mod m13 id eQ;have M13:=M12.trans (m13.to (G:=λy=>dY fp y\/y=p\/cK sT y));have q:M0 w13 w13.drew:=mP;have v14:=v13.md0 q;have bb14:=q.hpk bb13 id;have rt14:=rt13.mod q id eQ;have M14:=M13.trans (q.to (G:=λy=>dY fp y\/y=p\/cK sT y));have hs14:w13.drew.heap.size=w13.heap.size:=rfl;have hs13:=m13.size
  try dsimp only
  generalize w13.drew=w14 at q v14 bb14 rt14 M14 hs14|-;have bb14' :=bb14;unfold E5 at bb14';have hbd14:qR w14 (rz D1 k.spec.num) Bd:=by rw[O];exact v14.bd k.spec.num
  obtain⟨sb,scap,E,hse,hixp,hfld,hld,hst,o15,m15⟩:=hbd14.setLeft hil (Bd[i].left - f.qty);refine dw (jk 3 qZ) (dp (AJ _ v14.blk) ?_);apply li (uF v14.mbd k.spec.num);apply dX (pt sb (i*5)) (λW=>by rw[hse];simp[go_sem,hil,cS,mH]);refine qPv1 (pt sb (i*5+4)) cS (dp hld ?_);refine qPv0 (pt qs 2) (qWv1 (gI f.qty) bb14' ?_);have hbl:=may_left (j2.ord.bdMay _ Bd[i] (by rw[<-O];exact cC hil));apply dX (gI (Bd[i].left - f.qty)) (λ_=>by simp[go_sem];rw[wI_]);apply dX (pt sb (i*5)) (λW=>by rw[hse];simp[go_sem,hil,cS,mH]);refine qP1 cS ?_;apply ir hst;have V:∀y,cK (rz D1 k.spec.num) y->t (.bd k.spec.num) y:=λy d=>(v14.fbd k.spec.num y).2 d;have m15' :de (t (.bd k.spec.num)) w14 E:=m15.mono λy _ d=>V y d;obtain⟨R,P⟩:=dW (Bd.set i {Bd[i]with left:=Bd[i].left - f.qty});rw[<-P]at o15;have hBd2l:R.length=Bd.length:=by rw[P,ey]
  have v15:=v14.bdIn (n:=k.spec.num) m15' o15;have rt15:=rt14.mod m15' (λm=>pf1 ⟨_,m⟩) λy d m=>(rt14.nw y d).2.2 ⟨_,m⟩;have M15:de (λy=>dY fp y\/y=p\/cK sT y) w E:=M14.on m15' λy d=>(j7 y ⟨_,d⟩).imp .inl id;have hs15:=m15.size;refine cI (jk 3 qZ _) (cI (AJ _ v15.blk) ?_);apply iW (uF v15.mbd k.spec.num);have hil2:i<R.length:=qZ;obtain⟨sb2,scap2,hse2,hat2⟩:=o15.at hil2;obtain⟨C2,eC2,fz2,hC2,hg2⟩:=hat2.get;have hg24:=hg2 4 _ rfl;have hB2i:R[i]={Bd[i]with left:=Bd[i].left - f.qty}:=by simp[P]
  apply cx (pt sb2 (i*5)) E (by rw[hse2];simp[go_sem,hil2,cS,mH]);refine cx (pt sb2 (i*5+4)) E (by simp[go_sem,cS]) (cx (gI (Bd[i].left - f.qty)) E (by rw[hB2i]at hg24;simp[go_sem,hC2,hg24]) ?_)
  have F:bidFill (z.bd k.spec.num) f.num f.qty=if Bd[i].left - f.qty=0 then Bd.eraseIdx i else R:=by
   unfold bidFill;rw[<-O,hix];simp only;have hgd:Bd.getD i pC=Bd[i]:=by simp[hil]
   rw[hgd,P]
  have hqb:∀o∈z.bd k.spec.num,o.num=f.num->f.qty<=o.left:=λo ho he=>by
   have h1:=sdGet_some (j2.ord.bdNd k.spec.num) ho;have h2:=sdGet_some (j2.ord.bdNd k.spec.num) hb0;rw[he,<-hb0n,h2]at h1;have:=dB h1;rw[<-this];exact hb0q
  have hfit:=CM (l:=z.bd k.spec.num) (λo ho=>j2.ord.bdMay _ o ho) hfb hqb;obtain⟨S2,T⟩:=dW ({z with led:=Y.2,bd:=upd z.bd k.spec.num (bidFill (z.bd k.spec.num) f.num f.qty)}:Ven);have hok2:S2.Ok:=by rw[T];exact Ven.Ok.setBd hokY hfit.1
  rw[<-T,<-hr2]at j1
  have hrest:∀g∈B.drop (j+1),∃b∈S2.bd k.spec.num,b.num=g.num/\g.qty<=b.left:=λg hg=>by
   obtain⟨b,hb1,hb2,hb3⟩:=j9 g (by rw[M];exact cu _ hg);refine⟨b,?_,hb2,hb3⟩;rw[T];show b∈upd z.bd k.spec.num _ k.spec.num;rw[upd_self];refine E8 hb1 λe=>?_;have hnd:=hFn.sublist ((List.drop_sublist j B).map (·.num));rw[M,cM,dA]at hnd;exact hnd.1 (by rw[<-e,hb2];exact dn hg)
  have X:(r2.left=r.left/\0<=r2.filled/\r2.filled<=r.filled+1000000*((j+1:Nat):Int))/\r2.trades.length<=r.trades.length+(j+1):=by
   rw[hr2];refine⟨⟨j11.1,by show 0<=u.filled+f.qty;omega,by show u.filled+f.qty<=_;push_cast;omega⟩,by show(u.trades++[_]).length<=_;rw[cD];show _+1<=_;omega⟩
  have hmeas:B.length - (((j+1:Nat):Int)).toNat<B.length - ((j:Int)).toNat:=qZ;by_cases hz:Bd[i].left - f.qty=0
  ·rw[bZ hz]at F;refine qSt1 hz ?_;have q:M0 E E.drew:=mP;have C:=v15.md0 q;have Z:=rt15.mod q id eQ;have o16:qR E.drew (rz D1 k.spec.num) R:=o15.mod q eQ;have M16:=M15.trans (q.to (G:=λy=>dY fp y\/y=p\/cK sT y));have hs16:E.drew.heap.size=E.heap.size:=rfl
   try dsimp only
   generalize E.drew=w16 at q C Z o16 M16 hs16|-;refine dw (jk 3 qZ) (dp (AJ _ C.blk) ?_);refine dw (jk 3 qZ) (dp (AJ _ C.blk) ?_);apply li (uF C.mbd k.spec.num);apply dX (gI ((i+1:Nat):Int)) (λ_=>by simp[go_sem];rw[wI_]);refine vq o16 (qH i) hil2 qZ λs' w17 o17 m17 n17=>?_;rw[Iz]at o17;have hBe:R.eraseIdx i=Bd.eraseIdx i:=by rw[P,List.eraseIdx_set_eq]
   rw[hBe]at o17;have Q:de (t (.bd k.spec.num)) w16 w17:=m17.mono λy _ d=>V y d;have blk17:=Q.hpk C.blk (C.ap (by simp) _ C.self);refine⟨AJ _ blk17,?_⟩;have mbd17:=C.mbd.mod Q (C.ap (by simp) _ ((C.fmd md).2 rfl));refine kV (enc:=iI) (ev:=yh) (x:=k.spec.num) (v:=s') xn rP mbd17 λw18 a18 m18 hs18=>?_;have v18:=C.setBd (n:=k.spec.num) hsm Q o17 (λy d=>.inl (V y (n17 y d))) a18 m18;have hmdf:dY t md:=⟨.md,(C.fmd md).2 rfl⟩
   have rt18:=(Z.mod Q (λm=>pf1 ⟨_,m⟩) λy d m=>(Z.nw y d).2.2 ⟨_,m⟩).mod m18 (λe=>pf1 (e▸hmdf)) λy d e=>(Z.nw y d).2.2 (e▸hmdf)
   have hsub:∀y,dY (mj t (.bd k.spec.num) (cK s')) y->dY t y:=λy ⟨pt,d⟩=>by
    by_cases hpt:pt=.bd k.spec.num
    ·subst hpt;rw[ip]at d;exact⟨_,V y (n17 y d)⟩
    ·rw[eH hpt]at d;exact⟨pt,d⟩
   apply cx (gI ((j+1:Nat):Int)) w18 (by simp[go_sem];rw[wI_]);refine hKM _ _ ⟨j+1,left - f.qty,r2,S2,put D1 k.spec.num s',mj t (.bd k.spec.num) (cK s'),sT2,qZ,rfl,j1,hok2,by rw[T];exact j3,?_,rt18.z λy d m=>(rt18.nw y d).2.2 (hsub y m),(M16.on Q λy d=>(j7 y ⟨_,d⟩).imp .inl id).on m18 λy d=>(j7 y (d▸hmdf)).imp .inl id,λy d=>j7 y (hsub y d),λy d=>(N y d).1,hrest,⟨by push_cast;omega,qZ⟩,X.1,X.2⟩ hmeas
   have e:S2={({({z with led:=Y.2}:Ven)with bd:=upd z.bd k.spec.num R}:Ven)with bd:=upd (upd z.bd k.spec.num R) k.spec.num (Bd.eraseIdx i)}:=by
    rw[T,F,upd_upd]
   rw[e];exact v18
  ·rw[aZ hz]at F;refine qSf1 hz ?_;apply cx (gI ((j+1:Nat):Int)) E (by simp[go_sem];rw[wI_]);refine hKM _ _ ⟨j+1,left - f.qty,r2,S2,D1,t,sT2,qZ,rfl,j1,hok2,by rw[T];exact j3,?_,rt15,M15,j7,λy d=>(N y d).1,hrest,⟨by push_cast;omega,qZ⟩,X.1,X.2⟩ hmeas;rw[T,F];exact v15
 ·obtain rfl:j=B.length:=qZ;refine qSf0 ?_;rw[lv]at H;have hfl:fillsL k.spec.num a long price [] left u z=(0,left,u,z):=rfl;rw[hfl]at H;simp only[ne_eq,not_true_eq_false,eW]at H;by_cases hl:left=0
  ·rw[bZ hl]at H;refine qSt1 hl ?_;exact hK D1 t J W1 (0,u,z) H.symm j4 j5 j6 j7 j8 ⟨⟨⟨by show 0<=u.left;omega,by show u.left<=_;omega⟩,j11.2.1,by show u.filled<=_;omega⟩,by show u.trades.length<=_;omega⟩
  rw[aZ hl]at H;refine qSf1 hl ?_;obtain⟨q',hq'⟩:=dW (if long then left else -left:Int);rw[<-hq']at H;have hq64:jl q' :=by rw[hq'];constructor<;>split<;>omega
  refine dK.at (λst W=>st=(gI q',())/\W1=W) ?_ ?_
  ·refine qS0 ?_;cases long with
   |true=>rw[show(!true)=false from rfl,cy,aZ gL];exact⟨by rw[hq'];rfl,rfl⟩
   |false=>
    rw[show(!false)=true from rfl,cy,bZ rfl];apply cx (gI (-left)) W1 (by simp[go_sem];rw[wI_]);exact⟨by rw[hq'];rfl,rfl⟩
  rintro _ _ ⟨rfl,rfl⟩
  have hpk1:¬cK J pk:=λm=>by
    rcases j8 _ m with I|I;·exact hpk.2.2 I
    ·omega
  have hpa1:¬cK J pa:=λm=>by
    rcases j8 _ m with I|I;·exact U.2.2 I
    ·omega
  have hheld:z.led.held.length<4294967295:=by have:=xo j2.cal j2.led;omega
  refine J5 j4 hheld hn hq64 k1 a1 j5 ⟨pk1,hpk.2.1,hpk1⟩ ⟨pa1,U.2.1,hpa1⟩ pf1 qZ ⟨⟨qZ,qZ⟩,qZ⟩ λsT' w' Y hY a2 b2 m2 n2 c2=>?_;refine hK D1 t sT' w' Y (by rw[H,hY]) a2 b2 (j6.on m2 λy d=>?_) j7 (λy d=>?_) ⟨⟨⟨c2.1.1,qZ⟩,by rw[c2.2.2];exact j11.2.1,by rw[c2.2.2];omega⟩,qZ⟩
  ·rcases d with d|d|d
   ·exact(j7 y ⟨_,d⟩).imp .inl id
   ·exact .inl (.inr (.inl d))
   ·exact(j8 y d).imp (λI=>.inr (.inr I)) id
  ·rcases n2 y d with I|I
   ·exact j8 y I
   ·exact gz
end
def Hf{L:Led}(h:L.Ok)(c a:Int): -10000000<=(L.position c a).q/\(L.position c a).q<=10000000:=by
 unfold Led.position;cases d:L.pos? (c,a)with
 |none=>exact⟨by grind,by grind⟩
 |some p=>
  have b:=fl d;have:=h.pos p b;have e:MP=10000000:=rfl;exact⟨by grind,by grind⟩
section
variable{w:Wt_}{K:cG}{v c l mb md:Nat}{A:List (Int×Nat)}{D:List (Int×Value)}{fp:Pt->Nat->Prop}{S:Ven}
def O1{k:Ct}{a q:Int}{p lo:Nat}{sT:Vt_}{r:Rp}(h:ik w v c l mb md A D fp S)(n:S.Ok)(T:ex S.cal.l k.spec.num=0)(hq: -10000000<=q/\q<=10000000)
  (hr:B5 w p sT r lo (dY fp))(hpf:¬dY fp p)(hlo:lo<=w.heap.size)(hb:((0<=r.left/\r.left<=100000000000)/\0<=r.filled/\r.filled<=100000000000)/\r.trades.length<=5000)
  (hK:∀D' B E Q,ik Q v c l mb md A D' B (S.sell k a q r).2.2->B5 Q p E (S.sell k a q r).2.1 lo (dY B)->de (λy=>dY fp y\/y=p\/cK sT y) w Q->(∀y,dY B y->dY fp y\/w.heap.size<=y)->(∀y,cK E y->cK sT y\/w.heap.size<=y)->
   ((0<=(S.sell k a q r).2.1.left/\(S.sell k a q r).2.1.left<=r.left+640000000)/\0<=(S.sell k a q r).2.1.filled/\(S.sell k a q r).2.1.filled<=r.filled+50000000)/\(S.sell k a q r).2.1.trades.length<=r.trades.length+114->K (gI (S.sell k a q r).1) Q):
  Ca pQ 148 #[eY v,.agg (fI k).toArray,gU a,gI q,.pointer (some ⟨p,0,none⟩)] w K:=by
 apply an5;obtain⟨P,e1,b1,m1⟩:=GT k w;apply cI e1;obtain⟨pk,hpk0⟩:=dW w.heap.size;rw[<-hpk0]at b1|-;obtain⟨pa,F⟩:=dW P.heap.size;have m2:M0 P (P.alloc (.cells #[.int .u32 a] 23)):=lm;have b2:hC (P.alloc (.cells #[.int .u32 a] 23)) pa #[.int .u32 a] 23:=by rw[F];simp[go_sem]
 apply cx (pt pa 0) (P.alloc (.cells #[.int .u32 a] 23)) (by rw[F];simp[go_sem]);generalize P.alloc (.cells #[.int .u32 a] 23)=H at m2 b2|-;have M2:=m1.trans m2;have k2:=m2.hpk b1 id;have h2:=h.md0 M2;have r2:=hr.mod M2 id eQ;have hpkpa:pk<pa:=by have:=cB b1;omega
 have hpw:=cB hr.at_;have hn:pL k.spec.num:=alive_u32 n.cal T;refine cx (pt pk 0) H (by simp[go_sem]) (cx (pt pk 0) H (by simp[go_sem]) ?_);refine qS2 k2 G9 ?_;obtain⟨d,t⟩:=dW (decide (0<q):Bool);obtain⟨qty,I⟩:=dW (max q (-q):Int);apply cx (.bool d) H (by rw[t];simp[go_sem]);apply cx (gI (-q)) H (by simp[go_sem];rw[wI_]);apply jm (gI qty) H (by rw[I];simp[go_sem]);simp only[eY,dr];refine cI (jk 3 qZ _) (cI (AJ _ h2.blk) ?_);apply iW (uF h2.mbd k.spec.num);obtain⟨L,hL⟩:=dW (S.bd k.spec.num);have hLl:L.length<=50:=by rw[hL];exact n.ord.bdl _
 have J:=h2.bd k.spec.num;rw[<-hL]at J;obtain⟨ba,bc,hbs,-⟩:=J.isSl;apply jm (gI (L.length:Int)) H (by rw[hbs];simp[go_sem]);let s:List Od->List Od:=λl=>l.filter λo=>o.buy==d;have hs2:=M2.size;have hlt2:=cB b2
 refine eS (λst W=>∃(j:Nat) (sl:Vt_),j<=L.length/\st=(sl,gI j,())/\qR W sl (s (L.take j))/\M0 H W/\∀y,cK sl y->H.heap.size<=y)
  (λst _=>match st.2.1 with| .int _ i=>L.length - i.toNat|_=>0) ⟨0,dv,qZ,rfl,jo.nil _ _ _,lX,λy g=>(by cases g)⟩ ?_
 rintro _ W ⟨j,sl,hj,rfl,t1,N,t3⟩ KN hKN;unfold Oq;intro _;have hW:=h2.md0 N;have oW:=J.mod N eQ;have hsW:=N.size;by_cases V:j<L.length
 ·have hlt' :(j:Int)<(L.length:Int):=qZ;refine qSt1 hlt' ?_;obtain⟨pj,p1,p2⟩:=J7 oW.rd V;refine cI p1 (cI p2 ?_);obtain⟨wa,ea,ba',ma⟩:=kD W;apply cI ea;obtain⟨q5,hq5⟩:=dW W.heap.size;rw[<-hq5]at ba' |-;obtain⟨o,U⟩:=dW (L[j]);rw[<-U];obtain⟨wb,eb,bb,mb'⟩:=jK (o' :=o) ba';apply ir eb;have Mb:M0 W wb:=ma.on mb' λb hb=>gz;have tb:=t1.mod Mb eQ;have htk:=eA V;rw[<-U]at htk;refine cx (pt q5 2) wb (by simp[go_sem]) (cx (.bool o.buy) wb (by simp[go_sem,bb,fL]) ?_);refine qS0 ?_;have u:L.length - (((j+1:Nat):Int)).toNat<L.length - ((j:Int)).toNat:=qZ;cases hbl:(o.buy==d)with
  |true=>
   rw[kx];apply cI (lM (o:=o) (At.all bb));have hsel50:(s (L.take j)).length<=50:=dD (dm _ _) (by grind);refine vK (x:=o) (f:=fL) mH (eO Oh) gM pD rfl tb qZ qZ λs' wc oc mc nc=>?_;apply cx (gI ((j+1:Nat):Int)) wc (by simp[go_sem];rw[wI_]);have hsb:=Mb.size;refine hKN _ _ ⟨j+1,s',qZ,rfl,?_,(N.trans Mb).on mc λy g=>.inr (t3 y g),λy g=>?_⟩ u
   ·grind
   ·rcases nc y g with h' |h'
    ·exact t3 y h'
    ·omega
  |false=>
   rw[gP];apply cx (gI ((j+1:Nat):Int)) wb (by simp[go_sem];rw[wI_]);refine hKN _ _ ⟨j+1,sl,qZ,rfl,?_,N.trans Mb,t3⟩ u
   have e:s (L.take (j+1))=s (L.take j):=by
    show(L.take (j+1)).filter _=_;rw[htk,dJ,cY (p:=λo:Od=>o.buy==d) (by rw[hbl];simp),iz,ew]
   rw[e];exact tb
 ·obtain rfl:j=L.length:=qZ;refine qSf0 ?_;rw[cN]at t1;obtain⟨O,M⟩:=dW (s L);rw[<-M]at t1;have G:∀o∈O,o∈S.bd k.spec.num:=λo ho=>by grind
  have hSLl:O.length<=50:=by grind
  refine RB (l:=O) (sells:=d) (qty:=qty) t1.rd qZ (λo ho=>(n.ord.std _ o (vk (G o ho))).fit) (by grind) λsf w3 o3 m3 n3=>?_;obtain⟨X,hX⟩:=dW (pG d qty O)
  have m:S.sell k a q r=if X.2.2≠0 then(X.2.2,r,S)else Et k a d X.1 qty X.2.1 r S:=by
   rw[T5,hX,M,hL];simp only[s,t,I]
  obtain⟨f1,f2,f3⟩:=Dn (sells:=d) (qty:=qty) (l:=O) (λo ho=>n.ord.bdMay _ o (G o ho)) qZ;have Z:=R3 d qty O;rw[<-hX]at o3 f1 f2 Z|-;refine qS0 ?_;refine qS0 ?_;refine qS0 ?_;have M3:M0 w w3:=(M2.trans N).trans m3;have R:=N.trans m3;have h3:=h.md0 M3;have r3:=hr.mod M3 id eQ;by_cases C:X.2.2≠0
  ·rw[bZ C]at m;refine qSt1 C ?_;rw[m]at hK;exact hK D fp sT w3 h3 r3 (M3.to) (λy g=>.inl g) (λy g=>.inl g) ⟨⟨⟨hb.1.1.1,by grind⟩,hb.1.2.1,by grind⟩,by grind⟩
  rw[aZ C]at m;have hX0:X.2.2=0:=by simpa using C
  refine qSf1 hX0 ?_;obtain⟨fa,fc,hfs,-⟩:=o3.isSl;apply jm (gI (X.2.1.length:Int)) w3 (by rw[hfs];simp[go_sem]);have hfpw:∀{y},dY fp y->y<w.heap.size:=λ⟨pt,g⟩=>h.lt g;have hsTw:∀{y},cK sT y->y<w.heap.size:=λg=>hr.own.lt g;have z:∀{y},w.heap.size<=y->¬dY fp y/\y≠p/\¬cK sT y:=λg=>⟨λhc=>by grind,qZ,λhc=>by grind⟩
  have hs3:=M3.size
  refine IR h3 n T hn (R.hpk k2 id) (R.hpk b2 id) r3 (z qZ) (z qZ) hpf qZ o3 (λy g=>z (by grind)) qZ Z
   (f2 ((n.ord.bdNd k.spec.num).sublist (by rw[M,<-hL];exact jv.map _))) (λf hf=>⟨(f1 f hf).1,?_⟩) hb λD' B E Q Y hY a1 a2 a3 a4 a5 a6=>?_
  ·grind
  ·rw[m,<-hY]at hK;exact hK D' B E Q a1 a2 ((M3.to).trans a3) (λy g=>(a4 y g).imp id λh' =>qZ) (λy g=>(a5 y g).imp id λh' =>qZ) a6
end
def DP{v:Nat}{F:NP_}{S:Ven}{a:Ac}(h:lw w v F S)(hok:S.Ok)(hK:AK w v F (S.liquidate a) K):Ca pQ 97 #[eY v,oz a] w K:=by
 obtain⟨c,l,mb,md,A,D,fp,hr,hF⟩:=h;apply aE1;obtain⟨P,hn0⟩:=dW w.heap.size
 have hlay:∃w2,(w.alloc (.cells #[eY v] 39)).alloc (.cells (dH a).toArray Gv)=w2/\w2.heap.size=P+2/\M0 w w2/\hC w2 P #[eY v] 39/\hC w2 (P+1) (dH a).toArray Gv:=by
  refine⟨_,rfl,by simp[go_sem,hn0],lm.alloc _,?_,?_⟩<;>simp[go_sem,hn0]
 obtain⟨w2,hw2,hsz2,m2,b1,b2⟩:=hlay;apply cx (pt P 0) (w.alloc (.cells #[eY v] 39)) (by rw[hn0];rfl);apply cx (pt (P+1) 0) w2 (by rw[<-hw2];simp[go_sem,hn0,oz,dH]);clear hw2;obtain⟨w3,e3,b3,m3⟩:=qy w2;apply cI e3;obtain⟨p,hp0⟩:=dW (P+2);rw[hsz2,<-hp0]at b3|-;obtain⟨w4,e4,b4,m4⟩:=U1 w3;apply cI e4;obtain⟨j,he6⟩:=dW w3.heap.size;rw[<-he6]at b4|-;have hpe:p<j:=by have:=cB b3;omega
 have M4:=(m2.trans m3).trans m4;have h4:=hr.md0 M4;have g0:=m4.hpk (m3.hpk b1 id) id;have ga:=m4.hpk (m3.hpk b2 id) id;have gp:=m4.hpk b3 id;have ga' :=ga;unfold dH at ga';have hfl:∀pt x,fp pt x->x<P:=λpt x Z=>by rw[hn0];exact hr.lt Z
 have L:∀x,dY fp x->x<P:=λx ⟨pt,Z⟩=>hfl pt x Z;have hFa:∀x,dY fp x↔F x:=λx=>(hF x).symm;have lv0:∀{W},hC W P #[eY v] 39->(iL 39 (pt P 0)).run pQ W=.ok (eY v) W:=λhW=>by simp[go_sem,hW,eY]
 have hse6:=cB b4;have B:S.liquidate a=if a.dfl=false then(162,zRp,S)else sellL a.num S.cal.l zRp S:=rfl
 have R:∀e r T J g n W ds,S.liquidate a=(e,r,T)->ik W v c l mb md A J g T->B5 W p n r (j+1) (dY g)->yE W j e->de (dY fp) w W->(∀y,dY g y->(dY fp y\/j<y)/\y ∉ ds)->(∀y,cK n y->y ∉ ds)->ds.Nodup->(∀d∈ds,hp W d=some (.deferred (some []))/\j<d)->
   lj ds W λw83=>uc pQ (iL lx (pt p 0)) w83 λv84=>uc pQ (iL 43 (pt j 0)) w83 λv85=>K (.tuple #[v84,v85]) w83:=by
  intro e r T J g n W ds he a1 b er m hup hds hnd hdW;refine Nk hnd (λd hd=>(hdW d hd).1) λz m' =>?_;have hdq:∀d∈ds,j<d:=λd hd=>(hdW d hd).2;refine dp (lB (m'.hpk b.at_ λt=>by grind)) (dp (B4 (m'.hpk er λt=>by grind)) ?_);have bq:=b.q;refine hK.tell (F' :=dY g) he (a1.mod m' λpt y f t=>(hup y ⟨pt,f⟩).2 t).q (bq.mod m' λy f t=>?_) ((m.mono λy _ f=>(hFa y).1 f).on m' λy f=>.inr (by grind)) (λy f=>(hup y f).1.imp (hFa y).1 λo=>qZ) λy f=>?_
  ·rcases f with f|f|f
   ·exact hds y f t
   ·cases f
   ·cases f
  ·rcases f with f|f|f
   ·exact⟨by have:=(b.nw y f).1;omega,(b.nw y f).2.2⟩
   ·cases f
   ·cases f
 have setR:∀e0 e r T J g n W,ik W v c l mb md A J g T->B5 W p n r (j+1) (dY g)->yE W j e0->(∀y,dY g y->y≠p/\y≠j)->∀K2,(∀z,ik z v c l mb md A J g T->B5 z p n r (j+1) (dY g)->yE z j e->de (λy=>y=p\/y=j) W z->K2 z)->
   ∃W1,(iS lx (pt p 0) (ud r n dv dv)).run pQ W=.ok () W1/\yE W1 j e0/\ru pQ (iS 43 (pt j 0) (gI e)) W1 K2:=by
  intro e0 e r T J g n W a1 b er hup K2 hk;obtain⟨sa,sc,hs,-⟩:=b.own.isSl;obtain⟨W1,f1,x1,y1⟩:=pl (r:=r) b.at_ rfl ⟨⟨_,_,_,hs⟩,gJ,gJ⟩;have er1:=y1.hpk er qZ;obtain⟨W2,f2,x2,y2⟩:=Hb e er1;refine⟨W1,f1,er1,ir f2 (hk W2 ((a1.mod y1 λpt y f e=>(hup y ⟨pt,f⟩).1 e).mod y2 λpt y f e=>(hup y ⟨pt,f⟩).2 e) ⟨y2.hpk x1 qZ,(b.own.mod y1 λy f e=>(b.nw y f).2.1 e).mod y2 λy f e=>by have:=(b.nw y f).1;omega,b.g0,b.a0,b.nw⟩ x2 ((y1.mono λy _ f=>.inl f).trans (y2.mono λy _ f=>.inr f)))⟩
 have rt0:∀{W},hC W p (mC zRp dv dv dv).toArray lx->B5 W p dv zRp (j+1) (dY fp):=λhW=>⟨hW,jo.nil _ _ _,rfl,rfl,λy f=>(by cases f)⟩
 have hupfp:∀y,dY fp y->y≠p/\y≠j:=λy f=>by grind
 refine cx (pt (P+1) 3) w4 (by simp[go_sem]) (cx (.bool a.dfl) w4 (by simp[go_sem,ga']) ?_);refine qS0 ?_;cases hdf:a.dfl with
 |false=>
  rw[hdf,bZ rfl]at B;rw[show(!false)=true from rfl,cy,bZ rfl];apply cI (lB gp);obtain⟨W1,f1,x1,k1⟩:=setR 0 162 zRp S D fp dv w4 h4 (rt0 gp) b4 hupfp _ λz v' r' e' m' =>R 162 zRp S D fp dv z [] B v' r' e' ((M4.to (G:=dY fp)).on m' λy f=>gz) (λy f=>⟨.inl f,by simp⟩) (λy f=>(by cases f)) (by simp) (by simp);exact ir f1 k1
 |true=>
  rw[hdf,aZ (by simp)]at B;rw[show(!true)=false from rfl,cy,aZ gL];apply cI (lv0 g0);simp only[eY,dr];refine cI (jk 0 qZ _) (cI (EQ _ h4.blk) ?_);refine zq h4.cal λgv w5 ht m5=>?_;have h5:=h4.md0 m5;have k0:=m5.hpk g0 id;have ka:=m5.hpk ga' id;have kp:=m5.hpk gp id;have ke:=m5.hpk b4 id;have M5:=M4.trans m5;have hs5:=m5.size;let BD:Rp->Nat->Prop:=λr i=>((0<=r.left/\r.left<=640000000*i)/\0<=r.filled/\r.filled<=50000000*i)/\r.trades.length<=114*i;let XX:(Nat->Prop)->(Pt->Nat->Prop)->Value->Prop:=λX g n=>(∀y,X y↔dY g y\/y=p\/y=j\/cK n y)/\(∀y,dY g y->dY fp y\/j<y)/\(∀y,cK n y->j<y)
  let I:(Nat->Prop)->Nat->World->Prop:=λX i W=>∃(J:List (Int×Value)) (g:Pt->Nat->Prop) (n:Vt_) (r:Rp) (u:Ven),ik W v c l mb md A J g u/\B5 W p n r (j+1) (dY g)/\yE W j 0/\XX X g n/\sellL a.num (S.cal.l.drop i) r u=sellL a.num S.cal.l zRp S/\u.Ok/\u.cal=S.cal/\BD r i;let Ex:Code->(Nat->Prop)->World->Prop:=λcc X W=>∃(J:List (Int×Value)) (g:Pt->Nat->Prop) (n:Vt_) (e:Int) (r:Rp) (u:Ven),cc=.ret/\ik W v c l mb md A J g u/\B5 W p n r (j+1) (dY g)/\yE W j e/\XX X g n/\sellL a.num S.cal.l zRp S=(e,r,u)
  have hX0n:∀{y},(y=P\/y=P+1)->¬(dY fp y\/y=p\/y=j):=λf t=>by
   rcases t with t|t|t
   ·have:=L _ t;omega
   ·omega
   ·omega
  have hcl:=hok.cal.len
  delta UT
  refine CX (X0:=λy=>dY fp y\/y=p\/y=j) (fv:=λk:Ct=>.agg (fI k).toArray) (asg:=λx W K=>rx pQ (nE oT) W λv w1=>nj pQ (jH oT v x) w1 λw2=>K v w2) (Pv:=AR oT fI) (xs:=S.cal.l) ht Ar wQ I Ex ?_ ?_ (λx Z=>?_) ⟨D,fp,dv,zRp,S,h5,rt0 kp,ke,⟨λy=>⟨λf=>f.imp id λh=>h.imp id .inl,λf=>f.imp id λh=>h.imp id λh=>h.elim id λh=>by cases h⟩,λy f=>.inl f,λy f=>(by cases f)⟩,rfl,hok,rfl,⟨⟨⟨by show(0:Int)<=0;omega,by show(0:Int)<=_;omega⟩,by show(0:Int)<=0;omega,by show(0:Int)<=_;omega⟩,by show 0<=_;omega⟩⟩ ?_ ?_ ?_
  ·rintro X i W z H ⟨J,g,n,r,u,i1,i2,i3,s,O,i6,i7,i8⟩ hm U;exact⟨J,g,n,r,u,i1.mod hm λpt y f=>U y ((s.1 y).2 (.inl ⟨pt,f⟩)),i2.mod hm (U _ ((s.1 _).2 (.inr (.inl rfl)))) λy f=>U y ((s.1 y).2 (.inr (.inr (.inr f)))),hm.hpk i3 (U _ ((s.1 _).2 (.inr (.inr (.inl rfl))))),s,O,i6,i7,i8⟩
  ·rintro cc X W z H ⟨J,g,n,e,r,u,i0,i1,i2,i3,s,O⟩ hm U;exact⟨J,g,n,e,r,u,i0,i1.mod hm λpt y f=>U y ((s.1 y).2 (.inl ⟨pt,f⟩)),i2.mod hm (U _ ((s.1 _).2 (.inr (.inl rfl)))) λy f=>U y ((s.1 y).2 (.inr (.inr (.inr f)))),hm.hpk i3 (U _ ((s.1 _).2 (.inr (.inr (.inl rfl))))),s,O⟩
  ·rcases Z with Z|Z|Z
   ·have:=L x Z;omega
   ·omega
   ·omega
  ·rintro X i hi W qk vv ⟨J,g,n,r,u,i1,i2,i3,s,O,i6,i7,i8⟩ mW U hdq hqW ⟨rfl,zgq⟩ ⟨rec0,hrec⟩ KN KJ hKN hKJ;have f0:=mW.hpk k0 (hX0n (.inl rfl));have fa:=mW.hpk ka (hX0n (.inr rfl));obtain⟨k,hk⟩:=dW (S.cal.l[i]);have hk' :=hk;rw[<-hk']at zgq;have hdrop:S.cal.l.drop i=k::S.cal.l.drop (i+1):=by rw[hk];exact fF hi
   rw[hdrop]at O;have hXs:∀b,X b->b<W.heap.size:=λb hb=>by grind
   have hXself:∀{z:Wt_},W.heap.size<=z.heap.size->∀b,X b->(X b\/W.heap.size<=b)/\b<z.heap.size:=λhle b hb=>⟨.inl hb,by grind⟩
   have hi16:i<16:=by grind
   obtain⟨Q,hQ⟩:=dW (u.led.position k.spec.num a.num);have N:M0 W W.drew:=mP;have h6:=i1.md0 N;have r6:=i2.mod N id eQ;have e6' :=N.hpk i3 id;have c0:=N.hpk f0 id;have ca:=N.hpk fa id;have cq:=N.hpk zgq id;have hs6:W.drew.heap.size=W.heap.size:=rfl
   try dsimp only
   generalize W.drew=W1 at N h6 r6 e6' c0 ca cq hs6|-;apply dp (lv0 c0);simp only[eY,dr];refine dw (jk 1 qZ) (dp (ld1 _ h6.blk) ?_);refine qP0 ?_;refine qP0 ?_;refine qW2 cq G9 ?_;refine qPv0 (pt (P+1) 0) (qWv1 (gU a.num) ca ?_);refine rK h6.led λW2 m2=>?_;rw[<-hQ];apply dw (Vi Q);have MW2:=N.trans m2;have h7:=h6.md0 m2;have r7:=r6.mod m2 id eQ;have e7:=m2.hpk e6' id;have d0:=m2.hpk c0 id;have da:=m2.hpk ca id;have dq:=m2.hpk cq id;have hs7:=m2.size;by_cases hQ0:Q.q=0
   ·refine qSf1 hQ0 ?_
    have e5:sellL a.num (k::S.cal.l.drop (i+1)) r u=sellL a.num (S.cal.l.drop (i+1)) r u:=by
     rw[sellL];simp only;rw[<-hQ,bZ hQ0]
    rw[e5]at O;refine hKN X W2 ⟨J,g,n,r,u,h7,r7,e7,s,O,i6,i7,⟨⟨⟨i8.1.1.1,?_⟩,i8.1.2.1,?_⟩,?_⟩⟩ (MW2.to) (hXself MW2.size)
    ·grind
    ·have:=i8.1.2.2;push_cast;omega
    ·have:=i8.2;omega
   ·refine qSt1 hQ0 ?_;apply cI (lv0 d0);apply jq (fI k) 26 ME yV (eE k) (At.all dq);refine cx (pt (P+1) 0) W2 (by simp[go_sem]) (cx (gU a.num) W2 (by simp[go_sem,da]) ?_);have hal:ex u.cal.l k.spec.num=0:=EW i6 (a:=a.num) (by grind)
    have hpf' :¬dY g p:=λt=>by
      rcases s.2.1 p t with o|o
      ·have:=L p o;omega
      ·omega
    have hpe' :¬dY g j:=λt=>by
      rcases s.2.1 j t with o|o
      ·grind
      ·omega
    have hseW:=cB i3;have hqb:=Hf i6.led.led k.spec.num a.num;rw[<-hQ]at hqb;refine O1 h7 i6 hal hqb r7 hpf' qZ ⟨⟨⟨i8.1.1.1,by grind⟩,i8.1.2.1,by grind⟩,by have:=i8.2;omega⟩ λD2 C E W3 v3 r3 m3' u3 t3 bd3=>?_;obtain⟨Y,hY⟩:=dW (u.sell k a.num Q.q r);have hsok:=LD i6 (k:=k) (a:=a.num) (q:=Q.q) (r:=r) hal;rw[<-hY]at v3 r3 bd3 hsok|-
    have hsl:sellL a.num (k::S.cal.l.drop (i+1)) r u=if Y.1≠0 then Y else sellL a.num (S.cal.l.drop (i+1)) Y.2.1 Y.2.2:=by
     rw[sellL];simp only;rw[<-hQ,aZ hQ0,<-hY]
    rw[hsl]at O;have hs3:=m3'.size
    have e3' :=m3'.hpk e7 λt=>by
     rcases t with t|t|t
     ·exact hpe' t
     ·omega
     ·grind
    obtain⟨W4,f4,x4,m4'⟩:=Hb Y.1 e3';refine ir f4 (cI (B4 x4) ?_)
    have V:∀y,dY C y->(X y\/W.heap.size<=y)/\(dY fp y\/j<y)/\y≠p/\y≠j:=λy f=>by
     rcases u3 y f with o|o
     ·have h2:=s.2.1 y o;refine⟨.inl ((s.1 y).2 (.inl o)),h2,?_,?_⟩
      ·rcases h2 with h2|h2
       ·have:=L y h2;omega
       ·omega
      ·rcases h2 with h2|h2
       ·have:=L y h2;omega
       ·omega
     ·grind
    have hst2:∀y,cK E y->(X y\/W.heap.size<=y)/\j<y:=λy f=>by
     rcases t3 y f with o|o
     ·grind
     ·grind
    have v4:=v3.mod m4' λpt y f e=>(V y ⟨pt,f⟩).2.2.2 e;have r4:=r3.mod m4' qZ λy f e=>by grind
    have hXe6:=(s.1 j).2 (.inr (.inr (.inl rfl)));have hXp:=(s.1 p).2 (.inr (.inl rfl));have MX4:=(MW2.to).trans ((m3'.mono λy _ f=>(s.1 y).2 (f.imp id λh=>h.imp id .inr)).trans (m4'.mono λy _ f=>by rw[f];exact hXe6))
    have hX' :∀sT' z,(∀y,cK sT' y->(X y\/W.heap.size<=y))->ik z v c l mb md A D2 C Y.2.2->B5 z p sT' Y.2.1 (j+1) (dY C)->j<z.heap.size->∀b,(dY C b\/b=p\/b=j\/cK sT' b)->(X b\/W.heap.size<=b)/\b<z.heap.size:=by
     intro sT' z hs a1 a2 a3 b hb;rcases hb with hb|hb|hb|hb
     ·obtain⟨pt,hpt⟩:=hb;exact⟨(V b ⟨pt,hpt⟩).1,a1.lt hpt⟩
     ·grind
     ·grind
     ·exact⟨hs b hb,a2.own.lt hb⟩
    have hXX:XX (λb=>dY C b\/b=p\/b=j\/cK E b) C E:=⟨λy=>fd,λy f=>(V y f).2.1,λy f=>(hst2 y f).2⟩
    by_cases hYe:Y.1≠0
    ·rw[bZ hYe]at O;refine qSt1 hYe ?_;have M:M0 W4 W4.drew:=mP;have v5:=v4.md0 M;have r5:=r4.mod M id eQ;have x5:=M.hpk x4 id;have MX5:=MX4.trans (M.to (G:=X))
     try dsimp only
     generalize W4.drew=W5 at M v5 r5 x5 MX5|-;refine dp (lB r5.at_) (dp (B4 x5) ?_)
     obtain⟨W6,f6,x6,k6⟩:=setR Y.1 Y.1 Y.2.1 Y.2.2 D2 C E W5 v5 r5 x5 (λy f=>(V y f).2.2) _ λz v' r' e' m' =>hKJ .ret (λb=>dY C b\/b=p\/b=j\/cK E b) z ⟨D2,C,E,Y.1,Y.2.1,Y.2.2,rfl,v',r',e',hXX,O.symm⟩ (MX5.trans (m'.mono λy _ f=>by
      rcases f with f|f
      ·rw[f];exact hXp
      ·rw[f];exact hXe6)) (hX' E z (λy f=>(hst2 y f).1) v' r' (cB e'))
     exact ir f6 ⟨B4 x6,k6⟩
    ·rw[aZ hYe]at O;have hY0:Y.1=0:=by simpa using hYe
     refine qSf1 hY0 ?_;rw[hY0]at x4;refine hKN (λb=>dY C b\/b=p\/b=j\/cK E b) W4 ⟨D2,C,E,Y.2.1,Y.2.2,v4,r4,x4,hXX,O,hsok.1,hsok.2.1.trans i7,⟨⟨⟨bd3.1.1.1,?_⟩,bd3.1.2.1,?_⟩,?_⟩⟩ MX4 (hX' E W4 (λy f=>(hst2 y f).1) v4 r4 (cB x4))
     ·grind
     ·grind
     ·grind
  ·rintro X W d hd ⟨J,g,n,r,u,i1,i2,i3,s,O,i6,i7,i8⟩ mW hdef U
   have i5' :sellL a.num S.cal.l zRp S=(0,r,u):=by
    have e:=O;rw[lv]at e;rw[<-e];rfl
   rw[i5']at B;have hdd:j<d:=qZ
   have hXd:¬X d:=λt=>by
    rcases(U d t).2 with o|o
    ·rcases o with o|o|o
     ·have:=L _ o;omega
     ·omega
     ·omega
    ·omega
   have MW:=(M5.to (G:=dY fp)).on mW λy f=>by
    rcases f with f|f|f
    ·exact .inl f
    ·exact gz
    ·exact gz
   have hupq:∀y,dY g y->y≠p/\y≠j:=λy f=>by
    rcases s.2.1 y f with o|o
    ·have:=L y o;omega
    ·omega
   unfold OG;simp only[iJ];apply cI (lB i2.at_);obtain⟨W1,f1,x1,k1⟩:=setR 0 0 r u J g n W i1 i2 i3 hupq _ λz v' r' e' m' =>R 0 r u J g n z [d] B v' r' e' (MW.on m' λy f=>gz) (λy f=>⟨s.2.1 y f,by grind⟩) (λy f=>by grind) (by simp) (λx Z=>by rw[eK.1 Z];exact⟨m'.hpk hdef qZ,hdd⟩);exact ir f1 k1
  ·rintro cc X W d hd ⟨J,g,n,e,r,u,rfl,i1,i2,i3,s,O⟩ mW hdef U;rw[O]at B;have hdd:j<d:=qZ
   have hXd:¬X d:=λt=>by
    rcases(U d t).2 with o|o
    ·rcases o with o|o|o
     ·have:=L _ o;omega
     ·omega
     ·omega
    ·omega
   have MW:=(M5.to (G:=dY fp)).on mW λy f=>by
    rcases f with f|f|f
    ·exact .inl f
    ·exact gz
    ·exact gz
   unfold OG;simp only[iJ];exact R e r u J g n W [d] B i1 i2 i3 MW (λy f=>⟨s.2.1 y f,by grind⟩) (λy f=>by grind) (by simp) (λx Z=>by grind)
def yA:lT pQ om=cmC zCm:=cU
def NT:se pQ om=true:=cU
def td(W:Wt_):(iF om (pt p 0) 0).run pQ W=.ok (pt p 0) W:=by simp[go_sem]
def Nj(W:Wt_):(iF om (pt p 0) 5).run pQ W=.ok (pt p 5) W:=by simp[go_sem]
def sH(h:iy W p c):(iL 22 (pt p 0)).run pQ W=.ok (gB c.kind) W:=by simp[go_sem,h,ZV]
def Q1(h:iy W p c):At W p 5 (jA c.spec):=by
 have:=(At.all h).sub 5 25 (by rw[ni];omega)
 have e:((cmC c).drop 5).take 25=jA c.spec:=by
  show(jA c.spec++_).take 25=_;rw[<-dP c.spec,fN]
 rw[e]at this;exact this
def B8(c:Cm)(i:Nat)(v:Vt_):(cmC c).set (30+i) v=[.int .u8 c.kind,gU c.acct,gU c.ct,gQ c.num,gI c.amt]++(jA c.spec++([.bool c.on,.bool c.buy,gB c.ty,gI c.price,gI c.qty]:LV_).set i v):=by
 unfold cmC;rw[gh _ _ (by show 5<=30+i;omega),gh _ _ (by rw[dP];show 25<=30+i - 5;omega),dP];have:30+i - [Value.int .u8 c.kind,gU c.acct,gU c.ct,gQ c.num,gI c.amt].length - 25=i:=by grind
 rw[this]
def Jt(x:Int)(h:iy W p c):∃a,(iS 23 (pt p 1) (gU x)).run pQ W=.ok () a/\iy a p {c with acct:=x}/\de (λb=>b=p) W a:=by
 refine⟨W.setCell ⟨p,1,none⟩ (gU x),by simp[go_sem,h,cm1],?_,(de.refl (λb=>b=p) W).sc⟩;show hp _ p=_;rw[nO,bZ rfl,h,iK,ed];congr 3
def SA(x:Int)(h:iy W p c):∃a,(iS 23 (pt p 2) (gU x)).run pQ W=.ok () a/\iy a p {c with ct:=x}/\de (λb=>b=p) W a:=by
 refine⟨W.setCell ⟨p,2,none⟩ (gU x),by simp[go_sem,h,cm2],?_,(de.refl (λb=>b=p) W).sc⟩;show hp _ p=_;rw[nO,bZ rfl,h,iK,ed];congr 3
def Yy(x:Int)(h:iy W p c):∃a,(iS 24 (pt p 3) (gQ x)).run pQ W=.ok () a/\iy a p {c with num:=x}/\de (λb=>b=p) W a:=by
 refine⟨W.setCell ⟨p,3,none⟩ (gQ x),by simp[go_sem,h,cm3],?_,(de.refl (λb=>b=p) W).sc⟩;show hp _ p=_;rw[nO,bZ rfl,h,iK,ed];congr 3
def ai5(x:Int)(h:iy W p c):∃a,(iS 2 (pt p 4) (gI x)).run pQ W=.ok () a/\iy a p {c with amt:=x}/\de (λb=>b=p) W a:=by
 refine⟨W.setCell ⟨p,4,none⟩ (gI x),by simp[go_sem,h,cm4],?_,(de.refl (λb=>b=p) W).sc⟩;show hp _ p=_;rw[nO,bZ rfl,h,iK,ed];congr 3
def Yo(x:Bool)(h:iy W p c):∃a,(iS 4 (pt p 30) (.bool x)).run pQ W=.ok () a/\iy a p {c with on:=x}/\de (λb=>b=p) W a:=by
 refine⟨W.setCell ⟨p,30,none⟩ (.bool x),by simp[go_sem,h,SJ],?_,(de.refl (λb=>b=p) W).sc⟩;show hp _ p=_;rw[nO,bZ rfl,h,iK,ed];congr 3;rw[show 30=30+0 from rfl,B8];rfl
def aB7(x:Bool)(h:iy W p c):∃a,(iS 4 (pt p 31) (.bool x)).run pQ W=.ok () a/\iy a p {c with buy:=x}/\de (λb=>b=p) W a:=by
 refine⟨W.setCell ⟨p,31,none⟩ (.bool x),by simp[go_sem,h,S4],?_,(de.refl (λb=>b=p) W).sc⟩;show hp _ p=_;rw[nO,bZ rfl,h,iK,ed];congr 3;rw[show 31=30+1 from rfl,B8];rfl
def YF(x:Int)(h:iy W p c):∃a,(iS 2 (pt p 33) (gI x)).run pQ W=.ok () a/\iy a p {c with price:=x}/\de (λb=>b=p) W a:=by
 refine⟨W.setCell ⟨p,33,none⟩ (gI x),by simp[go_sem,h,TT],?_,(de.refl (λb=>b=p) W).sc⟩;show hp _ p=_;rw[nO,bZ rfl,h,iK,ed];congr 3;rw[show 33=30+3 from rfl,B8];rfl
def US(x:Int)(h:iy W p c):∃a,(iS 2 (pt p 34) (gI x)).run pQ W=.ok () a/\iy a p {c with qty:=x}/\de (λb=>b=p) W a:=by
 refine⟨W.setCell ⟨p,34,none⟩ (gI x),by simp[go_sem,h,TC],?_,(de.refl (λb=>b=p) W).sc⟩;show hp _ p=_;rw[nO,bZ rfl,h,iK,ed];congr 3;rw[show 34=30+4 from rfl,B8];rfl
def ac2{K:World->Prop}(s:Sp)(h:iy W p c)(g:∀a,iy a p {c with spec:=s}->de (λb=>b=p) W a->K a):nj pQ (jH 27 (pt p 5) (.agg (jA s).toArray)) W K:=by
 refine uH Cc (dP s) h (by rw[eT,ni,dP];omega) (xS s) (g _ ?_ ((de.refl (λb=>b=p) W).setRow (.inl rfl) _));show hp _ p=_
 have e:mh (cmC c).toArray.toList 5 (jA s)=cmC {c with spec:=s}:=by
  show mh (cmC c) 5 (jA s)=_
  have d:(cmC c).drop (5+(jA s).length)=[.bool c.on,.bool c.buy,gB c.ty,gI c.price,gI c.qty]:=by
   rw[dP,<-dP c.spec,<-eN];show(jA c.spec++_).drop _=_;rw[fj]
  unfold mh;rw[d];rfl
 have i:hC (W.setRow p (mh (cmC c).toArray.toList 5 (jA s)).toArray) p (mh (cmC c).toArray.toList 5 (jA s)).toArray om:=by
  show(W.setRow p _).heap[p]? =_;have f:W.heap[p]? =some (.cells (cmC c).toArray om (0,0)):=h;rw[ij,bZ rfl,f]
 rw[i,e]
def OS{K:World->Prop}(d:Cm)(h:iy W p c)(f:∀a,iy a p d->de (λb=>b=p) W a->K a):nj pQ (jH om (pt p 0) (vI d)) W K:=by
 refine uH nCm (ni d) h (by rw[eT,ni,ni];omega) (Ky d) (f _ ?_ ((de.refl (λb=>b=p) W).setRow (.inl rfl) _));show hp _ p=_
 have g:hC (W.setRow p (mh (cmC c).toArray.toList 0 (cmC d)).toArray) p (mh (cmC c).toArray.toList 0 (cmC d)).toArray om:=by
  show(W.setRow p _).heap[p]? =_;have e:W.heap[p]? =some (.cells (cmC c).toArray om (0,0)):=h;rw[ij,bZ rfl,e]
 rw[g,tp (by show(cmC d).length=(cmC c).length;rw[ni,ni])]
def UL(b:∀a,iy a W.heap.size zCm->M0 W a->K (pt W.heap.size 0) a):rx pQ (nE om) W K:=by
 apply rg NT;rw[yA];exact b _ (by show hp _ _=_;simp[go_sem]) lm
def Ta(k:Int):Tryz.prog.built om [(0,gB k)]=some (cmC {zCm with kind:=k}).toArray:=by
 have b:∀a,Tryz.prog.built om a=Instr.fill (λi=>#[(0,1),(1,1),(2,1),(3,1),(4,1),(5,25),(30,1),(31,1),(32,1),(33,1),(34,1)][i]?) (lT pQ om).toArray a:=λa=>by kernel_rfl
 rw[b,yA];rw[uz (off:=0) (size:=1) rfl rfl (by rw[ni];omega),Dj];rfl
def Sn:Tryz.prog.built 27 []=some (jA II).toArray:=cU
structure BS(p z q:Nat)(x:Cm)(w0 W:Wt_)(b:Cm):Prop where
 fp:iy W p x
 fz:iy W z zCm
 fq:iy W q b
 fm:de (λy=>y=z\/y=q) w0 W
def BS.set{z q:Nat}{b d:Cm}{f:Wt_}{s:Sem Unit}{K:World->Prop}(h:BS p z q x f W b)(g:p≠q/\z≠q)(k:∃a,s.run pQ W=.ok () a/\iy a q d/\de (λy=>y=q) W a)(i:∀a,BS p z q x f a d->K a):ru pQ s W K:=by
 obtain⟨a,e,c,m⟩:=k;exact ir e (i a ⟨m.hpk h.fp g.1,m.hpk h.fz g.2,c,h.fm.trans (m.mono λy _ j=>.inr j)⟩)
def BS.drew{z q:Nat}{b:Cm}{a:Wt_}(h:BS p z q x a W b):BS p z q x a W.drew b:=by
 have m:M0 W W.drew:=mP;exact⟨m.hpk h.fp id,m.hpk h.fz id,m.hpk h.fq id,h.fm.trans (m.to)⟩
set_option maxRecDepth 10000 in
set_option maxHeartbeats 4000000 in
def Uc(hK:∀w',M0 w w' ->K (vI x.bare) w'):Ca pQ 80 #[vI x] w K:=by
 apply az7;obtain⟨w1,e1,J,m1⟩:=uT x w;apply cI e1;obtain⟨p,hp0⟩:=dW w.heap.size;rw[<-hp0]at J|-;refine UL λw2 Q m2=>?_;obtain⟨z,Z⟩:=dW w1.heap.size;rw[<-Z]at Q|-;have V:iy w2 p x:=m2.hpk J id;refine cI (td _) (cI (sH V) ?_);apply lL (Ta x.kind);refine UL λw3 T M=>?_;obtain⟨q,hq0⟩:=dW w2.heap.size;rw[<-hq0]at T|-;have hpz:p<z:=by have:=cB J;omega
 have hzq:z<q:=by have:=cB Q;omega
 refine OS {zCm with kind:=x.kind} T λg G I=>?_;have t:iy g p x:=I.hpk (M.hpk V id) qZ;have U:iy g z zCm:=I.hpk (M.hpk Q id) qZ;have M4:de (λy=>y=z\/y=q) w g:=(((m1.trans m2).trans M).to).trans (I.mono λy _ r=>.inr r);clear J Q T V e1 m1 m2 M I;refine cI (td _) (cI (sH t) ?_)
 have fin:∀(b:Cm) (W:Wt_),x.bare=b->BS p z q x g W b->rx pQ (fH om (pt q 0)) W λS w33=>nj pQ (jH om (pt z 0) S) w33 λC=>pS pQ (fH om (pt z 0)) C λX=>K X C:=by
  intro b W hb h;have B:=h.fq;have h2:=h.fz;have hm:=h.fm;apply iW (vm B);refine OS b h2 λW2 a2 n2=>?_;apply li (vm a2);rw[<-hb];exact hK W2 ((de.refl (λ_=>False) w).on ((M4.trans hm).trans (n2.mono λy _ r=>.inl r)) λy r=>.inr (by grind))
 have e:p≠q/\z≠q:=⟨qZ,qZ⟩
 have k:BS p z q x g g {zCm with kind:=x.kind}:=⟨t,U,G,lX⟩
 refine dK.at (λst W=>st=(.bool (decide (x.kind=1\/x.kind=2)),())/\g=W) ?_ ?_
 ·by_cases B:x.kind=1
  ·apply qSv1 (.bool true) B;rw[kx];exact⟨by simp[B],rfl⟩
  ·apply qSv1 (.bool false) B;rw[gP];apply cx (.bool (decide (x.kind=2))) g (by simp[go_sem];rfl);exact⟨by simp[B],rfl⟩
 rintro _ _ ⟨rfl,rfl⟩;unfold WX;intro _;by_cases A:x.kind=1\/x.kind=2
 ·rw[qo A];have a:x.bare={zCm with kind:=x.kind,acct:=x.acct,amt:=x.amt}:=by rcases A with h|h<;>simp[Cm.bare,h]
  have c:=k.drew
  try dsimp only
  generalize g.drew=v at c|-;exact dw pM (dp (rk c.fp) (dw JB (dp (Nx c.fp) (dw pM (c.set e (Jt x.acct c.fq) λj d=>⟨Nx d.fp,dw JB (d.set e (ai5 x.amt d.fq) λi f=>fin _ i a f)⟩)))))
 rw[cy,aZ (by grind)];by_cases H:x.kind=3
 ·apply qSv1 (.bool true) H;rw[kx];have a:x.bare={zCm with kind:=x.kind,spec:=x.spec}:=by simp[Cm.bare,H]
  apply cI (Nj _);apply jq (jA x.spec) 24 DW Cc (dP _) (Q1 t);apply cI (Nj _);refine ac2 x.spec G λj q6 D=>?_;exact fin _ j a ⟨D.hpk t e.1,D.hpk U e.2,q6,D.mono λy _ r=>.inr r⟩
 apply qSv1 (.bool false) H;rw[gP];by_cases N:x.kind=4
 ·apply qSv1 (.bool true) N;rw[kx];have a:x.bare={zCm with kind:=x.kind,ct:=x.ct,on:=x.on}:=by simp[Cm.bare,N]
  have c:=k.drew
  try dsimp only
  generalize g.drew=v at c|-;exact dw tZ (dp (sD c.fp) (dw H6 (dp (Jd c.fp) (dw tZ (c.set e (SA x.ct c.fq) λj d=>⟨Jd d.fp,dw H6 (d.set e (Yo x.on d.fq) λi f=>fin _ i a f)⟩)))))
 apply qSv1 (.bool false) N;rw[gP];by_cases L:x.kind=5
 ·apply qSv1 (.bool true) L;rw[kx];have a:x.bare={x with num:=0,amt:=0,spec:=II,on:=false}:=by simp[Cm.bare,L]
  apply iW (vm t);refine OS x G λv q5 m5=>?_;apply lL Sn;apply cI (B7 _);obtain⟨j,e6,q6,D⟩:=Yy 0 q5;refine ir e6 (cI (JB _) ?_);obtain⟨i,e7,q7,m7⟩:=ai5 0 q6;refine ir e7 (cI (Nj _) ?_);refine ac2 II q7 λw8 q8 m8=>?_;apply cI (H6 _);obtain⟨E,e9,q9,m9⟩:=Yo false q8;apply ir e9;have M9:de (λy=>y=q) g E:=(((m5.trans D).trans m7).trans m8).trans m9;exact fin _ E a ⟨M9.hpk t e.1,M9.hpk U e.2,q9,M9.mono λy _ r=>.inr r⟩
 apply qSv1 (.bool false) L;rw[gP];by_cases u:x.kind=6
 ·apply qSv1 (.bool true) u;rw[kx];have a:x.bare={zCm with kind:=x.kind,acct:=x.acct,num:=x.num}:=by simp[Cm.bare,u]
  have c:=k.drew
  try dsimp only
  generalize g.drew=v at c|-;exact dw pM (dp (rk c.fp) (dw B7 (dp (BV c.fp) (dw pM (c.set e (Jt x.acct c.fq) λj d=>⟨BV d.fp,dw B7 (d.set e (Yy x.num d.fq) λi f=>fin _ i a f)⟩)))))
 apply qSv1 (.bool false) u;rw[gP];by_cases P:x.kind=7
 ·apply qSv1 (.bool true) P;rw[kx];have a:x.bare={zCm with kind:=x.kind,acct:=x.acct,num:=x.num,price:=x.price,qty:=x.qty}:=by simp[Cm.bare,P]
  have c:=k.drew
  try dsimp only
  generalize g.drew=v at c|-;exact dw pM (dp (rk c.fp) (dw B7 (dp (BV c.fp) (dw DK (dp (yG c.fp) (dw yy (dp (um c.fp) (dw pM (c.set e (Jt x.acct c.fq) λj d=>⟨um d.fp,yG d.fp,BV d.fp,dw B7 (d.set e (Yy x.num d.fq) λi f=>⟨um f.fp,yG f.fp,dw DK (f.set e (YF x.price f.fq) λw8 s=>⟨um s.fp,dw yy (s.set e (US x.qty s.fq) λE F=>fin _ E a F)⟩)⟩)⟩)))))))))
 apply qSv1 (.bool false) P;rw[gP];by_cases O:x.kind=8
 ·apply qSv1 (.bool true) O;rw[kx];have a:x.bare={zCm with kind:=x.kind,acct:=x.acct,ct:=x.ct}:=by simp[Cm.bare,O]
  have c:=k.drew
  try dsimp only
  generalize g.drew=v at c|-;exact dw pM (dp (rk c.fp) (dw tZ (dp (sD c.fp) (dw pM (c.set e (Jt x.acct c.fq) λj d=>⟨sD d.fp,dw tZ (d.set e (SA x.ct d.fq) λi f=>fin _ i a f)⟩)))))
 apply qSv1 (.bool false) O;rw[gP];by_cases R:x.kind=9
 ·apply qSv1 (.bool true) R;rw[kx];have a:x.bare={zCm with kind:=x.kind,acct:=x.acct,ct:=x.ct,buy:=x.buy,price:=x.price,qty:=x.qty}:=by simp[Cm.bare,R]
  have c:=k.drew
  try dsimp only
  generalize g.drew=v at c|-;exact dw pM (dp (rk c.fp) (dw tZ (dp (sD c.fp) (dw MG (dp (Jr c.fp) (dw DK (dp (yG c.fp) (dw yy (dp (um c.fp) (dw pM (c.set e (Jt x.acct c.fq) λj d=>⟨um d.fp,yG d.fp,Jr d.fp,sD d.fp,dw tZ (d.set e (SA x.ct d.fq) λi f=>⟨um f.fp,yG f.fp,Jr f.fp,dw MG (f.set e (aB7 x.buy f.fq) λw8 s=>⟨um s.fp,yG s.fp,dw DK (s.set e (YF x.price s.fq) λE F=>⟨um F.fp,dw yy (F.set e (US x.qty F.fq) λw10 Y=>fin _ w10 a Y)⟩)⟩)⟩)⟩)))))))))))
 apply qSv1 (.bool false) R;rw[gP];by_cases n:x.kind=10
 ·apply qSv1 (.bool true) n;rw[kx];have a:x.bare={zCm with kind:=x.kind,acct:=x.acct,on:=x.on}:=by simp[Cm.bare,n]
  have c:=k.drew
  try dsimp only
  generalize g.drew=v at c|-;exact dw pM (dp (rk c.fp) (dw H6 (dp (Jd c.fp) (dw pM (c.set e (Jt x.acct c.fq) λj d=>⟨Jd d.fp,dw H6 (d.set e (Yo x.on d.fq) λi f=>fin _ i a f)⟩)))))
 apply qSv1 (.bool false) n;rw[gP];by_cases o:x.kind=11
 ·apply qSv1 (.bool true) o;rw[kx];have a:x.bare={zCm with kind:=x.kind,ct:=x.ct,price:=x.price}:=by simp[Cm.bare,o]
  have c:=k.drew
  try dsimp only
  generalize g.drew=v at c|-;exact dw tZ (dp (sD c.fp) (dw DK (dp (yG c.fp) (dw tZ (c.set e (SA x.ct c.fq) λj d=>⟨yG d.fp,dw DK (d.set e (YF x.price d.fq) λi f=>fin _ i a f)⟩)))))
 apply qSv1 (.bool false) o;rw[gP];by_cases l:x.kind=13
 ·apply qSv1 (.bool true) l;rw[kx];have a:x.bare={zCm with kind:=x.kind,acct:=x.acct}:=by simp[Cm.bare,l]
  exact cI (pM _) (cI (rk t) (cI (pM _) (k.set e (Jt x.acct G) λj u=>fin _ j a u)))
 apply qSv1 (.bool false) l;rw[gP];by_cases m:x.kind=14
 ·apply qSv1 (.bool true) m;rw[kx];have a:x.bare={zCm with kind:=x.kind,ct:=x.ct}:=by simp[Cm.bare,m]
  exact cI (tZ _) (cI (sD t) (cI (tZ _) (k.set e (SA x.ct G) λj u=>fin _ j a u)))
 apply qSv1 (.bool false) m;rw[gP];have a:x.bare={zCm with kind:=x.kind}:=by simp[Cm.bare,A,H,N,L,u,P,O,R,n,o,l,m]
 exact fin _ g a k
def Bx{P:Program}{w:Wt_}{e:TypeId}(j:P.underlying e=some (.int .i64))(d:Nat)(x y:List Int)(p:x.length=y.length):∀(k i:Nat),i+k=x.length->
  (Op.eqItems (d+1) e 1 (x.map λn=>Value.int .i64 n).toArray (y.map λn=>Value.int .i64 n).toArray (List.range' i k)).run P w=.ok (decide (x.drop i=y.drop i)) w
 |0,i,h=>by
  have f:x.drop i=[]:=fg qZ;have c:y.drop i=[]:=fg qZ;simp[Op.eqItems,f,c]
 |k+1,i,h=>by
  have o:i<x.length:=qZ;have m:i<y.length:=qZ
  have a:∀(z:List Int) (l:i<z.length),(part e (z.map λn=>Value.int .i64 n).toArray (i*1)).run P w=.ok (gI z[i]) w:=by
   intro z l
   have f:(z.map λn=>Value.int .i64 n).toArray[i]? =some (gI z[i]):=by
    rw[eX,dO,cE l];rfl
   have c:(isAgg e).run P w=.ok false w:=by
    unfold isAgg;simp[dx j,Result.andThen]
   simp[part,c,Result.andThen,f]
  rw[List.range'_succ];unfold Op.eqItems;simp only[fE,a x o,a y m,Result.andThen];rw[run_equalIn_int w d e .i64 .i64 _ _ j];rw[fF o,fF m];by_cases b:x[i]=y[i]
  ·have g:(x[i]==y[i])=true:=by simp[b]
   simp only[g,b,mR,tJ];have:=Bx (w:=w) j d x y p k (i+1) qZ;simpa using this
  ·have g:(x[i]==y[i])=false:=by simpa using b
   simp only[g,mR,b,false_and,decide_false];simp
set_option maxRecDepth 10000 in
def aa0(x y:Vector Int 16)(d:Nat)(w:Wt_):(Op.equalIn (d+2) 25 (.agg (xD x).toArray) (.agg (xD y).toArray)).run pQ w=.ok (decide (x=y)) w:=by
 obtain⟨g,b,-⟩:=tC (P:=pQ) (t:=2) (n:=0) cU;have c:Tryz.prog.underlying 25=some (.array 16 2):=cU;have f:Tryz.prog.cellsOf 2=1:=cU;rw[run_equalIn_array w (d+1) _ _ c b,f];have:=Bx (P:=pQ) (w:=w) (e:=2) cU d x.toList y.toList (by simp) 16 0 (by simp);rw[List.range_eq_range'];show(Op.eqItems (d+1) _ 1 (x.toList.map λn=>Value.int .i64 n).toArray (y.toList.map λn=>Value.int .i64 n).toArray (List.range' 0 16)).run pQ w=_;rw[this];congr 1
 have a:(x.toList=y.toList)↔x=y:=by
  constructor
  ·intro h;exact Vector.toList_inj.1 h
  ·rintro rfl;rfl
 simp only[iw];exact qP.2 a
def nk{d:Nat}{xs c:Array Value}{f:Field}{e:List Field}{a b:Vt_}{r r' :Bool}(i:f.name≠ "_")(j:(part f.type xs f.offset).run P w=.ok a w)(g:(part f.type c f.offset).run P w=.ok b w)
  (k:(Op.equalIn d f.type a b).run P w=.ok r w)(h:(Op.eqFields d xs c e).run P w=.ok r' w):(Op.eqFields d xs c (f::e)).run P w=.ok (r&& r') w:=by
 simp only[Op.eqFields,i,ne_eq,not_false_eq_true,fh,fE,j,g,k,Result.andThen_ok];cases r
 ·simp
 ·simpa using h
def G7{b:Nat}{xs a:Array Value}:(Op.eqFields b xs a []).run P w=.ok true w:=by simp[Op.eqFields]
def jC{e:TypeId}{l:LV_}{off:Nat}{v:Vt_}(a:P.plainKey e=true)(h:l[off]? =some v):(part e l.toArray off).run P w=.ok v w:=run_part_plain w a (by simpa using h)
def yq{e:TypeId}{l m:LV_}{off n:Nat}(a:pY P e=true)(b:P.cellsOf e=n+1)(h:(l.drop off).take (n+1)=m):(part e l.toArray off).run P w=.ok (.agg m.toArray) w:=by
 have c:l.toArray.extract off (off+(n+1))=m.toArray:=by
  apply nQ;rw[Array.toList_extract];simp[List.extract,h]
 simp[part,AS a,Go.Vc.oK b,Result.andThen,h]
def eqB(x y:Bool)(d:Nat)(w:Wt_):(Op.equalIn (d+1) 4 (.bool x) (.bool y)).run pQ w=.ok (x==y) w:=by
 have a:Tryz.prog.underlying 4=some .bool:=cU;simp[Op.equalIn,dx a,Result.andThen]
set_option maxRecDepth 10000 in
def LP(a b:Sp)(d:Nat)(w:Wt_):(Op.equalIn (d+3) 27 (.agg (jA a).toArray) (.agg (jA b).toArray)).run pQ w=.ok (decide (a=b)) w:=by
 have u:Tryz.prog.underlying 27=some (.struct (Tryz.prog.fieldsOf 27)):=cU;have h:Tryz.prog.stoodInHeld 27=false:=cU;rw[run_equalIn_struct w (d+2) 27 _ _ u h];unfold Program.fieldsOf;rw[Tryz.underlying27];have g:∀s:Sp,((jA s).drop 6).take 16=xD s.shifts:=xK
 have c:∀s:Sp,(jA s)[22]? =some (gI s.credit)/\(jA s)[23]? =some (gU s.last)/\(jA s)[24]? =some (gI s.first):=λs=>by
  have key:∀i,(jA s)[22+i]? =([.int .i64 s.credit,gU s.last,gI s.first]:LV_)[i]? :=λi=>by
   unfold jA;rw[cQ (by show 6<=22+i;omega),cQ (by grind),rh];congr 1;show 22+i - 6 - 16=i;omega
  exact⟨key 0,key 1,key 2⟩
 have e:∀(t:TypeId) (q:IntKind) (x y:Int),Tryz.prog.underlying t=some (.int q)->(Op.equalIn (d+2) t (.int q x) (.int q y)).run pQ w=.ok (x==y) w:=λt q x y l=>run_equalIn_int w (d+1) t q q x y l
 have f:decide (a=b)=((a.num==b.num)&& ((a.route==b.route)&& ((a.tick==b.tick)&& ((a.lot==b.lot)&& ((a.band==b.band)&& ((a.limit==b.limit)&& (decide (a.shifts=b.shifts)&& ((a.credit==b.credit)&& ((a.last==b.last)&& ((a.first==b.first)&& true)))))))))):=by
  obtain⟨J,K,A,D,B,I,r,m,F,k⟩:=a;obtain⟨o,G,z,H,p,v,E,L,C,j⟩:=b;rw[iC];simp[Sp.mk.injEq]
 rw[f];apply nk (by decide) (jC cU rfl) (jC cU rfl) (e _ _ _ _ cU);apply nk (by decide) (jC cU rfl) (jC cU rfl) (e _ _ _ _ cU);apply nk (by decide) (jC cU rfl) (jC cU rfl) (e _ _ _ _ cU);apply nk (by decide) (jC cU rfl) (jC cU rfl) (e _ _ _ _ cU);apply nk (by decide) (jC cU rfl) (jC cU rfl) (e _ _ _ _ cU);apply nk (by decide) (jC cU rfl) (jC cU rfl) (e _ _ _ _ cU);apply nk (by decide) (yq (n:=15) cU cU (g a)) (yq (n:=15) cU cU (g b)) (aa0 a.shifts b.shifts d w);apply nk (by decide) (jC cU (c a).1) (jC cU (c b).1) (e _ _ _ _ cU);apply nk (by decide) (jC cU (c a).2.1) (jC cU (c b).2.1) (e _ _ _ _ cU);apply nk (by decide) (jC cU (c a).2.2) (jC cU (c b).2.2) (e _ _ _ _ cU);exact G7
def ZH(c:Cm):((cmC c).drop 5).take 25=jA c.spec:=by
 show(jA c.spec++_).take 25=_;rw[<-dP c.spec,fN]
def ae3(a b:Cm)(w:Wt_):(Op.equalIn 10000 om (vI a) (vI b)).run pQ w=.ok (decide (a=b)) w:=by
 have u:Tryz.prog.underlying om=some (.struct (Tryz.prog.fieldsOf om)):=cU;have h:Tryz.prog.stoodInHeld om=false:=cU;unfold vI;rw[run_equalIn_struct w 9999 om _ _ u h];unfold Program.fieldsOf;rw[Tryz.underlying30];have c:∀(t:TypeId) (q:IntKind) (x y:Int),Tryz.prog.underlying t=some (.int q)->(Op.equalIn 9999 t (.int q x) (.int q y)).run pQ w=.ok (x==y) w:=λt q x y j=>run_equalIn_int w 9998 t q q x y j
 have d:decide (a=b)=((a.kind==b.kind)&& ((a.acct==b.acct)&& ((a.ct==b.ct)&& ((a.num==b.num)&& ((a.amt==b.amt)&& (decide (a.spec=b.spec)&& ((a.on==b.on)&& ((a.buy==b.buy)&& ((a.ty==b.ty)&& ((a.price==b.price)&& ((a.qty==b.qty)&& true))))))))))):=by
  obtain⟨G,H,s,A,v,F,o,k,C,g,i⟩:=a;obtain⟨l,D,r,E,m,p,B,I,z,f,e⟩:=b;rw[iC];simp[Cm.mk.injEq]
 rw[d];apply nk (by decide) (jC cU (ZV a)) (jC cU (ZV b)) (c _ _ _ _ cU);apply nk (by decide) (jC cU (cm1 a)) (jC cU (cm1 b)) (c _ _ _ _ cU);apply nk (by decide) (jC cU (cm2 a)) (jC cU (cm2 b)) (c _ _ _ _ cU);apply nk (by decide) (jC cU (cm3 a)) (jC cU (cm3 b)) (c _ _ _ _ cU);apply nk (by decide) (jC cU (cm4 a)) (jC cU (cm4 b)) (c _ _ _ _ cU);refine nk (by decide) (yq (n:=24) cU cU (ZH a)) (yq (n:=24) cU cU (ZH b)) (LP a.spec b.spec 9996 w) ?_;refine nk (by decide) (jC cU (SJ a)) (jC cU (SJ b)) (eqB _ _ 9998 w) ?_;refine nk (by decide) (jC cU (S4 a)) (jC cU (S4 b)) (eqB _ _ 9998 w) ?_;apply nk (by decide) (jC cU (YA a)) (jC cU (YA b)) (c _ _ _ _ cU);apply nk (by decide) (jC cU (TT a)) (jC cU (TT b)) (c _ _ _ _ cU);apply nk (by decide) (jC cU (TC a)) (jC cU (TC b)) (c _ _ _ _ cU);exact G7
def XA(a b:Cm)(w:Wt_):(qE .eql om false (vI a) (vI b)).run pQ w=.ok (.bool (decide (a=b))) w:=by
 have:=ae3 a b w;unfold vI at this|-;generalize(cmC a).toArray=A at this;generalize(cmC b).toArray=B at this;simp[go_sem,this,Result.andThen]
def TO(v:x.Fit)(b:∀q,M0 w q->K (.bool x.may) q):Ca pQ 38 #[vI x] w K:=by
 apply aA7;obtain⟨d,y,o,u⟩:=uT x w;apply cI y;obtain⟨p,n⟩:=dW w.heap.size;rw[<-n]at o|-;have a:M0 d d.drew:=mP;have c:iy d.drew p x:=a.hpk o id;have f:=u.trans a
 try dsimp only
 generalize d.drew=s at a c f|-;unfold Cm.may at b;refine dw td (dp (sH c) ?_);by_cases l:1<=x.kind
 ·apply dX (.bool true) (λ_=>by simp[go_sem];omega);rw[kx];refine dw td (dp (sH c) ?_);by_cases g:x.kind<=14
  ·apply dX (.bool true) (λ_=>by simp[go_sem];omega);rw[kx];refine li (vm c) (li (vm c) ?_);refine Uc λi r=>?_;have m:iy i p x:=r.hpk c id;refine⟨vm m,?_⟩;have j:=f.trans r;apply dw (XA x x.bare);by_cases e:x=x.bare
   ·rw[qo e];refine dw td (dp (sH m) ?_);apply dX (.bool (decide (x.kind≠3))) (λ_=>by simp[go_sem];rfl);by_cases k:x.kind≠3
    ·rw[qo k];have:=b i j;rw[db ⟨l,g⟩,db e,db k]at this;exact this
    ·rw[cy,aZ (by grind)];apply dw Nj;apply sm (jA x.spec) 24 DW Cc (dP _) (Q1 m);refine vP v.2.2.2.2.2.1 λt z=>?_;have:=b t (j.trans z);rw[db ⟨l,g⟩,db e,ej k]at this;simpa using this
   ·rw[cy,aZ (by grind)];have:=b i j;rw[ej e,sj,jp]at this;exact this
  ·apply dX (.bool false) (λ_=>by simp[go_sem];omega);rw[gP];have:=b s f;rw[ej (λh=>g h.2),jp,jp]at this;exact this
 ·apply dX (.bool false) (λ_=>by simp[go_sem];omega);rw[gP];have:=b s f;rw[ej (λh=>l h.1),jp,jp]at this;exact this
end Go.Proofs
