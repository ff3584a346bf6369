/- Part of a proof. -/
import Derived.Test.YtekbnpagidkbbaaGreatR26
set_option linter.all false
set_option maxRecDepth 100000
set_option maxHeartbeats 4000000
namespace Go.Proofs
open Go Go.Vc
attribute [local congr] bj
variable {x:Int×Od}{W:Wt_}
def ai5:Tryz.prog.cellsOf vl=5+1:=cV
def af0:Tryz.prog.underlying 56=some (.slice vl):=cV
def vn{p off:Nat}(h:At W p off (kC x)):(iL vl (bO p off)).run pQ W=.ok (CU x) W:=
 jh (P:=pQ) (t:=vl) cV ai5 rfl h
def Jn(x:Int×Od)(W:Wt_):∃a e,(iA vl true (.tuple #[])).run pQ W=.ok (bO W.heap.size 0) a/\(iS vl (bO W.heap.size 0) (CU x)).run pQ a=.ok () e/\Ah e W.heap.size x/\M0 W e:=by
 obtain⟨p,d⟩:=di W.heap.size;obtain⟨a,b⟩:=di (W.alloc (.cells #[.int .u32 0,gQ 0,gU 0,.bool false,gI 0,gI 0] vl));have g:M0 W a:=by rw[b];exact(aR.refl _ W).alloc _
 have f:hp a p=some (.cells #[.int .u32 0,gQ 0,gU 0,.bool false,gI 0,gI 0] vl (0,0)):=by rw[b,d];simp[go_sem]
 rw[<-d];refine⟨a,(((((a.setCell ⟨p,0,none⟩ (gU x.1)).setCell ⟨p,1,none⟩ (gQ x.2.num)).setCell ⟨p,2,none⟩ (gU x.2.acct)).setCell ⟨p,3,none⟩ (.bool x.2.buy)).setCell ⟨p,4,none⟩ (gI x.2.price)).setCell ⟨p,5,none⟩ (gI x.2.left),by rw[b,d];simp[go_sem],by simp[go_sem,f,CU,kC,dF],by show hp _ _=_;simp[go_sem,f,kC,dF],?_⟩;exact g.on (((((((aR.refl (λy=>y=p) a).setCell (.inl rfl) _ _).setCell (.inl rfl) _ _).setCell (.inl rfl) _ _).setCell (.inl rfl) _ _).setCell (.inl rfl) _ _).setCell (.inl rfl) _ _) λy h=>.inr qZ
def ab7{p:Nat}(h:Ah W p x):(iL 37 (bO p 1)).run pQ W=.ok (gQ x.2.num) W:=by
 have a:hp W p=some (.cells (kC x).toArray vl (0,0)):=h;simp only[kC,dF]at a;simp[go_sem,a]
def Wq(p:Nat)(W:Wt_):(iF jG (bO p 1) 0).run pQ W=.ok (bO p 1) W:=by simp[go_sem]
def N6{s:Vt_}{L:List (Int×Od)}(h:Rd W 6 s L.length (L.flatMap kC)){i:Nat}(hi:i<L.length):
  ∃b a,(∀e k,(iX 56 s (.int k (i:Int))).run pQ e=.ok (bO b a) e)/\At W b a (kC L[i]):=by
 obtain⟨b,a,g,d,f,j⟩:=h.item (show∀x,(kC x).length=6 from λ_=>rfl) hi rfl;exact⟨b,a+i*6,λe k=>by rw[d];simp[go_sem,hi,bK,af0],j⟩
def Zt{b off:Nat}(h:At W b off (kC x)):(iL 45 (bO b off)).run pQ W=.ok (gU x.1) W:=by
 obtain⟨C,e,f,hC,d⟩:=h.get;have a:=d 0 (gU x.1) rfl;rw[cB]at a;simp[go_sem,bT hC,a]
def pC.new(W:Wt_):pC (W.alloc (.map #[] 0)) W.heap.size []:=⟨[],eM.new W,λn=>rfl⟩
def rm(b i:Nat)(hi:i<=7)(W:Wt_):(iF yu (bO b 0) i).run pQ W=.ok (bO b i) W:=by
 rcases(show i=0\/i=1\/i=2\/i=3\/i=4\/i=5\/i=6\/i=7 by omega)with rfl|rfl|rfl|rfl|rfl|rfl|rfl|rfl<;>simp[go_sem]
def wp{w:Wt_}{b:Nat}{d nx e:Int}{ss:Nat->Value}(h:kw w b d nx e ss)(hs:∀i,3<=i->i<=7->∃a n c,ss i=.slice a n c):(iL 56 (bO b 6)).run pQ w=.ok (ss 6) w/\(iL 56 (bO b 7)).run pQ w=.ok (ss 7) w:=
 ⟨IB h hs 6 qZ qZ,IB h hs 7 qZ qZ⟩
def FU{q:Nat}{sT sG:Vt_}{f l:Int}(h:hp W q=some (.cells (sw sT sG f l) 246 (0,0)))(b:∃a n c,sT=.slice a n c)(d:∃a n c,sG=.slice a n c):(iF 246 (bO q 0) 1).run pQ W=.ok (bO q 1) W/\(iL 39 (bO q 1)).run pQ W=.ok sG W:=by
 obtain⟨k,m,i,rfl⟩:=b;obtain⟨e,j,g,rfl⟩:=d;unfold sw at h;exact⟨by simp[go_sem],by simp[go_sem,h]⟩
def Jp(x:Int×Od)(l:List (Int×Od))(U:List Int)(S:bt):nY (x::l) U S=if S.stnd true U x=false then none
  else if(db (S.bk x.1) x.2 4).1≠0\/(db (S.bk x.1) x.2 4).2.2.gone≠ []then none
  else nY l (x.2.num::U) {S with bk:=eS S.bk x.1 (db (S.bk x.1) x.2 4).2.1}:=rfl
def JB(x:Int×Od)(l:List (Int×Od))(a:Option Int)(n:Int)(U:List Int)(S:bt):oV (x::l) a n U S=if S.stnd false U x=false then none
  else if x.2.num<=(if a≠none/\a≠some x.1 then 0 else n)then none
  else if 50<=(S.bd x.1).length then none
  else oV l (some x.1) x.2.num (x.2.num::U) {S with bd:=eS S.bd x.1 (S.bd x.1++[x.2])}:=rfl
def Vs(l:List (Int×Od))(i:Nat):Option Int:=if i=0 then none else l[i - 1]?.map (·.1)
def DT{l:List (Int×Od)}{i:Nat}(h:i<l.length):Vs l (i+1)=some l[i].1:=by
 unfold Vs;rw[aa qZ,jT,av h];rfl
section
variable{w:Wt_}{K:aZ}{v c l mb md mn sb:Nat}{A:List (Int×Nat)}{D:List (Int×Value)}{fp:Pt->Nat->Prop}{S0:bt}{ss:Nat->Value}{s:uR}
structure uw(w:Wt_)(v c l mb md mn sb:Nat)(A:List (Int×Nat))(fp:Pt->Nat->Prop)(S0:bt)(ss:Nat->Value)(s:uR)(W:Wt_)(D' :List (Int×Value))(U:List Int)(T:bt)(fp' :Pt->Nat->Prop):Prop where
 ven:qs W v c l mb md A D' fp' T
 num:pC W mn U
 inv:sJ S0 T U
 st:kw W sb s.day s.next s.fund ss
 up:∀y,lq fp' y->lq fp y\/mn<y
 md:aR (lq fp) w W
def uw.nmn{W:Wt_}{e:List (Int×Value)}{U:List Int}{T:bt}{a:Pt->Nat->Prop}(h:uw w v c l mb md mn sb A fp S0 ss s W e U T a)(b:∀y,lq fp y->y<w.heap.size)(h1:w.heap.size<=mn):¬lq a mn:=λf=>by
 rcases h.up mn f with d|d
 ·have:=b mn d;omega
 ·omega
def uw.nsb{W:Wt_}{e:List (Int×Value)}{U:List Int}{T:bt}{a:Pt->Nat->Prop}(h:uw w v c l mb md mn sb A fp S0 ss s W e U T a)(b:∀y,lq fp y->y<w.heap.size)(h1:w.heap.size<=sb)(g:sb<mn):¬lq a sb:=λf=>by
 rcases h.up sb f with d|d
 ·have:=b sb d;omega
 ·omega
def uw.md0{W d:Wt_}{b:List (Int×Value)}{U:List Int}{T:bt}{a:Pt->Nat->Prop}(h:uw w v c l mb md mn sb A fp S0 ss s W b U T a)(m:M0 W d):uw w v c l mb md mn sb A fp S0 ss s d b U T a:=
 ⟨h.ven.md0 m,h.num.mod m id,h.inv,m.hpk h.st id,h.up,h.md.trans (m.to)⟩
def Ns{U0:List Int}{X:bt}{fp0:Pt->Nat->Prop}{W0:Wt_}(Q:∀y,lq fp y->y<w.heap.size)(hs:sX w ss s)(hf:s.Fit)(hlb:s.bids.length<=100000)(hsb:w.heap.size<=sb)(hsm:sb<mn)
  (hap:∀i y,3<=i->i<=7->tq (ss i) y->¬lq fp y)(h0:uw w v c l mb md mn sb A fp S0 ss s W0 D U0 X fp0)
  (hK1:∀T R d U w',oV s.bids none 0 U0 X=some T->uw w v c l mb md mn sb A fp S0 ss s w' R U T d->K (.bool true) w')
  (hK0:∀w',oV s.bids none 0 U0 X=none->aR (lq fp) w w' ->K (.bool false) w'):
  oJ (S:=Value×Value×Value×Unit) (Wl (gI (s.bids.length:Int)) (ss 7) (bO sb 0) (ec v) (.map (some mn)) K) (.bool false,gQ 0,gI 0,()) W0:=by
 have hssl:=hs.sl
 refine d8 (λst W=>∃(i:Nat) (last:Int) (R:List (Int×Value)) (U:List Int) (T:bt) (d:Pt->Nat->Prop),i<=s.bids.length/\st=(.bool false,gQ last,gI i,())/\oV s.bids none 0 U0 X=oV (s.bids.drop i) (Vs s.bids i) last U T/\uw w v c l mb md mn sb A fp S0 ss s W R U T d)
  (λst _=>match st.2.2.1 with| .int _ i=>s.bids.length - i.toNat|_=>0) ⟨0,0,D,U0,X,fp0,qZ,rfl,rfl,h0⟩ ?_
 rintro _ W ⟨i,last,R,U,T,d,hi,rfl,a,r⟩ KN hKN;unfold Wl;intro _;by_cases B:i<s.bids.length
 ·have hlt' :(i:Int)<(s.bids.length:Int):=qZ;refine dY hlt' ?_;have hR:Rd W 6 (ss 7) s.bids.length (s.bids.flatMap kC):=hs.bids.mod r.md λy f=>hap 7 y qZ qZ f;obtain⟨eb,eo,ei,hA⟩:=N6 hR B;have L:=DT B;have hxf:=hf.bids s.bids[i] (aq B);rw[cD B]at a;obtain⟨x,hx⟩:=di (s.bids[i]);rw[<-hx]at hA a L hxf;refine bo (ei W _) (bo (vn hA) ?_);obtain⟨w1,w2,e1,e2,b2,m2⟩:=Jn x W;obtain⟨p,hp0⟩:=di W.heap.size;rw[<-hp0]at e1 e2 b2;refine bo e1 (iE e2 ?_);have h2:=r.md0 m2;obtain⟨F,P⟩:=di (Vs s.bids i);rw[<-P]at a;obtain⟨la,u⟩:=di (if F≠none/\F≠some x.1 then 0 else last:Int);rw[JB]at a;rw[<-u]at a;refine cT.at (λst C=>st=(gQ la,())/\M0 w2 C) ?_ ?_
  ·refine cT.at (λst C=>st=(.bool (decide (F≠none/\F≠some x.1)),())/\M0 w2 C) ?_ ?_
   ·have b:=(aR.refl (λ_=>False) w2).drew;have h3:=h2.md0 b;have b3:Ah w2.drew p x:=b.hpk b2 id;generalize w2.drew=O at b h3 b3|-;cases i with
    |zero=>
     refine du (.bool false) (λW=>by simp[go_sem]) ?_;rw[jO];have:F=none:=by rw[P];rfl
     exact⟨by simp[this],b⟩
    |succ j=>
     refine du (.bool true) (λW=>by simp[go_sem]<;>omega) ?_;rw[kJ];have hj:j<s.bids.length:=qZ;have hR3:Rd O 6 (ss 7) s.bids.length (s.bids.flatMap kC):=hs.bids.mod h3.md λy f=>hap 7 y qZ qZ f;obtain⟨jb,jo,je,jA⟩:=N6 hR3 hj;have hpj:=DT hj;rw[<-P]at hpj;refine cx (λW=>(uX p W).1) (cK (BJ b3) ?_);refine cx (λW=>rm sb 7 qZ W) (cK (wp h3.st hssl).2 ?_);refine du (gI (j:Int)) (λW=>by simp[go_sem];rw[ew qZ qZ]) ?_;refine cx (λW=>je W _) ?_;refine du (bO jb jo) (λW=>by simp[go_sem]) (cK (Zt jA) ?_);refine du (.bool (decide (x.1≠s.bids[j].1))) (λW=>by simp[go_sem];rfl) ?_;refine⟨?_,b⟩
     have e:decide (F≠none/\F≠some x.1)=decide (x.1≠s.bids[j].1):=by
      rw[hpj];by_cases t:x.1=s.bids[j].1<;>simp[t,eq_comm]
     rw[e]
   ·rintro _ O ⟨rfl,Y⟩;unfold V9;intro _;by_cases t:F≠none/\F≠some x.1
    ·rw[ae t]at u;simp only[aW t];rw[kJ];exact⟨by rw[u],Y⟩
    ·rw[aa t]at u;simp only[bD t];rw[jO];exact⟨by rw[u],Y⟩
  rintro _ O ⟨rfl,Y⟩;unfold Wh;intro _;have h3:=h2.md0 Y;have b3:Ah O p x:=Y.hpk b2 id;have M3:=m2.trans Y;have hnum:mn<W.heap.size:=r.num.lt;refine cT.at (λst C=>∃bad,st=(.bool bad,())/\Ah C p x/\(bad=true->oV s.bids none 0 U0 X=none/\aR (lq fp) w C)/\(bad=false->T.stnd false U x=true/\¬x.2.num<=la/\¬50<=(T.bd x.1).length/\qs C v c l mb md A R d T/\pC C mn (x.2.num::U)/\aR (λy=>y=mn) W C)) ?_ ?_
  ·have b:=(aR.refl (λ_=>False) O).drew;have Z:=h3.md0 b;have b4:Ah O.drew p x:=b.hpk b3 id;have M4:=M3.trans b;generalize O.drew=w4 at b Z b4 M4|-;refine cK (vn (At.all b4)) ?_;refine Cz Z.ven Z.num (Z.nmn Q qZ) (λm E v5 n5 G=>?_) λm E G=>?_
   rotate_left
   ·refine du (.bool true) (λW=>by simp[go_sem]) ?_;rw[kJ];rw[ae m]at a;exact⟨true,rfl,G.hpk b4 id,λ_=>⟨a,Z.md.trans (G.to)⟩,λh=>(by cases h)⟩
   refine du (.bool false) (λW=>by simp[go_sem]) ?_;rw[jO];rw[aa (by rw[m];simp)]at a;have N:Ah E p x:=G.hpk b4 qZ;have hm5:aR (lq fp) w E:=Z.md.on G λy f=>.inr qZ;have hm5' :aR (λy=>y=mn) W E:=(M4.to).trans G;refine cx (λW=>(uX p W).2) (cx (λW=>Wq p W) (cK (ab7 N) ?_));refine du (.bool (decide (x.2.num<=la))) (λW=>by simp[go_sem]) ?_;by_cases o:x.2.num<=la
   ·rw[ay,ae (by simpa using o)];rw[ae o]at a;exact⟨true,rfl,N,λ_=>⟨a,hm5⟩,λh=>(by cases h)⟩
   rw[ay,aa (by simpa using o)];rw[aa o]at a;simp only[ec,bU];refine cx (λW=>uY 3 qZ W) (cK (Xq _ v5.blk) ?_);refine cx (λW=>(uX p W).1) (cK (BJ N) ?_);refine sk (Bc v5.mbd x.1) ?_;obtain⟨sa,sc,hsl,-⟩:=(v5.bd x.1).isSl;refine lN (gI ((T.bd x.1).length:Int)) (by rw[hsl];simp[go_sem]) ?_;refine du (.bool (decide (50<=(T.bd x.1).length))) (λ_=>by simp[go_sem];omega) ?_;refine⟨_,rfl,N,λhb=>?_,λhb=>?_⟩
   ·rw[ae (bE hb)]at a;exact⟨a,hm5⟩
   ·exact⟨m,o,of_decide_eq_false hb,v5,n5,hm5'⟩
  rintro _ E ⟨bad,rfl,N,hbt,hbf⟩;unfold VR;intro _;cases bad with
  |true=>
   rw[kJ];exact hK0 _ (hbt rfl).1 (hbt rfl).2
  |false=>
  rw[jO];obtain⟨m,o,h50,v5,n5,G⟩:=hbf rfl;rw[aa (by rw[m];simp),aa o,aa h50]at a;have I:=EO m;refine bo (uX p _).2 (bo (Wq p _) (bo (ab7 N) ?_));have b:=(aR.refl (λ_=>False) E).drew;have v6:=v5.md0 b;have n6:=n5.mod b id;have b6:Ah E.drew p x:=b.hpk N id;have M6:aR (λy=>y=mn) W E.drew:=G.trans (b.to);generalize E.drew=w6 at b v6 n6 b6 M6|-;simp only[ec,bU];refine cx (λW=>uY 3 qZ W) (cK (Xq _ v6.blk) ?_);refine cx (λW=>(uX p W).1) (cK (BJ b6) ?_);refine cx (λW=>uY 3 qZ W) (cK (Xq _ v6.blk) ?_);refine cx (λW=>(uX p W).1) (cK (BJ b6) ?_);refine sk (Bc v6.mbd x.1) ?_;refine cx (λW=>(uX p W).2) (cK (Vn b6) ?_);refine Zc λw7 g hg l7 V=>?_;have k:=v6.md0 V;have b7:Ah w7 p x:=V.hpk b6 id;refine⟨Bc k.mbd x.1,BJ b7,Xq _ k.blk,BJ b7,Xq _ k.blk,?_⟩;refine aa3 (k.bd x.1) l7 qZ λs' w8 o8 m8 n8=>?_;have q:aR (d (.bd x.1)) w7 w8:=m8.mono λy _ f=>(k.fbd x.1 y).2 f;have hpn:¬d (.bd x.1) p:=λt=>by have:=r.ven.lt t;omega
  have b8:Ah w8 p x:=q.hpk b7 hpn;have blk8:=q.hpk k.blk (k.ap (by simp) _ k.self);refine⟨BJ b8,Xq _ blk8,?_⟩;have mbd8:=k.mbd.mod q (k.ap (by simp) _ ((k.fmd md).2 rfl));refine gZ (enc:=eY) (ev:=yr) (x:=x.1) (v:=s') rj lu mbd8 λw9 a9 m9 hs9=>?_;have z:d .md md:=(k.fmd md).2 rfl;have v9:=k.setBd (n:=x.1) (qm I.alive) q o8 (λy f=>(n8 y f).imp (λh' =>(k.fbd x.1 y).2 h') id) a9 m9;have H:¬lq d mn:=r.nmn Q qZ;have n9:pC w9 mn (x.2.num::U):=((n6.mod V id).mod q λt=>H ⟨_,t⟩).mod m9 λe=>H ⟨_,e▸z⟩;have M:¬lq d sb:=r.nsb Q hsb hsm;have t9:kw w9 sb s.day s.next s.fund ss:=m9.hpk (q.hpk (V.hpk (M6.hpk r.st qZ) id) λt=>M ⟨_,t⟩) λe=>M ⟨_,e▸z⟩;have hM6:=M6.size;have hM7:=V.size;have hwW:=r.md.size;have J:∀y,lq d y->lq fp y\/w.heap.size<=y:=λy f=>(r.up y f).imp id λh=>by omega
  refine ao (gI ((i+1:Nat):Int)) w9 (by simp[go_sem];rw[ew qZ qZ]) ?_;refine hKN _ _ ⟨i+1,x.2.num,put R x.1 s',x.2.num::U,{T with bd:=eS T.bd x.1 (T.bd x.1++[x.2])},yX d (.bd x.1) (aF s'),qZ,rfl,?_,?_⟩ (by show s.bids.length - (((i+1:Nat):Int)).toNat<s.bids.length - ((i:Int)).toNat;omega)
  rotate_left 1
  ·refine⟨v9,n9,r.inv.bid I hxf.2 qZ,t9,λy ⟨pt,f⟩=>?_,?_⟩
   ·by_cases hpt:pt=.bd x.1
    ·subst hpt;rw[me]at f;rcases n8 y f with h' |h'
     ·exact r.up y ⟨_,(k.fbd x.1 y).2 h'⟩
     ·exact .inr qZ
    ·rw[fD hpt]at f;exact r.up y ⟨_,f⟩
   ·exact(((r.md.on M6 λy f=>.inr qZ).trans (V.to)).on q λy f=>J y ⟨_,f⟩).on m9 λy f=>J y ⟨.md,f▸z⟩
  ·rw[L];exact a
 ·obtain rfl:i=s.bids.length:=qZ;refine eU ?_;rw[eE]at a;exact hK1 T R d U W a r
def RG(h:qs w v c l mb md A D fp S0)(hi0:sJ S0 S0 [])(hs:sX w ss s)(hf:s.Fit)(hlo:s.ords.length<=100000)(hlb:s.bids.length<=100000)
  (hap:∀i y,3<=i->i<=7->tq (ss i) y->¬lq fp y)
  (hK1:∀T D' d O,((nY s.ords [] S0).bind λx=>oV s.bids none 0 x.1 x.2)=some T->qs O v c l mb md A D' d T->(∃U,sJ S0 T U)->aR (lq fp) w O->(∀y,lq d y->lq fp y\/w.heap.size<=y)->K (.bool true) O)
  (F:∀O,((nY s.ords [] S0).bind λx=>oV s.bids none 0 x.1 x.2)=none->aR (lq fp) w O->K (.bool false) O):Ca pQ 54 #[ec v,aj2 s ss] w K:=by
 have J:=hs.sl;have hFl:∀y,lq fp y->y<w.heap.size:=λy ⟨p,f⟩=>h.lt f;unfold ec;refine cN Tryz.func54 ?_;obtain⟨N,e1,b1,m1⟩:=IT s.day s.next s.fund ss w;obtain⟨sb,hsb⟩:∃p,p=w.heap.size:=⟨_,rfl⟩
 rw[<-hsb]at e1 b1;refine bo e1 ?_;obtain⟨mn,hmn⟩:∃p,p=N.heap.size:=⟨_,rfl⟩
 have hsm:sb<mn:=by have:=aB b1;omega
 have m2:M0 N (N.alloc (.map #[] 0)):=(aR.refl _ N).alloc _;have N2:pC (N.alloc (.map #[] 0)) mn []:=by rw[hmn];exact pC.new N
 refine ao (.map (some mn)) (N.alloc (.map #[] 0)) (by rw[hmn];simp[go_sem]) ?_;generalize N.alloc (.map #[] 0)=w2 at m2 N2|-;have M2:=m1.trans m2;have b2:kw w2 sb s.day s.next s.fund ss:=m2.hpk b1 id;have f2:uw w v c l mb md mn sb A fp S0 ss s w2 D [] S0 fp:=⟨h.md0 M2,N2,hi0,b2,λy f=>.inl f,M2.to⟩
 refine bo (rm sb 6 qZ _) (bo (wp b2 J).1 ?_);obtain⟨oa,oc,ho6⟩:=hs.ords.isSl;refine iI (gI (s.ords.length:Int)) w2 (by rw[ho6];simp[go_sem]) ?_
 refine d8 (λst W=>∃(i:Nat) (U:List Int) (T:bt) (d:Pt->Nat->Prop),i<=s.ords.length/\st=(.bool false,gI i,())/\nY s.ords [] S0=nY (s.ords.drop i) U T/\uw w v c l mb md mn sb A fp S0 ss s W D U T d)
  (λst _=>match st.2.1 with| .int _ i=>s.ords.length - i.toNat|_=>0) ⟨0,[],S0,fp,qZ,rfl,rfl,f2⟩ ?_
 rintro _ W ⟨i,U,T,d,hi,rfl,g,o⟩ KN hKN;refine lV ?_;intro _;by_cases V:i<s.ords.length
 ·have hlt' :(i:Int)<(s.ords.length:Int):=qZ;refine dY hlt' ?_;have hR:Rd W 6 (ss 6) s.ords.length (s.ords.flatMap kC):=hs.ords.mod o.md λy f=>hap 6 y qZ qZ f;obtain⟨eb,eo,ei,hA⟩:=N6 hR V;have E:=hf.ords s.ords[i] (aq V);rw[cD V]at g;obtain⟨x,hx⟩:=di (s.ords[i]);rw[<-hx]at hA g E;refine bo (ei W _) (bo (vn hA) ?_);obtain⟨w1',w3,e1',e3,b3,m3⟩:=Jn x W;obtain⟨p,hp0⟩:=di W.heap.size;rw[<-hp0]at e1' e3 b3;refine bo e1' (iE e3 ?_);have h3:=o.md0 m3;obtain⟨X,hX⟩:=di (db (T.bk x.1) x.2 4);rw[Jp]at g;rw[<-hX]at g;refine bo (vn (At.all b3)) ?_;have L:¬lq d mn:=o.nmn hFl qZ;have hnsb:¬lq d sb:=o.nsb hFl qZ hsm;have hnum:mn<W.heap.size:=o.num.lt;refine Cz h3.ven h3.num L (λB m v4 n4 m4=>?_) λB m m4=>?_
  rotate_left
  ·refine lh ?_;rw[ae B]at g;exact F m (by rw[g];rfl) (h3.md.trans (m4.to))
  refine eU ?_;rw[aa (by rw[B];simp)]at g;have M:=EO B;have b4:Ah m p x:=m4.hpk b3 qZ;have M4:aR (λy=>y=mn) W m:=(m3.to).trans m4;obtain⟨b,Q,-⟩:=lkB v4 (n:=x.1) (qm M.alive)
  refine cT.at (λst W' =>∃r sT C G,st=(.pointer (some ⟨r,0,none⟩),gI X.1,())/\hp W' r=some (.cells (sw sT C X.2.2.filled X.2.2.left) 246 (0,0))/\qs W' v c l mb md A D (yX d (.bk x.1) G) {T with bk:=eS T.bk x.1 X.2.1}/\(∃a n c,sT=.slice a n c)/\(∃a c,C=.slice a X.2.2.gone.length c)/\
   aR (d (.bk x.1)) m W' /\(∀y,G y->d (.bk x.1) y\/m.heap.size<=y)) ?_ ?_
  ·have H:=(aR.refl (λ_=>False) m).drew;have z:=v4.md0 H;have b6:Ah m.drew p x:=H.hpk b4 id;have hs6:m.drew.heap.size=m.heap.size:=rfl;rw[<-hs6];have R:aR (d (.bk x.1)) m m.drew:=H.to;generalize m.drew=Y at H z b6 R hs6|-;have hB:=z.bk x.1 b Q;simp only[ec,bU];refine cx (λW=>uY 2 qZ W) (cK (ld2 _ z.blk) ?_);refine cx (λW=>(uX p W).1) (cK (BJ b6) ?_);refine sk (Ft z.mbk Q) ?_;refine cx (λW=>(uX p W).2) (cK (Vn b6) ?_);refine⟨?_,?_⟩
   ·refine zb hB E.2 ⟨qZ,qZ⟩ λG sT C w7 q7 p7 m7 n7 s7=>?_;rw[<-hX]at q7 p7|-;refine sB ?_;refine sB ?_;obtain⟨w8,e8,b8,m8⟩:=LL w7;refine bo e8 ?_;obtain⟨r,hr0⟩:=di w7.heap.size;rw[<-hr0]at b8|-;obtain⟨ta,tc,u,-⟩:=p7.tr.isSl;obtain⟨ga,gc,j,-⟩:=p7.go.isSl;obtain⟨w9,e9,b9,m9⟩:=L7 sT C X.2.2.filled X.2.2.left b8 ⟨_,_,_,u⟩ ⟨_,_,_,j⟩;refine iE e9 ?_;have M79:M0 w7 w9:=m8.on m9 λb Q=>.inr qZ;exact⟨r,sT,C,G,rfl,b9,(z.setBk Q m7 q7 n7).md0 M79,⟨_,_,_,u⟩,⟨_,_,j⟩,(R.trans m7).trans (M79.to),n7⟩
   ·obtain⟨w7,e7,b7,m7⟩:=LL Y;refine bo e7 ?_;obtain⟨r,hr0⟩:=di Y.heap.size;rw[<-hr0]at b7|-;have v7:=z.md0 m7;have b7' :Ah w7 p x:=m7.hpk b6 id;refine⟨Vn b7',Ft v7.mbk Q,BJ b7',ld2 _ v7.blk,?_⟩;have hrl:r<w7.heap.size:=aB b7;refine zb (v7.bk x.1 b Q) E.2 ⟨qZ,qZ⟩ λG sT C w8 q8 p8 m8 n8 s8=>?_;rw[<-hX]at q8 p8|-;refine sB ?_;refine sB ?_;obtain⟨ta,tc,u,-⟩:=p8.tr.isSl;obtain⟨ga,gc,j,-⟩:=p8.go.isSl;have hrF:∀pt,¬d pt r:=λpt S=>by have:=z.lt S;omega
    obtain⟨w9,e9,b9,m9⟩:=L7 sT C X.2.2.filled X.2.2.left (m8.hpk b7 (hrF _)) ⟨_,_,_,u⟩ ⟨_,_,_,j⟩;refine iE e9 ?_;have v8:=v7.setBk Q m8 q8 n8;refine⟨r,sT,C,G,rfl,b9,v8.mod m9 λpt y f e=>?_,⟨_,_,_,u⟩,⟨_,_,j⟩,(((R.trans (m7.to)).trans m8).on m9 λy f=>.inr qZ),λy f=>(n8 y f).imp id (λh' =>qZ)⟩;subst e;by_cases q:pt=.bk x.1
    ·subst q;rw[me]at f;rcases n8 y f with h' |h'
     ·exact hrF _ h'
     ·omega
    ·rw[fD q]at f;exact hrF _ f
  rintro _ Y ⟨r,sT,C,G,rfl,i1,z,iT,⟨ga,gc,j⟩,m6,hG⟩;refine kR ?_;intro _;have k:(if X.1≠0\/X.2.2.gone≠ []then(none:Option (List Int×bt))else nY (s.ords.drop (i+1)) (x.2.num::U) {T with bk:=eS T.bk x.1 X.2.1})=nY s.ords [] S0:=g.symm;have hM4:=M4.size;have hupT:∀y,lq d y->lq fp y\/w.heap.size<=y:=λy f=>(o.up y f).imp id λh=>by have:=m1.size;omega
  have M6:aR (lq fp) w Y:=(o.md.on M4 λy f=>.inr (by have:=m1.size;omega)).on m6 λy f=>hupT y ⟨_,f⟩;refine cT.at (λst W' =>st=(.bool (decide (X.1≠0\/X.2.2.gone≠ [])),())/\W' =Y) ?_ ?_
  ·by_cases P:X.1≠0
   ·refine dY P ?_;exact⟨by simp[P],rfl⟩
   have hX0:X.1=0:=by simpa using P
   refine fF hX0 ?_;refine bo (FU i1 iT ⟨_,_,_,j⟩).1 (bo (FU i1 iT ⟨_,_,_,j⟩).2 ?_);refine iI (gI (X.2.2.gone.length:Int)) Y (by rw[j];simp[go_sem]) ?_;refine ao (.bool (decide (X.1≠0\/X.2.2.gone≠ []))) Y ?_ ⟨rfl,rfl⟩;cases hgn:X.2.2.gone with
   |nil=>simp[go_sem,hX0]
   |cons a b=>simp[go_sem,hX0]<;>omega
  rintro _ w6' ⟨rfl,hee⟩;subst hee;refine kR ?_;intro _;by_cases S:X.1≠0\/X.2.2.gone≠ []
  ·simp only[aW S];rw[kJ];rw[ae S]at k;exact F _ (by rw[<-k];rfl) M6
  simp only[bD S];rw[jO];rw[aa S]at k;refine ao (gI ((i+1:Nat):Int)) w6' (by simp[go_sem];rw[ew qZ qZ]) ?_;refine hKN _ _ ⟨i+1,x.2.num::U,{T with bk:=eS T.bk x.1 X.2.1},yX d (.bk x.1) G,qZ,rfl,k.symm,?_⟩ (by show s.ords.length - (((i+1:Nat):Int)).toNat<s.ords.length - ((i:Int)).toNat;omega);have I:=o.inv.order M E.2 (aQ λt=>S (.inl (by rw[hX];exact t)));rw[<-hX]at I;refine⟨z,n4.mod m6 λt=>L ⟨_,t⟩,I,m6.hpk (M4.hpk o.st qZ) λt=>hnsb ⟨_,t⟩,λy ⟨pt,f⟩=>?_,M6⟩;by_cases q:pt=.bk x.1
  ·subst q;rw[me]at f;rcases hG y f with h' |h'
   ·exact o.up y ⟨_,h'⟩
   ·exact .inr qZ
  ·rw[fD q]at f;exact o.up y ⟨_,f⟩
 ·obtain rfl:i=s.ords.length:=qZ;refine eU ?_;rw[eE]at g;have hfo:nY s.ords [] S0=some (U,T):=g;refine bo (rm sb 7 qZ _) (bo (wp o.st J).2 ?_);obtain⟨ba,bc,hb7⟩:=hs.bids.isSl;refine iI (gI (s.bids.length:Int)) W (by rw[hb7];simp[go_sem]) ?_;have Z:((nY s.ords [] S0).bind λx=>oV s.bids none 0 x.1 x.2)=oV s.bids none 0 U T:=by rw[hfo];rfl
  rw[Z]at hK1 F;refine Ns hFl hs hf hlb qZ hsm hap o (λT' D' fp'' U' O e hw=>?_) F;exact hK1 T' D' fp'' O e hw.ven ⟨U',hw.inv⟩ hw.md λy f=>(hw.up y f).imp id λh=>by have:=m1.size;omega
end
end Go.Proofs
namespace Go.Proofs
open Go Go.Vc
attribute [local congr] bj
variable {A:List Ac}{i:Nat}{w:Wt_}
def Fa(h:i<4294967296):IntKind.i64.wrap ((i:Int)+1)=((i+1:Nat):Int):=by rw[bV];omega
def Zr{s:Vt_}{l:List Ac}(h:Rd w 4 s l.length (l.flatMap cY)){i:Nat}(hi:i<l.length):
  ∃b a d C e f,s=.slice (some ⟨b,a,none⟩) l.length d/\hp w b=some (.cells C e f)/\C[a+i*4]? =some (gU l[i].num)/\C[a+(i*4+1)]? =some (gI l[i].cash)/\C[a+(i*4+2)]? =some (.bool l[i].kil)/\C[a+(i*4+3)]? =some (.bool l[i].dfl):=by
 obtain⟨b,a,d,e,-,j⟩:=h.item (show∀x,(cY x).length=4 from λ_=>rfl) hi rfl;obtain⟨C,g,f,hC,c⟩:=j.get;refine⟨b,a,d,C,g,f,e,hC,c 0 _ rfl,?_,?_,?_⟩
 ·have:=c 1 _ rfl;rwa[ey]at this
 ·have:=c 2 _ rfl;rwa[ey]at this
 ·have:=c 3 _ rfl;rwa[ey]at this
def al9{s:Vt_}{l:List Po}(h:Rd w 4 s l.length (l.flatMap dy)){i:Nat}(hi:i<l.length):
  ∃b a d C e f,s=.slice (some ⟨b,a,none⟩) l.length d/\hp w b=some (.cells C e f)/\C[a+i*4]? =some (gU l[i].c)/\C[a+(i*4+1)]? =some (gU l[i].a)/\C[a+(i*4+2)]? =some (gI l[i].q)/\C[a+(i*4+3)]? =some (gI l[i].b):=by
 obtain⟨b,a,d,e,-,j⟩:=h.item (show∀x,(dy x).length=4 from λ_=>rfl) hi rfl;obtain⟨C,g,f,hC,c⟩:=j.get;refine⟨b,a,d,C,g,f,e,hC,c 0 _ rfl,?_,?_,?_⟩
 ·have:=c 1 _ rfl;rwa[ey]at this
 ·have:=c 2 _ rfl;rwa[ey]at this
 ·have:=c 3 _ rfl;rwa[ey]at this
def kL{P:Program}{s:Sem Value}{K:aZ}{v:Vt_}{w' :Wt_}(h:s.run P w=.ok v w')(a:K v w'):rv P s w K:=by
 rw[B4];unfold Wn;rw[h];exact a
def tp{α:Type}{A:List α}(hi:i<A.length):A.take (i+1)=A.take i++[A[i]]:=by
 rw[fW,av hi];rfl
def Mz(hi:i<A.length):((A.take (i+1)).map (·.cash)).sum=((A.take i).map (·.cash)).sum+A[i].cash:=by
 rw[tp hi,aM,fU];simp
def PA.sum(h:PA A)(e:A.length<=64):0<=(A.map (·.cash)).sum/\(A.map (·.cash)).sum<=64000000000000000:=by
 have h1:=E0 (l:=A.map (·.cash)) (B:=1000000000000000) λx c=>by
  obtain⟨a,b,rfl⟩:=aL.1 c;have:=fX.1 (h.num a b).2;simp only[MF]at this;omega
 rw[ah]at h1
 have i:0<=(A.map (·.cash)).sum:=by
  clear h1 e
  have:∀x∈A.map (·.cash),0<=x:=λx c=>by
   obtain⟨a,b,rfl⟩:=aL.1 c;exact(fX.1 (h.num a b).2).1
  generalize A.map (·.cash)=l at this;induction l with
  |nil=>simp
  |cons x l f=>
   have h1:=this x aw;have g:=f λy d=>this y (ag _ d);rw[bH];omega
 omega
def Mx{f:Int}{v:Vt_}{K:aZ}(D:Rd w 4 v A.length (A.flatMap cY))(U:A.length<4294967296)
  (y:∀b l,M0 w l->(b=true↔A.length<=64/\aY f 0 MF=true/\PA A/\f+(A.map (·.cash)).sum<=MF)->K (.bool b) l):
  Ca pQ 149 #[.int .i64 f,v] w K:=by
 obtain⟨S,vc,rfl⟩:=D.isSl;refine cN Tryz.func149 ?_;refine cT.at (λs W=>s=(.bool (decide (64<A.length)|| !aY f 0 MF),())/\W=w) ?_ ?_
 ·by_cases q:64<A.length
  ·have k:(64:Int)<(A.length:Int):=qZ;simp[go_sem,q,k]
  ·have k:¬(64:Int)<(A.length:Int):=qZ;simp[go_sem,q,k];refine oL ?_;simp[go_sem,MF]
 rintro _ l ⟨rfl,rfl⟩;refine kR ?_;intro _;by_cases a:(decide (64<A.length)|| !aY f 0 MF)=true
 ·rw[a];simp only[ay,df];refine y false _ (aR.refl _ _) ⟨λh=>(by cases h),λh=>?_⟩;obtain⟨h1,u,-,-⟩:=h;rw[u]at a;simp at a;omega
 rw[eJ.2 a];simp only[ay,bi,dg]
 have q:A.length<=64:=by
  apply aQ;intro h;apply a;simp;left;omega
 have E:aY f 0 MF=true:=by
  cases B:aY f 0 MF with
  |true=>rfl
  |false=>exact absurd (by rw[B];simp) a
 have t:=fX.1 E;simp only[MF]at t;clear a;simp[go_sem]
 refine vm (λs W=>∃(i:Nat) (last:Int) (x:Vt_),i<=A.length/\s=(gI (f+((A.take i).map (·.cash)).sum),x,gU last,gI i,())/\Ad (A.take i) last/\M0 l W)
  (λs _=>match s.2.2.2.1 with| .int _ i=>A.length - i.toNat|_=>0) ⟨0,0,.bool false,qZ,by simp,Ad.nil,aR.refl _ _⟩ ?_
 rintro⟨_,_⟩ W ⟨i,last,x,T,⟨⟩,d,p⟩ P m;refine lV ?_;intro _;by_cases g:i<A.length
 ·obtain⟨b,L,F,C,R,Q,e,hC,G,H,J,M⟩:=Zr (D.mod p d9) g;cases e;have I:=Fa (i:=i) qZ;refine kL (v:=.bool true) (w' :=W) (by simp[go_sem,g]) ?_;rw[kJ];simp[-Int.natCast_add,go_sem,g,hC,G,H,J,M];generalize n:W.alloc _=z;have o:M0 W z:=by subst n;exact(aR.refl _ W).alloc _
  have j:hp z W.heap.size=some (.cells #[.int .u32 A[i].num,gI A[i].cash,.bool A[i].kil,.bool A[i].dfl] 100 (0,0)):=by subst n;simp[go_sem]
  refine cT.at (λs O=>s=(.bool (decide (A[i].num<=last)|| !aY A[i].cash 0 MF),())/\O=z) ?_ ?_
  ·by_cases h1:A[i].num<=last
   ·grind
   ·simp[go_sem,bT j,h1];refine oL ?_;simp[go_sem,MF]
  rintro _ _ ⟨rfl,rfl⟩;refine kR ?_;intro _;by_cases a:(decide (A[i].num<=last)|| !aY A[i].cash 0 MF)=true
  ·rw[a];simp only[ay,df];refine y false _ (p.trans o) ⟨λh=>(by cases h),λh=>?_⟩;refine absurd h.2.2.1 (Ad.bad g d ?_);rw[lK,aS]at a;rcases a with h|h
   ·exact .inl h
   ·grind
  ·rw[eJ.2 a]
   have h1:last<A[i].num:=by
    apply aQ;intro h;apply a;simp;left;omega
   have u:aY A[i].cash 0 MF=true:=by
    cases B:aY A[i].cash 0 MF with
    |true=>rfl
    |false=>exact absurd (by rw[B];simp) a
   have c:=d.step h1 u;rw[<-tp g]at c;have N:=c.pa.sum (by grind)
   have r:IntKind.i64.wrap (f+((A.take i).map (·.cash)).sum+A[i].cash)=f+((A.take (i+1)).map (·.cash)).sum:=by
    rw[Mz g]at N|-;rw[bV];omega
   simp only[ay,bi,dg];simp[-Int.natCast_add,-List.map_take,go_sem,bT j];rw[r,I];exact m _ _ ⟨i+1,_,_,qZ,rfl,c,p.trans o⟩ (by simp;omega)
 ·obtain rfl:i=A.length:=qZ;clear m;rw[aC (aD _)]at d|-;refine kL (v:=.bool false) (w' :=W) (by simp[go_sem]) ?_;rw[jO];simp[-Int.natCast_add,go_sem];refine y _ _ p ⟨λh=>⟨q,E,d.pa,?_⟩,λh=>?_⟩
  ·simpa [MF]using h
  ·have:=h.2.2.2;simpa [MF]using this
end Go.Proofs
namespace Go.Proofs
open Go Go.Vc
attribute [local congr] bj
variable {f:Int}{A:List Ac}{l d a:Nat}{w W e:Wt_}
def JA{P:Program}{s:Sem Unit}{K:World->Prop}{w' :Wt_}(h:s.run P w=.ok () w')(a:K w'):ru P s w K:=by
 rw[Bv];unfold V3;rw[h];exact a
def AE{κ ν:Type} [DecidableEq κ]{L:List (κ×ν)}{k:κ}{v:ν}(h:∀p∈L,p.1≠k):put L k v=L++[(k,v)]:=by
 induction L with
 |nil=>rfl
 |cons p L c=>
  obtain⟨a,b⟩:=p;have h1:a≠k:=h (a,b) aw;simp only[put,aa h1,eF];rw[c λx d=>h x (ag _ d)]
def uQ(f:Int)(A:List Ac):List (Int×Ac):=(0,nU f)::A.map λa=>(a.num,a)
def R7(P:List Po):List ((Int×Int)×Po):=P.map λp=>(p.key,p)
def OO(h:PA A){i:Nat}(hi:i<A.length):put (uQ f (A.take i)) A[i].num A[i]=uQ f (A.take (i+1)):=by
 rw[AE,tp hi]
 ·simp only[uQ,aM,eF,aI,gf]
 ·intro p hp;rcases ax.1 hp with rfl|hp
  ·have:=(h.num A[i] (aq hi)).1;simp only;omega
  ·obtain⟨a,b,rfl⟩:=aL.1 hp;have:a.num<A[i].num:=AB h.srt hi b;simp only;omega
def MU{P:List Po}{i:Nat}(hi:i<P.length){c d q b:Int}(h:um (P.take i) c d q b)(e:vN (c,d) P[i].key=true):put (R7 (P.take i)) P[i].key P[i]=R7 (P.take (i+1)):=by
 rw[AE,tp hi]
 ·simp only[R7,aM,aI,gf]
 ·intro p hp;obtain⟨a,f,rfl⟩:=aL.1 hp;exact uj (yx (h.top a f) e)
structure Kq(w W:Wt_)(l m1 m2:Nat)(LA:List (Int×Ac))(LB:List ((Int×Int)×Po)):Prop where
 mod:M0 w W
 h1:hp W l=some (.cells #[.map (some m1),.map (some m2)] 176 (0,0))
 a:eM eY jX W m1 LA
 b:eM iv nh W m2 LB
def Kq.on{b:List (Int×Ac)}{c:List ((Int×Int)×Po)}(h:Kq w W l d a b c)(m:M0 W e):Kq w e l d a b c:=
 ⟨h.mod.trans m,m.keep h.h1 id,h.a.mod m id,h.b.mod m id⟩
def Kq.upA{j c:List (Int×Ac)}{g:List ((Int×Int)×Po)}(h:Kq w W l a d j g)(f:l≠a/\l≠d/\a≠d)(k:w.heap.size<=a)(m:aR (λb=>b=a) W e)(i:eM eY jX e a c):Kq w e l a d c g:=
 ⟨h.mod.on m λb n=>.inr qZ,m.keep h.h1 f.1,i,h.b.mod m f.2.2.symm⟩
def Kq.upB{g:List (Int×Ac)}{j c:List ((Int×Int)×Po)}(h:Kq w W l d a g j)(f:l≠d/\l≠a/\d≠a)(k:w.heap.size<=a)(m:aR (λb=>b=a) W e)(i:eM iv nh e a c):Kq w e l d a g c:=
 ⟨h.mod.on m λb i=>.inr qZ,m.keep h.h1 f.2.1,h.a.mod m f.2.2,i⟩
def DO{n:Int}(a:n≠0):(lk (uQ f A) n).isSome=true↔∃x∈A,x.num=n:=by
 have:lk (uQ f A) n=A.find? λx=>decide (x.num=n):=by
  rw[<-FD];simp only[uQ,lk,aa (lR a)]
 rw[this,List.find?_isSome];simp
def Ve{va vp:Vt_}{P:List Po}{K:aZ}(hA:Rd w 4 va A.length (A.flatMap cY))(hP:Rd w 4 vp P.length (P.flatMap dy))(hn:A.length<4294967296)(hl:P.length<=1024)
  (uA:∀a∈A,0<=a.num/\a.num<4294967296)(uP:∀p∈P,((0<=p.c/\p.c<4294967296)/\(0<=p.a/\p.a<4294967296))/\(-9223372036854775808<=p.q/\p.q<9223372036854775808)/\(-9223372036854775808<=p.b/\p.b<9223372036854775808))
  (hok:wB f A P->∀L l F,iw L l F ⟨f,A,P⟩->M0 w L->(∀b,F b->w.heap.size<=b)->K (.tuple #[eP l,gI 0]) L)
  (E:¬wB f A P->∀L,M0 w L->K (.tuple #[.pointer none,gI 2]) L):
  Ca pQ 50 #[.int .i64 f,va,vp] w K:=by
 obtain⟨aA,cA,rfl⟩:=hA.isSl;obtain⟨aP,cP,rfl⟩:=hP.isSl;refine cN Tryz.func50 ?_;refine Mx hA hn λb w1 mo1 M=>?_;cases b with
 |false=>
  refine kL (v:=.bool true) (w' :=w1) (by simp[go_sem]) ?_;rw[kJ];exact E (λh=>by have:=M.2 ⟨h.len,h.fund,h.pa,h.tot⟩;cases this) _ mo1
 |true=>
  obtain⟨h64,hf,hpa,htot⟩:=M.1 rfl;refine kL (v:=.bool false) (w' :=w1) (by simp[go_sem]) ?_;rw[jO];refine IW λw2 l F q2 mo2 f2=>?_;obtain⟨⟨J,Y,A0,B0,h1,h2,h3,h4,h5,h6,h7⟩,-⟩:=q2;obtain rfl:B0=[]:=List.Perm.eq_nil h5;have hm10:=f2 J ((h6 J).2 (.inr (.inl rfl)));have hm20:=f2 Y ((h6 Y).2 (.inr (.inr rfl)));have hs1:=mo1.size;have fr0:Kq w w2 l J Y A0 []:=⟨mo1.trans mo2,h1,h2,h3⟩
  obtain rfl:A0=[(0,nU 0)]:=List.perm_singleton.1 h4;simp[go_sem,eP,bT h1];refine gZ (enc:=eY) (ev:=jX) (x:=0) (v:=nU f) pG lu h2 λw3 hA3 mo3 hs3=>?_;have j:Kq w w3 l J Y (uQ f []) []:=fr0.upA h7 qZ mo3 hA3
  (try simp[go_sem])
  refine vm (λs W=>∃i:Nat,i<=A.length/\s=(gI i,())/\Kq w W l J Y (uQ f (A.take i)) [])
   (λs _=>match s.1 with| .int _ i=>A.length - i.toNat|_=>0) ⟨0,qZ,rfl,j⟩ ?_
  rintro⟨_,_⟩ W ⟨i,hi,⟨⟩,k⟩ KN N;refine lV ?_;intro _;by_cases d:i<A.length
  ·obtain⟨b,off,cap,C,e',fz,e,hC,c0,c1,c2,c3⟩:=Zr (hA.mod k.mod d9) d;cases e;have hw:=Fa (i:=i) qZ;refine kL (v:=.bool true) (w' :=W) (by simp[go_sem,d]) ?_;rw[kJ];refine kL (by simp[-Int.natCast_add,go_sem,d];first|exact⟨rfl,rfl⟩|exact rfl) ?_;refine kL (by simp[-Int.natCast_add,go_sem,d,hC,c0,c1,c2,c3];first|exact⟨rfl,rfl⟩|exact rfl) ?_;refine kL (by simp[go_sem];first|exact⟨rfl,rfl⟩|exact rfl) ?_;refine JA (by simp[-Int.natCast_add,go_sem];first|exact⟨rfl,rfl⟩|exact rfl) ?_;have hlm:=aB k.h1;generalize r:W.alloc _=H;have u:M0 W H:=by subst r;exact(aR.refl _ W).alloc _
   have hloc:hp H W.heap.size=some (.cells #[.int .u32 A[i].num,gI A[i].cash,.bool A[i].kil,.bool A[i].dfl] 100 (0,0)):=by subst r;simp[go_sem]
   have Q:=k.on (u.trans (aR.refl _ H).drew);simp[-Int.natCast_add,go_sem,eP,bT hloc,bT (u.keep k.h1 id)];refine gZ (enc:=eY) (ev:=jX) (x:=A[i].num) (v:=A[i]) pG lu Q.a λy hA2 mo hs=>?_;rw[OO hpa d]at hA2;simp[-Int.natCast_add,go_sem,hw];exact N _ _ ⟨i+1,qZ,rfl,Q.upA h7 qZ mo hA2⟩ (by simp;omega)
  ·obtain rfl:i=A.length:=qZ;clear N;rw[aC (aD _)]at k;refine kL (v:=.bool false) (w' :=W) (by simp[go_sem]) ?_;rw[jO];obtain⟨nk,hnk⟩:=di W.heap.size;refine kL (by simp[go_sem];first|exact⟨rfl,rfl⟩|exact rfl) ?_;rw[<-hnk];generalize r:W.alloc _=H;have u:M0 W H:=by subst r;exact(aR.refl _ W).alloc _
   have gk:hp H nk=some (.cells #[.int .u32 0,gU 0] 235 (0,0)):=by subst r hnk;simp[go_sem]
   have Q:=k.on u
   have hkl:l<nk/\J<nk/\Y<nk/\w.heap.size<=nk:=by
    have:=aB k.h1;have:=k.a.lt;have:=k.b.lt;have:=k.mod.size;omega
   simp[go_sem]
   refine vm (λs W=>∃(i:Nat) (o S q b:Int) (x1 x2:Vt_),i<=P.length/\s=(x1,x2,gI q,gI b,gI i,())/\um (P.take i) o S q b/\(∀p∈P.take i,Cb A p)/\hp W nk=some (.cells #[.int .u32 o,gU S] 235 (0,0))/\Kq w W l J Y (uQ f A) (R7 (P.take i)))
    (λs _=>match s.2.2.2.2.1 with| .int _ i=>P.length - i.toNat|_=>0) ⟨0,0,0,0,0,_,_,qZ,rfl,um.nil,by simp,gk,Q⟩ ?_
   clear r gk Q u k;rintro⟨y1,_⟩ W ⟨i,o,S,q,b,x1,x2,hi,⟨⟩,c,n,gk,k⟩ KN N;have hbd:=TZ n (by rw[az];omega) o;rw[<-c.q,<-c.b]at hbd;refine lV ?_;intro _;by_cases d:i<P.length
   ·obtain⟨b0,off,cap,C,e',fz,e,hC,c0,c1,c2,c3⟩:=al9 (hP.mod k.mod d9) d;cases e;have hmem:P[i]∈P:=aq d;have hu:=uP P[i] hmem;have hw:=Fa (i:=i) qZ;have htk:=tp d;have hbs:= @um.bad_sum P i d o S q b c;have hbk:= @um.bad_key A P i d o S q b c ⟨hu.1.1.1,hu.1.2.1⟩;have B:= @um.step _ o S q b c P[i];have R:=λh=> @MU P i d o S q b c h;rw[<-htk]at B;obtain⟨np,hnp⟩:=di W.heap.size;have lnk:=aB gk;have hgd:wB f A P->Cb A P[i]:=λh=>h.good _ hmem;have hpk:P[i].key=(P[i].c,P[i].a):=rfl;rw[hpk]at R hbk B;refine kL (v:=.bool true) (w' :=W) (by simp[go_sem,d]) ?_;rw[kJ];refine kL (by simp[-Int.natCast_add,go_sem,d];first|exact⟨rfl,rfl⟩|exact rfl) ?_;refine kL (by simp[-Int.natCast_add,go_sem,d,hC,c0,c1,c2,c3];first|exact⟨rfl,rfl⟩|exact rfl) ?_;refine kL (by simp[go_sem];first|exact⟨rfl,rfl⟩|exact rfl) ?_;refine JA (by simp[-Int.natCast_add,go_sem];first|exact⟨rfl,rfl⟩|exact rfl) ?_;rw[<-hnp];generalize hp0:P[i]=p at*;generalize r:W.alloc _=H;have u:M0 W H:=by subst r;exact(aR.refl _ W).alloc _
    have g1:hp H np=some (.cells #[.int .u32 p.c,gU p.a,gI p.q,gI p.b] 124 (0,0)):=by subst r hnp;simp[go_sem]
    refine kL (by simp[go_sem];first|exact⟨rfl,rfl⟩|exact rfl) ?_;refine kL (by simp[go_sem,bT g1];first|exact⟨rfl,rfl⟩|exact rfl) ?_;refine kL (by simp[go_sem];first|exact⟨rfl,rfl⟩|exact rfl) ?_;refine kL (by simp[go_sem,bT g1];first|exact⟨rfl,rfl⟩|exact rfl) ?_;refine kL (by simp[go_sem];first|exact⟨rfl,rfl⟩|exact rfl) ?_;obtain⟨nq,hnq⟩:=di H.heap.size;refine kL (by simp[go_sem];first|exact⟨rfl,rfl⟩|exact rfl) ?_;refine JA (by simp[go_sem];first|exact⟨rfl,rfl⟩|exact rfl) ?_;rw[<-hnq];generalize hW2:H.alloc _=y;have mw2:M0 H y:=by subst hW2;exact(aR.refl _ H).alloc _
    have g2:=mw2.keep g1 id;have zgq:hp y nq=some (.cells #[.int .u32 p.c,gU p.a] 235 (0,0)):=by subst hW2 hnq;simp[go_sem]
    have I:=(u.trans mw2).keep gk id;have G:=k.on (u.trans mw2);have lnp:=aB g1;have lnq:=aB zgq;refine cT.at (λs z=>s=(x2,y1,())/\z=y/\(p.c≠o->q=0/\b=0)) ?_ ?_
    ·by_cases hc:p.c=o
     ·simp[go_sem,bT zgq,bT I,hc]
     ·simp[go_sem,bT zgq,bT I,hc];refine cT.at (λs z=>s=(.bool (decide (q≠0\/b≠0)),())/\z=y) ?_ ?_
      ·by_cases hq:q=0
       ·by_cases M:b=0
        ·simp[go_sem,hq,M]
        ·simp[go_sem,hq,M]
       ·simp[go_sem,hq]
      rintro _ y ⟨rfl,rfl⟩;refine kR ?_;intro _;by_cases D:q≠0\/b≠0
      ·simp only[aW D,ay,df];exact E (λh=>hbs hc D ⟨h.srt,h.zero⟩) _ G.mod
      ·simp only[bD D,ay,bi,dg];obtain⟨e1,e2⟩:q=0/\b=0:=qZ;simp[e1,e2]
    rintro _ y ⟨rfl,rfl,hsum⟩;refine kR ?_;intro _;simp[go_sem,eP,bT G.h1,bT g2]
    have hl:∀z,M0 y z->(jQ 173 (.map (some J)) (gU p.a) true).run pQ z=.ok (.tuple #[jX ((lk (uQ f A) p.a).getD ⟨0,0,false,false⟩),.bool (lk (uQ f A) p.a).isSome]) z:=λz m=>by
     have:=yR (P:=pQ) (enc:=eY) (ev:=jX) (x:=p.a) pG lu Wv (.inr ⟨J,rfl,(G.on m).a⟩);rw[qL]at this;exact this
    refine D9 (enc:=eY) (ev:=jX) (x:=p.a) (jX ⟨0,0,false,false⟩) pG lu Wv (.inr ⟨J,rfl,(G.on ((aR.refl _ y).drew)).a⟩) ?_;rw[qL];generalize(lk (uQ f A) p.a).getD ⟨0,0,false,false⟩=xa at hl|-;have ne1:np≠y.heap.size:=qZ;have ne2:l≠y.heap.size:=qZ;simp[go_sem,jX,bT G.h1,bT g2,ne1,ne2];refine⟨hl _ (((aR.refl _ y).alloc _).drew),?_⟩;generalize hW3:(World.alloc _ _).drew=T;have U:M0 y T:=by subst hW3;exact((aR.refl _ y).alloc _).drew
    have Z:=U.keep g2 id;have X:=U.keep zgq id;have O:=U.keep I id;have j:=G.on U;have ne3:nq≠y.heap.size:=qZ;have ne4:nk≠y.heap.size:=qZ
    have hv:(!vN (o,S) (p.c,p.a))=(if p.c<o then true else if p.c=o then decide (p.a<=S)else false):=by
     unfold vN;by_cases h1:p.c<o
     ·grind
     ·rw[aa h1];by_cases h2:p.c=o
      ·grind
      ·grind
    refine cT.at (λs z=>s=(.bool (!vN (o,S) (p.c,p.a)),())/\z=T) ?_ ?_
    ·rw[hv];by_cases h1:p.c<o
     ·simp[go_sem,bT X,bT O,bT zgq,bT I,ne3,ne4,h1]
     ·by_cases h2:p.c=o
      ·simp[go_sem,bT X,bT O,bT zgq,bT I,ne3,ne4,h1,h2]
      ·simp[go_sem,bT X,bT O,bT zgq,bT I,ne3,ne4,h1,h2]
    clear hW3;rintro _ T ⟨rfl,rfl⟩;refine kR ?_;intro _;cases hk:vN (o,S) (p.c,p.a)with
    |false=>
     simp only[Bool.not_false,ay,df];exact E (λh=>hbk hk ⟨h.srt,h.good⟩) _ j.mod
    |true=>
     simp only[jL,ay,bi,dg];refine cT.at (λs z=>s=(.bool (decide (p.c=0\/p.a=0\/(lk (uQ f A) p.a).isSome=false\/(p.q=0/\p.b=0))),())/\z=T) ?_ ?_
     ·by_cases a1:p.c=0
      ·simp[go_sem,bT Z,a1]
      ·by_cases a2:p.a=0
       ·simp[go_sem,bT Z,a1,a2]
       ·cases a3:(lk (uQ f A) p.a).isSome
        ·simp[go_sem,bT Z,a1,a2,a3]
        ·by_cases a4:p.q=0
         ·by_cases a5:p.b=0
          ·simp[go_sem,bT Z,a1,a2,a3,a4,a5]
          ·simp[go_sem,bT Z,a1,a2,a3,a4,a5]
         ·simp[go_sem,bT Z,a1,a2,a3,a4]
     rintro _ T ⟨rfl,rfl⟩;refine kR ?_;intro _;by_cases t:p.c=0\/p.a=0\/(lk (uQ f A) p.a).isSome=false\/(p.q=0/\p.b=0)
     ·simp only[aW t,ay,df];refine E (λh=>?_) _ j.mod;have g:=hgd h;rcases t with t|t|t|t
      ·exact g.c t
      ·exact g.a t
      ·rw[(DO g.a).2 g.there]at t;cases t
      ·have:=g.some;simp[Po.isZ,t]at this
     simp only[bD t,ay,bi,dg];refine cT.at (λs z=>s=(.bool (!aY p.q (-10000000) 10000000|| !aY p.b (-1000000000000000) 1000000000000000),())/\z=T) ?_ ?_
     ·simp[go_sem,bT Z];refine gM hu.2.1 qZ ?_;cases hq:aY p.q (-10000000) 10000000
      ·simp[go_sem]
      ·simp[go_sem,bT Z];refine gM hu.2.2 qZ ?_;simp[go_sem]
     rintro _ T ⟨rfl,rfl⟩;refine kR ?_;intro _;have eq1:aY p.q (-MP) MP=aY p.q (-10000000) 10000000:=rfl;have eq2:aY p.b (-MF) MF=aY p.b (-1000000000000000) 1000000000000000:=rfl;by_cases hr:(!aY p.q (-10000000) 10000000|| !aY p.b (-1000000000000000) 1000000000000000)=true
     ·rw[hr];simp only[ay,df];refine E (λh=>?_) _ j.mod;have g:=hgd h;rw[<-eq1,<-eq2,g.q,g.b]at hr;cases hr
     rw[eJ.2 hr];simp only[ay,bi,dg]
     have hg:Cb A p:=by
      refine⟨λe=>t (.inl e),λe=>t (.inr (.inl e)),?_,?_,?_,?_⟩
      ·refine(DO (f:=f) λe=>t (.inr (.inl e))).1 ?_;cases h:(lk (uQ f A) p.a).isSome with
       |true=>rfl
       |false=>exact absurd (.inr (.inr (.inl h))) t
      ·rw[Po.isZ,fy];exact λe=>t (.inr (.inr (.inr e)))
      ·grind
      ·grind
     have hq2:=fX.1 hg.q;have hb2:=fX.1 hg.b;simp only[MP,MF]at hq2 hb2;have hwq:IntKind.i64.wrap (q+p.q)=q+p.q:=by rw[bV];omega
     have hwb:IntKind.i64.wrap (b+p.b)=b+p.b:=by rw[bV];omega
     have n1:l≠nk:=qZ;have n2:nq≠nk:=qZ;have n3:np≠nk:=qZ;simp[-Int.natCast_add,go_sem,eP,bT X,bT Z,bT O,bT j.h1,hwq,hwb,n1,n2,n3];generalize hW4:World.drew (World.drew _)=W4;have V:aR (λb=>b=nk) T W4:=by subst hW4;exact(((aR.refl (λb=>b=nk) T).setCell (b:=nk) (.inl rfl) _ _).setCell (b:=nk) (.inl rfl) _ _).drew.drew
     have gk4:hp W4 nk=some (.cells #[.int .u32 p.c,gU p.a] 235 (0,0)):=by subst hW4;simp[go_sem,bT O]
     have fr4:Kq w W4 l J Y (uQ f A) (R7 (P.take i)):=⟨j.mod.on V λb M=>.inr qZ,V.keep j.h1 n1,j.a.mod V qZ,j.b.mod V qZ⟩
     refine gZ (enc:=iv) (ev:=nh) (x:=(p.c,p.a)) (v:=p) AY O7 fr4.b λW5 hB mo hs=>?_;rw[R hk]at hB;rw[hw];refine N _ _ ⟨i+1,p.c,p.a,q+p.q,b+p.b,_,_,qZ,rfl,B hk hsum,λx hx=>?_,mo.keep gk4 qZ,fr4.upB h7 qZ mo hB⟩ (by simp;omega);rw[htk]at hx;rcases bf.1 hx with hx|hx
     ·exact n x hx
     ·grind
   ·obtain rfl:i=P.length:=qZ;clear N;rw[aC (aD _)]at k c n;refine kL (v:=.bool false) (w' :=W) (by simp[go_sem]) ?_;rw[jO];refine cT.at (λs z=>s=(.bool (decide (q≠0\/b≠0)),())/\z=W) ?_ ?_
    ·by_cases hq:q=0
     ·by_cases M:b=0
      ·simp[go_sem,hq,M]
      ·simp[go_sem,hq,M]
     ·simp[go_sem,hq]
    rintro _ _ ⟨rfl,rfl⟩;refine kR ?_;intro _;by_cases D:q≠0\/b≠0
    ·simp only[aW D,ay,df];exact E (λh=>c.bad_end D h.zero) _ k.mod
    ·simp only[bD D,ay,bi,dg];obtain⟨rfl,rfl⟩:q=0/\b=0:=qZ;have ok:wB f A P:=⟨h64,hf,hpa,htot,c.srt,n,c.done⟩
     refine hok ok _ l F ⟨⟨J,Y,_,_,k.h1,k.a,k.b,cS _,cS _,h6,h7⟩,ok.ok uA λp hp=>(uP p hp).1.1⟩ k.mod λb M=>by have:=f2 b M;omega
end Go.Proofs
