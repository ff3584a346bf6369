/- Part of a proof. -/
import Derived.Test.YtgebhcgmckjbbaaGreatB15
set_option linter.all false
namespace Go.Proofs
open Go Go.Vc
attribute [local congr] cr
def Q6:Tryz.prog.cellsOf nS=5+1:=by kernel_rfl
def mZ:Tryz.prog.underlying 47=some (.slice nS):=by kernel_rfl
def jy{W:World}{p off:Nat}{x:Int×Od}(h:At W p off (du x)):(Instr.loadAt nS (.pointer (some ⟨p,off,none⟩))).run Tryz.prog W=.ok (sI x) W:=
 fw (P:=Tryz.prog) (t:=nS) (by kernel_rfl) Q6 rfl h
def Ak(x:Int×Od)(W:World):∃a e,(Instr.alloc nS true (.tuple #[])).run Tryz.prog W=.ok (.pointer (some ⟨W.heap.size,0,none⟩)) a/\(Instr.storeAt nS (.pointer (some ⟨W.heap.size,0,none⟩)) (sI x)).run Tryz.prog a=.ok () e/\qw e W.heap.size x/\cl (λ_=>False) W e:=by
 obtain⟨p,d⟩:∃p,p=W.heap.size:=⟨_,rfl⟩
 obtain⟨a,b⟩:∃a,a=W.alloc (.cells #[.int .u32 0,.int .u64 0,.int .u32 0,.bool false,.int .i64 0,.int .i64 0] nS):=⟨_,rfl⟩
 have g:cl (λ_=>False) W a:=by rw[b];exact(cl.refl _ W).alloc _
 have f:hp a p=some (.cells #[.int .u32 0,.int .u64 0,.int .u32 0,.bool false,.int .i64 0,.int .i64 0] nS (0,0)):=by rw[b,d];simp[go_sem]
 rw[<-d];refine⟨a,(((((a.setCell ⟨p,0,none⟩ (.int .u32 x.1)).setCell ⟨p,1,none⟩ (.int .u64 x.2.num)).setCell ⟨p,2,none⟩ (.int .u32 x.2.acct)).setCell ⟨p,3,none⟩ (.bool x.2.buy)).setCell ⟨p,4,none⟩ (.int .i64 x.2.price)).setCell ⟨p,5,none⟩ (.int .i64 x.2.left),by rw[b,d];simp[go_sem],by simp[go_sem,f,sI,du,da],by show hp _ _=_;simp[go_sem,f,du,da],?_⟩;exact g.on (((((((cl.refl (λy=>y=p) a).setCell (.inl rfl) _ _).setCell (.inl rfl) _ _).setCell (.inl rfl) _ _).setCell (.inl rfl) _ _).setCell (.inl rfl) _ _).setCell (.inl rfl) _ _) λy h=>.inr (by omega)
def ON{W:World}{p:Nat}{x:Int×Od}(h:qw W p x):(Instr.loadAt 27 (.pointer (some ⟨p,1,none⟩))).run Tryz.prog W=.ok (.int .u64 x.2.num) W:=by
 have a:hp W p=some (.cells (du x).toArray nS (0,0)):=h;simp only[du,da]at a;simp[go_sem,a]
def Kn(p:Nat)(W:World):(Instr.fieldAt ir (.pointer (some ⟨p,1,none⟩)) 0).run Tryz.prog W=.ok (.pointer (some ⟨p,1,none⟩)) W:=by simp[go_sem]
def nj{W:World}{s:Value}{L:List (Int×Od)}(h:Rd W 6 s L.length (L.flatMap du)){i:Nat}(hi:i<L.length):
  ∃b a,(∀e k,(Instr.indexAt 47 s (.int k (i:Int))).run Tryz.prog e=.ok (.pointer (some ⟨b,a,none⟩)) e)/\At W b a (du L[i]):=by
 obtain⟨b,a,g,d,f,j⟩:=h.item (show∀x,(du x).length=6 from λ_=>rfl) hi rfl;exact⟨b,a+i*6,λe k=>by rw[d];simp[go_sem,hi,cC,mZ],j⟩
def Eh{W:World}{b off:Nat}{x:Int×Od}(h:At W b off (du x)):(Instr.loadAt 35 (.pointer (some ⟨b,off,none⟩))).run Tryz.prog W=.ok (.int .u32 x.1) W:=by
 obtain⟨C,e,g,d,f⟩:=h.get;have a:=f 0 (.int .u32 x.1) rfl;rw[Nat.add_zero]at a;simp[go_sem,cO d,a]
def jf.new(W:World):jf (W.alloc (.map #[] 0)) W.heap.size []:=⟨[],cU.new W,λn=>rfl⟩
def dv(b i:Nat)(hi:i<=7)(W:World):(Instr.fieldAt lY (.pointer (some ⟨b,0,none⟩)) i).run Tryz.prog W=.ok (.pointer (some ⟨b,i,none⟩)) W:=by
 rcases(show i=0\/i=1\/i=2\/i=3\/i=4\/i=5\/i=6\/i=7 by omega)with rfl|rfl|rfl|rfl|rfl|rfl|rfl|rfl<;>simp[go_sem]
def i0{w:World}{b:Nat}{d nx f:Int}{ss:Nat->Value}(h:cR w b d nx f ss)(e:∀i,3<=i->i<=7->∃a n c,ss i=.slice a n c):(Instr.loadAt 47 (.pointer (some ⟨b,6,none⟩))).run Tryz.prog w=.ok (ss 6) w/\(Instr.loadAt 47 (.pointer (some ⟨b,7,none⟩))).run Tryz.prog w=.ok (ss 7) w:=
 ⟨dC h e 6 (by omega) (by omega),dC h e 7 (by omega) (by omega)⟩
def xE{W:World}{q:Nat}{sT sG:Value}{f l:Int}(h:hp W q=some (.cells (nL sT sG f l) 235 (0,0)))(b:∃a n c,sT=.slice a n c)(d:∃a n c,sG=.slice a n c):(Instr.fieldAt 235 (.pointer (some ⟨q,0,none⟩)) 1).run Tryz.prog W=.ok (.pointer (some ⟨q,1,none⟩)) W/\(Instr.loadAt 29 (.pointer (some ⟨q,1,none⟩))).run Tryz.prog W=.ok sG W:=by
 obtain⟨k,m,i,rfl⟩:=b;obtain⟨e,j,g,rfl⟩:=d;unfold nL at h;exact⟨by simp[go_sem],by simp[go_sem,h]⟩
def Am(x:Int×Od)(l:List (Int×Od))(U:List Int)(S:dF):iX (x::l) U S=if S.stnd true U x=false then none
  else if(db (S.bk x.1) x.2 4).1≠0\/(db (S.bk x.1) x.2 4).2.2.gone≠ []then none
  else iX l (x.2.num::U) {S with bk:=fV S.bk x.1 (db (S.bk x.1) x.2 4).2.1}:=rfl
def Az(x:Int×Od)(l:List (Int×Od))(pc:Option Int)(n:Int)(U:List Int)(S:dF):jm (x::l) pc n U S=if S.stnd false U x=false then none
  else if x.2.num<=(if pc≠none/\pc≠some x.1 then 0 else n)then none
  else if 50<=(S.bd x.1).length then none
  else jm l (some x.1) x.2.num (x.2.num::U) {S with bd:=fV S.bd x.1 (S.bd x.1++[x.2])}:=rfl
def IR(l:List (Int×Od))(i:Nat):Option Int:=if i=0 then none else l[i - 1]?.map (·.1)
def vI{l:List (Int×Od)}{i:Nat}(h:i<l.length):IR l (i+1)=some l[i].1:=by
 unfold IR;rw[if_neg (by omega),Nat.add_sub_cancel,List.getElem?_eq_getElem h];rfl
section
variable{w:World}{K:cm}{v c l mb md mn sb:Nat}{A:List (Int×Nat)}{D:List (Int×Value)}{fp:Pt->Nat->Prop}{S0:dF}{ss:Nat->Value}{s:iq}
structure mN(w:World)(v c l mb md mn sb:Nat)(A:List (Int×Nat))(fp:Pt->Nat->Prop)(S0:dF)(ss:Nat->Value)(s:iq)(W:World)(D' :List (Int×Value))(U:List Int)(T:dF)(fp' :Pt->Nat->Prop):Prop where
 ven:gZ W v c l mb md A D' fp' T
 num:jf W mn U
 inv:kd S0 T U
 st:cR W sb s.day s.next s.fund ss
 up:∀y,fy fp' y->fy fp y\/mn<y
 md:cl (fy fp) w W
def mN.nmn{W:World}{e:List (Int×Value)}{U:List Int}{T:dF}{a:Pt->Nat->Prop}(h:mN w v c l mb md mn sb A fp S0 ss s W e U T a)(b:∀y,fy fp y->y<w.heap.size)(h1:w.heap.size<=mn):¬fy a mn:=λf=>by
 rcases h.up mn f with d|d
 ·have:=b mn d;omega
 ·omega
def mN.nsb{W:World}{e:List (Int×Value)}{U:List Int}{T:dF}{a:Pt->Nat->Prop}(h:mN w v c l mb md mn sb A fp S0 ss s W e U T a)(b:∀y,fy fp y->y<w.heap.size)(h1:w.heap.size<=sb)(g:sb<mn):¬fy a sb:=λf=>by
 rcases h.up sb f with d|d
 ·have:=b sb d;omega
 ·omega
def mN.md0{W d:World}{b:List (Int×Value)}{U:List Int}{T:dF}{a:Pt->Nat->Prop}(h:mN w v c l mb md mn sb A fp S0 ss s W b U T a)(m:cl (λ_=>False) W d):mN w v c l mb md mn sb A fp S0 ss s d b U T a:=
 ⟨h.ven.md0 m,h.num.mod m id,h.inv,m.hpk h.st id,h.up,h.md.trans (m.mono λ_ _ h=>h.elim)⟩
set_option maxRecDepth 10000 in
set_option maxHeartbeats 8000000 in
def CF{U0:List Int}{X:dF}{fp0:Pt->Nat->Prop}{W0:World}(Q:∀y,fy fp y->y<w.heap.size)(hs:eS w ss s)(hf:s.Fit)(hlb:s.bids.length<=100000)(hsb:w.heap.size<=sb)(hsm:sb<mn)
  (hap:∀i y,3<=i->i<=7->eM (ss i) y->¬fy fp y)(h0:mN w v c l mb md mn sb A fp S0 ss s W0 D U0 X fp0)
  (hK1:∀T R d U w',jm s.bids none 0 U0 X=some T->mN w v c l mb md mn sb A fp S0 ss s w' R U T d->K (.bool true) w')
  (hK0:∀w',jm s.bids none 0 U0 X=none->cl (fy fp) w w' ->K (.bool false) w'):
  cS (S:=Value×Value×Value×Unit) (Gu (.int .i64 (s.bids.length:Int)) (ss 7) (.pointer (some ⟨sb,0,none⟩)) (eh v) (.map (some mn)) K) (.bool false,.int .u64 0,.int .i64 0,()) W0:=by
 have hssl:=hs.sl
 refine dp (λst W=>∃(i:Nat) (last:Int) (R:List (Int×Value)) (U:List Int) (T:dF) (d:Pt->Nat->Prop),i<=s.bids.length/\st=(.bool false,.int .u64 last,.int .i64 i,())/\jm s.bids none 0 U0 X=jm (s.bids.drop i) (IR s.bids i) last U T/\mN w v c l mb md mn sb A fp S0 ss s W R U T d)
  (λst _=>match st.2.2.1 with| .int _ i=>s.bids.length - i.toNat|_=>0) ⟨0,0,D,U0,X,fp0,by omega,rfl,rfl,h0⟩ ?_
 rintro _ W ⟨i,last,R,U,T,d,hi,rfl,a,r⟩ KN hKN;unfold Gu;intro _;by_cases C:i<s.bids.length
 ·have hlt' :(i:Int)<(s.bids.length:Int):=by omega
  refine ck (v:=.bool true) (by simp[go_sem,hlt']<;>first|exact⟨rfl,rfl⟩|exact rfl) ?_;rw[ci,if_pos rfl];have hR:Rd W 6 (ss 7) s.bids.length (s.bids.flatMap du):=hs.bids.mod r.md λy f=>hap 7 y (by omega) (by omega) f;obtain⟨eb,eo,ei,hA⟩:=nj hR C;have L:=vI C;have hxf:=hf.bids s.bids[i] (List.getElem_mem C);rw[List.drop_eq_getElem_cons C]at a;obtain⟨x,hx⟩:∃x,x=s.bids[i]:=⟨_,rfl⟩
  rw[<-hx]at hA a L hxf;refine ck (ei W _) (ck (jy hA) ?_);obtain⟨w1,w2,e1,e2,b2,m2⟩:=Ak x W;obtain⟨p,hp0⟩:∃p,p=W.heap.size:=⟨_,rfl⟩
  rw[<-hp0]at e1 e2 b2;refine ck e1 (dI e2 ?_);have h2:=r.md0 m2;obtain⟨B,P⟩:∃B,B=IR s.bids i:=⟨_,rfl⟩
  rw[<-P]at a;obtain⟨la,u⟩:∃la:Int,la=if B≠none/\B≠some x.1 then 0 else last:=⟨_,rfl⟩
  rw[Az]at a;rw[<-u]at a;refine cB.at (λst E=>st=(.int .u64 la,())/\cl (λ_=>False) w2 E) ?_ ?_
  ·refine cB.at (λst E=>st=(.bool (decide (B≠none/\B≠some x.1)),())/\cl (λ_=>False) w2 E) ?_ ?_
   ·have b:=(cl.refl (λ_=>False) w2).drew;have h3:=h2.md0 b;have b3:qw w2.drew p x:=b.hpk b2 id;generalize w2.drew=O at b h3 b3|-;cases i with
    |zero=>
     refine cq (v:=.bool false) (λW=>by simp[go_sem]) ?_;rw[ci,if_neg Bool.false_ne_true];have:B=none:=by rw[P];rfl
     exact⟨by simp[this],b⟩
    |succ j=>
     refine cq (v:=.bool true) (λW=>by simp[go_sem]<;>omega) ?_;rw[ci,if_pos rfl];have hj:j<s.bids.length:=by omega
     have hR3:Rd O 6 (ss 7) s.bids.length (s.bids.flatMap du):=hs.bids.mod h3.md λy f=>hap 7 y (by omega) (by omega) f;obtain⟨jb,jo,je,jA⟩:=nj hR3 hj;have hpj:=vI hj;rw[<-P]at hpj;refine cq (λW=>(iR p W).1) (cx (ri b3) ?_);refine cq (λW=>dv sb 7 (by omega) W) (cx (i0 h3.st hssl).2 ?_);refine cq (v:=.int .i64 (j:Int)) (λW=>by simp[go_sem];rw[cV (by omega) (by omega)]) ?_;refine cq (λW=>je W _) ?_;refine cq (v:=.pointer (some ⟨jb,jo,none⟩)) (λW=>by simp[go_sem]) (cx (Eh jA) ?_);refine cq (v:=.bool (decide (x.1≠s.bids[j].1))) (λW=>by simp[go_sem];rfl) ?_;refine⟨?_,b⟩
     have e:decide (B≠none/\B≠some x.1)=decide (x.1≠s.bids[j].1):=by
      rw[hpj];by_cases t:x.1=s.bids[j].1<;>simp[t,eq_comm]
     rw[e]
   ·rintro _ O ⟨rfl,Y⟩;unfold Jl;intro _;by_cases t:B≠none/\B≠some x.1
    ·rw[if_pos t]at u;simp only[decide_eq_true t];rw[ci,if_pos rfl];exact⟨by rw[u],Y⟩
    ·rw[if_neg t]at u;simp only[decide_eq_false t];rw[ci,if_neg Bool.false_ne_true];exact⟨by rw[u],Y⟩
  rintro _ O ⟨rfl,Y⟩;unfold Jw;intro _;have h3:=h2.md0 Y;have b3:qw O p x:=Y.hpk b2 id;have hpW:W.heap.size<=p:=by omega
  have M3:=m2.trans Y;have hnum:mn<W.heap.size:=r.num.lt;refine cB.at (λst E=>∃bad,st=(.bool bad,())/\qw E p x/\(bad=true->jm s.bids none 0 U0 X=none/\cl (fy fp) w E)/\(bad=false->T.stnd false U x=true/\¬x.2.num<=la/\¬50<=(T.bd x.1).length/\gZ E v c l mb md A R d T/\jf E mn (x.2.num::U)/\cl (λy=>y=mn) W E)) ?_ ?_
  ·have b:=(cl.refl (λ_=>False) O).drew;have Z:=h3.md0 b;have b4:qw O.drew p x:=b.hpk b3 id;have M4:=M3.trans b;generalize O.drew=w4 at b Z b4 M4|-;refine cx (jy (At.all b4)) ?_;refine ux Z.ven Z.num (Z.nmn Q (by omega)) (λm F v5 n5 G=>?_) λm F G=>?_
   rotate_left
   ·refine cq (v:=.bool true) (λW=>by simp[go_sem]) ?_;rw[ci,if_pos rfl];rw[if_pos m]at a;exact⟨true,rfl,G.hpk b4 id,λ_=>⟨a,Z.md.trans (G.mono λ_ _ h=>h.elim)⟩,λh=>(by cases h)⟩
   refine cq (v:=.bool false) (λW=>by simp[go_sem]) ?_;rw[ci,if_neg Bool.false_ne_true];rw[if_neg (by rw[m];simp)]at a;have N:qw F p x:=G.hpk b4 (by omega);have hm5:cl (fy fp) w F:=Z.md.on G λy f=>.inr (by omega);have hm5' :cl (λy=>y=mn) W F:=(M4.mono λ_ _ h=>h.elim).trans G;refine cq (λW=>(iR p W).2) (cq (λW=>Kn p W) (cx (ON N) ?_));refine cq (v:=.bool (decide (x.2.num<=la))) (λW=>by simp[go_sem]) ?_;by_cases o:x.2.num<=la
   ·rw[ci,if_pos (by simpa using o)];rw[if_pos o]at a;exact⟨true,rfl,N,λ_=>⟨a,hm5⟩,λh=>(by cases h)⟩
   rw[ci,if_neg (by simpa using o)];rw[if_neg o]at a;simp only[eh,cw];refine cq (λW=>jX 3 (by omega) W) (cx (Hm _ v5.blk) ?_);refine cq (λW=>(iR p W).1) (cx (ri N) ?_);refine jg (wm v5.mbd x.1) ?_;obtain⟨sa,sc,hsl,-⟩:=(v5.bd x.1).isSl;refine cx (v:=.int .i64 ((T.bd x.1).length:Int)) (by rw[hsl];simp[go_sem]) ?_;refine cq (v:=.bool (decide (50<=(T.bd x.1).length))) (λ_=>by simp[go_sem];omega) ?_;refine⟨_,rfl,N,λhb=>?_,λhb=>?_⟩
   ·rw[if_pos (of_decide_eq_true hb)]at a;exact⟨a,hm5⟩
   ·exact⟨m,o,of_decide_eq_false hb,v5,n5,hm5'⟩
  rintro _ F ⟨bad,rfl,N,hbt,hbf⟩;unfold Ko;intro _;cases bad with
  |true=>
   rw[ci,if_pos rfl];exact hK0 _ (hbt rfl).1 (hbt rfl).2
  |false=>
  rw[ci,if_neg Bool.false_ne_true];obtain⟨m,o,h50,v5,n5,G⟩:=hbf rfl;rw[if_neg (by rw[m];simp),if_neg o,if_neg h50]at a;have I:=kZ m;refine ck (iR p _).2 (ck (Kn p _) (ck (ON N) ?_));have b:=(cl.refl (λ_=>False) F).drew;have v6:=v5.md0 b;have n6:=n5.mod b id;have b6:qw F.drew p x:=b.hpk N id;have M6:cl (λy=>y=mn) W F.drew:=G.trans (b.mono λ_ _ h=>h.elim);generalize F.drew=w6 at b v6 n6 b6 M6|-;simp only[eh,cw];refine cq (λW=>jX 3 (by omega) W) (cx (Hm _ v6.blk) ?_);refine cq (λW=>(iR p W).1) (cx (ri b6) ?_);refine cq (λW=>jX 3 (by omega) W) (cx (Hm _ v6.blk) ?_);refine cq (λW=>(iR p W).1) (cx (ri b6) ?_);refine jg (wm v6.mbd x.1) ?_;refine cq (λW=>(iR p W).2) (cx (Gs b6) ?_);refine MJ λw7 g hg l7 V=>?_;have k:=v6.md0 V;have b7:qw w7 p x:=V.hpk b6 id;refine⟨wm k.mbd x.1,ri b7,Hm _ k.blk,ri b7,Hm _ k.blk,?_⟩;refine On (k.bd x.1) l7 (by omega) λs' w8 o8 m8 n8=>?_;have q:cl (d (.bd x.1)) w7 w8:=m8.mono λy _ f=>(k.fbd x.1 y).2 f;have hpn:¬d (.bd x.1) p:=λt=>by have:=r.ven.lt t;omega
  have b8:qw w8 p x:=q.hpk b7 hpn;have blk8:=q.hpk k.blk (k.ap (by simp) _ k.self);refine⟨ri b8,Hm _ blk8,?_⟩;have mbd8:=k.mbd.mod q (k.ap (by simp) _ ((k.fmd md).2 rfl));refine fm (enc:=d8) (ev:=uK) (x:=x.1) (v:=s') BF pG mbd8 λw9 a9 m9 hs9=>?_;have z:d .md md:=(k.fmd md).2 rfl;have v9:=k.setBd (n:=x.1) (tX I.alive) q o8 (λy f=>(n8 y f).imp (λh' =>(k.fbd x.1 y).2 h') id) a9 m9;have H:¬fy d mn:=r.nmn Q (by omega);have n9:jf w9 mn (x.2.num::U):=((n6.mod V id).mod q λt=>H ⟨_,t⟩).mod m9 λe=>H ⟨_,e▸z⟩;have M:¬fy d sb:=r.nsb Q hsb hsm;have t9:cR w9 sb s.day s.next s.fund ss:=m9.hpk (q.hpk (V.hpk (M6.hpk r.st (by omega)) id) λt=>M ⟨_,t⟩) λe=>M ⟨_,e▸z⟩;have hM6:=M6.size;have hM7:=V.size;have hwW:=r.md.size;have J:∀y,fy d y->fy fp y\/w.heap.size<=y:=λy f=>(r.up y f).imp id λh=>by omega
  refine ck (v:=.int .i64 ((i+1:Nat):Int)) (w' :=w9) (by simp[go_sem];rw[cV (by omega) (by omega)]) ?_;refine hKN _ _ ⟨i+1,x.2.num,put R x.1 s',x.2.num::U,{T with bd:=fV T.bd x.1 (T.bd x.1++[x.2])},oM d (.bd x.1) (co s'),by omega,rfl,?_,?_⟩ (by show s.bids.length - (((i+1:Nat):Int)).toNat<s.bids.length - ((i:Int)).toNat;omega)
  rotate_left 1
  ·refine⟨v9,n9,r.inv.bid I hxf.2 (by omega),t9,λy ⟨pt,f⟩=>?_,?_⟩
   ·by_cases hpt:pt=.bd x.1
    ·subst hpt;rw[eE]at f;rcases n8 y f with h' |h'
     ·exact r.up y ⟨_,(k.fbd x.1 y).2 h'⟩
     ·exact .inr (by omega)
    ·rw[cZ hpt]at f;exact r.up y ⟨_,f⟩
   ·exact(((r.md.on M6 λy f=>.inr (by omega)).trans (V.mono λ_ _ h=>h.elim)).on q λy f=>J y ⟨_,f⟩).on m9 λy f=>J y ⟨.md,f▸z⟩
  ·rw[L];exact a
 ·obtain rfl:i=s.bids.length:=by omega
  refine ck (v:=.bool false) (by simp[go_sem]<;>first|exact⟨rfl,rfl⟩|exact rfl) ?_;rw[ci,if_neg Bool.false_ne_true];rw[List.drop_length]at a;exact hK1 T R d U W a r
set_option maxRecDepth 10000 in
set_option maxHeartbeats 8000000 in
def FX(h:gZ w v c l mb md A D fp S0)(hi0:kd S0 S0 [])(hs:eS w ss s)(hf:s.Fit)(hlo:s.ords.length<=100000)(hlb:s.bids.length<=100000)
  (hap:∀i y,3<=i->i<=7->eM (ss i) y->¬fy fp y)
  (hK1:∀T D' d k,((iX s.ords [] S0).bind λx=>jm s.bids none 0 x.1 x.2)=some T->gZ k v c l mb md A D' d T->(∃U,kd S0 T U)->cl (fy fp) w k->(∀y,fy d y->fy fp y\/w.heap.size<=y)->K (.bool true) k)
  (J:∀k,((iX s.ords [] S0).bind λx=>jm s.bids none 0 x.1 x.2)=none->cl (fy fp) w k->K (.bool false) k):Ca Tryz.prog 50 #[eh v,Io s ss] w K:=by
 have N:=hs.sl;have hFl:∀y,fy fp y->y<w.heap.size:=λy ⟨p,f⟩=>h.lt f;apply Q7;obtain⟨Q,e1,b1,m1⟩:=js s.day s.next s.fund ss w;obtain⟨sb,hsb⟩:∃p,p=w.heap.size:=⟨_,rfl⟩
 rw[<-hsb]at e1 b1;refine ck e1 ?_;obtain⟨mn,hmn⟩:∃p,p=Q.heap.size:=⟨_,rfl⟩
 have hsm:sb<mn:=by have:=cn b1;omega
 have m2:cl (λ_=>False) Q (Q.alloc (.map #[] 0)):=(cl.refl _ Q).alloc _;have N2:jf (Q.alloc (.map #[] 0)) mn []:=by rw[hmn];exact jf.new Q
 refine ck (v:=.map (some mn)) (w' :=Q.alloc (.map #[] 0)) (by rw[hmn];simp[go_sem]) ?_;generalize Q.alloc (.map #[] 0)=w2 at m2 N2|-;have M2:=m1.trans m2;have b2:cR w2 sb s.day s.next s.fund ss:=m2.hpk b1 id;have f2:mN w v c l mb md mn sb A fp S0 ss s w2 D [] S0 fp:=⟨h.md0 M2,N2,hi0,b2,λy f=>.inl f,M2.mono λ_ _ h=>h.elim⟩
 refine ck (dv sb 6 (by omega) _) (ck (i0 b2 N).1 ?_);obtain⟨oa,oc,ho6⟩:=hs.ords.isSl;refine fi (v:=.int .i64 (s.ords.length:Int)) (w' :=w2) (by rw[ho6];simp[go_sem]) ?_
 refine dp (λst W=>∃(i:Nat) (U:List Int) (T:dF) (d:Pt->Nat->Prop),i<=s.ords.length/\st=(.bool false,.int .i64 i,())/\iX s.ords [] S0=iX (s.ords.drop i) U T/\mN w v c l mb md mn sb A fp S0 ss s W D U T d)
  (λst _=>match st.2.1 with| .int _ i=>s.ords.length - i.toNat|_=>0) ⟨0,[],S0,fp,by omega,rfl,rfl,f2⟩ ?_
 rintro _ W ⟨i,U,T,d,hi,rfl,g,q⟩ KN hKN;unfold JJ;intro _;by_cases hlt:i<s.ords.length
 ·have hlt' :(i:Int)<(s.ords.length:Int):=by omega
  refine ck (v:=.bool true) (by simp[go_sem,hlt']<;>first|exact⟨rfl,rfl⟩|exact rfl) ?_;rw[ci,if_pos rfl];have hR:Rd W 6 (ss 6) s.ords.length (s.ords.flatMap du):=hs.ords.mod q.md λy f=>hap 6 y (by omega) (by omega) f;obtain⟨eb,eo,ei,hA⟩:=nj hR hlt;have I:=hf.ords s.ords[i] (List.getElem_mem hlt);rw[List.drop_eq_getElem_cons hlt]at g;obtain⟨x,hx⟩:∃x,x=s.ords[i]:=⟨_,rfl⟩
  rw[<-hx]at hA g I;refine ck (ei W _) (ck (jy hA) ?_);obtain⟨w1',w3,e1',e3,b3,m3⟩:=Ak x W;obtain⟨p,hp0⟩:∃p,p=W.heap.size:=⟨_,rfl⟩
  rw[<-hp0]at e1' e3 b3;refine ck e1' (dI e3 ?_);have h3:=q.md0 m3;obtain⟨X,hX⟩:∃X,X=db (T.bk x.1) x.2 4:=⟨_,rfl⟩
  rw[Am]at g;rw[<-hX]at g;refine ck (jy (At.all b3)) ?_;have O:¬fy d mn:=q.nmn hFl (by omega);have hnsb:¬fy d sb:=q.nsb hFl (by omega) hsm;have hnum:mn<W.heap.size:=q.num.lt;refine ux h3.ven h3.num O (λH m v4 n4 m4=>?_) λH m m4=>?_
  rotate_left
  ·refine ck (v:=.bool true) (w' :=m) (by simp[go_sem]) ?_;rw[ci,if_pos rfl];rw[if_pos H]at g;exact J m (by rw[g];rfl) (h3.md.trans (m4.mono λ_ _ h=>h.elim))
  refine ck (v:=.bool false) (w' :=m) (by simp[go_sem]) ?_;rw[ci,if_neg Bool.false_ne_true];rw[if_neg (by rw[H];simp)]at g;have P:=kZ H;have b4:qw m p x:=m4.hpk b3 (by omega);have M4:cl (λy=>y=mn) W m:=(m3.mono λ_ _ h=>h.elim).trans m4;obtain⟨b,S,-⟩:=R7 v4 (n:=x.1) (tX P.alive)
  refine cB.at (λst W' =>∃r t u G,st=(.pointer (some ⟨r,0,none⟩),.int .i64 X.1,())/\hp W' r=some (.cells (nL t u X.2.2.filled X.2.2.left) 235 (0,0))/\gZ W' v c l mb md A D (oM d (.bk x.1) G) {T with bk:=fV T.bk x.1 X.2.1}/\(∃a n c,t=.slice a n c)/\(∃a c,u=.slice a X.2.2.gone.length c)/\
   cl (d (.bk x.1)) m W' /\(∀y,G y->d (.bk x.1) y\/m.heap.size<=y)) ?_ ?_
  ·have L:=(cl.refl (λ_=>False) m).drew;have E:=v4.md0 L;have b6:qw m.drew p x:=L.hpk b4 id;have hs6:m.drew.heap.size=m.heap.size:=rfl;rw[<-hs6];have V:cl (d (.bk x.1)) m m.drew:=L.mono λ_ _ h=>h.elim;generalize m.drew=F at L E b6 V hs6|-;have hB:=E.bk x.1 b S;simp only[eh,cw];refine cq (λW=>jX 2 (by omega) W) (cx (KC _ E.blk) ?_);refine cq (λW=>(iR p W).1) (cx (ri b6) ?_);refine jg (AQ E.mbk S) ?_;refine cq (λW=>(iR p W).2) (cx (Gs b6) ?_);refine⟨?_,?_⟩
   ·refine vS hB I.2 ⟨by omega,by omega⟩ λG t u w7 q7 p7 Y n7 s7=>?_;rw[<-hX]at q7 p7|-;refine cq (v:=.agg (nL t u X.2.2.filled X.2.2.left)) (λ_=>by simp[go_sem]) ?_;refine cq (v:=.int .i64 X.1) (λ_=>by simp[go_sem]) ?_;obtain⟨w8,e8,b8,m8⟩:=BS w7;refine ck e8 ?_;obtain⟨r,hr0⟩:∃r,r=w7.heap.size:=⟨_,rfl⟩
    rw[<-hr0]at b8|-;obtain⟨ta,tc,C,-⟩:=p7.tr.isSl;obtain⟨ga,gc,j,-⟩:=p7.go.isSl;obtain⟨w9,e9,b9,m9⟩:=BY t u X.2.2.filled X.2.2.left b8 ⟨_,_,_,C⟩ ⟨_,_,_,j⟩;refine dI e9 ?_;have M79:cl (λ_=>False) w7 w9:=m8.on m9 λb S=>.inr (by omega);exact⟨r,t,u,G,rfl,b9,(E.setBk S Y q7 n7).md0 M79,⟨_,_,_,C⟩,⟨_,_,j⟩,(V.trans Y).trans (M79.mono λ_ _ h=>h.elim),n7⟩
   ·obtain⟨w7,e7,b7,Y⟩:=BS F;refine ck e7 ?_;obtain⟨r,hr0⟩:∃r,r=F.heap.size:=⟨_,rfl⟩
    rw[<-hr0]at b7|-;have v7:=E.md0 Y;have b7' :qw w7 p x:=Y.hpk b6 id;refine⟨Gs b7',AQ v7.mbk S,ri b7',KC _ v7.blk,?_⟩;have hs67:=Y.size;have hrl:r<w7.heap.size:=cn b7;refine vS (v7.bk x.1 b S) I.2 ⟨by omega,by omega⟩ λG t u w8 q8 p8 m8 n8 s8=>?_;rw[<-hX]at q8 p8|-;refine cq (v:=.agg (nL t u X.2.2.filled X.2.2.left)) (λ_=>by simp[go_sem]) ?_;refine cq (v:=.int .i64 X.1) (λ_=>by simp[go_sem]) ?_;obtain⟨ta,tc,C,-⟩:=p8.tr.isSl;obtain⟨ga,gc,j,-⟩:=p8.go.isSl;have hrF:∀pt,¬d pt r:=λpt Z=>by have:=E.lt Z;omega
    obtain⟨w9,e9,b9,m9⟩:=BY t u X.2.2.filled X.2.2.left (m8.hpk b7 (hrF _)) ⟨_,_,_,C⟩ ⟨_,_,_,j⟩;refine dI e9 ?_;have v8:=v7.setBk S m8 q8 n8;refine⟨r,t,u,G,rfl,b9,v8.mod m9 λpt y f e=>?_,⟨_,_,_,C⟩,⟨_,_,j⟩,(((V.trans (Y.mono λ_ _ h=>h.elim)).trans m8).on m9 λy f=>.inr (by omega)),λy f=>(n8 y f).imp id (λh' =>by omega)⟩;subst e;by_cases z:pt=.bk x.1
    ·subst z;rw[eE]at f;rcases n8 y f with h' |h'
     ·exact hrF _ h'
     ·omega
    ·rw[cZ z]at f;exact hrF _ f
  rintro _ F ⟨r,t,u,G,rfl,i1,E,iT,⟨ga,gc,j⟩,m6,hG⟩;unfold J2;intro _;have o:(if X.1≠0\/X.2.2.gone≠ []then(none:Option (List Int×dF))else iX (s.ords.drop (i+1)) (x.2.num::U) {T with bk:=fV T.bk x.1 X.2.1})=iX s.ords [] S0:=g.symm;have hM4:=M4.size;have hupT:∀y,fy d y->fy fp y\/w.heap.size<=y:=λy f=>(q.up y f).imp id λh=>by have:=m1.size;omega
  have M6:cl (fy fp) w F:=(q.md.on M4 λy f=>.inr (by have:=m1.size;omega)).on m6 λy f=>hupT y ⟨_,f⟩;refine cB.at (λst W' =>st=(.bool (decide (X.1≠0\/X.2.2.gone≠ [])),())/\W' =F) ?_ ?_
  ·by_cases R:X.1≠0
   ·refine ck (v:=.bool true) (w' :=F) (by simp[go_sem,R]) ?_;rw[ci,if_pos rfl];exact⟨by simp[R],rfl⟩
   have hX0:X.1=0:=by simpa using R
   refine ck (v:=.bool false) (w' :=F) (by simp[go_sem,hX0]) ?_;rw[ci,if_neg Bool.false_ne_true];refine ck (xE i1 iT ⟨_,_,_,j⟩).1 (ck (xE i1 iT ⟨_,_,_,j⟩).2 ?_);refine fi (v:=.int .i64 (X.2.2.gone.length:Int)) (w' :=F) (by rw[j];simp[go_sem]) ?_;refine ck (v:=.bool (decide (X.1≠0\/X.2.2.gone≠ []))) (w' :=F) ?_ ⟨rfl,rfl⟩;cases hgn:X.2.2.gone with
   |nil=>simp[go_sem,hX0]
   |cons a b=>simp[go_sem,hX0]<;>omega
  rintro _ w6' ⟨rfl,hee⟩;subst hee;unfold Jb;intro _;by_cases Z:X.1≠0\/X.2.2.gone≠ []
  ·simp only[decide_eq_true Z];rw[ci,if_pos rfl];rw[if_pos Z]at o;exact J _ (by rw[<-o];rfl) M6
  simp only[decide_eq_false Z];rw[ci,if_neg Bool.false_ne_true];rw[if_neg Z]at o;refine ck (v:=.int .i64 ((i+1:Nat):Int)) (w' :=w6') (by simp[go_sem];rw[cV (by omega) (by omega)]) ?_;refine hKN _ _ ⟨i+1,x.2.num::U,{T with bk:=fV T.bk x.1 X.2.1},oM d (.bk x.1) G,by omega,rfl,o.symm,?_⟩ (by show s.ords.length - (((i+1:Nat):Int)).toNat<s.ords.length - ((i:Int)).toNat;omega);have M:=q.inv.order P I.2 (Classical.byContradiction λB=>Z (.inl (by rw[hX];exact B)));rw[<-hX]at M;refine⟨E,n4.mod m6 λB=>O ⟨_,B⟩,M,m6.hpk (M4.hpk q.st (by omega)) λB=>hnsb ⟨_,B⟩,λy ⟨pt,f⟩=>?_,M6⟩;by_cases z:pt=.bk x.1
  ·subst z;rw[eE]at f;rcases hG y f with h' |h'
   ·exact q.up y ⟨_,h'⟩
   ·exact .inr (by omega)
  ·rw[cZ z]at f;exact q.up y ⟨_,f⟩
 ·obtain rfl:i=s.ords.length:=by omega
  refine ck (v:=.bool false) (by simp[go_sem]<;>first|exact⟨rfl,rfl⟩|exact rfl) ?_;rw[ci,if_neg Bool.false_ne_true];rw[List.drop_length]at g;have hfo:iX s.ords [] S0=some (U,T):=g;refine ck (dv sb 7 (by omega) _) (ck (i0 q.st N).2 ?_);obtain⟨ba,bc,hb7⟩:=hs.bids.isSl;refine fi (v:=.int .i64 (s.bids.length:Int)) (w' :=W) (by rw[hb7];simp[go_sem]) ?_;have hbind:((iX s.ords [] S0).bind λx=>jm s.bids none 0 x.1 x.2)=jm s.bids none 0 U T:=by rw[hfo];rfl
  rw[hbind]at hK1 J;refine CF hFl hs hf hlb (by omega) hsm hap q (λT' D' fp'' U' k e hw=>?_) J;exact hK1 T' D' fp'' k e hw.ven ⟨U',hw.inv⟩ hw.md λy f=>(hw.up y f).imp id λh=>by have:=m1.size;omega
end
def jJ{i:Nat}(h:i<4294967296):IntKind.i64.wrap ((i:Int)+1)=((i+1:Nat):Int):=by rw[IntKind.wrap_i64];omega
def zS{w:World}{s:Value}{l:List Ac}(h:Rd w 4 s l.length (l.flatMap cJ)){i:Nat}(hi:i<l.length):
  ∃b a d C e f,s=.slice (some ⟨b,a,none⟩) l.length d/\hp w b=some (.cells C e f)/\C[a+i*4]? =some (.int .u32 l[i].num)/\C[a+(i*4+1)]? =some (.int .i64 l[i].cash)/\C[a+(i*4+2)]? =some (.bool l[i].kil)/\C[a+(i*4+3)]? =some (.bool l[i].dfl):=by
 obtain⟨b,a,d,e,-,k⟩:=h.item (show∀x,(cJ x).length=4 from λ_=>rfl) hi rfl;obtain⟨C,j,f,g,c⟩:=k.get;refine⟨b,a,d,C,j,f,e,g,c 0 _ rfl,?_,?_,?_⟩
 ·have:=c 1 _ rfl;rwa[Nat.add_assoc]at this
 ·have:=c 2 _ rfl;rwa[Nat.add_assoc]at this
 ·have:=c 3 _ rfl;rwa[Nat.add_assoc]at this
def Bb{w:World}{s:Value}{l:List Po}(h:Rd w 4 s l.length (l.flatMap cK)){i:Nat}(hi:i<l.length):
  ∃b a d C e f,s=.slice (some ⟨b,a,none⟩) l.length d/\hp w b=some (.cells C e f)/\C[a+i*4]? =some (.int .u32 l[i].c)/\C[a+(i*4+1)]? =some (.int .u32 l[i].a)/\C[a+(i*4+2)]? =some (.int .i64 l[i].q)/\C[a+(i*4+3)]? =some (.int .i64 l[i].b):=by
 obtain⟨b,a,d,e,-,k⟩:=h.item (show∀x,(cK x).length=4 from λ_=>rfl) hi rfl;obtain⟨C,j,f,g,c⟩:=k.get;refine⟨b,a,d,C,j,f,e,g,c 0 _ rfl,?_,?_,?_⟩
 ·have:=c 1 _ rfl;rwa[Nat.add_assoc]at this
 ·have:=c 2 _ rfl;rwa[Nat.add_assoc]at this
 ·have:=c 3 _ rfl;rwa[Nat.add_assoc]at this
def dL{P:Program}{s:Sem Value}{w:World}{K:cm}{v:Value}{w' :World}(h:s.run P w=.ok v w')(a:K v w'):rv P s w K:=by
 rw[t6];unfold Kd;rw[h];exact a
def fK{α:Type}{A:List α}{i:Nat}(hi:i<A.length):A.take (i+1)=A.take i++[A[i]]:=by
 rw[List.take_add_one,List.getElem?_eq_getElem hi];rfl
def Cg{A:List Ac}{i:Nat}(hi:i<A.length):((A.take (i+1)).map (·.cash)).sum=((A.take i).map (·.cash)).sum+A[i].cash:=by
 rw[fK hi,List.map_append,List.sum_append];simp
def PA.sum{A:List Ac}(h:PA A)(e:A.length<=64):0<=(A.map (·.cash)).sum/\(A.map (·.cash)).sum<=64000000000000000:=by
 have h1:=qy (l:=A.map (·.cash)) (B:=1000000000000000) λx c=>by
  obtain⟨a,b,rfl⟩:=List.mem_map.1 c;have:=ec.1 (h.num a b).2;simp only[MF]at this;omega
 rw[List.length_map]at h1
 have i:0<=(A.map (·.cash)).sum:=by
  clear h1 e
  have:∀x∈A.map (·.cash),0<=x:=λx c=>by
   obtain⟨a,b,rfl⟩:=List.mem_map.1 c;exact(ec.1 (h.num a b).2).1
  generalize A.map (·.cash)=l at this;induction l with
  |nil=>simp
  |cons x l f=>
   have h1:=this x List.mem_cons_self;have g:=f λy d=>this y (List.mem_cons_of_mem _ d);rw[List.sum_cons];omega
 omega
set_option maxRecDepth 10000 in
set_option maxHeartbeats 1000000 in
def Cd{w:World}{f:Int}{v:Value}{A:List Ac}{K:cm}(D:Rd w 4 v A.length (A.flatMap cJ))(V:A.length<4294967296)
  (y:∀b l,cl (λ_=>False) w l->(b=true↔A.length<=64/\cy f 0 MF=true/\PA A/\f+(A.map (·.cash)).sum<=MF)->K (.bool b) l):
  Ca Tryz.prog 129 #[.int .i64 f,v] w K:=by
 obtain⟨T,vc,rfl⟩:=D.isSl;apply Pu;refine cB.at (λs W=>s=(.bool (decide (64<A.length)|| !cy f 0 MF),())/\W=w) ?_ ?_
 ·by_cases q:64<A.length
  ·have k:(64:Int)<(A.length:Int):=by omega
   simp[go_sem,q,k]
  ·have k:¬(64:Int)<(A.length:Int):=by omega
   simp[go_sem,q,k];refine rG ?_;simp[go_sem,MF]
 rintro _ l ⟨rfl,rfl⟩;unfold DQ;intro _;by_cases a:(decide (64<A.length)|| !cy f 0 MF)=true
 ·rw[a];simp only[ci,if_true];refine y false _ (cl.refl _ _) ⟨λh=>(by cases h),λh=>?_⟩;obtain⟨h1,u,-,-⟩:=h;rw[u]at a;simp at a;omega
 rw[Bool.eq_false_iff.2 a];simp only[ci,Bool.false_eq_true,if_false]
 have q:A.length<=64:=by
  apply Classical.byContradiction;intro h;apply a;simp;left;omega
 have E:cy f 0 MF=true:=by
  cases B:cy f 0 MF with
  |true=>rfl
  |false=>exact absurd (by rw[B];simp) a
 have t:=ec.1 E;simp only[MF]at t;clear a;simp[go_sem]
 refine jQ (λs W=>∃(i:Nat) (last:Int) (x:Value),i<=A.length/\s=(.int .i64 (f+((A.take i).map (·.cash)).sum),x,.int .u32 last,.int .i64 i,())/\pC (A.take i) last/\cl (λ_=>False) l W)
  (λs _=>match s.2.2.2.1 with| .int _ i=>A.length - i.toNat|_=>0) ⟨0,0,.bool false,by omega,by simp,pC.nil,cl.refl _ _⟩ ?_
 rintro⟨_,_⟩ W ⟨i,last,x,U,⟨⟩,d,p⟩ Q m;unfold Ea;intro _;by_cases g:i<A.length
 ·obtain⟨b,M,G,C,S,R,e,F,H,I,L,N⟩:=zS (D.mod p λ_ _ h=>h) g;cases e;have J:=jJ (i:=i) (by omega);refine dL (v:=.bool true) (w' :=W) (by simp[go_sem,g]) ?_;rw[ci,if_pos rfl];simp[-Int.natCast_add,go_sem,g,F,H,I,L,N];generalize n:W.alloc _=z;have o:cl (λ_=>False) W z:=by subst n;exact(cl.refl _ W).alloc _
  have j:hp z W.heap.size=some (.cells #[.int .u32 A[i].num,.int .i64 A[i].cash,.bool A[i].kil,.bool A[i].dfl] 92 (0,0)):=by subst n;simp[go_sem]
  refine cB.at (λs P=>s=(.bool (decide (A[i].num<=last)|| !cy A[i].cash 0 MF),())/\P=z) ?_ ?_
  ·by_cases h1:A[i].num<=last
   ·simp[go_sem,cO j,h1]
   ·simp[go_sem,cO j,h1];refine rG ?_;simp[go_sem,MF]
  rintro _ _ ⟨rfl,rfl⟩;unfold DP;intro _;by_cases a:(decide (A[i].num<=last)|| !cy A[i].cash 0 MF)=true
  ·rw[a];simp only[ci,if_true];refine y false _ (p.trans o) ⟨λh=>(by cases h),λh=>?_⟩;refine absurd h.2.2.1 (pC.bad g d ?_);rw[Bool.or_eq_true,decide_eq_true_eq]at a;rcases a with h|h
   ·exact .inl h
   ·exact .inr (by simpa using h)
  ·rw[Bool.eq_false_iff.2 a]
   have h1:last<A[i].num:=by
    apply Classical.byContradiction;intro h;apply a;simp;left;omega
   have u:cy A[i].cash 0 MF=true:=by
    cases B:cy A[i].cash 0 MF with
    |true=>rfl
    |false=>exact absurd (by rw[B];simp) a
   have c:=d.step h1 u;rw[<-fK g]at c;have O:=c.pa.sum (by rw[List.length_take];omega)
   have r:IntKind.i64.wrap (f+((A.take i).map (·.cash)).sum+A[i].cash)=f+((A.take (i+1)).map (·.cash)).sum:=by
    rw[Cg g]at O|-;rw[IntKind.wrap_i64];omega
   simp only[ci,Bool.false_eq_true,if_false];simp[-Int.natCast_add,-List.map_take,go_sem,cO j];rw[<-List.map_take,r,J];exact m _ _ ⟨i+1,_,_,by omega,rfl,c,p.trans o⟩ (by simp;omega)
 ·obtain rfl:i=A.length:=by omega
  clear m;rw[List.take_of_length_le (Nat.le_refl _)]at d|-;refine dL (v:=.bool false) (w' :=W) (by simp[go_sem]) ?_;rw[ci,if_neg Bool.false_ne_true];simp[-Int.natCast_add,go_sem];refine y _ _ p ⟨λh=>⟨q,E,d.pa,?_⟩,λh=>?_⟩
  ·simpa [MF]using h
  ·have:=h.2.2.2;simpa [MF]using this
def wL{P:Program}{s:Sem Unit}{w:World}{K:World->Prop}{w' :World}(h:s.run P w=.ok () w')(a:K w'):ru P s w K:=by
 rw[tH];unfold JG;rw[h];exact a
def sX{κ ν:Type} [DecidableEq κ]{L:List (κ×ν)}{k:κ}{v:ν}(h:∀p∈L,p.1≠k):put L k v=L++[(k,v)]:=by
 induction L with
 |nil=>rfl
 |cons p L c=>
  obtain⟨a,b⟩:=p;have h1:a≠k:=h (a,b) List.mem_cons_self;simp only[put,if_neg h1,List.cons_append];rw[c λx d=>h x (List.mem_cons_of_mem _ d)]
def nt(f:Int)(A:List Ac):List (Int×Ac):=(0,ji f)::A.map λa=>(a.num,a)
def GE(P:List Po):List ((Int×Int)×Po):=P.map λp=>(p.key,p)
def Di{f:Int}{A:List Ac}(h:PA A){i:Nat}(hi:i<A.length):put (nt f (A.take i)) A[i].num A[i]=nt f (A.take (i+1)):=by
 rw[sX,fK hi]
 ·simp only[nt,List.map_append,List.cons_append,List.map_cons,List.map_nil]
 ·intro p hp;rcases List.mem_cons.1 hp with rfl|hp
  ·have:=(h.num A[i] (List.getElem_mem hi)).1;simp only;omega
  ·obtain⟨a,b,rfl⟩:=List.mem_map.1 hp;have:a.num<A[i].num:=sP h.srt hi b;simp only;omega
def Cy{P:List Po}{i:Nat}(hi:i<P.length){c d q b:Int}(h:mw (P.take i) c d q b)(e:ni (c,d) P[i].key=true):put (GE (P.take i)) P[i].key P[i]=GE (P.take (i+1)):=by
 rw[sX,fK hi]
 ·simp only[GE,List.map_append,List.map_cons,List.map_nil]
 ·intro p hp;obtain⟨a,f,rfl⟩:=List.mem_map.1 hp;exact Fa (qT (h.top a f) e)
structure Bi(w W:World)(l m1 m2:Nat)(LA:List (Int×Ac))(LB:List ((Int×Int)×Po)):Prop where
 mod:cl (λ_=>False) w W
 h1:hp W l=some (.cells #[.map (some m1),.map (some m2)] 201 (0,0))
 a:cU d8 gR W m1 LA
 b:cU eV kU W m2 LB
def Bi.on{w W e:World}{l d a:Nat}{b:List (Int×Ac)}{c:List ((Int×Int)×Po)}(h:Bi w W l d a b c)(m:cl (λ_=>False) W e):Bi w e l d a b c:=
 ⟨h.mod.trans m,m.keep h.h1 id,h.a.mod m id,h.b.mod m id⟩
def Bi.upA{w W e:World}{l a d:Nat}{j c:List (Int×Ac)}{g:List ((Int×Int)×Po)}(h:Bi w W l a d j g)(f:l≠a/\l≠d/\a≠d)(k:w.heap.size<=a)(m:cl (λb=>b=a) W e)(i:cU d8 gR e a c):Bi w e l a d c g:=
 ⟨h.mod.on m λb n=>.inr (by omega),m.keep h.h1 f.1,i,h.b.mod m f.2.2.symm⟩
def Bi.upB{w W e:World}{l d a:Nat}{g:List (Int×Ac)}{j c:List ((Int×Int)×Po)}(h:Bi w W l d a g j)(f:l≠d/\l≠a/\d≠a)(k:w.heap.size<=a)(m:cl (λb=>b=a) W e)(i:cU eV kU e a c):Bi w e l d a g c:=
 ⟨h.mod.on m λb i=>.inr (by omega),m.keep h.h1 f.2.1,h.a.mod m f.2.2,i⟩
def vE{f:Int}{A:List Ac}{n:Int}(a:n≠0):(lk (nt f A) n).isSome=true↔∃x∈A,x.num=n:=by
 have:lk (nt f A) n=A.find? λx=>decide (x.num=n):=by
  rw[<-xr];simp only[nt,lk,if_neg (Ne.symm a)]
 rw[this,List.find?_isSome];simp
set_option maxRecDepth 10000 in
set_option maxHeartbeats 2000000 in
def IL{w:World}{f:Int}{va vp:Value}{A:List Ac}{P:List Po}{K:cm}(hA:Rd w 4 va A.length (A.flatMap cJ))(hP:Rd w 4 vp P.length (P.flatMap cK))(hn:A.length<4294967296)(hl:P.length<=1024)
  (uA:∀a∈A,0<=a.num/\a.num<4294967296)(uP:∀p∈P,((0<=p.c/\p.c<4294967296)/\(0<=p.a/\p.a<4294967296))/\(-9223372036854775808<=p.q/\p.q<9223372036854775808)/\(-9223372036854775808<=p.b/\p.b<9223372036854775808))
  (hok:lx f A P->∀M l F,iC M l F ⟨f,A,P⟩->cl (λ_=>False) w M->(∀b,F b->w.heap.size<=b)->K (.tuple #[dm l,.int .i64 0]) M)
  (G:¬lx f A P->∀M,cl (λ_=>False) w M->K (.tuple #[.pointer none,.int .i64 2]) M):
  Ca Tryz.prog 46 #[.int .i64 f,va,vp] w K:=by
 obtain⟨aA,cA,rfl⟩:=hA.isSl;obtain⟨aP,cP,rfl⟩:=hP.isSl;apply RU;refine Cd hA hn λb w1 mo1 N=>?_;cases b with
 |false=>
  refine dL (v:=.bool true) (w' :=w1) (by simp[go_sem]) ?_;rw[ci,if_pos rfl];exact G (λh=>by have:=N.2 ⟨h.len,h.fund,h.pa,h.tot⟩;cases this) _ mo1
 |true=>
  obtain⟨h64,hf,hpa,htot⟩:=N.1 rfl;refine dL (v:=.bool false) (w' :=w1) (by simp[go_sem]) ?_;rw[ci,if_neg Bool.false_ne_true];refine zH λw2 l F q2 mo2 f2=>?_;obtain⟨⟨L,Z,A0,B0,h1,h2,h3,h4,h5,h6,h7⟩,-⟩:=q2;obtain rfl:B0=[]:=List.Perm.eq_nil h5;have hl0:=f2 l ((h6 l).2 (.inl rfl));have hm10:=f2 L ((h6 L).2 (.inr (.inl rfl)));have hm20:=f2 Z ((h6 Z).2 (.inr (.inr rfl)));have hs1:=mo1.size;have fr0:Bi w w2 l L Z A0 []:=⟨mo1.trans mo2,h1,h2,h3⟩
  obtain rfl:A0=[(0,ji 0)]:=List.perm_singleton.1 h4;simp[go_sem,dm,cO h1];refine fm (enc:=d8) (ev:=gR) (x:=0) (v:=ji f) lU pG h2 λw3 hA3 mo3 hs3=>?_;have j:Bi w w3 l L Z (nt f []) []:=fr0.upA h7 (by omega) mo3 hA3
  (try simp[go_sem])
  refine jQ (λs W=>∃i:Nat,i<=A.length/\s=(.int .i64 i,())/\Bi w W l L Z (nt f (A.take i)) [])
   (λs _=>match s.1 with| .int _ i=>A.length - i.toNat|_=>0) ⟨0,by omega,rfl,j⟩ ?_
  rintro⟨_,_⟩ W ⟨i,hi,⟨⟩,k⟩ KN O;unfold J1;intro _;by_cases d:i<A.length
  ·obtain⟨b,off,cap,C,e',fz,e,hC,c0,c1,c2,c3⟩:=zS (hA.mod k.mod λ_ _ h=>h) d;cases e;have hw:=jJ (i:=i) (by omega);refine dL (v:=.bool true) (w' :=W) (by simp[go_sem,d]) ?_;rw[ci,if_pos rfl];refine dL (by simp[-Int.natCast_add,go_sem,d];first|exact⟨rfl,rfl⟩|exact rfl) ?_;refine dL (by simp[-Int.natCast_add,go_sem,d,hC,c0,c1,c2,c3];first|exact⟨rfl,rfl⟩|exact rfl) ?_;refine dL (by simp[go_sem];first|exact⟨rfl,rfl⟩|exact rfl) ?_;refine wL (by simp[-Int.natCast_add,go_sem];first|exact⟨rfl,rfl⟩|exact rfl) ?_;have hlm:=cn k.h1;generalize r:W.alloc _=I;have u:cl (λ_=>False) W I:=by subst r;exact(cl.refl _ W).alloc _
   have hloc:hp I W.heap.size=some (.cells #[.int .u32 A[i].num,.int .i64 A[i].cash,.bool A[i].kil,.bool A[i].dfl] 92 (0,0)):=by subst r;simp[go_sem]
   have R:=k.on (u.trans (cl.refl _ I).drew);simp[-Int.natCast_add,go_sem,dm,cO hloc,cO (u.keep k.h1 id)];refine fm (enc:=d8) (ev:=gR) (x:=A[i].num) (v:=A[i]) lU pG R.a λz hA2 mo hs=>?_;rw[Di hpa d]at hA2;simp[-Int.natCast_add,go_sem,hw];exact O _ _ ⟨i+1,by omega,rfl,R.upA h7 (by omega) mo hA2⟩ (by simp;omega)
  ·obtain rfl:i=A.length:=by omega
   clear O;rw[List.take_of_length_le (Nat.le_refl _)]at k;refine dL (v:=.bool false) (w' :=W) (by simp[go_sem]) ?_;rw[ci,if_neg Bool.false_ne_true];obtain⟨y,hnk⟩:∃y,y=W.heap.size:=⟨_,rfl⟩
   refine dL (by simp[go_sem];first|exact⟨rfl,rfl⟩|exact rfl) ?_;rw[<-hnk];generalize r:W.alloc _=I;have u:cl (λ_=>False) W I:=by subst r;exact(cl.refl _ W).alloc _
   have gk:hp I y=some (.cells #[.int .u32 0,.int .u32 0] 224 (0,0)):=by subst r hnk;simp[go_sem]
   have R:=k.on u
   have hkl:l<y/\L<y/\Z<y/\w.heap.size<=y:=by
    have:=cn k.h1;have:=k.a.lt;have:=k.b.lt;have:=k.mod.size;omega
   simp[go_sem]
   refine jQ (λs W=>∃(i:Nat) (o T q b:Int) (x1 x2:Value),i<=P.length/\s=(x1,x2,.int .i64 q,.int .i64 b,.int .i64 i,())/\mw (P.take i) o T q b/\(∀p∈P.take i,pf A p)/\hp W y=some (.cells #[.int .u32 o,.int .u32 T] 224 (0,0))/\Bi w W l L Z (nt f A) (GE (P.take i)))
    (λs _=>match s.2.2.2.2.1 with| .int _ i=>P.length - i.toNat|_=>0) ⟨0,0,0,0,0,_,_,by omega,rfl,mw.nil,by simp,gk,R⟩ ?_
   clear r gk R u k;rintro⟨y1,_⟩ W ⟨i,o,T,q,b,x1,x2,hi,⟨⟩,c,n,gk,k⟩ KN O;have hbd:=HO n (by rw[List.length_take];omega) o;rw[<-c.q,<-c.b]at hbd;unfold Jg;intro _;by_cases d:i<P.length
   ·obtain⟨b0,off,cap,C,e',fz,e,hC,c0,c1,c2,c3⟩:=Bb (hP.mod k.mod λ_ _ h=>h) d;cases e;have hmem:P[i]∈P:=List.getElem_mem d;have hu:=uP P[i] hmem;have hw:=jJ (i:=i) (by omega);have htk:=fK d;have hbs:= @mw.bad_sum P i d o T q b c;have hbk:= @mw.bad_key A P i d o T q b c ⟨hu.1.1.1,hu.1.2.1⟩;have D:= @mw.step _ o T q b c P[i];have S:=λh=> @Cy P i d o T q b c h;rw[<-htk]at D;obtain⟨np,hnp⟩:∃np,np=W.heap.size:=⟨_,rfl⟩
    have lnk:=cn gk;have hgd:lx f A P->pf A P[i]:=λh=>h.good _ hmem;have hpk:P[i].key=(P[i].c,P[i].a):=rfl;rw[hpk]at S hbk D;refine dL (v:=.bool true) (w' :=W) (by simp[go_sem,d]) ?_;rw[ci,if_pos rfl];refine dL (by simp[-Int.natCast_add,go_sem,d];first|exact⟨rfl,rfl⟩|exact rfl) ?_;refine dL (by simp[-Int.natCast_add,go_sem,d,hC,c0,c1,c2,c3];first|exact⟨rfl,rfl⟩|exact rfl) ?_;refine dL (by simp[go_sem];first|exact⟨rfl,rfl⟩|exact rfl) ?_;refine wL (by simp[-Int.natCast_add,go_sem];first|exact⟨rfl,rfl⟩|exact rfl) ?_;rw[<-hnp];generalize hp0:P[i]=p at*;generalize r:W.alloc _=I;have u:cl (λ_=>False) W I:=by subst r;exact(cl.refl _ W).alloc _
    have g1:hp I np=some (.cells #[.int .u32 p.c,.int .u32 p.a,.int .i64 p.q,.int .i64 p.b] 112 (0,0)):=by subst r hnp;simp[go_sem]
    refine dL (by simp[go_sem];first|exact⟨rfl,rfl⟩|exact rfl) ?_;refine dL (by simp[go_sem,cO g1];first|exact⟨rfl,rfl⟩|exact rfl) ?_;refine dL (by simp[go_sem];first|exact⟨rfl,rfl⟩|exact rfl) ?_;refine dL (by simp[go_sem,cO g1];first|exact⟨rfl,rfl⟩|exact rfl) ?_;refine dL (by simp[go_sem];first|exact⟨rfl,rfl⟩|exact rfl) ?_;obtain⟨nq,hnq⟩:∃nq,nq=I.heap.size:=⟨_,rfl⟩
    refine dL (by simp[go_sem];first|exact⟨rfl,rfl⟩|exact rfl) ?_;refine wL (by simp[go_sem];first|exact⟨rfl,rfl⟩|exact rfl) ?_;rw[<-hnq];generalize hW2:I.alloc _=z;have mw2:cl (λ_=>False) I z:=by subst hW2;exact(cl.refl _ I).alloc _
    have g2:=mw2.keep g1 id;have zgq:hp z nq=some (.cells #[.int .u32 p.c,.int .u32 p.a] 224 (0,0)):=by subst hW2 hnq;simp[go_sem]
    have J:=(u.trans mw2).keep gk id;have H:=k.on (u.trans mw2);have lnp:=cn g1;have lnq:=cn zgq;refine cB.at (λs B=>s=(x2,y1,())/\B=z/\(p.c≠o->q=0/\b=0)) ?_ ?_
    ·by_cases hc:p.c=o
     ·simp[go_sem,cO zgq,cO J,hc]
     ·simp[go_sem,cO zgq,cO J,hc];refine cB.at (λs B=>s=(.bool (decide (q≠0\/b≠0)),())/\B=z) ?_ ?_
      ·by_cases hq:q=0
       ·by_cases N:b=0
        ·simp[go_sem,hq,N]
        ·simp[go_sem,hq,N]
       ·simp[go_sem,hq]
      rintro _ z ⟨rfl,rfl⟩;unfold J5;intro _;by_cases E:q≠0\/b≠0
      ·simp only[decide_eq_true E,ci,if_true];exact G (λh=>hbs hc E ⟨h.srt,h.zero⟩) _ H.mod
      ·simp only[decide_eq_false E,ci,Bool.false_eq_true,if_false];obtain⟨e1,e2⟩:q=0/\b=0:=by omega
       simp[e1,e2]
    rintro _ z ⟨rfl,rfl,hsum⟩;unfold J8;intro _;simp[go_sem,dm,cO H.h1,cO g2]
    have hl:∀B,cl (λ_=>False) z B->(fA 198 (.map (some L)) (.int .u32 p.a) true).run Tryz.prog B=.ok (.tuple #[gR ((lk (nt f A) p.a).getD ⟨0,0,false,false⟩),.bool (lk (nt f A) p.a).isSome]) B:=λB m=>by
     have:=CC (P:=Tryz.prog) (enc:=d8) (ev:=gR) (x:=p.a) lU pG Qd (.inr ⟨L,rfl,(H.on m).a⟩);rw[qu]at this;exact this
    refine C6 (enc:=d8) (ev:=gR) (x:=p.a) (gR ⟨0,0,false,false⟩) lU pG Qd (.inr ⟨L,rfl,(H.on ((cl.refl _ z).drew)).a⟩) ?_;rw[qu];generalize(lk (nt f A) p.a).getD ⟨0,0,false,false⟩=xa at hl|-;have ne1:np≠z.heap.size:=by omega
    have ne2:l≠z.heap.size:=by omega
    simp[go_sem,gR,cO H.h1,cO g2,ne1,ne2];refine⟨hl _ (((cl.refl _ z).alloc _).drew),?_⟩;generalize hW3:(World.alloc _ _).drew=U;have V:cl (λ_=>False) z U:=by subst hW3;exact((cl.refl _ z).alloc _).drew
    have g3:=V.keep g2 id;have Y:=V.keep zgq id;have Q:=V.keep J id;have j:=H.on V;have ne3:nq≠z.heap.size:=by omega
    have ne4:y≠z.heap.size:=by omega
    have hv:(!ni (o,T) (p.c,p.a))=(if p.c<o then true else if p.c=o then decide (p.a<=T)else false):=by
     unfold ni;by_cases h1:p.c<o
     ·rw[if_pos h1];simp;omega
     ·rw[if_neg h1];by_cases h2:p.c=o
      ·rw[if_pos h2,Bool.eq_iff_iff];simp;omega
      ·rw[if_neg h2];simp;omega
    refine cB.at (λs B=>s=(.bool (!ni (o,T) (p.c,p.a)),())/\B=U) ?_ ?_
    ·rw[hv];by_cases h1:p.c<o
     ·simp[go_sem,cO Y,cO Q,cO zgq,cO J,ne3,ne4,h1]
     ·by_cases h2:p.c=o
      ·simp[go_sem,cO Y,cO Q,cO zgq,cO J,ne3,ne4,h1,h2]
      ·simp[go_sem,cO Y,cO Q,cO zgq,cO J,ne3,ne4,h1,h2]
    clear hW3;rintro _ U ⟨rfl,rfl⟩;unfold Jo;intro _;cases hk:ni (o,T) (p.c,p.a)with
    |false=>
     simp only[Bool.not_false,ci,if_true];exact G (λh=>hbk hk ⟨h.srt,h.good⟩) _ j.mod
    |true=>
     simp only[Bool.not_true,ci,Bool.false_eq_true,if_false];refine cB.at (λs B=>s=(.bool (decide (p.c=0\/p.a=0\/(lk (nt f A) p.a).isSome=false\/(p.q=0/\p.b=0))),())/\B=U) ?_ ?_
     ·by_cases a1:p.c=0
      ·simp[go_sem,cO g3,a1]
      ·by_cases a2:p.a=0
       ·simp[go_sem,cO g3,a1,a2]
       ·cases a3:(lk (nt f A) p.a).isSome
        ·simp[go_sem,cO g3,a1,a2,a3]
        ·by_cases a4:p.q=0
         ·by_cases a5:p.b=0
          ·simp[go_sem,cO g3,a1,a2,a3,a4,a5]
          ·simp[go_sem,cO g3,a1,a2,a3,a4,a5]
         ·simp[go_sem,cO g3,a1,a2,a3,a4]
     rintro _ U ⟨rfl,rfl⟩;unfold JA;intro _;by_cases t:p.c=0\/p.a=0\/(lk (nt f A) p.a).isSome=false\/(p.q=0/\p.b=0)
     ·simp only[decide_eq_true t,ci,if_true];refine G (λh=>?_) _ j.mod;have g:=hgd h;rcases t with t|t|t|t
      ·exact g.c t
      ·exact g.a t
      ·rw[(vE g.a).2 g.there]at t;cases t
      ·have:=g.some;simp[Po.isZ,t]at this
     simp only[decide_eq_false t,ci,Bool.false_eq_true,if_false];refine cB.at (λs B=>s=(.bool (!cy p.q (-10000000) 10000000|| !cy p.b (-1000000000000000) 1000000000000000),())/\B=U) ?_ ?_
     ·simp[go_sem,cO g3];refine qX hu.2.1 (by omega) ?_;cases hq:cy p.q (-10000000) 10000000
      ·simp[go_sem]
      ·simp[go_sem,cO g3];refine qX hu.2.2 (by omega) ?_;simp[go_sem]
     rintro _ U ⟨rfl,rfl⟩;unfold Jr;intro _;have eq1:cy p.q (-MP) MP=cy p.q (-10000000) 10000000:=rfl;have eq2:cy p.b (-MF) MF=cy p.b (-1000000000000000) 1000000000000000:=rfl;by_cases hr:(!cy p.q (-10000000) 10000000|| !cy p.b (-1000000000000000) 1000000000000000)=true
     ·rw[hr];simp only[ci,if_true];refine G (λh=>?_) _ j.mod;have g:=hgd h;rw[<-eq1,<-eq2,g.q,g.b]at hr;cases hr
     rw[Bool.eq_false_iff.2 hr];simp only[ci,Bool.false_eq_true,if_false]
     have hg:pf A p:=by
      refine⟨λe=>t (.inl e),λe=>t (.inr (.inl e)),?_,?_,?_,?_⟩
      ·refine(vE (f:=f) λe=>t (.inr (.inl e))).1 ?_;cases h:(lk (nt f A) p.a).isSome with
       |true=>rfl
       |false=>exact absurd (.inr (.inr (.inl h))) t
      ·rw[Po.isZ,decide_eq_false_iff_not];exact λe=>t (.inr (.inr (.inr e)))
      ·rw[eq1];cases h:cy p.q (-10000000) 10000000 with
       |true=>rfl
       |false=>rw[h]at hr;exact absurd rfl hr
      ·rw[eq2];cases h:cy p.b (-1000000000000000) 1000000000000000 with
       |true=>rfl
       |false=>rw[h]at hr;simp at hr
     have hq2:=ec.1 hg.q;have hb2:=ec.1 hg.b;simp only[MP,MF]at hq2 hb2;have hwq:IntKind.i64.wrap (q+p.q)=q+p.q:=by rw[IntKind.wrap_i64];omega
     have hwb:IntKind.i64.wrap (b+p.b)=b+p.b:=by rw[IntKind.wrap_i64];omega
     have n1:l≠y:=by omega
     have n2:nq≠y:=by omega
     have n3:np≠y:=by omega
     simp[-Int.natCast_add,go_sem,dm,cO Y,cO g3,cO Q,cO j.h1,hwq,hwb,n1,n2,n3];generalize hW4:World.drew (World.drew _)=W4;have X:cl (λb=>b=y) U W4:=by subst hW4;exact(((cl.refl (λb=>b=y) U).setCell (b:=y) (.inl rfl) _ _).setCell (b:=y) (.inl rfl) _ _).drew.drew
     have gk4:hp W4 y=some (.cells #[.int .u32 p.c,.int .u32 p.a] 224 (0,0)):=by subst hW4;simp[go_sem,cO Q]
     have fr4:Bi w W4 l L Z (nt f A) (GE (P.take i)):=⟨j.mod.on X λb N=>.inr (by omega),X.keep j.h1 n1,j.a.mod X (by omega),j.b.mod X (by omega)⟩
     refine fm (enc:=eV) (ev:=kU) (x:=(p.c,p.a)) (v:=p) Bj Me fr4.b λW5 hB mo hs=>?_;rw[S hk]at hB;rw[hw];refine O _ _ ⟨i+1,p.c,p.a,q+p.q,b+p.b,_,_,by omega,rfl,D hk hsum,λx hx=>?_,mo.keep gk4 (by omega),fr4.upB h7 (by omega) mo hB⟩ (by simp;omega);rw[htk]at hx;rcases List.mem_append.1 hx with hx|hx
     ·exact n x hx
     ·rw[List.mem_singleton]at hx;subst hx;exact hg
   ·obtain rfl:i=P.length:=by omega
    clear O;rw[List.take_of_length_le (Nat.le_refl _)]at k c n;refine dL (v:=.bool false) (w' :=W) (by simp[go_sem]) ?_;rw[ci,if_neg Bool.false_ne_true];refine cB.at (λs B=>s=(.bool (decide (q≠0\/b≠0)),())/\B=W) ?_ ?_
    ·by_cases hq:q=0
     ·by_cases N:b=0
      ·simp[go_sem,hq,N]
      ·simp[go_sem,hq,N]
     ·simp[go_sem,hq]
    rintro _ _ ⟨rfl,rfl⟩;unfold Jc;intro _;by_cases E:q≠0\/b≠0
    ·simp only[decide_eq_true E,ci,if_true];exact G (λh=>c.bad_end E h.zero) _ k.mod
    ·simp only[decide_eq_false E,ci,Bool.false_eq_true,if_false];obtain⟨rfl,rfl⟩:q=0/\b=0:=by omega
     have ok:lx f A P:=⟨h64,hf,hpa,htot,c.srt,n,c.done⟩
     refine hok ok _ l F ⟨⟨L,Z,_,_,k.h1,k.a,k.b,List.Perm.refl _,List.Perm.refl _,h6,h7⟩,ok.ok uA λp hp=>(uP p hp).1.1⟩ k.mod λb N=>by have:=f2 b N;omega
end Go.Proofs
