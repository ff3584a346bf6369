/- Part of a proof. -/
import Derived.Test.YtgebhcgmckjbbaaGreatB25
set_option linter.all false
namespace Go.Proofs
open Go Go.Vc
attribute [local congr] cr
def pp{L:List Ct}{i:Nat}(h:i<L.length):jW L i=L[i].spec.num:=by unfold jW;simp[List.getD,h]
def vw{L:List Ct}{g:Int->List (Int×Od)}:(List.range L.length).flatMap (λi=>g (jW L i))=(L.map (·.spec.num)).flatMap g:=by
 have:(List.range L.length).map (jW L)=L.map (·.spec.num):=by
  apply List.ext_getElem
  ·simp
  ·intro i h1 a;simp only[List.length_map,List.length_range]at h1;simp[pp h1]
 rw[<-this,List.flatMap_map]
def FV{s:iq}{B:Int->Bk}:tP s.cts (λi b=>B (jW s.cts i) b) s.cts.length=ou s B:=vw (g:=λn=>(ie true (B n true)++ie false (B n false)).map λo=>(n,o))
def GB{s:iq}{D:Int->List Od}:uO s.cts (λi=>D (jW s.cts i)) s.cts.length=kr s D:=vw (g:=λn=>(D n).map λo=>(n,o))
def BW{L:List Ct}(e:nY L){i j:Nat}(hi:i<L.length)(d:j<L.length)(h:jW L i=jW L j):i=j:=by
 rw[pp hi,pp d]at h;apply Classical.byContradiction;intro b;rcases Nat.lt_or_gt_of_ne b with a|a
 ·have:=List.pairwise_iff_getElem.1 e i j hi d a;omega
 ·have:=List.pairwise_iff_getElem.1 e j i d hi a;omega
def ym{buy:Bool}{l:List Od}{a:Nat}(h:ij buy l l.length=some a):a<l.length/\∀x∈l,dn buy x.price (l.getD a fI).price=false:=by
 have d:=my h;refine⟨d,λx g=>?_⟩;obtain⟨f,hp⟩:=mB buy l
 have e:ie buy l=l.getD a fI::lX buy (l.length - 1) (l.eraseIdx a):=by
  unfold ie;obtain⟨n,i⟩:∃n,l.length=n+1:=⟨l.length - 1,by omega⟩
  rw[i,mG,h];rfl
 have b:=hp.mem_iff.2 g;rw[e]at b f;rcases List.mem_cons.1 b with rfl|b
 ·unfold dn;cases buy<;>simp
 ·exact(List.pairwise_cons.1 f).1 x b
def BT{buy:Bool}{l:List Od}(h:ij buy l l.length=none):l=[]:=by
 cases l with
 |nil=>rfl
 |cons x r=>
  obtain⟨a,b⟩:=rz (buy:=buy) (l:=x::r) (i:=(x::r).length) (by simp);rw[b]at h;cases h
def GR{B:Bk}:xI B↔match ij true (B true) (B true).length,ij false (B false) (B false).length with
  |some a,some b=>((B true).getD a fI).price<((B false).getD b fI).price
  |_,_=>True:=by
 cases k:ij true (B true) (B true).length with
 |none=>
  simp only[iff_true];intro x e;rw[BT k]at e;cases e
 |some a=>
  cases i:ij false (B false) (B false).length with
  |none=>
   simp only[iff_true];intro x _ y d;rw[BT i]at d;cases d
  |some b=>
   simp only;obtain⟨j,p⟩:=ym k;obtain⟨f,n⟩:=ym i;constructor
   ·intro h;have o:(B true).getD a fI=(B true)[a]:=by simp[List.getD,j]
    have m:(B false).getD b fI=(B false)[b]:=by simp[List.getD,f]
    rw[o,m];exact h _ (List.getElem_mem j) _ (List.getElem_mem f)
   ·intro h x e y d;have h1:=p x e;have g:=n y d;unfold dn at h1 g;simp only[if_true,Bool.false_eq_true,if_false,decide_eq_false_iff_not]at h1 g;omega
def K6(s:iq)(w:World)(K:cm):Prop:=(Hn s->∀x w',cl (λ_=>False) w w' ->K (.tuple #[x,.int .i64 0]) w')/\(¬Hn s->∀w',cl (λ_=>False) w w' ->K (.tuple #[.pointer none,.int .i64 2]) w')
structure Mv(s:iq)(Bn:Int->Bk):Prop where
 from0:jV s
 len:s.ords.length<=3200/\s.bids.length<=800
 ords:∀x∈s.ords,(eZ s).stnd true [] x=true
 bids:∀x∈s.bids,(eZ s).stnd false [] x=true
 nums:((s.ords++s.bids).map (·.2.num)).Nodup
 addO:kG s.ords (λ_=>Bk.empty)=some Bn
def xS{S:dF}{a:Bool}{x:Int×Od}(h:S.stnd a [] x=true):∃k:Nat,BM S.cal.l x.1=some k:=by
 have b:=(kZ h).alive;unfold di at b;have hp:=wN S.cal.l x.1;cases d:BM S.cal.l x.1 with
 |some k=>exact⟨k,rfl⟩
 |none=>
  rw[d]at hp;simp only at hp;rw[hp]at b;simp at b
structure FO(wF W:World)(bD n:Nat)(Dn:Nat->List Od)(dS:Nat->Value):Prop where
 md:cl (λy=>y=bD) wF W
 own:∀i,i<n->kR W (dS i) (Dn i)
 nw:∀i y,i<n->co (dS i) y->wF.heap.size<=y
 dj:∀i j y,i<n->j<n->co (dS i) y->co (dS j) y->i=j
 arr:0<n->∃rest T,hp W bD=some (.cells (((List.range n).map dS)++rest).toArray T (0,0))
def HX{α:Type}{f:Nat->α}{n k:Nat}{x:α}(a:k<n):((List.range n).map f).set k x=(List.range n).map (dg f k x):=by
 apply List.ext_getElem
 ·simp
 ·intro i h1 b;simp only[List.length_set,List.length_map,List.length_range]at h1;rw[List.getElem_set];simp only[List.getElem_map,List.getElem_range,dg];by_cases h:k=i
  ·rw[if_pos h,if_pos h.symm]
  ·rw[if_neg h,if_neg (Ne.symm h)]
def wR{W:World}{b off:Nat}{x:Int×Od}(h:At W b off (du x)):(Instr.loadAt 27 (.pointer (some ⟨b,off+1,none⟩))).run Tryz.prog W=.ok (.int .u64 x.2.num) W:=by
 obtain⟨C,e,f,h1,a⟩:=h.get;have d:=a 1 (.int .u64 x.2.num) rfl;simp[go_sem,h1,d]
def Jn{W:World}{b off:Nat}{x:Int×Od}(h:At W b off (du x)):At W b (off+1) (da x.2):=by
 have:=h.sub 1 5 (by show 1+5<=6;omega);exact this
structure rg(s:iq)(sb:Nat)(ss:Nat->Value)(W:World):Prop where
 blk:cR W sb s.day s.next s.fund ss
 sta:eS W ss s
 fit:s.Fit
def rg.md0{s:iq}{sb:Nat}{ss:Nat->Value}{W a:World}(h:rg s sb ss W)(m:cl (λ_=>False) W a):rg s sb ss a:=⟨m.hpk h.blk id,h.sta.md0 m,h.fit⟩
structure CK(w0:World)(bD v sb:Nat)(F F' G:Nat->Prop)(sB sD:Value)(ss:Nat->Value)(P:List Nat):Prop where
 v:v≠bD
 f:∀y,F y->y≠bD
 f' :∀y,F' y->y≠bD
 b:∀y,eM sB y->y≠bD
 g:0<P.length->∀y,G y->y≠bD
 sb:sb≠bD
 ss:∀i,3<=i->i<=7->∀y,eM (ss i) y->y≠bD
 p:∀i (h:i<P.length),P[i]≠bD/\∀d,oR P[i] d≠bD
 ge:w0.heap.size<=bD
 sl:0<P.length->∃cap,P.length<=cap/\sD=.slice (some ⟨bD,0,none⟩) P.length cap
section
variable{w0 W X:World}{K:cm}{s:iq}{sb:Nat}{ss:Nat->Value}{v c l:Nat}{sB sD:Value}{F F' G:Nat->Prop}{P:List Nat}{Bn:Int->Bk}{B:Nat->Bool->List Od}{Dn:Nat->List Od}{dS:Nat->Value}{bD:Nat}{S:dF}
def oN.bidsOn(h:oN W v c l sB sD F F' S P B (λ_=>[]) (λ_=>.slice none 0 0) G)(f:CK w0 bD v sb F F' G sB sD ss P)(b:FO W X bD P.length Dn dS):oN X v c l sB sD F F' S P B Dn dS G:=by
 refine⟨b.md.hpk h.vn f.v,h.cal.mod b.md λy g e=>f.f y g e,h.led.mod b.md λy g e=>f.f' y g e,h.len,h.bks.mod b.md λy g e=>f.b y g e,?_,λi j=>b.md.hpk (h.bk i j) (f.p i j).1,λi j d=>(h.sd i j d).mod b.md ((f.p i j).2 d) λy g e=>f.g (by omega) y g e,λi j=>(b.own i j).rd⟩;by_cases r:0<P.length
 ·obtain⟨m,k,e⟩:=f.sl r;obtain⟨rest,T,o⟩:=b.arr r;rw[<-List.map_eq_flatMap];refine⟨by simp,.inr ⟨bD,0,m,e,k,_,_,_,o,by simp,by simp⟩⟩
 ·have q:P.length=0:=by omega
  rw[q];have p:=h.bds;rw[q]at p;obtain⟨a,n,e⟩:=p.isSl;exact⟨rfl,.inl ⟨rfl,a,n,e⟩⟩
def rg.bidsOn(h:rg s sb ss W)(b:CK w0 bD v sb F F' G sB sD ss P)(m:cl (λy=>y=bD) W X):rg s sb ss X:=
 ⟨m.hpk h.blk b.sb,λi h1 a=>(h.sta i h1 a).mod m λy d e=>b.ss i h1 a y d e,h.fit⟩
def AU(x:Int×Od)(l:List (Int×Od))(D:Int->List Od):lp (x::l) D=if 50<=(D x.1).length\/(0<(D x.1).length/\x.2.num<=((D x.1).getD ((D x.1).length - 1) fI).num)then none else lp l (fV D x.1 (D x.1++[x.2])):=rfl
set_option maxRecDepth 10000 in
set_option maxHeartbeats 4000000 in
def K1(hO:K6 s w0 K)(hd:Mv s Bn)(hcr:∀n∈jP s,xI (Bn n))(hBl:∀n b,(Bn n b).length<=100)(hpo:s.poss.length<=100000)(hs:CK w0 bD v sb F F' G sB sD ss P)
  (hE:rg s sb ss W)(h:oN W v c l sB sD F F' (eZ s) P (λi b=>Bn (jW s.cts i) b) (λ_=>[]) (λ_=>.slice none 0 0) G)(h0:FO W W bD P.length (λ_=>[]) (λ_=>.slice none 0 0))
  (m0:cl (λ_=>False) w0 W){x y:Value}:
  cS (S:=Value×Value×Value×Unit) (Gp (pt sb) (pt c) (pt v) K) (x,y,.int .i64 0,()) W:=by
 have Q:=hE.sta.sl;have hr:=(iE hd.from0.cts).2;have hlc:P.length=s.cts.length:=h.len;have hc16:=hd.from0.len;have u:=gH h.bks;have w:=gH h.bds
 have hln:∀W,(builtin .len #[47] 3 #[false] #[ss 7]).run Tryz.prog W=.ok (.value (.int .i64 (s.bids.length:Int))) W:=λW=>by
  obtain⟨a,c,e⟩:=(hE.sta.bids).isSl;rw[e];simp[go_sem]
 have hbl:=hd.len.2
 refine dp (λst X=>∃(k:Nat) (x y:Value) (D:Int->List Od) (dS:Nat->Value),k<=s.bids.length/\st=(x,y,.int .i64 k,())/\lp (s.bids.drop k) D=lp s.bids (λ_=>[])/\(∀n,(D n).length<=50)/\FO W X bD P.length (λi=>D (jW s.cts i)) dS)
  (λst _=>match st.2.2.1 with| .int _ k=>s.bids.length - k.toNat|_=>0) ⟨0,x,y,λ_=>[],_,by omega,rfl,rfl,λ_=>Nat.zero_le _,h0⟩ ?_
 rintro _ X ⟨k,x,y,D,dS,hk,rfl,g,U,r⟩ KN hKN;have hX:=h.bidsOn hs r;have hEX:=hE.bidsOn hs r.md;have MX:cl (λ_=>False) w0 X:=m0.on r.md λy m=>.inr (by rw[m];exact hs.ge);unfold Gp;intro _;refine ck (dv sb 7 (by omega) _) (ck (dC hEX.blk Q 7 (by omega) (by omega)) (fi (hln _) ?_));by_cases hlt:k<s.bids.length
 ·have hlt' :(k:Int)<(s.bids.length:Int):=by omega
  refine ck (v:=.bool true) (by simp[go_sem,hlt']<;>first|exact⟨rfl,rfl⟩|exact rfl) ?_;rw[ci,if_pos rfl];obtain⟨d,hxx⟩:∃d,d=s.bids[k]:=⟨_,rfl⟩
  have hmem:d∈s.bids:=hxx▸List.getElem_mem hlt;obtain⟨j,hj⟩:=xS (hd.bids d hmem);have hj' :BM s.cts d.1=some j:=hj;obtain⟨hjc,hjn⟩:=y8 hj';have z:j<P.length:=by omega
  have hcj:jW s.cts j=d.1:=by rw[pp hjc];exact hjn
  have hpI:kP s.cts d.1=(j:Int):=by unfold kP;rw[hj']
  obtain⟨b1,o1,i1,A1⟩:=nj hEX.sta.bids hlt;rw[<-hxx]at A1;refine ck (dv sb 7 (by omega) _) (ck (dC hEX.blk Q 7 (by omega) (by omega)) (ck (i1 X _) ?_));refine ck (v:=.pointer (some ⟨b1,o1,none⟩)) (w' :=X) (by simp[go_sem,cC]) (ck (Eh A1) ?_);refine ow hX.cal (by show s.cts.length<=_;omega) ?_;rw[show kP (eZ s).cal.l d.1=(j:Int)from hpI];simp only[cw];obtain⟨b2,o2,i2,l2⟩:=hX.bids z;refine ck (rf v 3 (by omega) _) (ck (uI hX.vn u w).2.2.2.1 (ck (i2 X) (ck l2 (fi (px (hX.bd j z) _) ?_))));simp only[hcj];have hl50:=U d.1;rw[List.drop_eq_getElem_cons hlt,<-hxx,AU]at g;have md:=(cl.refl (λ_=>False) X).drew;have J:=hX.md0 md;have M:=hEX.md0 md;have MD:=MX.trans md;obtain⟨bad,R⟩:∃bad:Prop,bad=(50<=(D d.1).length\/(0<(D d.1).length/\d.2.num<=((D d.1).getD ((D d.1).length - 1) fI).num)):=⟨_,rfl⟩
  have hadd1:bad->none=lp s.bids (λ_=>[]):=λr=>by
   rw[R]at r;rw[if_pos r]at g;exact g
  have hadd2:¬bad->lp (s.bids.drop (k+1)) (fV D d.1 (D d.1++[d.2]))=lp s.bids (λ_=>[]):=λr=>by
   rw[R]at r;rw[if_neg r]at g;exact g
  clear g;have hxn:(d.2).num=d.2.num:=rfl;refine cB.at (λst W' =>∃bb:Bool,st=(.bool bb,())/\X.drew=W' /\(bb=true↔bad)) ?_ ?_
  ·generalize X.drew=V at md J M MD|-;rw[R];by_cases h50:50<=(D d.1).length
   ·refine cq (v:=.bool true) (λW=>by simp[go_sem];omega) ?_;rw[ci,if_pos rfl];exact⟨true,rfl,rfl,⟨λ_=>.inl h50,λ_=>rfl⟩⟩
   refine cq (v:=.bool false) (λW=>by simp[go_sem];omega) ?_;rw[ci,if_neg Bool.false_ne_true];by_cases hpos:0<(D d.1).length
   ·refine cq (v:=.bool true) (λW=>by simp[go_sem];omega) ?_;rw[ci,if_pos rfl];obtain⟨b3,o3,i3,l3⟩:=J.bids z;refine cq (λW=>rf v 3 (by omega) W) (cx (uI J.vn u w).2.2.2.1 (cq (λW=>i3 W) (cx l3 ?_)));refine cq (v:=.int .i64 (((D d.1).length - 1:Nat):Int)) (λW=>by simp[go_sem];rw[cV (by omega) (by omega)];omega) ?_;have hlast:(D d.1).length - 1<(D d.1).length:=by omega
    have hbd:=J.bd j z;simp only[hcj]at hbd;obtain⟨b4,o4,i4,A4⟩:=xZ hbd hlast;refine cq (λW=>i4 W _) (cq (yV A4).2.2.1 (cx (yV A4).2.2.2 ?_));obtain⟨b5,o5,i5,A5⟩:=nj M.sta.bids hlt;rw[<-hxx]at A5;refine cq (λW=>dv sb 7 (by omega) W) (cx (dC M.blk Q 7 (by omega) (by omega)) (cq (λW=>i5 W _) ?_));refine cq (v:=.pointer (some ⟨b5,o5+1,none⟩)) (λW=>by simp[go_sem,cC]) (cq (v:=.pointer (some ⟨b5,o5+1,none⟩)) (λW=>by simp[go_sem,cC]) (cx (wR A5) ?_));have e:(D d.1).getD ((D d.1).length - 1) fI=(D d.1)[(D d.1).length - 1]:=by simp[List.getD,List.getElem?_eq_getElem hlast]
    rw[e];refine cq (v:=.bool (decide (d.2.num<=((D d.1)[(D d.1).length - 1]).num))) (λW=>by simp[go_sem]) ?_;refine⟨_,rfl,rfl,⟨λh=>.inr ⟨hpos,of_decide_eq_true h⟩,λh=>decide_eq_true ?_⟩⟩;rcases h with h|h
    ·exact absurd h h50
    ·exact h.2
   ·have hz0:(D d.1).length=0:=by omega
    refine cq (v:=.bool false) (λW=>by rw[hz0];simp[go_sem]) ?_;rw[ci,if_neg Bool.false_ne_true];refine⟨false,rfl,rfl,⟨λh=>(by cases h),λh=>?_⟩⟩;rcases h with h|h
    ·exact absurd h h50
    ·exact absurd h.1 hpos
  rintro _ W' ⟨bb,rfl,rfl,hbb⟩;unfold J4;intro _;cases bb with
  |true=>
   rw[ci,if_pos rfl];have g:=hadd1 (hbb.1 rfl);refine hO.2 (λhDok=>?_) _ MD;obtain⟨B',D',Z⟩:=hDok;rw[Z.addB]at g;cases g
  |false=>
  rw[ci,if_neg Bool.false_ne_true];have hnb:¬bad:=λh=>by cases hbb.2 h
  have g:=hadd2 hnb;rw[R]at hnb;simp only[cw];have md2:=(cl.refl (λ_=>False) X.drew).drew
  have A:FO W X.drew.drew bD P.length (λi=>D (jW s.cts i)) dS:=
   ⟨r.md.trans ((md.trans md2).mono λ_ _ h=>h.elim),λi I=>((r.own i I).mod md λ_ _ h=>h).mod md2 λ_ _ h=>h,r.nw,r.dj,λhn=>by obtain⟨rest,T,e⟩:=r.arr hn;exact⟨rest,T,(md.trans md2).hpk e id⟩⟩
  generalize X.drew.drew=V at A|-;have hV:=h.bidsOn hs A;have hEV:=hE.bidsOn hs A.md;have hn:0<P.length:=by omega
  obtain⟨cap,hcap,hse⟩:=hs.sl hn;obtain⟨rest,T,harr⟩:=A.arr hn;obtain⟨d1,d2,hdSj,-⟩:=(A.own j z).isSl
  have C:((List.range P.length).map dS++rest)[j]? =some (dS j):=by
   rw[List.getElem?_append_left (by simp;omega)];simp[z]
  have ix:∀Y,(Instr.indexAt 164 sD (.int .i64 (j:Int))).run Tryz.prog Y=.ok (.pointer (some ⟨bD,j,none⟩)) Y:=λY=>by rw[hse];simp[go_sem,z,cC,GW]
  have lj:∀{Y:World},hp Y bD=some (.cells ((List.range P.length).map dS++rest).toArray T (0,0))->(Instr.loadAt gU (.pointer (some ⟨bD,j,none⟩))).run Tryz.prog Y=.ok (dS j) Y:=λh=>by
   rw[hdSj]at C|-;simp[go_sem,h,C]
  refine cq (λW=>rf v 3 (by omega) W) (cx (uI hV.vn u w).2.2.2.1 ?_);refine cq (λW=>rf v 3 (by omega) W) (cx (uI hV.vn u w).2.2.2.1 (cq (λW=>ix W) (cx (lj harr) ?_)));obtain⟨b5,o5,i5,A5⟩:=nj hEV.sta.bids hlt;rw[<-hxx]at A5;refine cq (λW=>dv sb 7 (by omega) W) (cx (dC hEV.blk Q 7 (by omega) (by omega)) (cq (λW=>i5 W _) ?_));refine cq (v:=.pointer (some ⟨b5,o5+1,none⟩)) (λW=>by simp[go_sem,cC]) (cx (gM (o:=d.2) (Jn A5)) ?_);refine IE λv8 w9 o9 m9 n9=>?_;have harr9:=m9.hpk harr id;refine⟨lj harr9,(uI (m9.hpk hV.vn id) u w).2.2.2.1,(uI (m9.hpk hV.vn id) u w).2.2.2.1,?_⟩
  have hoj:kR w9 (dS j) (D d.1):=by
   have:=(A.own j z).mod m9 λ_ _ h=>h;simpa only[hcj]using this
  have h50:(D d.1).length<50:=by
   have:=hnb;omega
  refine wB hoj o9.rd (by simp;omega) λq H o11 m11 n11=>?_;have hWV:=A.md.size;have hW9:=m9.size;have hnj:∀y,co (dS j) y->W.heap.size<=y:=λy m=>r.nw j y z m;have ltW:∀{b:Nat} {o:Obj},hp W b=some o->¬co (dS j) b:=λhb' m=>by have:=cn hb';have:=hnj _ m;omega
  have hbDlt:bD<W.heap.size:=by
   obtain⟨rest0,T0,e0⟩:=h0.arr hn;exact cn e0
  have hnbD:¬co (dS j) bD:=λm=>by have:=hnj _ m;omega
  have N:=m11.hpk harr9 hnbD;have hvn11:Ap H v c l sB sD (eZ s).next:=m11.hpk (m9.hpk hV.vn id) (ltW h.vn);refine⟨(uI hvn11 u w).2.2.2.1,cq (λW=>ix W) ?_⟩;obtain⟨e1,e2,hs',-⟩:=o11.isSl
  have hst:(Instr.storeAt gU (.pointer (some ⟨bD,j,none⟩)) q).run Tryz.prog H=.ok () (H.setCell ⟨bD,j,none⟩ q):=by
   rw[hdSj]at C;rw[hs'];simp[go_sem,N,C]
  refine dI hst ?_;have m12:cl (λy=>y=bD) H (H.setCell ⟨bD,j,none⟩ q):=(cl.refl (λy=>y=bD) H).setCell (.inl rfl) _ _
  have O:hp (H.setCell ⟨bD,j,none⟩ q) bD=some (.cells ((List.range P.length).map (dg dS j q)++rest).toArray T (0,0)):=by
   have:(((List.range P.length).map dS++rest).set j q)=(List.range P.length).map (dg dS j q)++rest:=by
    rw[List.set_append_left _ _ (by simp;omega),HX z]
   rw[<-this];simp[go_sem,N]
  generalize H.setCell ⟨bD,j,none⟩ q=w12 at m12 O|-;refine ck (v:=.int .i64 ((k+1:Nat):Int)) (w' :=w12) (by simp[go_sem];rw[cV (by omega) (by omega)]) ?_;have s'ge:∀y,co q y->W.heap.size<=y:=λy m=>(n11 y m).elim (hnj y) λh=>by omega
  have hu:∀i,i<P.length->i≠j->fV D d.1 (D d.1++[d.2]) (jW s.cts i)=D (jW s.cts i):=λi I p=>eB _ _ _ λe=>p (BW hr (by omega) hjc (by rw[e,hcj]));have huj:fV D d.1 (D d.1++[d.2]) (jW s.cts j)=D d.1++[d.2]:=by rw[hcj];exact dJ _ _ _
  refine hKN _ _ ⟨k+1,x,y,fV D d.1 (D d.1++[d.2]),dg dS j q,by omega,rfl,g,λn=>?_,⟨(A.md.on (m9.trans (cl.refl _ _)) λ_ h=>h.elim).on m11 (λy m=>.inr (hnj y m)) |>.trans m12,λi I=>?_,λi y I m=>?_,λi i' y I hi' m L=>?_,λ_=>⟨rest,T,O⟩⟩⟩ (by show s.bids.length - (((k+1:Nat):Int)).toNat<s.bids.length - ((k:Int)).toNat;omega)
  ·by_cases hnx:n=d.1
   ·subst hnx;rw[dJ,List.length_append];simp;omega
   ·rw[eB _ _ _ hnx];exact U n
  ·by_cases p:i=j
   ·subst p;show kR w12 (dg dS i q i) (fV D d.1 (D d.1++[d.2]) (jW s.cts i));rw[huj,show dg dS i q i=q from if_pos rfl];exact o11.mod m12 λy m e=>by have:=s'ge y m;omega
   ·show kR w12 (dg dS j q i) (fV D d.1 (D d.1++[d.2]) (jW s.cts i));rw[hu i I p,show dg dS j q i=dS i from if_neg p];exact(((A.own i I).mod m9 λ_ _ h=>h).mod m11 λy m hc=>p (r.dj i j y I z m hc)).mod m12 λy m e=>by have:=r.nw i y I m;omega
  ·by_cases p:i=j
   ·subst p;rw[show dg dS i q i=q from if_pos rfl]at m;exact s'ge y m
   ·rw[show dg dS j q i=dS i from if_neg p]at m;exact r.nw i y I m
  ·have lt9:∀i,i<P.length->∀y,co (dS i) y->y<w9.heap.size:=λi I y m=>((A.own i I).mod m9 λ_ _ h=>h).lt m;by_cases p:i=j
   ·by_cases E:i' =j
    ·rw[p,E]
    ·subst p;rw[show dg dS i q i=q from if_pos rfl]at m;rw[show dg dS i q i' =dS i' from if_neg E]at L;rcases n11 y m with h' |h'
     ·exact r.dj i i' y I hi' h' L
     ·have:=lt9 i' hi' y L;omega
   ·rw[show dg dS j q i=dS i from if_neg p]at m;by_cases E:i' =j
    ·subst E;rw[show dg dS i' q i' =q from if_pos rfl]at L;rcases n11 y L with h' |h'
     ·exact r.dj i i' y I hi' m h'
     ·have:=lt9 i I y m;omega
    ·rw[show dg dS j q i' =dS i' from if_neg E]at L;exact r.dj i i' y I hi' m L
 ·obtain rfl:k=s.bids.length:=by omega
  refine ck (v:=.bool false) (by simp[go_sem]<;>first|exact⟨rfl,rfl⟩|exact rfl) ?_;rw[ci,if_neg Bool.false_ne_true];rw[List.drop_length]at g;have haddB:lp s.bids (λ_=>[])=some D:=g.symm;have md:=(cl.refl (λ_=>False) X).drew;have J:=hX.md0 md;have M:=hEX.md0 md;have MD:=MX.trans md;generalize X.drew=V at md J M MD|-;refine cx (sq M.blk) ?_;refine CG J (by show s.cts.length<=16;omega) (λi b _=>hBl _ b) (λi _=>U _) λw8 tt ht m8=>?_;have hE8:=M.md0 m8;refine⟨sq hE8.blk,?_⟩
  have et:Re (eZ s) (λi b=>Bn (jW s.cts i) b) (λi=>D (jW s.cts i))=⟨s.day,s.next,s.fund,s.accts,s.cts,s.poss,ou s Bn,kr s D⟩:=by
   unfold Re;have e1:=FV (s:=s) (B:=Bn);have e2:=GB (s:=s) (D:=D);show iq.mk s.day s.next s.fund s.accts s.cts s.poss (tP s.cts _ s.cts.length) (uO s.cts _ s.cts.length)=_;rw[e1,e2]
  rw[et]at ht;have hn16:(jP s).length<=16:=by unfold jP;rw[List.length_map];exact hc16
  have hol:(ou s Bn).length<=3200:=by
   have:=gV (l:=jP s) (k:=200) (f:=λn=>(ie true (Bn n true)++ie false (Bn n false)).map λo=>(n,o)) λn _=>by
    rw[List.length_map,List.length_append,iN,iN];have h1:=hBl n true;have h2:=hBl n false;omega
   unfold ou;omega
  have hbl' :(kr s D).length<=800:=by
   have:=gV (l:=jP s) (k:=50) (f:=λn=>(D n).map λo=>(n,o)) λn _=>by rw[List.length_map];exact U n
   unfold kr;omega
  have hled:=hd.from0.led.len;refine qP (s:=⟨s.day,s.next,s.fund,s.accts,s.cts,s.poss,ou s Bn,kr s D⟩) (t:=s) ht hE8.sta ⟨by show s.accts.length<=_;omega,by show s.cts.length<=_;omega,hpo,by show(ou s Bn).length<=_;omega,by show(kr s D).length<=_;omega⟩ λb w9 m9 r=>?_;have M9:=(MD.trans m8).trans m9;refine cq (v:=.bool (!b)) (λW=>by simp[go_sem]) ?_;cases b with
  |true=>
   rw[show(!true)=false from rfl,ci,if_neg Bool.false_ne_true];have e:=sN.1 (r.1 rfl);exact hO.1 ⟨Bn,D,hd.from0,hd.len,hd.ords,hd.bids,hd.nums,hd.addO,hcr,haddB,e.2.2.2.2.2.2.1,e.2.2.2.2.2.2.2⟩ _ _ M9
  |false=>
   rw[show(!false)=true from rfl,ci,if_pos rfl];refine hO.2 (λhDok=>?_) _ M9;obtain⟨B',D',Z⟩:=hDok;have h1:=Z.addO;rw[hd.addO]at h1;have h2:=Z.addB;rw[haddB]at h2;cases h1;cases h2;have:=r.2 (sN.2 ⟨rfl,rfl,rfl,rfl,rfl,rfl,Z.eqO,Z.eqB⟩);cases this
end
section
variable{w0 W X:World}{K:cm}{s:iq}{sb:Nat}{ss:Nat->Value}{v c l:Nat}{sB sD:Value}{F F' G:Nat->Prop}{P:List Nat}{Bn:Int->Bk}{bD:Nat}
def Rz(a:0<P.length->∃rest T,hp W bD=some (.cells (((List.range P.length).map λ_=>Value.slice none 0 0)++rest).toArray T (0,0))):FO W W bD P.length (λ_=>[]) (λ_=>.slice none 0 0):=
 ⟨cl.refl _ _,λi d=>dW.nil _ _ _,λi y d b=>(by cases b),λi j y d e b=>(by cases b),a⟩
set_option maxRecDepth 10000 in
set_option maxHeartbeats 4000000 in
def I5(hO:K6 s w0 K)(hd:Mv s Bn)(r:∀n b,(Bn n b).length<=100)(hpo:s.poss.length<=100000)(hs:CK w0 bD v sb F F' G sB sD ss P)
  (hE:rg s sb ss W)(h:oN W v c l sB sD F F' (eZ s) P (λi b=>Bn (jW s.cts i) b) (λ_=>[]) (λ_=>.slice none 0 0) G)(A:0<P.length->∃rest T,hp W bD=some (.cells (((List.range P.length).map λ_=>Value.slice none 0 0)++rest).toArray T (0,0)))
  (m0:cl (λ_=>False) w0 W){x y:Value}:
  cS (S:=Value×Value×Value×Unit) (EH (pt v) K (pt sb) (pt c)) (x,y,.int .i64 0,()) W:=by
 have g:=gH h.bks;have m:=gH h.bds;have hlc:P.length=s.cts.length:=h.len;have hc16:=hd.from0.len
 have Z:∀W,(builtin .len #[163] 3 #[false] #[sB]).run Tryz.prog W=.ok (.value (.int .i64 (P.length:Int))) W:=λW=>by
  obtain⟨x1,x2,ex⟩:=h.bks.isSl;rw[ex];simp[go_sem]
 refine dp (λst X=>∃(i:Nat) (x y:Value),i<=P.length/\st=(x,y,.int .i64 i,())/\(∀j,j<i->xI (Bn (jW s.cts j)))/\cl (λ_=>False) W X)
  (λst _=>match st.2.2.1 with| .int _ k=>P.length - k.toNat|_=>0) ⟨0,x,y,by omega,rfl,λj R=>absurd R (Nat.not_lt_zero _),cl.refl _ _⟩ ?_
 rintro _ X ⟨i,x,y,hi,rfl,H,J⟩ KN hKN;have o:=h.md0 J;unfold EH;intro _;simp only[cw];refine ck (rf v 2 (by omega) _) (ck (uI o.vn g m).2.2.1 (fi (Z _) ?_));by_cases d:i<P.length
 ·have M:(i:Int)<(P.length:Int):=by omega
  refine ck (v:=.bool true) (by simp[go_sem,M]<;>first|exact⟨rfl,rfl⟩|exact rfl) ?_;rw[ci,if_pos rfl];have hBt:=r (jW s.cts i) true;have hBf:=r (jW s.cts i) false;obtain⟨b1,o1,i1,l1⟩:=o.book d;refine ck (rf v 2 (by omega) _) (ck (uI o.vn g m).2.2.1 (ck (i1 X) (ck l1 ?_)));rw[cw];refine ck (CA P[i] 0 (by omega) _) (ck (CH (o.bk i d)).1 ?_);refine zj (o.sd i d true) (by omega) λU m3=>?_;obtain⟨w,z⟩:∃w,w=ij true (Bn (jW s.cts i) true) (Bn (jW s.cts i) true).length:=⟨_,rfl⟩
  rw[<-z];refine ck (v:=ig ((w.map λa=>(Bn (jW s.cts i) true).getD a fI).getD fI)) (w' :=U) (by simp[go_sem]) (ck (v:=.bool w.isSome) (w' :=U) (by simp[go_sem]) ?_);obtain⟨w4,e4,b4,m4⟩:=iJ U;obtain⟨p,hp0⟩:∃p,p=U.heap.size:=⟨_,rfl⟩
  rw[<-hp0]at e4 b4;refine ck e4 ?_;obtain⟨w5,e5,b5,m5⟩:=gm (o' :=(w.map λa=>(Bn (jW s.cts i) true).getD a fI).getD fI) b4;refine dI e5 ?_;have M5:cl (λ_=>False) X w5:=m3.trans (m4.on m5 λy hy=>.inr (by omega));have V:=o.md0 M5;obtain⟨b6,o6,i6,l6⟩:=V.book d;refine ck (rf v 2 (by omega) _) (ck (uI V.vn g m).2.2.1 (ck (i6 w5) (ck l6 ?_)));rw[cw];refine ck (CA P[i] 1 (by omega) _) (ck (CH (V.bk i d)).2 ?_);refine zj (V.sd i d false) (by omega) λQ m7=>?_;obtain⟨u,L⟩:∃u,u=ij false (Bn (jW s.cts i) false) (Bn (jW s.cts i) false).length:=⟨_,rfl⟩
  rw[<-L];refine ck (v:=ig ((u.map λa=>(Bn (jW s.cts i) false).getD a fI).getD fI)) (w' :=Q) (by simp[go_sem]) (ck (v:=.bool u.isSome) (w' :=Q) (by simp[go_sem]) ?_);obtain⟨w8,e8,b8,m8⟩:=iJ Q;obtain⟨q,hq0⟩:∃q,q=Q.heap.size:=⟨_,rfl⟩
  rw[<-hq0]at e8 b8;refine ck e8 ?_;obtain⟨t,e9,b9,m9⟩:=gm (o' :=(u.map λa=>(Bn (jW s.cts i) false).getD a fI).getD fI) b8;refine dI e9 ?_;have hp5:=cn b5;have hm7:=m7.size;have D:cl (λ_=>False) w5 t:=m7.trans (m8.on m9 λy hy=>.inr (by omega));have b59:=D.hpk b5 id;have M9:=(J.trans M5).trans D;have I:=GR (B:=Bn (jW s.cts i));rw[<-z,<-L]at I;refine cB.at (λst W' =>∃Y:Bool,st=(.bool Y,())/\t=W' /\(Y=true↔¬xI (Bn (jW s.cts i)))) ?_ ?_
  ·rw[I];cases w with
   |none=>
    rw[ci,if_neg (by simp)];exact⟨false,rfl,rfl,by simp⟩
   |some a=>
    rw[ci,if_pos (by simp)];cases u with
    |none=>
     rw[ci,if_neg (by simp)];exact⟨false,rfl,rfl,by simp⟩
    |some b=>
     rw[ci,if_pos (by simp)];refine ck (nN 3 (by omega) p _) (ck (uq (show CS t p _ from b59)).2.2.1 (ck (nN 3 (by omega) q _) (ck (uq (show CS t q _ from b9)).2.2.1 ?_)));simp only[Option.map_some,Option.getD_some];generalize((Bn (jW s.cts i) true).getD a fI).price=pa;generalize((Bn (jW s.cts i) false).getD b fI).price=pb;refine ck (v:=.bool (decide (pb<=pa))) (w' :=t) (by simp[go_sem]) ?_;exact⟨_,rfl,rfl,by rw[decide_eq_true_eq];omega⟩
  rintro _ W' ⟨Y,rfl,rfl,C⟩;unfold mO;intro _;cases Y with
  |true=>
   rw[ci,if_pos rfl];refine hO.2 (λN=>?_) _ (m0.trans M9);obtain⟨B',D',E⟩:=N;have h1:=E.addO;rw[hd.addO]at h1;cases h1;refine C.1 rfl (E.cross _ ?_);have O:i<s.cts.length:=by omega
   rw[pp O];exact List.mem_map_of_mem (f:=λk:Ct=>k.spec.num) (List.getElem_mem O)
  |false=>
   rw[ci,if_neg Bool.false_ne_true];refine ck (v:=.int .i64 ((i+1:Nat):Int)) (w' :=t) (by simp[go_sem];rw[cV (by omega) (by omega)]) ?_;refine hKN _ _ ⟨i+1,x,y,by omega,rfl,λj R=>?_,M9⟩ (by show P.length - (((i+1:Nat):Int)).toNat<P.length - ((i:Int)).toNat;omega);by_cases hji:j=i
   ·subst hji;apply Classical.byContradiction;intro hc;cases C.2 hc
   ·exact H j (by omega)
 ·obtain rfl:i=P.length:=by omega
  refine ck (v:=.bool false) (by simp[go_sem]<;>first|exact⟨rfl,rfl⟩|exact rfl) ?_;rw[ci,if_neg Bool.false_ne_true];refine K1 hO hd (λn hn=>?_) r hpo hs (hE.md0 J) o (Rz λhn=>by obtain⟨rest,T,e⟩:=A hn;exact⟨rest,T,J.hpk e id⟩) (m0.trans J);obtain⟨k,hk,rfl⟩:=List.mem_map.1 hn;obtain⟨j,R,rfl⟩:=List.getElem_of_mem hk;rw[<-pp R];exact H j (by omega)
structure Mi(v sb:Nat)(F F' G:Nat->Prop)(sB sD:Value)(ss:Nat->Value)(P:List Nat)(bD:Nat)(w0:World):Prop where
 at_:∀i (h:i<P.length) d,oR P[i] d≠v/\oR P[i] d≠sb/\¬F (oR P[i] d)/\¬F' (oR P[i] d)/\¬G (oR P[i] d)/\¬eM sB (oR P[i] d)/\¬eM sD (oR P[i] d)/\oR P[i] d≠bD/\w0.heap.size<=oR P[i] d/\(∀k,3<=k->k<=7->¬eM (ss k) (oR P[i] d))/\(∀j (h' :j<P.length),oR P[i] d≠P[j])/\∀j (h' :j<P.length) d',oR P[i] d=oR P[j] d' ->i=j/\d=d'
def Af(x:Int×Od)(l:List (Int×Od))(B:Int->Bk):kG (x::l) B=if(B x.1 x.2.buy).any (λy=>decide (y.num=x.2.num))=true\/100<=(B x.1 x.2.buy).length then none else kG l (fV B x.1 ((B x.1).set x.2.buy (B x.1 x.2.buy++[x.2]))):=rfl
structure Q1(s:iq):Prop where
 from0:jV s
 len:s.ords.length<=3200/\s.bids.length<=800
 ords:∀x∈s.ords,(eZ s).stnd true [] x=true
 bids:∀x∈s.bids,(eZ s).stnd false [] x=true
 nums:((s.ords++s.bids).map (·.2.num)).Nodup
set_option maxRecDepth 10000 in
set_option maxHeartbeats 4000000 in
def K0(hO:K6 s w0 K)(H:Q1 s)(hpo:s.poss.length<=100000)(hs:CK w0 bD v sb F F' G sB sD ss P)(hS:Mi v sb F F' G sB sD ss P bD w0)(hG:∀y,W.heap.size<=y->G y)
  (hE:rg s sb ss W)(h:oN W v c l sB sD F F' (eZ s) P (λ_ _=>[]) (λ_=>[]) (λ_=>.slice none 0 0) G)(U:0<P.length->∃rest T,hp W bD=some (.cells (((List.range P.length).map λ_=>Value.slice none 0 0)++rest).toArray T (0,0)))
  (m0:cl (λ_=>False) w0 W){x y:Value}:
  cS (S:=Value×Value×Value×Unit) (DY (pt sb) (pt v) (pt c) K) (x,y,.int .i64 0,()) W:=by
 have w:=hE.sta.sl;have hr:=(iE H.from0.cts).2;have hlc:P.length=s.cts.length:=h.len;have hc16:=H.from0.len;have L:=gH h.bks;have M:=gH h.bds;have hol:=H.len.1
 have hln:∀W,(builtin .len #[47] 3 #[false] #[ss 6]).run Tryz.prog W=.ok (.value (.int .i64 (s.ords.length:Int))) W:=λW=>by
  obtain⟨a,c,e⟩:=(hE.sta.ords).isSl;rw[e];simp[go_sem]
 refine dp (λst X=>∃(k:Nat) (x y:Value) (B:Int->Bk),k<=s.ords.length/\st=(x,y,.int .i64 k,())/\kG (s.ords.drop k) B=kG s.ords (λ_=>Bk.empty)/\(∀n b,(B n b).length<=100)/\oN X v c l sB sD F F' (eZ s) P (λi b=>B (jW s.cts i) b) (λ_=>[]) (λ_=>.slice none 0 0) G/\rg s sb ss X/\(0<P.length->∃rest T,hp X bD=some (.cells (((List.range P.length).map λ_=>Value.slice none 0 0)++rest).toArray T (0,0)))/\cl (λ_=>False) w0 X/\W.heap.size<=X.heap.size)
  (λst _=>match st.2.2.1 with| .int _ k=>s.ords.length - k.toNat|_=>0) ⟨0,x,y,λ_=>Bk.empty,by omega,rfl,rfl,λ_ _=>Nat.zero_le _,h,hE,U,m0,Nat.le_refl _⟩ ?_
 rintro _ X ⟨k,x,y,B,hk,rfl,g,hB,hX,t,haX,MX,hzX⟩ KN hKN;unfold DY;intro _;refine ck (dv sb 6 (by omega) _) (ck (dC t.blk w 6 (by omega) (by omega)) (fi (hln _) ?_));by_cases D:k<s.ords.length
 ·have hlt' :(k:Int)<(s.ords.length:Int):=by omega
  refine ck (v:=.bool true) (by simp[go_sem,hlt']<;>first|exact⟨rfl,rfl⟩|exact rfl) ?_;rw[ci,if_pos rfl];obtain⟨f,E⟩:∃f,f=s.ords[k]:=⟨_,rfl⟩
  have I:f∈s.ords:=E▸List.getElem_mem D;have V:=H.ords f I;have hxf:=(t.fit.ords f I).2;obtain⟨j,hj⟩:=xS V;have hj' :BM s.cts f.1=some j:=hj;obtain⟨hjc,hjn⟩:=y8 hj';have C:j<P.length:=by omega
  have N:jW s.cts j=f.1:=by rw[pp hjc];exact hjn
  have hpI:kP s.cts f.1=(j:Int):=by unfold kP;rw[hj']
  obtain⟨b1,o1,i1,A1⟩:=nj t.sta.ords D;rw[<-E]at A1;refine ck (dv sb 6 (by omega) _) (ck (dC t.blk w 6 (by omega) (by omega)) (ck (i1 X _) ?_));refine ck (v:=.pointer (some ⟨b1,o1+1,none⟩)) (w' :=X) (by simp[go_sem,cC]) (ck (gM (o:=f.2) (Jn A1)) ?_);obtain⟨w2,e2,b2,m2⟩:=iJ X;obtain⟨p,hp0⟩:∃p,p=X.heap.size:=⟨_,rfl⟩
  rw[<-hp0]at e2 b2;refine ck e2 ?_;obtain⟨w3,e3,b3,m3⟩:=gm (o' :=f.2) b2;refine dI e3 ?_;simp only[cw];have M3:cl (λ_=>False) X w3:=m2.on m3 λy m=>.inr (by omega);have md:=(cl.refl (λ_=>False) w3).drew;have O:=M3.trans md;have b4:=md.hpk b3 id;generalize w3.drew=w4 at md O b4|-;have q:=hX.md0 O;have A:=t.md0 O;refine cq (λW=>rf v 2 (by omega) W) (cx (uI q.vn L M).2.2.1 ?_);obtain⟨b5,o5,i5,A5⟩:=nj A.sta.ords D;rw[<-E]at A5;refine cq (λW=>dv sb 6 (by omega) W) (cx (dC A.blk w 6 (by omega) (by omega)) (cq (λW=>i5 W _) ?_));refine cq (v:=.pointer (some ⟨b5,o5,none⟩)) (λW=>by simp[go_sem,cC]) (cx (Eh A5) ?_);refine ow q.cal (by show s.cts.length<=_;omega) ?_;rw[show kP (eZ s).cal.l f.1=(j:Int)from hpI];refine⟨(uI q.vn L M).2.2.1,?_⟩;obtain⟨b6,o6,i6,l6⟩:=q.book C;refine cq (λW=>i6 W) (cx l6 ?_);rw[cw];refine ck (CA P[j] 1 (by omega) _) (ck (CH (q.bk j C)).2 ?_);refine cB.at (λst W' =>st=(pt (oR P[j] f.2.buy),())/\w4=W') ?_ ?_
  ·refine ck (nN 2 (by omega) p _) (ck (v:=.bool f.2.buy) (w' :=w4) (by simp only[da]at b4;simp[go_sem,b4]) ?_);cases hbu:f.2.buy with
   |true=>
    rw[ci,if_pos rfl,cw];refine ck (CA P[j] 0 (by omega) _) (ck (CH (q.bk j C)).1 ?_);exact⟨rfl,rfl⟩
   |false=>
    rw[ci,if_neg Bool.false_ne_true];exact⟨rfl,rfl⟩
  rintro _ W' ⟨rfl,rfl⟩;unfold Kk;intro _;refine ck (gM (o:=f.2) (At.all b4)) ?_;obtain⟨q1,q2,q3,q4,q5,q6,q7,q8,q9,q10,q11,q12⟩:=hS.at_ j C f.2.buy;have hz4:=O.size;have Y:=q.sd j C f.2.buy;simp only[N]at Y;have hBx:=hB f.1 f.2.buy;rw[List.drop_eq_getElem_cons D,<-E,Af]at g;refine HP Y hxf (kZ V).may (by omega) (λb R e=>q5 (e▸R)) (λb R=>hG b (by omega)) (λhbad e he w5 r=>?_) λu w5 hsd5 r=>?_
  ·refine ck (v:=.bool true) (w' :=w5) (by simp[go_sem,he]) ?_;rw[ci,if_pos rfl];rw[if_pos hbad]at g;refine hO.2 (λhDok=>?_) _ ((MX.trans O).trans r);obtain⟨B',D',hdk⟩:=hDok;rw[hdk.addO]at g;cases g
  ·rw[if_neg u]at g;refine ck (v:=.bool false) (w' :=w5) (by simp[go_sem]) ?_;rw[ci,if_neg Bool.false_ne_true];refine ck (v:=.int .i64 ((k+1:Nat):Int)) (w' :=w5) (by simp[go_sem];rw[cV (by omega) (by omega)]) ?_
   have hl100:(B f.1 f.2.buy).length<100:=by
    apply Classical.byContradiction;intro hc;exact u (.inr (by omega))
   have hB' :∀i d,fV B f.1 ((B f.1).set f.2.buy (B f.1 f.2.buy++[f.2])) (jW s.cts i) d=if jW s.cts i=f.1/\d=f.2.buy then B f.1 f.2.buy++[f.2]else B (jW s.cts i) d:=λi d=>by
    by_cases h1:jW s.cts i=f.1
    ·rw[h1,dJ];by_cases J:d=f.2.buy
     ·rw[if_pos ⟨rfl,J⟩,J];exact kJ _ _ _
     ·rw[if_neg λh=>J h.2];exact jG _ _ J
    ·rw[eB _ _ _ h1,if_neg λh=>h1 h.1]
   have hm5:=r.size;refine hKN _ _ ⟨k+1,x,y,fV B f.1 ((B f.1).set f.2.buy (B f.1 f.2.buy++[f.2])),by omega,rfl,g,λn b=>?_,?_,?_,λhn=>?_,(MX.trans O).on r λy m=>.inr (by rw[m];exact q9),by omega⟩ (by show s.ords.length - (((k+1:Nat):Int)).toNat<s.ords.length - ((k:Int)).toNat;omega)
   ·by_cases Z:n=f.1
    ·subst Z;rw[dJ];by_cases R:b=f.2.buy
     ·rw[R,kJ,List.length_append];simp;omega
     ·rw[jG _ _ R];exact hB _ b
    ·rw[eB _ _ _ Z];exact hB n b
   ·refine⟨r.hpk q.vn (λe=>q1 e.symm),q.cal.mod r λy m e=>q3 (e▸m),q.led.mod r λy m e=>q4 (e▸m),q.len,q.bks.mod r λy m e=>q6 (e▸m),q.bds.mod r λy m e=>q7 (e▸m),λi Q=>r.hpk (q.bk i Q) λe=>q11 i Q e.symm,λi Q d=>?_,λi Q=>(q.bd i Q).mod r λy m=>by obtain⟨a,n,c,e,h1,J⟩:=m;cases e⟩;simp only[hB'];by_cases z:jW s.cts i=f.1/\d=f.2.buy
    ·rw[if_pos z];have hij:i=j:=BW hr (by omega) hjc (by rw[z.1,N]);subst hij;rw[z.2];exact hsd5
    ·rw[if_neg z];refine(q.sd i Q d).mod r (λe=>?_) λy m e=>q5 (e▸m);obtain⟨e1,e2⟩:=q12 i Q d e.symm;exact z ⟨by rw[<-e1,N],e2.symm⟩
   ·exact⟨r.hpk A.blk (λe=>q2 e.symm),λi h1 J=>(A.sta i h1 J).mod r λy m e=>q10 i h1 J (e▸m),A.fit⟩
   ·obtain⟨rest,T,e⟩:=haX hn;exact⟨rest,T,r.hpk (O.hpk e id) λe=>q8 e.symm⟩
 ·obtain rfl:k=s.ords.length:=by omega
  refine ck (v:=.bool false) (by simp[go_sem]<;>first|exact⟨rfl,rfl⟩|exact rfl) ?_;rw[ci,if_neg Bool.false_ne_true];rw[List.drop_length]at g;exact I5 hO ⟨H.from0,H.len,H.ords,H.bids,H.nums,g.symm⟩ hB hpo hs t hX haX MX
end
section
variable{w0 w w1:World}{s v:Value}{l m:List UInt8}{K:cm}{x:Int}{p:Nat}{o:Obj}
def tQ(r:eT w0 cF w s l)(b:hp w p=some o)(g:¬co s p)(j:0<=x/\x<18446744073709551616)(t:l.length<=900000000)(h:∀s' c,eT w0 cF c s' (l++cE x)->hp c p=some o->¬co s' p->K s' c):
  Ca Tryz.prog 91 #[.int .u64 x] w λi f=>rx Tryz.prog (cv #[54,54] 54 [s,i]) f K:=by
 obtain⟨n,rfl⟩:=Int.eq_ofNat_of_zero_le j.1;have a:n<18446744073709551616:=by omega
 refine qz n a λq k e d u=>?_;have:=ii a;exact pV (r.dr d) (d.hpk b id) g e (by omega) h
def yp(r:eT w0 cF w s l)(b:hp w p=some o)(h:¬co s p)(d:eQ x)(k:l.length<=900000000)(f:∀s' a,eT w0 cF a s' (l++dG x)->hp a p=some o->¬co s' p->K s' a):
  Ca Tryz.prog 92 #[.int .i64 x] w λg e=>rx Tryz.prog (cv #[54,54] 54 [s,g]) e K:=by
 refine yH d λj i c=>?_;have:=fS d;exact pV (r.dr c.m0) (hpW c b) h c.own (by omega) f
def CD{f:Bool}(r:eT w0 cF w s l)(b:hp w p=some o)(g:¬co s p)(u:l.length<=900000000)(e:∀s' c,eT w0 cF c s' (l++eK f)->hp c p=some o->¬co s' p->K s' c):
  Ca Tryz.prog 93 #[.bool f] w λi n=>rx Tryz.prog (cv #[54,54] 54 [s,i]) n K:=by
 have j:=cn b;have t:=eT.fre (w0:=w) (w:=w) (s:=cF) (l:=[]) (dW.nil _ _ _) (cl.refl _ _) λb h=>(KT b h).elim;apply OI;rw[ci];cases f with
 |true=>
  rw[if_pos rfl];refine wM [1] rT (cI zx) rfl rfl (by omega) λv k d a q=>?_;exact pV (m:=[1]) (r.dr a) (a.hpk b id) g d (by simp;omega) e
 |false=>
  rw[if_neg Bool.false_ne_true];refine wM [0] rT (cI zx) rfl rfl (by omega) λv k d a q=>?_;exact pV (m:=[0]) (r.dr a) (a.hpk b id) g d (by simp;omega) e
def BL{w:World}{b off:Nat}{k:Ct}(h:At w b off (dN k)):(Instr.loadAt 106 (.pointer (some ⟨b,off+25,none⟩))).run Tryz.prog w=.ok (.int .u8 k.st) w:=by
 obtain⟨C,e,f,h1,a⟩:=h.get;have d:(dN k)[25]? =some (.int .u8 k.st):=by unfold dN;rw[List.getElem?_append_right (by rw[cL];omega),cL];rfl
 have c:=a 25 _ d;simp[go_sem,h1,c]
def IW{w:World}{b off:Nat}{k:Ct}(h:At w b off (dN k)):(Instr.loadAt 2 (.pointer (some ⟨b,off+26,none⟩))).run Tryz.prog w=.ok (.int .i64 k.price) w:=by
 obtain⟨C,e,f,h1,a⟩:=h.get;have d:(dN k)[26]? =some (.int .i64 k.price):=by unfold dN;rw[List.getElem?_append_right (by rw[cL];omega),cL];rfl
 have c:=a 26 _ d;simp[go_sem,h1,c]
end
section
variable{w w1:World}{sb:Nat}{ss:Nat->Value}{s:iq}{s' :Value}{l:List UInt8}{K:cm}
set_option maxRecDepth 10000 in
def KQ(G:cR w1 sb s.day s.next s.fund ss)(d:eS w1 ss s)(D:s.Fit)(hn:s.accts.length<=3200/\s.cts.length<=3200/\s.poss.length<=3200/\s.ords.length<=3200/\s.bids.length<=3200)(hm:∀k∈s.cts,k.spec.may=true)(I:eT w1 cF w s' l)(Y:l.length<=50000000)
  (M:∀j u,eT w1 cF u j (l++s.bids.flatMap jl)->K j u):cS (S:=Value×Value×Unit) (Hk (.pointer (some ⟨sb,0,none⟩)) K) (s',.int .i64 0,()) w:=by
 have a:=d.sl;obtain⟨va,vc,O⟩:=(d.bids).isSl;have Q:∀W,(builtin .len #[47] 3 #[false] #[ss 7]).run Tryz.prog W=.ok (.value (.int .i64 (s.bids.length:Int))) W:=λW=>by rw[O];simp[go_sem]
 have A:∀k,((s.bids.take k).flatMap jl).length<=960000:=λk=>by
  have h1:=fd (m:=300) (g:=jl) (L:=s.bids.take k) λx t=>nu (D.bids x (List.mem_of_mem_take t));have R:(s.bids.take k).length<=3200:=by rw[List.length_take];omega
  omega
 have bk:∀{W:World} {s' :Value} {P:List UInt8},eT w1 cF W s' P->cR W sb s.day s.next s.fund ss:=λr=>hpW r G
 refine dp (λst W=>∃(k:Nat) (s' :Value),k<=s.bids.length/\st=(s',.int .i64 k,())/\eT w1 cF W s' (l++(s.bids.take k).flatMap jl))
  (λst _=>match st.2.1 with| .int _ k=>s.bids.length - k.toNat|_=>0) ⟨0,s',by omega,rfl,by rw[List.take_zero,List.flatMap_nil,List.append_nil];exact I⟩ ?_
 rintro _ W ⟨k,V,U,rfl,e⟩ E z;unfold Hk;intro _;refine ck (dv sb 7 (by omega) _) (ck (i0 (bk e) a).2 (fi (Q _) ?_));have y:Rd W 6 (ss 7) s.bids.length (s.bids.flatMap du):=(d.md0 e.m0).bids;have B:=A k;by_cases c:k<s.bids.length
 ·have h:(k:Int)<(s.bids.length:Int):=by omega
  refine ck (v:=.bool true) (by simp[go_sem,h]<;>first|exact⟨rfl,rfl⟩|exact rfl) ?_;rw[ci,if_pos rfl];have b:=List.getElem_mem c;have f:=cQ c;obtain⟨x,t⟩:∃x,x=s.bids[k]:=⟨_,rfl⟩
  rw[<-t]at b f;have i:=D.bids x b
  have go:∀n q,eT w1 cF q n (l++(s.bids.take k).flatMap jl++jl x)->rv Tryz.prog (tf .add 3 true (.int .i64 (k:Int)) (.int .i64 1)) q λv w=>E (n,v,()) w:=λn q H=>by
   refine ck (v:=.int .i64 ((k+1:Nat):Int)) (w' :=q) (by simp[go_sem];rw[cV (by omega) (by omega)]) ?_;refine z _ _ ⟨k+1,n,by omega,rfl,?_⟩ (by show s.bids.length - (((k+1:Nat):Int)).toNat<s.bids.length - ((k:Int)).toNat;omega);rw[f,List.flatMap_append,List.flatMap_cons,List.flatMap_nil,List.append_nil,<-List.append_assoc];exact H
  have F:(l++(s.bids.take k).flatMap jl).length<=100000000:=by rw[List.length_append];omega
  refine ck (dv sb 7 (by omega) _) (ck (i0 (bk e) a).2 ?_);obtain⟨X,Z,J,N⟩:=nj y c;refine ck (J W _) (ck (jy N) ?_);rw[<-t];refine vJ i λs3 T C=>?_;have:=nu i;exact mI (e.dr C.m0) C.own (by omega) go
 ·obtain rfl:k=s.bids.length:=by omega
  refine ck (v:=.bool false) (by simp[go_sem]<;>first|exact⟨rfl,rfl⟩|exact rfl) ?_;rw[ci,if_neg Bool.false_ne_true];rw[List.take_length]at e B;exact M _ _ e
set_option maxRecDepth 10000 in
def LI(I:cR w1 sb s.day s.next s.fund ss)(b:eS w1 ss s)(G:s.Fit)(V:s.accts.length<=3200/\s.cts.length<=3200/\s.poss.length<=3200/\s.ords.length<=3200/\s.bids.length<=3200)(X:∀k∈s.cts,k.spec.may=true)(Q:eT w1 cF w s' l)(hl:l.length<=48000000)
  (T:∀y n,eT w1 cF n y (l++(s.ords.flatMap jl++(gG jl s.bids)))->K y n):cS (S:=Value×Value×Unit) (GT (.pointer (some ⟨sb,0,none⟩)) K) (s',.int .i64 0,()) w:=by
 have d:=b.sl;obtain⟨va,vc,Z⟩:=(b.ords).isSl;have ln:∀W,(builtin .len #[47] 3 #[false] #[ss 6]).run Tryz.prog W=.ok (.value (.int .i64 (s.ords.length:Int))) W:=λW=>by rw[Z];simp[go_sem]
 have F:∀k,((s.ords.take k).flatMap jl).length<=960000:=λk=>by
  have h1:=fd (m:=300) (g:=jl) (L:=s.ords.take k) λx C=>nu (G.ords x (List.mem_of_mem_take C));have h2:(s.ords.take k).length<=3200:=by rw[List.length_take];omega
  omega
 have bk:∀{W:World} {s' :Value} {l' :List UInt8},eT w1 cF W s' l' ->cR W sb s.day s.next s.fund ss:=λr=>hpW r I
 refine dp (λst W=>∃(k:Nat) (s' :Value),k<=s.ords.length/\st=(s',.int .i64 k,())/\eT w1 cF W s' (l++(s.ords.take k).flatMap jl))
  (λst _=>match st.2.1 with| .int _ k=>s.ords.length - k.toNat|_=>0) ⟨0,s',by omega,rfl,by rw[List.take_zero,List.flatMap_nil,List.append_nil];exact Q⟩ ?_
 rintro _ W ⟨k,s2,hk,rfl,i⟩ M E;unfold GT;intro _;refine ck (dv sb 6 (by omega) _) (ck (i0 (bk i) d).1 (fi (ln _) ?_));have D:Rd W 6 (ss 6) s.ords.length (s.ords.flatMap du):=(b.md0 i.m0).ords;have H:=F k;by_cases h:k<s.ords.length
 ·have t:(k:Int)<(s.ords.length:Int):=by omega
  refine ck (v:=.bool true) (by simp[go_sem,t]<;>first|exact⟨rfl,rfl⟩|exact rfl) ?_;rw[ci,if_pos rfl];have f:=List.getElem_mem h;have q:=cQ h;obtain⟨x,C⟩:∃x,x=s.ords[k]:=⟨_,rfl⟩
  rw[<-C]at f q;have u:=G.ords x f
  have go:∀j B,eT w1 cF B j (l++(s.ords.take k).flatMap jl++jl x)->rv Tryz.prog (tf .add 3 true (.int .i64 (k:Int)) (.int .i64 1)) B λv w=>M (j,v,()) w:=λj B A=>by
   refine ck (v:=.int .i64 ((k+1:Nat):Int)) (w' :=B) (by simp[go_sem];rw[cV (by omega) (by omega)]) ?_;refine E _ _ ⟨k+1,j,by omega,rfl,?_⟩ (by show s.ords.length - (((k+1:Nat):Int)).toNat<s.ords.length - ((k:Int)).toNat;omega);rw[q,List.flatMap_append,List.flatMap_cons,List.flatMap_nil,List.append_nil,<-List.append_assoc];exact A
  have N:(l++(s.ords.take k).flatMap jl).length<=100000000:=by rw[List.length_append];omega
  refine ck (dv sb 6 (by omega) _) (ck (i0 (bk i) d).1 ?_);obtain⟨eb,eo,R,U⟩:=nj D h;refine ck (R W _) (ck (jy U) ?_);rw[<-C];refine vJ u λY P z=>?_;have:=nu u;exact mI (i.dr z.m0) z.own (by omega) go
 ·obtain rfl:k=s.ords.length:=by omega
  refine ck (v:=.bool false) (by simp[go_sem]<;>first|exact⟨rfl,rfl⟩|exact rfl) ?_;rw[ci,if_neg Bool.false_ne_true];rw[List.take_length]at i H;refine ck (dv sb 7 (by omega) _) (ck (i0 (bk i) d).2 (fi (v:=.int .i64 (s.bids.length:Int)) (w' :=W) (by obtain⟨a,c,e⟩:=(b.bids).isSl;rw[e];simp[go_sem]) ?_));refine ck (v:=.int .u64 (s.bids.length:Int)) (w' :=W) (by simp[go_sem];rw[fG (by omega) (by omega)]) ?_;refine ff i ⟨by omega,by omega⟩ (by rw[List.length_append];omega) λY P z=>?_;have O:(cE (s.bids.length:Int)).length<=10:=dw _ (by omega);refine KQ I b G V X z (by simp only[List.length_append];omega) λj J A=>?_;refine T j J ?_;have e:cE (s.bids.length:Int)=eG s.bids.length:=rfl;rw[e]at A;simpa only[gG,List.append_assoc]using A
set_option maxRecDepth 10000 in
def K5(Q:cR w1 sb s.day s.next s.fund ss)(b:eS w1 ss s)(H:s.Fit)(hn:s.accts.length<=3200/\s.cts.length<=3200/\s.poss.length<=3200/\s.ords.length<=3200/\s.bids.length<=3200)(hm:∀k∈s.cts,k.spec.may=true)(r0:eT w1 cF w s' l)(hl:l.length<=46000000)
  (hK:∀t u,eT w1 cF u t (l++(s.poss.flatMap pM++(gG jl s.ords++(gG jl s.bids))))->K t u):cS (S:=Value×Value×Unit) (Eo (.pointer (some ⟨sb,0,none⟩)) K) (s',.int .i64 0,()) w:=by
 have d:=b.sl;obtain⟨va,vc,hv⟩:=(b.poss).isSl;have ln:∀W,(builtin .len #[46] 3 #[false] #[ss 5]).run Tryz.prog W=.ok (.value (.int .i64 (s.poss.length:Int))) W:=λW=>by rw[hv];simp[go_sem]
 have G:∀k,((s.poss.take k).flatMap pM).length<=960000:=λk=>by
  have h1:=fd (m:=300) (g:=pM) (L:=s.poss.take k) λx A=>zG (H.poss x (List.mem_of_mem_take A));have h2:(s.poss.take k).length<=3200:=by rw[List.length_take];omega
  omega
 have bk:∀{W:World} {s' :Value} {l' :List UInt8},eT w1 cF W s' l' ->cR W sb s.day s.next s.fund ss:=λr=>hpW r Q
 refine dp (λst W=>∃(k:Nat) (s' :Value),k<=s.poss.length/\st=(s',.int .i64 k,())/\eT w1 cF W s' (l++(s.poss.take k).flatMap pM))
  (λst _=>match st.2.1 with| .int _ k=>s.poss.length - k.toNat|_=>0) ⟨0,s',by omega,rfl,by rw[List.take_zero,List.flatMap_nil,List.append_nil];exact r0⟩ ?_
 rintro _ W ⟨k,s2,hk,rfl,h⟩ KN F;unfold Eo;intro _;refine ck (dv sb 5 (by omega) _) (ck (eP (bk h) d).2.2 (fi (ln _) ?_));have M:Rd W 4 (ss 5) s.poss.length (s.poss.flatMap cK):=(b.md0 h.m0).poss;have N:=G k;by_cases i:k<s.poss.length
 ·have z:(k:Int)<(s.poss.length:Int):=by omega
  refine ck (v:=.bool true) (by simp[go_sem,z]<;>first|exact⟨rfl,rfl⟩|exact rfl) ?_;rw[ci,if_pos rfl];have f:=List.getElem_mem i;have y:=cQ i;obtain⟨x,A⟩:∃x,x=s.poss[k]:=⟨_,rfl⟩
  rw[<-A]at f y;have O:=H.poss x f
  have go:∀j B,eT w1 cF B j (l++(s.poss.take k).flatMap pM++pM x)->rv Tryz.prog (tf .add 3 true (.int .i64 (k:Int)) (.int .i64 1)) B λv w=>KN (j,v,()) w:=λj B q=>by
   refine ck (v:=.int .i64 ((k+1:Nat):Int)) (w' :=B) (by simp[go_sem];rw[cV (by omega) (by omega)]) ?_;refine F _ _ ⟨k+1,j,by omega,rfl,?_⟩ (by show s.poss.length - (((k+1:Nat):Int)).toNat<s.poss.length - ((k:Int)).toNat;omega);rw[y,List.flatMap_append,List.flatMap_cons,List.flatMap_nil,List.append_nil,<-List.append_assoc];exact q
  have hll:(l++(s.poss.take k).flatMap pM).length<=100000000:=by rw[List.length_append];omega
  refine ck (dv sb 5 (by omega) _) (ck (eP (bk h) d).2.2 ?_);obtain⟨eb,eo,e1,e2⟩:=KV M i;refine ck e1 (ck e2 ?_);rw[<-A];obtain⟨W2,W3,R,Y,D,M3⟩:=Bl x W;obtain⟨p,P⟩:∃p,p=W.heap.size:=⟨_,rfl⟩
  rw[<-P]at R Y D;refine ck R (dI Y ?_);have J:=h.dr M3;have I:¬co s2 p:=λn=>by have:=h.own.lt n;omega
  obtain⟨⟨n,C⟩,V,E⟩:=id O;have k1:=dw x.c (by have:=n.2;omega);have k2:=dw x.a (by have:=C.2;omega);have k3:=fS V;refine ck (yO 0 (by omega) p _) (ck (LD D) (ck (iY n _) ?_));refine tQ J D I ⟨n.1,by have:=n.2;omega⟩ (by omega) λj U q X h4=>?_;refine ck (yO 1 (by omega) p _) (ck (si X).1 (ck (iY C _) ?_));refine tQ q X h4 ⟨C.1,by have:=C.2;omega⟩ (by simp only[List.length_append]at*;omega) λs5 w5 r5 T h5=>?_;refine ck (yO 2 (by omega) p _) (ck (si T).2.1 ?_);refine yp r5 T h5 V (by simp only[List.length_append]at*;omega) λs6 w6 r6 b6 h6=>?_;refine ck (yO 3 (by omega) p _) (ck (si b6).2.2 ?_);refine oF r6 E (by simp only[List.length_append]at*;omega) λs7 w7 r7=>?_;exact go s7 w7 (by rw[show pM x=cE x.c++(cE x.a++(dG x.q++dG x.b))from rfl];simpa only[List.append_assoc]using r7)
 ·obtain rfl:k=s.poss.length:=by omega
  refine ck (v:=.bool false) (by simp[go_sem]<;>first|exact⟨rfl,rfl⟩|exact rfl) ?_;rw[ci,if_neg Bool.false_ne_true];rw[List.take_length]at h N;refine ck (dv sb 6 (by omega) _) (ck (i0 (bk h) d).1 (fi (v:=.int .i64 (s.ords.length:Int)) (w' :=W) (by obtain⟨a,c,e⟩:=(b.ords).isSl;rw[e];simp[go_sem]) ?_));refine ck (v:=.int .u64 (s.ords.length:Int)) (w' :=W) (by simp[go_sem];rw[fG (by omega) (by omega)]) ?_;refine ff h ⟨by omega,by omega⟩ (by rw[List.length_append];omega) λs3 w3 J=>?_;have Z:(cE (s.ords.length:Int)).length<=10:=dw _ (by omega);refine LI Q b H hn hm J (by simp only[List.length_append];omega) λj U q=>?_;refine hK j U ?_;have e:cE (s.ords.length:Int)=eG s.ords.length:=rfl;rw[e]at q;simpa only[gG,List.append_assoc]using q
set_option maxRecDepth 10000 in
def Nj(Z:cR w1 sb s.day s.next s.fund ss)(i:eS w1 ss s)(O:s.Fit)(hn:s.accts.length<=3200/\s.cts.length<=3200/\s.poss.length<=3200/\s.ords.length<=3200/\s.bids.length<=3200)(hm:∀k∈s.cts,k.spec.may=true)(r0:eT w1 cF w s' l)(hl:l.length<=44000000)
  (hK:∀z C,eT w1 cF C z (l++(s.cts.flatMap qD++(gG pM s.poss++(gG jl s.ords++(gG jl s.bids)))))->K z C):cS (S:=Value×Value×Unit) (Fe (.pointer (some ⟨sb,0,none⟩)) K) (s',.int .i64 0,()) w:=by
 have f:=i.sl;obtain⟨va,vc,hv⟩:=(i.cts).isSl;have ln:∀W,(builtin .len #[45] 3 #[false] #[ss 4]).run Tryz.prog W=.ok (.value (.int .i64 (s.cts.length:Int))) W:=λW=>by rw[hv];simp[go_sem]
 have M:∀k,((s.cts.take k).flatMap qD).length<=960000:=λk=>by
  have h1:=fd (m:=300) (g:=qD) (L:=s.cts.take k) λx F=>AR (O.cts x (List.mem_of_mem_take F));have h2:(s.cts.take k).length<=3200:=by rw[List.length_take];omega
  omega
 have bk:∀{W:World} {s' :Value} {l' :List UInt8},eT w1 cF W s' l' ->cR W sb s.day s.next s.fund ss:=λr=>hpW r Z
 refine dp (λst W=>∃(k:Nat) (s' :Value),k<=s.cts.length/\st=(s',.int .i64 k,())/\eT w1 cF W s' (l++(s.cts.take k).flatMap qD))
  (λst _=>match st.2.1 with| .int _ k=>s.cts.length - k.toNat|_=>0) ⟨0,s',by omega,rfl,by rw[List.take_zero,List.flatMap_nil,List.append_nil];exact r0⟩ ?_
 rintro _ W ⟨k,s2,hk,rfl,t⟩ KN J;unfold Fe;intro _;refine ck (dv sb 4 (by omega) _) (ck (eP (bk t) f).2.1 (fi (ln _) ?_));have hRW:Rd W 27 (ss 4) s.cts.length (s.cts.flatMap dN):=(i.md0 t.m0).cts;have T:=M k;by_cases n:k<s.cts.length
 ·have E:(k:Int)<(s.cts.length:Int):=by omega
  refine ck (v:=.bool true) (by simp[go_sem,E]<;>first|exact⟨rfl,rfl⟩|exact rfl) ?_;rw[ci,if_pos rfl];have j:=List.getElem_mem n;have D:=cQ n;obtain⟨x,F⟩:∃x,x=s.cts[k]:=⟨_,rfl⟩
  rw[<-F]at j D;have X:=O.cts x j
  have go:∀y G,eT w1 cF G y (l++(s.cts.take k).flatMap qD++qD x)->rv Tryz.prog (tf .add 3 true (.int .i64 (k:Int)) (.int .i64 1)) G λv w=>KN (y,v,()) w:=λy G u=>by
   refine ck (v:=.int .i64 ((k+1:Nat):Int)) (w' :=G) (by simp[go_sem];rw[cV (by omega) (by omega)]) ?_;refine J _ _ ⟨k+1,y,by omega,rfl,?_⟩ (by show s.cts.length - (((k+1:Nat):Int)).toNat<s.cts.length - ((k:Int)).toNat;omega);rw[D,List.flatMap_append,List.flatMap_cons,List.flatMap_nil,List.append_nil,<-List.append_assoc];exact u
  have hll:(l++(s.cts.take k).flatMap qD).length<=100000000:=by rw[List.length_append];omega
  have Q:∀{V:World} {sv:Value} {lv:List UInt8},eT w1 cF V sv lv->∃b d,(∀W,(Instr.indexAt 45 (ss 4) (.int .i64 (k:Int))).run Tryz.prog W=.ok (.pointer (some ⟨b,d,none⟩)) W)/\At V b d (dN x):=λ{V sv lv} r=>by
   have hV:Rd V 27 (ss 4) s.cts.length (s.cts.flatMap dN):=(i.md0 r.m0).cts;obtain⟨b,d,cap,U,hcap,q⟩:=hV.item cX n rfl;rw[<-F]at q;exact⟨b,d+k*27,λW=>by rw[U];simp[go_sem,n,cC,ua],q⟩
  have N:∀(b d:Nat) (W:World),(Instr.fieldAt gQ (.pointer (some ⟨b,d,none⟩)) 0).run Tryz.prog W=.ok (.pointer (some ⟨b,d,none⟩)) W/\(Instr.fieldAt gQ (.pointer (some ⟨b,d,none⟩)) 1).run Tryz.prog W=.ok (.pointer (some ⟨b,d+25,none⟩)) W/\(Instr.fieldAt gQ (.pointer (some ⟨b,d,none⟩)) 2).run Tryz.prog W=.ok (.pointer (some ⟨b,d+26,none⟩)) W:=λb d W=>⟨by simp[go_sem,cC],by simp[go_sem,cC],by simp[go_sem,cC]⟩
  obtain⟨B,h,R⟩:=id X;have k1:=A9 B;have k2:=dw x.st (by have:=h.2;omega)
  have P:∀W,(convert 106 27 (.int .u8 x.st)).run Tryz.prog W=.ok (.int .u64 x.st) W:=λW=>by
   obtain⟨a1,a2⟩:=h;simp[go_sem];rw[fG (by omega) (by omega)]
  refine ck (dv sb 4 (by omega) _) (ck (eP (bk t) f).2.1 ?_);obtain⟨b,d,A,q⟩:=Q t;refine ck (A W) (ck (N b d W).1 (ey (dl x.spec) 24 uS sm (cL _) (kz q) ?_));refine Gv B (hm x j) λs3 w3 I=>?_;refine mI (t.dr I.m0) I.own (by omega) λy H u=>?_;refine ck (dv sb 4 (by omega) _) (ck (eP (bk u) f).2.1 ?_);obtain⟨b,d,A,q⟩:=Q u;refine ck (A H) (ck (N b d H).2.1 (ck (BL q) (ck (P _) ?_)));refine ff u ⟨h.1,by have:=h.2;omega⟩ (by simp only[List.length_append]at*;omega) λs5 w5 Y=>?_;refine ck (dv sb 4 (by omega) _) (ck (eP (bk Y) f).2.1 ?_);obtain⟨b,d,A,q⟩:=Q Y;refine ck (A w5) (ck (N b d w5).2.2 (ck (IW q) ?_));refine oF Y R (by simp only[List.length_append]at*;omega) λs6 w6 r6=>?_;exact go s6 w6 (by rw[show qD x=vu x.spec++(cE x.st++dG x.price)from rfl];simpa only[List.append_assoc]using r6)
 ·obtain rfl:k=s.cts.length:=by omega
  refine ck (v:=.bool false) (by simp[go_sem]<;>first|exact⟨rfl,rfl⟩|exact rfl) ?_;rw[ci,if_neg Bool.false_ne_true];rw[List.take_length]at t T;refine ck (dv sb 5 (by omega) _) (ck (eP (bk t) f).2.2 (fi (v:=.int .i64 (s.poss.length:Int)) (w' :=W) (by obtain⟨a,c,e⟩:=(i.poss).isSl;rw[e];simp[go_sem]) ?_));refine ck (v:=.int .u64 (s.poss.length:Int)) (w' :=W) (by simp[go_sem];rw[fG (by omega) (by omega)]) ?_;refine ff t ⟨by omega,by omega⟩ (by rw[List.length_append];omega) λs3 w3 I=>?_;have l10:(cE (s.poss.length:Int)).length<=10:=dw _ (by omega);refine K5 Z i O hn hm I (by simp only[List.length_append];omega) λy H u=>?_;refine hK y H ?_;have e:cE (s.poss.length:Int)=eG s.poss.length:=rfl;rw[e]at u;simpa only[gG,List.append_assoc]using u
set_option maxRecDepth 10000 in
def IP(P:cR w1 sb s.day s.next s.fund ss)(d:eS w1 ss s)(G:s.Fit)(hn:s.accts.length<=3200/\s.cts.length<=3200/\s.poss.length<=3200/\s.ords.length<=3200/\s.bids.length<=3200)(hm:∀k∈s.cts,k.spec.may=true)(r0:eT w1 cF w s' l)(hl:l.length<=42000000)
  (hK:∀u y,eT w1 cF y u (l++(s.accts.flatMap qQ++(gG qD s.cts++(gG pM s.poss++(gG jl s.ords++(gG jl s.bids))))))->K u y):cS (S:=Value×Value×Unit) (Hb (.pointer (some ⟨sb,0,none⟩)) K) (s',.int .i64 0,()) w:=by
 have f:=d.sl;obtain⟨va,vc,hv⟩:=(d.accts).isSl;have ln:∀W,(builtin .len #[44] 3 #[false] #[ss 3]).run Tryz.prog W=.ok (.value (.int .i64 (s.accts.length:Int))) W:=λW=>by rw[hv];simp[go_sem]
 have F:∀k,((s.accts.take k).flatMap qQ).length<=960000:=λk=>by
  have h1:=fd (m:=300) (g:=qQ) (L:=s.accts.take k) λx B=>zO (G.accts x (List.mem_of_mem_take B));have h2:(s.accts.take k).length<=3200:=by rw[List.length_take];omega
  omega
 have bk:∀{W:World} {s' :Value} {l' :List UInt8},eT w1 cF W s' l' ->cR W sb s.day s.next s.fund ss:=λr=>hpW r P
 refine dp (λst W=>∃(k:Nat) (s' :Value),k<=s.accts.length/\st=(s',.int .i64 k,())/\eT w1 cF W s' (l++(s.accts.take k).flatMap qQ))
  (λst _=>match st.2.1 with| .int _ k=>s.accts.length - k.toNat|_=>0) ⟨0,s',by omega,rfl,by rw[List.take_zero,List.flatMap_nil,List.append_nil];exact r0⟩ ?_
 rintro _ W ⟨k,s2,hk,rfl,j⟩ KN E;unfold Hb;intro _;refine ck (dv sb 3 (by omega) _) (ck (eP (bk j) f).1 (fi (ln _) ?_));have J:Rd W 4 (ss 3) s.accts.length (s.accts.flatMap cJ):=(d.md0 j.m0).accts;have M:=F k;by_cases n:k<s.accts.length
 ·have A:(k:Int)<(s.accts.length:Int):=by omega
  refine ck (v:=.bool true) (by simp[go_sem,A]<;>first|exact⟨rfl,rfl⟩|exact rfl) ?_;rw[ci,if_pos rfl];have i:=List.getElem_mem n;have z:=cQ n;obtain⟨x,B⟩:∃x,x=s.accts[k]:=⟨_,rfl⟩
  rw[<-B]at i z;have b:=G.accts x i
  have go:∀q C,eT w1 cF C q (l++(s.accts.take k).flatMap qQ++qQ x)->rv Tryz.prog (tf .add 3 true (.int .i64 (k:Int)) (.int .i64 1)) C λv w=>KN (q,v,()) w:=λq C t=>by
   refine ck (v:=.int .i64 ((k+1:Nat):Int)) (w' :=C) (by simp[go_sem];rw[cV (by omega) (by omega)]) ?_;refine E _ _ ⟨k+1,q,by omega,rfl,?_⟩ (by show s.accts.length - (((k+1:Nat):Int)).toNat<s.accts.length - ((k:Int)).toNat;omega);rw[z,List.flatMap_append,List.flatMap_cons,List.flatMap_nil,List.append_nil,<-List.append_assoc];exact t
  have hll:(l++(s.accts.take k).flatMap qQ).length<=100000000:=by rw[List.length_append];omega
  refine ck (dv sb 3 (by omega) _) (ck (eP (bk j) f).1 ?_);obtain⟨eb,eo,e1,e2⟩:=JY J n;refine ck e1 (ck e2 ?_);rw[<-B];obtain⟨W2,W3,Q,Y,D,M3⟩:=yn x W;obtain⟨p,O⟩:∃p,p=W.heap.size:=⟨_,rfl⟩
  rw[<-O]at Q Y D;refine ck Q (dI Y ?_);have I:=j.dr M3;have bA:∀{V U:World} {sa N:Value} {la lb:List UInt8},zr V p x->eT V cF U N lb->zr U p x:=λh r=>hpW r h;have H:¬co s2 p:=λhc=>by have:=j.own.lt hc;omega
  have k1:=dw x.num (by have:=b.1.2;omega);have k2:=fS b.2;refine ck (uL 0 (by omega) p _) (ck (GQ D).1 (ck (iY b.1 _) ?_));refine tQ I D H ⟨b.1.1,by have:=b.1.2;omega⟩ (by omega) λq T t X h4=>?_;refine ck (uL 1 (by omega) p _) (ck (GQ X).2 ?_);refine yp t X h4 b.2 (by simp only[List.length_append]at*;omega) λs5 w5 r5 R h5=>?_;refine ck (uL 2 (by omega) p _) (ck (qU R).1 ?_);refine CD r5 R h5 (by simp only[List.length_append]at*;omega) λs6 w6 r6 b6 h6=>?_;refine ck (uL 3 (by omega) p _) (ck (qU b6).2 ?_);refine yJ r6 (by simp only[List.length_append,eK,List.length_singleton]at*;omega) λs7 w7 r7=>?_;exact go s7 w7 (by rw[show qQ x=cE x.num++(dG x.cash++(eK x.kil++eK x.dfl))from rfl];simpa only[List.append_assoc]using r7)
 ·obtain rfl:k=s.accts.length:=by omega
  refine ck (v:=.bool false) (by simp[go_sem]<;>first|exact⟨rfl,rfl⟩|exact rfl) ?_;rw[ci,if_neg Bool.false_ne_true];rw[List.take_length]at j M;refine ck (dv sb 4 (by omega) _) (ck (eP (bk j) f).2.1 (fi (v:=.int .i64 (s.cts.length:Int)) (w' :=W) (by obtain⟨a,c,e⟩:=(d.cts).isSl;rw[e];simp[go_sem]) ?_));refine ck (v:=.int .u64 (s.cts.length:Int)) (w' :=W) (by simp[go_sem];rw[fG (by omega) (by omega)]) ?_;refine ff j ⟨by omega,by omega⟩ (by rw[List.length_append];omega) λs3 w3 I=>?_;have Z:(cE (s.cts.length:Int)).length<=10:=dw _ (by omega);refine Nj P d G hn hm I (by simp only[List.length_append];omega) λq T t=>?_;refine hK q T ?_;have e:cE (s.cts.length:Int)=eG s.cts.length:=rfl;rw[e]at t;simpa only[gG,List.append_assoc]using t
set_option maxRecDepth 10000 in
def B7(d:eS w ss s)(b:s.Fit)(F:s.accts.length<=3200/\s.cts.length<=3200/\s.poss.length<=3200/\s.ords.length<=3200/\s.bids.length<=3200)(G:∀k∈s.cts,k.spec.may=true)
  (D:∀s' h,eT w cF h s' (kF s)->K s' h):Ca Tryz.prog 26 #[oJ s.day s.next s.fund ss] w K:=by
 have f:=d.sl;have P:=dw s.day (by have:=b.day.2;omega);have R:=dw s.next (by have:=b.next.2;omega);have L:=fS b.fund;apply QA;obtain⟨w1,z,g,u⟩:=js s.day s.next s.fund ss w;obtain⟨sb,i⟩:∃p,p=w.heap.size:=⟨_,rfl⟩
 rw[<-i]at z g;refine ck z ?_;have bk:∀{W:World} {s' :Value} {H:List UInt8},eT w1 cF W s' H->cR W sb s.day s.next s.fund ss:=λr=>hpW r g;refine ck (dv sb 0 (by omega) _) (ck (fe g).1 (ck (iY b.day _) ?_));refine yW ⟨b.day.1,by have:=b.day.2;omega⟩ λM Q y=>?_;refine ck (dv sb 1 (by omega) _) (ck (fe (bk y)).2.1 ?_);refine ff y ⟨b.next.1,by have:=b.next.2;omega⟩ (by omega) λO J n=>?_;refine ck (dv sb 2 (by omega) _) (ck (fe (bk n)).2.2 ?_);refine oF n b.fund (by simp only[List.length_append];omega) λI j t=>?_;refine ck (dv sb 3 (by omega) _) (ck (eP (bk t) f).1 (fi (v:=.int .i64 (s.accts.length:Int)) (w' :=j) (by obtain⟨a,c,e⟩:=(d.accts).isSl;rw[e];simp[go_sem]) ?_));refine ck (v:=.int .u64 (s.accts.length:Int)) (w' :=j) (by simp[go_sem];rw[fG (by omega) (by omega)]) ?_;refine ff t ⟨by omega,by omega⟩ (by simp only[List.length_append];omega) λS N E=>?_;have B:(cE (s.accts.length:Int)).length<=10:=dw _ (by omega);refine IP g (d.md0 u) b F G E (by simp only[List.length_append];omega) λA C q=>?_;refine D A C (eT.pre ?_ u);have e:cE (s.accts.length:Int)=eG s.accts.length:=rfl;rw[e]at q;simpa only[kF,gG,List.append_assoc]using q
end
end Go.Proofs
