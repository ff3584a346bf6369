/- Part of a proof. -/
import Derived.Laws.BitsAllLaws
import Derived.Laws.DeepNot64
import Derived.Test.YtekbnpagidkbbaaGreatR27
set_option linter.all false
set_option maxRecDepth 100000
set_option maxHeartbeats 4000000
namespace Go.Proofs
open Go Go.Vc
attribute [local congr] bj
variable {p:Nat}{W:Wt_}
def Yb(x y:Int×Od)(W:Wt_):(io .neq vl false (CU x) (CU y)).run pQ W=.ok (.bool (!decide (x=y))) W:=by
 obtain⟨c,o⟩:=x;obtain⟨i,p⟩:=y;obtain⟨g,h,l,a,n⟩:=o;obtain⟨e,j,m,k,f⟩:=p
 have:(.ok (.bool (!decide (((c,⟨g,h,l,a,n⟩):Int×Od)=(i,⟨e,j,m,k,f⟩)))) W:Result Value)=.ok (.bool (!(decide (c=i)&& (decide (g=e)&& (decide (h=j)&& (decide (l=m)&& (decide (a=k)&& decide (n=f)))))))) W:=by
  congr 3;rw[dh];simp
 rw[this];simp[go_sem,CU,kC,dF]
 (repeat' split)<;>simp_all
def KB{w:Wt_}{K:aZ}{a b:Vt_}{c g:List (Int×Od)}(v:Rd w 6 a c.length (c.flatMap kC))(s:Rd w 6 b g.length (g.flatMap kC))(L:c.length<=100000)(q:∀r,M0 w r->K (.bool (decide (c=g))) r):Ca pQ 55 #[a,b] w K:=by
 refine cN Tryz.func55 ?_;obtain⟨M,I,B⟩:=v.isSl;obtain⟨N,J,A⟩:=s.isSl;have u:∀W,(builtin .len #[56] 3 #[false] #[a]).run pQ W=.ok (.value (gI (c.length:Int))) W:=λW=>by rw[B];simp[go_sem]
 refine uz (u _) ?_;refine iI (gI (g.length:Int)) w (by rw[A];simp[go_sem]) ?_;by_cases h:c.length=g.length
 rotate_left
 ·refine ao (.bool true) w (by simp[go_sem];omega) ?_;rw[kJ];have j:c≠g:=λe=>h (by rw[e]);have:=q w (aR.refl _ _);rw[bD j]at this;exact this
 refine ao (.bool false) w (by simp[go_sem];omega) ?_;rw[jO];refine uz (u _) ?_
 refine d8 (λst W=>∃k:Nat,st=(.bool false,gI k,())/\k<=c.length/\c.take k=g.take k/\M0 w W)
  (λst _=>match st.2.1 with| .int _ k=>c.length - k.toNat|_=>0) ⟨0,rfl,qZ,rfl,aR.refl _ _⟩ ?_
 rintro _ W ⟨k,rfl,G,f,m⟩ E p;refine lV ?_;intro _;by_cases l:k<c.length
 ·have n:(k:Int)<(c.length:Int):=qZ;refine dY n ?_;have md:=m.drew;have ra:=v.mod md d9;have rb:=s.mod md d9;generalize W.drew=t at md ra rb|-;have i:k<g.length:=qZ;obtain⟨H,po,y,x⟩:=N6 ra l;obtain⟨F,O,D,z⟩:=N6 rb i;refine cx (λW=>y W _) (cK (vn x) ?_);refine cx (λW=>D W _) (cK (vn z) ?_);refine cx (λW=>Yb _ _ W) ?_;by_cases o:c[k]=g[k]
  ·rw[aW o,show(!true)=false from rfl,ay,aa dp];refine ao (gI ((k+1:Nat):Int)) t (by simp[go_sem];rw[ew qZ qZ]) ?_;refine p _ _ ⟨k+1,rfl,qZ,?_,md⟩ (by show c.length - (((k+1:Nat):Int)).toNat<c.length - ((k:Int)).toNat;omega);rw[bR l,bR i,f,o]
  ·rw[bD o,show(!false)=true from rfl,ay,ae rfl];have j:c≠g:=λe=>o (by subst e;rfl);have:=q t md;rw[bD j]at this;exact this
 ·obtain rfl:k=c.length:=qZ;refine eU ?_
  have C:c=g:=by
   rw[aK,h,aK]at f;exact f
  have:=q W m;rw[aW C]at this;exact this
section
variable{w:Wt_}{b:Nat}{d nx fu:Int}{ss:Nat->Value}
def uc(h:kw w b d nx fu ss)(hs:∀i,3<=i->i<=7->∃a n c,ss i=.slice a n c):(iL 53 (bO b 3)).run pQ w=.ok (ss 3) w/\(iL 54 (bO b 4)).run pQ w=.ok (ss 4) w/\(iL 55 (bO b 5)).run pQ w=.ok (ss 5) w:=
 ⟨IB h hs 3 qZ qZ,IB h hs 4 qZ qZ,IB h hs 5 qZ qZ⟩
def af2(h:kw w b d nx fu ss)(hs:∀i,3<=i->i<=7->∃a n c,ss i=.slice a n c):(iL yu (bO b 0)).run pQ w=.ok (Fb d nx fu ss) w:=by
 have e:hp w b=some (.cells (z9 d nx fu ss).toArray yu (0,0)):=h;obtain⟨_,_,_,g⟩:=hs 3 qZ qZ;obtain⟨_,_,_,k⟩:=hs 4 qZ qZ;obtain⟨_,_,_,f⟩:=hs 5 qZ qZ;obtain⟨_,_,_,j⟩:=hs 6 qZ qZ;obtain⟨_,_,_,l⟩:=hs 7 qZ qZ;simp only[z9,Fb,g,k,f,j,l]at e|-;simp[go_sem,e]
end
abbrev PR:TypeId:=24
def ae8(W:Wt_):∃a,(iA PR true (.tuple #[])).run pQ W=.ok (bO W.heap.size 0) a/\hp a W.heap.size=some (.cells #[.pointer none] PR (0,0))/\M0 W a:=
 ⟨W.alloc (.cells #[.pointer none] PR),by simp[go_sem],by simp[go_sem],(aR.refl _ W).alloc _⟩
def Zz{x:Vt_}(v:Nat)(h:hp W p=some (.cells #[x] PR (0,0))):∃a,(iS PR (bO p 0) (ec v)).run pQ W=.ok () a/\hp a p=some (.cells #[ec v] PR (0,0))/\aR (λy=>y=p) W a:=
 ⟨W.setCell ⟨p,0,none⟩ (ec v),by simp[go_sem,h,ec],by simp[go_sem,h],(aR.refl (λy=>y=p) W).setCell (.inl rfl) _ _⟩
def MO{v:Nat}(h:hp W p=some (.cells #[ec v] PR (0,0))):(iL PR (bO p 0)).run pQ W=.ok (ec v) W:=by simp[go_sem,h,ec]
abbrev WK(W:Wt_)(p:Nat)(x:Po):Prop:=hp W p=some (.cells (dy x).toArray 124 (0,0))
def ab8{x:Po}(h:WK W p x):(iL 45 (bO p 0)).run pQ W=.ok (gU x.c) W:=by
 have a:hp W p=some (.cells (dy x).toArray 124 (0,0)):=h;simp only[dy]at a;simp[go_sem,a]
def Zi{s:Vt_}{L:List Po}(h:Rd W 4 s L.length (L.flatMap dy)){i:Nat}(hi:i<L.length):
  ∃b a,(iX 55 s (gI (i:Int))).run pQ W=.ok (bO b a) W/\(iL 124 (bO b a)).run pQ W=.ok (nh L[i]) W:=by
 obtain⟨b,a,f,c,e,g⟩:=h.item (show∀x,(dy x).length=4 from λ_=>rfl) hi rfl;have u:Tryz.prog.underlying 55=some (.slice 124):=cV;refine⟨b,a+i*4,by rw[c];simp[go_sem,hi,bK,u],?_⟩;exact jh (P:=pQ) (t:=124) cV (show Tryz.prog.cellsOf 124=3+1 by kernel_rfl) rfl g
def Q2{S:bt}(h:S.Ok):S.state.ords.length<=100000/\S.state.bids.length<=100000:=by
 have h1:=Cx h.ord S.nums.length;have a:=BO h.ord S.nums.length;unfold wY at h1;unfold wP at a;rw[aK]at h1 a;have e:=h.cal.len;have c:S.nums.length=S.cal.l.length:=by unfold bt.nums;rw[ah]
 exact⟨by show(S.nums.flatMap _).length<=_;omega,by show(S.nums.flatMap _).length<=_;omega⟩
def Ui(s:uR)(n:Int):({tK s with bk:=eS (tK s).bk n Bk.empty}:bt)=tK s:=by
 have e:eS (λ_:Int=>Bk.empty) n Bk.empty=λ_=>Bk.empty:=by
  funext m;unfold eS;split<;>rfl
 show(⟨(tK s).cal,(tK s).led,eS (λ_:Int=>Bk.empty) n Bk.empty,(tK s).bd,(tK s).next⟩:bt)=_;rw[e];rfl
def Sc{w:Wt_}{K:aZ}{ss:Nat->Value}{s:uR}(h:sX w ss s)(hf:s.Fit)(hl:s.accts.length<=100000/\s.cts.length<=100000/\s.poss.length<=1024/\s.ords.length<=100000/\s.bids.length<=100000)
  (hK:∀(x:Vt_) (e:Int) (w' :Wt_),M0 w w' ->(match tn s with|none=>e=2/\x=.pointer none|some S=>e=0/\∃v F,x=ec v/\Ga w' v F S/\∀y,F y->w.heap.size<=y)->K (.tuple #[x,gI e]) w'):Ca pQ 16 #[Fb s.day s.next s.fund ss] w K:=by
 obtain⟨hlA,hlC,hlP,hlO,hlB⟩:=hl;have t:=h.sl;have bad:tn s=none->∀w',M0 w w' ->K (.tuple #[.pointer none,gI 2]) w' :=λhn w' m=>hK _ 2 w' m (by rw[hn];exact⟨rfl,rfl⟩);have nf:¬wu s->tn s=none:=λhn=>by unfold tn;rw[aa hn]
 refine cN Tryz.func16 ?_;obtain⟨w1,e1,b1,m1⟩:=IT s.day s.next s.fund ss w;obtain⟨r,hsb⟩:∃p,p=w.heap.size:=⟨_,rfl⟩
 rw[<-hsb]at e1 b1;refine bo e1 (bo (rm r 0 qZ _) (bo (vC b1).1 ?_));refine bo (rm r 4 qZ _) (bo (uc b1 t).2.1 ?_);have h1:=h.md0 m1;refine IX h1.cts hlC hf.cts hf.day (λhc16 hcup c Fc w2 qc m2 nc=>?_) λhcn w2 m2=>?_
 rotate_left
 ·refine ao (.pointer none) w2 (by simp[go_sem]) (ao (gI 2) w2 (by simp[go_sem]) ?_);refine lh ?_;exact bad (nf λh0=>hcn ⟨h0.len,h0.cts⟩) _ (m1.trans m2)
 refine ao (fO c) w2 (by simp[go_sem]) (ao (gI 0) w2 (by simp[go_sem]) ?_);refine eU ?_;have M2:=m1.trans m2;have h2:=h.md0 M2;have b2:kw w2 r s.day s.next s.fund ss:=m2.hpk b1 id;refine bo (rm r 2 qZ _) (bo (vC b2).2.2 ?_);refine bo (rm r 3 qZ _) (bo (uc b2 t).1 ?_);refine bo (rm r 5 qZ _) (bo (uc b2 t).2.2 ?_);refine Ve (f:=s.fund) h2.accts h2.poss qZ hlP (λa ha=>(hf.accts a ha).1) hf.poss (λhF0 C l Fl ql J nl=>?_) λhF0 C J=>?_
 rotate_left
 ·refine ao (.pointer none) C (by simp[go_sem]) (ao (gI 2) C (by simp[go_sem]) ?_);refine lh ?_;exact bad (nf λh0=>hF0 h0.led) _ (M2.trans J)
 refine ao (eP l) C (by simp[go_sem]) (ao (gI 0) C (by simp[go_sem]) ?_);refine eU ?_;have M3:=M2.trans J;have b3:kw C r s.day s.next s.fund ss:=J.hpk b2 id;refine cT.at (λst W=>st=(.bool (decide (¬(1<=s.next/\s.next<=jZ+1))),())/\C=W) ?_ ?_
 ·refine bo (rm r 1 qZ _) (bo (vC b3).2.1 ?_);refine dI ?_;by_cases c1:s.next<1
  ·rw[ay,ae (by simpa using c1)];have:¬1<=s.next:=qZ;exact⟨by simp[this],rfl⟩
  rw[ay,aa (by simpa using c1)];refine bo (rm r 1 qZ _) (bo (vC b3).2.1 ?_);refine ao (.bool (decide (¬(1<=s.next/\s.next<=jZ+1)))) C ?_ ⟨rfl,rfl⟩;have c1' :1<=s.next:=qZ;simp[go_sem,c1',jZ]
 rintro _ _ ⟨rfl,rfl⟩;refine kR ?_;intro _;by_cases hnx:1<=s.next/\s.next<=jZ+1
 rotate_left
 ·simp only[aW hnx];rw[kJ];exact bad (nf λh0=>hnx h0.next) _ M3
 simp only[bD (λhcc:¬(1<=s.next/\s.next<=jZ+1)=>hcc hnx)];rw[jO];have bc:∀x,Fc x->w1.heap.size<=x/\x<w2.heap.size:=λx V=>⟨nc x V,qc.lt V⟩
 have bl:∀x,Fl x->w2.heap.size<=x/\x<C.heap.size:=λx V=>⟨nl x V,ql.lt V⟩
 replace qc:=qc.mod J d9;have z1:=m1.size;have z2:=m2.size;have z3:=J.size;have hlsb:r<w1.heap.size:=aB b1;obtain⟨nb,hnb⟩:=di C.heap.size;have m4:M0 C (C.alloc (.map #[] 0)):=(aR.refl _ C).alloc _;have ab:eM eY fi (C.alloc (.map #[] 0)) nb ([]:List (Int×Nat)):=by rw[hnb];exact eM.new C
 refine ao (.map (some nb)) (C.alloc (.map #[] 0)) (by rw[hnb];simp[go_sem]) ?_;generalize C.alloc (.map #[] 0)=w4 at m4 ab|-;have z4:=m4.size;have bb:=ab.lt;replace qc:=qc.mod m4 d9;replace ql:=ql.mod m4 d9;obtain⟨nd,hnd⟩:=di w4.heap.size;have m5:M0 w4 (w4.alloc (.map #[] 0)):=(aR.refl _ w4).alloc _;have ad:eM eY yr (w4.alloc (.map #[] 0)) nd ([]:List (Int×Value)):=by rw[hnd];exact eM.new w4
 refine ao (.map (some nd)) (w4.alloc (.map #[] 0)) (by rw[hnd];simp[go_sem]) ?_;generalize w4.alloc (.map #[] 0)=w5 at m5 ad|-;have z5:=m5.size;replace qc:=qc.mod m5 d9;replace ql:=ql.mod m5 d9;replace ab:=ab.mod m5 id;have M5:=(M3.trans m4).trans m5;have b5:kw w5 r s.day s.next s.fund ss:=m5.hpk (m4.hpk b3 id) id;refine bo (rm r 1 qZ _) (bo (vC b5).2.1 ?_);refine ao (.agg #[fO c,eP l,.map (some nb),.map (some nd),gQ s.next]) w5 (by simp[go_sem,fO,eP]) ?_;refine U2 (w:=w1) (S:=tK s) (((m2.trans J).trans m4).trans m5) qc ql ab ad bc bl qZ qZ qZ qZ qZ qZ qZ λv w6 O v6 m6 n6=>?_;rw[Ug]at v6;replace v6:rF w6 v c l nb nd [] [] O (tK s):=v6;have b6:kw w6 r s.day s.next s.fund ss:=m6.hpk b1 id;obtain⟨w7,e7,b7,m7⟩:=ae8 w6;obtain⟨Q,hpb⟩:∃p,p=w6.heap.size:=⟨_,rfl⟩
 rw[<-hpb]at e7 b7;obtain⟨w8,e8,b8,m8⟩:=Zz v b7;refine bo e7 (iE e8 ?_);have M68:M0 w6 w8:=m7.on m8 λy g=>.inr qZ;have z6:=m6.size;have v8:=v6.mod M68 λ_ _ _ h=>h;refine Ez v8.cal λgv w9 ht m9=>?_;have M69:=M68.trans m9;have z69:=M69.size;have v9:=v6.mod M69 λ_ _ _ h=>h;have b9:hp w9 Q=some (.cells #[ec v] PR (0,0)):=m9.hpk b8 id;have s9:kw w9 r s.day s.next s.fund ss:=M69.hpk b6 id;have hpl6:Q=w6.heap.size:=hpb;have hf0:∀y,lq O y->w1.heap.size<=y/\y<Q:=λy ⟨pt,g⟩=>⟨n6 pt y g,by have:=v6.lt g;omega⟩
 have hpb9:Q<w9.heap.size:=aB b9;have h0pb:¬lq O Q:=λB=>by have:=hf0 Q B;omega
 have h0sb:¬lq O r:=λB=>by have:=hf0 r B;omega
 have M19:M0 w w9:=(m1.trans m6).trans M69;let I:(Nat->Prop)->Nat->World->Prop:=λX i W=>∃(A' :List (Int×Nat)) (o:Pt->Nat->Prop),rF W v c l nb nd A' [] o (tK s)/\(∀n,(lk A' n).isSome=true↔∃k∈s.cts.take i,k.spec.num=n)/\(∀y,X y↔lq o y)/\∀y,lq o y->w1.heap.size<=y/\y≠Q;obtain⟨hcs,hrise⟩:=sr hcup;refine V7 ?_;refine Qm (X0:=lq O) (fv:=λk:Ct=>.agg (dA k).toArray) (asg:=λx W K=>rx pQ (uK jW) W λv w1=>yS pQ (rS jW v x) w1 λw2=>K v w2) (Pv:=HC jW dA) (xs:=s.cts) ht Mg Fv I (λ_ _ _=>False) ?_ (λ_ _ _ _ _ h=>h.elim) (λx ⟨pt,V⟩=>v9.lt V) ⟨[],O,v9,λn=>?_,λy=>aG,λy g=>⟨(hf0 y g).1,by have:=(hf0 y g).2;omega⟩⟩ ?_ ?_ (λ_ _ _ _ _ h=>h.elim)
 ·rintro X i W W' H ⟨A',o,i1,i2,i3,i4⟩ hm hX;exact⟨A',o,i1.mod hm λpt y g=>hX y ((i3 y).2 ⟨pt,g⟩),i2,i3,i4⟩
 ·constructor
  ·intro B;cases B
  ·grind
 ·rintro X i hi W q vv ⟨A',o,i1,i2,i3,i4⟩ mW hX hdq hqW ⟨rfl,zgq⟩ ⟨rec0,hrec⟩ KN KJ hKN hKJ;have bW:hp W Q=some (.cells #[ec v] PR (0,0)):=mW.hpk b9 h0pb;obtain⟨n,hn⟩:=di ((s.cts[i]).spec.num);have P:M0 W W.drew:=(aR.refl _ W).drew;have i1d:=i1.mod P λ_ _ _ h=>h;have gqd:Dm W.drew q s.cts[i]:=P.hpk zgq id;have bd:=P.hpk bW id;have hpW:Q<W.heap.size:=aB bW;have hzd:W.drew.heap.size=W.heap.size:=rfl;generalize W.drew=W2 at P i1d gqd bd hzd|-;refine cK (MO bd) ?_;simp only[ec,bU];refine cx (uY 2 qZ) (cK (ld2 _ i1d.blk) ?_);refine du (bO q 0) (λW=>by simp[go_sem]) (du (bO q 0) (λW=>by simp[go_sem]) (cK (TY gqd) ?_));refine Ha λbk Gb C q3 J n3=>?_;have i1e:=i1d.mod J λ_ _ _ h=>h;refine⟨TY (J.hpk gqd id),ld2 _ i1e.blk,MO (J.hpk bd id),?_⟩;rw[<-hn]
  have hA:lk A' n=none:=by
   cases hl:lk A' n with
   |none=>rfl
   |some b=>
    obtain⟨k,hk,hkn⟩:=(i2 n).1 (by rw[hl];rfl);exfalso
    have h1:k.spec.num<(s.cts[i]).spec.num:=by
     have hd:s.cts=s.cts.take i++s.cts.drop i:=(cJ i s.cts).symm;have hr:=hrise;unfold nQ at hr;rw[hd,dt]at hr;exact hr.2.2 k hk _ (by rw[cD hi];exact aw)
    omega
  refine gZ (enc:=eY) (ev:=fi) (x:=n) (v:=bk) xM lu i1e.mbk λw4 a4 m4 hs4=>?_;have v4:=i1d.addBk (n:=n) hA J q3 n3 a4 m4;rw[Ui]at v4;have hnb:X nb:=(i3 nb).2 ⟨.mb,(i1.fmb nb).2 rfl⟩;have hz3:=J.size;have hz2:=P.size;refine hKN (lq (yX o (.bk n) Gb)) w4 ⟨_,_,v4,λm=>?_,λy=>aG,λy ⟨pt,g⟩=>?_⟩ (((P.to).trans (J.to)).trans (m4.mono λy _ g=>by rw[g];exact hnb)) λy ⟨pt,g⟩=>⟨?_,v4.lt g⟩
  ·rw[lm,bR hi];constructor
   ·intro hm;by_cases hnm:n=m
    ·grind
    ·grind
   ·rintro⟨k,hk,hkm⟩;by_cases hnm:n=m
    ·rw[ae hnm];rfl
    ·rw[aa hnm];refine(i2 m).2 ?_;rcases bf.1 hk with hk|hk
     ·exact⟨k,hk,hkm⟩
     ·grind
  ·by_cases hpt:pt=.bk n
   ·subst hpt;rw[me]at g;have:=n3 y g;exact⟨qZ,qZ⟩
   ·rw[fD hpt]at g;exact i4 y ⟨pt,g⟩
  ·by_cases hpt:pt=.bk n
   ·subst hpt;rw[me]at g;have:=n3 y g;exact .inr qZ
   ·rw[fD hpt]at g;exact .inl ((i3 y).2 ⟨pt,g⟩)
 rintro X W d hd ⟨A',o,i1,i2,i3,i4⟩ mW hdef hX
 have vR:qs W v c l nb nd A' [] o (tK s):=⟨i1,λn=>by
  rw[dh,i2 n,aK,<-so];unfold bt.nums;rw[aL];exact aG,λn hn=>(by cases hn)⟩
 have hdn:∀y,lq o y->y≠d:=λy g e=>by
  subst e;rcases(hX y ((i3 y).2 g)).2 with h' |h'
  ·grind
  ·omega
 have hdW:d<W.heap.size:=aB hdef;have bW:hp W Q=some (.cells #[ec v] PR (0,0)):=mW.hpk b9 h0pb;have sW:kw W r s.day s.next s.fund ss:=mW.hpk s9 h0sb;have MW:M0 w W:=M19.on mW λy g=>.inr (by have:=(hf0 y g).1;omega);have hW:=h.md0 MW;have hzW:=MW.size;refine OT ?_;simp only[jR];refine bo (rm r 5 qZ _) (bo (uc sW t).2.2 ?_);obtain⟨pa,pc,hp5⟩:=hW.poss.isSl;refine iI (gI (s.poss.length:Int)) W (by rw[hp5];simp[go_sem]) ?_
 refine d8 (λst W' =>∃i:Nat,i<=s.poss.length/\st=(.pointer none,gI 0,gI i,())/\(∀p∈s.poss.take i,bG s.cts p.c=0)/\M0 W W')
  (λst _=>match st.2.2.1 with| .int _ i=>s.poss.length - i.toNat|_=>0) ⟨0,qZ,rfl,λp hp=>(by rw[cU]at hp;cases hp),aR.refl _ _⟩ ?_
 rintro _ W1 ⟨i,hi,rfl,hal,u⟩ KN hKN;refine lV ?_;intro _;have E:=u.hpk hdef id;have bW1:=u.hpk bW id;have v1:=vR.md0 u;by_cases hlt:i<s.poss.length
 ·have hlt' :(i:Int)<(s.poss.length:Int):=qZ;refine dY hlt' ?_;obtain⟨eb,eo,e10,e11⟩:=Zi (hW.poss.mod u d9) hlt;refine bo e10 (bo e11 ?_);obtain⟨x,V⟩:=di (s.poss[i]);rw[<-V];obtain⟨w2',R,e2',e3',b3',N⟩:=Pp x W1;obtain⟨p,hp0⟩:=di W1.heap.size;rw[<-hp0]at e2' e3' b3';refine bo e2' (iE e3' ?_);refine bo (MO (N.hpk bW1 id)) ?_;refine ao (bO p 0) R (by simp[go_sem]) (bo (ab8 b3') ?_);refine Di (v1.md0 N) λw4' m4' =>?_;obtain⟨k,hk⟩:=di (dO (tK s).cal.l x.c);rw[<-hk];refine dI ?_;refine dI ?_;refine yD _ λD b5' m5' =>?_;obtain⟨z,hz0⟩:=di w4'.heap.size;rw[<-hz0]at b5' |-;refine JQ (k' :=k.1) b5' λL b6' A=>?_;have M6' :M0 W1 L:=((N.trans m4').trans m5').on A λy g=>.inr (by have:=(N.trans m4').size;omega);refine dI ?_;by_cases hca:bG (tK s).cal.l x.c=0
  ·rw[aW hca,show(!true)=false from rfl,ay,aa dp];refine ao (gI ((i+1:Nat):Int)) L (by simp[go_sem];rw[ew qZ qZ]) ?_;refine hKN _ _ ⟨i+1,qZ,rfl,λy g=>?_,u.trans M6'⟩ (by show s.poss.length - (((i+1:Nat):Int)).toNat<s.poss.length - ((i:Int)).toNat;omega);rw[bR hlt,<-V]at g;rcases bf.1 g with g|g
   ·exact hal y g
   ·rw[cm.1 g];exact hca
  ·rw[bD hca,show(!false)=true from rfl,ay,ae rfl];refine zQ (M6'.hpk E id) λW9 mr=>?_;refine bad (nf λh0=>hca ?_) _ (((MW.trans u).trans M6').on mr λy g=>.inr ?_)
   ·rw[V];exact h0.poss _ (aq hlt)
   ·have:=M19.size;omega
 obtain rfl:i=s.poss.length:=qZ;refine eU ?_;rw[aK]at hal;have h0:wu s:=⟨hc16,hcup,hF0,hnx,hal⟩
 have sW1:kw W1 r s.day s.next s.fund ss:=u.hpk sW id;have hW1:=hW.md0 u;have hzW1:=u.size;refine bo (MO bW1) (bo (af2 sW1 t) ?_);have G:∀y,lq o y->w.heap.size<=y:=λy g=>by have:=(i4 y g).1;omega
 have hfr:tn s=(zD s).bind λS=>if S.state.ords=s.ords/\S.state.bids=s.bids then some S else none:=by unfold tn;rw[ae h0]
 have hdw:w.heap.size<=d:=by have:=M19.size;omega
 refine RG (s:=s) v1 (sJ.zero h0 hf) hW1 hf hlO hlB (λj y hj1 hj2 g B=>by have:=G y B;have:=(h j hj1 hj2).lt g;omega) (λT D' fp'' w2' hT vT hI mT nT=>?_) λw2' hT mT=>?_
 rotate_left
 ·refine lh ?_;refine zQ (mT.hpk E λB=>hdn d B rfl) λW9 mr=>?_;refine bad (by rw[hfr];unfold zD;rw[hT];rfl) _ (((MW.trans u).on mT λy g=>.inr (G y g)).on mr λy g=>.inr qZ)
 refine eU ?_;obtain⟨U,hU⟩:=hI;have hfl:zD s=some T:=hT;have hnpb:¬lq o Q:=λB=>(i4 Q B).2 rfl;have bW2:=mT.hpk bW1 hnpb;have M2' :M0 w w2' :=(MW.trans u).on mT λy g=>.inr (G y g);have hsbn:¬lq o r:=λB=>by have:=(i4 r B).1;omega
 have sW2:kw w2' r s.day s.next s.fund ss:=mT.hpk sW1 hsbn;have hdef2:=mT.hpk E λB=>hdn d B rfl;refine bo (MO bW2) ?_;refine C3 vT hU.ok λss' tb' lo R sT hlo N hb' =>?_;obtain⟨w4',e4',b4',m4'⟩:=Ds R;obtain⟨tb,htb⟩:∃p,p=R.heap.size:=⟨_,rfl⟩
 rw[<-htb]at e4' b4'
 have Z:∀i,3<=i->i<=7->∃a n c,ss' i=.slice a n c:=λi hi hj=>by
  obtain⟨a,cc,hs',-⟩:=(sT.own i hi hj).isSl;exact⟨_,_,_,hs'⟩
 obtain⟨D,e5',b5',m5'⟩:=YD (d:=T.cal.day) (n:=T.next) (f:=T.led.fund) (ss:=ss') b4' rfl Z;refine bo e4' (iE e5' ?_);have M45:M0 R D:=m4'.on m5' λy g=>.inr qZ;have M35:M0 w2' D:=N.trans M45;have sT5:=sT.mod M45 id λ_ _ _ _ _ h=>h.elim;have hO6:Rd D 6 (ss' 6) T.state.ords.length (T.state.ords.flatMap kC):=(sT5.own 6 qZ qZ).rd;have hO7:Rd D 6 (ss' 7) T.state.bids.length (T.state.bids.flatMap kC):=(sT5.own 7 qZ qZ).rd;have h5' :=h.md0 (M2'.trans M35);have sW5:kw D r s.day s.next s.fund ss:=M35.hpk sW2 id;have Y:T.state.ords.length<=100000/\T.state.bids.length<=100000:=Q2 hU.ok;refine cT.at (λst W' =>st=(.bool (!decide (T.state.ords=s.ords/\T.state.bids=s.bids)),())/\M0 D W') ?_ ?_
 ·refine bo (rm tb 6 qZ _) (bo (wp b5' Z).1 ?_);refine bo (rm r 6 qZ _) (bo (wp sW5 t).1 ?_);refine KB hO6 h5'.ords Y.1 λL A=>?_;by_cases c1:T.state.ords=s.ords
  rotate_left
  ·refine dY c1 ?_;exact⟨by simp[c1],A⟩
  refine fF c1 ?_;have b6' :kw L tb T.cal.day T.next T.led.fund ss' :=A.hpk b5' id;have sW6:kw L r s.day s.next s.fund ss:=A.hpk sW5 id;refine bo (rm tb 7 qZ _) (bo (wp b6' Z).2 ?_);refine bo (rm r 7 qZ _) (bo (wp sW6 t).2 ?_);refine KB (hO7.mod A d9) (h5'.md0 A).bids Y.2 λw7' m7' =>?_;refine wL (.bool (!decide (T.state.ords=s.ords/\T.state.bids=s.bids))) c1 ?_;exact⟨rfl,A.trans m7'⟩
 rintro _ L ⟨rfl,A⟩;refine kR ?_;intro _;have M:=M35.trans A;by_cases B:T.state.ords=s.ords/\T.state.bids=s.bids
 ·rw[aW B,show(!true)=false from rfl,ay,aa dp];refine bo (MO (M.hpk bW2 id)) ?_;refine zQ (M.hpk hdef2 id) λW9 mr=>?_;refine hK (ec v) 0 W9 ((M2'.trans M).on mr λy g=>.inr qZ) ?_;rw[hfr,hfl,Option.bind_some,ae B];refine⟨rfl,v,lq fp'',rfl,((vT.md0 M).mod mr λpt y g e=>?_).q,λy g=>?_⟩
  ·rcases nT y ⟨pt,g⟩with h' |h'
   ·exact hdn y h' e
   ·omega
  ·rcases nT y g with h' |h'
   ·exact G y h'
   ·omega
 ·rw[bD B,show(!false)=true from rfl,ay,ae rfl];refine zQ (M.hpk hdef2 id) λW9 mr=>?_;refine bad ?_ _ ((M2'.trans M).on mr λy g=>.inr qZ);rw[hfr,hfl,Option.bind_some,aa B]
end Go.Proofs
namespace Go.Proofs
open Go Go.Vc
def Yz(ss:Nat->Value)(s:uR):As:=⟨λw F=>(∀i,3<=i->i<=7->ic w (Tr i) (Qo i) (ss i) (LN s.accts s.cts s.poss s.ords s.bids i) (LC s.accts s.cts s.poss s.ords s.bids i))/\∀b,F b↔∃i,3<=i/\i<=7/\aF (ss i) b,λh hb=>by
  obtain⟨i,h1,h2,h3⟩:=(h.2 _).1 hb;exact(h.1 i h1 h2).lt h3,λh m hg=>⟨λi h1 h2=>(h.1 i h1 h2).mod m λb hb=>hg b ((h.2 b).2 ⟨i,h1,h2,hb⟩),h.2⟩⟩
def C0{S:bt}(h:S.Ok):(S.state.accts.length<=64/\S.state.cts.length<=16/\S.state.poss.length<=1024)/\S.state.ords.length<=3200/\S.state.bids.length<=800:=by
 have h1:=h.cal.len;have c:=h.led.led.len;have b:=Cx h.ord S.nums.length;have a:=BO h.ord S.nums.length;have d:S.nums.length=S.cal.l.length:=by unfold bt.nums;rw[ah]
 unfold wY at b;unfold wP at a;rw[aK,d]at b a;exact⟨⟨c,h1,by rw[oE h];exact tJ h.cal h.led⟩,by show(S.nums.flatMap _).length<=_;omega,by show(S.nums.flatMap _).length<=_;omega⟩
section
variable{L L0 M M' :List As}{φ:WP}{K:Value->WP}{v:Nat}{S:bt}{ss tt:Nat->Value}{x:Cm}{w0:Wt_}
def Oi(d:S.Ok)(j:∀ss,Gs (Yz ss S.state::L) (K (Fb S.state.day S.state.next S.state.fund ss)))(p:eG L (uM v S::M):=by exact fR):Gs L (Cw pQ 17 #[ec v] K):=
 Gs.nw (φ:=λk=>Cw pQ _ _ k) (val:=λss=>Fb S.state.day S.state.next S.state.fund ss) (p:=λ_=>True) (B:=λss=>Yz ss S.state) (λw y K h=>(iK p y).elim λF ⟨c,l,mb,md,A,D,q,o,s⟩=>C3 o d λss b t g f e m r=>h ss g _ trivial ⟨λi h1 a=>f.own i h1 a,λ_=>aG⟩ m λy ⟨i,h1,a,n⟩=>ck e (f.nw i y h1 a n).1) (λss _=>j ss)
def Yq(p:eG L (Yz ss S.state::M)):∀w,Ss w L->sX w ss S.state:=λw y=>(iK p y).elim λF h i h1 a=>(h.1 i h1 a).rd
def Rn(a:∀v,Gs (uM v bt.empty::L) (K (ec v))):Gs L (Cw pQ 8 #[] K):=U1 λv c l mb md=>vV (C:=bt.empty.cal) pI.nil (a v)
def En(a:S.Ok)(c:x.Fit)(b:∀t g u,RpB (S.apply x).1->Gs (uM v (S.apply x).2::Bm (ez t (S.apply x).1.trades.length) (S.apply x).1.trades::tL (ez g (S.apply x).1.gone.length) (S.apply x).1.gone::Ab (ez u (S.apply x).1.accts.length) (S.apply x).1.accts::L) (K (O0 (S.apply x).1 (ez t (S.apply x).1.trades.length) (ez g (S.apply x).1.gone.length) (ez u (S.apply x).1.accts.length))))(p:eG L0 (uM v S::L):=by exact fR):
  Gs L0 (Cw pQ 15 #[ec v,zF x] K):=(Oz a c b).pk p
def x9(p:eG L (Hi w0 (λ_=>False)::M)):∀w,Ss w L->M0 w0 w:=λw y=>(iK p y).elim λF h=>h.2
end
end Go.Proofs
namespace Go.Proofs
open Go Go.Vc
end Go.Proofs
namespace Go.Vc
variable {n:Nat}
def iM(n:Nat):List UInt8:=if n<128 then [UInt8.ofNat n]else UInt8.ofNat (n%128+128)::iM (n / 128)
 termination_by n
 decreasing_by omega
def un(h:n<128):iM n=[UInt8.ofNat n]:=by rw[iM,ae h]
def AO(h:¬n<128):iM n=UInt8.ofNat (n%128+128)::iM (n / 128):=by rw[iM,aa h]
def BD:∀(k n:Nat),n<128 ^ (k+1)->(iM n).length<=k+1
 |0,n,h=>by rw[un (by simpa using h)];simp
 |k+1,n,h=>by
  by_cases h1:n<128
  ·rw[un h1];simp
  ·rw[AO h1];have:=BD k (n / 128) (by grind);simp only[be];omega
def Ji(h:n<18446744073709551616):(iM n).length<=10:=BD 9 n (bI h (by decide))
def Lt(h:n<256):(UInt8.ofNat n).toNat=n:=by simp;omega
def CW:List UInt8->Nat->Nat->Except Nat (Nat×Nat)
 | [],_,_=>.error 4
 |x::r,k,acc=>
  if k=9/\1<x.toNat\/9<k then .error 5
  else if x.toNat<128 then(if x.toNat=0/\0<k then .error 5 else .ok (acc+x.toNat%128*128 ^ k,k+1))
  else CW r (k+1) (acc+x.toNat%128*128 ^ k)
def xF:∀(j n k acc:Nat) (r:List UInt8),n<128 ^ (j+1)->k+j=9->n*128 ^ k<18446744073709551616->(0<n\/k=0)->CW (iM n++r) k acc=.ok (acc+n*128 ^ k,k+(iM n).length)
 |j,n,k,acc,r,b,g,f,d=>by
  by_cases h1:n<128
  ·rw[un h1];simp only[eF,dL,CW,Lt (show n<256 by omega),ee]
   have a:¬(k=9/\1<n\/9<k):=by
    rintro(⟨rfl,h⟩|h)
    ·grind
    ·omega
   rw[aa a,ae h1,aa (by omega),nP h1]
  ·rw[AO h1];cases j with
   |zero=>simp at b;omega
   |succ j=>
    have a:¬(k=9/\1<n%128+128\/9<k):=by omega
    have c:(n%128+128)%128=n%128:=by omega
    simp only[eF,CW,Lt (show n%128+128<256 by omega),be];rw[aa a,aa (by omega),c]
    have e:n%128*128 ^ k+n / 128*128 ^ (k+1)=n*128 ^ k:=by
     rw[oy,eA (128 ^ k) 128,<-gR,<-ej];congr 1;omega
    rw[xF j (n / 128) (k+1) _ r (by grind) (by omega) (by omega) (by omega),ey,e];congr 2;omega
def O4(r:List UInt8)(h:n<18446744073709551616):CW (iM n++r) 0 0=.ok (n,(iM n).length):=by
 have:=xF 9 n 0 0 r (bI h (by decide)) rfl (by simpa using h) (.inr rfl);simpa using this
def xo:∀(l:List UInt8) (k acc n m:Nat),CW l k acc=.ok (n,m)->k<=9->
  ∃d,n=acc+d*128 ^ k/\m=k+(iM d).length/\(iM d).length<=l.length/\l.take (iM d).length=iM d/\(0<d\/k=0)/\d*128 ^ k<18446744073709551616
 | [],_,_,_,_,h,_=>by cases h
 |x::r,k,acc,n,m,h,G=>by
  have I:=x.toNat_lt;simp only[CW]at h;by_cases p:k=9/\1<x.toNat\/9<k
  ·grind
  rw[aa p]at h;have b:UInt8.ofNat x.toNat=x:=by simp
  have v:128 ^ k*128 ^ (9 - k)=9223372036854775808:=by
   rw[<-mU,show k+(9 - k)=9 by omega]
  by_cases h1:x.toNat<128
  ·rw[ae h1]at h;by_cases u:x.toNat=0/\0<k
   ·grind
   rw[aa u]at h;cases h;refine⟨x.toNat,by grind,?_,?_,?_,by omega,?_⟩
   ·rw[un h1];rfl
   ·rw[un h1];simp
   ·rw[un h1,b];simp
   ·by_cases z:k=9
    ·grind
    ·have C:128 ^ k<=128 ^ 8:=js (by decide) (by omega);have H:=fT (show x.toNat<=127 by omega) C;have e:(127:Nat)*128 ^ 8<18446744073709551616:=by decide
     omega
  ·rw[aa h1]at h;have A:k≠9:=λe=>p (.inl ⟨e,by omega⟩);obtain⟨d,f,t,w,i,E,B⟩:=xo r (k+1) _ n m h (by omega);have s:0<d:=by omega
   have y:(x.toNat%128+d*128) / 128=d:=by omega
   have o:(x.toNat%128+d*128)%128+128=x.toNat:=by omega
   have j:iM (x.toNat%128+d*128)=x::iM d:=by rw[AO (by omega),y,o,b]
   have q:(x.toNat%128+d*128)*128 ^ k=x.toNat%128*128 ^ k+d*128 ^ (k+1):=by
    rw[ej,oy,eA (128 ^ k) 128,gR]
   refine⟨x.toNat%128+d*128,?_,?_,?_,?_,by omega,?_⟩
   ·rw[f,q];omega
   ·grind
   ·grind
   ·rw[j];simp[i]
   ·rw[q]
    have D:x.toNat%128*128 ^ k<128 ^ (k+1):=by
     rw[oy,eA];exact Nat.mul_lt_mul_of_pos_left (gx _ (by decide)) (Nat.pow_pos (by decide))
    have a:128 ^ (k+1)*128 ^ (8 - k)=9223372036854775808:=by
     rw[<-mU,show k+1+(8 - k)=9 by omega]
    have g:d<2*128 ^ (8 - k):=by
     apply aQ;intro F;have:=cH (128 ^ (k+1)) (kS F);rw[gR,eA (128 ^ (8 - k)),a]at this;omega
    have c:=cH (128 ^ (k+1)) (show d+1<=2*128 ^ (8 - k)from g);rw[gR,eA (128 ^ (8 - k)),a,ej]at c;omega
def SU{l:List UInt8}{m:Nat}(h:CW l 0 0=.ok (n,m)):m=(iM n).length/\m<=l.length/\l.take m=iM n/\n<18446744073709551616:=by
 obtain⟨d,h1,b,e,c,_,a⟩:=xo l 0 0 n m h (by omega);simp only[Nat.pow_zero,pl,cX]at h1 b a;subst h1;subst b;exact⟨rfl,e,c,a⟩
structure Rs where
 at_:Nat
 e:Nat
def fd(l:List UInt8)(most:Nat)(s:Rs):Nat×Rs:=
 if s.e≠0 then(0,s)else
 match CW (l.drop s.at_) 0 0 with
 | .error e=>(0,{s with e:=e})
 | .ok (n,k)=>if most<n then(0,{s with e:=5})else(n,{s with at_:=s.at_+k})
def zr(l:List UInt8)(s:Rs):Nat:=if s.e=0/\s.at_<l.length then 5 else s.e
def ut{l:List UInt8}{most:Nat}{s:Rs}:(fd l most s).1<=most:=by
 unfold fd;split
 ·exact aH _
 ·split
  ·exact aH _
  ·split
   ·exact aH _
   ·grind
structure Tn where
 c:Nat
 q:Nat
 b:List UInt8
def Tn.May(o:Tn):Prop:=o.c<64/\o.q≠0/\o.b.length<=2000
instance(o:Tn):Decidable o.May:=by unfold Tn.May;infer_instance
end Go.Vc
namespace Go.Proofs
open Go Go.Vc
attribute [local congr] bj
variable {l:List UInt8}{r:Nat}{s:Rs}{v:Vt_}{w:Wt_}{K:aZ}
def YG:fY pQ 5 1 1=true:=cV
def u8C:Tryz.prog.cellsOf 5=0+1:=cV
abbrev Y6:TypeId:=28
def Q5:Tryz.prog.underlying Y6=some (.slice 5):=Tryz.underlying28
def Vp(n:Nat):bits .or .u8 (IntKind.u8.wrap (n:Int)) 128=((UInt8.ofNat (n%128+128)).toNat:Int):=by
 have a:IntKind.u8.wrap (n:Int)=((n%256:Nat):Int):=by rw[IntKind.wrap_u8];omega
 have b:(UInt8.ofNat (n%128+128)).toNat=n%128+128:=Lt qZ;rw[a,show(128:Int)=((128:Nat):Int)from rfl,u8_or_nat _ _ qZ qZ,b];congr 1;have h:∀m:Fin 256,m.val|||128=m.val%128+128:=by decide
 have:=h ⟨n%256,qZ⟩;simp only at this;rw[this];omega
def Vf{s:Vt_}{k n:Nat}(h:ic w 5 1 s k (bv l))(I:n<18446744073709551616)(N:k<=1000000000)
  (F:∀g t,ic t 5 1 g (k+(iM n).length) (bv (l++iM n))->aR (aF s) w t->(∀b,aF g b->aF s b\/w.heap.size<=b)->K g t):
  Ca pQ 72 #[s,gQ n] w K:=by
 refine cN Tryz.func72 ?_
 refine d8 (λst W=>∃(m:Nat) (a:List UInt8) (g:Vt_),iM n=a++iM m/\m<=n/\st=(gQ (m:Int),g,())/\ic W 5 1 g (k+a.length) (bv (l++a))/\aR (aF s) w W/\(∀b,aF g b->aF s b\/w.heap.size<=b))
  (λst _=>match st.1 with| .int _ i=>i.toNat|_=>0) ⟨n,[],s,rfl,aD _,rfl,by simpa using h,aR.refl _ _,λb o=>.inl o⟩ ?_
 rintro⟨_,_⟩ W ⟨m,a,g,c,O,⟨⟩,B,r,f⟩ M y;refine lV ?_;intro _;have p:=Ji I;rw[c,af]at p;by_cases E:128<=m
 ·have d:(128:Int)<=(m:Int):=qZ;refine ao (.bool true) W (by simp[go_sem,d]) ?_;rw[kJ];refine ao (gB (IntKind.u8.wrap (m:Int))) W (by simp[go_sem]) ?_;refine ao (gB (bits .or .u8 (IntKind.u8.wrap (m:Int)) 128)) W (by simp[go_sem]) ?_;rw[Vp];refine Xv [UInt8.ofNat (m%128+128)] Q5 (dB YG) rfl rfl qZ λv H z j L=>?_;refine kg (m:=1) Q5 Q5 (dB YG) (B.mod j d9) z.rd (JJ _) qZ λD C q u x=>?_;refine ao (gQ ((m / 128:Nat):Int)) C (by simp[go_sem]) ?_;have A:iM m=UInt8.ofNat (m%128+128)::iM (m / 128):=AO qZ;refine y _ _ ⟨m / 128,a++[UInt8.ofNat (m%128+128)],D,by rw[c,A];simp,qZ,rfl,?_,?_,?_⟩ ?_
  ·rw[<-zo,ar]at q;have e:k+(a++[UInt8.ofNat (m%128+128)]).length=k+a.length+1:=by simp;omega
   rw[e];exact q
  ·exact(r.on j λ_ h=>h.elim).on u f
  ·intro b o;rcases x b o with h1|h1
   ·exact f b h1
   ·have:=(r.on j (G:=λ_=>False) λ_ h=>h.elim).size;omega
  ·grind
 ·have d:¬(128:Int)<=(m:Int):=qZ;refine ao (.bool false) W (by simp[go_sem,d]) ?_;rw[jO]
  have J:IntKind.u8.wrap (m:Int)=((UInt8.ofNat m).toNat:Int):=by
   rw[Lt qZ,IntKind.wrap_u8];omega
  refine ao (gB (IntKind.u8.wrap (m:Int))) W (by simp[go_sem]) ?_;rw[J];refine Xv [UInt8.ofNat m] Q5 (dB YG) rfl rfl qZ λv H z j L=>?_;refine kg (m:=1) Q5 Q5 (dB YG) (B.mod j d9) z.rd (JJ _) qZ λD C q u x=>?_;have A:iM m=[UInt8.ofNat m]:=un qZ;refine F _ _ ?_ ((r.on j λ_ h=>h.elim).on u f) ?_
  ·rw[c,A];rw[<-zo,ar]at q;have e:k+(a++[UInt8.ofNat m]).length=k+a.length+1:=by simp;omega
   rw[e];exact q
  ·intro b o;rcases x b o with h1|h1
   ·exact f b h1
   ·have:=(r.on j (G:=λ_=>False) λ_ h=>h.elim).size;omega
def iW(r:Nat):Value:=bO r 0
structure gJ(w:Wt_)(r:Nat)(v:Vt_)(l:List UInt8)(s:Rs):Prop where
 blk:hp w r=some (.cells #[v,gI s.at_,gI s.e] 260 (0,0))
 rd:Rd w 1 v l.length (bv l)
 le:s.at_<=l.length
 ne:¬tq v r
 len:l.length<=1000000000
def gJ.mod{F:NP_}{w' :Wt_}(h:gJ w r v l s)(a:aR F w w')(h1:¬F r)(c:∀b,tq v b->¬F b):gJ w' r v l s:=
 ⟨a.keep h.blk h1,h.rd.mod a c,h.le,h.ne,h.len⟩
def gJ.lt(h:gJ w r v l s):r<w.heap.size:=aB h.blk
def ER(h:Rd w 1 v l.length (bv l))(d:l.length<=1000000000)
  (e:∀b,gJ b w.heap.size v l ⟨0,0⟩->M0 w b->K (iW w.heap.size) b):Ca pQ 65 #[v] w K:=by
 obtain⟨a,c,rfl⟩:=h.isSl;refine cN Tryz.func65 ?_;simp[go_sem];refine e _ ⟨?_,h.mod ((aR.refl _ w).alloc _) d9,aH _,λf=>Nat.lt_irrefl _ (h.lt f),d⟩ ((aR.refl _ w).alloc _);simp[go_sem]
def JE(h:gJ w r v l s)(a:K (.bool (decide (s.e≠0))) w):Ca pQ 168 #[iW r] w K:=by
 unfold iW;refine cN Tryz.func168 ?_;have c:=h.blk;simp[go_sem,iW,c]
 have e:((s.e:Int) != 0)=decide (s.e≠0):=by
  by_cases b:s.e=0<;>simp[b]
 first
  |exact a
  |(rw[e];exact a)
  |(simpa using a)
def IH(l:List UInt8)(at_:Nat):Value:=
 match CW (l.drop at_) 0 0 with
 | .error e=>.tuple #[.int .u64 0,gI 0,gI e]
 | .ok (n,k)=>.tuple #[.int .u64 n,gI (at_+k:Nat),gI 0]
def ak8(k:Nat):(2:Int) ^ (7*k)=((128 ^ k:Nat):Int):=by
 rw[Int.pow_mul];simp
def Xu(h:gJ w r v l s)(G:∀w',M0 w w' ->K (IH l s.at_) w'):Ca pQ 169 #[iW r] w K:=by
 have H:=h.blk;have hlen:=h.len;obtain⟨v',z,F,hin⟩:=h.rd.from_ (P:=pQ) Q5 u8C h.le .i64;simp only[cX,pl]at F;rw[Va]at F;unfold iW;refine cN Tryz.func169 ?_;simp only[iW,bU];refine du (bO r 0) (λW=>by simp[go_sem]) ?_;refine lN v (by simp[go_sem,H]) ?_;refine du (bO r 1) (λW=>by simp[go_sem]) ?_;refine lN (gI s.at_) (by simp[go_sem,H]) ?_;refine du v' z ?_;obtain⟨a',c',X⟩:=F.isSl;refine lN (gI ((l.length - s.at_:Nat):Int)) (by rw[X];simp[go_sem]) ?_;have o:=F.mod (aR.refl (λ_=>False) w).drew d9;generalize I:w.drew=U at o|-;have j:M0 w U:=by subst I;exact(aR.refl _ w).drew
 have hb1:hp U r=some (.cells #[v,gI s.at_,gI s.e] 260 (0,0)):=j.keep H id;obtain⟨L,q⟩:=di (l.drop s.at_);rw[<-q]at o;have hLl:L.length=l.length - s.at_:=by rw[q];simp
 refine d8 (λst W=>∃(i acc:Nat),i<=L.length/\i<=9/\acc<128 ^ i/\CW L 0 0=CW (L.drop i) i acc/\(∃x1 x2:Value,st=(gQ (acc:Int),x1,x2,gI (i:Int),()))/\W=U)
  (λst _=>match st.2.2.2.1 with| .int _ i=>10 - i.toNat|_=>0) ⟨0,0,qZ,qZ,by decide,rfl,⟨_,_,rfl⟩,rfl⟩ ?_
 rintro⟨_,_⟩ W ⟨i,acc,hi,Q,hacc,B,⟨x1,x2,⟨⟩⟩,rfl⟩ KN M;refine lV ?_;intro _;by_cases u:i<L.length
 ·obtain⟨b,N,cap,C,e,fz,R,hcap,hC,S⟩:=o.byte (i:=i) qZ u;have hx:=(L[i]).toNat_lt;have Y:L.drop i=L[i]::L.drop (i+1):=cD u;have g:(i:Int)<((l.length - s.at_:Nat):Int):=qZ;refine ao (.bool true) W (by simp[go_sem,g]) ?_;rw[ay,ae rfl,R];have D:i<l.length - s.at_:=qZ;refine ao (bO b (N+i)) W (by simp[go_sem,D,bK]) ?_;refine ao (gB ((L[i]).toNat:Int)) W (by simp[go_sem,hC,S]) ?_;obtain⟨x,m⟩:=di ((L[i]).toNat);rw[<-m];rw[<-m]at hx
  have a:CW L 0 0=if i=9/\1<x\/9<i then .error 5
    else if x<128 then(if x=0/\0<i then .error 5 else .ok (acc+x%128*128 ^ i,i+1))
    else CW (L.drop (i+1)) (i+1) (acc+x%128*128 ^ i):=by
   rw[B,Y];simp only[CW];rw[<-m]
  refine cT.at (λst T=>st=(.bool (decide (i=9/\1<x\/9<i)),())/\T=W) ?_ ?_
  ·by_cases Z:i=9
   ·subst Z;refine ao (.bool true) W (by simp[go_sem]) ?_;rw[kJ];by_cases h1:1<x
    ·have p:(1:Int)<(x:Int):=qZ;refine ao (.bool true) W (by simp[go_sem,p]) ?_;rw[kJ];exact⟨by simp[h1],rfl⟩
    ·have p:¬(1:Int)<(x:Int):=qZ;refine ao (.bool false) W (by simp[go_sem,p]) ?_;rw[jO];refine ao (.bool false) W (by simp[go_sem]) ?_;exact⟨by simp[h1],rfl⟩
   ·have J:¬(i:Int)=9:=qZ;have y:¬(9:Int)<(i:Int):=qZ;refine ao (.bool false) W (by simp[go_sem,J]) ?_;rw[jO];refine ao (.bool false) W (by simp[go_sem,y]) ?_;exact⟨by simp[Z];omega,rfl⟩
  rintro _ W ⟨rfl,rfl⟩;refine kR ?_;intro _;by_cases c:i=9/\1<x\/9<i
  ·rw[ae c]at a;simp only[c,decide_true,ay,df];have:=G _ j;unfold IH at this;rw[<-q,a]at this;exact this
  rw[aa c]at a;simp only[c,decide_false,ay,bi,dg]
  have ea:bits .and .u8 (x:Int) 127=((x%128:Nat):Int):=by
   rw[show(127:Int)=((127:Nat):Int)from rfl,u8_and_nat _ _ qZ qZ];congr 1;exact Nat.and_two_pow_sub_one_eq_mod x 7
  have hs:x%128*128 ^ i<18446744073709551616:=by
   by_cases Z:i=9
   ·grind
   ·have h8:128 ^ i<=128 ^ 8:=js (by decide) qZ;have h7:=fT (show x%128<=127 by omega) h8;have e8:(127:Nat)*128 ^ 8<18446744073709551616:=by decide
    omega
  have f:acc<18446744073709551616:=by
   have h8:128 ^ i<=128 ^ 9:=js (by decide) Q;have e9:(128:Nat) ^ 9=9223372036854775808:=by decide
   omega
  have eo:acc|||(x%128*128 ^ i)=acc+x%128*128 ^ i:=by
   have e1:(128:Nat) ^ i=2 ^ (7*i):=by rw[Nat.pow_mul]
   have:=Nat.two_pow_add_eq_or_of_lt (i:=7*i) (b:=acc) (by grind) (x%128);rw[<-e1,eA (128 ^ i)]at this;rw[Nat.or_comm,<-this,ov]
  have hsum:acc+x%128*128 ^ i<18446744073709551616:=by
   rw[<-eo];exact Nat.or_lt_two_pow (n:=64) f hs
  refine ao (gB ((x%128:Nat):Int)) W (by simp only[go_sem];simp[-Int.natCast_emod,go_sem,ea]) ?_;refine ao (gQ ((x%128:Nat):Int)) W (by simp[-Int.natCast_emod,go_sem,ly (n:=((x%128:Nat):Int)) qZ qZ]) ?_;refine ao (gI ((7*i:Nat):Int)) W (by simp[go_sem];rw[ew qZ qZ]) ?_;refine ao (gQ ((x%128*128 ^ i:Nat):Int)) W ?_ ?_
  ·have e7:((7*i:Nat):Int).toNat=7*i:=qZ;have e8:¬((7*i:Nat):Int)<0:=qZ;simp[-Int.natCast_mul,-Int.natCast_emod,go_sem,e7,e8];rw[ak8,<-eO,ly qZ qZ]
  refine ao (gQ ((acc+x%128*128 ^ i:Nat):Int)) W ?_ ?_
  ·simp only[go_sem];simp[-Int.natCast_add,-Int.natCast_mul,-Int.natCast_emod,go_sem];rw[u64_or_nat _ _ f hs,eo]
  by_cases k:x<128
  ·have d:(x:Int)<128:=qZ;rw[ae k]at a;refine ao (.bool true) W (by simp[go_sem,d]) ?_;rw[kJ];refine cT.at (λst T=>st=(.bool (decide (x=0/\0<i)),())/\T=W) ?_ ?_
   ·by_cases V:x=0
    ·refine ao (.bool true) W (by simp[go_sem,V]) ?_;rw[kJ];refine ao (.bool (decide ((0:Int)<(i:Int)))) W (by simp[go_sem]) ?_;refine⟨?_,rfl⟩;have e:decide ((0:Int)<(i:Int))=decide (x=0/\0<i):=by grind
     rw[e]
    ·have h0' :¬(x:Int)=0:=qZ;refine ao (.bool false) W (by simp[go_sem,V]) ?_;rw[jO];exact⟨by simp[V],rfl⟩
   rintro _ W ⟨rfl,rfl⟩;refine kR ?_;intro _;by_cases E:x=0/\0<i
   ·rw[ae E]at a;simp only[E,and_self,decide_true,ay,df];have:=G _ j;unfold IH at this;rw[<-q,a]at this;exact this
   rw[aa E]at a;simp only[E,decide_false,ay,bi,dg];have hat:s.at_+i+1<9223372036854775808:=qZ;simp only[iW,bU];refine du (bO r 1) (λW=>by simp[go_sem]) ?_
   have t:∀A,A.heap=W.heap->(iL 3 (bO r 1)).run pQ A=.ok (gI s.at_) A:=λA e=>by
    have O:hp A r=some (.cells #[v,gI s.at_,gI s.e] 260 (0,0)):=by unfold hp;rw[e];exact hb1
    simp[go_sem,O]
   refine lN (gI s.at_) (t _ rfl) ?_;refine du (gI ((s.at_+i:Nat):Int)) (λW=>by simp[go_sem];rw[ew qZ qZ]) ?_;refine du (gI ((s.at_+(i+1):Nat):Int)) (λW=>by simp[go_sem];rw[ew qZ qZ];omega) ?_;refine⟨t _ rfl,?_⟩;have:=G _ j.drew;unfold IH at this;rw[<-q,a]at this;exact this
  ·have d:¬(x:Int)<128:=qZ;rw[aa k]at a;refine ao (.bool false) W (by simp[go_sem,d]) ?_;rw[jO];refine ao (gI ((i+1:Nat):Int)) W (by simp[go_sem];rw[ew qZ qZ]) ?_;have hi9' :i≠9:=λe=>c (.inl ⟨e,qZ⟩);refine M _ _ ⟨i+1,_,qZ,qZ,?_,a,⟨_,_,rfl⟩,rfl⟩ ?_
   ·rw[oy];have:x%128*128 ^ i<=127*128 ^ i:=cH _ qZ;omega
   ·grind
 ·have g:¬(i:Int)<((l.length - s.at_:Nat):Int):=qZ;refine ao (.bool false) W (by simp[go_sem,g]) ?_;rw[jO]
  have a:CW L 0 0=.error 4:=by
   rw[B,List.drop_eq_nil_of_le qZ];rfl
  have:=G _ j;unfold IH at this;rw[<-q,a]at this;exact this
end Go.Proofs
namespace Go.Proofs
open Go Go.Vc
attribute [local congr] bj
variable {l:List UInt8}{r:Nat}{s:Rs}{v:Vt_}{w:Wt_}{K:aZ}
def UD:∀{k acc e:Nat},CW l k acc=.error e->e=4\/e=5:=by
 induction l with
 |nil=>intro k acc e h;cases h;exact .inl rfl
 |cons x r a=>
  intro k acc e h;simp only[CW]at h;split at h
  ·cases h;exact .inr rfl
  ·split at h
   ·split at h
    ·cases h;exact .inr rfl
    ·cases h
   ·exact a h
def gJ.fault(h:gJ w r v l s)(e:Nat):
  gJ (w.setCell ⟨r,2,none⟩ (gI e)) r v l {s with e:=e}/\aR (λb=>b=r) w (w.setCell ⟨r,2,none⟩ (gI e)):=by
 have a:aR (λb=>b=r) w (w.setCell ⟨r,2,none⟩ (gI e)):=(aR.refl (λb=>b=r) w).setCell (.inl rfl) _ _;exact⟨⟨by simp[go_sem,h.blk],h.rd.mod a λb c e=>h.ne (by grind),h.le,h.ne,h.len⟩,a⟩
def gJ.go(h:gJ w r v l s)(a:Nat)(d:a<=l.length):
  gJ (w.setCell ⟨r,1,none⟩ (gI a)) r v l {s with at_:=a}/\aR (λb=>b=r) w (w.setCell ⟨r,1,none⟩ (gI a)):=by
 have c:aR (λb=>b=r) w (w.setCell ⟨r,1,none⟩ (gI a)):=(aR.refl (λb=>b=r) w).setCell (.inl rfl) _ _;exact⟨⟨by simp[go_sem,h.blk],h.rd.mod c λb f e=>h.ne (by grind),d,h.ne,h.len⟩,c⟩
def qD{most:Nat}(h:gJ w r v l s)(x:most<18446744073709551616)
  (g:∀u,gJ u r v l (fd l most s).2->aR (λb=>b=r) w u->K (gQ (fd l most s).1) u):Ca pQ 67 #[iW r,gQ most] w K:=by
 unfold iW;refine cN Tryz.func67 ?_;refine JE h ?_;by_cases q:s.e≠0
 ·rw[ay,ae (by simpa using q)];have i:fd l most s=(0,s):=by unfold fd;rw[ae q]
  rw[i]at g;exact g _ h (aR.refl _ _)
 rw[ay,aa (by simpa using q)]
 have i:fd l most s=match CW (l.drop s.at_) 0 0 with
  | .error e=>(0,{s with e:=e})
  | .ok (n,k)=>if most<n then(0,{s with e:=5})else(n,{s with at_:=s.at_+k}):=by unfold fd;rw[aa q]<;>cases CW (l.drop s.at_) 0 0<;>rfl
 refine Xu h λa o=>?_;have h1:=h.mod o id d9
 have tail:∀(e n k:Nat) (a:Wt_),gJ a r v l s->M0 w a->s.at_+k<=l.length->
   (if e≠0 then fd l most s=(0,{s with e:=e})else fd l most s=(n,{s with at_:=s.at_+k}))->
   WA (iW r) K (gI (s.at_+k:Nat)) (gQ n) (gI e,()) a:=by
  intro e n k a h1 o C t;unfold WA;intro _;have A:∀y,aR (λb=>b=r) a y->aR (λb=>b=r) w y:=λy B=>(o.to).trans B;by_cases z:e≠0
  ·rw[ae z]at t;rw[t]at g;have f:¬(e:Int)=0:=qZ;refine ao (.bool true) a (by simp[go_sem,f];omega) ?_;rw[kJ];obtain⟨m,j⟩:=h1.fault e;simp only[iW,bU];refine ao (bO r 2) a (by simp[go_sem]) ?_;refine nE (a.setCell ⟨r,2,none⟩ (gI e)) (by simp[go_sem,h1.blk]) ?_;exact g _ m (A _ j)
  ·rw[aa z]at t;rw[t]at g;have f:(e:Int)=0:=qZ;refine ao (.bool false) a (by simp[go_sem,f]) ?_;rw[jO];obtain⟨m,j⟩:=h1.go (s.at_+k) C;simp only[iW,bU];refine ao (bO r 1) a (by simp[go_sem]) ?_;refine nE (a.setCell ⟨r,1,none⟩ (gI (s.at_+k:Nat))) (by simp[-Int.natCast_add,go_sem,h1.blk]) ?_;exact g _ m (A _ j)
 cases d:CW (l.drop s.at_) 0 0 with
 |error e=>
  have D:=UD d;unfold IH;rw[d]at i|-;simp only at i|-;refine ao (gQ 0) a (by simp[go_sem]) ?_;refine ao (gI 0) a (by simp[go_sem]) ?_;refine ao (gI e) a (by simp[go_sem]) ?_;refine cT.at (λst W=>st=(gI e,())/\W=a) ?_ ?_
  ·refine cT.at (λst W=>st=(.bool false,())/\W=a) ?_ ?_
   ·have f:¬(e:Int)=0:=qZ;refine ao (.bool false) a (by simp[go_sem];omega) ?_;rw[jO];exact⟨rfl,rfl⟩
   ·rintro _ a ⟨rfl,rfl⟩;refine kR ?_;intro _;rw[jO];exact⟨rfl,rfl⟩
  ·rintro _ a ⟨rfl,rfl⟩;have G:e≠0:=qZ;refine kR ?_;intro _;rw[i]at g;refine ao (.bool true) a (by simp[go_sem];omega) ?_;rw[kJ];obtain⟨m,j⟩:=h1.fault e;simp only[iW,bU];refine ao (bO r 2) a (by simp[go_sem]) ?_;refine nE (a.setCell ⟨r,2,none⟩ (gI e)) (by simp[go_sem,h1.blk]) ?_;exact g _ m ((o.to).trans j)
 |ok p=>
  obtain⟨n,k⟩:=p;have E:=SU d;have F:=h.le;rw[bC]at E;unfold IH;rw[d]at i|-;simp only at i|-;refine ao (gQ n) a (by simp[go_sem]) ?_;refine ao (gI (s.at_+k:Nat)) a (by simp[go_sem]) ?_;refine ao (gI 0) a (by simp[go_sem]) ?_;refine cT.at (λst W=>st=(gI (if most<n then 5 else 0:Nat),())/\W=a) ?_ ?_
  ·refine cT.at (λst W=>st=(.bool (decide (most<n)),())/\W=a) ?_ ?_
   ·refine ao (.bool true) a (by simp[go_sem]) ?_;rw[kJ];refine ao (.bool (decide (most<n))) a (by simp[go_sem]) ?_;exact⟨rfl,rfl⟩
   ·rintro _ a ⟨rfl,rfl⟩;refine kR ?_;intro _;by_cases c:most<n
    ·rw[ay,ae (by simpa using c),ae c];simp
    ·rw[ay,aa (by simpa using c),aa c];simp
  ·rintro _ a ⟨rfl,rfl⟩;refine tail (if most<n then 5 else 0) n k _ h1 o qZ ?_;by_cases c:most<n
   ·grind
   ·grind
def K9(h:gJ w r v l s)
  (c:∀a,gJ a r v l (fd l 18446744073709551615 s).2->aR (λb=>b=r) w a->K (gQ (fd l 18446744073709551615 s).1) a):Ca pQ 68 #[iW r] w K:=by
 unfold iW;refine cN Tryz.func68 ?_;exact qD h (by decide) c
def Uq(h:gJ w r v l s)
  (g:∀f,M0 w f->K (gI (zr l s)) f):Ca pQ 70 #[iW r] w K:=by
 have b:=h.blk;obtain⟨a,c,rfl⟩:=h.rd.isSl;unfold iW;refine cN Tryz.func70 ?_;refine ao (.bool false) w (by simp[go_sem,iW]) ?_;rw[jO];refine cT.at (λst W=>st=(.bool (decide (s.e=0/\s.at_<l.length)),())/\W=w.drew) ?_ ?_
 ·simp only[iW,bU];refine du (bO r 2) (λW=>by simp[go_sem]) ?_;refine lN (gI s.e) (by simp[go_sem,b]) ?_;by_cases e:s.e=0
  ·refine du (.bool true) (λW=>by simp[go_sem,e]) ?_;rw[kJ];refine du (bO r 1) (λW=>by simp[go_sem]) ?_;refine lN (gI s.at_) (by simp[go_sem,b]) ?_;refine du (bO r 0) (λW=>by simp[go_sem]) ?_;refine lN (.slice a l.length c) (by simp[go_sem,b]) ?_;refine lN (gI l.length) (by simp[go_sem]) ?_;refine du (.bool (decide (s.at_<l.length))) (λW=>by simp[go_sem]) ?_;simp[e]
  ·refine du (.bool false) (λW=>by simp[go_sem];omega) ?_;rw[jO];simp[e]
 rintro _ _ ⟨rfl,rfl⟩;refine kR ?_;intro _;have i:M0 w w.drew:=(aR.refl _ w).drew;by_cases d:s.e=0/\s.at_<l.length
 ·rw[ay,ae (by simpa using d)];have:=g _ i;unfold zr at this;rw[ae d]at this;exact this
 ·rw[ay,aa (by simpa using d)];have:=g _ i;unfold zr at this;rw[aa d]at this;simp only[iW,bU];refine ao (bO r 2) w.drew (by simp[go_sem]) ?_;refine ao (gI s.e) w.drew (by simp[go_sem,b]) ?_;exact this
end Go.Proofs
namespace Go.Proofs
open Go Go.Vc
def PC(x:Int):Nat:=if 0<=x then 2*x.toNat else 2*(-x - 1).toNat+1
def Wg(n:Nat):Int:=if n%2=0 then(n / 2:Nat)else -((n / 2:Nat):Int) - 1
def VK(x:Int):Wg (PC x)=x:=by
 unfold PC;by_cases h:0<=x
 ·rw[ae h];unfold Wg;rw[ae qZ];omega
 ·rw[aa h];unfold Wg;rw[aa qZ];omega
def EI{x:Int}(h:ed x):PC x<18446744073709551616:=by
 unfold PC;split<;>omega
def Vb{n:Nat}(h:n<18446744073709551616):ed (Wg n):=by
 unfold Wg;split<;>(constructor<;>omega)
def dJ(x:Int):List UInt8:=iM x.toNat
def lS(x:Int):List UInt8:=iM (PC x)
def qO(f:Bool):List UInt8:=[if f then 1 else 0]
def Jh(s:Sp):List UInt8:=
 if s.may then dJ s.num++(dJ s.route++(dJ s.tick++(dJ s.lot++(dJ s.band++dJ s.limit))))++s.shifts.toList.flatMap lS++(dJ s.credit++(dJ s.last++dJ s.first))else []
def Gr(a:Ac):List UInt8:=dJ a.num++(lS a.cash++(qO a.kil++qO a.dfl))
def HL(k:Ct):List UInt8:=Jh k.spec++(dJ k.st++lS k.price)
def GK(p:Po):List UInt8:=dJ p.c++(dJ p.a++(lS p.q++lS p.b))
def Cs(x:Int×Od):List UInt8:=dJ x.1++(dJ x.2.num++(dJ x.2.acct++(qO x.2.buy++(lS x.2.price++lS x.2.left))))
def xf{α:Type}(f:α->List UInt8)(l:List α):List UInt8:=iM l.length++l.flatMap f
def tz(s:uR):List UInt8:=dJ s.day++(dJ s.next++(lS s.fund++(xf Gr s.accts++(xf HL s.cts++(xf GK s.poss++(xf Cs s.ords++xf Cs s.bids))))))
def eH(l:List UInt8)(most:Nat)(s:Rs):Int×Rs:=((fd l most s).1,(fd l most s).2)
def kB(l:List UInt8)(s:Rs):Int×Rs:=(Wg (fd l 18446744073709551615 s).1,(fd l 18446744073709551615 s).2)
def rQ(l:List UInt8)(s:Rs):Bool×Rs:=
 if s.e≠0 then(false,s)else if s.at_=l.length then(false,{s with e:=4})
 else if 1<(l.getD s.at_ 0).toNat then(false,{s with e:=5})else(decide ((l.getD s.at_ 0).toNat=1),{s with at_:=s.at_+1})
def Jq(e:Nat)(s:Rs):Rs:=if s.e≠0 then s else{s with e:=e}
def ii(l:List UInt8):Nat->Rs->List Int×Rs
 |0,s=>([],s)
 |n+1,s=>((kB l s).1::(ii l n (kB l s).2).1,(ii l n (kB l s).2).2)
def wZ(l:List UInt8):∀(n:Nat) (s:Rs),(ii l n s).1.length=n
 |0,s=>rfl
 |n+1,s=>by simp only[ii,be,wZ l n]
def FN:Nat:=4294967295
def oP:Nat:=9223372036854775807
def W64:Nat:=18446744073709551615
def tI(l:List UInt8)(s:Rs):Sp×Rs:=
 let a:=eH l FN s;let b:=eH l 255 a.2;let c:=eH l oP b.2;let d:=eH l oP c.2;let e:=eH l oP d.2;let f:=eH l oP e.2;let g:=ii l 16 f.2;let h:=eH l oP g.2;let i:=eH l FN h.2;let j:=eH l oP i.2
 (⟨a.1,b.1,c.1,d.1,e.1,f.1,⟨g.1.toArray,by simp[g,wZ]⟩,h.1,i.1,j.1⟩,j.2)
def CM(l:List UInt8)(s:Rs):Sp×Rs:=if(tI l s).1.may then tI l s else(uv,Jq 5 (tI l s).2)
def Zk(l:List UInt8)(s:Rs):Ac×Rs:=
 let a:=eH l FN s;let b:=kB l a.2;let c:=rQ l b.2;let d:=rQ l c.2
 (⟨a.1,b.1,c.1,d.1⟩,d.2)
def ad9(l:List UInt8)(s:Rs):Ct×Rs:=
 let a:=CM l s;let b:=eH l 255 a.2;let c:=kB l b.2
 (⟨a.1,b.1,c.1⟩,c.2)
def ac7(l:List UInt8)(s:Rs):Po×Rs:=
 let a:=eH l FN s;let b:=eH l FN a.2;let c:=kB l b.2;let d:=kB l c.2
 (⟨a.1,b.1,c.1,d.1⟩,d.2)
def ZC(l:List UInt8)(s:Rs):(Int×Od)×Rs:=
 let a:=eH l FN s;let b:=eH l W64 a.2;let c:=eH l FN b.2;let d:=rQ l c.2;let e:=kB l d.2;let f:=kB l e.2
 ((a.1,⟨b.1,c.1,d.1,e.1,f.1⟩),f.2)
def Pn{α:Type}(l:List UInt8)(f:Rs->α×Rs):Nat->List α->Rs->List α×Rs
 |0,acc,s=>(acc,s)
 |n+1,acc,s=>if l.length - (f s).2.at_=0/\zr l (f s).2≠0 then([],(f s).2)else Pn l f n (acc++[(f s).1]) (f s).2
def Jb{α:Type}(l:List UInt8)(f:Rs->α×Rs)(most:Nat)(s:Rs):List α×Rs:=Pn l f (fd l most s).1 [] (fd l most s).2
attribute [local irreducible] eH kB rQ ii
attribute [local irreducible] CM Zk ad9 ac7 ZC Jb
end Go.Proofs
namespace Go.Proofs
open Go Go.Vc
attribute [local congr] bj
variable {l:List UInt8}{r:Nat}{s:Rs}{v:Vt_}{w:Wt_}{K:aZ}
def aj8(a b:Nat)(W:Wt_):(io .lss 3 false (gI (a:Int)) (gI (b:Int))).run pQ W=.ok (.bool (decide (a<b))) W:=by simp[go_sem]
def ad3{i:Nat}(h:i<1000000)(W:Wt_):(io .add 3 true (gI (i:Int)) (gI 1)).run pQ W=.ok (gI ((i+1:Nat):Int)) W:=by
 simp[go_sem];rw[ew qZ qZ]
def P0(a:Nat)(b:a<9223372036854775808):bits .xor .i64 (a:Int) 0=(a:Int):=by
 show IntKind.i64.wrap ((BitVec.ofInt 64 (a:Int) ^^^ BitVec.ofInt 64 0).toNat:Int)=_;have h1:BitVec.ofInt 64 0=0#64:=by decide
 rw[h1,BitVec.xor_zero,ofInt_u64 a qZ];simp[IntKind.wrap,IntKind.bits,IntKind.signed];omega
def RI(a:Nat)(b:a<9223372036854775808):bits .xor .i64 (a:Int) (-1)= -1 - (a:Int):=by
 rw[<-i64_not a b];show IntKind.i64.wrap ((BitVec.ofInt 64 (a:Int) ^^^ BitVec.ofInt 64 (-1)).toNat:Int)=IntKind.i64.wrap ((BitVec.ofInt 64 (-1) ^^^ BitVec.ofInt 64 (a:Int)).toNat:Int);rw[BitVec.xor_comm]
def QU(a:Nat)(b:a<18446744073709551616):bits .xor .u64 (a:Int) 18446744073709551615=((18446744073709551615 - a:Nat):Int):=by
 show IntKind.u64.wrap ((BitVec.ofInt 64 (a:Int) ^^^ BitVec.ofInt 64 18446744073709551615).toNat:Int)=_;have h1:BitVec.ofInt 64 18446744073709551615=BitVec.allOnes 64:=by decide
 rw[h1,BitVec.xor_allOnes,BitVec.toNat_not,ofInt_u64 a b,IntKind.wrap_u64];omega
def RD(a:Nat)(b:a<18446744073709551616):bits .xor .u64 (a:Int) 0=(a:Int):=by
 have:=u64_xor_nat a 0 b qZ;simpa using this
def Lp(h:gJ w r v l s)
  (f:∀d,gJ d r v l (kB l s).2->aR (λb=>b=r) w d->K (gI (kB l s).1) d):Ca pQ 107 #[iW r] w K:=by
 unfold iW;refine cN Tryz.func107 ?_;refine K9 h λa h1 g=>?_;have c:=f a h1 g;unfold kB at c;simp only at c;have i:(fd l 18446744073709551615 s).1<=18446744073709551615:=ut;generalize(fd l 18446744073709551615 s).1=n at c i|-;refine ao (gQ ((n / 2:Nat):Int)) a (by simp[go_sem]) ?_;refine ao (gI ((n / 2:Nat):Int)) a (by simp[-Int.natCast_ediv,go_sem];rw[ew qZ qZ]) ?_;refine ao (gQ ((n%2:Nat):Int)) a (by simp only[go_sem];simp[-Int.natCast_emod,go_sem];rw[show(1:Int)=((1:Nat):Int)from rfl,u64_and_nat _ _ qZ qZ,nat_mask1]) ?_;refine ao (gI ((n%2:Nat):Int)) a (by simp[-Int.natCast_emod,go_sem];rw[ew qZ qZ]) ?_;by_cases e:n%2=0
 ·rw[e];refine ao (gI 0) a (by simp[go_sem];decide) ?_;refine ao (gI ((n / 2:Nat):Int)) a (by simp only[go_sem];simp[-Int.natCast_ediv,go_sem];rw[P0 _ qZ]) ?_;unfold Wg at c;rw[ae e]at c;exact c
 ·rw[show n%2=1 by omega];refine ao (gI (-1)) a (by simp[go_sem];decide) ?_;refine ao (gI (-((n / 2:Nat):Int) - 1)) a (by simp only[go_sem];simp[-Int.natCast_ediv,go_sem];rw[RI _ qZ];omega) ?_;unfold Wg at c;rw[aa e]at c;exact c
def Em(W:Wt_){r:Nat}{v:Vt_}{l:List UInt8}{s:Rs}(h:gJ W r v l s):(iL 28 (bO r 0)).run pQ W=.ok v W/\(iL 3 (bO r 1)).run pQ W=.ok (gI s.at_) W:=by
 obtain⟨a,c,rfl⟩:=h.rd.isSl;have b:=h.blk;exact⟨by simp[go_sem,b],by simp[go_sem,b]⟩
def zt(i:Nat)(hi:i<3)(W:Wt_){r:Nat}:(iF 260 (bO r 0) i).run pQ W=.ok (bO r i) W:=by
 have:i=0\/i=1\/i=2:=qZ;rcases this with rfl|rfl|rfl<;>simp[go_sem]
def gJ.drew(h:gJ w r v l s):gJ w.drew r v l s:=h.mod (aR.refl (λ_=>False) w).drew id d9
def Pi(h:gJ w r v l s)
  (c:∀z,gJ z r v l (rQ l s).2->aR (λb=>b=r) w z->K (.bool (rQ l s).1) z):Ca pQ 110 #[iW r] w K:=by
 have M:=h.le;have F:=h.len;unfold iW;refine cN Tryz.func110 ?_;refine JE h ?_;unfold rQ at c;by_cases t:s.e≠0
 ·rw[ay,ae (by simpa using t)];rw[ae t]at c;exact c _ h (aR.refl _ _)
 rw[ay,aa (by simpa using t)];rw[aa t]at c;obtain⟨O,vc,L⟩:=h.rd.isSl;have h1:=h.drew;have G:aR (λb=>b=r) w w.drew:=(aR.refl _ w).drew;simp only[iW,bU];refine cx (λW=>zt 1 qZ W) (cK (Em _ h1).2 ?_);refine cx (λW=>zt 0 qZ W) (cK (Em _ h1).1 ?_);refine lN (gI l.length) (by rw[L];simp[go_sem]) ?_;refine du (.bool (decide (s.at_=l.length))) (λW=>by simp[go_sem];rw[dh];simp;omega) ?_;by_cases a:s.at_=l.length
 ·rw[ae a]at c;rw[ay,ae (by simpa using a)];obtain⟨o,k⟩:=h1.fault 4;refine bo (zt 2 qZ _) (nE (w.drew.setCell ⟨r,2,none⟩ (gI 4)) (by simp[go_sem,h1.blk]) ?_);exact c _ o (G.trans k)
 rw[aa a]at c;rw[ay,aa (by simpa using a)];have d:s.at_<l.length:=qZ;have f:=h1.drew;have y:aR (λb=>b=r) w w.drew.drew:=G.drew;generalize w.drew.drew=m at f y|-;obtain⟨b,p,I,C,J,H,j,E,hC,A⟩:=Rd.byte f.rd d d;have u:l.getD s.at_ 0=l[s.at_]:=by simp[d]
 rw[u]at c;generalize l[s.at_]=x at A c;refine cx (λW=>zt 0 qZ W) (cK (Em _ f).1 ?_);refine cx (λW=>zt 1 qZ W) (cK (Em _ f).2 ?_);have i:¬(l.length:Int)<=(s.at_:Int):=qZ;refine du (bO b (p+s.at_)) (λW=>by rw[j];simp[go_sem,i,d,bK]) ?_;refine lN (gB (x.toNat:Int)) (by simp[go_sem,hC,A]) ?_;refine du (.bool (decide (1<x.toNat))) (λW=>by simp[go_sem];omega) ?_;by_cases g:1<x.toNat
 ·rw[ae g]at c;rw[ay,ae (by simpa using g)];obtain⟨o,k⟩:=f.fault 5;refine bo (zt 2 qZ _) (nE (m.setCell ⟨r,2,none⟩ (gI 5)) (by simp[go_sem,f.blk]) ?_);exact c _ o (y.trans k)
 rw[aa g]at c;rw[ay,aa (by simpa using g)];refine bo (zt 1 qZ _) (bo (Em _ f).2 ?_);refine ao (gI ((s.at_+1:Nat):Int)) m (by simp[go_sem];rw[ew qZ qZ]) ?_;obtain⟨o,k⟩:=f.go (s.at_+1) qZ;refine bo (zt 1 qZ _) (nE (m.setCell ⟨r,1,none⟩ (gI (s.at_+1:Nat))) (by simp[-Int.natCast_add,go_sem,f.blk]) ?_);have q:=o.drew;have D:aR (λb=>b=r) w (m.setCell ⟨r,1,none⟩ (gI (s.at_+1:Nat))).drew:=(y.trans k).drew;have B:b≠r:=λe=>f.ne (by rw[j,<-e];exact⟨_,_,_,rfl,qZ,rfl⟩);have n:hp (m.setCell ⟨r,1,none⟩ (gI (s.at_+1:Nat))).drew b=some (.cells C J H):=(k.drew).hpk hC B;generalize(m.setCell ⟨r,1,none⟩ (gI (s.at_+1:Nat))).drew=N at q D n|-;refine cx (λW=>zt 0 qZ W) (cK (Em _ q).1 ?_);refine cx (λW=>zt 1 qZ W) (cK (Em _ q).2 ?_);refine du (gI (s.at_:Int)) (λW=>by simp[go_sem];rw[ew qZ qZ]) ?_;refine du (bO b (p+s.at_)) (λW=>by rw[j];simp[go_sem,i,d,bK]) ?_;refine lN (gB (x.toNat:Int)) (by simp[go_sem,n,A]) ?_;refine du (.bool (decide (x.toNat=1))) (λW=>by simp[go_sem];rw[dh];simp;omega) ?_;exact c _ q D
def Qr(h:gJ w r v l s)
  (e:∀a,M0 w a->K (gI ((l.length - s.at_:Nat):Int)) a):Ca pQ 193 #[iW r] w K:=by
 have d:=h.le;have b:=h.len;unfold iW;refine cN Tryz.func193 ?_;refine ao (.bool false) w (by simp[go_sem,iW]) ?_;rw[jO];simp only[iW,bU];have h1:=h.drew;obtain⟨f,vc,c⟩:=h.rd.isSl;refine cx (λW=>zt 0 qZ W) (cK (Em _ h1).1 ?_);refine lN (gI l.length) (by rw[c];simp[go_sem]) ?_;refine cx (λW=>zt 1 qZ W) (cK (Em _ h1).2 ?_);refine du (gI ((l.length - s.at_:Nat):Int)) (λW=>by simp[go_sem];rw[ew qZ qZ];omega) ?_;exact e _ (aR.refl _ w).drew
def Sh{e:Nat}(h:gJ w r v l s)
  (a:∀d,gJ d r v l (Jq e s)->aR (λb=>b=r) w d->K (.tuple #[]) d):Ca pQ 69 #[iW r,gI e] w K:=by
 unfold iW;refine cN Tryz.func69 ?_;refine JE h ?_;refine ao (.bool (decide (s.e=0))) w (by simp[go_sem]) ?_;unfold Jq at a;by_cases c:s.e≠0
 ·rw[ae c]at a;rw[ay,aa (by simpa using c)];exact a _ h (aR.refl _ _)
 ·rw[aa c]at a;rw[ay,ae (by simpa using c)];simp only[iW,bU];obtain⟨g,f⟩:=h.fault e;refine bo (zt 2 qZ _) (nE (w.setCell ⟨r,2,none⟩ (gI e)) (by simp[go_sem,h.blk]) ?_);exact a _ g f
def OM{x:Int}(h:ed x)(a:K (gQ (PC x:Int)) w):Ca pQ 192 #[.int .i64 x] w K:=by
 refine cN Tryz.func192 ?_;by_cases b:0<=x
 ·obtain⟨n,rfl⟩:=Int.eq_ofNat_of_zero_le b;have c:PC ((n:Nat):Int)=2*n:=by unfold PC;rw[ae b];simp
  rw[c]at a;refine ao (gQ (n:Int)) w (by simp[go_sem];rw[ly qZ qZ]) ?_;refine ao (gQ ((2*n:Nat):Int)) w (by simp[-Int.natCast_mul,go_sem];rw[ly qZ qZ];omega) ?_;refine ao (gI 0) w (by simp[go_sem];omega) ?_;refine ao (gQ 0) w (by simp[go_sem];decide) ?_;refine ao (gQ ((2*n:Nat):Int)) w (by simp only[go_sem];simp[-Int.natCast_mul,go_sem];rw[RD _ qZ]) ?_;exact a
 ·have c:(PC x:Int)= -2*x - 1:=by unfold PC;rw[aa b];omega
  rw[c]at a;obtain⟨m,d⟩:∃m:Nat,(m:Int)=18446744073709551616+2*x:=⟨(18446744073709551616+2*x).toNat,qZ⟩
  refine ao (gQ (18446744073709551616+x)) w (by simp[go_sem];rw[IntKind.wrap_u64];omega) ?_;refine ao (gQ (m:Int)) w (by simp[go_sem];rw[IntKind.wrap_u64];omega) ?_;refine ao (gI (-1)) w (by simp[go_sem];omega) ?_;refine ao (gQ 18446744073709551615) w (by simp[go_sem];decide) ?_;refine ao (gQ (-2*x - 1)) w (by simp only[go_sem];simp[go_sem];rw[QU _ qZ];omega) ?_;exact a
abbrev jF(w:Wt_)(s:Vt_)(l:List UInt8):Prop:=ic w 5 1 s l.length (bv l)
def tQ{s:Vt_}{n:Nat}(h:jF w s l)(g:n<18446744073709551616)(e:l.length<=1000000000)
  (f:∀a c,jF c a (l++iM n)->aR (aF s) w c->(∀b,aF a b->aF s b\/w.heap.size<=b)->K a c):Ca pQ 72 #[s,gQ n] w K:=
 Vf h g e λa c o m d=>f a c (by grind) m d
def sU{s:Vt_}{x:Int}(h:jF w s l)(d:ed x)(e:l.length<=1000000000)
  (f:∀a c,jF c a (l++lS x)->aR (aF s) w c->(∀b,aF a b->aF s b\/w.heap.size<=b)->K a c):Ca pQ 95 #[s,gI x] w K:=by
 refine cN Tryz.func95 ?_;refine OM d ?_;exact tQ h (EI d) e f
def Ce{s:Vt_}{f:Bool}(h:jF w s l)(x:l.length<=1000000000)
  (k:∀a d,jF d a (l++qO f)->aR (aF s) w d->(∀b,aF a b->aF s b\/w.heap.size<=b)->K a d):Ca pQ 98 #[s,.bool f] w K:=by
 have push:∀u:UInt8,qO f=[u]->rx pQ (rg Y6 1 [(0,gB u.toNat)]) w λn t=>rx pQ (fb #[Y6,Y6] Y6 [s,n]) t K:=λu q=>by
  refine Xv [u] Q5 (dB YG) rfl rfl qZ λv y o c z=>?_;refine kg (m:=1) Q5 Q5 (dB YG) (h.mod c d9) o.rd (JJ _) qZ λr p e g j=>?_;refine k r p ?_ ((c.to).trans g) λb i=>(j b i).imp id λh=>by have:=c.size;omega
  rw[q];unfold jF;rw[<-zo]at e;rw[af];exact e
 refine cN Tryz.func98 ?_;cases f with
 |true=>rw[kJ];exact push 1 rfl
 |false=>rw[jO];exact push 0 rfl
end Go.Proofs
