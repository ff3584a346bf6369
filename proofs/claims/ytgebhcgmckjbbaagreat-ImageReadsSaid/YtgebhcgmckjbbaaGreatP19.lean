/- Part of a proof. -/
import Derived.Test.YtgebhcgmckjbbaaGreatP16
set_option linter.all false
namespace Go.Proofs
open Go Go.Vc
attribute [local congr] cq
def rR(S:dx)(i:Nat):List Po:=(S.nums.take i).flatMap S.led.holders
def qY(S:dx)(i:Nat):List (Int×Od):=(S.nums.take i).flatMap λn=>(S.bk n).all.map λo=>(n,o)
def qJ(S:dx)(i:Nat):List (Int×Od):=(S.nums.take i).flatMap λn=>(S.bd n).map λo=>(n,o)
def Sx{S:dx}{i:Nat}(hi:i<S.cal.l.length):S.nums.take (i+1)=S.nums.take i++[S.cal.l[i].spec.num]:=by
 have a:i<S.nums.length:=by unfold dx.nums;rw[List.length_map];exact hi
 rw[cV a];simp[dx.nums]
def Fe{S:dx}(h:S.led.Ok)(i:Nat):(rR S i).length<=64*i:=by
 unfold rR;induction i with
 |zero=>simp
 |succ i a=>
  by_cases b:i<S.nums.length
  ·rw[cV b,List.flatMap_append,List.length_append];have:=om h S.nums[i];simp only[List.flatMap_cons,List.flatMap_nil,List.append_nil];omega
  ·rw[List.take_of_length_le (by omega)];rw[List.take_of_length_le (by omega)]at a;omega
def zK{S:dx}(h:Bv S)(i:Nat):(qY S i).length<=200*i:=by
 unfold qY;induction i with
 |zero=>simp
 |succ i a=>
  by_cases b:i<S.nums.length
  ·rw[cV b,List.flatMap_append,List.length_append];have h1:=(h.side S.nums[i] true).1;have d:=(h.side S.nums[i] false).1
   have e:((S.bk S.nums[i]).all.map λo=>(S.nums[i],o)).length<=200:=by
    rw[List.length_map];unfold Bk.all;rw[List.length_append];omega
   simp only[List.flatMap_cons,List.flatMap_nil,List.append_nil];omega
  ·rw[List.take_of_length_le (by omega)];rw[List.take_of_length_le (by omega)]at a;omega
def yV{S:dx}(h:Bv S)(i:Nat):(qJ S i).length<=50*i:=by
 unfold qJ;induction i with
 |zero=>simp
 |succ i a=>
  by_cases b:i<S.nums.length
  ·rw[cV b,List.flatMap_append,List.length_append];have h1:=h.bdl S.nums[i];simp only[List.flatMap_cons,List.flatMap_nil,List.append_nil,List.length_map];omega
  ·rw[List.take_of_length_le (by omega)];rw[List.take_of_length_le (by omega)]at a;omega
section
variable{w:World}{K:cm}{v c l mb md:Nat}{A:List (Int×Nat)}{D:List (Int×Value)}{fp:Pt->Nat->Prop}{S:dx}
set_option maxRecDepth 10000 in
set_option maxHeartbeats 8000000 in
def rk(h:gT w v c l mb md A D fp S)(hok:S.Ok)
  (hK:∀ss b F w',SB w' b S.cal.day S.next S.led.fund ss S.led.all S.cal.l (S.nums.flatMap S.led.holders) (S.nums.flatMap λn=>(S.bk n).all.map λo=>(n,o)) (S.nums.flatMap λn=>(S.bd n).map λo=>(n,o)) F->w.heap.size<=F->cl (λ_=>False) w w' ->w.heap.size<=b->K (pU S.cal.day S.next S.led.fund ss) w'):
  Ca Tryz.prog 14 #[eg v] w K:=by
 apply RI;obtain⟨n0,hn0⟩:∃n0,n0=w.heap.size:=⟨_,rfl⟩
 have hlay:∃w1,w.alloc (.cells #[eg v] 23)=w1/\w1.heap.size=n0+1/\cl (λ_=>False) w w1/\hp w1 n0=some (.cells #[eg v] 23 (0,0)):=by
  refine⟨_,rfl,by simp[go_sem,hn0],(cl.refl _ w).alloc _,?_⟩;simp[go_sem,hn0]
 obtain⟨w1,hw1,hsz1,V,b1⟩:=hlay;refine ck (v:=.pointer (some ⟨n0,0,none⟩)) (w' :=w1) (by rw[<-hw1,hn0];rfl) ?_;clear hw1;obtain⟨w2,e2,b2,m2⟩:=kD w1;refine ck e2 ?_;obtain⟨p2,hp2⟩:∃p2,p2=n0+1:=⟨_,rfl⟩
 rw[hsz1,<-hp2]at b2|-;have hp2l:p2<w2.heap.size:=cn b2;have M2:=V.trans m2;have h2:=h.md0 M2;have g0:=m2.hpk b1 id;have lv0:∀{W},hp W n0=some (.cells #[eg v] 23 (0,0))->(Instr.loadAt 23 (.pointer (some ⟨n0,0,none⟩))).run Tryz.prog W=.ok (eg v) W:=λhW=>by simp[go_sem,hW,eg]
 refine ck (lv0 g0) ?_;refine rJ h2.blk ?_;refine ck (v:=.bool false) (w' :=w2) (by simp[go_sem]) ?_;rw[ci,if_neg Bool.false_ne_true];refine ck (lv0 g0) ?_;simp only[eg,cr];refine ck (jZ 1 (by omega) _) (ck (uU _ h2.blk) ?_);refine Ay h2.led λw3 m3=>?_;have hg0:S.led.getV 0=(⟨0,S.led.fund,false,false⟩,0):=rfl;rw[hg0];refine ck (by simp[-Int.natCast_add,go_sem]<;>first|exact⟨rfl,rfl⟩|exact rfl) ?_;refine ck (by simp[-Int.natCast_add,go_sem]<;>first|exact⟨rfl,rfl⟩|exact rfl) ?_;obtain⟨w4,w5,e4,e5,b5,m5⟩:=BY ⟨0,S.led.fund,false,false⟩ w3;obtain⟨ra,hra⟩:∃ra,ra=w3.heap.size:=⟨_,rfl⟩
 refine ck e4 (dt e5 ?_);rw[<-hra]at b5|-;have M5:=(M2.trans m3).trans m5;have h5:=h.md0 M5;have g5:=m5.hpk (m3.hpk g0 id) id;have p5:=m5.hpk (m3.hpk b2 id) id;obtain⟨F,hlo⟩:∃F,F=w5.heap.size:=⟨_,rfl⟩
 have hra5:ra<F:=by rw[hlo];exact cn b5
 have hp25:p2<F:=by rw[hlo];exact cn p5
 have Q:S.led.Ok:=hok.led.led;have hal:=Q.len;refine cy.at (λst W=>∃sb s,st=(.pointer (some ⟨sb,0,none⟩),())/\SB W sb S.cal.day S.next S.led.fund (ij s) S.led.all [] [] [] [] F/\F<=sb/\cl (λ_=>False) w5 W) ?_ ?_
 ·have T:cl (λ_=>False) w5 w5.drew:=(cl.refl _ w5).drew;have hsu:w5.drew.heap.size=w5.heap.size:=rfl;have hu:=h5.md0 T;have gu:=T.hpk g5 id;have bu:=T.hpk b5 id
  try dsimp only
  generalize w5.drew=u at T hsu hu gu bu|-
  have fx:∀W,cl (λ_=>False) u W->(Instr.loadAt 2 (.pointer (some ⟨ra,1,none⟩))).run Tryz.prog W=.ok (.int .i64 S.led.fund) W/\(Instr.loadAt 27 (.pointer (some ⟨v,4,none⟩))).run Tryz.prog W=.ok (.int .u64 S.next) W/\(Instr.loadAt 23 (.pointer (some ⟨n0,0,none⟩))).run Tryz.prog W=.ok (eg v) W/\(Instr.loadAt 62 (.pointer (some ⟨v,1,none⟩))).run Tryz.prog W=.ok (dn l) W/\(Instr.loadAt 61 (.pointer (some ⟨v,0,none⟩))).run Tryz.prog W=.ok (dK c) W:=λW m=>by
   have hW:=hu.md0 m;have bW:=m.hpk bu id;exact⟨by simp[go_sem,bW,cM],nt _ hW.blk,lv0 (m.hpk gu id),uU _ hW.blk,Lf _ hW.blk⟩
  have fin:∀(W:World) (sb:Nat) (s:Value) (K2:World->Prop),cl (λ_=>False) u W->hp W sb=some (.cells (nv 0 0 0 (ij cG)).toArray kJ (0,0))->F<=sb->d7 W 92 4 s S.led.all.length (S.led.all.flatMap cM)->(∀y,cv s y->F<=y/\y≠sb)->
    (∀t,SB t sb S.cal.day S.next S.led.fund (ij s) S.led.all [] [] [] [] F->cl (λ_=>False) w5 t->K2 t)->ru Tryz.prog (Instr.storeAt kJ (.pointer (some ⟨sb,0,none⟩)) (pU S.cal.day S.next S.led.fund (ij s))) W K2:=by
   intro W sb s K2 m hb hsb ho hs hk;obtain⟨sa,sc,R,-⟩:=ho.isSl
   obtain⟨t,e',b',m'⟩:=th (d:=S.cal.day) (n:=S.next) (f:=S.led.fund) (ss:=ij s) hb rfl λi _ _=>by
    unfold ij;split
    ·exact⟨_,_,_,R⟩
    ·exact⟨none,0,0,rfl⟩
   refine dt e' (hk t ⟨b',λi hi hj=>?_,λi j y hi1 hi2 hj1 hj2 h1 h2=>?_,λi y hi hj g=>?_⟩ ((T.trans m).on m' λy g=>.inr (by omega)))
   ·have hi' :i=3\/i=4\/i=5\/i=6\/i=7:=by omega
    rcases hi' with rfl|rfl|rfl|rfl|rfl
    ·exact ho.mod m' λy g e=>(hs y g).2 e
    ·exact d7.nil _ _ _
    ·exact d7.nil _ _ _
    ·exact d7.nil _ _ _
    ·exact d7.nil _ _ _
   ·unfold ij at h1 h2;by_cases hi:i=3
    ·by_cases hj:j=3
     ·rw[hi,hj]
     ·rw[if_neg hj]at h2;cases h2
    ·rw[if_neg hi]at h1;cases h1
   ·unfold ij at g;by_cases hi3:i=3
    ·rw[if_pos hi3]at g;exact hs y g
    ·rw[if_neg hi3]at g;cases g
  have rU:=fx u (cl.refl _ _);refine cB rU.2.2.1 ?_;simp only[eg,cr];refine co (jZ 0 (by omega)) (cB rU.2.2.2.2 ?_);refine cB rU.2.2.1 ?_;simp only[eg,cr];refine co (jZ 4 (by omega)) (cB rU.2.1 ?_);refine co (v:=.pointer (some ⟨ra,1,none⟩)) (λ_=>by simp[go_sem]) (cB rU.1 ?_);refine cB rU.2.2.1 ?_;simp only[eg,cr];refine co (jZ 1 (by omega)) (cB rU.2.2.2.1 ?_);refine⟨?_,?_⟩
  ·refine Cq hu.cal ?_;refine⟨rU.2.2.2.1,rU.2.2.1,rU.1,rU.2.1,rU.2.2.1,?_,?_⟩
   ·refine ol hu.led λgv u1 ht V=>?_;have r1:=fx u1 V;refine⟨r1.1,r1.2.1,r1.2.2.1,?_,?_⟩
    ·refine mQ ht.m (by omega) λs u2 o2 m2 n2=>?_;have M:=V.trans m2;have G:=fx u2 M;refine⟨G.1,G.2.1,G.2.2.1,?_⟩;obtain⟨sa,sc,R,-⟩:=o2.isSl;refine co (λW=>BN _ _ _ _ W ⟨_,_,_,R⟩) ?_;obtain⟨u3,e3,b3,E⟩:=kD u2;refine ck e3 ?_;have r3:=fx u3 (M.trans E);refine⟨r3.1,r3.2.1,r3.2.2.1,?_⟩;have hs2:=V.size;have hs3:=m2.size;exact fin u3 _ s _ (M.trans E) b3 (by omega) (o2.mod E λ_ _ h=>h) (λy g=>⟨by have:=n2 y g;omega,by have:=o2.lt g;omega⟩) λt hW' mW' =>⟨_,s,rfl,hW',by omega,mW'⟩
    ·obtain⟨u2,e2',N,p⟩:=kD u1;refine ck e2' ?_;have G:=fx u2 (V.trans p);refine⟨G.1,G.2.1,G.2.2.1,?_⟩;refine mQ (ht.m.mod p) (by omega) λs u3 o3 E n3=>?_;have M:=(V.trans p).trans E;have r3:=fx u3 M;refine⟨r3.1,r3.2.1,r3.2.2.1,?_⟩;obtain⟨sa,sc,R,-⟩:=o3.isSl;refine co (λW=>BN _ _ _ _ W ⟨_,_,_,R⟩) ?_;have hs1:=V.size;have hs2:=cn N;exact fin u3 _ s _ M (E.hpk N id) (by omega) o3 (λy g=>⟨by have:=n3 y g;omega,by have:=n3 y g;omega⟩) λt hW' mW' =>⟨_,s,rfl,hW',by omega,mW'⟩
   ·obtain⟨u2,e2',N,p⟩:=kD u;refine ck e2' ?_;have G:=fx u2 p;refine⟨G.2.2.2.1,G.2.2.1,G.1,G.2.1,G.2.2.1,?_⟩;refine ol (hu.md0 p).led λgv u1 ht V=>?_;have r1:=fx u1 (p.trans V);refine⟨r1.1,r1.2.1,r1.2.2.1,?_⟩;refine mQ ht.m (by omega) λs u3 o3 E n3=>?_;have M:=(p.trans V).trans E;have r3:=fx u3 M;refine⟨r3.1,r3.2.1,r3.2.2.1,?_⟩;obtain⟨sa,sc,R,-⟩:=o3.isSl;refine co (λW=>BN _ _ _ _ W ⟨_,_,_,R⟩) ?_;have hs1:=V.size;have hs2:=cn N;exact fin u3 _ s _ M (E.hpk (V.hpk N id) id) (by omega) o3 (λy g=>⟨by have:=n3 y g;omega,by have:=n3 y g;omega⟩) λt hW' mW' =>⟨_,s,rfl,hW',by omega,mW'⟩
  ·obtain⟨u2,e2',N,p⟩:=kD u;refine ck e2' ?_;have G:=fx u2 p;refine⟨G.2.2.2.1,G.2.2.1,G.1,G.2.1,G.2.2.1,G.2.2.2.2,G.2.2.1,?_⟩;refine Cq (hu.md0 p).cal ?_;refine⟨G.2.2.2.1,G.2.2.1,G.1,G.2.1,G.2.2.1,?_⟩;refine ol (hu.md0 p).led λgv u1 ht V=>?_;have r1:=fx u1 (p.trans V);refine⟨r1.1,r1.2.1,r1.2.2.1,?_⟩;refine mQ ht.m (by omega) λs u3 o3 E n3=>?_;have M:=(p.trans V).trans E;have r3:=fx u3 M;refine⟨r3.1,r3.2.1,r3.2.2.1,?_⟩;obtain⟨sa,sc,R,-⟩:=o3.isSl;refine co (λW=>BN _ _ _ _ W ⟨_,_,_,R⟩) ?_;have hs1:=V.size;have hs2:=cn N;exact fin u3 _ s _ M (E.hpk (V.hpk N id) id) (by omega) o3 (λy g=>⟨by have:=n3 y g;omega,by have:=n3 y g;omega⟩) λt hW' mW' =>⟨_,s,rfl,hW',by omega,mW'⟩
 rintro _ w6 ⟨sb,s,rfl,q6,hsb,m6⟩;unfold EE;intro _;have hs6:=m6.size;have h6:=h5.md0 m6;have g6:=m6.hpk g5 id;have p6:=m6.hpk p5 id;have M6:=M5.trans m6;refine ck (lv0 g6) ?_;simp only[eg,cr];refine ck (jZ 0 (by omega) _) (ck (Lf _ h6.blk) ?_);refine BS h6.cal λgv w7 ht m7=>?_;have h7:=h6.md0 m7;have g7:=m7.hpk g6 id;have p7:=m7.hpk p6 id;have q7:=SB.modX q6 m7 λ_ _ h=>h;have M7:=M6.trans m7;have hfl:∀pt y,fp pt y->y<n0:=λpt y g=>by rw[hn0];exact h.lt g
 have hXlo:∀{ss:Nat->Value} {W:World} {C:List Ct} {P:List Po} {O B:List (Int×Od)},SB W sb S.cal.day S.next S.led.fund ss S.led.all C P O B F->∀y,XS ss sb y->F<=y:=λhh y g=>by
  rcases g with rfl|⟨i,hi,hj,g⟩
  ·exact hsb
  ·exact(hh.nw i y hi hj g).1
 have hs7:=m7.size;have hcl:S.cal.l.length<=16:=hok.cal.len;let I:(Nat->Prop)->Nat->World->Prop:=λX i W=>∃ss,SB W sb S.cal.day S.next S.led.fund ss S.led.all (S.cal.l.take i) (rR S i) (qY S i) (qJ S i) F/\∀y,X y↔XS ss sb y
 delta Ei
 refine Fg (X0:=XS (ij s) sb) (fv:=λk:Ct=>.agg (dU k).toArray) (asg:=λx W K=>rx Tryz.prog (ic ip) W λv w1=>fV Tryz.prog (ej ip v x) w1 λw2=>K v w2) (Pv:=zd ip dU) (xs:=S.cal.l) ht CG xH I (λ_ _ _=>False) ?_ (λ_ _ _ _ _ h=>h.elim) (λy g=>q7.ltX g) ⟨ij s,q7,λ_=>Iff.rfl⟩ ?_ ?_ (λ_ _ _ _ _ h=>h.elim)
 ·rintro X i W t H ⟨ss,i1,i2⟩ hm hX;exact⟨ss,i1.modX hm λy g=>hX y ((i2 y).2 g),i2⟩
 ·rintro X i hi W q vv ⟨ss,i1,i2⟩ mW hX hdq hqW ⟨rfl,zgq⟩ ⟨rec0,hrec⟩ KN KJ hKN hKJ;obtain⟨k,hk⟩:∃k,k=S.cal.l[i]:=⟨_,rfl⟩
  have hk' :k=S.cal.l[i]'hi:=hk;rw[<-hk']at zgq;obtain⟨n,hn⟩:∃n,n=k.spec.num:=⟨_,rfl⟩
  have hi16:i<16:=by have:i<S.cal.l.length:=hi;omega
  have hct:=cV (l:=S.cal.l) hi;rw[<-hk']at hct;have hnt:=Sx (S:=S) hi;have hnk:S.cal.l[i].spec.num=n:=by rw[hn,hk']
  rw[hnk]at hnt;have J:∀y,XS (ij s) sb y->F<=y:=hXlo q7;have hW:=h7.mod mW λpt y g Y=>by have:=hfl pt y g;have:=J y Y;omega
  have gW:=mW.hpk g7 λY=>by have:=J _ Y;omega
  have hlX:∀y,XS ss sb y->y<q/\y≠w7.heap.size+1/\F<=y:=λy g=>by
   have h1:=hX y ((i2 y).2 g);refine⟨h1.1,?_,hXlo i1 y g⟩;rcases h1.2 with Z|Z
   ·have:=q7.ltX Z;omega
   ·omega
  refine ck (v:=.pointer (some ⟨q,0,none⟩)) (w' :=W) (by simp[go_sem]) (ck (v:=.pointer (some ⟨q,0,none⟩)) (w' :=W) (by simp[go_sem]) ?_);refine ck (v:=.int .u32 n) (w' :=W) (by simp[go_sem,zgq,IG,hn]) ?_
  have hlay:∃W2,(W.alloc (.cells #[.int .u32 0] 35)).setCell ⟨W.heap.size,0,none⟩ (.int .u32 n)=W2/\cl (λ_=>False) W W2/\hp W2 W.heap.size=some (.cells #[.int .u32 n] 35 (0,0)):=
   ⟨_,rfl,((cl.refl _ W).alloc _).setCell (.inr (Nat.le_refl _)) _ _,by simp[go_sem]⟩
  obtain⟨W2,hW2,mW2,bn⟩:=hlay;refine ck (v:=.pointer (some ⟨W.heap.size,0,none⟩)) (w' :=W.alloc (.cells #[.int .u32 0] 35)) (by simp[go_sem]) ?_;refine dt (w' :=W2) (by rw[<-hW2];simp[go_sem]) ?_;clear hW2;obtain⟨pn,hpn⟩:∃pn,pn=W.heap.size:=⟨_,rfl⟩
  rw[<-hpn]at bn|-;have hpnl:=cn bn;have i3:=i1.modX mW2 λ_ _ h=>h;have gq2:=mW2.hpk zgq id;have hV2:=hW.md0 mW2;have g2:=mW2.hpk gW id;have rc2:=mW2.keep (hrec:hp W _=_) id;have hsW2:=mW2.size;have hn0W:n0<W.heap.size:=cn gW;have hlW:w7.heap.size+1<W.heap.size:=by omega
  have ln:∀{t},hp t pn=some (.cells #[.int .u32 n] 35 (0,0))->(Instr.loadAt 35 (.pointer (some ⟨pn,0,none⟩))).run Tryz.prog t=.ok (.int .u32 n) t:=λhh=>by simp[go_sem,hh]
  have hnX:∀y,XS ss sb y->y≠n0/\y≠pn/\y≠w7.heap.size+1/\∀pt,¬fp pt y:=λy g=>by
   have h1:=hlX y g;have h2:=i1.ltX g;exact⟨by omega,by omega,h1.2.1,λpt Y=>by have:=hfl pt y Y;omega⟩
  let ST:World->Prop:=λt=>cl (XS ss sb) W2 t;have keep:∀{t},ST t->gT t v c l mb md A D fp S/\hp t n0=some (.cells #[eg v] 23 (0,0))/\hp t pn=some (.cells #[.int .u32 n] 35 (0,0))/\(∃r,hp t (w7.heap.size+1)=some (.loop r)):=λm=>⟨hV2.mod m λpt y g Y=>(hnX y Y).2.2.2 pt g,m.hpk g2 λY=>(hnX _ Y).1 rfl,m.hpk bn λY=>(hnX _ Y).2.1 rfl,rec0,m.keep rc2 λY=>(hnX _ Y).2.2.1 rfl⟩
  have sub:∀{z:Nat->Value} {t W'' :World},W2.heap.size<=t.heap.size->(∀y,XS z sb y->XS ss sb y\/W2.heap.size<=y)->cl (XS z sb) t W'' ->ST t->ST W'' :=by
   intro z t W'' hle hs m hst;exact cl.on (hst:cl (XS ss sb) W2 t) m λy g=>hs y g
  refine ck (dX W2 4 (by omega)) (ck (i3.ld 4 (by omega) (by omega)) ?_);refine eK (dU k) 26 C4 zY (cX k) (At.all gq2) ?_;refine tQ (i:=4) (by omega) (by omega) (c:=dU k) i3 rfl (cX k) (tC k) (by show(S.cal.l.take i).length<=_;rw[List.length_take];omega) (by omega) (S7 _ _ _ _ _ k) (Tb _ _ _ _ _ k) λss1 W3 q3 m3 n3=>?_;have st3:ST W3:=m3;have T:cl (λ_=>False) W3 W3.drew:=(cl.refl _ W3).drew;have q4:=q3.modX T λ_ _ h=>h;have st4:ST W3.drew:=st3.trans (T.mono λ_ _ h=>h.elim);have hs4:W3.drew.heap.size=W3.heap.size:=rfl
  try dsimp only
  generalize W3.drew=W4 at T q4 st4 hs4|-;have hs23:=st4.size;obtain⟨hV4,g4,n4,-⟩:=keep st4;refine cB (lv0 g4) ?_;simp only[eg,cr];refine co (jZ 1 (by omega)) (cB (uU _ hV4.blk) ?_);refine cB (ln n4) ?_;refine A9 hV4.led (by have:=Gl hok.cal hok.led;omega) λgv5 W5 ht5 m5=>?_;have q5:=q4.modX m5 λ_ _ h=>h;have st5:ST W5:=st4.trans (m5.mono λ_ _ h=>h.elim);obtain⟨-,-,-,hrc5⟩:=keep st5;have hs5:=st5.size;obtain⟨H,hH⟩:∃H,H=S.led.holders n:=⟨_,rfl⟩
  rw[<-hH]at ht5;have hHl:H.length<=64:=by rw[hH];exact om Q n
  have hpl:=Fe Q i
  delta KF
  refine KR (l0:=w7.heap.size+1) (X0:=XS ss1 sb) (fv:=lK) (asg:=λx W K=>rv Tryz.prog (Instr.alloc 112 true (.tuple #[])) W λv w1=>ru Tryz.prog (Instr.storeAt 112 v x) w1 λw2=>K v w2) (Pv:=zd 112 cL) (xs:=H) hrc5 ht5.m (ub lI.po) xH
   (λX j t=>∃z,SB t sb S.cal.day S.next S.led.fund z S.led.all (S.cal.l.take i++[k]) (rR S i++H.take j) (qY S i) (qJ S i) F/\∀y,X y↔XS z sb y) (λ_ _ _=>False) ?_ (λ_ _ _ _ _ h=>h.elim) (λy g=>q5.ltX g) ⟨ss1,by rw[List.take_zero,List.append_nil];exact q5,λ_=>Iff.rfl⟩ ?_ ?_ (λ_ _ _ h=>h.elim)
  ·rintro X j t W'' H' ⟨z,j1,j2⟩ hm hX';exact⟨z,j1.modX hm λy g=>hX' y ((j2 y).2 g),j2⟩
  ·rintro X j hj W6 qv vv ⟨z,j1,j2⟩ mW6 hX6 hdq6 hqW6 ⟨rfl,gv6⟩ KN2 KJ2 hKN2 hKJ2;have htk:=cV (l:=H) hj;have lo6:F<=W6.heap.size:=by have:=mW6.size;omega
   refine ck (dX W6 5 (by omega)) (ck (j1.ld 5 (by omega) (by omega)) ?_);have gv6' :=gv6;unfold cL at gv6';refine ck (v:=lK H[j]) (w' :=W6) (by simp[go_sem,gv6',lK]) ?_;refine tQ (i:=5) (by omega) (by omega) (c:=cL H[j]) j1 rfl rfl rfl (by show(rR S i++H.take j).length<=_;rw[List.length_append,List.length_take];omega) lo6 (S9 _ _ _ _ _ H[j]) (SV _ _ _ _ _ H[j]) λss2 W7 q7' m7' n7' =>?_;refine hKN2 (XS ss2 sb) W7 ⟨ss2,by rw[htk,<-List.append_assoc];exact q7',λ_=>Iff.rfl⟩ (m7'.mono λy _ g=>(j2 y).2 g) λy g=>⟨(n7' y g).imp (j2 y).2 id,q7'.ltX g⟩
  ·rintro X W6 ⟨ss2,j1,j2⟩ mW6 hX6;rw[show H.take H.length=H from List.take_length]at j1;have s12:∀y,XS ss1 sb y->XS ss sb y\/W2.heap.size<=y:=n3
   have s2:∀y,XS ss2 sb y->XS ss sb y\/W2.heap.size<=y:=λy g=>by
    rcases(hX6 y ((j2 y).2 g)).2 with Z|Z
    ·exact s12 y Z
    ·exact .inr (by omega)
   have st6:ST W6:=sub hs5 s12 mW6 st5;unfold K7;simp only[fk];have mdr6:cl (λ_=>False) W6 W6.drew:=(cl.refl _ W6).drew;have q6' :=j1.modX mdr6 λ_ _ h=>h;have st7:ST W6.drew:=st6.trans (mdr6.mono λ_ _ h=>h.elim)
   try dsimp only
   generalize W6.drew=W7 at mdr6 q6' st7|-;obtain⟨hV7,g7',n7',-⟩:=keep st7;refine cB (lv0 g7') ?_;simp only[eg,cr];have hsome:(ek S.cal.l n).isSome=true:=zQ.1 (by rw[hn];exact List.mem_map_of_mem (by rw[hk];exact List.getElem_mem hi));obtain⟨b,hb,hB⟩:=Te hV7 (n:=n) hsome;refine co (jZ 2 (by omega)) (cB (Lz _ hV7.blk) ?_);refine cB (ln n7') ?_;refine jk (Br hV7.mbk hb) ?_;refine Jg hB λgv8 W8 ht8 m8=>?_;have q8:=q6'.modX m8 λ_ _ h=>h;have st8:ST W8:=st7.trans (m8.mono λ_ _ h=>h.elim);obtain⟨-,-,-,hrc8⟩:=keep st8;have hs8:=st8.size;obtain⟨U,hAl⟩:∃U,U=(S.bk n).all:=⟨_,rfl⟩
   have ht8' :jy gv8 (U.map λo=>[g9 o]) W8:=by rw[hAl];exact ht8
   have hAll:U.length<=200:=by rw[hAl];exact hB.all.1
   have hol:=zK hok.ord i
   delta ES
   refine KR (l0:=w7.heap.size+1) (X0:=XS ss2 sb) (fv:=g9) (asg:=λx W K=>rv Tryz.prog (Instr.alloc iq true (.tuple #[])) W λv w1=>ru Tryz.prog (Instr.storeAt iq v x) w1 λw2=>K v w2) (Pv:=zd iq da) (xs:=U) hrc8 ht8' (ub lI.od) xH
    (λX j t=>∃z,SB t sb S.cal.day S.next S.led.fund z S.led.all (S.cal.l.take i++[k]) (rR S i++H) (qY S i++(U.take j).map λo=>(n,o)) (qJ S i) F/\(∀y,X y↔XS z sb y)) (λ_ _ _=>False) ?_ (λ_ _ _ _ _ h=>h.elim) (λy g=>q8.ltX g) ⟨ss2,by simpa using q8,λ_=>Iff.rfl⟩ ?_ ?_ (λ_ _ _ h=>h.elim)
   ·rintro X j t W'' H' ⟨z,j1,j2⟩ hm hX';exact⟨z,j1.modX hm λy g=>hX' y ((j2 y).2 g),j2⟩
   ·rintro X j hj W9 qv vv ⟨z,j1',j2'⟩ mW9 hX9 hdq9 hqW9 ⟨rfl,gv9⟩ KN2 KJ2 hKN2 hKJ2;have htk:=cV (l:=U) hj;have lo9:F<=W9.heap.size:=by have:=mW9.size;omega
    have n9:=(keep (sub hs8 s2 mW9 st8)).2.2.1;refine ck (dX W9 6 (by omega)) (ck (j1'.ld 6 (by omega) (by omega)) ?_);refine ck (ln n9) ?_;refine ck (gL (o:=U[j]) (At.all gv9)) ?_;refine ck (Cd n U[j] W9) ?_;refine tQ (i:=6) (by omega) (by omega) (c:=dB (n,U[j])) j1' rfl rfl rfl (by show(qY S i++(U.take j).map _).length<=_;rw[List.length_append,List.length_map,List.length_take];omega) lo9 (Tc _ _ _ _ _ (n,U[j])) (S5 _ _ _ _ _ (n,U[j])) λss3 W10 q10 m10 n10=>?_;refine hKN2 (XS ss3 sb) W10 ⟨ss3,by rw[htk,List.map_append,<-List.append_assoc];exact q10,λ_=>Iff.rfl⟩ (m10.mono λy _ g=>(j2' y).2 g) λy g=>⟨(n10 y g).imp (j2' y).2 id,q10.ltX g⟩
   ·rintro X9 W9 ⟨ss3,j1',j2'⟩ mW9 hX9;rw[show U.take U.length=U from List.take_length]at j1'
    have s3:∀y,XS ss3 sb y->XS ss sb y\/W2.heap.size<=y:=λy g=>by
     rcases(hX9 y ((j2' y).2 g)).2 with Z|Z
     ·exact s2 y Z
     ·exact .inr (by omega)
    have st9:ST W9:=sub hs8 s2 mW9 st8;unfold Ee;simp only[fk];have mdr9:cl (λ_=>False) W9 W9.drew:=(cl.refl _ W9).drew;have q10:=j1'.modX mdr9 λ_ _ h=>h;have st10:ST W9.drew:=st9.trans (mdr9.mono λ_ _ h=>h.elim)
    try dsimp only
    generalize W9.drew=W10 at mdr9 q10 st10|-;obtain⟨hV10,g10,n10,-⟩:=keep st10;refine cB (lv0 g10) ?_;simp only[eg,cr];refine co (jZ 3 (by omega)) (cB (Ih _ hV10.blk) ?_);refine cB (ln n10) ?_;refine jk (wN hV10.mbd n) ?_;obtain⟨L,hBd⟩:∃L,L=S.bd n:=⟨_,rfl⟩
    have hBdl:L.length<=50:=by rw[hBd];exact hok.ord.bdl n
    have hbd10:kV W10 (rZ D n) L:=by rw[hBd];exact hV10.bd n
    obtain⟨ba,bc,hbs,-⟩:=hbd10.isSl;refine cB (v:=.int .i64 (L.length:Int)) (by rw[hbs];simp[go_sem]) ?_;have hbl:=yV hok.ord i;have hs10:=st10.size
    refine dp (λst t=>∃(j:Nat) (z:Nat->Value),j<=L.length/\st=(.int .i64 j,())/\SB t sb S.cal.day S.next S.led.fund z S.led.all (S.cal.l.take i++[k]) (rR S i++H) (qY S i++U.map λo=>(n,o)) (qJ S i++(L.take j).map λo=>(n,o)) F/\(∀y,XS z sb y->XS ss sb y\/W2.heap.size<=y)/\ST t)
     (λst _=>match st.1 with| .int _ i=>L.length - i.toNat|_=>0) ⟨0,ss3,by omega,rfl,by simpa using q10,s3,st10⟩ ?_
    rintro _ W11 ⟨j,ss4,hj,rfl,t1,t2,t3⟩ KM hKM;unfold D1;intro _;obtain⟨hV11,g11,n11,-⟩:=keep t3;have hbd11:kV W11 (rZ D n) L:=by rw[hBd];exact hV11.bd n
    have hs11:=t3.size;by_cases hlt:j<L.length
    ·have hlt' :(j:Int)<(L.length:Int):=by omega
     refine ck (v:=.bool true) (by simp[go_sem,hlt']<;>first|exact⟨rfl,rfl⟩|exact rfl) ?_;rw[ci,if_pos rfl];obtain⟨pj,p1,p2'⟩:=SI hbd11.rd hlt;refine ck p1 (ck p2' ?_);obtain⟨wa,ea,ba',ma⟩:=iR W11;refine ck ea ?_;obtain⟨q9,hq9⟩:∃q9,q9=W11.heap.size:=⟨_,rfl⟩
     rw[<-hq9]at ba' |-;obtain⟨wb,eb,bb,mb'⟩:=gA (o' :=L[j]) ba';refine dt eb ?_;have Mb:cl (λ_=>False) W11 wb:=ma.on mb' λb hb=>.inr (by omega);have tb:=t1.modX Mb λ_ _ h=>h;have stb:ST wb:=t3.trans (Mb.mono λ_ _ h=>h.elim);have nb:=(keep stb).2.2.1;have hsb' :=stb.size;refine ck (dX wb 7 (by omega)) (ck (tb.ld 7 (by omega) (by omega)) ?_);refine ck (ln nb) ?_;refine ck (gL (o:=L[j]) (At.all bb)) ?_;refine ck (Cd n L[j] wb) ?_;refine tQ (i:=7) (by omega) (by omega) (c:=dB (n,L[j])) tb rfl rfl rfl (by show(qJ S i++(L.take j).map _).length<=_;rw[List.length_append,List.length_map,List.length_take];omega) (by omega) (Tj _ _ _ _ _ (n,L[j])) (Th _ _ _ _ _ (n,L[j])) λss5 wc qc mc nc=>?_;refine ck (v:=.int .i64 ((j+1:Nat):Int)) (w' :=wc) (by simp[go_sem];rw[cS (by omega) (by omega)]) ?_;refine hKM _ _ ⟨j+1,ss5,by omega,rfl,by rw[cV hlt,List.map_append,<-List.append_assoc];exact qc,λy g=>?_,sub hsb' t2 mc stb⟩ (by show L.length - (((j+1:Nat):Int)).toNat<L.length - ((j:Int)).toNat;omega);rcases nc y g with Z|Z
     ·exact t2 y Z
     ·exact .inr (by omega)
    ·obtain rfl:j=L.length:=by omega
     refine ck (v:=.bool false) (by simp[go_sem]<;>first|exact⟨rfl,rfl⟩|exact rfl) ?_;rw[ci,if_neg Bool.false_ne_true];rw[List.take_length]at t1;refine hKN (XS ss4 sb) W11 ⟨ss4,?_,λ_=>Iff.rfl⟩ ((mW2.mono λ_ _ h=>h.elim).trans (t3.mono λy _ g=>(i2 y).2 g)) λy g=>⟨?_,t1.ltX g⟩
     ·have e1:rR S (i+1)=rR S i++H:=by unfold rR;rw[hnt,List.flatMap_append,hH];simp
      have e2:qY S (i+1)=qY S i++U.map λo=>(n,o):=by unfold qY;rw[hnt,List.flatMap_append,hAl];simp
      have e3:qJ S (i+1)=qJ S i++L.map λo=>(n,o):=by unfold qJ;rw[hnt,List.flatMap_append,hBd];simp
      rw[hct,e1,e2,e3];exact t1
     ·rcases t2 y g with Z|Z
      ·exact .inl ((i2 y).2 Z)
      ·exact .inr (by omega)
 ·rintro X W d hd ⟨ss,i1,i2⟩ mW hdef hX
  have i1' :SB W sb S.cal.day S.next S.led.fund ss S.led.all S.cal.l (S.nums.flatMap S.led.holders) (S.nums.flatMap λn=>(S.bk n).all.map λo=>(n,o)) (S.nums.flatMap λn=>(S.bd n).map λo=>(n,o)) F:=by
   have e0:S.cal.l.length=S.nums.length:=by unfold dx.nums;rw[List.length_map]
   have e1:rR S S.cal.l.length=S.nums.flatMap S.led.holders:=by unfold rR;rw[e0,List.take_length]
   have e2:qY S S.cal.l.length=S.nums.flatMap λn=>(S.bk n).all.map λo=>(n,o):=by unfold qY;rw[e0,List.take_length]
   have e3:qJ S S.cal.l.length=S.nums.flatMap λn=>(S.bd n).map λo=>(n,o):=by unfold qJ;rw[e0,List.take_length]
   have i1'' :SB W sb S.cal.day S.next S.led.fund ss S.led.all (S.cal.l.take S.cal.l.length) (rR S S.cal.l.length) (qY S S.cal.l.length) (qJ S S.cal.l.length) F:=i1;rw[List.take_length,e1,e2,e3]at i1'';exact i1''
  have J:∀y,XS (ij s) sb y->F<=y:=hXlo q7;have pW:=mW.hpk p7 λY=>by have:=J _ Y;omega
  unfold EF;simp only[fk];refine ck (mz i1'.at_) ?_
  obtain⟨W2,e2',N,p⟩:=th (d:=S.cal.day) (n:=S.next) (f:=S.led.fund) (ss:=ss) pW rfl λi hi hj=>by
   obtain⟨a,c,hs,-⟩:=(i1'.own i hi hj).isSl;exact⟨_,_,_,hs⟩
  refine dt e2' ?_
  have hdX:¬XS ss sb d:=λY=>by
   rcases(hX d ((i2 d).2 Y)).2 with Z|Z
   ·have:=q7.ltX Z;omega
   ·omega
  refine wo (p.hpk hdef (by omega)) λW3 E=>?_;refine cB (mz (E.hpk N (by omega))) ?_;have hlo5:=M5.size;refine hK ss sb F W3 ((i1'.modX p λy g e=>by have:=hXlo i1' y g;omega).modX E λy g e=>hdX (e▸g)) (by omega) ?_ (by omega);exact((M7.on mW λy g=>.inr (by have:=J y g;omega)).on p λy g=>.inr (by omega)).on E λy g=>.inr (by omega)
end
end Go.Proofs
namespace Go.Proofs
open Go Go.Vc
def gy(l:List Po)(c:Int):Int:=((l.filter λp=>decide (p.c=c)).map (·.q)).sum
def gz(l:List Po)(c:Int):Int:=((l.filter λp=>decide (p.c=c)).map (·.b)).sum
def qS(l l' :List Po)(c:Int):gy (l++l') c=gy l c+gy l' c:=by simp[gy]
def qQ(l l' :List Po)(c:Int):gz (l++l') c=gz l c+gz l' c:=by simp[gz]
def uh(p:Po)(c:Int):gy [p] c=if p.c=c then p.q else 0:=by
 unfold gy;by_cases h:p.c=c
 ·rw[if_pos h,List.filter_cons_of_pos (by simpa using h)];simp
 ·rw[if_neg h,List.filter_cons_of_neg (by simpa using h)];simp
def uH(p:Po)(c:Int):gz [p] c=if p.c=c then p.b else 0:=by
 unfold gz;by_cases h:p.c=c
 ·rw[if_pos h,List.filter_cons_of_pos (by simpa using h)];simp
 ·rw[if_neg h,List.filter_cons_of_neg (by simpa using h)];simp
def yU{l:List Po}{c:Int}(h:∀p∈l,p.c≠c):gy l c=0/\gz l c=0:=by
 have:l.filter (λp=>decide (p.c=c))=[]:=List.filter_eq_nil_iff.2 λp hp=>by simpa using h p hp
 simp[gy,gz,this]
structure pw(A:List Ac)(p:Po):Prop where
 c:p.c≠0
 a:p.a≠0
 there:∃x∈A,x.num=p.a
 some:p.isZ=false
 q:cD p.q (-MP) MP=true
 b:cD p.b (-MF) MF=true
structure PA(A:List Ac):Prop where
 srt:qm A
 num:∀a∈A,0<a.num/\cD a.cash 0 MF=true
structure lx(f:Int)(A:List Ac)(P:List Po):Prop where
 len:A.length<=64
 fund:cD f 0 MF=true
 pa:PA A
 tot:f+(A.map (·.cash)).sum<=MF
 srt:kZ P
 good:∀p∈P,pw A p
 zero:∀c,gy P c=0/\gz P c=0
def ee{n lo hi:Int}:cD n lo hi=true↔lo<=n/\n<=hi:=by simp[cD]
def lx.ok{f:Int}{A:List Ac}{P:List Po}(h:lx f A P)(e:∀a∈A,0<=a.num/\a.num<4294967296)(d:∀p∈P,0<=p.c/\p.c<4294967296):(dM.mk f A P).Ok where
 fund:=ee.1 h.fund
 sa:=h.pa.srt
 sp:=h.srt
 len:=h.len
 acc:=λa b=>⟨(h.pa.num a b).1,(e a b).2,ee.1 (h.pa.num a b).2⟩
 pos:=λp hp=>by
  have g:=h.good p hp;have u:=d p hp;have h1:=ee.1 g.q;have c:=ee.1 g.b;exact⟨by have:=g.c;have:=u.1;omega,u.2,g.some,h1.1,h1.2,c.1,c.2,g.there⟩
def tl{α:Type}{R:α->α->Prop}{l:List α}(h:l.Pairwise R){i:Nat}(hi:i<l.length){b:α}(c:b∈l.take i):R b l[i]:=by
 obtain⟨j,a,rfl⟩:=List.getElem_of_mem c;rw[List.length_take]at a;rw[List.getElem_take];exact List.pairwise_iff_getElem.1 h _ _ _ _ (by omega)
structure pQ(pre:List Ac)(last:Int):Prop where
 pa:PA pre
 top:∀a∈pre,a.num<=last
 hit:(pre=[]/\last=0)\/∃a∈pre,a.num=last
def pQ.nil:pQ [] 0:=⟨⟨List.Pairwise.nil,by simp⟩,by simp,.inl ⟨rfl,rfl⟩⟩
def pQ.pos{pre:List Ac}{last:Int}(h:pQ pre last):0<=last:=by
 rcases h.hit with⟨-,rfl⟩|⟨a,b,rfl⟩
 ·exact Int.le_refl _
 ·have:=(h.pa.num a b).1;omega
def pQ.step{pre:List Ac}{last:Int}(h:pQ pre last){a:Ac}(h1:last<a.num)(d:cD a.cash 0 MF=true):pQ (pre++[a]) a.num:=by
 have e:=h.pos;refine⟨⟨List.pairwise_append.2 ⟨h.pa.srt,List.pairwise_singleton ..,λx b y c=>?_⟩,λx b=>?_⟩,λx b=>?_,.inr ⟨a,by simp,rfl⟩⟩
 ·rw[List.mem_singleton]at c;subst c;have:=h.top x b;omega
 ·rcases List.mem_append.1 b with b|b
  ·exact h.pa.num x b
  ·rw[List.mem_singleton]at b;subst b;exact⟨by omega,d⟩
 ·rcases List.mem_append.1 b with b|b
  ·have:=h.top x b;omega
  ·rw[List.mem_singleton]at b;subst b;omega
def pQ.bad{A:List Ac}{i:Nat}(hi:i<A.length){last:Int}(h:pQ (A.take i) last)(b:A[i].num<=last\/cD A[i].cash 0 MF=false):¬PA A:=by
 intro hp;have c:=hp.num A[i] (List.getElem_mem hi);rcases b with b|b
 ·rcases h.hit with⟨-,rfl⟩|⟨a,d,rfl⟩
  ·omega
  ·have:a.num<A[i].num:=tl hp.srt hi d;omega
 ·rw[c.2]at b;cases b
structure mG(pre:List Po)(lc la q b:Int):Prop where
 srt:kZ pre
 top:∀p∈pre,nu (lc,la) p.key=false
 hit:(pre=[]/\lc=0/\la=0)\/∃p∈pre,p.key=(lc,la)
 q:q=gy pre lc
 b:b=gz pre lc
 oth:∀c,c≠lc->gy pre c=0/\gz pre c=0
def mG.nil:mG [] 0 0 0 0:=⟨List.Pairwise.nil,by simp,.inl ⟨rfl,rfl,rfl⟩,rfl,rfl,λ_ _=>⟨rfl,rfl⟩⟩
def rl{x y z:Int×Int}(h:nu y x=false)(a:nu y z=true):nu x z=true:=by
 rcases BV y x with h1|h1|h1
 ·rw[h1]at h;cases h
 ·rw[<-h1];exact a
 ·exact rr h1 a
def mG.step{pre:List Po}{d k q b:Int}(h:mG pre d k q b){p:Po}(h1:nu (d,k) p.key=true)(g:p.c≠d->q=0/\b=0):mG (pre++[p]) p.c p.a (q+p.q) (b+p.b):=by
 have m:d<=p.c:=by rw[iB]at h1;simp only[Po.key]at h1;omega
 have i:gy pre p.c=q/\gz pre p.c=b:=by
  by_cases e:p.c=d
  ·rw[e];exact⟨h.q.symm,h.b.symm⟩
  ·obtain⟨rfl,rfl⟩:=g e;exact h.oth _ e
 refine⟨List.pairwise_append.2 ⟨h.srt,List.pairwise_singleton ..,λx a y j=>?_⟩,λx a=>?_,.inr ⟨p,by simp,rfl⟩,?_,?_,λc f=>?_⟩
 ·rw[List.mem_singleton]at j;subst j;exact rl (h.top x a) h1
 ·rcases List.mem_append.1 a with a|a
  ·exact vD (rl (h.top x a) h1)
  ·rw[List.mem_singleton]at a;subst a;exact wY
 ·rw[qS,uh,if_pos rfl,i.1]
 ·rw[qQ,uH,if_pos rfl,i.2]
 ·rw[qS,qQ,uh,uH,if_neg (Ne.symm f),if_neg (Ne.symm f)];by_cases e:c=d
  ·obtain⟨rfl,rfl⟩:=g (λl=>f (e.trans l.symm));rw[e,<-h.q,<-h.b];exact⟨rfl,rfl⟩
  ·have:=h.oth c e;rw[this.1,this.2];exact⟨rfl,rfl⟩
def mG.done{P:List Po}{a b:Int}(h:mG P a b 0 0)(c:Int):gy P c=0/\gz P c=0:=by
 by_cases e:c=a
 ·rw[e];exact⟨h.q.symm,h.b.symm⟩
 ·exact h.oth c e
def mG.bad_end{P:List Po}{a d q b:Int}(h:mG P a d q b)(f:q≠0\/b≠0):¬∀c,gy P c=0/\gz P c=0:=by
 intro e;have:=e a;rw[<-h.q,<-h.b]at this;omega
def mG.bad_sum{P:List Po}{i:Nat}(hi:i<P.length){f s q b:Int}(h:mG (P.take i) f s q b)(v:P[i].c≠f)(d:q≠0\/b≠0):¬(kZ P/\∀c,gy P c=0/\gz P c=0):=by
 rintro⟨l,r⟩;rcases h.hit with⟨e,-,-⟩|⟨x,t,o⟩
 ·have h1:=h.q;have k:=h.b;rw[e]at h1 k;rcases d with d|d
  ·exact d h1
  ·exact d k
 ·have a:nu x.key P[i].key=true:=tl l hi t;rw[o,iB]at a;simp only[Po.key]at a
  have n:∀p∈P.drop i,p.c≠f:=by
   intro p hp;obtain⟨j,u,rfl⟩:=List.getElem_of_mem hp;rw[List.getElem_drop];rw[List.length_drop]at u;by_cases g:j=0
   ·subst g;exact v
   ·have:=List.pairwise_iff_getElem.1 l i (i+j) hi (by omega) (by omega);rw[iB]at this;simp only[Po.key]at this;omega
  have m:=yU n;have:=r f;rw[<-List.take_append_drop i P,qS,qQ,m.1,m.2,<-h.q,<-h.b]at this;omega
def mG.bad_key{A:List Ac}{P:List Po}{i:Nat}(hi:i<P.length){d e q b:Int}(h:mG (P.take i) d e q b)(m:0<=P[i].c/\0<=P[i].a)(c:nu (d,e) P[i].key=false):¬(kZ P/\∀p∈P,pw A p):=by
 rintro⟨k,j⟩;have g:=j P[i] (List.getElem_mem hi);rcases h.hit with⟨-,rfl,rfl⟩|⟨x,l,f⟩
 ·rw[Bool.eq_false_iff,Ne,iB]at c;simp only[Po.key]at c;have:=g.c;omega
 ·have a:nu x.key P[i].key=true:=tl k hi l;rw[f,c]at a;cases a
def qM{l:List Int}{B:Int}(h:∀x∈l,-B<=x/\x<=B): -(B*l.length)<=l.sum/\l.sum<=B*l.length:=by
 induction l with
 |nil=>simp
 |cons x l a=>
  have h1:=h x List.mem_cons_self;have c:=a λy b=>h y (List.mem_cons_of_mem _ b)
  have e:B*((x::l).length:Int)=B*l.length+B:=by
   simp only[List.length_cons,Int.natCast_add,Int.natCast_one,Int.mul_add,Int.mul_one]
  rw[e];simp only[List.sum_cons];omega
def IK{P:List Po}{A:List Ac}(f:∀p∈P,pw A p)(g:P.length<=1024)(c:Int):(-10240000000<=gy P c/\gy P c<=10240000000)/\(-1024000000000000000<=gz P c/\gz P c<=1024000000000000000):=by
 have a:∀p∈P.filter (λp=>decide (p.c=c)),pw A p:=λp hp=>f p (List.mem_filter.1 hp).1;have b:=List.length_filter_le (λp:Po=>decide (p.c=c)) P;unfold gy gz;generalize P.filter (λp=>decide (p.c=c))=L at a b
 have h1:=qM (l:=L.map (·.q)) (B:=10000000) λx d=>by
  obtain⟨p,hp,rfl⟩:=List.mem_map.1 d;have:=ee.1 (a p hp).q;simpa [MP]using this
 have e:=qM (l:=L.map (·.b)) (B:=1000000000000000) λx d=>by
  obtain⟨p,hp,rfl⟩:=List.mem_map.1 d;have:=ee.1 (a p hp).b;simpa [MF]using this
 rw[List.length_map]at h1 e;omega
def kP:Int->List Ct->Bool
 |_,[]=>true
 |n,k::l=>decide (n<k.spec.num)&& (decide (1<=k.st)&& (decide (k.st<=3)&& (k.spec.isPrice k.price&& kP k.spec.num l)))
def jF:∀{l:List Ct} {n:Int},kP n l=true->(∀k∈l,n<k.spec.num/\1<=k.st/\k.st<=3/\k.spec.isPrice k.price=true)/\ob l
 | [],n,_=>⟨λk d=>(by cases d),List.Pairwise.nil⟩
 |k::l,n,h=>by
  unfold kP at h;simp only[Bool.and_eq_true,decide_eq_true_eq]at h;obtain⟨h1,c,i,e,g⟩:=h;obtain⟨b,f⟩:=jF g;refine⟨λx a=>?_,List.pairwise_cons.2 ⟨λx a=>(b x a).1,f⟩⟩;rcases List.mem_cons.1 a with rfl|a
  ·exact⟨h1,c,i,e⟩
  ·have:=b x a;exact⟨by omega,this.2⟩
def dM.stB(L:dM)(a:Int):Bool:=match L.getO a with|some x=> !x.dfl&& !x.kil|none=>false
def dx.stnd(S:dx)(lots:Bool)(U:List Int)(x:Int×Od):Bool:=
 decide (dg S.cal.l x.1=0)&& (S.led.stB x.2.acct&& (x.2.may&& ((fD S.cal.l x.1).1.spec.isPrice x.2.price&& ((!lots||(fD S.cal.l x.1).1.spec.isQty x.2.left)&& (decide (x.2.num<S.next)&& !U.contains x.2.num)))))
def io:List (Int×Od)->List Int->dx->Option (List Int×dx)
 | [],U,S=>some (U,S)
 |x::l,U,S=>
  if S.stnd true U x=false then none
  else if(cY (S.bk x.1) x.2 4).1≠0\/(cY (S.bk x.1) x.2 4).2.2.gone≠ []then none
  else io l (x.2.num::U) {S with bk:=fU S.bk x.1 (cY (S.bk x.1) x.2 4).2.1}
def iO:List (Int×Od)->Option Int->Int->List Int->dx->Option dx
 | [],pc,n,U,S=>some S
 |x::l,pc,n,U,S=>
  if S.stnd false U x=false then none
  else if x.2.num<=(if pc≠none/\pc≠some x.1 then 0 else n)then none
  else if 50<=(S.bd x.1).length then none
  else iO l (some x.1) x.2.num (x.2.num::U) {S with bd:=fU S.bd x.1 (S.bd x.1++[x.2])}
def eR(s:iN):dx:=⟨⟨s.day,s.cts⟩,⟨s.fund,s.accts,s.poss⟩,λ_=>Bk.empty,λ_=>[],s.next⟩
structure jW(s:iN):Prop where
 len:s.cts.length<=16
 cts:kP 0 s.cts=true
 led:lx s.fund s.accts s.poss
 next:1<=s.next/\s.next<=jx+1
 poss:∀p∈s.poss,dg s.cts p.c=0
def nO(s:iN):Option dx:=(io s.ords [] (eR s)).bind λx=>iO s.bids none 0 x.1 x.2
open Classical in
noncomputable def gm (s:iN):Option dx:=
 if jW s then(nO s).bind λS=>if S.state.ords=s.ords/\S.state.bids=s.bids then some S else none else none
structure iN.Fit(s:iN):Prop where
 day:iC s.day
 next:I2 s.next
 fund:fW s.fund
 accts:∀a∈s.accts,iC a.num/\fW a.cash
 cts:∀k∈s.cts,k.Fit
 poss:∀p∈s.poss,(iC p.c/\iC p.a)/\fW p.q/\fW p.b
 ords:∀x∈s.ords,iC x.1/\x.2.Fit
 bids:∀x∈s.bids,iC x.1/\x.2.Fit
def Hf{s:iN}(h:jW s)(c:s.Fit):(eR s).cal.Ok:=by
 obtain⟨h1,d⟩:=jF h.cts;refine⟨h.len,c.day,λk b=>?_,d⟩;obtain⟨g,e,f,a⟩:=h1 k b;refine⟨c.cts k b,?_,a,e,f⟩;unfold Sp.isPrice at a;exact(Bool.and_eq_true _ _▸a).1
def G5(P:List Po)(c:Int):AX (zgq c) P=gy P c/\AX (QN c) P=gz P c:=by
 induction P with
 |nil=>exact⟨rfl,rfl⟩
 |cons p P a=>
  have b:gy (p::P) c=gy [p] c+gy P c:=by rw[<-qS];rfl
  have d:gz (p::P) c=gz [p] c+gz P c:=by rw[<-qQ];rfl
  rw[b,d,uh,uH,<-a.1,<-a.2];constructor<;>simp only[AX,zgq,QN,List.map_cons,List.sum_cons]
def J5{s:iN}(h:jW s)(e:s.Fit):(eR s).Ok:=by
 refine⟨Hf h e,⟨h.led.ok (λa f=>(e.accts a f).1) (λp hp=>(e.poss p hp).1.1),h.poss,λc=>?_⟩,⟨λn _=>rfl,λn d=>⟨by show(0:Nat)<=100;omega,λo b=>(by cases b)⟩,λn o b=>(by cases b),λn=>List.nodup_nil,λn m o g b=>(by cases b),λn=>(by show(0:Nat)<=50;omega)⟩,h.next,h.led.tot⟩;show AX (zgq c) s.poss=0/\AX (QN c) s.poss=0;have:=G5 s.poss c;rw[this.1,this.2];exact h.led.zero c
structure JR(S:dx)(U:List Int)(x:Int×Od):Prop where
 alive:dg S.cal.l x.1=0
 may:x.2.may=true
 acc:S.led.Stands x.2.acct
 num:x.2.num<S.next
 new:x.2.num ∉ U
def jJ{S:dx}{c:Bool}{U:List Int}{x:Int×Od}(h:S.stnd c U x=true):JR S U x:=by
 unfold dx.stnd at h;simp only[Bool.and_eq_true,decide_eq_true_eq]at h;obtain⟨h1,b,d,j,k,f,i⟩:=h;refine⟨h1,d,?_,f,by simpa using i⟩
 have g:x.2.acct≠0:=by
  unfold Od.may at d;simp only[Bool.and_eq_true,decide_eq_true_eq]at d;exact d.1.1.2
 unfold dM.stB at b;unfold dM.getO at b;rw[if_neg g]at b;unfold dM.Stands;cases e:S.led.find x.2.acct with
 |none=>rw[e]at b;cases b
 |some a=>
  rw[e]at b;simp only[Bool.and_eq_true,Bool.not_eq_true']at b;exact⟨a,rfl,b.2,b.1⟩
structure im(S0 S:dx)(U:List Int):Prop where
 ok:S.Ok
 cal:S.cal=S0.cal
 led:S.led=S0.led
 next:S.next=S0.next
 nums:∀n,∀o∈S.ords n,o.num∈U
def im.fresh{S0 S:dx}{U:List Int}(h:im S0 S U){x:Int×Od}(b:JR S U x):∀m,∀y∈S.ords m,y.num≠x.2.num:=λm y a e=>b.new (e▸h.nums m y a)
def im.order{S0 S:dx}{U:List Int}(h:im S0 S U){x:Int×Od}(a:JR S U x)(l:x.2.Fit)(r:(cY (S.bk x.1) x.2 4).1=0):
  im S0 {S with bk:=fU S.bk x.1 (cY (S.bk x.1) x.2 4).2.1} (x.2.num::U):=by
 obtain⟨e,p,-⟩:=CB r;rw[e];have k:=AU h.ok.ord (n:=x.1) (o:=x.2) (rests:=decide ((4:Int)=1\/(4:Int)=4)) (nx:=S.next) a.alive a.may l a.num a.acc (h.fresh a) (Int.le_refl _);have g:=Cw (B:=S.bk x.1) (o:=x.2) (rests:=decide ((4:Int)=1\/(4:Int)=4)) (h.ok.ord.bkMay x.1) p;refine⟨⟨h.ok.cal,h.ok.led,k,h.ok.next,h.ok.fnd⟩,h.cal,h.led,h.next,λn o m=>?_⟩;rcases qk m with⟨d,h1⟩|h1
 ·replace h1:o∈fU S.bk x.1 (fj (S.bk x.1) x.2 (decide ((4:Int)=1\/(4:Int)=4))).1 n d:=h1;by_cases f:n=x.1
  ·subst f;rw[dI]at h1;by_cases i:d=x.2.buy
   ·subst i;rcases g.own with b|⟨-,b,-⟩
    ·rw[b]at h1;exact List.mem_cons_of_mem _ (h.nums _ o (kS h1))
    ·rw[b]at h1;rcases List.mem_cons.1 ((kB _ _ _).mem_iff.1 h1)with rfl|c
     ·exact List.mem_cons_self
     ·exact List.mem_cons_of_mem _ (h.nums _ o (kS c))
   ·obtain rfl:d= !x.2.buy:=by cases d<;>cases s:x.2.buy<;>simp_all
    obtain⟨q,c,j⟩:=g.opp.mem h1;rw[<-lm j];exact List.mem_cons_of_mem _ (h.nums _ q (kS c))
  ·rw[eE _ _ _ f]at h1;exact List.mem_cons_of_mem _ (h.nums n o (kS h1))
 ·exact List.mem_cons_of_mem _ (h.nums n o (sj h1))
def im.bid{S0 S:dx}{U:List Int}(h:im S0 S U){x:Int×Od}(a:JR S U x)(f:x.2.Fit)(g:(S.bd x.1).length<50):
  im S0 {S with bd:=fU S.bd x.1 (S.bd x.1++[x.2])} (x.2.num::U):=by
 have i:=h.ok.ord.addBd (n:=x.1) (x:=x.2) (nx:=S.next) a.alive a.may f a.num a.acc (h.fresh a) g (Int.le_refl _);refine⟨⟨h.ok.cal,h.ok.led,i,h.ok.next,h.ok.fnd⟩,h.cal,h.led,h.next,λn o e=>?_⟩;rcases qk e with⟨d,h1⟩|h1
 ·exact List.mem_cons_of_mem _ (h.nums n o (kS h1))
 ·replace h1:o∈fU S.bd x.1 (S.bd x.1++[x.2]) n:=h1;by_cases c:n=x.1
  ·subst c;rw[dI]at h1;rcases List.mem_append.1 h1 with b|b
   ·exact List.mem_cons_of_mem _ (h.nums _ o (sj b))
   ·rw[List.mem_singleton.1 b];exact List.mem_cons_self
  ·rw[eE _ _ _ c]at h1;exact List.mem_cons_of_mem _ (h.nums n o (sj h1))
def y6{S0:dx}:∀{l:List (Int×Od)} {U:List Int} {S:dx} {x:List Int×dx},im S0 S U->(∀y∈l,y.2.Fit)->io l U S=some x->im S0 x.2 x.1
 | [],U,S,x,h,_,e=>by cases e;exact h
 |y::l,U,S,x,h,b,e=>by
  unfold io at e;by_cases h1:S.stnd true U y=false
  ·rw[if_pos h1]at e;cases e
  rw[if_neg h1]at e;by_cases a:(cY (S.bk y.1) y.2 4).1≠0\/(cY (S.bk y.1) y.2 4).2.2.gone≠ []
  ·rw[if_pos a]at e;cases e
  rw[if_neg a]at e;exact y6 (h.order (jJ (by simpa using h1)) (b y List.mem_cons_self) (Classical.byContradiction λd=>a (.inl d))) (λz c=>b z (List.mem_cons_of_mem _ c)) e
def zf{S0:dx}:∀{l:List (Int×Od)} {pc:Option Int} {n:Int} {U:List Int} {S a:dx},im S0 S U->(∀y∈l,y.2.Fit)->iO l pc n U S=some a->∃f,im S0 a f
 | [],pc,n,U,S,a,h,_,e=>by cases e;exact⟨U,h⟩
 |y::l,pc,n,U,S,a,h,c,e=>by
  unfold iO at e;by_cases h1:S.stnd false U y=false
  ·rw[if_pos h1]at e;cases e
  rw[if_neg h1]at e;by_cases b:y.2.num<=(if pc≠none/\pc≠some y.1 then 0 else n)
  ·rw[if_pos b]at e;cases e
  rw[if_neg b]at e;by_cases d:50<=(S.bd y.1).length
  ·rw[if_pos d]at e;cases e
  rw[if_neg d]at e;exact zf (h.bid (jJ (by simpa using h1)) (c y List.mem_cons_self) (by omega)) (λz g=>c z (List.mem_cons_of_mem _ g)) e
def im.zero{s:iN}(h:jW s)(a:s.Fit):im (eR s) (eR s) []:=⟨J5 h a,rfl,rfl,rfl,λn o b=>(by cases b)⟩
def Jh{s:iN}{S:dx}(h:gm s=some S):jW s/\nO s=some S/\S.state.ords=s.ords/\S.state.bids=s.bids:=by
 unfold gm at h;by_cases a:jW s
 ·rw[if_pos a]at h;cases d:nO s with
  |none=>rw[d]at h;cases h
  |some c=>
   rw[d]at h;simp only[Option.bind_some]at h;by_cases b:c.state.ords=s.ords/\c.state.bids=s.bids
   ·rw[if_pos b]at h;cases h;exact⟨a,rfl,b⟩
   ·rw[if_neg b]at h;cases h
 ·rw[if_neg a]at h;cases h
def FW{s:iN}{S:dx}(d:jW s)(a:s.Fit)(h:nO s=some S):∃U,im (eR s) S U:=by
 unfold nO at h;cases c:io s.ords [] (eR s)with
 |none=>rw[c]at h;cases h
 |some x=>
  rw[c]at h;exact zf (y6 (im.zero d a) (λy b=>(a.ords y b).2) c) (λy b=>(a.bids y b).2) h
def sw{s:iN}{S:dx}(b:s.Fit)(h:gm s=some S):S.Ok/\S.cal=⟨s.day,s.cts⟩/\S.led=⟨s.fund,s.accts,s.poss⟩/\S.next=s.next/\S.state.ords=s.ords/\S.state.bids=s.bids:=by
 obtain⟨d,h1,c,e⟩:=Jh h;obtain⟨U,a⟩:=FW d b h1;exact⟨a.ok,a.cal,a.led,a.next,c,e⟩
def Ai:iN:=⟨0,1,0,[],[],[],[],[]⟩
def A7:gm Ai=some dx.empty:=by
 have d:jW Ai:=⟨by decide,rfl,⟨by decide,by decide,⟨List.Pairwise.nil,λa b=>(by cases b)⟩,by decide,List.Pairwise.nil,λa b=>(by cases b),λc=>⟨rfl,rfl⟩⟩,⟨by decide,by decide⟩,λp hp=>(by cases hp)⟩
 unfold gm;rw[if_pos d];have:nO Ai=some dx.empty:=rfl;rw[this,Option.bind_some];exact if_pos ⟨rfl,rfl⟩
end Go.Proofs
namespace Go.Proofs
open Go Go.Vc
attribute [local congr] cq
abbrev eW(w:World)(ss:Nat->Value)(s:iN):Prop:=∀i,3<=i->i<=7->Rd w (AM i) (ss i) (LN s.accts s.cts s.poss s.ords s.bids i) (LC s.accts s.cts s.poss s.ords s.bids i)
def Bc(s:iN)(ss:Nat->Value):Value:=pU s.day s.next s.fund ss
def eW.md0{w w' :World}{ss:Nat->Value}{s:iN}(h:eW w ss s)(m:cl (λ_=>False) w w'):eW w' ss s:=λi h1 a=>(h i h1 a).mod m λ_ _ h=>h
def eW.sl{w:World}{ss:Nat->Value}{s:iN}(h:eW w ss s):∀i,3<=i->i<=7->∃a n c,ss i=.slice a n c:=λi h1 b=>by
 obtain⟨a,c,e⟩:=(h i h1 b).isSl;exact⟨a,_,c,e⟩
def eW.accts{w:World}{ss:Nat->Value}{s:iN}(h:eW w ss s):Rd w 4 (ss 3) s.accts.length (s.accts.flatMap cM):=h 3 (by omega) (by omega)
def eW.cts{w:World}{ss:Nat->Value}{s:iN}(h:eW w ss s):Rd w 27 (ss 4) s.cts.length (s.cts.flatMap dU):=h 4 (by omega) (by omega)
def eW.poss{w:World}{ss:Nat->Value}{s:iN}(h:eW w ss s):Rd w 4 (ss 5) s.poss.length (s.poss.flatMap cL):=h 5 (by omega) (by omega)
def eW.ords{w:World}{ss:Nat->Value}{s:iN}(h:eW w ss s):Rd w 6 (ss 6) s.ords.length (s.ords.flatMap dB):=h 6 (by omega) (by omega)
def eW.bids{w:World}{ss:Nat->Value}{s:iN}(h:eW w ss s):Rd w 6 (ss 7) s.bids.length (s.bids.flatMap dB):=h 7 (by omega) (by omega)
abbrev cR(w:World)(b:Nat)(d nx fu:Int)(ss:Nat->Value):Prop:=hp w b=some (.cells (nv d nx fu ss).toArray kJ (0,0))
def pC(d nx b:Int)(ss:Nat->Value)(w:World):∃a,(Instr.box kJ (pU d nx b ss)).run Tryz.prog w=.ok (.pointer (some ⟨w.heap.size,0,none⟩)) a/\cR a w.heap.size d nx b ss/\cl (λ_=>False) w a:=
 ⟨w.alloc (.cells (nv d nx b ss).toArray kJ),rfl,by show hp _ _=_;simp[go_sem],(cl.refl _ w).alloc _⟩
def dR{w:World}{b:Nat}{d nx g:Int}{ss:Nat->Value}(h:cR w b d nx g ss)(k:∀i,3<=i->i<=7->∃a n c,ss i=.slice a n c)(i:Nat)(hi:3<=i)(j:i<=7):(Instr.loadAt (oI i) (.pointer (some ⟨b,i,none⟩))).run Tryz.prog w=.ok (ss i) w:=by
 have f:hp w b=some (.cells (nv d nx g ss).toArray kJ (0,0)):=h;obtain⟨a,n,c,e⟩:=k i hi j;have:i=3\/i=4\/i=5\/i=6\/i=7:=by omega
 rcases this with rfl|rfl|rfl|rfl|rfl<;>(simp only[oI];rw[e];simp only[nv]at f;rw[e]at f;simp[go_sem,f])
def gB{w:World}{b:Nat}{d nx c:Int}{ss:Nat->Value}(h:cR w b d nx c ss):(Instr.loadAt 35 (.pointer (some ⟨b,0,none⟩))).run Tryz.prog w=.ok (.int .u32 d) w/\(Instr.loadAt 27 (.pointer (some ⟨b,1,none⟩))).run Tryz.prog w=.ok (.int .u64 nx) w/\(Instr.loadAt 2 (.pointer (some ⟨b,2,none⟩))).run Tryz.prog w=.ok (.int .i64 c) w:=by
 have a:hp w b=some (.cells (nv d nx c ss).toArray kJ (0,0)):=h;simp only[nv]at a;exact⟨by simp[go_sem,a],by simp[go_sem,a],by simp[go_sem,a]⟩
set_option maxRecDepth 10000 in
def rG{w:World}{b:Nat}{d nx c:Int}{ss:Nat->Value}(h:cR w b d nx c ss):
  (∀x,∃a,(Instr.storeAt 35 (.pointer (some ⟨b,0,none⟩)) (.int .u32 x)).run Tryz.prog w=.ok () a/\cR a b x nx c ss/\cl (λy=>y=b) w a)/\
  (∀x,∃a,(Instr.storeAt 27 (.pointer (some ⟨b,1,none⟩)) (.int .u64 x)).run Tryz.prog w=.ok () a/\cR a b d x c ss/\cl (λy=>y=b) w a)/\
  (∀x,∃a,(Instr.storeAt 2 (.pointer (some ⟨b,2,none⟩)) (.int .i64 x)).run Tryz.prog w=.ok () a/\cR a b d nx x ss/\cl (λy=>y=b) w a):=by
 have e:hp w b=some (.cells (nv d nx c ss).toArray kJ (0,0)):=h;simp only[nv]at e;refine⟨λx=>⟨w.setCell ⟨b,0,none⟩ (.int .u32 x),?_,?_,?_⟩,λx=>⟨w.setCell ⟨b,1,none⟩ (.int .u64 x),?_,?_,?_⟩,λx=>⟨w.setCell ⟨b,2,none⟩ (.int .i64 x),?_,?_,?_⟩⟩
 all_goals first|exact(cl.refl (λy=>y=b) w).setCell (.inl rfl) _ _|(show hp _ _=_;simp[go_sem,e,nv])|simp[go_sem,e]
set_option maxRecDepth 10000 in
def pE{w:World}{b:Nat}{d nx k:Int}{ss:Nat->Value}(h:cR w b d nx k ss)(l:∀i,3<=i->i<=7->∃a n c,ss i=.slice a n c)(i:Nat)(hi:3<=i)(m:i<=7){s' :Value}(e:∃a n c,s' =.slice a n c):
  ∃j,(Instr.storeAt (oI i) (.pointer (some ⟨b,i,none⟩)) s').run Tryz.prog w=.ok () j/\cR j b d nx k (dq ss i s')/\cl (λy=>y=b) w j:=by
 have f:hp w b=some (.cells (nv d nx k ss).toArray kJ (0,0)):=h;obtain⟨p,o,q,g⟩:=l i hi m;obtain⟨a,n,c,e⟩:=e;have:i=3\/i=4\/i=5\/i=6\/i=7:=by omega
 refine⟨w.setCell ⟨b,i,none⟩ s',?_,?_,(cl.refl (λy=>y=b) w).setCell (.inl rfl) _ _⟩
 ·rcases this with rfl|rfl|rfl|rfl|rfl<;>(simp only[nv]at f;rw[g]at f;simp only[oI];rw[e];simp[go_sem,f])
 ·show hp _ _=_;rcases this with rfl|rfl|rfl|rfl|rfl<;>(simp only[nv]at f;rw[g]at f;rw[e];simp[go_sem,f,nv,dq])
def lZ{ss:Nat->Value}(e:∀i,3<=i->i<=7->∃a n c,ss i=.slice a n c)(i:Nat){s' :Value}(b:∃a n c,s' =.slice a n c):∀j,3<=j->j<=7->∃a n c,dq ss i s' j=.slice a n c:=λj h1 d=>by
 unfold dq;split
 ·exact b
 ·exact e j h1 d
def oe:∀i,3<=i->i<=7->∃a n c,ij cG i=.slice a n c:=λi _ _=>by
 unfold ij cG;split<;>exact⟨_,_,_,rfl⟩
def G8(W:World):(Instr.build kJ #[]).run Tryz.prog W=.ok (pU 0 0 0 (ij cG)) W:=by
 simp[go_sem,pU,nv,ij,cG]
end Go.Proofs
