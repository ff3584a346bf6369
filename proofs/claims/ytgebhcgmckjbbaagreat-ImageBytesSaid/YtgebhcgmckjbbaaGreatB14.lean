/- Part of a proof. -/
import Derived.Test.YtgebhcgmckjbbaaGreatB13
set_option linter.all false
namespace Go.Proofs
open Go Go.Vc
attribute [local congr] cr
def ry(S:dF)(i:Nat):List Po:=(S.nums.take i).flatMap S.led.holders
def qM(S:dF)(i:Nat):List (Int×Od):=(S.nums.take i).flatMap λn=>(S.bk n).all.map λo=>(n,o)
def qr(S:dF)(i:Nat):List (Int×Od):=(S.nums.take i).flatMap λn=>(S.bd n).map λo=>(n,o)
def RB{S:dF}{i:Nat}(hi:i<S.cal.l.length):S.nums.take (i+1)=S.nums.take i++[S.cal.l[i].spec.num]:=by
 have a:i<S.nums.length:=by unfold dF.nums;rw[List.length_map];exact hi
 rw[cQ a];simp[dF.nums]
def EB{S:dF}(h:S.led.Ok)(i:Nat):(ry S i).length<=64*i:=by
 unfold ry;induction i with
 |zero=>simp
 |succ i a=>
  by_cases b:i<S.nums.length
  ·rw[cQ b,List.flatMap_append,List.length_append];have:=ob h S.nums[i];simp only[List.flatMap_cons,List.flatMap_nil,List.append_nil];omega
  ·rw[List.take_of_length_le (by omega)];rw[List.take_of_length_le (by omega)]at a;omega
def zg{S:dF}(h:AV S)(i:Nat):(qM S i).length<=200*i:=by
 unfold qM;induction i with
 |zero=>simp
 |succ i a=>
  by_cases b:i<S.nums.length
  ·rw[cQ b,List.flatMap_append,List.length_append];have h1:=(h.side S.nums[i] true).1;have d:=(h.side S.nums[i] false).1
   have e:((S.bk S.nums[i]).all.map λo=>(S.nums[i],o)).length<=200:=by
    rw[List.length_map];unfold Bk.all;rw[List.length_append];omega
   simp only[List.flatMap_cons,List.flatMap_nil,List.append_nil];omega
  ·rw[List.take_of_length_le (by omega)];rw[List.take_of_length_le (by omega)]at a;omega
def yB{S:dF}(h:AV S)(i:Nat):(qr S i).length<=50*i:=by
 unfold qr;induction i with
 |zero=>simp
 |succ i a=>
  by_cases b:i<S.nums.length
  ·rw[cQ b,List.flatMap_append,List.length_append];have h1:=h.bdl S.nums[i];simp only[List.flatMap_cons,List.flatMap_nil,List.append_nil,List.length_map];omega
  ·rw[List.take_of_length_le (by omega)];rw[List.take_of_length_le (by omega)]at a;omega
section
variable{w:World}{K:cm}{v c l mb md:Nat}{A:List (Int×Nat)}{D:List (Int×Value)}{fp:Pt->Nat->Prop}{S:dF}
set_option maxRecDepth 10000 in
set_option maxHeartbeats 8000000 in
def uZ(h:gZ w v c l mb md A D fp S)(hok:S.Ok)
  (hK:∀ss b F w',SB w' b S.cal.day S.next S.led.fund ss S.led.all S.cal.l (S.nums.flatMap S.led.holders) (S.nums.flatMap λn=>(S.bk n).all.map λo=>(n,o)) (S.nums.flatMap λn=>(S.bd n).map λo=>(n,o)) F->w.heap.size<=F->cl (λ_=>False) w w' ->w.heap.size<=b->K (oJ S.cal.day S.next S.led.fund ss) w'):
  Ca Tryz.prog 14 #[eh v] w K:=by
 apply QQ;obtain⟨n0,hn0⟩:∃n0,n0=w.heap.size:=⟨_,rfl⟩
 have hlay:∃w1,w.alloc (.cells #[eh v] 23)=w1/\w1.heap.size=n0+1/\cl (λ_=>False) w w1/\hp w1 n0=some (.cells #[eh v] 23 (0,0)):=by
  refine⟨_,rfl,by simp[go_sem,hn0],(cl.refl _ w).alloc _,?_⟩;simp[go_sem,hn0]
 obtain⟨w1,hw1,hsz1,V,b1⟩:=hlay;refine ck (v:=.pointer (some ⟨n0,0,none⟩)) (w' :=w1) (by rw[<-hw1,hn0];rfl) ?_;clear hw1;obtain⟨w2,e2,b2,m2⟩:=kV w1;refine ck e2 ?_;obtain⟨p2,hp2⟩:∃p2,p2=n0+1:=⟨_,rfl⟩
 rw[hsz1,<-hp2]at b2|-;have hp2l:p2<w2.heap.size:=cn b2;have M2:=V.trans m2;have h2:=h.md0 M2;have g0:=m2.hpk b1 id;have lv0:∀{W},hp W n0=some (.cells #[eh v] 23 (0,0))->(Instr.loadAt 23 (.pointer (some ⟨n0,0,none⟩))).run Tryz.prog W=.ok (eh v) W:=λhW=>by simp[go_sem,hW,eh]
 refine ck (lv0 g0) ?_;refine rj h2.blk ?_;refine ck (v:=.bool false) (w' :=w2) (by simp[go_sem]) ?_;rw[ci,if_neg Bool.false_ne_true];refine ck (lv0 g0) ?_;simp only[eh,cw];refine ck (jX 1 (by omega) _) (ck (uC _ h2.blk) ?_);refine zY h2.led λw3 m3=>?_;have hg0:S.led.getV 0=(⟨0,S.led.fund,false,false⟩,0):=rfl;rw[hg0];refine ck (by simp[-Int.natCast_add,go_sem]<;>first|exact⟨rfl,rfl⟩|exact rfl) ?_;refine ck (by simp[-Int.natCast_add,go_sem]<;>first|exact⟨rfl,rfl⟩|exact rfl) ?_;obtain⟨w4,w5,e4,e5,b5,m5⟩:=yn ⟨0,S.led.fund,false,false⟩ w3;obtain⟨ra,hra⟩:∃ra,ra=w3.heap.size:=⟨_,rfl⟩
 refine ck e4 (dI e5 ?_);rw[<-hra]at b5|-;have M5:=(M2.trans m3).trans m5;have h5:=h.md0 M5;have g5:=m5.hpk (m3.hpk g0 id) id;have p5:=m5.hpk (m3.hpk b2 id) id;obtain⟨F,hlo⟩:∃F,F=w5.heap.size:=⟨_,rfl⟩
 have hra5:ra<F:=by rw[hlo];exact cn b5
 have hp25:p2<F:=by rw[hlo];exact cn p5
 have Q:S.led.Ok:=hok.led.led;have hal:=Q.len;refine cB.at (λst W=>∃sb s,st=(.pointer (some ⟨sb,0,none⟩),())/\SB W sb S.cal.day S.next S.led.fund (jY s) S.led.all [] [] [] [] F/\F<=sb/\cl (λ_=>False) w5 W) ?_ ?_
 ·have T:cl (λ_=>False) w5 w5.drew:=(cl.refl _ w5).drew;have hsu:w5.drew.heap.size=w5.heap.size:=rfl;have hu:=h5.md0 T;have gu:=T.hpk g5 id;have bu:=T.hpk b5 id
  try dsimp only
  generalize w5.drew=u at T hsu hu gu bu|-
  have fx:∀W,cl (λ_=>False) u W->(Instr.loadAt 2 (.pointer (some ⟨ra,1,none⟩))).run Tryz.prog W=.ok (.int .i64 S.led.fund) W/\(Instr.loadAt 27 (.pointer (some ⟨v,4,none⟩))).run Tryz.prog W=.ok (.int .u64 S.next) W/\(Instr.loadAt 23 (.pointer (some ⟨n0,0,none⟩))).run Tryz.prog W=.ok (eh v) W/\(Instr.loadAt 62 (.pointer (some ⟨v,1,none⟩))).run Tryz.prog W=.ok (dm l) W/\(Instr.loadAt 61 (.pointer (some ⟨v,0,none⟩))).run Tryz.prog W=.ok (dK c) W:=λW m=>by
   have hW:=hu.md0 m;have bW:=m.hpk bu id;exact⟨by simp[go_sem,bW,cJ],nh _ hW.blk,lv0 (m.hpk gu id),uC _ hW.blk,Kj _ hW.blk⟩
  have fin:∀(W:World) (sb:Nat) (s:Value) (K2:World->Prop),cl (λ_=>False) u W->hp W sb=some (.cells (nm 0 0 0 (jY cF)).toArray lY (0,0))->F<=sb->dW W 92 4 s S.led.all.length (S.led.all.flatMap cJ)->(∀y,co s y->F<=y/\y≠sb)->
    (∀t,SB t sb S.cal.day S.next S.led.fund (jY s) S.led.all [] [] [] [] F->cl (λ_=>False) w5 t->K2 t)->ru Tryz.prog (Instr.storeAt lY (.pointer (some ⟨sb,0,none⟩)) (oJ S.cal.day S.next S.led.fund (jY s))) W K2:=by
   intro W sb s K2 m hb hsb ho hs hk;obtain⟨sa,sc,R,-⟩:=ho.isSl
   obtain⟨t,e',b',m'⟩:=uH (d:=S.cal.day) (n:=S.next) (f:=S.led.fund) (ss:=jY s) hb rfl λi _ _=>by
    unfold jY;split
    ·exact⟨_,_,_,R⟩
    ·exact⟨none,0,0,rfl⟩
   refine dI e' (hk t ⟨b',λi hi hj=>?_,λi j y hi1 hi2 hj1 hj2 h1 h2=>?_,λi y hi hj g=>?_⟩ ((T.trans m).on m' λy g=>.inr (by omega)))
   ·have hi' :i=3\/i=4\/i=5\/i=6\/i=7:=by omega
    rcases hi' with rfl|rfl|rfl|rfl|rfl
    ·exact ho.mod m' λy g e=>(hs y g).2 e
    ·exact dW.nil _ _ _
    ·exact dW.nil _ _ _
    ·exact dW.nil _ _ _
    ·exact dW.nil _ _ _
   ·unfold jY at h1 h2;by_cases hi:i=3
    ·by_cases hj:j=3
     ·rw[hi,hj]
     ·rw[if_neg hj]at h2;cases h2
    ·rw[if_neg hi]at h1;cases h1
   ·unfold jY at g;by_cases hi3:i=3
    ·rw[if_pos hi3]at g;exact hs y g
    ·rw[if_neg hi3]at g;cases g
  have rU:=fx u (cl.refl _ _);refine cx rU.2.2.1 ?_;simp only[eh,cw];refine cq (jX 0 (by omega)) (cx rU.2.2.2.2 ?_);refine cx rU.2.2.1 ?_;simp only[eh,cw];refine cq (jX 4 (by omega)) (cx rU.2.1 ?_);refine cq (v:=.pointer (some ⟨ra,1,none⟩)) (λ_=>by simp[go_sem]) (cx rU.1 ?_);refine cx rU.2.2.1 ?_;simp only[eh,cw];refine cq (jX 1 (by omega)) (cx rU.2.2.2.1 ?_);refine⟨?_,?_⟩
  ·refine BQ hu.cal ?_;refine⟨rU.2.2.2.1,rU.2.2.1,rU.1,rU.2.1,rU.2.2.1,?_,?_⟩
   ·refine nZ hu.led λgv u1 ht V=>?_;have r1:=fx u1 V;refine⟨r1.1,r1.2.1,r1.2.2.1,?_,?_⟩
    ·refine mK ht.m (by omega) λs u2 o2 m2 n2=>?_;have M:=V.trans m2;have G:=fx u2 M;refine⟨G.1,G.2.1,G.2.2.1,?_⟩;obtain⟨sa,sc,R,-⟩:=o2.isSl;refine cq (λW=>Bp _ _ _ _ W ⟨_,_,_,R⟩) ?_;obtain⟨u3,e3,b3,E⟩:=kV u2;refine ck e3 ?_;have r3:=fx u3 (M.trans E);refine⟨r3.1,r3.2.1,r3.2.2.1,?_⟩;have hs2:=V.size;have hs3:=m2.size;exact fin u3 _ s _ (M.trans E) b3 (by omega) (o2.mod E λ_ _ h=>h) (λy g=>⟨by have:=n2 y g;omega,by have:=o2.lt g;omega⟩) λt hW' mW' =>⟨_,s,rfl,hW',by omega,mW'⟩
    ·obtain⟨u2,e2',N,p⟩:=kV u1;refine ck e2' ?_;have G:=fx u2 (V.trans p);refine⟨G.1,G.2.1,G.2.2.1,?_⟩;refine mK (ht.m.mod p) (by omega) λs u3 o3 E n3=>?_;have M:=(V.trans p).trans E;have r3:=fx u3 M;refine⟨r3.1,r3.2.1,r3.2.2.1,?_⟩;obtain⟨sa,sc,R,-⟩:=o3.isSl;refine cq (λW=>Bp _ _ _ _ W ⟨_,_,_,R⟩) ?_;have hs1:=V.size;have hs2:=cn N;exact fin u3 _ s _ M (E.hpk N id) (by omega) o3 (λy g=>⟨by have:=n3 y g;omega,by have:=n3 y g;omega⟩) λt hW' mW' =>⟨_,s,rfl,hW',by omega,mW'⟩
   ·obtain⟨u2,e2',N,p⟩:=kV u;refine ck e2' ?_;have G:=fx u2 p;refine⟨G.2.2.2.1,G.2.2.1,G.1,G.2.1,G.2.2.1,?_⟩;refine nZ (hu.md0 p).led λgv u1 ht V=>?_;have r1:=fx u1 (p.trans V);refine⟨r1.1,r1.2.1,r1.2.2.1,?_⟩;refine mK ht.m (by omega) λs u3 o3 E n3=>?_;have M:=(p.trans V).trans E;have r3:=fx u3 M;refine⟨r3.1,r3.2.1,r3.2.2.1,?_⟩;obtain⟨sa,sc,R,-⟩:=o3.isSl;refine cq (λW=>Bp _ _ _ _ W ⟨_,_,_,R⟩) ?_;have hs1:=V.size;have hs2:=cn N;exact fin u3 _ s _ M (E.hpk (V.hpk N id) id) (by omega) o3 (λy g=>⟨by have:=n3 y g;omega,by have:=n3 y g;omega⟩) λt hW' mW' =>⟨_,s,rfl,hW',by omega,mW'⟩
  ·obtain⟨u2,e2',N,p⟩:=kV u;refine ck e2' ?_;have G:=fx u2 p;refine⟨G.2.2.2.1,G.2.2.1,G.1,G.2.1,G.2.2.1,G.2.2.2.2,G.2.2.1,?_⟩;refine BQ (hu.md0 p).cal ?_;refine⟨G.2.2.2.1,G.2.2.1,G.1,G.2.1,G.2.2.1,?_⟩;refine nZ (hu.md0 p).led λgv u1 ht V=>?_;have r1:=fx u1 (p.trans V);refine⟨r1.1,r1.2.1,r1.2.2.1,?_⟩;refine mK ht.m (by omega) λs u3 o3 E n3=>?_;have M:=(p.trans V).trans E;have r3:=fx u3 M;refine⟨r3.1,r3.2.1,r3.2.2.1,?_⟩;obtain⟨sa,sc,R,-⟩:=o3.isSl;refine cq (λW=>Bp _ _ _ _ W ⟨_,_,_,R⟩) ?_;have hs1:=V.size;have hs2:=cn N;exact fin u3 _ s _ M (E.hpk (V.hpk N id) id) (by omega) o3 (λy g=>⟨by have:=n3 y g;omega,by have:=n3 y g;omega⟩) λt hW' mW' =>⟨_,s,rfl,hW',by omega,mW'⟩
 rintro _ w6 ⟨sb,s,rfl,q6,hsb,m6⟩;unfold D4;intro _;have hs6:=m6.size;have h6:=h5.md0 m6;have g6:=m6.hpk g5 id;have p6:=m6.hpk p5 id;have M6:=M5.trans m6;refine ck (lv0 g6) ?_;simp only[eh,cw];refine ck (jX 0 (by omega) _) (ck (Kj _ h6.blk) ?_);refine Bt h6.cal λgv w7 ht m7=>?_;have h7:=h6.md0 m7;have g7:=m7.hpk g6 id;have p7:=m7.hpk p6 id;have q7:=SB.modX q6 m7 λ_ _ h=>h;have M7:=M6.trans m7;have hfl:∀pt y,fp pt y->y<n0:=λpt y g=>by rw[hn0];exact h.lt g
 have hXlo:∀{ss:Nat->Value} {W:World} {C:List Ct} {P:List Po} {O B:List (Int×Od)},SB W sb S.cal.day S.next S.led.fund ss S.led.all C P O B F->∀y,XS ss sb y->F<=y:=λhh y g=>by
  rcases g with rfl|⟨i,hi,hj,g⟩
  ·exact hsb
  ·exact(hh.nw i y hi hj g).1
 have hs7:=m7.size;have hcl:S.cal.l.length<=16:=hok.cal.len;let I:(Nat->Prop)->Nat->World->Prop:=λX i W=>∃ss,SB W sb S.cal.day S.next S.led.fund ss S.led.all (S.cal.l.take i) (ry S i) (qM S i) (qr S i) F/\∀y,X y↔XS ss sb y
 delta DJ
 refine ED (X0:=XS (jY s) sb) (fv:=λk:Ct=>.agg (dN k).toArray) (asg:=λx W K=>rx Tryz.prog (iz gQ) W λv w1=>gh Tryz.prog (ew gQ v x) w1 λw2=>K v w2) (Pv:=yI gQ dN) (xs:=S.cal.l) ht B4 xj I (λ_ _ _=>False) ?_ (λ_ _ _ _ _ h=>h.elim) (λy g=>q7.ltX g) ⟨jY s,q7,λ_=>Iff.rfl⟩ ?_ ?_ (λ_ _ _ _ _ h=>h.elim)
 ·rintro X i W t H ⟨ss,i1,i2⟩ hm hX;exact⟨ss,i1.modX hm λy g=>hX y ((i2 y).2 g),i2⟩
 ·rintro X i hi W q vv ⟨ss,i1,i2⟩ mW hX hdq hqW ⟨rfl,zgq⟩ ⟨rec0,hrec⟩ KN KJ hKN hKJ;obtain⟨k,hk⟩:∃k,k=S.cal.l[i]:=⟨_,rfl⟩
  have hk' :k=S.cal.l[i]'hi:=hk;rw[<-hk']at zgq;obtain⟨n,hn⟩:∃n,n=k.spec.num:=⟨_,rfl⟩
  have hi16:i<16:=by have:i<S.cal.l.length:=hi;omega
  have hct:=cQ (l:=S.cal.l) hi;rw[<-hk']at hct;have hnt:=RB (S:=S) hi;have hnk:S.cal.l[i].spec.num=n:=by rw[hn,hk']
  rw[hnk]at hnt;have J:∀y,XS (jY s) sb y->F<=y:=hXlo q7;have hW:=h7.mod mW λpt y g Y=>by have:=hfl pt y g;have:=J y Y;omega
  have gW:=mW.hpk g7 λY=>by have:=J _ Y;omega
  have hlX:∀y,XS ss sb y->y<q/\y≠w7.heap.size+1/\F<=y:=λy g=>by
   have h1:=hX y ((i2 y).2 g);refine⟨h1.1,?_,hXlo i1 y g⟩;rcases h1.2 with Z|Z
   ·have:=q7.ltX Z;omega
   ·omega
  refine ck (v:=.pointer (some ⟨q,0,none⟩)) (w' :=W) (by simp[go_sem]) (ck (v:=.pointer (some ⟨q,0,none⟩)) (w' :=W) (by simp[go_sem]) ?_);refine ck (v:=.int .u32 n) (w' :=W) (by simp[go_sem,zgq,HK,hn]) ?_
  have hlay:∃W2,(W.alloc (.cells #[.int .u32 0] 35)).setCell ⟨W.heap.size,0,none⟩ (.int .u32 n)=W2/\cl (λ_=>False) W W2/\hp W2 W.heap.size=some (.cells #[.int .u32 n] 35 (0,0)):=
   ⟨_,rfl,((cl.refl _ W).alloc _).setCell (.inr (Nat.le_refl _)) _ _,by simp[go_sem]⟩
  obtain⟨W2,hW2,mW2,bn⟩:=hlay;refine ck (v:=.pointer (some ⟨W.heap.size,0,none⟩)) (w' :=W.alloc (.cells #[.int .u32 0] 35)) (by simp[go_sem]) ?_;refine dI (w' :=W2) (by rw[<-hW2];simp[go_sem]) ?_;clear hW2;obtain⟨pn,hpn⟩:∃pn,pn=W.heap.size:=⟨_,rfl⟩
  rw[<-hpn]at bn|-;have hpnl:=cn bn;have i3:=i1.modX mW2 λ_ _ h=>h;have gq2:=mW2.hpk zgq id;have hV2:=hW.md0 mW2;have g2:=mW2.hpk gW id;have rc2:=mW2.keep (hrec:hp W _=_) id;have hsW2:=mW2.size;have hn0W:n0<W.heap.size:=cn gW;have hlW:w7.heap.size+1<W.heap.size:=by omega
  have ln:∀{t},hp t pn=some (.cells #[.int .u32 n] 35 (0,0))->(Instr.loadAt 35 (.pointer (some ⟨pn,0,none⟩))).run Tryz.prog t=.ok (.int .u32 n) t:=λhh=>by simp[go_sem,hh]
  have hnX:∀y,XS ss sb y->y≠n0/\y≠pn/\y≠w7.heap.size+1/\∀pt,¬fp pt y:=λy g=>by
   have h1:=hlX y g;have h2:=i1.ltX g;exact⟨by omega,by omega,h1.2.1,λpt Y=>by have:=hfl pt y Y;omega⟩
  let ST:World->Prop:=λt=>cl (XS ss sb) W2 t;have keep:∀{t},ST t->gZ t v c l mb md A D fp S/\hp t n0=some (.cells #[eh v] 23 (0,0))/\hp t pn=some (.cells #[.int .u32 n] 35 (0,0))/\(∃r,hp t (w7.heap.size+1)=some (.loop r)):=λm=>⟨hV2.mod m λpt y g Y=>(hnX y Y).2.2.2 pt g,m.hpk g2 λY=>(hnX _ Y).1 rfl,m.hpk bn λY=>(hnX _ Y).2.1 rfl,rec0,m.keep rc2 λY=>(hnX _ Y).2.2.1 rfl⟩
  have sub:∀{z:Nat->Value} {t W'' :World},W2.heap.size<=t.heap.size->(∀y,XS z sb y->XS ss sb y\/W2.heap.size<=y)->cl (XS z sb) t W'' ->ST t->ST W'' :=by
   intro z t W'' hle hs m hst;exact cl.on (hst:cl (XS ss sb) W2 t) m λy g=>hs y g
  refine ck (eF W2 4 (by omega)) (ck (i3.ld 4 (by omega) (by omega)) ?_);refine ey (dN k) 26 zV xz (cX k) (At.all gq2) ?_;refine Bq (i:=4) (by omega) (by omega) (c:=dN k) i3 rfl (cX k) (th k) (by show(S.cal.l.take i).length<=_;rw[List.length_take];omega) (by omega) (So _ _ _ _ _ k) (Ss _ _ _ _ _ k) λss1 W3 q3 m3 n3=>?_;have st3:ST W3:=m3;have T:cl (λ_=>False) W3 W3.drew:=(cl.refl _ W3).drew;have q4:=q3.modX T λ_ _ h=>h;have st4:ST W3.drew:=st3.trans (T.mono λ_ _ h=>h.elim);have hs4:W3.drew.heap.size=W3.heap.size:=rfl
  try dsimp only
  generalize W3.drew=W4 at T q4 st4 hs4|-;have hs23:=st4.size;obtain⟨hV4,g4,n4,-⟩:=keep st4;refine cx (lv0 g4) ?_;simp only[eh,cw];refine cq (jX 1 (by omega)) (cx (uC _ hV4.blk) ?_);refine cx (ln n4) ?_;refine AA hV4.led (by have:=Fw hok.cal hok.led;omega) λgv5 W5 ht5 m5=>?_;have q5:=q4.modX m5 λ_ _ h=>h;have st5:ST W5:=st4.trans (m5.mono λ_ _ h=>h.elim);obtain⟨-,-,-,hrc5⟩:=keep st5;have hs5:=st5.size;obtain⟨H,hH⟩:∃H,H=S.led.holders n:=⟨_,rfl⟩
  rw[<-hH]at ht5;have hHl:H.length<=64:=by rw[hH];exact ob Q n
  have hpl:=EB Q i
  delta JM
  refine JU (l0:=w7.heap.size+1) (X0:=XS ss1 sb) (fv:=kU) (asg:=λx W K=>rv Tryz.prog (Instr.alloc 112 true (.tuple #[])) W λv w1=>ru Tryz.prog (Instr.storeAt 112 v x) w1 λw2=>K v w2) (Pv:=yI 112 cK) (xs:=H) hrc5 ht5.m (tL lM.po) xj
   (λX j t=>∃z,SB t sb S.cal.day S.next S.led.fund z S.led.all (S.cal.l.take i++[k]) (ry S i++H.take j) (qM S i) (qr S i) F/\∀y,X y↔XS z sb y) (λ_ _ _=>False) ?_ (λ_ _ _ _ _ h=>h.elim) (λy g=>q5.ltX g) ⟨ss1,by rw[List.take_zero,List.append_nil];exact q5,λ_=>Iff.rfl⟩ ?_ ?_ (λ_ _ _ h=>h.elim)
  ·rintro X j t W'' H' ⟨z,j1,j2⟩ hm hX';exact⟨z,j1.modX hm λy g=>hX' y ((j2 y).2 g),j2⟩
  ·rintro X j hj W6 qv vv ⟨z,j1,j2⟩ mW6 hX6 hdq6 hqW6 ⟨rfl,gv6⟩ KN2 KJ2 hKN2 hKJ2;have htk:=cQ (l:=H) hj;have lo6:F<=W6.heap.size:=by have:=mW6.size;omega
   refine ck (eF W6 5 (by omega)) (ck (j1.ld 5 (by omega) (by omega)) ?_);have gv6' :=gv6;unfold cK at gv6';refine ck (v:=kU H[j]) (w' :=W6) (by simp[go_sem,gv6',kU]) ?_;refine Bq (i:=5) (by omega) (by omega) (c:=cK H[j]) j1 rfl rfl rfl (by show(ry S i++H.take j).length<=_;rw[List.length_append,List.length_take];omega) lo6 (Sq _ _ _ _ _ H[j]) (Si _ _ _ _ _ H[j]) λss2 W7 q7' m7' n7' =>?_;refine hKN2 (XS ss2 sb) W7 ⟨ss2,by rw[htk,<-List.append_assoc];exact q7',λ_=>Iff.rfl⟩ (m7'.mono λy _ g=>(j2 y).2 g) λy g=>⟨(n7' y g).imp (j2 y).2 id,q7'.ltX g⟩
  ·rintro X W6 ⟨ss2,j1,j2⟩ mW6 hX6;rw[show H.take H.length=H from List.take_length]at j1;have s12:∀y,XS ss1 sb y->XS ss sb y\/W2.heap.size<=y:=n3
   have s2:∀y,XS ss2 sb y->XS ss sb y\/W2.heap.size<=y:=λy g=>by
    rcases(hX6 y ((j2 y).2 g)).2 with Z|Z
    ·exact s12 y Z
    ·exact .inr (by omega)
   have st6:ST W6:=sub hs5 s12 mW6 st5;unfold Kb;simp only[fk];have mdr6:cl (λ_=>False) W6 W6.drew:=(cl.refl _ W6).drew;have q6' :=j1.modX mdr6 λ_ _ h=>h;have st7:ST W6.drew:=st6.trans (mdr6.mono λ_ _ h=>h.elim)
   try dsimp only
   generalize W6.drew=W7 at mdr6 q6' st7|-;obtain⟨hV7,g7',n7',-⟩:=keep st7;refine cx (lv0 g7') ?_;simp only[eh,cw];have hsome:(ek S.cal.l n).isSome=true:=zm.1 (by rw[hn];exact List.mem_map_of_mem (by rw[hk];exact List.getElem_mem hi));obtain⟨b,hb,hB⟩:=R7 hV7 (n:=n) hsome;refine cq (jX 2 (by omega)) (cx (KC _ hV7.blk) ?_);refine cx (ln n7') ?_;refine jg (AQ hV7.mbk hb) ?_;refine Ir hB λgv8 W8 ht8 m8=>?_;have q8:=q6'.modX m8 λ_ _ h=>h;have st8:ST W8:=st7.trans (m8.mono λ_ _ h=>h.elim);obtain⟨-,-,-,hrc8⟩:=keep st8;have hs8:=st8.size;obtain⟨U,hAl⟩:∃U,U=(S.bk n).all:=⟨_,rfl⟩
   have ht8' :jC gv8 (U.map λo=>[ig o]) W8:=by rw[hAl];exact ht8
   have hAll:U.length<=200:=by rw[hAl];exact hB.all.1
   have hol:=zg hok.ord i
   delta Ei
   refine JU (l0:=w7.heap.size+1) (X0:=XS ss2 sb) (fv:=ig) (asg:=λx W K=>rv Tryz.prog (Instr.alloc ir true (.tuple #[])) W λv w1=>ru Tryz.prog (Instr.storeAt ir v x) w1 λw2=>K v w2) (Pv:=yI ir da) (xs:=U) hrc8 ht8' (tL lM.od) xj
    (λX j t=>∃z,SB t sb S.cal.day S.next S.led.fund z S.led.all (S.cal.l.take i++[k]) (ry S i++H) (qM S i++(U.take j).map λo=>(n,o)) (qr S i) F/\(∀y,X y↔XS z sb y)) (λ_ _ _=>False) ?_ (λ_ _ _ _ _ h=>h.elim) (λy g=>q8.ltX g) ⟨ss2,by simpa using q8,λ_=>Iff.rfl⟩ ?_ ?_ (λ_ _ _ h=>h.elim)
   ·rintro X j t W'' H' ⟨z,j1,j2⟩ hm hX';exact⟨z,j1.modX hm λy g=>hX' y ((j2 y).2 g),j2⟩
   ·rintro X j hj W9 qv vv ⟨z,j1',j2'⟩ mW9 hX9 hdq9 hqW9 ⟨rfl,gv9⟩ KN2 KJ2 hKN2 hKJ2;have htk:=cQ (l:=U) hj;have lo9:F<=W9.heap.size:=by have:=mW9.size;omega
    have n9:=(keep (sub hs8 s2 mW9 st8)).2.2.1;refine ck (eF W9 6 (by omega)) (ck (j1'.ld 6 (by omega) (by omega)) ?_);refine ck (ln n9) ?_;refine ck (gM (o:=U[j]) (At.all gv9)) ?_;refine ck (BG n U[j] W9) ?_;refine Bq (i:=6) (by omega) (by omega) (c:=du (n,U[j])) j1' rfl rfl rfl (by show(qM S i++(U.take j).map _).length<=_;rw[List.length_append,List.length_map,List.length_take];omega) lo9 (Su _ _ _ _ _ (n,U[j])) (Sm _ _ _ _ _ (n,U[j])) λss3 W10 q10 m10 n10=>?_;refine hKN2 (XS ss3 sb) W10 ⟨ss3,by rw[htk,List.map_append,<-List.append_assoc];exact q10,λ_=>Iff.rfl⟩ (m10.mono λy _ g=>(j2' y).2 g) λy g=>⟨(n10 y g).imp (j2' y).2 id,q10.ltX g⟩
   ·rintro X9 W9 ⟨ss3,j1',j2'⟩ mW9 hX9;rw[show U.take U.length=U from List.take_length]at j1'
    have s3:∀y,XS ss3 sb y->XS ss sb y\/W2.heap.size<=y:=λy g=>by
     rcases(hX9 y ((j2' y).2 g)).2 with Z|Z
     ·exact s2 y Z
     ·exact .inr (by omega)
    have st9:ST W9:=sub hs8 s2 mW9 st8;unfold DF;simp only[fk];have mdr9:cl (λ_=>False) W9 W9.drew:=(cl.refl _ W9).drew;have q10:=j1'.modX mdr9 λ_ _ h=>h;have st10:ST W9.drew:=st9.trans (mdr9.mono λ_ _ h=>h.elim)
    try dsimp only
    generalize W9.drew=W10 at mdr9 q10 st10|-;obtain⟨hV10,g10,n10,-⟩:=keep st10;refine cx (lv0 g10) ?_;simp only[eh,cw];refine cq (jX 3 (by omega)) (cx (Hm _ hV10.blk) ?_);refine cx (ln n10) ?_;refine jg (wm hV10.mbd n) ?_;obtain⟨L,hBd⟩:∃L,L=S.bd n:=⟨_,rfl⟩
    have hBdl:L.length<=50:=by rw[hBd];exact hok.ord.bdl n
    have hbd10:kR W10 (rE D n) L:=by rw[hBd];exact hV10.bd n
    obtain⟨ba,bc,hbs,-⟩:=hbd10.isSl;refine cx (v:=.int .i64 (L.length:Int)) (by rw[hbs];simp[go_sem]) ?_;have hbl:=yB hok.ord i;have hs10:=st10.size
    refine dp (λst t=>∃(j:Nat) (z:Nat->Value),j<=L.length/\st=(.int .i64 j,())/\SB t sb S.cal.day S.next S.led.fund z S.led.all (S.cal.l.take i++[k]) (ry S i++H) (qM S i++U.map λo=>(n,o)) (qr S i++(L.take j).map λo=>(n,o)) F/\(∀y,XS z sb y->XS ss sb y\/W2.heap.size<=y)/\ST t)
     (λst _=>match st.1 with| .int _ i=>L.length - i.toNat|_=>0) ⟨0,ss3,by omega,rfl,by simpa using q10,s3,st10⟩ ?_
    rintro _ W11 ⟨j,ss4,hj,rfl,t1,t2,t3⟩ KM hKM;unfold Ds;intro _;obtain⟨hV11,g11,n11,-⟩:=keep t3;have hbd11:kR W11 (rE D n) L:=by rw[hBd];exact hV11.bd n
    have hs11:=t3.size;by_cases hlt:j<L.length
    ·have hlt' :(j:Int)<(L.length:Int):=by omega
     refine ck (v:=.bool true) (by simp[go_sem,hlt']<;>first|exact⟨rfl,rfl⟩|exact rfl) ?_;rw[ci,if_pos rfl];obtain⟨pj,p1,p2'⟩:=RL hbd11.rd hlt;refine ck p1 (ck p2' ?_);obtain⟨wa,ea,ba',ma⟩:=iJ W11;refine ck ea ?_;obtain⟨q9,hq9⟩:∃q9,q9=W11.heap.size:=⟨_,rfl⟩
     rw[<-hq9]at ba' |-;obtain⟨wb,eb,bb,mb'⟩:=gm (o' :=L[j]) ba';refine dI eb ?_;have Mb:cl (λ_=>False) W11 wb:=ma.on mb' λb hb=>.inr (by omega);have tb:=t1.modX Mb λ_ _ h=>h;have stb:ST wb:=t3.trans (Mb.mono λ_ _ h=>h.elim);have nb:=(keep stb).2.2.1;have hsb' :=stb.size;refine ck (eF wb 7 (by omega)) (ck (tb.ld 7 (by omega) (by omega)) ?_);refine ck (ln nb) ?_;refine ck (gM (o:=L[j]) (At.all bb)) ?_;refine ck (BG n L[j] wb) ?_;refine Bq (i:=7) (by omega) (by omega) (c:=du (n,L[j])) tb rfl rfl rfl (by show(qr S i++(L.take j).map _).length<=_;rw[List.length_append,List.length_map,List.length_take];omega) (by omega) (SC _ _ _ _ _ (n,L[j])) (SA _ _ _ _ _ (n,L[j])) λss5 wc qc mc nc=>?_;refine ck (v:=.int .i64 ((j+1:Nat):Int)) (w' :=wc) (by simp[go_sem];rw[cV (by omega) (by omega)]) ?_;refine hKM _ _ ⟨j+1,ss5,by omega,rfl,by rw[cQ hlt,List.map_append,<-List.append_assoc];exact qc,λy g=>?_,sub hsb' t2 mc stb⟩ (by show L.length - (((j+1:Nat):Int)).toNat<L.length - ((j:Int)).toNat;omega);rcases nc y g with Z|Z
     ·exact t2 y Z
     ·exact .inr (by omega)
    ·obtain rfl:j=L.length:=by omega
     refine ck (v:=.bool false) (by simp[go_sem]<;>first|exact⟨rfl,rfl⟩|exact rfl) ?_;rw[ci,if_neg Bool.false_ne_true];rw[List.take_length]at t1;refine hKN (XS ss4 sb) W11 ⟨ss4,?_,λ_=>Iff.rfl⟩ ((mW2.mono λ_ _ h=>h.elim).trans (t3.mono λy _ g=>(i2 y).2 g)) λy g=>⟨?_,t1.ltX g⟩
     ·have e1:ry S (i+1)=ry S i++H:=by unfold ry;rw[hnt,List.flatMap_append,hH];simp
      have e2:qM S (i+1)=qM S i++U.map λo=>(n,o):=by unfold qM;rw[hnt,List.flatMap_append,hAl];simp
      have e3:qr S (i+1)=qr S i++L.map λo=>(n,o):=by unfold qr;rw[hnt,List.flatMap_append,hBd];simp
      rw[hct,e1,e2,e3];exact t1
     ·rcases t2 y g with Z|Z
      ·exact .inl ((i2 y).2 Z)
      ·exact .inr (by omega)
 ·rintro X W d hd ⟨ss,i1,i2⟩ mW hdef hX
  have i1' :SB W sb S.cal.day S.next S.led.fund ss S.led.all S.cal.l (S.nums.flatMap S.led.holders) (S.nums.flatMap λn=>(S.bk n).all.map λo=>(n,o)) (S.nums.flatMap λn=>(S.bd n).map λo=>(n,o)) F:=by
   have e0:S.cal.l.length=S.nums.length:=by unfold dF.nums;rw[List.length_map]
   have e1:ry S S.cal.l.length=S.nums.flatMap S.led.holders:=by unfold ry;rw[e0,List.take_length]
   have e2:qM S S.cal.l.length=S.nums.flatMap λn=>(S.bk n).all.map λo=>(n,o):=by unfold qM;rw[e0,List.take_length]
   have e3:qr S S.cal.l.length=S.nums.flatMap λn=>(S.bd n).map λo=>(n,o):=by unfold qr;rw[e0,List.take_length]
   have i1'' :SB W sb S.cal.day S.next S.led.fund ss S.led.all (S.cal.l.take S.cal.l.length) (ry S S.cal.l.length) (qM S S.cal.l.length) (qr S S.cal.l.length) F:=i1;rw[List.take_length,e1,e2,e3]at i1'';exact i1''
  have J:∀y,XS (jY s) sb y->F<=y:=hXlo q7;have pW:=mW.hpk p7 λY=>by have:=J _ Y;omega
  unfold D5;simp only[fk];refine ck (sq i1'.at_) ?_
  obtain⟨W2,e2',N,p⟩:=uH (d:=S.cal.day) (n:=S.next) (f:=S.led.fund) (ss:=ss) pW rfl λi hi hj=>by
   obtain⟨a,c,hs,-⟩:=(i1'.own i hi hj).isSl;exact⟨_,_,_,hs⟩
  refine dI e2' ?_
  have hdX:¬XS ss sb d:=λY=>by
   rcases(hX d ((i2 d).2 Y)).2 with Z|Z
   ·have:=q7.ltX Z;omega
   ·omega
  refine vP (p.hpk hdef (by omega)) λW3 E=>?_;refine cx (sq (E.hpk N (by omega))) ?_;have hlo5:=M5.size;refine hK ss sb F W3 ((i1'.modX p λy g e=>by have:=hXlo i1' y g;omega).modX E λy g e=>hdX (e▸g)) (by omega) ?_ (by omega);exact((M7.on mW λy g=>.inr (by have:=J y g;omega)).on p λy g=>.inr (by omega)).on E λy g=>.inr (by omega)
end
end Go.Proofs
namespace Go.Proofs
open Go Go.Vc
def gg(l:List Po)(c:Int):Int:=((l.filter λp=>decide (p.c=c)).map (·.q)).sum
def gj(l:List Po)(c:Int):Int:=((l.filter λp=>decide (p.c=c)).map (·.b)).sum
def qE(l l' :List Po)(c:Int):gg (l++l') c=gg l c+gg l' c:=by simp[gg]
def qC(l l' :List Po)(c:Int):gj (l++l') c=gj l c+gj l' c:=by simp[gj]
def tS(p:Po)(c:Int):gg [p] c=if p.c=c then p.q else 0:=by
 unfold gg;by_cases h:p.c=c
 ·rw[if_pos h,List.filter_cons_of_pos (by simpa using h)];simp
 ·rw[if_neg h,List.filter_cons_of_neg (by simpa using h)];simp
def un(p:Po)(c:Int):gj [p] c=if p.c=c then p.b else 0:=by
 unfold gj;by_cases h:p.c=c
 ·rw[if_pos h,List.filter_cons_of_pos (by simpa using h)];simp
 ·rw[if_neg h,List.filter_cons_of_neg (by simpa using h)];simp
def yA{l:List Po}{c:Int}(h:∀p∈l,p.c≠c):gg l c=0/\gj l c=0:=by
 have:l.filter (λp=>decide (p.c=c))=[]:=List.filter_eq_nil_iff.2 λp hp=>by simpa using h p hp
 simp[gg,gj,this]
structure pf(A:List Ac)(p:Po):Prop where
 c:p.c≠0
 a:p.a≠0
 there:∃x∈A,x.num=p.a
 some:p.isZ=false
 q:cy p.q (-MP) MP=true
 b:cy p.b (-MF) MF=true
structure PA(A:List Ac):Prop where
 srt:pS A
 num:∀a∈A,0<a.num/\cy a.cash 0 MF=true
structure lx(f:Int)(A:List Ac)(P:List Po):Prop where
 len:A.length<=64
 fund:cy f 0 MF=true
 pa:PA A
 tot:f+(A.map (·.cash)).sum<=MF
 srt:mM P
 good:∀p∈P,pf A p
 zero:∀c,gg P c=0/\gj P c=0
def ec{n lo hi:Int}:cy n lo hi=true↔lo<=n/\n<=hi:=by simp[cy]
def lx.ok{f:Int}{A:List Ac}{P:List Po}(h:lx f A P)(e:∀a∈A,0<=a.num/\a.num<4294967296)(d:∀p∈P,0<=p.c/\p.c<4294967296):(dM.mk f A P).Ok where
 fund:=ec.1 h.fund
 sa:=h.pa.srt
 sp:=h.srt
 len:=h.len
 acc:=λa b=>⟨(h.pa.num a b).1,(e a b).2,ec.1 (h.pa.num a b).2⟩
 pos:=λp hp=>by
  have g:=h.good p hp;have u:=d p hp;have h1:=ec.1 g.q;have c:=ec.1 g.b;exact⟨by have:=g.c;have:=u.1;omega,u.2,g.some,h1.1,h1.2,c.1,c.2,g.there⟩
def sP{α:Type}{R:α->α->Prop}{l:List α}(h:l.Pairwise R){i:Nat}(hi:i<l.length){b:α}(c:b∈l.take i):R b l[i]:=by
 obtain⟨j,a,rfl⟩:=List.getElem_of_mem c;rw[List.length_take]at a;rw[List.getElem_take];exact List.pairwise_iff_getElem.1 h _ _ _ _ (by omega)
structure pC(pre:List Ac)(last:Int):Prop where
 pa:PA pre
 top:∀a∈pre,a.num<=last
 hit:(pre=[]/\last=0)\/∃a∈pre,a.num=last
def pC.nil:pC [] 0:=⟨⟨List.Pairwise.nil,by simp⟩,by simp,.inl ⟨rfl,rfl⟩⟩
def pC.pos{pre:List Ac}{last:Int}(h:pC pre last):0<=last:=by
 rcases h.hit with⟨-,rfl⟩|⟨a,b,rfl⟩
 ·exact Int.le_refl _
 ·have:=(h.pa.num a b).1;omega
def pC.step{pre:List Ac}{last:Int}(h:pC pre last){a:Ac}(h1:last<a.num)(d:cy a.cash 0 MF=true):pC (pre++[a]) a.num:=by
 have e:=h.pos;refine⟨⟨List.pairwise_append.2 ⟨h.pa.srt,List.pairwise_singleton ..,λx b y c=>?_⟩,λx b=>?_⟩,λx b=>?_,.inr ⟨a,by simp,rfl⟩⟩
 ·rw[List.mem_singleton]at c;subst c;have:=h.top x b;omega
 ·rcases List.mem_append.1 b with b|b
  ·exact h.pa.num x b
  ·rw[List.mem_singleton]at b;subst b;exact⟨by omega,d⟩
 ·rcases List.mem_append.1 b with b|b
  ·have:=h.top x b;omega
  ·rw[List.mem_singleton]at b;subst b;omega
def pC.bad{A:List Ac}{i:Nat}(hi:i<A.length){last:Int}(h:pC (A.take i) last)(b:A[i].num<=last\/cy A[i].cash 0 MF=false):¬PA A:=by
 intro hp;have c:=hp.num A[i] (List.getElem_mem hi);rcases b with b|b
 ·rcases h.hit with⟨-,rfl⟩|⟨a,d,rfl⟩
  ·omega
  ·have:a.num<A[i].num:=sP hp.srt hi d;omega
 ·rw[c.2]at b;cases b
structure mw(pre:List Po)(lc la q b:Int):Prop where
 srt:mM pre
 top:∀p∈pre,ni (lc,la) p.key=false
 hit:(pre=[]/\lc=0/\la=0)\/∃p∈pre,p.key=(lc,la)
 q:q=gg pre lc
 b:b=gj pre lc
 oth:∀c,c≠lc->gg pre c=0/\gj pre c=0
def mw.nil:mw [] 0 0 0 0:=⟨List.Pairwise.nil,by simp,.inl ⟨rfl,rfl,rfl⟩,rfl,rfl,λ_ _=>⟨rfl,rfl⟩⟩
def qT{x y z:Int×Int}(h:ni y x=false)(a:ni y z=true):ni x z=true:=by
 rcases Bv y x with h1|h1|h1
 ·rw[h1]at h;cases h
 ·rw[<-h1];exact a
 ·exact qZ h1 a
def mw.step{pre:List Po}{d k q b:Int}(h:mw pre d k q b){p:Po}(h1:ni (d,k) p.key=true)(g:p.c≠d->q=0/\b=0):mw (pre++[p]) p.c p.a (q+p.q) (b+p.b):=by
 have m:d<=p.c:=by rw[jh]at h1;simp only[Po.key]at h1;omega
 have i:gg pre p.c=q/\gj pre p.c=b:=by
  by_cases e:p.c=d
  ·rw[e];exact⟨h.q.symm,h.b.symm⟩
  ·obtain⟨rfl,rfl⟩:=g e;exact h.oth _ e
 refine⟨List.pairwise_append.2 ⟨h.srt,List.pairwise_singleton ..,λx a y j=>?_⟩,λx a=>?_,.inr ⟨p,by simp,rfl⟩,?_,?_,λc f=>?_⟩
 ·rw[List.mem_singleton]at j;subst j;exact qT (h.top x a) h1
 ·rcases List.mem_append.1 a with a|a
  ·exact vd (qT (h.top x a) h1)
  ·rw[List.mem_singleton]at a;subst a;exact wy
 ·rw[qE,tS,if_pos rfl,i.1]
 ·rw[qC,un,if_pos rfl,i.2]
 ·rw[qE,qC,tS,un,if_neg (Ne.symm f),if_neg (Ne.symm f)];by_cases e:c=d
  ·obtain⟨rfl,rfl⟩:=g (λl=>f (e.trans l.symm));rw[e,<-h.q,<-h.b];exact⟨rfl,rfl⟩
  ·have:=h.oth c e;rw[this.1,this.2];exact⟨rfl,rfl⟩
def mw.done{P:List Po}{a b:Int}(h:mw P a b 0 0)(c:Int):gg P c=0/\gj P c=0:=by
 by_cases e:c=a
 ·rw[e];exact⟨h.q.symm,h.b.symm⟩
 ·exact h.oth c e
def mw.bad_end{P:List Po}{a d q b:Int}(h:mw P a d q b)(f:q≠0\/b≠0):¬∀c,gg P c=0/\gj P c=0:=by
 intro e;have:=e a;rw[<-h.q,<-h.b]at this;omega
def mw.bad_sum{P:List Po}{i:Nat}(hi:i<P.length){f s q b:Int}(h:mw (P.take i) f s q b)(v:P[i].c≠f)(d:q≠0\/b≠0):¬(mM P/\∀c,gg P c=0/\gj P c=0):=by
 rintro⟨l,r⟩;rcases h.hit with⟨e,-,-⟩|⟨x,t,o⟩
 ·have h1:=h.q;have k:=h.b;rw[e]at h1 k;rcases d with d|d
  ·exact d h1
  ·exact d k
 ·have a:ni x.key P[i].key=true:=sP l hi t;rw[o,jh]at a;simp only[Po.key]at a
  have n:∀p∈P.drop i,p.c≠f:=by
   intro p hp;obtain⟨j,u,rfl⟩:=List.getElem_of_mem hp;rw[List.getElem_drop];rw[List.length_drop]at u;by_cases g:j=0
   ·subst g;exact v
   ·have:=List.pairwise_iff_getElem.1 l i (i+j) hi (by omega) (by omega);rw[jh]at this;simp only[Po.key]at this;omega
  have m:=yA n;have:=r f;rw[<-List.take_append_drop i P,qE,qC,m.1,m.2,<-h.q,<-h.b]at this;omega
def mw.bad_key{A:List Ac}{P:List Po}{i:Nat}(hi:i<P.length){d e q b:Int}(h:mw (P.take i) d e q b)(m:0<=P[i].c/\0<=P[i].a)(c:ni (d,e) P[i].key=false):¬(mM P/\∀p∈P,pf A p):=by
 rintro⟨k,j⟩;have g:=j P[i] (List.getElem_mem hi);rcases h.hit with⟨-,rfl,rfl⟩|⟨x,l,f⟩
 ·rw[Bool.eq_false_iff,Ne,jh]at c;simp only[Po.key]at c;have:=g.c;omega
 ·have a:ni x.key P[i].key=true:=sP k hi l;rw[f,c]at a;cases a
def qy{l:List Int}{B:Int}(h:∀x∈l,-B<=x/\x<=B): -(B*l.length)<=l.sum/\l.sum<=B*l.length:=by
 induction l with
 |nil=>simp
 |cons x l a=>
  have h1:=h x List.mem_cons_self;have c:=a λy b=>h y (List.mem_cons_of_mem _ b)
  have e:B*((x::l).length:Int)=B*l.length+B:=by
   simp only[List.length_cons,Int.natCast_add,Int.natCast_one,Int.mul_add,Int.mul_one]
  rw[e];simp only[List.sum_cons];omega
def HO{P:List Po}{A:List Ac}(f:∀p∈P,pf A p)(g:P.length<=1024)(c:Int):(-10240000000<=gg P c/\gg P c<=10240000000)/\(-1024000000000000000<=gj P c/\gj P c<=1024000000000000000):=by
 have a:∀p∈P.filter (λp=>decide (p.c=c)),pf A p:=λp hp=>f p (List.mem_filter.1 hp).1;have b:=List.length_filter_le (λp:Po=>decide (p.c=c)) P;unfold gg gj;generalize P.filter (λp=>decide (p.c=c))=L at a b
 have h1:=qy (l:=L.map (·.q)) (B:=10000000) λx d=>by
  obtain⟨p,hp,rfl⟩:=List.mem_map.1 d;have:=ec.1 (a p hp).q;simpa [MP]using this
 have e:=qy (l:=L.map (·.b)) (B:=1000000000000000) λx d=>by
  obtain⟨p,hp,rfl⟩:=List.mem_map.1 d;have:=ec.1 (a p hp).b;simpa [MF]using this
 rw[List.length_map]at h1 e;omega
def kM:Int->List Ct->Bool
 |_,[]=>true
 |n,k::l=>decide (n<k.spec.num)&& (decide (1<=k.st)&& (decide (k.st<=3)&& (k.spec.isPrice k.price&& kM k.spec.num l)))
def iE:∀{l:List Ct} {n:Int},kM n l=true->(∀k∈l,n<k.spec.num/\1<=k.st/\k.st<=3/\k.spec.isPrice k.price=true)/\nY l
 | [],n,_=>⟨λk d=>(by cases d),List.Pairwise.nil⟩
 |k::l,n,h=>by
  unfold kM at h;simp only[Bool.and_eq_true,decide_eq_true_eq]at h;obtain⟨h1,c,i,e,g⟩:=h;obtain⟨b,f⟩:=iE g;refine⟨λx a=>?_,List.pairwise_cons.2 ⟨λx a=>(b x a).1,f⟩⟩;rcases List.mem_cons.1 a with rfl|a
  ·exact⟨h1,c,i,e⟩
  ·have:=b x a;exact⟨by omega,this.2⟩
def dM.stB(L:dM)(a:Int):Bool:=match L.getO a with|some x=> !x.dfl&& !x.kil|none=>false
def dF.stnd(S:dF)(lots:Bool)(U:List Int)(x:Int×Od):Bool:=
 decide (di S.cal.l x.1=0)&& (S.led.stB x.2.acct&& (x.2.may&& ((fE S.cal.l x.1).1.spec.isPrice x.2.price&& ((!lots||(fE S.cal.l x.1).1.spec.isQty x.2.left)&& (decide (x.2.num<S.next)&& !U.contains x.2.num)))))
def iX:List (Int×Od)->List Int->dF->Option (List Int×dF)
 | [],U,S=>some (U,S)
 |x::l,U,S=>
  if S.stnd true U x=false then none
  else if(db (S.bk x.1) x.2 4).1≠0\/(db (S.bk x.1) x.2 4).2.2.gone≠ []then none
  else iX l (x.2.num::U) {S with bk:=fV S.bk x.1 (db (S.bk x.1) x.2 4).2.1}
def jm:List (Int×Od)->Option Int->Int->List Int->dF->Option dF
 | [],pc,n,U,S=>some S
 |x::l,pc,n,U,S=>
  if S.stnd false U x=false then none
  else if x.2.num<=(if pc≠none/\pc≠some x.1 then 0 else n)then none
  else if 50<=(S.bd x.1).length then none
  else jm l (some x.1) x.2.num (x.2.num::U) {S with bd:=fV S.bd x.1 (S.bd x.1++[x.2])}
def eZ(s:iq):dF:=⟨⟨s.day,s.cts⟩,⟨s.fund,s.accts,s.poss⟩,λ_=>Bk.empty,λ_=>[],s.next⟩
structure jV(s:iq):Prop where
 len:s.cts.length<=16
 cts:kM 0 s.cts=true
 led:lx s.fund s.accts s.poss
 next:1<=s.next/\s.next<=jz+1
 poss:∀p∈s.poss,di s.cts p.c=0
def pY(s:iq):Option dF:=(iX s.ords [] (eZ s)).bind λx=>jm s.bids none 0 x.1 x.2
open Classical in
noncomputable def fZ (s:iq):Option dF:=
 if jV s then(pY s).bind λS=>if S.state.ords=s.ords/\S.state.bids=s.bids then some S else none else none
structure iq.Fit(s:iq):Prop where
 day:fq s.day
 next:ER s.next
 fund:eQ s.fund
 accts:∀a∈s.accts,fq a.num/\eQ a.cash
 cts:∀k∈s.cts,k.Fit
 poss:∀p∈s.poss,(fq p.c/\fq p.a)/\eQ p.q/\eQ p.b
 ords:∀x∈s.ords,fq x.1/\x.2.Fit
 bids:∀x∈s.bids,fq x.1/\x.2.Fit
def Gx{s:iq}(h:jV s)(c:s.Fit):(eZ s).cal.Ok:=by
 obtain⟨h1,d⟩:=iE h.cts;refine⟨h.len,c.day,λk b=>?_,d⟩;obtain⟨g,e,f,a⟩:=h1 k b;refine⟨c.cts k b,?_,a,e,f⟩;unfold Sp.isPrice at a;exact(Bool.and_eq_true _ _▸a).1
def Gn(P:List Po)(c:Int):Av (zgq c) P=gg P c/\Av (P5 c) P=gj P c:=by
 induction P with
 |nil=>exact⟨rfl,rfl⟩
 |cons p P a=>
  have b:gg (p::P) c=gg [p] c+gg P c:=by rw[<-qE];rfl
  have d:gj (p::P) c=gj [p] c+gj P c:=by rw[<-qC];rfl
  rw[b,d,tS,un,<-a.1,<-a.2];constructor<;>simp only[Av,zgq,P5,List.map_cons,List.sum_cons]
def I9{s:iq}(h:jV s)(e:s.Fit):(eZ s).Ok:=by
 refine⟨Gx h e,⟨h.led.ok (λa f=>(e.accts a f).1) (λp hp=>(e.poss p hp).1.1),h.poss,λc=>?_⟩,⟨λn _=>rfl,λn d=>⟨by show(0:Nat)<=100;omega,λo b=>(by cases b)⟩,λn o b=>(by cases b),λn=>List.nodup_nil,λn m o g b=>(by cases b),λn=>(by show(0:Nat)<=50;omega)⟩,h.next,h.led.tot⟩;show Av (zgq c) s.poss=0/\Av (P5 c) s.poss=0;have:=Gn s.poss c;rw[this.1,this.2];exact h.led.zero c
structure IV(S:dF)(U:List Int)(x:Int×Od):Prop where
 alive:di S.cal.l x.1=0
 may:x.2.may=true
 acc:S.led.Stands x.2.acct
 num:x.2.num<S.next
 new:x.2.num ∉ U
def kZ{S:dF}{c:Bool}{U:List Int}{x:Int×Od}(h:S.stnd c U x=true):IV S U x:=by
 unfold dF.stnd at h;simp only[Bool.and_eq_true,decide_eq_true_eq]at h;obtain⟨h1,b,d,j,k,f,i⟩:=h;refine⟨h1,d,?_,f,by simpa using i⟩
 have g:x.2.acct≠0:=by
  unfold Od.may at d;simp only[Bool.and_eq_true,decide_eq_true_eq]at d;exact d.1.1.2
 unfold dM.stB at b;unfold dM.getO at b;rw[if_neg g]at b;unfold dM.Stands;cases e:S.led.find x.2.acct with
 |none=>rw[e]at b;cases b
 |some a=>
  rw[e]at b;simp only[Bool.and_eq_true,Bool.not_eq_true']at b;exact⟨a,rfl,b.2,b.1⟩
structure kd(S0 S:dF)(U:List Int):Prop where
 ok:S.Ok
 cal:S.cal=S0.cal
 led:S.led=S0.led
 next:S.next=S0.next
 nums:∀n,∀o∈S.ords n,o.num∈U
def kd.fresh{S0 S:dF}{U:List Int}(h:kd S0 S U){x:Int×Od}(b:IV S U x):∀m,∀y∈S.ords m,y.num≠x.2.num:=λm y a e=>b.new (e▸h.nums m y a)
def kd.order{S0 S:dF}{U:List Int}(h:kd S0 S U){x:Int×Od}(a:IV S U x)(l:x.2.Fit)(r:(db (S.bk x.1) x.2 4).1=0):
  kd S0 {S with bk:=fV S.bk x.1 (db (S.bk x.1) x.2 4).2.1} (x.2.num::U):=by
 obtain⟨e,p,-⟩:=BZ r;rw[e];have k:=Ar h.ok.ord (n:=x.1) (o:=x.2) (rests:=decide ((4:Int)=1\/(4:Int)=4)) (nx:=S.next) a.alive a.may l a.num a.acc (h.fresh a) (Int.le_refl _);have g:=BV (B:=S.bk x.1) (o:=x.2) (rests:=decide ((4:Int)=1\/(4:Int)=4)) (h.ok.ord.bkMay x.1) p;refine⟨⟨h.ok.cal,h.ok.led,k,h.ok.next,h.ok.fnd⟩,h.cal,h.led,h.next,λn o m=>?_⟩;rcases pR m with⟨d,h1⟩|h1
 ·replace h1:o∈fV S.bk x.1 (fj (S.bk x.1) x.2 (decide ((4:Int)=1\/(4:Int)=4))).1 n d:=h1;by_cases f:n=x.1
  ·subst f;rw[dJ]at h1;by_cases i:d=x.2.buy
   ·subst i;rcases g.own with b|⟨-,b,-⟩
    ·rw[b]at h1;exact List.mem_cons_of_mem _ (h.nums _ o (kO h1))
    ·rw[b]at h1;rcases List.mem_cons.1 ((kA _ _ _).mem_iff.1 h1)with rfl|c
     ·exact List.mem_cons_self
     ·exact List.mem_cons_of_mem _ (h.nums _ o (kO c))
   ·obtain rfl:d= !x.2.buy:=by cases d<;>cases s:x.2.buy<;>simp_all
    obtain⟨q,c,j⟩:=g.opp.mem h1;rw[<-lg j];exact List.mem_cons_of_mem _ (h.nums _ q (kO c))
  ·rw[eB _ _ _ f]at h1;exact List.mem_cons_of_mem _ (h.nums n o (kO h1))
 ·exact List.mem_cons_of_mem _ (h.nums n o (rI h1))
def kd.bid{S0 S:dF}{U:List Int}(h:kd S0 S U){x:Int×Od}(a:IV S U x)(f:x.2.Fit)(g:(S.bd x.1).length<50):
  kd S0 {S with bd:=fV S.bd x.1 (S.bd x.1++[x.2])} (x.2.num::U):=by
 have i:=h.ok.ord.addBd (n:=x.1) (x:=x.2) (nx:=S.next) a.alive a.may f a.num a.acc (h.fresh a) g (Int.le_refl _);refine⟨⟨h.ok.cal,h.ok.led,i,h.ok.next,h.ok.fnd⟩,h.cal,h.led,h.next,λn o e=>?_⟩;rcases pR e with⟨d,h1⟩|h1
 ·exact List.mem_cons_of_mem _ (h.nums n o (kO h1))
 ·replace h1:o∈fV S.bd x.1 (S.bd x.1++[x.2]) n:=h1;by_cases c:n=x.1
  ·subst c;rw[dJ]at h1;rcases List.mem_append.1 h1 with b|b
   ·exact List.mem_cons_of_mem _ (h.nums _ o (rI b))
   ·rw[List.mem_singleton.1 b];exact List.mem_cons_self
  ·rw[eB _ _ _ c]at h1;exact List.mem_cons_of_mem _ (h.nums n o (rI h1))
def kd.zero{s:iq}(h:jV s)(a:s.Fit):kd (eZ s) (eZ s) []:=⟨I9 h a,rfl,rfl,rfl,λn o b=>(by cases b)⟩
def It{s:iq}{S:dF}(h:fZ s=some S):jV s/\pY s=some S/\S.state.ords=s.ords/\S.state.bids=s.bids:=by
 unfold fZ at h;by_cases a:jV s
 ·rw[if_pos a]at h;cases d:pY s with
  |none=>rw[d]at h;cases h
  |some c=>
   rw[d]at h;simp only[Option.bind_some]at h;by_cases b:c.state.ords=s.ords/\c.state.bids=s.bids
   ·rw[if_pos b]at h;cases h;exact⟨a,rfl,b⟩
   ·rw[if_neg b]at h;cases h
 ·rw[if_neg a]at h;cases h
def zC:iq:=⟨0,1,0,[],[],[],[],[]⟩
def Ay:fZ zC=some dF.empty:=by
 have d:jV zC:=⟨by decide,rfl,⟨by decide,by decide,⟨List.Pairwise.nil,λa b=>(by cases b)⟩,by decide,List.Pairwise.nil,λa b=>(by cases b),λc=>⟨rfl,rfl⟩⟩,⟨by decide,by decide⟩,λp hp=>(by cases hp)⟩
 unfold fZ;rw[if_pos d];have:pY zC=some dF.empty:=rfl;rw[this,Option.bind_some];exact if_pos ⟨rfl,rfl⟩
end Go.Proofs
namespace Go.Proofs
open Go Go.Vc
attribute [local congr] cr
abbrev eS(w:World)(ss:Nat->Value)(s:iq):Prop:=∀i,3<=i->i<=7->Rd w (wA i) (ss i) (LN s.accts s.cts s.poss s.ords s.bids i) (LC s.accts s.cts s.poss s.ords s.bids i)
def Io(s:iq)(ss:Nat->Value):Value:=oJ s.day s.next s.fund ss
def eS.md0{w w' :World}{ss:Nat->Value}{s:iq}(h:eS w ss s)(m:cl (λ_=>False) w w'):eS w' ss s:=λi h1 a=>(h i h1 a).mod m λ_ _ h=>h
def eS.sl{w:World}{ss:Nat->Value}{s:iq}(h:eS w ss s):∀i,3<=i->i<=7->∃a n c,ss i=.slice a n c:=λi h1 b=>by
 obtain⟨a,c,e⟩:=(h i h1 b).isSl;exact⟨a,_,c,e⟩
def eS.accts{w:World}{ss:Nat->Value}{s:iq}(h:eS w ss s):Rd w 4 (ss 3) s.accts.length (s.accts.flatMap cJ):=h 3 (by omega) (by omega)
def eS.cts{w:World}{ss:Nat->Value}{s:iq}(h:eS w ss s):Rd w 27 (ss 4) s.cts.length (s.cts.flatMap dN):=h 4 (by omega) (by omega)
def eS.poss{w:World}{ss:Nat->Value}{s:iq}(h:eS w ss s):Rd w 4 (ss 5) s.poss.length (s.poss.flatMap cK):=h 5 (by omega) (by omega)
def eS.ords{w:World}{ss:Nat->Value}{s:iq}(h:eS w ss s):Rd w 6 (ss 6) s.ords.length (s.ords.flatMap du):=h 6 (by omega) (by omega)
def eS.bids{w:World}{ss:Nat->Value}{s:iq}(h:eS w ss s):Rd w 6 (ss 7) s.bids.length (s.bids.flatMap du):=h 7 (by omega) (by omega)
abbrev cR(w:World)(b:Nat)(d nx fu:Int)(ss:Nat->Value):Prop:=hp w b=some (.cells (nm d nx fu ss).toArray lY (0,0))
def js(d nx b:Int)(ss:Nat->Value)(w:World):∃a,(Instr.box lY (oJ d nx b ss)).run Tryz.prog w=.ok (.pointer (some ⟨w.heap.size,0,none⟩)) a/\cR a w.heap.size d nx b ss/\cl (λ_=>False) w a:=
 ⟨w.alloc (.cells (nm d nx b ss).toArray lY),rfl,by show hp _ _=_;simp[go_sem],(cl.refl _ w).alloc _⟩
def dC{w:World}{b:Nat}{d nx g:Int}{ss:Nat->Value}(h:cR w b d nx g ss)(k:∀i,3<=i->i<=7->∃a n c,ss i=.slice a n c)(i:Nat)(hi:3<=i)(j:i<=7):(Instr.loadAt (rL i) (.pointer (some ⟨b,i,none⟩))).run Tryz.prog w=.ok (ss i) w:=by
 have f:hp w b=some (.cells (nm d nx g ss).toArray lY (0,0)):=h;obtain⟨a,n,c,e⟩:=k i hi j;have:i=3\/i=4\/i=5\/i=6\/i=7:=by omega
 rcases this with rfl|rfl|rfl|rfl|rfl<;>(simp only[rL];rw[e];simp only[nm]at f;rw[e]at f;simp[go_sem,f])
def fe{w:World}{b:Nat}{d nx c:Int}{ss:Nat->Value}(h:cR w b d nx c ss):(Instr.loadAt 35 (.pointer (some ⟨b,0,none⟩))).run Tryz.prog w=.ok (.int .u32 d) w/\(Instr.loadAt 27 (.pointer (some ⟨b,1,none⟩))).run Tryz.prog w=.ok (.int .u64 nx) w/\(Instr.loadAt 2 (.pointer (some ⟨b,2,none⟩))).run Tryz.prog w=.ok (.int .i64 c) w:=by
 have a:hp w b=some (.cells (nm d nx c ss).toArray lY (0,0)):=h;simp only[nm]at a;exact⟨by simp[go_sem,a],by simp[go_sem,a],by simp[go_sem,a]⟩
set_option maxRecDepth 10000 in
def As{w:World}{b:Nat}{d nx c:Int}{ss:Nat->Value}(h:cR w b d nx c ss):
  (∀x,∃a,(Instr.storeAt 35 (.pointer (some ⟨b,0,none⟩)) (.int .u32 x)).run Tryz.prog w=.ok () a/\cR a b x nx c ss/\cl (λy=>y=b) w a)/\
  (∀x,∃a,(Instr.storeAt 27 (.pointer (some ⟨b,1,none⟩)) (.int .u64 x)).run Tryz.prog w=.ok () a/\cR a b d x c ss/\cl (λy=>y=b) w a)/\
  (∀x,∃a,(Instr.storeAt 2 (.pointer (some ⟨b,2,none⟩)) (.int .i64 x)).run Tryz.prog w=.ok () a/\cR a b d nx x ss/\cl (λy=>y=b) w a):=by
 have e:hp w b=some (.cells (nm d nx c ss).toArray lY (0,0)):=h;simp only[nm]at e;refine⟨λx=>⟨w.setCell ⟨b,0,none⟩ (.int .u32 x),?_,?_,?_⟩,λx=>⟨w.setCell ⟨b,1,none⟩ (.int .u64 x),?_,?_,?_⟩,λx=>⟨w.setCell ⟨b,2,none⟩ (.int .i64 x),?_,?_,?_⟩⟩
 all_goals first|exact(cl.refl (λy=>y=b) w).setCell (.inl rfl) _ _|(show hp _ _=_;simp[go_sem,e,nm])|simp[go_sem,e]
set_option maxRecDepth 10000 in
def nv{w:World}{b:Nat}{d nx k:Int}{ss:Nat->Value}(h:cR w b d nx k ss)(l:∀i,3<=i->i<=7->∃a n c,ss i=.slice a n c)(i:Nat)(hi:3<=i)(m:i<=7){s' :Value}(e:∃a n c,s' =.slice a n c):
  ∃j,(Instr.storeAt (rL i) (.pointer (some ⟨b,i,none⟩)) s').run Tryz.prog w=.ok () j/\cR j b d nx k (dg ss i s')/\cl (λy=>y=b) w j:=by
 have f:hp w b=some (.cells (nm d nx k ss).toArray lY (0,0)):=h;obtain⟨p,o,q,g⟩:=l i hi m;obtain⟨a,n,c,e⟩:=e;have:i=3\/i=4\/i=5\/i=6\/i=7:=by omega
 refine⟨w.setCell ⟨b,i,none⟩ s',?_,?_,(cl.refl (λy=>y=b) w).setCell (.inl rfl) _ _⟩
 ·rcases this with rfl|rfl|rfl|rfl|rfl<;>(simp only[nm]at f;rw[g]at f;simp only[rL];rw[e];simp[go_sem,f])
 ·show hp _ _=_;rcases this with rfl|rfl|rfl|rfl|rfl<;>(simp only[nm]at f;rw[g]at f;rw[e];simp[go_sem,f,nm,dg])
def iw{ss:Nat->Value}(e:∀i,3<=i->i<=7->∃a n c,ss i=.slice a n c)(i:Nat){s' :Value}(b:∃a n c,s' =.slice a n c):∀j,3<=j->j<=7->∃a n c,dg ss i s' j=.slice a n c:=λj h1 d=>by
 unfold dg;split
 ·exact b
 ·exact e j h1 d
def xd:∀i,3<=i->i<=7->∃a n c,jY cF i=.slice a n c:=λi _ _=>by
 unfold jY cF;split<;>exact⟨_,_,_,rfl⟩
def LM(W:World):(Instr.build lY #[]).run Tryz.prog W=.ok (oJ 0 0 0 (jY cF)) W:=by
 simp[go_sem,oJ,nm,jY,cF]
end Go.Proofs
namespace Go.Proofs.YtgebhcgmckjbbaaGreat
open Go Go.Vc Go.Proofs Go.ChangeShapes Go.WideShapes Go.ChangeAt Go.RowKit
def list_choose{α β:Type}{f:β->α}{Q:β->Prop}:∀{L:List α},(∀c∈L,∃o,c=f o/\Q o)->∃l:List β,L=l.map f/\∀o∈l,Q o
 | [],_=>⟨[],rfl,by simp⟩
 |c::L,h=>by
  obtain⟨o,rfl,b⟩:=h c List.mem_cons_self;obtain⟨l,rfl,d⟩:=list_choose λc e=>h c (List.mem_cons_of_mem _ e);exact⟨o::l,rfl,λx a=>by rcases List.mem_cons.1 a with rfl|a;exact b;exact d x a⟩
def wfR{n:Int}(h:(Lit.int .i64 n).wf=true):eQ n:=by
 simp[Lit.wf,IntKind.min,IntKind.max,IntKind.signed,IntKind.bits]at h;exact⟨by omega,by omega⟩
def wfU{n:Int}(h:(Lit.int .u32 n).wf=true):fq n:=by
 simp[Lit.wf,IntKind.min,IntKind.max,IntKind.signed,IntKind.bits]at h;exact⟨by omega,by omega⟩
def wfQ{n:Int}(h:(Lit.int .u64 n).wf=true):ER n:=by
 simp[Lit.wf,IntKind.min,IntKind.max,IntKind.signed,IntKind.bits]at h;exact⟨by omega,by omega⟩
def wf8{n:Int}(h:(Lit.int .u8 n).wf=true):0<=n/\n<256:=by
 simp[Lit.wf,IntKind.min,IntKind.max,IntKind.signed,IntKind.bits]at h;exact⟨by omega,by omega⟩
section
variable{H:Type}{enc:TypeId×Value->H}{w:World}{c:List Value}{fs:Array Field}
def Flds(enc:TypeId×Value->H)(w:World)(c:List Value)(fs:Array Field):Prop:=
 ∀f∈fs.toList,∃f' y,DataW.trod enc Tryz.prog w 0 (λ_=>true) true f' f.type ((c.drop f.offset).take (Tryz.prog.cellsOf f.type))=some y/\Wt Tryz.prog reachBytes f.type y.1
def Flds.int(h:Flds enc w c fs)(i:Nat){f:Field}(b:fs.toList[i]? =some f){k:IntKind}(d:Tryz.prog.underlying f.type=some (.int k))(g:Tryz.prog.cellsOf f.type=1):∃n,c.drop f.offset=.int k n::c.drop (f.offset+1)/\(Lit.int k n).wf=true:=by
 obtain⟨f',y,h1,-⟩:=h f (List.mem_of_getElem? b);rw[g]at h1;obtain⟨n,e,-,a⟩:=DataW.trod_int d h1;refine⟨n,?_,a⟩;rw[<-List.take_append_drop 1 (c.drop f.offset),e,List.drop_drop];rfl
def Flds.bool(h:Flds enc w c fs)(i:Nat){f:Field}(a:fs.toList[i]? =some f)(b:Tryz.prog.underlying f.type=some .bool)(d:Tryz.prog.cellsOf f.type=1):∃n,c.drop f.offset=.bool n::c.drop (f.offset+1):=by
 obtain⟨f',y,h1,-⟩:=h f (List.mem_of_getElem? a);rw[d]at h1;obtain⟨n,e,-⟩:=DataW.trod_bool b h1;refine⟨n,?_⟩;rw[<-List.take_append_drop 1 (c.drop f.offset),e,List.drop_drop];rfl
end
def drop_at{c:List Value}{o n:Nat}{x:List Value}(h:(c.drop o).take n=x):c.drop o=x++c.drop (o+n):=by
 rw[<-h,<-List.drop_drop,List.take_append_drop]
set_option maxRecDepth 100000 in
def open_sp{H:Type}{enc:TypeId×Value->H}{w:World}{c:List Value}{f:Nat}{y:DataW H×List MemPlace}(hl:c.length=25)(h:DataW.trod enc Tryz.prog w 0 (λ_=>true) true f 38 c=some y)(hB:Wt Tryz.prog reachBytes 38 y.1):
  ∃o:Sp,c=dl o/\o.Fit:=by
 have a:Flds enc w c _:=jB Tryz.underlying38 h hB;obtain⟨X,v,w0⟩:=a.int 0 rfl (k:=.u32) (by kernel_rfl) (by kernel_rfl);obtain⟨n1,F,K⟩:=a.int 1 rfl (k:=.u8) (by kernel_rfl) (by kernel_rfl);obtain⟨n2,D,w2⟩:=a.int 2 rfl (k:=.i64) (by kernel_rfl) (by kernel_rfl);obtain⟨P,G,O⟩:=a.int 3 rfl (k:=.i64) (by kernel_rfl) (by kernel_rfl);obtain⟨S,I,J⟩:=a.int 4 rfl (k:=.i64) (by kernel_rfl) (by kernel_rfl);obtain⟨N,z,V⟩:=a.int 5 rfl (k:=.i64) (by kernel_rfl) (by kernel_rfl);obtain⟨f6,y6,u,-⟩:=a _ (List.mem_of_getElem? (i:=6) rfl);obtain⟨n7,A,T⟩:=a.int 7 rfl (k:=.i64) (by kernel_rfl) (by kernel_rfl);obtain⟨n8,E,w8⟩:=a.int 8 rfl (k:=.u32) (by kernel_rfl) (by kernel_rfl);obtain⟨W,B,w9⟩:=a.int 9 rfl (k:=.i64) (by kernel_rfl) (by kernel_rfl);simp only at v F D G I z A E B u;have b:Tryz.prog.cellsOf 36=16:=by kernel_rfl
 have Y:Tryz.prog.cellsOf 2=1:=by kernel_rfl
 rw[b]at u;obtain⟨xs,m,-,-,g,M,j⟩:=DataW.trod_array Tryz.underlying36 u;rw[b]at g;rw[Y]at j
 obtain⟨L,C,R⟩:=list_choose (L:=(c.drop 6).take 16) (f:=λn:Int=>Value.int .i64 n) (Q:=eQ) λx t=>by
  obtain⟨i,s⟩:=List.getElem?_of_mem t;have d:=(List.getElem?_eq_some_iff.1 s).1;have h1:=j i (by omega);rw[Nat.mul_one,List.getElem?_eq_getElem (l:=xs) (by omega)]at h1;obtain⟨n,e,-,Z⟩:=DataW.trod_int Tryz.underlying2 h1;refine⟨n,?_,wfR Z⟩;rw[List.drop_eq_getElem_cons d,List.take_succ_cons,List.take_zero]at e;rw[List.getElem?_eq_getElem d]at s;exact(Option.some.inj s).symm.trans (List.cons.inj e).1
 have p:L.length=16:=by have:=congrArg List.length C;rw[g,List.length_map]at this;omega
 refine⟨⟨X,n1,n2,P,S,N,⟨L.toArray,by simpa using p⟩,n7,n8,W⟩,?_,wfU w0,wf8 K,wfR w2,wfR O,wfR J,wfR V,λx j=>R x (by simpa using j),wfR T,wfU w8,wfR w9⟩;have U:=drop_at C;have r:c.drop 25=[]:=List.drop_eq_nil_of_le (by omega);have q:c=c.drop 0:=rfl;rw[q,v,F,D,G,I,z,U,A,E,B,r];rfl
set_option maxRecDepth 100000 in
def open_acS{H:Type}{enc:TypeId×Value->H}{w:World}{c:List Value}{f:Nat}{y:DataW H×List MemPlace}(t:c.length=4)(h:DataW.trod enc Tryz.prog w 0 (λ_=>true) true f 92 c=some y)(r:Wt Tryz.prog reachBytes 92 y.1):
  ∃o:Ac,c=cJ o/\fq o.num/\eQ o.cash:=by
 have a:Flds enc w c _:=jB Tryz.underlying92 h r;obtain⟨m,d,n⟩:=a.int 0 rfl (k:=.u32) (by kernel_rfl) (by kernel_rfl);obtain⟨p,g,j⟩:=a.int 1 rfl (k:=.i64) (by kernel_rfl) (by kernel_rfl);obtain⟨s,e⟩:=a.bool 2 rfl (by kernel_rfl) (by kernel_rfl);obtain⟨l,i⟩:=a.bool 3 rfl (by kernel_rfl) (by kernel_rfl);simp only at d g e i;have q:c.drop 4=[]:=List.drop_eq_nil_of_le (by omega);have b:c=c.drop 0:=rfl;refine⟨⟨m,p,s,l⟩,?_,wfU n,wfR j⟩;rw[b,d,g,e,i,q];rfl
set_option maxRecDepth 100000 in
def open_poS{H:Type}{enc:TypeId×Value->H}{w:World}{c:List Value}{f:Nat}{y:DataW H×List MemPlace}(v:c.length=4)(h:DataW.trod enc Tryz.prog w 0 (λ_=>true) true f 112 c=some y)(s:Wt Tryz.prog reachBytes 112 y.1):
  ∃o:Po,c=cK o/\(fq o.c/\fq o.a)/\eQ o.q/\eQ o.b:=by
 have a:Flds enc w c _:=jB Tryz.underlying112 h s;obtain⟨n,d,p⟩:=a.int 0 rfl (k:=.u32) (by kernel_rfl) (by kernel_rfl);obtain⟨q,g,j⟩:=a.int 1 rfl (k:=.u32) (by kernel_rfl) (by kernel_rfl);obtain⟨u,e,t⟩:=a.int 2 rfl (k:=.i64) (by kernel_rfl) (by kernel_rfl);obtain⟨m,i,l⟩:=a.int 3 rfl (k:=.i64) (by kernel_rfl) (by kernel_rfl);simp only at d g e i;have r:c.drop 4=[]:=List.drop_eq_nil_of_le (by omega);have b:c=c.drop 0:=rfl;refine⟨⟨n,q,u,m⟩,?_,⟨wfU p,wfU j⟩,wfR t,wfR l⟩;rw[b,d,g,e,i,r];rfl
set_option maxRecDepth 100000 in
def open_odS{H:Type}{enc:TypeId×Value->H}{w:World}{c:List Value}{f:Nat}{y:DataW H×List MemPlace}(z:c.length=5)(h:DataW.trod enc Tryz.prog w 0 (λ_=>true) true f 117 c=some y)(v:Wt Tryz.prog reachBytes 117 y.1):
  ∃o:Od,c=da o/\o.Fit:=by
 have a:Flds enc w c _:=jB Tryz.underlying117 h v;obtain⟨s,d,t⟩:=a.int 0 rfl (k:=.u64) (by kernel_rfl) (by kernel_rfl);obtain⟨u,g,m⟩:=a.int 1 rfl (k:=.u32) (by kernel_rfl) (by kernel_rfl);obtain⟨x,e⟩:=a.bool 2 rfl (by kernel_rfl) (by kernel_rfl);obtain⟨q,i,p⟩:=a.int 3 rfl (k:=.i64) (by kernel_rfl) (by kernel_rfl);obtain⟨r,j,l⟩:=a.int 4 rfl (k:=.i64) (by kernel_rfl) (by kernel_rfl);simp only at d g e i j;have n:c.drop 5=[]:=List.drop_eq_nil_of_le (by omega);have b:c=c.drop 0:=rfl;refine⟨⟨s,u,x,q,r⟩,?_,wfQ t,wfU m,wfR p,wfR l⟩;rw[b,d,g,e,i,j,n];rfl
set_option maxRecDepth 100000 in
def open_sdS{H:Type}{enc:TypeId×Value->H}{w:World}{c:List Value}{f:Nat}{y:DataW H×List MemPlace}(u:c.length=6)(h:DataW.trod enc Tryz.prog w 0 (λ_=>true) true f 119 c=some y)(r:Wt Tryz.prog reachBytes 119 y.1):
  ∃o:Int×Od,c=du o/\fq o.1/\o.2.Fit:=by
 have g:Flds enc w c _:=jB Tryz.underlying119 h r;obtain⟨l,d,p⟩:=g.int 0 rfl (k:=.u32) (by kernel_rfl) (by kernel_rfl);obtain⟨t,s,h1,e⟩:=g _ (List.mem_of_getElem? (i:=1) rfl);simp only at d h1 e;have n:Tryz.prog.cellsOf 117=5:=by kernel_rfl
 rw[n]at h1;obtain⟨o,m,a⟩:=open_odS (by rw[List.length_take,List.length_drop];omega) h1 e;refine⟨⟨l,o⟩,?_,wfU p,a⟩;have q:=drop_at m;have j:c.drop 6=[]:=List.drop_eq_nil_of_le (by omega);have b:c=c.drop 0:=rfl;rw[b,d,q,j,List.append_nil];rfl
set_option maxRecDepth 100000 in
def open_ctS{H:Type}{enc:TypeId×Value->H}{w:World}{c:List Value}{f:Nat}{y:DataW H×List MemPlace}(z:c.length=27)(h:DataW.trod enc Tryz.prog w 0 (λ_=>true) true f 108 c=some y)(t:Wt Tryz.prog reachBytes 108 y.1):
  ∃o:Ct,c=dN o/\o.Fit:=by
 have g:Flds enc w c _:=jB Tryz.underlying108 h t;obtain⟨x,A,d,l⟩:=g _ (List.mem_of_getElem? (i:=0) rfl);obtain⟨s,n,q⟩:=g.int 1 rfl (k:=.u8) (by kernel_rfl) (by kernel_rfl);obtain⟨v,m,u⟩:=g.int 2 rfl (k:=.i64) (by kernel_rfl) (by kernel_rfl);simp only at d l n m;have b:Tryz.prog.cellsOf 38=25:=by kernel_rfl
 rw[b]at d;obtain⟨sp,r,a⟩:=open_sp (by rw[List.length_take,List.length_drop];omega) d l;refine⟨⟨sp,s,v⟩,?_,a,wf8 q,wfR u⟩;have p:=drop_at r;have j:c.drop 27=[]:=List.drop_eq_nil_of_le (by omega);have e:c=c.drop 0:=rfl;rw[e,p,n,m,j];rfl
def open_lsS{H:Type}{enc:TypeId×Value->H}{w:World}{α:Type}{g:α->List Value}{Q:α->Prop}{t e:TypeId}{sz:Nat}{cs:List Value}{f:Nat}{y:DataW H×List MemPlace}(k:Tryz.prog.underlying t=some (.slice e))(d:Tryz.prog.cellsOf e=sz)(n:0<sz)
  (h:DataW.trod enc Tryz.prog w 0 (λ_=>true) true f t cs=some y)(q:Wt Tryz.prog reachBytes t y.1)(a:∀(c:List Value) (f:Nat) (y:DataW H×List MemPlace),c.length=sz->DataW.trod enc Tryz.prog w 0 (λ_=>true) true f e c=some y->Wt Tryz.prog reachBytes e y.1->∃o:α,c=g o/\Q o):
  ∃v,cs=[v]/\∃l:List α,Rd w sz v l.length (l.flatMap g)/\∀x∈l,Q x:=by
 obtain⟨v,e,L,i,-,m⟩:=IF (sz:=sz) k d n h q
 obtain⟨l,rfl,b⟩:=list_choose (f:=g) (Q:=Q) λc d=>by
  obtain⟨h1,f',y,j,p⟩:=m c d;exact a c f' y h1 j p
 rw[List.length_map,<-List.flatMap_def]at i;exact⟨v,e,l,i,b⟩
def undSt:∃fs,Tryz.prog.underlying 49=some (.struct fs):=⟨_,Tryz.underlying49⟩
set_option maxRecDepth 100000 in
def open_stC{H:Type}{enc:TypeId×Value->H}{w:World}{c:List Value}{f:Nat}{y:DataW H×List MemPlace}(hl:c.length=8)(h:DataW.trod enc Tryz.prog w 0 (λ_=>true) true f 49 c=some y)(X:Wt Tryz.prog reachBytes 49 y.1):
  ∃(s:iq) (ss:Nat->Value),c=nm s.day s.next s.fund ss/\eS w ss s/\s.Fit:=by
 have m:Flds enc w c _:=jB Tryz.underlying49 h X;obtain⟨M,u,w0⟩:=m.int 0 rfl (k:=.u32) (by kernel_rfl) (by kernel_rfl);obtain⟨W,z,w1⟩:=m.int 1 rfl (k:=.u64) (by kernel_rfl) (by kernel_rfl);obtain⟨Z,F,w2⟩:=m.int 2 rfl (k:=.i64) (by kernel_rfl) (by kernel_rfl);obtain⟨f3,y3,o,v⟩:=m _ (List.mem_of_getElem? (i:=3) rfl);obtain⟨f4,y4,q,I⟩:=m _ (List.mem_of_getElem? (i:=4) rfl);obtain⟨f5,y5,p,A⟩:=m _ (List.mem_of_getElem? (i:=5) rfl);obtain⟨f6,y6,t,D⟩:=m _ (List.mem_of_getElem? (i:=6) rfl);obtain⟨f7,y7,r,G⟩:=m _ (List.mem_of_getElem? (i:=7) rfl);simp only at u z F o v q I p A t D r G;have d:Tryz.prog.cellsOf 44=1:=by kernel_rfl
 have a:Tryz.prog.cellsOf 45=1:=by kernel_rfl
 have b:Tryz.prog.cellsOf 46=1:=by kernel_rfl
 have j:Tryz.prog.cellsOf 47=1:=by kernel_rfl
 rw[d]at o;rw[a]at q;rw[b]at p;rw[j]at t r;obtain⟨B,L,N,r3,k3⟩:=open_lsS (sz:=4) Tryz.underlying44 (by kernel_rfl) (by omega) o v λc f y e g l=>open_acS e g l;obtain⟨E,q4,O,r4,k4⟩:=open_lsS (sz:=27) Tryz.underlying45 (by kernel_rfl) (by omega) q I λc f y e g l=>open_ctS e g l;obtain⟨J,q5,S,r5,k5⟩:=open_lsS (sz:=4) Tryz.underlying46 (by kernel_rfl) (by omega) p A λc f y e g l=>open_poS e g l;obtain⟨C,T,Y,K,k6⟩:=open_lsS (sz:=6) Tryz.underlying47 (by kernel_rfl) (by omega) t D λc f y e g l=>open_sdS e g l;obtain⟨x,Q,P,V,k7⟩:=open_lsS (sz:=6) Tryz.underlying47 (by kernel_rfl) (by omega) r G λc f y e g l=>open_sdS e g l;have e3:c.drop 3=B::c.drop 4:=drop_at L;have e4:c.drop 4=E::c.drop 5:=drop_at q4;have e5:c.drop 5=J::c.drop 6:=drop_at q5;have U:c.drop 6=C::c.drop 7:=drop_at T;have R:c.drop 7=x::c.drop 8:=drop_at Q;have e8:c.drop 8=[]:=List.drop_eq_nil_of_le (by omega);have n:c=c.drop 0:=rfl;refine⟨⟨M,W,Z,N,O,S,Y,P⟩,λi=>match i with|3=>B|4=>E|5=>J|6=>C|_=>x,?_,λi e g=>?_,⟨wfU w0,wfQ w1,wfR w2,k3,k4,k5,k6,k7⟩⟩
 ·rw[n,u,z,F,e3,e4,e5,U,R,e8];rfl
 ·rcases(show i=3\/i=4\/i=5\/i=6\/i=7 by omega)with rfl|rfl|rfl|rfl|rfl
  ·exact r3
  ·exact r4
  ·exact r5
  ·exact K
  ·exact V
set_option maxRecDepth 100000 in
def open_st{H:Type}{enc:TypeId×Value->H}{w:World}{h:Value}{i:DataW H}{o:List MemPlace}{b:Nat}(a:Value.okWide Tryz.prog w .any b 49 h)(e:∃d,DataW.trod enc Tryz.prog w 0 (λ_=>true) true d 49 h.cells.toList=some (i,o))
  (p:Wt Tryz.prog reachBytes 49 i):∃(s:iq) (ss:Nat->Value),h=oJ s.day s.next s.fund ss/\eS w ss s/\s.Fit:=by
 obtain⟨fs,m⟩:=undSt;unfold Value.okWide at a;rw[m]at a;obtain⟨f,rfl,g,-⟩:=a;obtain⟨q,e⟩:=e
 have k:f.toList.length=8:=by
  rw[Array.length_toList,g]
  kernel_rfl
 obtain⟨s,ss,n,l,j⟩:=open_stC (c:=f.toList) k e p;obtain rfl:f=(nm s.day s.next s.fund ss).toArray:=by rw[<-n]
 exact⟨s,ss,rfl,l,j⟩
end Go.Proofs.YtgebhcgmckjbbaaGreat
