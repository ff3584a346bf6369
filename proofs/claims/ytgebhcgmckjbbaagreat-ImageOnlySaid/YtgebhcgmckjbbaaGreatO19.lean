/- Part of a proof. -/
import Derived.Test.YtgebhcgmckjbbaaGreatO17
set_option linter.all false
namespace Go.Proofs
open Go Go.Vc
attribute [local congr] Ca_congV
def posT(S:Ven)(i:Nat):List Po:=(S.nums.take i).flatMap S.led.holders
def ordT(S:Ven)(i:Nat):List (Int×Od):=(S.nums.take i).flatMap λn=>(S.bk n).all.map λo=>(n,o)
def bidT(S:Ven)(i:Nat):List (Int×Od):=(S.nums.take i).flatMap λn=>(S.bd n).map λo=>(n,o)
theorem numT{S:Ven}{i:Nat}(hi:i<S.cal.l.length):S.nums.take (i+1)=S.nums.take i++[S.cal.l[i].spec.num]:=by
 have hl:i<S.nums.length:=by unfold Ven.nums;rw[List.length_map];exact hi
 rw[take_succ' hl]
 simp[Ven.nums]
theorem posT_len{S:Ven}(h:S.led.Ok)(i:Nat):(posT S i).length≤64*i:=by
 unfold posT
 induction i with
 |zero=>simp
 |succ i ih=>
  by_cases hi:i<S.nums.length
  ·rw[take_succ' hi,List.flatMap_append,List.length_append]
   have:=holders_len h S.nums[i]
   simp only[List.flatMap_cons,List.flatMap_nil,List.append_nil]
   omega
  ·rw[List.take_of_length_le (by omega)]
   rw[List.take_of_length_le (by omega)]at ih
   omega
theorem ordT_len{S:Ven}(h:OkO S)(i:Nat):(ordT S i).length≤200*i:=by
 unfold ordT
 induction i with
 |zero=>simp
 |succ i ih=>
  by_cases hi:i<S.nums.length
  ·rw[take_succ' hi,List.flatMap_append,List.length_append]
   have h1:=(h.side S.nums[i] true).1
   have h2:=(h.side S.nums[i] false).1
   have h3:((S.bk S.nums[i]).all.map λo=>(S.nums[i],o)).length≤200:=by
    rw[List.length_map];unfold Bk.all;rw[List.length_append];omega
   simp only[List.flatMap_cons,List.flatMap_nil,List.append_nil]
   omega
  ·rw[List.take_of_length_le (by omega)]
   rw[List.take_of_length_le (by omega)]at ih
   omega
theorem bidT_len{S:Ven}(h:OkO S)(i:Nat):(bidT S i).length≤50*i:=by
 unfold bidT
 induction i with
 |zero=>simp
 |succ i ih=>
  by_cases hi:i<S.nums.length
  ·rw[take_succ' hi,List.flatMap_append,List.length_append]
   have h1:=h.bdl S.nums[i]
   simp only[List.flatMap_cons,List.flatMap_nil,List.append_nil,List.length_map]
   omega
  ·rw[List.take_of_length_le (by omega)]
   rw[List.take_of_length_le (by omega)]at ih
   omega
section
variable{w:World}{K:Kont}{v c l mb md:Nat}{A:List (Int×Nat)}{D:List (Int×Value)}{fp:Pt→Nat→Prop}{S:Ven}
set_option maxRecDepth 10000 in
set_option maxHeartbeats 8000000 in
theorem ca_vstate(h:VenR w v c l mb md A D fp S)(hok:S.Ok)
  (hK:∀ss b lo w',SB w' b S.cal.day S.next S.led.fund ss S.led.all S.cal.l (S.nums.flatMap S.led.holders) (S.nums.flatMap λn=>(S.bk n).all.map λo=>(n,o)) (S.nums.flatMap λn=>(S.bd n).map λo=>(n,o)) lo→w.heap.size≤lo→Mod (λ_=>False) w w' →w.heap.size≤b→K (stV S.cal.day S.next S.led.fund ss) w'):
  Ca Tryz.prog 14 #[vptr v] w K:=by
 apply ca14
 unfold F14
 obtain⟨n0,hn0⟩:∃n0,n0=w.heap.size:=⟨_,rfl⟩
 have hlay:∃w1,w.alloc (.cells #[vptr v] 23)=w1∧w1.heap.size=n0+1∧Mod (λ_=>False) w w1∧hp w1 n0=some (.cells #[vptr v] 23 (0,0)):=by
  refine⟨_,rfl,by simp[go_sem,hn0],(Mod.refl _ w).alloc _,?_⟩
  simp[go_sem,hn0]
 obtain⟨w1,hw1,hsz1,m1,b1⟩:=hlay
 refine rvS (v:=.pointer (some ⟨n0,0,none⟩)) (w' :=w1) (by rw[←hw1,hn0];rfl) ?_
 clear hw1
 obtain⟨w2,e2,b2,m2⟩:=newSt w1
 refine rvS e2 ?_
 obtain⟨p2,hp2⟩:∃p2,p2=n0+1:=⟨_,rfl⟩
 rw[hsz1,←hp2]at b2⊢
 have hp2l:p2<w2.heap.size:=lt_of_heap b2
 have M2:=m1.trans m2
 have h2:=h.md0 M2
 have g0:=m2.hpk b1 id
 have lv0:∀{W},hp W n0=some (.cells #[vptr v] 23 (0,0))→(Instr.loadAt 23 (.pointer (some ⟨n0,0,none⟩))).run Tryz.prog W=.ok (vptr v) W:=λhW=>by simp[go_sem,hW,vptr]
 refine rvS (lv0 g0) ?_
 refine ca_vready h2.blk ?_
 refine rvS (v:=.bool false) (w' :=w2) (by simp[go_sem]) ?_
 rw[ifB_bool,if_neg Bool.false_ne_true]
 refine rvS (lv0 g0) ?_
 simp only[vptr,nilK_ptr]
 refine rvS (fldV 1 (by omega) _) (rvS (ld1 _ h2.blk) ?_)
 refine ca_get h2.led λw3 m3=>?_
 have hg0:S.led.getV 0=(⟨0,S.led.fund,false,false⟩,0):=rfl
 rw[hg0]
 refine rvS (by simp[-Int.natCast_add,go_sem]<;>first|exact⟨rfl,rfl⟩|exact rfl) ?_
 refine rvS (by simp[-Int.natCast_add,go_sem]<;>first|exact⟨rfl,rfl⟩|exact rfl) ?_
 obtain⟨w4,w5,e4,e5,b5,m5⟩:=acVar ⟨0,S.led.fund,false,false⟩ w3
 obtain⟨ra,hra⟩:∃ra,ra=w3.heap.size:=⟨_,rfl⟩
 refine rvS e4 (ruS e5 ?_)
 rw[←hra]at b5⊢
 have M5:=(M2.trans m3).trans m5
 have h5:=h.md0 M5
 have g5:=m5.hpk (m3.hpk g0 id) id
 have p5:=m5.hpk (m3.hpk b2 id) id
 obtain⟨lo,hlo⟩:∃lo,lo=w5.heap.size:=⟨_,rfl⟩
 have hra5:ra<lo:=by rw[hlo];exact lt_of_heap b5
 have hp25:p2<lo:=by rw[hlo];exact lt_of_heap p5
 have hledOk:S.led.Ok:=hok.led.led
 have hal:=hledOk.len
 refine JoinW.at (λst W=>∃sb s,st=(.pointer (some ⟨sb,0,none⟩),())∧SB W sb S.cal.day S.next S.led.fund (ss0 s) S.led.all [] [] [] [] lo∧lo≤sb∧Mod (λ_=>False) w5 W) ?_ ?_
 ·have mdr:Mod (λ_=>False) w5 w5.drew:=(Mod.refl _ w5).drew
  have hsu:w5.drew.heap.size=w5.heap.size:=rfl
  have hu:=h5.md0 mdr
  have gu:=mdr.hpk g5 id
  have bu:=mdr.hpk b5 id
  generalize w5.drew=u at mdr hsu hu gu bu⊢
  have fx:∀W,Mod (λ_=>False) u W→(Instr.loadAt 2 (.pointer (some ⟨ra,1,none⟩))).run Tryz.prog W=.ok (.int .i64 S.led.fund) W∧(Instr.loadAt 27 (.pointer (some ⟨v,4,none⟩))).run Tryz.prog W=.ok (.int .u64 S.next) W∧(Instr.loadAt 23 (.pointer (some ⟨n0,0,none⟩))).run Tryz.prog W=.ok (vptr v) W∧(Instr.loadAt 62 (.pointer (some ⟨v,1,none⟩))).run Tryz.prog W=.ok (lptr l) W∧(Instr.loadAt 61 (.pointer (some ⟨v,0,none⟩))).run Tryz.prog W=.ok (cptr c) W:=λW m=>by
   have hW:=hu.md0 m
   have bW:=m.hpk bu id
   exact⟨by simp[go_sem,bW,cellsAc],ld4 _ hW.blk,lv0 (m.hpk gu id),ld1 _ hW.blk,ld0 _ hW.blk⟩
  have fin:∀(W:World) (sb:Nat) (s:Value) (K2:World→Prop),Mod (λ_=>False) u W→hp W sb=some (.cells (stC 0 0 0 (ss0 nilV)).toArray tSt (0,0))→lo≤sb→Own W 92 4 s S.led.all.length (S.led.all.flatMap cellsAc)→(∀y,inSl s y→lo≤y∧y≠sb)→
    (∀W',SB W' sb S.cal.day S.next S.led.fund (ss0 s) S.led.all [] [] [] [] lo→Mod (λ_=>False) w5 W' →K2 W')→ru Tryz.prog (Instr.storeAt tSt (.pointer (some ⟨sb,0,none⟩)) (stV S.cal.day S.next S.led.fund (ss0 s))) W K2:=by
   intro W sb s K2 m hb hsb ho hs hk
   obtain⟨sa,sc,hse,-⟩:=ho.isSl
   obtain⟨W',e',b',m'⟩:=stSt (d:=S.cal.day) (n:=S.next) (f:=S.led.fund) (ss:=ss0 s) hb rfl λi _ _=>by
    unfold ss0
    split
    ·exact⟨_,_,_,hse⟩
    ·exact⟨none,0,0,rfl⟩
   refine ruS e' (hk W' ⟨b',λi hi hj=>?_,λi j y hi1 hi2 hj1 hj2 h1 h2=>?_,λi y hi hj hy=>?_⟩ ((mdr.trans m).on m' λy hy=>.inr (by omega)))
   ·have hi' :i=3∨i=4∨i=5∨i=6∨i=7:=by omega
    rcases hi' with rfl|rfl|rfl|rfl|rfl
    ·exact ho.mod m' λy hy e=>(hs y hy).2 e
    ·exact Own.nil _ _ _
    ·exact Own.nil _ _ _
    ·exact Own.nil _ _ _
    ·exact Own.nil _ _ _
   ·unfold ss0 at h1 h2
    by_cases hi:i=3
    ·by_cases hj:j=3
     ·rw[hi,hj]
     ·rw[if_neg hj]at h2;cases h2
    ·rw[if_neg hi]at h1;cases h1
   ·unfold ss0 at hy
    by_cases hi3:i=3
    ·rw[if_pos hi3]at hy;exact hs y hy
    ·rw[if_neg hi3]at hy;cases hy
  have rU:=fx u (Mod.refl _ _)
  refine rdWS rU.2.2.1 ?_
  simp only[vptr,nilK_ptr]
  refine rdPS (fldV 0 (by omega)) (rdWS rU.2.2.2.2 ?_)
  refine rdWS rU.2.2.1 ?_
  simp only[vptr,nilK_ptr]
  refine rdPS (fldV 4 (by omega)) (rdWS rU.2.1 ?_)
  refine rdPS (v:=.pointer (some ⟨ra,1,none⟩)) (λ_=>by simp[go_sem]) (rdWS rU.1 ?_)
  refine rdWS rU.2.2.1 ?_
  simp only[vptr,nilK_ptr]
  refine rdPS (fldV 1 (by omega)) (rdWS rU.2.2.2.1 ?_)
  refine⟨?_,?_⟩
  ·refine ca_cday hu.cal ?_
   refine⟨rU.2.2.2.1,rU.2.2.1,rU.1,rU.2.1,rU.2.2.1,?_,?_⟩
   ·refine ca_accounts hu.led λgv u1 ht m1=>?_
    have r1:=fx u1 m1
    refine⟨r1.1,r1.2.1,r1.2.2.1,?_,?_⟩
    ·refine ca_collect ht.m (by omega) λs u2 o2 m2 n2=>?_
     have M:=m1.trans m2
     have r2:=fx u2 M
     refine⟨r2.1,r2.2.1,r2.2.2.1,?_⟩
     obtain⟨sa,sc,hse,-⟩:=o2.isSl
     refine rdPS (λW=>bldSt _ _ _ _ W ⟨_,_,_,hse⟩) ?_
     obtain⟨u3,e3,b3,m3'⟩:=newSt u2
     refine rvS e3 ?_
     have r3:=fx u3 (M.trans m3')
     refine⟨r3.1,r3.2.1,r3.2.2.1,?_⟩
     have hs2:=m1.size
     have hs3:=m2.size
     exact fin u3 _ s _ (M.trans m3') b3 (by omega) (o2.mod m3' λ_ _ h=>h) (λy hy=>⟨by have:=n2 y hy;omega,by have:=o2.lt hy;omega⟩) λW' hW' mW' =>⟨_,s,rfl,hW',by omega,mW'⟩
    ·obtain⟨u2,e2',b2',m2'⟩:=newSt u1
     refine rvS e2' ?_
     have r2:=fx u2 (m1.trans m2')
     refine⟨r2.1,r2.2.1,r2.2.2.1,?_⟩
     refine ca_collect (ht.m.mod m2') (by omega) λs u3 o3 m3' n3=>?_
     have M:=(m1.trans m2').trans m3'
     have r3:=fx u3 M
     refine⟨r3.1,r3.2.1,r3.2.2.1,?_⟩
     obtain⟨sa,sc,hse,-⟩:=o3.isSl
     refine rdPS (λW=>bldSt _ _ _ _ W ⟨_,_,_,hse⟩) ?_
     have hs1:=m1.size
     have hs2:=lt_of_heap b2'
     exact fin u3 _ s _ M (m3'.hpk b2' id) (by omega) o3 (λy hy=>⟨by have:=n3 y hy;omega,by have:=n3 y hy;omega⟩) λW' hW' mW' =>⟨_,s,rfl,hW',by omega,mW'⟩
   ·obtain⟨u2,e2',b2',m2'⟩:=newSt u
    refine rvS e2' ?_
    have r2:=fx u2 m2'
    refine⟨r2.2.2.2.1,r2.2.2.1,r2.1,r2.2.1,r2.2.2.1,?_⟩
    refine ca_accounts (hu.md0 m2').led λgv u1 ht m1=>?_
    have r1:=fx u1 (m2'.trans m1)
    refine⟨r1.1,r1.2.1,r1.2.2.1,?_⟩
    refine ca_collect ht.m (by omega) λs u3 o3 m3' n3=>?_
    have M:=(m2'.trans m1).trans m3'
    have r3:=fx u3 M
    refine⟨r3.1,r3.2.1,r3.2.2.1,?_⟩
    obtain⟨sa,sc,hse,-⟩:=o3.isSl
    refine rdPS (λW=>bldSt _ _ _ _ W ⟨_,_,_,hse⟩) ?_
    have hs1:=m1.size
    have hs2:=lt_of_heap b2'
    exact fin u3 _ s _ M (m3'.hpk (m1.hpk b2' id) id) (by omega) o3 (λy hy=>⟨by have:=n3 y hy;omega,by have:=n3 y hy;omega⟩) λW' hW' mW' =>⟨_,s,rfl,hW',by omega,mW'⟩
  ·obtain⟨u2,e2',b2',m2'⟩:=newSt u
   refine rvS e2' ?_
   have r2:=fx u2 m2'
   refine⟨r2.2.2.2.1,r2.2.2.1,r2.1,r2.2.1,r2.2.2.1,r2.2.2.2.2,r2.2.2.1,?_⟩
   refine ca_cday (hu.md0 m2').cal ?_
   refine⟨r2.2.2.2.1,r2.2.2.1,r2.1,r2.2.1,r2.2.2.1,?_⟩
   refine ca_accounts (hu.md0 m2').led λgv u1 ht m1=>?_
   have r1:=fx u1 (m2'.trans m1)
   refine⟨r1.1,r1.2.1,r1.2.2.1,?_⟩
   refine ca_collect ht.m (by omega) λs u3 o3 m3' n3=>?_
   have M:=(m2'.trans m1).trans m3'
   have r3:=fx u3 M
   refine⟨r3.1,r3.2.1,r3.2.2.1,?_⟩
   obtain⟨sa,sc,hse,-⟩:=o3.isSl
   refine rdPS (λW=>bldSt _ _ _ _ W ⟨_,_,_,hse⟩) ?_
   have hs1:=m1.size
   have hs2:=lt_of_heap b2'
   exact fin u3 _ s _ M (m3'.hpk (m1.hpk b2' id) id) (by omega) o3 (λy hy=>⟨by have:=n3 y hy;omega,by have:=n3 y hy;omega⟩) λW' hW' mW' =>⟨_,s,rfl,hW',by omega,mW'⟩
 rintro _ w6 ⟨sb,s,rfl,q6,hsb,m6⟩
 unfold J14_12
 intro _
 have hs6:=m6.size
 have h6:=h5.md0 m6
 have g6:=m6.hpk g5 id
 have p6:=m6.hpk p5 id
 have M6:=M5.trans m6
 refine rvS (lv0 g6) ?_
 simp only[vptr,nilK_ptr]
 refine rvS (fldV 0 (by omega) _) (rvS (ld0 _ h6.blk) ?_)
 refine ca_call h6.cal λgv w7 ht m7=>?_
 have h7:=h6.md0 m7
 have g7:=m7.hpk g6 id
 have p7:=m7.hpk p6 id
 have q7:=SB.modX q6 m7 λ_ _ h=>h
 have M7:=M6.trans m7
 have hfl:∀pt y,fp pt y→y<n0:=λpt y hy=>by rw[hn0];exact h.lt hy
 have hXlo:∀{ss:Nat→Value} {W:World} {C:List Ct} {P:List Po} {O B:List (Int×Od)},SB W sb S.cal.day S.next S.led.fund ss S.led.all C P O B lo→∀y,XS ss sb y→lo≤y:=λhh y hy=>by
  rcases hy with rfl|⟨i,hi,hj,hy⟩
  ·exact hsb
  ·exact(hh.nw i y hi hj hy).1
 have hs7:=m7.size
 have hcl:S.cal.l.length≤16:=hok.cal.len
 let I:(Nat→Prop)→Nat→World→Prop:=λX i W=>∃ss,SB W sb S.cal.day S.next S.led.fund ss S.led.all (S.cal.l.take i) (posT S i) (ordT S i) (bidT S i) lo∧∀y,X y↔XS ss sb y
 delta R14_10
 refine RF_out (X0:=XS (ss0 s) sb) (fv:=λk:Ct=>.agg (ctC k).toArray) (asg:=λx W K=>rx Tryz.prog (bigA tCt) W λv w1=>rux Tryz.prog (bigU tCt v x) w1 λw2=>K v w2) (Pv:=PvOf tCt ctC) (xs:=S.cal.l) ht hasg_ct hPv_of I (λ_ _ _=>False) ?_ (λ_ _ _ _ _ h=>h.elim) (λy hy=>q7.ltX hy) ⟨ss0 s,q7,λ_=>Iff.rfl⟩ ?_ ?_ (λ_ _ _ _ _ h=>h.elim)
 ·rintro X i W W' H ⟨ss,i1,i2⟩ hm hX
  exact⟨ss,i1.modX hm λy hy=>hX y ((i2 y).2 hy),i2⟩
 ·rintro X i hi W q vv ⟨ss,i1,i2⟩ mW hX hdq hqW ⟨rfl,gq⟩ ⟨rec0,hrec⟩ KN KJ hKN hKJ
  obtain⟨k,hk⟩:∃k,k=S.cal.l[i]:=⟨_,rfl⟩
  have hk' :k=S.cal.l[i]'hi:=hk
  rw[←hk']at gq
  obtain⟨n,hn⟩:∃n,n=k.spec.num:=⟨_,rfl⟩
  have hi16:i<16:=by have:i<S.cal.l.length:=hi;omega
  have hct:=take_succ' (l:=S.cal.l) hi
  rw[←hk']at hct
  have hnt:=numT (S:=S) hi
  have hnk:S.cal.l[i].spec.num=n:=by rw[hn,hk']
  rw[hnk]at hnt
  have hX0lo:∀y,XS (ss0 s) sb y→lo≤y:=hXlo q7
  have hW:=h7.mod mW λpt y hy hc=>by have:=hfl pt y hy;have:=hX0lo y hc;omega
  have gW:=mW.hpk g7 λhc=>by have:=hX0lo _ hc;omega
  have hlX:∀y,XS ss sb y→y<q∧y≠w7.heap.size+1∧lo≤y:=λy hy=>by
   have h1:=hX y ((i2 y).2 hy)
   refine⟨h1.1,?_,hXlo i1 y hy⟩
   rcases h1.2 with h' |h'
   ·have:=q7.ltX h';omega
   ·omega
  refine rvS (v:=.pointer (some ⟨q,0,none⟩)) (w' :=W) (by simp[go_sem]) (rvS (v:=.pointer (some ⟨q,0,none⟩)) (w' :=W) (by simp[go_sem]) ?_)
  refine rvS (v:=.int .u32 n) (w' :=W) (by simp[go_sem,gq,ctT0,hn]) ?_
  have hlay:∃W2,(W.alloc (.cells #[.int .u32 0] 35)).setCell ⟨W.heap.size,0,none⟩ (.int .u32 n)=W2∧Mod (λ_=>False) W W2∧hp W2 W.heap.size=some (.cells #[.int .u32 n] 35 (0,0)):=
   ⟨_,rfl,((Mod.refl _ W).alloc _).setCell (.inr (Nat.le_refl _)) _ _,by simp[go_sem]⟩
  obtain⟨W2,hW2,mW2,bn⟩:=hlay
  refine rvS (v:=.pointer (some ⟨W.heap.size,0,none⟩)) (w' :=W.alloc (.cells #[.int .u32 0] 35)) (by simp[go_sem]) ?_
  refine ruS (w' :=W2) (by rw[←hW2];simp[go_sem]) ?_
  clear hW2
  obtain⟨pn,hpn⟩:∃pn,pn=W.heap.size:=⟨_,rfl⟩
  rw[←hpn]at bn⊢
  have hpnl:=lt_of_heap bn
  have i3:=i1.modX mW2 λ_ _ h=>h
  have gq2:=mW2.hpk gq id
  have hV2:=hW.md0 mW2
  have g2:=mW2.hpk gW id
  have rc2:=mW2.keep (hrec:hp W _=_) id
  have hsW2:=mW2.size
  have hn0W:n0<W.heap.size:=lt_of_heap gW
  have hlW:w7.heap.size+1<W.heap.size:=by omega
  have ln:∀{W'},hp W' pn=some (.cells #[.int .u32 n] 35 (0,0))→(Instr.loadAt 35 (.pointer (some ⟨pn,0,none⟩))).run Tryz.prog W' =.ok (.int .u32 n) W' :=λhh=>by simp[go_sem,hh]
  have hnX:∀y,XS ss sb y→y≠n0∧y≠pn∧y≠w7.heap.size+1∧∀pt,¬fp pt y:=λy hy=>by
   have h1:=hlX y hy
   have h2:=i1.ltX hy
   exact⟨by omega,by omega,h1.2.1,λpt hc=>by have:=hfl pt y hc;omega⟩
  let ST:World→Prop:=λW' =>Mod (XS ss sb) W2 W'
  have keep:∀{W'},ST W' →VenR W' v c l mb md A D fp S∧hp W' n0=some (.cells #[vptr v] 23 (0,0))∧hp W' pn=some (.cells #[.int .u32 n] 35 (0,0))∧(∃r,hp W' (w7.heap.size+1)=some (.loop r)):=λm=>⟨hV2.mod m λpt y hy hc=>(hnX y hc).2.2.2 pt hy,m.hpk g2 λhc=>(hnX _ hc).1 rfl,m.hpk bn λhc=>(hnX _ hc).2.1 rfl,rec0,m.keep rc2 λhc=>(hnX _ hc).2.2.1 rfl⟩
  have sub:∀{ss' :Nat→Value} {W' W'' :World},W2.heap.size≤W'.heap.size→(∀y,XS ss' sb y→XS ss sb y∨W2.heap.size≤y)→Mod (XS ss' sb) W' W'' →ST W' →ST W'' :=by
   intro ss' W' W'' hle hs m hst
   exact Mod.on (hst:Mod (XS ss sb) W2 W') m λy hy=>hs y hy
  refine rvS (stFld W2 4 (by omega)) (rvS (i3.ld 4 (by omega) (by omega)) ?_)
  refine rx_bigS (ctC k) 26 aCt nCt (ctC_len k) (At.all gq2) ?_
  refine pushX (i:=4) (by omega) (by omega) (c:=ctC k) i3 rfl (ctC_len k) (ctC_one k) (by show(S.cal.l.take i).length≤_;rw[List.length_take];omega) (by omega) (LN4 _ _ _ _ _ k) (LC4 _ _ _ _ _ k) λss1 W3 q3 m3 n3=>?_
  have st3:ST W3:=m3
  have mdr:Mod (λ_=>False) W3 W3.drew:=(Mod.refl _ W3).drew
  have q4:=q3.modX mdr λ_ _ h=>h
  have st4:ST W3.drew:=st3.trans (mdr.mono λ_ _ h=>h.elim)
  have hs4:W3.drew.heap.size=W3.heap.size:=rfl
  generalize W3.drew=W4 at mdr q4 st4 hs4⊢
  have hs23:=st4.size
  obtain⟨hV4,g4,n4,-⟩:=keep st4
  refine rdWS (lv0 g4) ?_
  simp only[vptr,nilK_ptr]
  refine rdPS (fldV 1 (by omega)) (rdWS (ld1 _ hV4.blk) ?_)
  refine rdWS (ln n4) ?_
  refine ca_holders hV4.led (by have:=held_len hok.cal hok.led;omega) λgv5 W5 ht5 m5=>?_
  have q5:=q4.modX m5 λ_ _ h=>h
  have st5:ST W5:=st4.trans (m5.mono λ_ _ h=>h.elim)
  obtain⟨-,-,-,hrc5⟩:=keep st5
  have hs5:=st5.size
  obtain⟨H,hH⟩:∃H,H=S.led.holders n:=⟨_,rfl⟩
  rw[←hH]at ht5
  have hHl:H.length≤64:=by rw[hH];exact holders_len hledOk n
  have hpl:=posT_len hledOk i
  delta R14_8
  refine RF_in (l0:=w7.heap.size+1) (X0:=XS ss1 sb) (fv:=poV) (asg:=λx W K=>rv Tryz.prog (Instr.alloc 112 true (.tuple #[])) W λv w1=>ru Tryz.prog (Instr.storeAt 112 v x) w1 λw2=>K v w2) (Pv:=PvOf 112 cellsPo) (xs:=H) hrc5 ht5.m (hasg_small VarOk.po) hPv_of
   (λX j W' =>∃ss',SB W' sb S.cal.day S.next S.led.fund ss' S.led.all (S.cal.l.take i++[k]) (posT S i++H.take j) (ordT S i) (bidT S i) lo∧∀y,X y↔XS ss' sb y) (λ_ _ _=>False) ?_ (λ_ _ _ _ _ h=>h.elim) (λy hy=>q5.ltX hy) ⟨ss1,by rw[List.take_zero,List.append_nil];exact q5,λ_=>Iff.rfl⟩ ?_ ?_ (λ_ _ _ h=>h.elim)
  ·rintro X j W' W'' H' ⟨ss',j1,j2⟩ hm hX'
   exact⟨ss',j1.modX hm λy hy=>hX' y ((j2 y).2 hy),j2⟩
  ·rintro X j hj W6 qv vv ⟨ss',j1,j2⟩ mW6 hX6 hdq6 hqW6 ⟨rfl,gv6⟩ KN2 KJ2 hKN2 hKJ2
   have htk:=take_succ' (l:=H) hj
   have lo6:lo≤W6.heap.size:=by have:=mW6.size;omega
   refine rvS (stFld W6 5 (by omega)) (rvS (j1.ld 5 (by omega) (by omega)) ?_)
   have gv6' :=gv6
   unfold cellsPo at gv6'
   refine rvS (v:=poV H[j]) (w' :=W6) (by simp[go_sem,gv6',poV]) ?_
   refine pushX (i:=5) (by omega) (by omega) (c:=cellsPo H[j]) j1 rfl rfl rfl (by show(posT S i++H.take j).length≤_;rw[List.length_append,List.length_take];omega) lo6 (LN5 _ _ _ _ _ H[j]) (LC5 _ _ _ _ _ H[j]) λss2 W7 q7' m7' n7' =>?_
   refine hKN2 (XS ss2 sb) W7 ⟨ss2,by rw[htk,←List.append_assoc];exact q7',λ_=>Iff.rfl⟩ (m7'.mono λy _ hy=>(j2 y).2 hy) λy hy=>⟨(n7' y hy).imp (j2 y).2 id,q7'.ltX hy⟩
  ·rintro X W6 ⟨ss2,j1,j2⟩ mW6 hX6
   rw[show H.take H.length=H from List.take_length]at j1
   have s12:∀y,XS ss1 sb y→XS ss sb y∨W2.heap.size≤y:=n3
   have s2:∀y,XS ss2 sb y→XS ss sb y∨W2.heap.size≤y:=λy hy=>by
    rcases(hX6 y ((j2 y).2 hy)).2 with h' |h'
    ·exact s12 y h'
    ·exact .inr (by omega)
   have st6:ST W6:=sub hs5 s12 mW6 st5
   unfold A14_9
   simp only[afterK]
   have mdr6:Mod (λ_=>False) W6 W6.drew:=(Mod.refl _ W6).drew
   have q6' :=j1.modX mdr6 λ_ _ h=>h
   have st7:ST W6.drew:=st6.trans (mdr6.mono λ_ _ h=>h.elim)
   generalize W6.drew=W7 at mdr6 q6' st7⊢
   obtain⟨hV7,g7',n7',-⟩:=keep st7
   refine rdWS (lv0 g7') ?_
   simp only[vptr,nilK_ptr]
   have hsome:(calGet S.cal.l n).isSome=true:=nums_get.1 (by rw[hn];exact List.mem_map_of_mem (by rw[hk];exact List.getElem_mem hi))
   obtain⟨b,hb,hB⟩:=lkB hV7 (n:=n) hsome
   refine rdPS (fldV 2 (by omega)) (rdWS (ld2 _ hV7.blk) ?_)
   refine rdWS (ln n7') ?_
   refine rdX_of (lookBk hV7.mbk hb) ?_
   refine ca_ball hB λgv8 W8 ht8 m8=>?_
   have q8:=q6'.modX m8 λ_ _ h=>h
   have st8:ST W8:=st7.trans (m8.mono λ_ _ h=>h.elim)
   obtain⟨-,-,-,hrc8⟩:=keep st8
   have hs8:=st8.size
   obtain⟨Al,hAl⟩:∃Al,Al=(S.bk n).all:=⟨_,rfl⟩
   have ht8' :TellsM gv8 (Al.map λo=>[odV o]) W8:=by rw[hAl];exact ht8
   have hAll:Al.length≤200:=by rw[hAl];exact hB.all.1
   have hol:=ordT_len hok.ord i
   delta R14_2
   refine RF_in (l0:=w7.heap.size+1) (X0:=XS ss2 sb) (fv:=odV) (asg:=λx W K=>rv Tryz.prog (Instr.alloc tOd true (.tuple #[])) W λv w1=>ru Tryz.prog (Instr.storeAt tOd v x) w1 λw2=>K v w2) (Pv:=PvOf tOd odC) (xs:=Al) hrc8 ht8' (hasg_small VarOk.od) hPv_of
    (λX j W' =>∃ss',SB W' sb S.cal.day S.next S.led.fund ss' S.led.all (S.cal.l.take i++[k]) (posT S i++H) (ordT S i++(Al.take j).map λo=>(n,o)) (bidT S i) lo∧(∀y,X y↔XS ss' sb y)) (λ_ _ _=>False) ?_ (λ_ _ _ _ _ h=>h.elim) (λy hy=>q8.ltX hy) ⟨ss2,by simpa using q8,λ_=>Iff.rfl⟩ ?_ ?_ (λ_ _ _ h=>h.elim)
   ·rintro X j W' W'' H' ⟨ss',j1,j2⟩ hm hX'
    exact⟨ss',j1.modX hm λy hy=>hX' y ((j2 y).2 hy),j2⟩
   ·rintro X j hj W9 qv vv ⟨ss',j1',j2'⟩ mW9 hX9 hdq9 hqW9 ⟨rfl,gv9⟩ KN2 KJ2 hKN2 hKJ2
    have htk:=take_succ' (l:=Al) hj
    have lo9:lo≤W9.heap.size:=by have:=mW9.size;omega
    have n9:=(keep (sub hs8 s2 mW9 st8)).2.2.1
    refine rvS (stFld W9 6 (by omega)) (rvS (j1'.ld 6 (by omega) (by omega)) ?_)
    refine rvS (ln n9) ?_
    refine rvS (ldOd (o:=Al[j]) (At.all gv9)) ?_
    refine rvS (bldSd n Al[j] W9) ?_
    refine pushX (i:=6) (by omega) (by omega) (c:=sdOC (n,Al[j])) j1' rfl rfl rfl (by show(ordT S i++(Al.take j).map _).length≤_;rw[List.length_append,List.length_map,List.length_take];omega) lo9 (LN6 _ _ _ _ _ (n,Al[j])) (LC6 _ _ _ _ _ (n,Al[j])) λss3 W10 q10 m10 n10=>?_
    refine hKN2 (XS ss3 sb) W10 ⟨ss3,by rw[htk,List.map_append,←List.append_assoc];exact q10,λ_=>Iff.rfl⟩ (m10.mono λy _ hy=>(j2' y).2 hy) λy hy=>⟨(n10 y hy).imp (j2' y).2 id,q10.ltX hy⟩
   ·rintro X9 W9 ⟨ss3,j1',j2'⟩ mW9 hX9
    rw[show Al.take Al.length=Al from List.take_length]at j1'
    have s3:∀y,XS ss3 sb y→XS ss sb y∨W2.heap.size≤y:=λy hy=>by
     rcases(hX9 y ((j2' y).2 hy)).2 with h' |h'
     ·exact s2 y h'
     ·exact .inr (by omega)
    have st9:ST W9:=sub hs8 s2 mW9 st8
    unfold A14_3
    simp only[afterK]
    have mdr9:Mod (λ_=>False) W9 W9.drew:=(Mod.refl _ W9).drew
    have q10:=j1'.modX mdr9 λ_ _ h=>h
    have st10:ST W9.drew:=st9.trans (mdr9.mono λ_ _ h=>h.elim)
    generalize W9.drew=W10 at mdr9 q10 st10⊢
    obtain⟨hV10,g10,n10,-⟩:=keep st10
    refine rdWS (lv0 g10) ?_
    simp only[vptr,nilK_ptr]
    refine rdPS (fldV 3 (by omega)) (rdWS (ld3 _ hV10.blk) ?_)
    refine rdWS (ln n10) ?_
    refine rdX_of (lookBd hV10.mbd n) ?_
    obtain⟨Bd,hBd⟩:∃Bd,Bd=S.bd n:=⟨_,rfl⟩
    have hBdl:Bd.length≤50:=by rw[hBd];exact hok.ord.bdl n
    have hbd10:OdS W10 (slOf D n) Bd:=by rw[hBd];exact hV10.bd n
    obtain⟨ba,bc,hbs,-⟩:=hbd10.isSl
    refine rdWS (v:=.int .i64 (Bd.length:Int)) (by rw[hbs];simp[go_sem]) ?_
    have hbl:=bidT_len hok.ord i
    have hs10:=st10.size
    refine loopV (λst W' =>∃(j:Nat) (ss' :Nat→Value),j≤Bd.length∧st=(.int .i64 j,())∧SB W' sb S.cal.day S.next S.led.fund ss' S.led.all (S.cal.l.take i++[k]) (posT S i++H) (ordT S i++Al.map λo=>(n,o)) (bidT S i++(Bd.take j).map λo=>(n,o)) lo∧(∀y,XS ss' sb y→XS ss sb y∨W2.heap.size≤y)∧ST W')
     (λst _=>match st.1 with| .int _ i=>Bd.length - i.toNat|_=>0) ⟨0,ss3,by omega,rfl,by simpa using q10,s3,st10⟩ ?_
    rintro _ W11 ⟨j,ss4,hj,rfl,t1,t2,t3⟩ KM hKM
    unfold L14_0
    intro _
    obtain⟨hV11,g11,n11,-⟩:=keep t3
    have hbd11:OdS W11 (slOf D n) Bd:=by rw[hBd];exact hV11.bd n
    have hs11:=t3.size
    by_cases hlt:j<Bd.length
    ·have hlt' :(j:Int)<(Bd.length:Int):=by omega
     refine rvS (v:=.bool true) (by simp[go_sem,hlt']<;>first|exact⟨rfl,rfl⟩|exact rfl) ?_
     rw[ifB_bool,if_pos rfl]
     obtain⟨pj,p1,p2'⟩:=odRd hbd11.rd hlt
     refine rvS p1 (rvS p2' ?_)
     obtain⟨wa,ea,ba',ma⟩:=newOd W11
     refine rvS ea ?_
     obtain⟨q9,hq9⟩:∃q9,q9=W11.heap.size:=⟨_,rfl⟩
     rw[←hq9]at ba' ⊢
     obtain⟨wb,eb,bb,mb'⟩:=setOd (o' :=Bd[j]) ba'
     refine ruS eb ?_
     have Mb:Mod (λ_=>False) W11 wb:=ma.on mb' λb hb=>.inr (by omega)
     have tb:=t1.modX Mb λ_ _ h=>h
     have stb:ST wb:=t3.trans (Mb.mono λ_ _ h=>h.elim)
     have nb:=(keep stb).2.2.1
     have hsb' :=stb.size
     refine rvS (stFld wb 7 (by omega)) (rvS (tb.ld 7 (by omega) (by omega)) ?_)
     refine rvS (ln nb) ?_
     refine rvS (ldOd (o:=Bd[j]) (At.all bb)) ?_
     refine rvS (bldSd n Bd[j] wb) ?_
     refine pushX (i:=7) (by omega) (by omega) (c:=sdOC (n,Bd[j])) tb rfl rfl rfl (by show(bidT S i++(Bd.take j).map _).length≤_;rw[List.length_append,List.length_map,List.length_take];omega) (by omega) (LN7 _ _ _ _ _ (n,Bd[j])) (LC7 _ _ _ _ _ (n,Bd[j])) λss5 wc qc mc nc=>?_
     refine rvS (v:=.int .i64 ((j+1:Nat):Int)) (w' :=wc) (by simp[go_sem];rw[wrapI (by omega) (by omega)]) ?_
     refine hKM _ _ ⟨j+1,ss5,by omega,rfl,by rw[take_succ' hlt,List.map_append,←List.append_assoc];exact qc,λy hy=>?_,sub hsb' t2 mc stb⟩ (by show Bd.length - (((j+1:Nat):Int)).toNat<Bd.length - ((j:Int)).toNat;omega)
     rcases nc y hy with h' |h'
     ·exact t2 y h'
     ·exact .inr (by omega)
    ·obtain rfl:j=Bd.length:=by omega
     refine rvS (v:=.bool false) (by simp[go_sem]<;>first|exact⟨rfl,rfl⟩|exact rfl) ?_
     rw[ifB_bool,if_neg Bool.false_ne_true]
     rw[List.take_length]at t1
     refine hKN (XS ss4 sb) W11 ⟨ss4,?_,λ_=>Iff.rfl⟩ ((mW2.mono λ_ _ h=>h.elim).trans (t3.mono λy _ hy=>(i2 y).2 hy)) λy hy=>⟨?_,t1.ltX hy⟩
     ·have e1:posT S (i+1)=posT S i++H:=by unfold posT;rw[hnt,List.flatMap_append,hH];simp
      have e2:ordT S (i+1)=ordT S i++Al.map λo=>(n,o):=by unfold ordT;rw[hnt,List.flatMap_append,hAl];simp
      have e3:bidT S (i+1)=bidT S i++Bd.map λo=>(n,o):=by unfold bidT;rw[hnt,List.flatMap_append,hBd];simp
      rw[hct,e1,e2,e3]
      exact t1
     ·rcases t2 y hy with h' |h'
      ·exact .inl ((i2 y).2 h')
      ·exact .inr (by omega)
 ·rintro X W d hd ⟨ss,i1,i2⟩ mW hdef hX
  have i1' :SB W sb S.cal.day S.next S.led.fund ss S.led.all S.cal.l (S.nums.flatMap S.led.holders) (S.nums.flatMap λn=>(S.bk n).all.map λo=>(n,o)) (S.nums.flatMap λn=>(S.bd n).map λo=>(n,o)) lo:=by
   have e0:S.cal.l.length=S.nums.length:=by unfold Ven.nums;rw[List.length_map]
   have e1:posT S S.cal.l.length=S.nums.flatMap S.led.holders:=by unfold posT;rw[e0,List.take_length]
   have e2:ordT S S.cal.l.length=S.nums.flatMap λn=>(S.bk n).all.map λo=>(n,o):=by unfold ordT;rw[e0,List.take_length]
   have e3:bidT S S.cal.l.length=S.nums.flatMap λn=>(S.bd n).map λo=>(n,o):=by unfold bidT;rw[e0,List.take_length]
   have i1'' :SB W sb S.cal.day S.next S.led.fund ss S.led.all (S.cal.l.take S.cal.l.length) (posT S S.cal.l.length) (ordT S S.cal.l.length) (bidT S S.cal.l.length) lo:=i1
   rw[List.take_length,e1,e2,e3]at i1''
   exact i1''
  have hX0lo:∀y,XS (ss0 s) sb y→lo≤y:=hXlo q7
  have pW:=mW.hpk p7 λhc=>by have:=hX0lo _ hc;omega
  unfold A14_11
  simp only[afterK]
  refine rvS (stLd i1'.at_) ?_
  obtain⟨W2,e2',b2',m2'⟩:=stSt (d:=S.cal.day) (n:=S.next) (f:=S.led.fund) (ss:=ss) pW rfl λi hi hj=>by
   obtain⟨a,c,hs,-⟩:=(i1'.own i hi hj).isSl
   exact⟨_,_,_,hs⟩
  refine ruS e2' ?_
  have hdX:¬XS ss sb d:=λhc=>by
   rcases(hX d ((i2 d).2 hc)).2 with h' |h'
   ·have:=q7.ltX h';omega
   ·omega
  refine retV1 (m2'.hpk hdef (by omega)) λW3 m3' =>?_
  refine rdWS (stLd (m3'.hpk b2' (by omega))) ?_
  have hlo5:=M5.size
  refine hK ss sb lo W3 ((i1'.modX m2' λy hy e=>by have:=hXlo i1' y hy;omega).modX m3' λy hy e=>hdX (e▸hy)) (by omega) ?_ (by omega)
  exact((M7.on mW λy hy=>.inr (by have:=hX0lo y hy;omega)).on m2' λy hy=>.inr (by omega)).on m3' λy hy=>.inr (by omega)
end
end Go.Proofs
namespace Go.Proofs
open Go Go.Vc
def sumQ' (l:List Po)(c:Int):Int:=((l.filter λp=>decide (p.c=c)).map (·.q)).sum
def sumB' (l:List Po)(c:Int):Int:=((l.filter λp=>decide (p.c=c)).map (·.b)).sum
theorem sumQ_app(l l' :List Po)(c:Int):sumQ' (l++l') c=sumQ' l c+sumQ' l' c:=by simp[sumQ']
theorem sumB_app(l l' :List Po)(c:Int):sumB' (l++l') c=sumB' l c+sumB' l' c:=by simp[sumB']
theorem sumQ_one(p:Po)(c:Int):sumQ' [p] c=if p.c=c then p.q else 0:=by
 unfold sumQ'
 by_cases h:p.c=c
 ·rw[if_pos h,List.filter_cons_of_pos (by simpa using h)];simp
 ·rw[if_neg h,List.filter_cons_of_neg (by simpa using h)];simp
theorem sumB_one(p:Po)(c:Int):sumB' [p] c=if p.c=c then p.b else 0:=by
 unfold sumB'
 by_cases h:p.c=c
 ·rw[if_pos h,List.filter_cons_of_pos (by simpa using h)];simp
 ·rw[if_neg h,List.filter_cons_of_neg (by simpa using h)];simp
theorem sum_none{l:List Po}{c:Int}(h:∀p∈l,p.c≠c):sumQ' l c=0∧sumB' l c=0:=by
 have:l.filter (λp=>decide (p.c=c))=[]:=List.filter_eq_nil_iff.2 λp hp=>by simpa using h p hp
 simp[sumQ',sumB',this]
structure GoodP(A:List Ac)(p:Po):Prop where
 c:p.c≠0
 a:p.a≠0
 there:∃x∈A,x.num=p.a
 some:p.isZ=false
 q:amongB p.q (-MP) MP=true
 b:amongB p.b (-MF) MF=true
structure PA(A:List Ac):Prop where
 srt:SortA A
 num:∀a∈A,0<a.num∧amongB a.cash 0 MF=true
structure FromOk(f:Int)(A:List Ac)(P:List Po):Prop where
 len:A.length≤64
 fund:amongB f 0 MF=true
 pa:PA A
 tot:f+(A.map (·.cash)).sum≤MF
 srt:SortP P
 good:∀p∈P,GoodP A p
 zero:∀c,sumQ' P c=0∧sumB' P c=0
theorem amongB_iff' {n lo hi:Int}:amongB n lo hi=true↔lo≤n∧n≤hi:=by simp[amongB]
theorem FromOk.ok{f:Int}{A:List Ac}{P:List Po}(h:FromOk f A P)(hA:∀a∈A,0≤a.num∧a.num<4294967296)(hP:∀p∈P,0≤p.c∧p.c<4294967296):(Led.mk f A P).Ok where
 fund:=amongB_iff'.1 h.fund
 sa:=h.pa.srt
 sp:=h.srt
 len:=h.len
 acc:=λa ha=>⟨(h.pa.num a ha).1,(hA a ha).2,amongB_iff'.1 (h.pa.num a ha).2⟩
 pos:=λp hp=>by
  have g:=h.good p hp
  have u:=hP p hp
  have h1:=amongB_iff'.1 g.q
  have h2:=amongB_iff'.1 g.b
  exact⟨by have:=g.c;have:=u.1;omega,u.2,g.some,h1.1,h1.2,h2.1,h2.2,g.there⟩
theorem pw_take{α:Type}{R:α→α→Prop}{l:List α}(h:l.Pairwise R){i:Nat}(hi:i<l.length){b:α}(hb:b∈l.take i):R b l[i]:=by
 obtain⟨j,hj,rfl⟩:=List.getElem_of_mem hb
 rw[List.length_take]at hj
 rw[List.getElem_take]
 exact List.pairwise_iff_getElem.1 h _ _ _ _ (by omega)
structure AInv(pre:List Ac)(last:Int):Prop where
 pa:PA pre
 top:∀a∈pre,a.num≤last
 hit:(pre=[]∧last=0)∨∃a∈pre,a.num=last
theorem AInv.nil:AInv [] 0:=⟨⟨List.Pairwise.nil,by simp⟩,by simp,.inl ⟨rfl,rfl⟩⟩
theorem AInv.pos{pre:List Ac}{last:Int}(h:AInv pre last):0≤last:=by
 rcases h.hit with⟨-,rfl⟩|⟨a,ha,rfl⟩
 ·exact Int.le_refl _
 ·have:=(h.pa.num a ha).1;omega
theorem AInv.step{pre:List Ac}{last:Int}(h:AInv pre last){a:Ac}(h1:last<a.num)(h2:amongB a.cash 0 MF=true):AInv (pre++[a]) a.num:=by
 have h0:=h.pos
 refine⟨⟨List.pairwise_append.2 ⟨h.pa.srt,List.pairwise_singleton ..,λx hx y hy=>?_⟩,λx hx=>?_⟩,λx hx=>?_,.inr ⟨a,by simp,rfl⟩⟩
 ·rw[List.mem_singleton]at hy;subst hy
  have:=h.top x hx;omega
 ·rcases List.mem_append.1 hx with hx|hx
  ·exact h.pa.num x hx
  ·rw[List.mem_singleton]at hx;subst hx;exact⟨by omega,h2⟩
 ·rcases List.mem_append.1 hx with hx|hx
  ·have:=h.top x hx;omega
  ·rw[List.mem_singleton]at hx;subst hx;omega
theorem AInv.bad{A:List Ac}{i:Nat}(hi:i<A.length){last:Int}(h:AInv (A.take i) last)(hb:A[i].num≤last∨amongB A[i].cash 0 MF=false):¬PA A:=by
 intro hp
 have hm:=hp.num A[i] (List.getElem_mem hi)
 rcases hb with hb|hb
 ·rcases h.hit with⟨-,rfl⟩|⟨a,ha,rfl⟩
  ·omega
  ·have:a.num<A[i].num:=pw_take hp.srt hi ha
   omega
 ·rw[hm.2]at hb;cases hb
structure PInv(pre:List Po)(lc la q b:Int):Prop where
 srt:SortP pre
 top:∀p∈pre,klt (lc,la) p.key=false
 hit:(pre=[]∧lc=0∧la=0)∨∃p∈pre,p.key=(lc,la)
 q:q=sumQ' pre lc
 b:b=sumB' pre lc
 oth:∀c,c≠lc→sumQ' pre c=0∧sumB' pre c=0
theorem PInv.nil:PInv [] 0 0 0 0:=⟨List.Pairwise.nil,by simp,.inl ⟨rfl,rfl,rfl⟩,rfl,rfl,λ_ _=>⟨rfl,rfl⟩⟩
theorem klt_of_le{x y z:Int×Int}(h:klt y x=false)(h' :klt y z=true):klt x z=true:=by
 rcases klt_tri y x with h1|h1|h1
 ·rw[h1]at h;cases h
 ·rw[←h1];exact h'
 ·exact klt_trans h1 h'
theorem PInv.step{pre:List Po}{lc la q b:Int}(h:PInv pre lc la q b){p:Po}(h1:klt (lc,la) p.key=true)(h2:p.c≠lc→q=0∧b=0):PInv (pre++[p]) p.c p.a (q+p.q) (b+p.b):=by
 have hk:lc≤p.c:=by rw[klt_iff]at h1;simp only[Po.key]at h1;omega
 have hq:sumQ' pre p.c=q∧sumB' pre p.c=b:=by
  by_cases e:p.c=lc
  ·rw[e];exact⟨h.q.symm,h.b.symm⟩
  ·obtain⟨rfl,rfl⟩:=h2 e
   exact h.oth _ e
 refine⟨List.pairwise_append.2 ⟨h.srt,List.pairwise_singleton ..,λx hx y hy=>?_⟩,λx hx=>?_,.inr ⟨p,by simp,rfl⟩,?_,?_,λc hc=>?_⟩
 ·rw[List.mem_singleton]at hy;subst hy
  exact klt_of_le (h.top x hx) h1
 ·rcases List.mem_append.1 hx with hx|hx
  ·exact klt_asymm (klt_of_le (h.top x hx) h1)
  ·rw[List.mem_singleton]at hx;subst hx;exact klt_irr
 ·rw[sumQ_app,sumQ_one,if_pos rfl,hq.1]
 ·rw[sumB_app,sumB_one,if_pos rfl,hq.2]
 ·rw[sumQ_app,sumB_app,sumQ_one,sumB_one,if_neg (Ne.symm hc),if_neg (Ne.symm hc)]
  by_cases e:c=lc
  ·obtain⟨rfl,rfl⟩:=h2 (λe' =>hc (e.trans e'.symm))
   rw[e,←h.q,←h.b];exact⟨rfl,rfl⟩
  ·have:=h.oth c e
   rw[this.1,this.2];exact⟨rfl,rfl⟩
theorem PInv.done{P:List Po}{lc la:Int}(h:PInv P lc la 0 0)(c:Int):sumQ' P c=0∧sumB' P c=0:=by
 by_cases e:c=lc
 ·rw[e];exact⟨h.q.symm,h.b.symm⟩
 ·exact h.oth c e
theorem PInv.bad_end{P:List Po}{lc la q b:Int}(h:PInv P lc la q b)(hb:q≠0∨b≠0):¬∀c,sumQ' P c=0∧sumB' P c=0:=by
 intro hz
 have:=hz lc
 rw[←h.q,←h.b]at this
 omega
theorem PInv.bad_sum{P:List Po}{i:Nat}(hi:i<P.length){lc la q b:Int}(h:PInv (P.take i) lc la q b)(hc:P[i].c≠lc)(hb:q≠0∨b≠0):¬(SortP P∧∀c,sumQ' P c=0∧sumB' P c=0):=by
 rintro⟨hs,hz⟩
 rcases h.hit with⟨e,-,-⟩|⟨x,hx,ex⟩
 ·have h1:=h.q
  have h2:=h.b
  rw[e]at h1 h2
  rcases hb with hb|hb
  ·exact hb h1
  ·exact hb h2
 ·have hlt:klt x.key P[i].key=true:=pw_take hs hi hx
  rw[ex,klt_iff]at hlt
  simp only[Po.key]at hlt
  have hd:∀p∈P.drop i,p.c≠lc:=by
   intro p hp
   obtain⟨j,hj,rfl⟩:=List.getElem_of_mem hp
   rw[List.getElem_drop]
   rw[List.length_drop]at hj
   by_cases hj0:j=0
   ·subst hj0;exact hc
   ·have:=List.pairwise_iff_getElem.1 hs i (i+j) hi (by omega) (by omega)
    rw[klt_iff]at this
    simp only[Po.key]at this
    omega
  have hn:=sum_none hd
  have:=hz lc
  rw[←List.take_append_drop i P,sumQ_app,sumB_app,hn.1,hn.2,←h.q,←h.b]at this
  omega
theorem PInv.bad_key{A:List Ac}{P:List Po}{i:Nat}(hi:i<P.length){lc la q b:Int}(h:PInv (P.take i) lc la q b)(hu:0≤P[i].c∧0≤P[i].a)(hk:klt (lc,la) P[i].key=false):¬(SortP P∧∀p∈P,GoodP A p):=by
 rintro⟨hs,hg⟩
 have g:=hg P[i] (List.getElem_mem hi)
 rcases h.hit with⟨-,rfl,rfl⟩|⟨x,hx,ex⟩
 ·rw[Bool.eq_false_iff,Ne,klt_iff]at hk
  simp only[Po.key]at hk
  have:=g.c
  omega
 ·have hlt:klt x.key P[i].key=true:=pw_take hs hi hx
  rw[ex,hk]at hlt;cases hlt
theorem sum_bd2{l:List Int}{B:Int}(h:∀x∈l,-B≤x∧x≤B): -(B*l.length)≤l.sum∧l.sum≤B*l.length:=by
 induction l with
 |nil=>simp
 |cons x l ih=>
  have h1:=h x List.mem_cons_self
  have h2:=ih λy hy=>h y (List.mem_cons_of_mem _ hy)
  have e:B*((x::l).length:Int)=B*l.length+B:=by
   simp only[List.length_cons,Int.natCast_add,Int.natCast_one,Int.mul_add,Int.mul_one]
  rw[e]
  simp only[List.sum_cons]
  omega
theorem sum_bdQ{P:List Po}{A:List Ac}(hg:∀p∈P,GoodP A p)(hl:P.length≤1024)(c:Int):(-10240000000≤sumQ' P c∧sumQ' P c≤10240000000)∧(-1024000000000000000≤sumB' P c∧sumB' P c≤1024000000000000000):=by
 have hm:∀p∈P.filter (λp=>decide (p.c=c)),GoodP A p:=λp hp=>hg p (List.mem_filter.1 hp).1
 have hl' :=List.length_filter_le (λp:Po=>decide (p.c=c)) P
 unfold sumQ' sumB'
 generalize P.filter (λp=>decide (p.c=c))=L at hm hl'
 have h1:=sum_bd2 (l:=L.map (·.q)) (B:=10000000) λx hx=>by
  obtain⟨p,hp,rfl⟩:=List.mem_map.1 hx
  have:=amongB_iff'.1 (hm p hp).q
  simpa [MP]using this
 have h2:=sum_bd2 (l:=L.map (·.b)) (B:=1000000000000000) λx hx=>by
  obtain⟨p,hp,rfl⟩:=List.mem_map.1 hx
  have:=amongB_iff'.1 (hm p hp).b
  simpa [MF]using this
 rw[List.length_map]at h1 h2
 omega
end Go.Proofs
namespace Go.Proofs
open Go
def calUp:Int→List Ct→Bool
 |_,[]=>true
 |n,k::l=>decide (n<k.spec.num)&& (decide (1≤k.st)&& (decide (k.st≤3)&& (k.spec.isPrice k.price&& calUp k.spec.num l)))
theorem calUp_spec:∀{l:List Ct} {n:Int},calUp n l=true→(∀k∈l,n<k.spec.num∧1≤k.st∧k.st≤3∧k.spec.isPrice k.price=true)∧Rising l
 | [],n,_=>⟨λk hk=>(by cases hk),List.Pairwise.nil⟩
 |k::l,n,h=>by
  unfold calUp at h
  simp only[Bool.and_eq_true,decide_eq_true_eq]at h
  obtain⟨h1,h2,h3,h4,h5⟩:=h
  obtain⟨h6,h7⟩:=calUp_spec h5
  refine⟨λx hx=>?_,List.pairwise_cons.2 ⟨λx hx=>(h6 x hx).1,h7⟩⟩
  rcases List.mem_cons.1 hx with rfl|hx
  ·exact⟨h1,h2,h3,h4⟩
  ·have:=h6 x hx
   exact⟨by omega,this.2⟩
def Led.stB(L:Led)(a:Int):Bool:=match L.getO a with|some x=> !x.dfl&& !x.kil|none=>false
def Ven.stnd(S:Ven)(lots:Bool)(U:List Int)(x:Int×Od):Bool:=
 decide (calAlive S.cal.l x.1=0)&& (S.led.stB x.2.acct&& (x.2.may&& ((calGetR S.cal.l x.1).1.spec.isPrice x.2.price&& ((!lots||(calGetR S.cal.l x.1).1.spec.isQty x.2.left)&& (decide (x.2.num<S.next)&& !U.contains x.2.num)))))
def fillO:List (Int×Od)→List Int→Ven→Option (List Int×Ven)
 | [],U,S=>some (U,S)
 |x::l,U,S=>
  if S.stnd true U x=false then none
  else if(bkPlace (S.bk x.1) x.2 4).1≠0∨(bkPlace (S.bk x.1) x.2 4).2.2.gone≠ []then none
  else fillO l (x.2.num::U) {S with bk:=upd S.bk x.1 (bkPlace (S.bk x.1) x.2 4).2.1}
def fillB:List (Int×Od)→Option Int→Int→List Int→Ven→Option Ven
 | [],pc,n,U,S=>some S
 |x::l,pc,n,U,S=>
  if S.stnd false U x=false then none
  else if x.2.num≤(if pc≠none∧pc≠some x.1 then 0 else n)then none
  else if 50≤(S.bd x.1).length then none
  else fillB l (some x.1) x.2.num (x.2.num::U) {S with bd:=upd S.bd x.1 (S.bd x.1++[x.2])}
def ven0(s:Sta):Ven:=⟨⟨s.day,s.cts⟩,⟨s.fund,s.accts,s.poss⟩,λ_=>Bk.empty,λ_=>[],s.next⟩
structure From0(s:Sta):Prop where
 len:s.cts.length≤16
 cts:calUp 0 s.cts=true
 led:FromOk s.fund s.accts s.poss
 next:1≤s.next∧s.next≤maxNum+1
 poss:∀p∈s.poss,calAlive s.cts p.c=0
def fillR(s:Sta):Option Ven:=(fillO s.ords [] (ven0 s)).bind λx=>fillB s.bids none 0 x.1 x.2
open Classical in
noncomputable def fromR (s:Sta):Option Ven:=
 if From0 s then(fillR s).bind λS=>if S.state.ords=s.ords∧S.state.bids=s.bids then some S else none else none
structure Sta.Fit(s:Sta):Prop where
 day:U32' s.day
 next:U64' s.next
 fund:R64' s.fund
 accts:∀a∈s.accts,U32' a.num∧R64' a.cash
 cts:∀k∈s.cts,k.Fit
 poss:∀p∈s.poss,(U32' p.c∧U32' p.a)∧R64' p.q∧R64' p.b
 ords:∀x∈s.ords,U32' x.1∧x.2.Fit
 bids:∀x∈s.bids,U32' x.1∧x.2.Fit
theorem from_cal{s:Sta}(h:From0 s)(hf:s.Fit):(ven0 s).cal.Ok:=by
 obtain⟨h1,h2⟩:=calUp_spec h.cts
 refine⟨h.len,hf.day,λk hk=>?_,h2⟩
 obtain⟨a1,a2,a3,a4⟩:=h1 k hk
 refine⟨hf.cts k hk,?_,a4,a2,a3⟩
 unfold Sp.isPrice at a4
 exact(Bool.and_eq_true _ _▸a4).1
theorem sumF_eqQ(P:List Po)(c:Int):sumF (gq c) P=sumQ' P c∧sumF (gb c) P=sumB' P c:=by
 induction P with
 |nil=>exact⟨rfl,rfl⟩
 |cons p P ih=>
  have e1:sumQ' (p::P) c=sumQ' [p] c+sumQ' P c:=by rw[←sumQ_app];rfl
  have e2:sumB' (p::P) c=sumB' [p] c+sumB' P c:=by rw[←sumB_app];rfl
  rw[e1,e2,sumQ_one,sumB_one,←ih.1,←ih.2]
  constructor<;>simp only[sumF,gq,gb,List.map_cons,List.sum_cons]
theorem from_ok{s:Sta}(h:From0 s)(hf:s.Fit):(ven0 s).Ok:=by
 refine⟨from_cal h hf,⟨h.led.ok (λa ha=>(hf.accts a ha).1) (λp hp=>(hf.poss p hp).1.1),h.poss,λc=>?_⟩,⟨λn _=>rfl,λn d=>⟨by show(0:Nat)≤100;omega,λo ho=>(by cases ho)⟩,λn o ho=>(by cases ho),λn=>List.nodup_nil,λn m o o' ho=>(by cases ho),λn=>(by show(0:Nat)≤50;omega)⟩,h.next,h.led.tot⟩
 show sumF (gq c) s.poss=0∧sumF (gb c) s.poss=0
 have:=sumF_eqQ s.poss c
 rw[this.1,this.2]
 exact h.led.zero c
structure Stnd(S:Ven)(U:List Int)(x:Int×Od):Prop where
 alive:calAlive S.cal.l x.1=0
 may:x.2.may=true
 acc:S.led.Stands x.2.acct
 num:x.2.num<S.next
 new:x.2.num ∉ U
theorem stnd_ok{S:Ven}{lots:Bool}{U:List Int}{x:Int×Od}(h:S.stnd lots U x=true):Stnd S U x:=by
 unfold Ven.stnd at h
 simp only[Bool.and_eq_true,decide_eq_true_eq]at h
 obtain⟨h1,h2,h3,h4,h5,h6,h7⟩:=h
 refine⟨h1,h3,?_,h6,by simpa using h7⟩
 have ha:x.2.acct≠0:=by
  unfold Od.may at h3
  simp only[Bool.and_eq_true,decide_eq_true_eq]at h3
  exact h3.1.1.2
 unfold Led.stB at h2
 unfold Led.getO at h2
 rw[if_neg ha]at h2
 unfold Led.Stands
 cases hg:S.led.find x.2.acct with
 |none=>rw[hg]at h2;cases h2
 |some a=>
  rw[hg]at h2
  simp only[Bool.and_eq_true,Bool.not_eq_true']at h2
  exact⟨a,rfl,h2.2,h2.1⟩
structure FillI(S0 S:Ven)(U:List Int):Prop where
 ok:S.Ok
 cal:S.cal=S0.cal
 led:S.led=S0.led
 next:S.next=S0.next
 nums:∀n,∀o∈S.ords n,o.num∈U
theorem FillI.fresh{S0 S:Ven}{U:List Int}(h:FillI S0 S U){x:Int×Od}(hx:Stnd S U x):∀m,∀y∈S.ords m,y.num≠x.2.num:=λm y hy e=>hx.new (e▸h.nums m y hy)
theorem FillI.order{S0 S:Ven}{U:List Int}(h:FillI S0 S U){x:Int×Od}(hx:Stnd S U x)(hf:x.2.Fit)(he:(bkPlace (S.bk x.1) x.2 4).1=0):
  FillI S0 {S with bk:=upd S.bk x.1 (bkPlace (S.bk x.1) x.2 4).2.1} (x.2.num::U):=by
 obtain⟨e,hm,-⟩:=place_0 he
 rw[e]
 have hO:=come_addBk h.ok.ord (n:=x.1) (o:=x.2) (rests:=decide ((4:Int)=1∨(4:Int)=4)) (nx:=S.next) hx.alive hx.may hf hx.num hx.acc (h.fresh hx) (Int.le_refl _)
 have hc:=come_ok (B:=S.bk x.1) (o:=x.2) (rests:=decide ((4:Int)=1∨(4:Int)=4)) (h.ok.ord.bkMay x.1) hm
 refine⟨⟨h.ok.cal,h.ok.led,hO,h.ok.next,h.ok.fnd⟩,h.cal,h.led,h.next,λn o ho=>?_⟩
 rcases mem_ords ho with⟨d,h1⟩|h1
 ·replace h1:o∈upd S.bk x.1 (bkCome (S.bk x.1) x.2 (decide ((4:Int)=1∨(4:Int)=4))).1 n d:=h1
  by_cases hn:n=x.1
  ·subst hn
   rw[upd_self]at h1
   by_cases hd:d=x.2.buy
   ·subst hd
    rcases hc.own with h2|⟨-,h2,-⟩
    ·rw[h2]at h1;exact List.mem_cons_of_mem _ (h.nums _ o (mem_bk h1))
    ·rw[h2]at h1
     rcases List.mem_cons.1 ((sdIns_perm _ _ _).mem_iff.1 h1)with rfl|h3
     ·exact List.mem_cons_self
     ·exact List.mem_cons_of_mem _ (h.nums _ o (mem_bk h3))
   ·obtain rfl:d= !x.2.buy:=by cases d<;>cases hb:x.2.buy<;>simp_all
    obtain⟨o0,h3,h4⟩:=hc.opp.mem h1
    rw[←key_num h4]
    exact List.mem_cons_of_mem _ (h.nums _ o0 (mem_bk h3))
  ·rw[upd_ne _ _ _ hn]at h1
   exact List.mem_cons_of_mem _ (h.nums n o (mem_bk h1))
 ·exact List.mem_cons_of_mem _ (h.nums n o (mem_bd h1))
theorem FillI.bid{S0 S:Ven}{U:List Int}(h:FillI S0 S U){x:Int×Od}(hx:Stnd S U x)(hf:x.2.Fit)(hl:(S.bd x.1).length<50):
  FillI S0 {S with bd:=upd S.bd x.1 (S.bd x.1++[x.2])} (x.2.num::U):=by
 have hO:=h.ok.ord.addBd (n:=x.1) (x:=x.2) (nx:=S.next) hx.alive hx.may hf hx.num hx.acc (h.fresh hx) hl (Int.le_refl _)
 refine⟨⟨h.ok.cal,h.ok.led,hO,h.ok.next,h.ok.fnd⟩,h.cal,h.led,h.next,λn o ho=>?_⟩
 rcases mem_ords ho with⟨d,h1⟩|h1
 ·exact List.mem_cons_of_mem _ (h.nums n o (mem_bk h1))
 ·replace h1:o∈upd S.bd x.1 (S.bd x.1++[x.2]) n:=h1
  by_cases hn:n=x.1
  ·subst hn
   rw[upd_self]at h1
   rcases List.mem_append.1 h1 with h2|h2
   ·exact List.mem_cons_of_mem _ (h.nums _ o (mem_bd h2))
   ·rw[List.mem_singleton.1 h2];exact List.mem_cons_self
  ·rw[upd_ne _ _ _ hn]at h1
   exact List.mem_cons_of_mem _ (h.nums n o (mem_bd h1))
theorem FillI.zero{s:Sta}(h:From0 s)(hf:s.Fit):FillI (ven0 s) (ven0 s) []:=⟨from_ok h hf,rfl,rfl,rfl,λn o ho=>(by cases ho)⟩
def sta0:Sta:=⟨0,1,0,[],[],[],[],[]⟩
theorem fromR_sta0:fromR sta0=some Ven.empty:=by
 have h0:From0 sta0:=⟨by decide,rfl,⟨by decide,by decide,⟨List.Pairwise.nil,λa ha=>(by cases ha)⟩,by decide,List.Pairwise.nil,λa ha=>(by cases ha),λc=>⟨rfl,rfl⟩⟩,⟨by decide,by decide⟩,λp hp=>(by cases hp)⟩
 unfold fromR
 rw[if_pos h0]
 have:fillR sta0=some Ven.empty:=rfl
 rw[this,Option.bind_some]
 exact if_pos ⟨rfl,rfl⟩
end Go.Proofs
namespace Go.Proofs
open Go Go.Vc
attribute [local congr] Ca_congV
abbrev StaR(w:World)(ss:Nat→Value)(s:Sta):Prop:=∀i,3≤i→i≤7→Rd w (stK i) (ss i) (LN s.accts s.cts s.poss s.ords s.bids i) (LC s.accts s.cts s.poss s.ords s.bids i)
def staV(s:Sta)(ss:Nat→Value):Value:=stV s.day s.next s.fund ss
theorem StaR.md0{w w' :World}{ss:Nat→Value}{s:Sta}(h:StaR w ss s)(m:Mod (λ_=>False) w w'):StaR w' ss s:=λi h1 h2=>(h i h1 h2).mod m λ_ _ h=>h
theorem StaR.sl{w:World}{ss:Nat→Value}{s:Sta}(h:StaR w ss s):∀i,3≤i→i≤7→∃a n c,ss i=.slice a n c:=λi h1 h2=>by
 obtain⟨a,c,e⟩:=(h i h1 h2).isSl
 exact⟨a,_,c,e⟩
theorem StaR.accts{w:World}{ss:Nat→Value}{s:Sta}(h:StaR w ss s):Rd w 4 (ss 3) s.accts.length (s.accts.flatMap cellsAc):=h 3 (by omega) (by omega)
theorem StaR.cts{w:World}{ss:Nat→Value}{s:Sta}(h:StaR w ss s):Rd w 27 (ss 4) s.cts.length (s.cts.flatMap ctC):=h 4 (by omega) (by omega)
theorem StaR.poss{w:World}{ss:Nat→Value}{s:Sta}(h:StaR w ss s):Rd w 4 (ss 5) s.poss.length (s.poss.flatMap cellsPo):=h 5 (by omega) (by omega)
theorem StaR.ords{w:World}{ss:Nat→Value}{s:Sta}(h:StaR w ss s):Rd w 6 (ss 6) s.ords.length (s.ords.flatMap sdOC):=h 6 (by omega) (by omega)
theorem StaR.bids{w:World}{ss:Nat→Value}{s:Sta}(h:StaR w ss s):Rd w 6 (ss 7) s.bids.length (s.bids.flatMap sdOC):=h 7 (by omega) (by omega)
abbrev StBlk(w:World)(b:Nat)(d nx fu:Int)(ss:Nat→Value):Prop:=hp w b=some (.cells (stC d nx fu ss).toArray tSt (0,0))
theorem boxStI(d nx fu:Int)(ss:Nat→Value)(w:World):∃w1,(Instr.box tSt (stV d nx fu ss)).run Tryz.prog w=.ok (.pointer (some ⟨w.heap.size,0,none⟩)) w1∧StBlk w1 w.heap.size d nx fu ss∧Mod (λ_=>False) w w1:=
 ⟨w.alloc (.cells (stC d nx fu ss).toArray tSt),rfl,by show hp _ _=_;simp[go_sem],(Mod.refl _ w).alloc _⟩
theorem stLdI{w:World}{b:Nat}{d nx fu:Int}{ss:Nat→Value}(h:StBlk w b d nx fu ss)(hs:∀i,3≤i→i≤7→∃a n c,ss i=.slice a n c)(i:Nat)(hi:3≤i)(hj:i≤7):(Instr.loadAt (stS i) (.pointer (some ⟨b,i,none⟩))).run Tryz.prog w=.ok (ss i) w:=by
 have h' :hp w b=some (.cells (stC d nx fu ss).toArray tSt (0,0)):=h
 obtain⟨a,n,c,e⟩:=hs i hi hj
 have:i=3∨i=4∨i=5∨i=6∨i=7:=by omega
 rcases this with rfl|rfl|rfl|rfl|rfl<;>(simp only[stS];rw[e];simp only[stC]at h';rw[e]at h';simp[go_sem,h'])
theorem stLdN{w:World}{b:Nat}{d nx fu:Int}{ss:Nat→Value}(h:StBlk w b d nx fu ss):(Instr.loadAt 35 (.pointer (some ⟨b,0,none⟩))).run Tryz.prog w=.ok (.int .u32 d) w∧(Instr.loadAt 27 (.pointer (some ⟨b,1,none⟩))).run Tryz.prog w=.ok (.int .u64 nx) w∧(Instr.loadAt 2 (.pointer (some ⟨b,2,none⟩))).run Tryz.prog w=.ok (.int .i64 fu) w:=by
 have h' :hp w b=some (.cells (stC d nx fu ss).toArray tSt (0,0)):=h
 simp only[stC]at h'
 exact⟨by simp[go_sem,h'],by simp[go_sem,h'],by simp[go_sem,h']⟩
set_option maxRecDepth 10000 in
theorem stSetN{w:World}{b:Nat}{d nx fu:Int}{ss:Nat→Value}(h:StBlk w b d nx fu ss):
  (∀x,∃w',(Instr.storeAt 35 (.pointer (some ⟨b,0,none⟩)) (.int .u32 x)).run Tryz.prog w=.ok () w' ∧StBlk w' b x nx fu ss∧Mod (λy=>y=b) w w')∧
  (∀x,∃w',(Instr.storeAt 27 (.pointer (some ⟨b,1,none⟩)) (.int .u64 x)).run Tryz.prog w=.ok () w' ∧StBlk w' b d x fu ss∧Mod (λy=>y=b) w w')∧
  (∀x,∃w',(Instr.storeAt 2 (.pointer (some ⟨b,2,none⟩)) (.int .i64 x)).run Tryz.prog w=.ok () w' ∧StBlk w' b d nx x ss∧Mod (λy=>y=b) w w'):=by
 have h' :hp w b=some (.cells (stC d nx fu ss).toArray tSt (0,0)):=h
 simp only[stC]at h'
 refine⟨λx=>⟨w.setCell ⟨b,0,none⟩ (.int .u32 x),?_,?_,?_⟩,λx=>⟨w.setCell ⟨b,1,none⟩ (.int .u64 x),?_,?_,?_⟩,λx=>⟨w.setCell ⟨b,2,none⟩ (.int .i64 x),?_,?_,?_⟩⟩
 all_goals first|exact(Mod.refl (λy=>y=b) w).setCell (.inl rfl) _ _|(show hp _ _=_;simp[go_sem,h',stC])|simp[go_sem,h']
set_option maxRecDepth 10000 in
theorem stSetI{w:World}{b:Nat}{d nx fu:Int}{ss:Nat→Value}(h:StBlk w b d nx fu ss)(hs:∀i,3≤i→i≤7→∃a n c,ss i=.slice a n c)(i:Nat)(hi:3≤i)(hj:i≤7){s' :Value}(hs' :∃a n c,s' =.slice a n c):
  ∃w',(Instr.storeAt (stS i) (.pointer (some ⟨b,i,none⟩)) s').run Tryz.prog w=.ok () w' ∧StBlk w' b d nx fu (updN ss i s')∧Mod (λy=>y=b) w w' :=by
 have h' :hp w b=some (.cells (stC d nx fu ss).toArray tSt (0,0)):=h
 obtain⟨a0,n0,c0,hs0⟩:=hs i hi hj
 obtain⟨a,n,c,hs'⟩:=hs'
 have:i=3∨i=4∨i=5∨i=6∨i=7:=by omega
 refine⟨w.setCell ⟨b,i,none⟩ s',?_,?_,(Mod.refl (λy=>y=b) w).setCell (.inl rfl) _ _⟩
 ·rcases this with rfl|rfl|rfl|rfl|rfl<;>(simp only[stC]at h';rw[hs0]at h';simp only[stS];rw[hs'];simp[go_sem,h'])
 ·show hp _ _=_
  rcases this with rfl|rfl|rfl|rfl|rfl<;>(simp only[stC]at h';rw[hs0]at h';rw[hs'];simp[go_sem,h',stC,updN])
theorem updN_sl{ss:Nat→Value}(hs:∀i,3≤i→i≤7→∃a n c,ss i=.slice a n c)(i:Nat){s' :Value}(hs' :∃a n c,s' =.slice a n c):∀j,3≤j→j≤7→∃a n c,updN ss i s' j=.slice a n c:=λj h1 h2=>by
 unfold updN
 split
 ·exact hs'
 ·exact hs j h1 h2
theorem ss0_sl:∀i,3≤i→i≤7→∃a n c,ss0 nilV i=.slice a n c:=λi _ _=>by
 unfold ss0 nilV
 split<;>exact⟨_,_,_,rfl⟩
theorem bldSt0(W:World):(Instr.build tSt #[]).run Tryz.prog W=.ok (stV 0 0 0 (ss0 nilV)) W:=by
 simp[go_sem,stV,stC,ss0,nilV]
end Go.Proofs
