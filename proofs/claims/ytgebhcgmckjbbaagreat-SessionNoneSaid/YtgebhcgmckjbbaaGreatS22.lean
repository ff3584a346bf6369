/- Part of a proof. -/
import Derived.Test.YtgebhcgmckjbbaaGreatS21
set_option linter.all false
namespace Go.Proofs
open Go Go.Vc
attribute [local congr] Ca_congV
def posT(S:Ven)(i:Nat):List Po:=(S.nums.take i).flatMap S.led.holders
def ordT(S:Ven)(i:Nat):List (Int×Od):=(S.nums.take i).flatMap λn=>(S.bk n).all.map λo=>(n,o)
def bidT(S:Ven)(i:Nat):List (Int×Od):=(S.nums.take i).flatMap λn=>(S.bd n).map λo=>(n,o)
theorem numT{S:Ven}{i:Nat}(hi:i<S.cal.l.length):S.nums.take (i+1)=S.nums.take i++[S.cal.l[i].spec.num]:=by
 have hl:i<S.nums.length:=by unfold Ven.nums;rw[List.length_map];exact hi
 rw[take_succ' hl]
 simp[Ven.nums]
theorem posT_len{S:Ven}(h:S.led.Ok)(i:Nat):(posT S i).length≤64*i:=by
 unfold posT
 induction i with
 |zero=>simp
 |succ i ih=>
  by_cases hi:i<S.nums.length
  ·rw[take_succ' hi,List.flatMap_append,List.length_append]
   have:=holders_len h S.nums[i]
   simp only[List.flatMap_cons,List.flatMap_nil,List.append_nil]
   omega
  ·rw[List.take_of_length_le (by omega)]
   rw[List.take_of_length_le (by omega)]at ih
   omega
theorem ordT_len{S:Ven}(h:OkO S)(i:Nat):(ordT S i).length≤200*i:=by
 unfold ordT
 induction i with
 |zero=>simp
 |succ i ih=>
  by_cases hi:i<S.nums.length
  ·rw[take_succ' hi,List.flatMap_append,List.length_append]
   have h1:=(h.side S.nums[i] true).1
   have h2:=(h.side S.nums[i] false).1
   have h3:((S.bk S.nums[i]).all.map λo=>(S.nums[i],o)).length≤200:=by
    rw[List.length_map];unfold Bk.all;rw[List.length_append];omega
   simp only[List.flatMap_cons,List.flatMap_nil,List.append_nil]
   omega
  ·rw[List.take_of_length_le (by omega)]
   rw[List.take_of_length_le (by omega)]at ih
   omega
theorem bidT_len{S:Ven}(h:OkO S)(i:Nat):(bidT S i).length≤50*i:=by
 unfold bidT
 induction i with
 |zero=>simp
 |succ i ih=>
  by_cases hi:i<S.nums.length
  ·rw[take_succ' hi,List.flatMap_append,List.length_append]
   have h1:=h.bdl S.nums[i]
   simp only[List.flatMap_cons,List.flatMap_nil,List.append_nil,List.length_map]
   omega
  ·rw[List.take_of_length_le (by omega)]
   rw[List.take_of_length_le (by omega)]at ih
   omega
section
variable{w:World}{K:Kont}{v c l mb md:Nat}{A:List (Int×Nat)}{D:List (Int×Value)}{fp:Pt→Nat→Prop}{S:Ven}
set_option maxRecDepth 10000 in
set_option maxHeartbeats 8000000 in
theorem ca_vstate(h:VenR w v c l mb md A D fp S)(hok:S.Ok)
  (hK:∀ss b lo w',SB w' b S.cal.day S.next S.led.fund ss S.led.all S.cal.l (S.nums.flatMap S.led.holders) (S.nums.flatMap λn=>(S.bk n).all.map λo=>(n,o)) (S.nums.flatMap λn=>(S.bd n).map λo=>(n,o)) lo→w.heap.size≤lo→Mod (λ_=>False) w w' →w.heap.size≤b→K (stV S.cal.day S.next S.led.fund ss) w'):
  Ca Tryz.prog 14 #[vptr v] w K:=by
 apply ca14
 unfold F14
 obtain⟨n0,hn0⟩:∃n0,n0=w.heap.size:=⟨_,rfl⟩
 have hlay:∃w1,w.alloc (.cells #[vptr v] 23)=w1∧w1.heap.size=n0+1∧Mod (λ_=>False) w w1∧hp w1 n0=some (.cells #[vptr v] 23 (0,0)):=by
  refine⟨_,rfl,by simp[go_sem,hn0],(Mod.refl _ w).alloc _,?_⟩
  simp[go_sem,hn0]
 obtain⟨w1,hw1,hsz1,m1,b1⟩:=hlay
 refine rvS (v:=.pointer (some ⟨n0,0,none⟩)) (w' :=w1) (by rw[←hw1,hn0];rfl) ?_
 clear hw1
 obtain⟨w2,e2,b2,m2⟩:=newSt w1
 refine rvS e2 ?_
 obtain⟨p2,hp2⟩:∃p2,p2=n0+1:=⟨_,rfl⟩
 rw[hsz1,←hp2]at b2⊢
 have hp2l:p2<w2.heap.size:=lt_of_heap b2
 have M2:=m1.trans m2
 have h2:=h.md0 M2
 have g0:=m2.hpk b1 id
 have lv0:∀{W},hp W n0=some (.cells #[vptr v] 23 (0,0))→(Instr.loadAt 23 (.pointer (some ⟨n0,0,none⟩))).run Tryz.prog W=.ok (vptr v) W:=λhW=>by simp[go_sem,hW,vptr]
 refine rvS (lv0 g0) ?_
 refine ca_vready h2.blk ?_
 refine rvS (v:=.bool false) (w' :=w2) (by simp[go_sem]) ?_
 rw[ifB_bool,if_neg Bool.false_ne_true]
 refine rvS (lv0 g0) ?_
 simp only[vptr,nilK_ptr]
 refine rvS (fldV 1 (by omega) _) (rvS (ld1 _ h2.blk) ?_)
 refine ca_get h2.led λw3 m3=>?_
 have hg0:S.led.getV 0=(⟨0,S.led.fund,false,false⟩,0):=rfl
 rw[hg0]
 refine rvS (by simp[-Int.natCast_add,go_sem]<;>first|exact⟨rfl,rfl⟩|exact rfl) ?_
 refine rvS (by simp[-Int.natCast_add,go_sem]<;>first|exact⟨rfl,rfl⟩|exact rfl) ?_
 obtain⟨w4,w5,e4,e5,b5,m5⟩:=acVar ⟨0,S.led.fund,false,false⟩ w3
 obtain⟨ra,hra⟩:∃ra,ra=w3.heap.size:=⟨_,rfl⟩
 refine rvS e4 (ruS e5 ?_)
 rw[←hra]at b5⊢
 have M5:=(M2.trans m3).trans m5
 have h5:=h.md0 M5
 have g5:=m5.hpk (m3.hpk g0 id) id
 have p5:=m5.hpk (m3.hpk b2 id) id
 obtain⟨lo,hlo⟩:∃lo,lo=w5.heap.size:=⟨_,rfl⟩
 have hra5:ra<lo:=by rw[hlo];exact lt_of_heap b5
 have hp25:p2<lo:=by rw[hlo];exact lt_of_heap p5
 have hledOk:S.led.Ok:=hok.led.led
 have hal:=hledOk.len
 refine JoinW.at (λst W=>∃sb s,st=(.pointer (some ⟨sb,0,none⟩),())∧SB W sb S.cal.day S.next S.led.fund (ss0 s) S.led.all [] [] [] [] lo∧lo≤sb∧Mod (λ_=>False) w5 W) ?_ ?_
 ·have mdr:Mod (λ_=>False) w5 w5.drew:=(Mod.refl _ w5).drew
  have hsu:w5.drew.heap.size=w5.heap.size:=rfl
  have hu:=h5.md0 mdr
  have gu:=mdr.hpk g5 id
  have bu:=mdr.hpk b5 id
  generalize w5.drew=u at mdr hsu hu gu bu⊢
  have fx:∀W,Mod (λ_=>False) u W→(Instr.loadAt 2 (.pointer (some ⟨ra,1,none⟩))).run Tryz.prog W=.ok (.int .i64 S.led.fund) W∧(Instr.loadAt 27 (.pointer (some ⟨v,4,none⟩))).run Tryz.prog W=.ok (.int .u64 S.next) W∧(Instr.loadAt 23 (.pointer (some ⟨n0,0,none⟩))).run Tryz.prog W=.ok (vptr v) W∧(Instr.loadAt 62 (.pointer (some ⟨v,1,none⟩))).run Tryz.prog W=.ok (lptr l) W∧(Instr.loadAt 61 (.pointer (some ⟨v,0,none⟩))).run Tryz.prog W=.ok (cptr c) W:=λW m=>by
   have hW:=hu.md0 m
   have bW:=m.hpk bu id
   exact⟨by simp[go_sem,bW,cellsAc],ld4 _ hW.blk,lv0 (m.hpk gu id),ld1 _ hW.blk,ld0 _ hW.blk⟩
  have fin:∀(W:World) (sb:Nat) (s:Value) (K2:World→Prop),Mod (λ_=>False) u W→hp W sb=some (.cells (stC 0 0 0 (ss0 nilV)).toArray tSt (0,0))→lo≤sb→Own W 92 4 s S.led.all.length (S.led.all.flatMap cellsAc)→(∀y,inSl s y→lo≤y∧y≠sb)→
    (∀W',SB W' sb S.cal.day S.next S.led.fund (ss0 s) S.led.all [] [] [] [] lo→Mod (λ_=>False) w5 W' →K2 W')→ru Tryz.prog (Instr.storeAt tSt (.pointer (some ⟨sb,0,none⟩)) (stV S.cal.day S.next S.led.fund (ss0 s))) W K2:=by
   intro W sb s K2 m hb hsb ho hs hk
   obtain⟨sa,sc,hse,-⟩:=ho.isSl
   obtain⟨W',e',b',m'⟩:=stSt (d:=S.cal.day) (n:=S.next) (f:=S.led.fund) (ss:=ss0 s) hb rfl λi _ _=>by
    unfold ss0
    split
    ·exact⟨_,_,_,hse⟩
    ·exact⟨none,0,0,rfl⟩
   refine ruS e' (hk W' ⟨b',λi hi hj=>?_,λi j y hi1 hi2 hj1 hj2 h1 h2=>?_,λi y hi hj hy=>?_⟩ ((mdr.trans m).on m' λy hy=>.inr (by omega)))
   ·have hi' :i=3∨i=4∨i=5∨i=6∨i=7:=by omega
    rcases hi' with rfl|rfl|rfl|rfl|rfl
    ·exact ho.mod m' λy hy e=>(hs y hy).2 e
    ·exact Own.nil _ _ _
    ·exact Own.nil _ _ _
    ·exact Own.nil _ _ _
    ·exact Own.nil _ _ _
   ·unfold ss0 at h1 h2
    by_cases hi:i=3
    ·by_cases hj:j=3
     ·rw[hi,hj]
     ·rw[if_neg hj]at h2;cases h2
    ·rw[if_neg hi]at h1;cases h1
   ·unfold ss0 at hy
    by_cases hi3:i=3
    ·rw[if_pos hi3]at hy;exact hs y hy
    ·rw[if_neg hi3]at hy;cases hy
  have rU:=fx u (Mod.refl _ _)
  refine rdWS rU.2.2.1 ?_
  simp only[vptr,nilK_ptr]
  refine rdPS (fldV 0 (by omega)) (rdWS rU.2.2.2.2 ?_)
  refine rdWS rU.2.2.1 ?_
  simp only[vptr,nilK_ptr]
  refine rdPS (fldV 4 (by omega)) (rdWS rU.2.1 ?_)
  refine rdPS (v:=.pointer (some ⟨ra,1,none⟩)) (λ_=>by simp[go_sem]) (rdWS rU.1 ?_)
  refine rdWS rU.2.2.1 ?_
  simp only[vptr,nilK_ptr]
  refine rdPS (fldV 1 (by omega)) (rdWS rU.2.2.2.1 ?_)
  refine⟨?_,?_⟩
  ·refine ca_cday hu.cal ?_
   refine⟨rU.2.2.2.1,rU.2.2.1,rU.1,rU.2.1,rU.2.2.1,?_,?_⟩
   ·refine ca_accounts hu.led λgv u1 ht m1=>?_
    have r1:=fx u1 m1
    refine⟨r1.1,r1.2.1,r1.2.2.1,?_,?_⟩
    ·refine ca_collect ht.m (by omega) λs u2 o2 m2 n2=>?_
     have M:=m1.trans m2
     have r2:=fx u2 M
     refine⟨r2.1,r2.2.1,r2.2.2.1,?_⟩
     obtain⟨sa,sc,hse,-⟩:=o2.isSl
     refine rdPS (λW=>bldSt _ _ _ _ W ⟨_,_,_,hse⟩) ?_
     obtain⟨u3,e3,b3,m3'⟩:=newSt u2
     refine rvS e3 ?_
     have r3:=fx u3 (M.trans m3')
     refine⟨r3.1,r3.2.1,r3.2.2.1,?_⟩
     have hs2:=m1.size
     have hs3:=m2.size
     exact fin u3 _ s _ (M.trans m3') b3 (by omega) (o2.mod m3' λ_ _ h=>h) (λy hy=>⟨by have:=n2 y hy;omega,by have:=o2.lt hy;omega⟩) λW' hW' mW' =>⟨_,s,rfl,hW',by omega,mW'⟩
    ·obtain⟨u2,e2',b2',m2'⟩:=newSt u1
     refine rvS e2' ?_
     have r2:=fx u2 (m1.trans m2')
     refine⟨r2.1,r2.2.1,r2.2.2.1,?_⟩
     refine ca_collect (ht.m.mod m2') (by omega) λs u3 o3 m3' n3=>?_
     have M:=(m1.trans m2').trans m3'
     have r3:=fx u3 M
     refine⟨r3.1,r3.2.1,r3.2.2.1,?_⟩
     obtain⟨sa,sc,hse,-⟩:=o3.isSl
     refine rdPS (λW=>bldSt _ _ _ _ W ⟨_,_,_,hse⟩) ?_
     have hs1:=m1.size
     have hs2:=lt_of_heap b2'
     exact fin u3 _ s _ M (m3'.hpk b2' id) (by omega) o3 (λy hy=>⟨by have:=n3 y hy;omega,by have:=n3 y hy;omega⟩) λW' hW' mW' =>⟨_,s,rfl,hW',by omega,mW'⟩
   ·obtain⟨u2,e2',b2',m2'⟩:=newSt u
    refine rvS e2' ?_
    have r2:=fx u2 m2'
    refine⟨r2.2.2.2.1,r2.2.2.1,r2.1,r2.2.1,r2.2.2.1,?_⟩
    refine ca_accounts (hu.md0 m2').led λgv u1 ht m1=>?_
    have r1:=fx u1 (m2'.trans m1)
    refine⟨r1.1,r1.2.1,r1.2.2.1,?_⟩
    refine ca_collect ht.m (by omega) λs u3 o3 m3' n3=>?_
    have M:=(m2'.trans m1).trans m3'
    have r3:=fx u3 M
    refine⟨r3.1,r3.2.1,r3.2.2.1,?_⟩
    obtain⟨sa,sc,hse,-⟩:=o3.isSl
    refine rdPS (λW=>bldSt _ _ _ _ W ⟨_,_,_,hse⟩) ?_
    have hs1:=m1.size
    have hs2:=lt_of_heap b2'
    exact fin u3 _ s _ M (m3'.hpk (m1.hpk b2' id) id) (by omega) o3 (λy hy=>⟨by have:=n3 y hy;omega,by have:=n3 y hy;omega⟩) λW' hW' mW' =>⟨_,s,rfl,hW',by omega,mW'⟩
  ·obtain⟨u2,e2',b2',m2'⟩:=newSt u
   refine rvS e2' ?_
   have r2:=fx u2 m2'
   refine⟨r2.2.2.2.1,r2.2.2.1,r2.1,r2.2.1,r2.2.2.1,r2.2.2.2.2,r2.2.2.1,?_⟩
   refine ca_cday (hu.md0 m2').cal ?_
   refine⟨r2.2.2.2.1,r2.2.2.1,r2.1,r2.2.1,r2.2.2.1,?_⟩
   refine ca_accounts (hu.md0 m2').led λgv u1 ht m1=>?_
   have r1:=fx u1 (m2'.trans m1)
   refine⟨r1.1,r1.2.1,r1.2.2.1,?_⟩
   refine ca_collect ht.m (by omega) λs u3 o3 m3' n3=>?_
   have M:=(m2'.trans m1).trans m3'
   have r3:=fx u3 M
   refine⟨r3.1,r3.2.1,r3.2.2.1,?_⟩
   obtain⟨sa,sc,hse,-⟩:=o3.isSl
   refine rdPS (λW=>bldSt _ _ _ _ W ⟨_,_,_,hse⟩) ?_
   have hs1:=m1.size
   have hs2:=lt_of_heap b2'
   exact fin u3 _ s _ M (m3'.hpk (m1.hpk b2' id) id) (by omega) o3 (λy hy=>⟨by have:=n3 y hy;omega,by have:=n3 y hy;omega⟩) λW' hW' mW' =>⟨_,s,rfl,hW',by omega,mW'⟩
 rintro _ w6 ⟨sb,s,rfl,q6,hsb,m6⟩
 unfold J14_12
 intro _
 have hs6:=m6.size
 have h6:=h5.md0 m6
 have g6:=m6.hpk g5 id
 have p6:=m6.hpk p5 id
 have M6:=M5.trans m6
 refine rvS (lv0 g6) ?_
 simp only[vptr,nilK_ptr]
 refine rvS (fldV 0 (by omega) _) (rvS (ld0 _ h6.blk) ?_)
 refine ca_call h6.cal λgv w7 ht m7=>?_
 have h7:=h6.md0 m7
 have g7:=m7.hpk g6 id
 have p7:=m7.hpk p6 id
 have q7:=SB.modX q6 m7 λ_ _ h=>h
 have M7:=M6.trans m7
 have hfl:∀pt y,fp pt y→y<n0:=λpt y hy=>by rw[hn0];exact h.lt hy
 have hXlo:∀{ss:Nat→Value} {W:World} {C:List Ct} {P:List Po} {O B:List (Int×Od)},SB W sb S.cal.day S.next S.led.fund ss S.led.all C P O B lo→∀y,XS ss sb y→lo≤y:=λhh y hy=>by
  rcases hy with rfl|⟨i,hi,hj,hy⟩
  ·exact hsb
  ·exact(hh.nw i y hi hj hy).1
 have hs7:=m7.size
 have hcl:S.cal.l.length≤16:=hok.cal.len
 let I:(Nat→Prop)→Nat→World→Prop:=λX i W=>∃ss,SB W sb S.cal.day S.next S.led.fund ss S.led.all (S.cal.l.take i) (posT S i) (ordT S i) (bidT S i) lo∧∀y,X y↔XS ss sb y
 delta R14_10
 refine RF_out (X0:=XS (ss0 s) sb) (fv:=λk:Ct=>.agg (ctC k).toArray) (asg:=λx W K=>rx Tryz.prog (bigA tCt) W λv w1=>rux Tryz.prog (bigU tCt v x) w1 λw2=>K v w2) (Pv:=PvOf tCt ctC) (xs:=S.cal.l) ht hasg_ct hPv_of I (λ_ _ _=>False) ?_ (λ_ _ _ _ _ h=>h.elim) (λy hy=>q7.ltX hy) ⟨ss0 s,q7,λ_=>Iff.rfl⟩ ?_ ?_ (λ_ _ _ _ _ h=>h.elim)
 ·rintro X i W W' H ⟨ss,i1,i2⟩ hm hX
  exact⟨ss,i1.modX hm λy hy=>hX y ((i2 y).2 hy),i2⟩
 ·rintro X i hi W q vv ⟨ss,i1,i2⟩ mW hX hdq hqW ⟨rfl,gq⟩ ⟨rec0,hrec⟩ KN KJ hKN hKJ
  obtain⟨k,hk⟩:∃k,k=S.cal.l[i]:=⟨_,rfl⟩
  have hk' :k=S.cal.l[i]'hi:=hk
  rw[←hk']at gq
  obtain⟨n,hn⟩:∃n,n=k.spec.num:=⟨_,rfl⟩
  have hi16:i<16:=by have:i<S.cal.l.length:=hi;omega
  have hct:=take_succ' (l:=S.cal.l) hi
  rw[←hk']at hct
  have hnt:=numT (S:=S) hi
  have hnk:S.cal.l[i].spec.num=n:=by rw[hn,hk']
  rw[hnk]at hnt
  have hX0lo:∀y,XS (ss0 s) sb y→lo≤y:=hXlo q7
  have hW:=h7.mod mW λpt y hy hc=>by have:=hfl pt y hy;have:=hX0lo y hc;omega
  have gW:=mW.hpk g7 λhc=>by have:=hX0lo _ hc;omega
  have hlX:∀y,XS ss sb y→y<q∧y≠w7.heap.size+1∧lo≤y:=λy hy=>by
   have h1:=hX y ((i2 y).2 hy)
   refine⟨h1.1,?_,hXlo i1 y hy⟩
   rcases h1.2 with h' |h'
   ·have:=q7.ltX h';omega
   ·omega
  refine rvS (v:=.pointer (some ⟨q,0,none⟩)) (w' :=W) (by simp[go_sem]) (rvS (v:=.pointer (some ⟨q,0,none⟩)) (w' :=W) (by simp[go_sem]) ?_)
  refine rvS (v:=.int .u32 n) (w' :=W) (by simp[go_sem,gq,ctT0,hn]) ?_
  have hlay:∃W2,(W.alloc (.cells #[.int .u32 0] 35)).setCell ⟨W.heap.size,0,none⟩ (.int .u32 n)=W2∧Mod (λ_=>False) W W2∧hp W2 W.heap.size=some (.cells #[.int .u32 n] 35 (0,0)):=
   ⟨_,rfl,((Mod.refl _ W).alloc _).setCell (.inr (Nat.le_refl _)) _ _,by simp[go_sem]⟩
  obtain⟨W2,hW2,mW2,bn⟩:=hlay
  refine rvS (v:=.pointer (some ⟨W.heap.size,0,none⟩)) (w' :=W.alloc (.cells #[.int .u32 0] 35)) (by simp[go_sem]) ?_
  refine ruS (w' :=W2) (by rw[←hW2];simp[go_sem]) ?_
  clear hW2
  obtain⟨pn,hpn⟩:∃pn,pn=W.heap.size:=⟨_,rfl⟩
  rw[←hpn]at bn⊢
  have hpnl:=lt_of_heap bn
  have i3:=i1.modX mW2 λ_ _ h=>h
  have gq2:=mW2.hpk gq id
  have hV2:=hW.md0 mW2
  have g2:=mW2.hpk gW id
  have rc2:=mW2.keep (hrec:hp W _=_) id
  have hsW2:=mW2.size
  have hn0W:n0<W.heap.size:=lt_of_heap gW
  have hlW:w7.heap.size+1<W.heap.size:=by omega
  have ln:∀{W'},hp W' pn=some (.cells #[.int .u32 n] 35 (0,0))→(Instr.loadAt 35 (.pointer (some ⟨pn,0,none⟩))).run Tryz.prog W' =.ok (.int .u32 n) W' :=λhh=>by simp[go_sem,hh]
  have hnX:∀y,XS ss sb y→y≠n0∧y≠pn∧y≠w7.heap.size+1∧∀pt,¬fp pt y:=λy hy=>by
   have h1:=hlX y hy
   have h2:=i1.ltX hy
   exact⟨by omega,by omega,h1.2.1,λpt hc=>by have:=hfl pt y hc;omega⟩
  let ST:World→Prop:=λW' =>Mod (XS ss sb) W2 W'
  have keep:∀{W'},ST W' →VenR W' v c l mb md A D fp S∧hp W' n0=some (.cells #[vptr v] 23 (0,0))∧hp W' pn=some (.cells #[.int .u32 n] 35 (0,0))∧(∃r,hp W' (w7.heap.size+1)=some (.loop r)):=λm=>⟨hV2.mod m λpt y hy hc=>(hnX y hc).2.2.2 pt hy,m.hpk g2 λhc=>(hnX _ hc).1 rfl,m.hpk bn λhc=>(hnX _ hc).2.1 rfl,rec0,m.keep rc2 λhc=>(hnX _ hc).2.2.1 rfl⟩
  have sub:∀{ss' :Nat→Value} {W' W'' :World},W2.heap.size≤W'.heap.size→(∀y,XS ss' sb y→XS ss sb y∨W2.heap.size≤y)→Mod (XS ss' sb) W' W'' →ST W' →ST W'' :=by
   intro ss' W' W'' hle hs m hst
   exact Mod.on (hst:Mod (XS ss sb) W2 W') m λy hy=>hs y hy
  refine rvS (stFld W2 4 (by omega)) (rvS (i3.ld 4 (by omega) (by omega)) ?_)
  refine rx_bigS (ctC k) 26 aCt nCt (ctC_len k) (At.all gq2) ?_
  refine pushX (i:=4) (by omega) (by omega) (c:=ctC k) i3 rfl (ctC_len k) (ctC_one k) (by show(S.cal.l.take i).length≤_;rw[List.length_take];omega) (by omega) (LN4 _ _ _ _ _ k) (LC4 _ _ _ _ _ k) λss1 W3 q3 m3 n3=>?_
  have st3:ST W3:=m3
  have mdr:Mod (λ_=>False) W3 W3.drew:=(Mod.refl _ W3).drew
  have q4:=q3.modX mdr λ_ _ h=>h
  have st4:ST W3.drew:=st3.trans (mdr.mono λ_ _ h=>h.elim)
  have hs4:W3.drew.heap.size=W3.heap.size:=rfl
  generalize W3.drew=W4 at mdr q4 st4 hs4⊢
  have hs23:=st4.size
  obtain⟨hV4,g4,n4,-⟩:=keep st4
  refine rdWS (lv0 g4) ?_
  simp only[vptr,nilK_ptr]
  refine rdPS (fldV 1 (by omega)) (rdWS (ld1 _ hV4.blk) ?_)
  refine rdWS (ln n4) ?_
  refine ca_holders hV4.led (by have:=held_len hok.cal hok.led;omega) λgv5 W5 ht5 m5=>?_
  have q5:=q4.modX m5 λ_ _ h=>h
  have st5:ST W5:=st4.trans (m5.mono λ_ _ h=>h.elim)
  obtain⟨-,-,-,hrc5⟩:=keep st5
  have hs5:=st5.size
  obtain⟨H,hH⟩:∃H,H=S.led.holders n:=⟨_,rfl⟩
  rw[←hH]at ht5
  have hHl:H.length≤64:=by rw[hH];exact holders_len hledOk n
  have hpl:=posT_len hledOk i
  delta R14_8
  refine RF_in (l0:=w7.heap.size+1) (X0:=XS ss1 sb) (fv:=poV) (asg:=λx W K=>rv Tryz.prog (Instr.alloc 112 true (.tuple #[])) W λv w1=>ru Tryz.prog (Instr.storeAt 112 v x) w1 λw2=>K v w2) (Pv:=PvOf 112 cellsPo) (xs:=H) hrc5 ht5.m (hasg_small VarOk.po) hPv_of
   (λX j W' =>∃ss',SB W' sb S.cal.day S.next S.led.fund ss' S.led.all (S.cal.l.take i++[k]) (posT S i++H.take j) (ordT S i) (bidT S i) lo∧∀y,X y↔XS ss' sb y) (λ_ _ _=>False) ?_ (λ_ _ _ _ _ h=>h.elim) (λy hy=>q5.ltX hy) ⟨ss1,by rw[List.take_zero,List.append_nil];exact q5,λ_=>Iff.rfl⟩ ?_ ?_ (λ_ _ _ h=>h.elim)
  ·rintro X j W' W'' H' ⟨ss',j1,j2⟩ hm hX'
   exact⟨ss',j1.modX hm λy hy=>hX' y ((j2 y).2 hy),j2⟩
  ·rintro X j hj W6 qv vv ⟨ss',j1,j2⟩ mW6 hX6 hdq6 hqW6 ⟨rfl,gv6⟩ KN2 KJ2 hKN2 hKJ2
   have htk:=take_succ' (l:=H) hj
   have lo6:lo≤W6.heap.size:=by have:=mW6.size;omega
   refine rvS (stFld W6 5 (by omega)) (rvS (j1.ld 5 (by omega) (by omega)) ?_)
   have gv6' :=gv6
   unfold cellsPo at gv6'
   refine rvS (v:=poV H[j]) (w' :=W6) (by simp[go_sem,gv6',poV]) ?_
   refine pushX (i:=5) (by omega) (by omega) (c:=cellsPo H[j]) j1 rfl rfl rfl (by show(posT S i++H.take j).length≤_;rw[List.length_append,List.length_take];omega) lo6 (LN5 _ _ _ _ _ H[j]) (LC5 _ _ _ _ _ H[j]) λss2 W7 q7' m7' n7' =>?_
   refine hKN2 (XS ss2 sb) W7 ⟨ss2,by rw[htk,←List.append_assoc];exact q7',λ_=>Iff.rfl⟩ (m7'.mono λy _ hy=>(j2 y).2 hy) λy hy=>⟨(n7' y hy).imp (j2 y).2 id,q7'.ltX hy⟩
  ·rintro X W6 ⟨ss2,j1,j2⟩ mW6 hX6
   rw[show H.take H.length=H from List.take_length]at j1
   have s12:∀y,XS ss1 sb y→XS ss sb y∨W2.heap.size≤y:=n3
   have s2:∀y,XS ss2 sb y→XS ss sb y∨W2.heap.size≤y:=λy hy=>by
    rcases(hX6 y ((j2 y).2 hy)).2 with h' |h'
    ·exact s12 y h'
    ·exact .inr (by omega)
   have st6:ST W6:=sub hs5 s12 mW6 st5
   unfold A14_9
   simp only[afterK]
   have mdr6:Mod (λ_=>False) W6 W6.drew:=(Mod.refl _ W6).drew
   have q6' :=j1.modX mdr6 λ_ _ h=>h
   have st7:ST W6.drew:=st6.trans (mdr6.mono λ_ _ h=>h.elim)
   generalize W6.drew=W7 at mdr6 q6' st7⊢
   obtain⟨hV7,g7',n7',-⟩:=keep st7
   refine rdWS (lv0 g7') ?_
   simp only[vptr,nilK_ptr]
   have hsome:(calGet S.cal.l n).isSome=true:=nums_get.1 (by rw[hn];exact List.mem_map_of_mem (by rw[hk];exact List.getElem_mem hi))
   obtain⟨b,hb,hB⟩:=lkB hV7 (n:=n) hsome
   refine rdPS (fldV 2 (by omega)) (rdWS (ld2 _ hV7.blk) ?_)
   refine rdWS (ln n7') ?_
   refine rdX_of (lookBk hV7.mbk hb) ?_
   refine ca_ball hB λgv8 W8 ht8 m8=>?_
   have q8:=q6'.modX m8 λ_ _ h=>h
   have st8:ST W8:=st7.trans (m8.mono λ_ _ h=>h.elim)
   obtain⟨-,-,-,hrc8⟩:=keep st8
   have hs8:=st8.size
   obtain⟨Al,hAl⟩:∃Al,Al=(S.bk n).all:=⟨_,rfl⟩
   have ht8' :TellsM gv8 (Al.map λo=>[odV o]) W8:=by rw[hAl];exact ht8
   have hAll:Al.length≤200:=by rw[hAl];exact hB.all.1
   have hol:=ordT_len hok.ord i
   delta R14_2
   refine RF_in (l0:=w7.heap.size+1) (X0:=XS ss2 sb) (fv:=odV) (asg:=λx W K=>rv Tryz.prog (Instr.alloc tOd true (.tuple #[])) W λv w1=>ru Tryz.prog (Instr.storeAt tOd v x) w1 λw2=>K v w2) (Pv:=PvOf tOd odC) (xs:=Al) hrc8 ht8' (hasg_small VarOk.od) hPv_of
    (λX j W' =>∃ss',SB W' sb S.cal.day S.next S.led.fund ss' S.led.all (S.cal.l.take i++[k]) (posT S i++H) (ordT S i++(Al.take j).map λo=>(n,o)) (bidT S i) lo∧(∀y,X y↔XS ss' sb y)) (λ_ _ _=>False) ?_ (λ_ _ _ _ _ h=>h.elim) (λy hy=>q8.ltX hy) ⟨ss2,by simpa using q8,λ_=>Iff.rfl⟩ ?_ ?_ (λ_ _ _ h=>h.elim)
   ·rintro X j W' W'' H' ⟨ss',j1,j2⟩ hm hX'
    exact⟨ss',j1.modX hm λy hy=>hX' y ((j2 y).2 hy),j2⟩
   ·rintro X j hj W9 qv vv ⟨ss',j1',j2'⟩ mW9 hX9 hdq9 hqW9 ⟨rfl,gv9⟩ KN2 KJ2 hKN2 hKJ2
    have htk:=take_succ' (l:=Al) hj
    have lo9:lo≤W9.heap.size:=by have:=mW9.size;omega
    have n9:=(keep (sub hs8 s2 mW9 st8)).2.2.1
    refine rvS (stFld W9 6 (by omega)) (rvS (j1'.ld 6 (by omega) (by omega)) ?_)
    refine rvS (ln n9) ?_
    refine rvS (ldOd (o:=Al[j]) (At.all gv9)) ?_
    refine rvS (bldSd n Al[j] W9) ?_
    refine pushX (i:=6) (by omega) (by omega) (c:=sdOC (n,Al[j])) j1' rfl rfl rfl (by show(ordT S i++(Al.take j).map _).length≤_;rw[List.length_append,List.length_map,List.length_take];omega) lo9 (LN6 _ _ _ _ _ (n,Al[j])) (LC6 _ _ _ _ _ (n,Al[j])) λss3 W10 q10 m10 n10=>?_
    refine hKN2 (XS ss3 sb) W10 ⟨ss3,by rw[htk,List.map_append,←List.append_assoc];exact q10,λ_=>Iff.rfl⟩ (m10.mono λy _ hy=>(j2' y).2 hy) λy hy=>⟨(n10 y hy).imp (j2' y).2 id,q10.ltX hy⟩
   ·rintro X9 W9 ⟨ss3,j1',j2'⟩ mW9 hX9
    rw[show Al.take Al.length=Al from List.take_length]at j1'
    have s3:∀y,XS ss3 sb y→XS ss sb y∨W2.heap.size≤y:=λy hy=>by
     rcases(hX9 y ((j2' y).2 hy)).2 with h' |h'
     ·exact s2 y h'
     ·exact .inr (by omega)
    have st9:ST W9:=sub hs8 s2 mW9 st8
    unfold A14_3
    simp only[afterK]
    have mdr9:Mod (λ_=>False) W9 W9.drew:=(Mod.refl _ W9).drew
    have q10:=j1'.modX mdr9 λ_ _ h=>h
    have st10:ST W9.drew:=st9.trans (mdr9.mono λ_ _ h=>h.elim)
    generalize W9.drew=W10 at mdr9 q10 st10⊢
    obtain⟨hV10,g10,n10,-⟩:=keep st10
    refine rdWS (lv0 g10) ?_
    simp only[vptr,nilK_ptr]
    refine rdPS (fldV 3 (by omega)) (rdWS (ld3 _ hV10.blk) ?_)
    refine rdWS (ln n10) ?_
    refine rdX_of (lookBd hV10.mbd n) ?_
    obtain⟨Bd,hBd⟩:∃Bd,Bd=S.bd n:=⟨_,rfl⟩
    have hBdl:Bd.length≤50:=by rw[hBd];exact hok.ord.bdl n
    have hbd10:OdS W10 (slOf D n) Bd:=by rw[hBd];exact hV10.bd n
    obtain⟨ba,bc,hbs,-⟩:=hbd10.isSl
    refine rdWS (v:=.int .i64 (Bd.length:Int)) (by rw[hbs];simp[go_sem]) ?_
    have hbl:=bidT_len hok.ord i
    have hs10:=st10.size
    refine loopV (λst W' =>∃(j:Nat) (ss' :Nat→Value),j≤Bd.length∧st=(.int .i64 j,())∧SB W' sb S.cal.day S.next S.led.fund ss' S.led.all (S.cal.l.take i++[k]) (posT S i++H) (ordT S i++Al.map λo=>(n,o)) (bidT S i++(Bd.take j).map λo=>(n,o)) lo∧(∀y,XS ss' sb y→XS ss sb y∨W2.heap.size≤y)∧ST W')
     (λst _=>match st.1 with| .int _ i=>Bd.length - i.toNat|_=>0) ⟨0,ss3,by omega,rfl,by simpa using q10,s3,st10⟩ ?_
    rintro _ W11 ⟨j,ss4,hj,rfl,t1,t2,t3⟩ KM hKM
    unfold L14_0
    intro _
    obtain⟨hV11,g11,n11,-⟩:=keep t3
    have hbd11:OdS W11 (slOf D n) Bd:=by rw[hBd];exact hV11.bd n
    have hs11:=t3.size
    by_cases hlt:j<Bd.length
    ·have hlt' :(j:Int)<(Bd.length:Int):=by omega
     refine rvS (v:=.bool true) (by simp[go_sem,hlt']<;>first|exact⟨rfl,rfl⟩|exact rfl) ?_
     rw[ifB_bool,if_pos rfl]
     obtain⟨pj,p1,p2'⟩:=odRd hbd11.rd hlt
     refine rvS p1 (rvS p2' ?_)
     obtain⟨wa,ea,ba',ma⟩:=newOd W11
     refine rvS ea ?_
     obtain⟨q9,hq9⟩:∃q9,q9=W11.heap.size:=⟨_,rfl⟩
     rw[←hq9]at ba' ⊢
     obtain⟨wb,eb,bb,mb'⟩:=setOd (o' :=Bd[j]) ba'
     refine ruS eb ?_
     have Mb:Mod (λ_=>False) W11 wb:=ma.on mb' λb hb=>.inr (by omega)
     have tb:=t1.modX Mb λ_ _ h=>h
     have stb:ST wb:=t3.trans (Mb.mono λ_ _ h=>h.elim)
     have nb:=(keep stb).2.2.1
     have hsb' :=stb.size
     refine rvS (stFld wb 7 (by omega)) (rvS (tb.ld 7 (by omega) (by omega)) ?_)
     refine rvS (ln nb) ?_
     refine rvS (ldOd (o:=Bd[j]) (At.all bb)) ?_
     refine rvS (bldSd n Bd[j] wb) ?_
     refine pushX (i:=7) (by omega) (by omega) (c:=sdOC (n,Bd[j])) tb rfl rfl rfl (by show(bidT S i++(Bd.take j).map _).length≤_;rw[List.length_append,List.length_map,List.length_take];omega) (by omega) (LN7 _ _ _ _ _ (n,Bd[j])) (LC7 _ _ _ _ _ (n,Bd[j])) λss5 wc qc mc nc=>?_
     refine rvS (v:=.int .i64 ((j+1:Nat):Int)) (w' :=wc) (by simp[go_sem];rw[wrapI (by omega) (by omega)]) ?_
     refine hKM _ _ ⟨j+1,ss5,by omega,rfl,by rw[take_succ' hlt,List.map_append,←List.append_assoc];exact qc,λy hy=>?_,sub hsb' t2 mc stb⟩ (by show Bd.length - (((j+1:Nat):Int)).toNat<Bd.length - ((j:Int)).toNat;omega)
     rcases nc y hy with h' |h'
     ·exact t2 y h'
     ·exact .inr (by omega)
    ·obtain rfl:j=Bd.length:=by omega
     refine rvS (v:=.bool false) (by simp[go_sem]<;>first|exact⟨rfl,rfl⟩|exact rfl) ?_
     rw[ifB_bool,if_neg Bool.false_ne_true]
     rw[List.take_length]at t1
     refine hKN (XS ss4 sb) W11 ⟨ss4,?_,λ_=>Iff.rfl⟩ ((mW2.mono λ_ _ h=>h.elim).trans (t3.mono λy _ hy=>(i2 y).2 hy)) λy hy=>⟨?_,t1.ltX hy⟩
     ·have e1:posT S (i+1)=posT S i++H:=by unfold posT;rw[hnt,List.flatMap_append,hH];simp
      have e2:ordT S (i+1)=ordT S i++Al.map λo=>(n,o):=by unfold ordT;rw[hnt,List.flatMap_append,hAl];simp
      have e3:bidT S (i+1)=bidT S i++Bd.map λo=>(n,o):=by unfold bidT;rw[hnt,List.flatMap_append,hBd];simp
      rw[hct,e1,e2,e3]
      exact t1
     ·rcases t2 y hy with h' |h'
      ·exact .inl ((i2 y).2 h')
      ·exact .inr (by omega)
 ·rintro X W d hd ⟨ss,i1,i2⟩ mW hdef hX
  have i1' :SB W sb S.cal.day S.next S.led.fund ss S.led.all S.cal.l (S.nums.flatMap S.led.holders) (S.nums.flatMap λn=>(S.bk n).all.map λo=>(n,o)) (S.nums.flatMap λn=>(S.bd n).map λo=>(n,o)) lo:=by
   have e0:S.cal.l.length=S.nums.length:=by unfold Ven.nums;rw[List.length_map]
   have e1:posT S S.cal.l.length=S.nums.flatMap S.led.holders:=by unfold posT;rw[e0,List.take_length]
   have e2:ordT S S.cal.l.length=S.nums.flatMap λn=>(S.bk n).all.map λo=>(n,o):=by unfold ordT;rw[e0,List.take_length]
   have e3:bidT S S.cal.l.length=S.nums.flatMap λn=>(S.bd n).map λo=>(n,o):=by unfold bidT;rw[e0,List.take_length]
   have i1'' :SB W sb S.cal.day S.next S.led.fund ss S.led.all (S.cal.l.take S.cal.l.length) (posT S S.cal.l.length) (ordT S S.cal.l.length) (bidT S S.cal.l.length) lo:=i1
   rw[List.take_length,e1,e2,e3]at i1''
   exact i1''
  have hX0lo:∀y,XS (ss0 s) sb y→lo≤y:=hXlo q7
  have pW:=mW.hpk p7 λhc=>by have:=hX0lo _ hc;omega
  unfold A14_11
  simp only[afterK]
  refine rvS (stLd i1'.at_) ?_
  obtain⟨W2,e2',b2',m2'⟩:=stSt (d:=S.cal.day) (n:=S.next) (f:=S.led.fund) (ss:=ss) pW rfl λi hi hj=>by
   obtain⟨a,c,hs,-⟩:=(i1'.own i hi hj).isSl
   exact⟨_,_,_,hs⟩
  refine ruS e2' ?_
  have hdX:¬XS ss sb d:=λhc=>by
   rcases(hX d ((i2 d).2 hc)).2 with h' |h'
   ·have:=q7.ltX h';omega
   ·omega
  refine retV1 (m2'.hpk hdef (by omega)) λW3 m3' =>?_
  refine rdWS (stLd (m3'.hpk b2' (by omega))) ?_
  have hlo5:=M5.size
  refine hK ss sb lo W3 ((i1'.modX m2' λy hy e=>by have:=hXlo i1' y hy;omega).modX m3' λy hy e=>hdX (e▸hy)) (by omega) ?_ (by omega)
  exact((M7.on mW λy hy=>.inr (by have:=hX0lo y hy;omega)).on m2' λy hy=>.inr (by omega)).on m3' λy hy=>.inr (by omega)
end
end Go.Proofs

namespace Go.Proofs
open Go
open Classical in
structure Sta.Fit(s:Sta):Prop where
 day:U32' s.day
 next:U64' s.next
 fund:R64' s.fund
 accts:∀a∈s.accts,U32' a.num∧R64' a.cash
 cts:∀k∈s.cts,k.Fit
 poss:∀p∈s.poss,(U32' p.c∧U32' p.a)∧R64' p.q∧R64' p.b
 ords:∀x∈s.ords,U32' x.1∧x.2.Fit
 bids:∀x∈s.bids,U32' x.1∧x.2.Fit
end Go.Proofs
namespace Go.Proofs
open Go Go.Vc
attribute [local congr] Ca_congV
abbrev StaR(w:World)(ss:Nat→Value)(s:Sta):Prop:=∀i,3≤i→i≤7→Rd w (stK i) (ss i) (LN s.accts s.cts s.poss s.ords s.bids i) (LC s.accts s.cts s.poss s.ords s.bids i)
theorem StaR.md0{w w' :World}{ss:Nat→Value}{s:Sta}(h:StaR w ss s)(m:Mod (λ_=>False) w w'):StaR w' ss s:=λi h1 h2=>(h i h1 h2).mod m λ_ _ h=>h
theorem StaR.sl{w:World}{ss:Nat→Value}{s:Sta}(h:StaR w ss s):∀i,3≤i→i≤7→∃a n c,ss i=.slice a n c:=λi h1 h2=>by
 obtain⟨a,c,e⟩:=(h i h1 h2).isSl
 exact⟨a,_,c,e⟩
theorem StaR.accts{w:World}{ss:Nat→Value}{s:Sta}(h:StaR w ss s):Rd w 4 (ss 3) s.accts.length (s.accts.flatMap cellsAc):=h 3 (by omega) (by omega)
theorem StaR.cts{w:World}{ss:Nat→Value}{s:Sta}(h:StaR w ss s):Rd w 27 (ss 4) s.cts.length (s.cts.flatMap ctC):=h 4 (by omega) (by omega)
theorem StaR.poss{w:World}{ss:Nat→Value}{s:Sta}(h:StaR w ss s):Rd w 4 (ss 5) s.poss.length (s.poss.flatMap cellsPo):=h 5 (by omega) (by omega)
theorem StaR.ords{w:World}{ss:Nat→Value}{s:Sta}(h:StaR w ss s):Rd w 6 (ss 6) s.ords.length (s.ords.flatMap sdOC):=h 6 (by omega) (by omega)
theorem StaR.bids{w:World}{ss:Nat→Value}{s:Sta}(h:StaR w ss s):Rd w 6 (ss 7) s.bids.length (s.bids.flatMap sdOC):=h 7 (by omega) (by omega)
abbrev StBlk(w:World)(b:Nat)(d nx fu:Int)(ss:Nat→Value):Prop:=hp w b=some (.cells (stC d nx fu ss).toArray tSt (0,0))
theorem boxStI(d nx fu:Int)(ss:Nat→Value)(w:World):∃w1,(Instr.box tSt (stV d nx fu ss)).run Tryz.prog w=.ok (.pointer (some ⟨w.heap.size,0,none⟩)) w1∧StBlk w1 w.heap.size d nx fu ss∧Mod (λ_=>False) w w1:=
 ⟨w.alloc (.cells (stC d nx fu ss).toArray tSt),rfl,by show hp _ _=_;simp[go_sem],(Mod.refl _ w).alloc _⟩
theorem stLdI{w:World}{b:Nat}{d nx fu:Int}{ss:Nat→Value}(h:StBlk w b d nx fu ss)(hs:∀i,3≤i→i≤7→∃a n c,ss i=.slice a n c)(i:Nat)(hi:3≤i)(hj:i≤7):(Instr.loadAt (stS i) (.pointer (some ⟨b,i,none⟩))).run Tryz.prog w=.ok (ss i) w:=by
 have h' :hp w b=some (.cells (stC d nx fu ss).toArray tSt (0,0)):=h
 obtain⟨a,n,c,e⟩:=hs i hi hj
 have:i=3∨i=4∨i=5∨i=6∨i=7:=by omega
 rcases this with rfl|rfl|rfl|rfl|rfl<;>(simp only[stS];rw[e];simp only[stC]at h';rw[e]at h';simp[go_sem,h'])
theorem stLdN{w:World}{b:Nat}{d nx fu:Int}{ss:Nat→Value}(h:StBlk w b d nx fu ss):(Instr.loadAt 35 (.pointer (some ⟨b,0,none⟩))).run Tryz.prog w=.ok (.int .u32 d) w∧(Instr.loadAt 27 (.pointer (some ⟨b,1,none⟩))).run Tryz.prog w=.ok (.int .u64 nx) w∧(Instr.loadAt 2 (.pointer (some ⟨b,2,none⟩))).run Tryz.prog w=.ok (.int .i64 fu) w:=by
 have h' :hp w b=some (.cells (stC d nx fu ss).toArray tSt (0,0)):=h
 simp only[stC]at h'
 exact⟨by simp[go_sem,h'],by simp[go_sem,h'],by simp[go_sem,h']⟩
end Go.Proofs

namespace Go.Proofs
open Go Go.Vc
attribute [local congr] Ca_congV
theorem ctAtSp{W:World}{p off:Nat}{k:Ct}(h:At W p off (ctC k)):At W p off (spC k.spec):=by
 have:=h.sub 0 25 (by rw[ctC_len];omega)
 have e:((ctC k).drop 0).take 25=spC k.spec:=by
  show(spC k.spec++_).take 25=_
  rw[←spC_len k.spec,List.take_left]
 rw[e]at this
 exact this
abbrev CtB(W:World)(p:Nat)(k:Ct):Prop:=hp W p=some (.cells (ctC k).toArray tCt (0,0))
theorem ctBU{W:World}{p:Nat}{k k' :Ct}{K:World→Prop}(h:CtB W p k)(hK:∀W',CtB W' p k' →Mod (λy=>y=p) W W' →K W'):rux Tryz.prog (bigU tCt (.pointer (some ⟨p,0,none⟩)) (.agg (ctC k').toArray)) W K:=by
 have hh:W.heap[p]? =some (.cells (ctC k).toArray tCt (0,0)):=h
 have h1:(ctC k').all (·.oneCell')=true:=by
  unfold ctC
  rw[List.all_append,spC_one]
  rfl
 refine rux_bigU nCt (ctC_len k') hh (by rw[List.size_toArray,ctC_len,ctC_len];omega) h1 (hK _ ?_ ((Mod.refl (λy=>y=p) W).setRow (.inl rfl) _))
 show(W.setRow p _).heap[p]? =_
 rw[heap_setRow,if_pos rfl,hh,lay_all (by rw[ctC_len];simp[ctC_len])]
theorem newCtB{K:Kont}(w:World)(hK:∀w1,CtB w1 w.heap.size zCt0→Mod (λ_=>False) w w1→K (.pointer (some ⟨w.heap.size,0,none⟩)) w1):rx Tryz.prog (bigA tCt) w K:=by
 refine rx_bigA zCt ?_
 rw[zeroCt]
 exact hK _ (by show hp _ _=_;simp[go_sem]) ((Mod.refl _ w).alloc _)
theorem ctB25{W:World}{p:Nat}{k:Ct}(h:CtB W p k):(Instr.loadAt 106 (.pointer (some ⟨p,25,none⟩))).run Tryz.prog W=.ok (.int .u8 k.st) W:=by
 have h' :hp W p=some (.cells (ctC k).toArray tCt (0,0)):=h
 simp[go_sem,h',ctT25]
theorem ctB26{W:World}{p:Nat}{k:Ct}(h:CtB W p k):(Instr.loadAt 2 (.pointer (some ⟨p,26,none⟩))).run Tryz.prog W=.ok (.int .i64 k.price) W:=by
 have h' :hp W p=some (.cells (ctC k).toArray tCt (0,0)):=h
 simp[go_sem,h',ctT26]
theorem ctBF(p:Nat)(W:World):(Instr.fieldAt tCt (.pointer (some ⟨p,0,none⟩)) 0).run Tryz.prog W=.ok (.pointer (some ⟨p,0,none⟩)) W∧(Instr.fieldAt tCt (.pointer (some ⟨p,0,none⟩)) 1).run Tryz.prog W=.ok (.pointer (some ⟨p,25,none⟩)) W∧(Instr.fieldAt tCt (.pointer (some ⟨p,0,none⟩)) 2).run Tryz.prog W=.ok (.pointer (some ⟨p,26,none⟩)) W∧(Instr.fieldAt 38 (.pointer (some ⟨p,0,none⟩)) 0).run Tryz.prog W=.ok (.pointer (some ⟨p,0,none⟩)) W:=⟨by simp[go_sem],by simp[go_sem],by simp[go_sem],by simp[go_sem]⟩
end Go.Proofs
namespace Go.Proofs
open Go Go.Vc
attribute [local congr] Ca_congV
abbrev tSdF:TypeId:=119
def sdVF(x:Int×Od):Value:=.agg (sdOC x).toArray
abbrev SdB(W:World)(p:Nat)(x:Int×Od):Prop:=hp W p=some (.cells (sdOC x).toArray tSdF (0,0))
theorem boxSd(x:Int×Od)(w:World):∃w1,(Instr.box tSdF (sdVF x)).run Tryz.prog w=.ok (.pointer (some ⟨w.heap.size,0,none⟩)) w1∧SdB w1 w.heap.size x∧Mod (λ_=>False) w w1:=
 ⟨w.alloc (.cells (sdOC x).toArray tSdF),rfl,by show hp _ _=_;simp[go_sem],(Mod.refl _ w).alloc _⟩
theorem sdBF(p:Nat)(W:World):(Instr.fieldAt tSdF (.pointer (some ⟨p,0,none⟩)) 0).run Tryz.prog W=.ok (.pointer (some ⟨p,0,none⟩)) W∧(Instr.fieldAt tSdF (.pointer (some ⟨p,0,none⟩)) 1).run Tryz.prog W=.ok (.pointer (some ⟨p,1,none⟩)) W:=⟨by simp[go_sem],by simp[go_sem]⟩
theorem sdB0{W:World}{p:Nat}{x:Int×Od}(h:SdB W p x):(Instr.loadAt 35 (.pointer (some ⟨p,0,none⟩))).run Tryz.prog W=.ok (.int .u32 x.1) W:=by
 have h' :hp W p=some (.cells (sdOC x).toArray tSdF (0,0)):=h
 simp only[sdOC,odC]at h'
 simp[go_sem,h']
abbrev AcB(W:World)(p:Nat)(a:Ac):Prop:=hp W p=some (.cells (cellsAc a).toArray 92 (0,0))
theorem acBL{W:World}{p:Nat}{a:Ac}(h:AcB W p a):(Instr.loadAt 4 (.pointer (some ⟨p,2,none⟩))).run Tryz.prog W=.ok (.bool a.kil) W∧(Instr.loadAt 4 (.pointer (some ⟨p,3,none⟩))).run Tryz.prog W=.ok (.bool a.dfl) W:=by
 have h' :hp W p=some (.cells (cellsAc a).toArray 92 (0,0)):=h
 simp only[cellsAc]at h'
 exact⟨by simp[go_sem,h'],by simp[go_sem,h']⟩
end Go.Proofs
namespace Go.Proofs
open Go Go.Vc
attribute [local congr] Ca_congV
theorem nSdF:Tryz.prog.cellsOf tSdF=5+1:=by kernel_rfl
theorem uSdsF:Tryz.prog.underlying 47=some (.slice tSdF):=by kernel_rfl
theorem sdLdAt{W:World}{p off:Nat}{x:Int×Od}(h:At W p off (sdOC x)):(Instr.loadAt tSdF (.pointer (some ⟨p,off,none⟩))).run Tryz.prog W=.ok (sdVF x) W:=
 run_bigS (P:=Tryz.prog) (t:=tSdF) (by kernel_rfl) nSdF rfl h
theorem sdVarF(x:Int×Od)(W:World):∃w1 w2,(Instr.alloc tSdF true (.tuple #[])).run Tryz.prog W=.ok (.pointer (some ⟨W.heap.size,0,none⟩)) w1∧(Instr.storeAt tSdF (.pointer (some ⟨W.heap.size,0,none⟩)) (sdVF x)).run Tryz.prog w1=.ok () w2∧SdB w2 W.heap.size x∧Mod (λ_=>False) W w2:=by
 obtain⟨p,hp0⟩:∃p,p=W.heap.size:=⟨_,rfl⟩
 obtain⟨w1,hw1⟩:∃w1,w1=W.alloc (.cells #[.int .u32 0,.int .u64 0,.int .u32 0,.bool false,.int .i64 0,.int .i64 0] tSdF):=⟨_,rfl⟩
 have m1:Mod (λ_=>False) W w1:=by rw[hw1];exact(Mod.refl _ W).alloc _
 have b1:hp w1 p=some (.cells #[.int .u32 0,.int .u64 0,.int .u32 0,.bool false,.int .i64 0,.int .i64 0] tSdF (0,0)):=by rw[hw1,hp0];simp[go_sem]
 rw[←hp0]
 refine⟨w1,(((((w1.setCell ⟨p,0,none⟩ (.int .u32 x.1)).setCell ⟨p,1,none⟩ (.int .u64 x.2.num)).setCell ⟨p,2,none⟩ (.int .u32 x.2.acct)).setCell ⟨p,3,none⟩ (.bool x.2.buy)).setCell ⟨p,4,none⟩ (.int .i64 x.2.price)).setCell ⟨p,5,none⟩ (.int .i64 x.2.left),by rw[hw1,hp0];simp[go_sem],by simp[go_sem,b1,sdVF,sdOC,odC],by show hp _ _=_;simp[go_sem,b1,sdOC,odC],?_⟩
 exact m1.on (((((((Mod.refl (λy=>y=p) w1).setCell (.inl rfl) _ _).setCell (.inl rfl) _ _).setCell (.inl rfl) _ _).setCell (.inl rfl) _ _).setCell (.inl rfl) _ _).setCell (.inl rfl) _ _) λy hy=>.inr (by omega)
theorem sdIt{W:World}{s:Value}{L:List (Int×Od)}(h:Rd W 6 s L.length (L.flatMap sdOC)){i:Nat}(hi:i<L.length):
  ∃b off,(∀W2 k,(Instr.indexAt 47 s (.int k (i:Int))).run Tryz.prog W2=.ok (.pointer (some ⟨b,off,none⟩)) W2)∧At W b off (sdOC L[i]):=by
 obtain⟨b,off,cap,hse,hcap,hA⟩:=h.item (show∀x,(sdOC x).length=6 from λ_=>rfl) hi rfl
 exact⟨b,off+i*6,λW2 k=>by rw[hse];simp[go_sem,hi,addr_add,uSdsF],hA⟩
theorem stFl(b i:Nat)(hi:i≤7)(W:World):(Instr.fieldAt tSt (.pointer (some ⟨b,0,none⟩)) i).run Tryz.prog W=.ok (.pointer (some ⟨b,i,none⟩)) W:=by
 rcases(show i=0∨i=1∨i=2∨i=3∨i=4∨i=5∨i=6∨i=7 by omega)with rfl|rfl|rfl|rfl|rfl|rfl|rfl|rfl<;>simp[go_sem]
theorem stLd6{w:World}{b:Nat}{d nx fu:Int}{ss:Nat→Value}(h:StBlk w b d nx fu ss)(hs:∀i,3≤i→i≤7→∃a n c,ss i=.slice a n c):(Instr.loadAt 47 (.pointer (some ⟨b,6,none⟩))).run Tryz.prog w=.ok (ss 6) w∧(Instr.loadAt 47 (.pointer (some ⟨b,7,none⟩))).run Tryz.prog w=.ok (ss 7) w:=
 ⟨stLdI h hs 6 (by omega) (by omega),stLdI h hs 7 (by omega) (by omega)⟩
end Go.Proofs

namespace Go.Proofs
open Go Go.Vc
attribute [local congr] Ca_congV
theorem put_new{κ ν:Type} [DecidableEq κ]{L:List (κ×ν)}{k:κ}{v:ν}(h:∀p∈L,p.1≠k):put L k v=L++[(k,v)]:=by
 induction L with
 |nil=>rfl
 |cons p L ih=>
  obtain⟨a,b⟩:=p
  have h1:a≠k:=h (a,b) List.mem_cons_self
  simp only[put,if_neg h1,List.cons_append]
  rw[ih λx hx=>h x (List.mem_cons_of_mem _ hx)]
end Go.Proofs
namespace Go.Proofs
open Go Go.Vc
attribute [local congr] Ca_congV
section
variable{w:World}{b:Nat}{d nx fu:Int}{ss:Nat→Value}
theorem stLd345(h:StBlk w b d nx fu ss)(hs:∀i,3≤i→i≤7→∃a n c,ss i=.slice a n c):(Instr.loadAt 44 (.pointer (some ⟨b,3,none⟩))).run Tryz.prog w=.ok (ss 3) w∧(Instr.loadAt 45 (.pointer (some ⟨b,4,none⟩))).run Tryz.prog w=.ok (ss 4) w∧(Instr.loadAt 46 (.pointer (some ⟨b,5,none⟩))).run Tryz.prog w=.ok (ss 5) w:=
 ⟨stLdI h hs 3 (by omega) (by omega),stLdI h hs 4 (by omega) (by omega),stLdI h hs 5 (by omega) (by omega)⟩
end
abbrev PoB(W:World)(p:Nat)(x:Po):Prop:=hp W p=some (.cells (cellsPo x).toArray 112 (0,0))
theorem poB0{W:World}{p:Nat}{x:Po}(h:PoB W p x):(Instr.loadAt 35 (.pointer (some ⟨p,0,none⟩))).run Tryz.prog W=.ok (.int .u32 x.c) W:=by
 have h' :hp W p=some (.cells (cellsPo x).toArray 112 (0,0)):=h
 simp only[cellsPo]at h'
 simp[go_sem,h']
theorem poIt{W:World}{s:Value}{L:List Po}(h:Rd W 4 s L.length (L.flatMap cellsPo)){i:Nat}(hi:i<L.length):
  ∃b off,(Instr.indexAt 46 s (.int .i64 (i:Int))).run Tryz.prog W=.ok (.pointer (some ⟨b,off,none⟩)) W∧(Instr.loadAt 112 (.pointer (some ⟨b,off,none⟩))).run Tryz.prog W=.ok (poV L[i]) W:=by
 obtain⟨b,off,cap,hse,hcap,hA⟩:=h.item (show∀x,(cellsPo x).length=4 from λ_=>rfl) hi rfl
 have u:Tryz.prog.underlying 46=some (.slice 112):=by kernel_rfl
 refine⟨b,off+i*4,by rw[hse];simp[go_sem,hi,addr_add,u],?_⟩
 exact run_bigS (P:=Tryz.prog) (t:=112) (by kernel_rfl) (show Tryz.prog.cellsOf 112=3+1 by kernel_rfl) rfl hA
end Go.Proofs


set_option maxRecDepth 100000
namespace Go.Proofs
open Go Go.Vc
def F6(a0:Value)(w:World)(K:Kont):Prop:=
 rn Tryz.prog (builtin .len #[54] 3 #[false] #[a0]) w λv0 w1=>
 rv Tryz.prog (bin .gtr 3 true v0 (.int .i64 30000)) w1 λv2 w3=>
 ifB v2
 (Ca Tryz.prog 17 #[] w3 λv4 w5=>
 K v4 w5)
 (rv Tryz.prog (Instr.alloc 66 true (.tuple #[])) w3 λv6 w7=>
 Ca Tryz.prog 21 #[(.pointer none)] w7 λv8 w9=>
 rv Tryz.prog (Instr.extract v8 0) w9 λv10 w11=>
 rv Tryz.prog (Instr.extract v8 1) w11 λv12 w13=>
 Ca Tryz.prog 21 #[v6] w13 λv14 w15=>
 rv Tryz.prog (Instr.extract v14 0) w15 λv16 w17=>
 rv Tryz.prog (Instr.extract v14 1) w17 λv18 w19=>
 Ca Tryz.prog 20 #[a0] w19 λv20 w21=>
 rv Tryz.prog (Instr.extract v20 0) w21 λv22 w23=>
 rv Tryz.prog (Instr.extract v20 1) w23 λv24 w25=>
 rn Tryz.prog (builtin .len #[54] 3 #[false] #[v10]) w25 λv26 w27=>
 rn Tryz.prog (builtin .len #[54] 3 #[false] #[v16]) w27 λv28 w29=>
 rv Tryz.prog (bin .add 3 false v26 v28) w29 λv30 w31=>
 rv Tryz.prog (bin .eql 3 true v30 (.int .i64 0)) w31 λv32 w33=>
 ifB v32
 (rv Tryz.prog (bin .eql 26 true v12 (.int .i64 1)) w33 λv34 w35=>
 ifB v34
 (rv Tryz.prog (bin .eql 26 true v18 (.int .i64 1)) w35 λv36 w37=>
 ifB v36
 (rv Tryz.prog (bin .neq 23 true v22 (.pointer none)) w37 λv38 w39=>
 rv Tryz.prog (bin .eql 26 true v24 (.int .i64 0)) w39 λv40 w41=>
 rv Tryz.prog (bin .eql 4 false v38 v40) w41 λv42 w43=>
 ifB v42
 (Ca Tryz.prog 17 #[] w43 λv44 w45=>
 K v44 w45)
 (K (.bool false) w43))
 (K (.bool false) w37))
 (K (.bool false) w35))
 (K (.bool false) w33))
end Go.Proofs
namespace Go.Proofs
open Go Go.Vc
attribute [local congr] Ca_congV
def b8:List UInt8:=[0,1,0,0,0,0,0,0]
end Go.Proofs
namespace Go.Proofs
open Go Go.Vc
attribute [local congr] Ca_congV
theorem flat_leF{α:Type}{g:α→List UInt8}{m:Nat}:∀{L:List α},(∀x∈L,(g x).length≤m)→(L.flatMap g).length≤m*L.length
 | [],_=>Nat.zero_le _
 |x::L,h=>by
  have h1:=h x List.mem_cons_self
  have h2:=flat_leF (L:=L) λy hy=>h y (List.mem_cons_of_mem _ hy)
  rw[List.flatMap_cons,List.length_append,List.length_cons,Nat.mul_add]
  omega
theorem natB_le10{n:Nat}(h:n<18446744073709551616):(natB n).length≤10:=natB_len 9 n (by omega)
theorem acItF{W:World}{s:Value}{L:List Ac}(h:Rd W 4 s L.length (L.flatMap cellsAc)){i:Nat}(hi:i<L.length):
  ∃b off,(Instr.indexAt 44 s (.int .i64 (i:Int))).run Tryz.prog W=.ok (.pointer (some ⟨b,off,none⟩)) W∧(Instr.loadAt 92 (.pointer (some ⟨b,off,none⟩))).run Tryz.prog W=.ok (acV L[i]) W:=by
 obtain⟨b,off,cap,hse,hcap,hA⟩:=h.item (show∀x,(cellsAc x).length=4 from λ_=>rfl) hi rfl
 have u:Tryz.prog.underlying 44=some (.slice 92):=by kernel_rfl
 refine⟨b,off+i*4,by rw[hse];simp[go_sem,hi,addr_add,u],?_⟩
 exact run_bigS (P:=Tryz.prog) (t:=92) (by kernel_rfl) (show Tryz.prog.cellsOf 92=3+1 by kernel_rfl) rfl hA
set_option maxRecDepth 10000 in
set_option maxHeartbeats 1000000 in
theorem ca_listAc{w:World}{K:Kont}{s v fv:Value}{l:List UInt8}{L:List (Ac)}{g:Ac→List UInt8}(h:OwnB w s l)(hR:Rd w 4 v L.length (L.flatMap cellsAc))(hsep:∀y,inRd v y→¬inSl s y)(hl:l.length≤100000000)(hn:L.length≤3200)(hg:∀x∈L,(g x).length≤300)
  (hcall:∀W s' l' x (K' :Kont),x∈L→OwnB W s' l' →l'.length≤900000000→(∀s'' W',OwnB W' s'' (l' ++g x)→Mod (inSl s') W W' →(∀b,inSl s'' b→inSl s' b∨W.heap.size≤b)→K' s'' W')→callV Tryz.prog fv [s',acV x] W K')
  (hK:∀s' w',OwnB w' s' (l++lsB g L)→Mod (inSl s) w w' →(∀b,inSl s' b→inSl s b∨w.heap.size≤b)→K s' w'):Ca Tryz.prog 155 #[s,v,fv] w K:=by
 apply ca155
 unfold F155
 obtain⟨va,vc,hv⟩:=hR.isSl
 have ln:∀W,(builtin .len #[44] 3 #[false] #[v]).run Tryz.prog W=.ok (.value (.int .i64 (L.length:Int))) W:=λW=>by rw[hv];simp[go_sem]
 refine rnS (ln _) (rvS (v:=.int .u64 (L.length:Int)) (w' :=w) (by simp[go_sem];rw[wrapU (by omega) (by omega)]) ?_)
 have hn10:(natB L.length).length≤10:=natB_le10 (by omega)
 refine ca_wnatB (n:=L.length) h (by omega) (by omega) λs1 w1 o1 m1 n1=>?_
 refine rnS (ln _) ?_
 have hfl:∀k,((L.take k).flatMap g).length≤960000:=λk=>by
  have h1:=flat_leF (m:=300) (g:=g) (L:=L.take k) λx hx=>hg x (List.mem_of_mem_take hx)
  have h2:(L.take k).length≤L.length:=by rw[List.length_take];omega
  omega
 refine loopV (λst W=>∃(k:Nat) (s' :Value),k≤L.length∧st=(s',.int .i64 k,())∧OwnB W s' (l++natB L.length++(L.take k).flatMap g)∧Mod (inSl s) w W∧∀b,inSl s' b→inSl s b∨w.heap.size≤b)
  (λst _=>match st.2.1 with| .int _ k=>L.length - k.toNat|_=>0) ⟨0,s1,by omega,rfl,by rw[List.take_zero,List.flatMap_nil,List.append_nil];exact o1,m1,n1⟩ ?_
 rintro _ W ⟨k,s',hk,rfl,oW,mW,nW⟩ KN hKN
 unfold L155_0
 intro _
 by_cases hlt:k<L.length
 ·have hlt' :(k:Int)<(L.length:Int):=by omega
  refine rvS (v:=.bool true) (by simp[go_sem,hlt']<;>first|exact⟨rfl,rfl⟩|exact rfl) ?_
  rw[ifB_bool,if_pos rfl]
  have hRW:=hR.mod mW hsep
  have hmem:=List.getElem_mem hlt
  have htk:=take_succ' hlt
  obtain⟨eb,eo,e1,e2⟩:=acItF hRW hlt
  refine rvS e1 (rvS e2 ?_)
  obtain⟨x,hx⟩:∃x,x=L[k]:=⟨_,rfl⟩
  rw[←hx]
  obtain⟨W2,W3,f2,f3,b3,M3⟩:=acVar x W
  refine rvS f2 (ruS f3 (rvS (acLdI b3) ?_))
  refine hcall W3 s' _ x _ (hx▸hmem) (oW.mod M3 λ_ _ h=>h) (by simp only[List.length_append];have:=hfl k;omega) λs2 W4 o4 m4 n4=>?_
  refine rvS (v:=.int .i64 ((k+1:Nat):Int)) (w' :=W4) (by simp[go_sem];rw[wrapI (by omega) (by omega)]) ?_
  have hz:=mW.size
  have hz3:=M3.size
  have MW3:Mod (inSl s) w W3:=mW.trans (M3.mono λ_ _ h=>h.elim)
  refine hKN _ _ ⟨k+1,s2,by omega,rfl,?_,MW3.on m4 nW,λb hb=>?_⟩ (by show L.length - (((k+1:Nat):Int)).toNat<L.length - ((k:Int)).toNat;omega)
  ·rw[htk,←hx,List.flatMap_append,List.flatMap_cons,List.flatMap_nil,List.append_nil,←List.append_assoc];exact o4
  ·rcases n4 b hb with h' |h'
   ·exact nW b h'
   ·exact .inr (by omega)
 ·obtain rfl:k=L.length:=by omega
  refine rvS (v:=.bool false) (by simp[go_sem]<;>first|exact⟨rfl,rfl⟩|exact rfl) ?_
  rw[ifB_bool,if_neg Bool.false_ne_true]
  rw[List.take_length,List.append_assoc]at oW
  exact hK _ _ oW mW nW
def ctVF(k:Ct):Value:=.agg (ctC k).toArray
set_option maxRecDepth 10000 in
set_option maxHeartbeats 1000000 in
theorem ca_listCt{w:World}{K:Kont}{s v fv:Value}{l:List UInt8}{L:List (Ct)}{g:Ct→List UInt8}(h:OwnB w s l)(hR:Rd w 27 v L.length (L.flatMap ctC))(hsep:∀y,inRd v y→¬inSl s y)(hl:l.length≤100000000)(hn:L.length≤3200)(hg:∀x∈L,(g x).length≤300)
  (hcall:∀W s' l' x (K' :Kont),x∈L→OwnB W s' l' →l'.length≤900000000→(∀s'' W',OwnB W' s'' (l' ++g x)→Mod (inSl s') W W' →(∀b,inSl s'' b→inSl s' b∨W.heap.size≤b)→K' s'' W')→callV Tryz.prog fv [s',ctVF x] W K')
  (hK:∀s' w',OwnB w' s' (l++lsB g L)→Mod (inSl s) w w' →(∀b,inSl s' b→inSl s b∨w.heap.size≤b)→K s' w'):Ca Tryz.prog 158 #[s,v,fv] w K:=by
 apply ca158
 unfold F158
 obtain⟨va,vc,hv⟩:=hR.isSl
 have ln:∀W,(builtin .len #[45] 3 #[false] #[v]).run Tryz.prog W=.ok (.value (.int .i64 (L.length:Int))) W:=λW=>by rw[hv];simp[go_sem]
 refine rnS (ln _) (rvS (v:=.int .u64 (L.length:Int)) (w' :=w) (by simp[go_sem];rw[wrapU (by omega) (by omega)]) ?_)
 have hn10:(natB L.length).length≤10:=natB_le10 (by omega)
 refine ca_wnatB (n:=L.length) h (by omega) (by omega) λs1 w1 o1 m1 n1=>?_
 refine rnS (ln _) ?_
 have hfl:∀k,((L.take k).flatMap g).length≤960000:=λk=>by
  have h1:=flat_leF (m:=300) (g:=g) (L:=L.take k) λx hx=>hg x (List.mem_of_mem_take hx)
  have h2:(L.take k).length≤L.length:=by rw[List.length_take];omega
  omega
 refine loopV (λst W=>∃(k:Nat) (s' :Value),k≤L.length∧st=(s',.int .i64 k,())∧OwnB W s' (l++natB L.length++(L.take k).flatMap g)∧Mod (inSl s) w W∧∀b,inSl s' b→inSl s b∨w.heap.size≤b)
  (λst _=>match st.2.1 with| .int _ k=>L.length - k.toNat|_=>0) ⟨0,s1,by omega,rfl,by rw[List.take_zero,List.flatMap_nil,List.append_nil];exact o1,m1,n1⟩ ?_
 rintro _ W ⟨k,s',hk,rfl,oW,mW,nW⟩ KN hKN
 unfold L158_0
 intro _
 by_cases hlt:k<L.length
 ·have hlt' :(k:Int)<(L.length:Int):=by omega
  refine rvS (v:=.bool true) (by simp[go_sem,hlt']<;>first|exact⟨rfl,rfl⟩|exact rfl) ?_
  rw[ifB_bool,if_pos rfl]
  have hRW:=hR.mod mW hsep
  have hmem:=List.getElem_mem hlt
  have htk:=take_succ' hlt
  obtain⟨b,off,cap,hse,hcap,hA⟩:=hRW.item ctC_len hlt rfl
  obtain⟨x,hx⟩:∃x,x=L[k]:=⟨_,rfl⟩
  rw[←hx]at hA
  refine rvS (v:=.pointer (some ⟨b,off+k*27,none⟩)) (w' :=W) (by rw[hse];simp[go_sem,hlt,addr_add,uCts]) ?_
  refine rx_bigS (ctC x) 26 aCt nCt (ctC_len x) hA ?_
  refine newCtB _ λw5 b5 m5=>?_
  obtain⟨p,hp0⟩:∃p,p=W.heap.size:=⟨_,rfl⟩
  rw[←hp0]at b5⊢
  refine ctBU (k' :=x) b5 λW3 b3 m3=>?_
  have M3:Mod (λ_=>False) W W3:=m5.on m3 λy hy=>.inr (by omega)
  refine rx_bigS (ctC x) 26 aCt nCt (ctC_len x) (At.all b3) ?_
  refine hcall W3 s' _ x _ (hx▸hmem) (oW.mod M3 λ_ _ h=>h) (by simp only[List.length_append];have:=hfl k;omega) λs2 W4 o4 m4 n4=>?_
  refine rvS (v:=.int .i64 ((k+1:Nat):Int)) (w' :=W4) (by simp[go_sem];rw[wrapI (by omega) (by omega)]) ?_
  have hz:=mW.size
  have hz3:=M3.size
  have MW3:Mod (inSl s) w W3:=mW.trans (M3.mono λ_ _ h=>h.elim)
  refine hKN _ _ ⟨k+1,s2,by omega,rfl,?_,MW3.on m4 nW,λb hb=>?_⟩ (by show L.length - (((k+1:Nat):Int)).toNat<L.length - ((k:Int)).toNat;omega)
  ·rw[htk,←hx,List.flatMap_append,List.flatMap_cons,List.flatMap_nil,List.append_nil,←List.append_assoc];exact o4
  ·rcases n4 b hb with h' |h'
   ·exact nW b h'
   ·exact .inr (by omega)
 ·obtain rfl:k=L.length:=by omega
  refine rvS (v:=.bool false) (by simp[go_sem]<;>first|exact⟨rfl,rfl⟩|exact rfl) ?_
  rw[ifB_bool,if_neg Bool.false_ne_true]
  rw[List.take_length,List.append_assoc]at oW
  exact hK _ _ oW mW nW
set_option maxRecDepth 10000 in
set_option maxHeartbeats 1000000 in
theorem ca_listPo{w:World}{K:Kont}{s v fv:Value}{l:List UInt8}{L:List (Po)}{g:Po→List UInt8}(h:OwnB w s l)(hR:Rd w 4 v L.length (L.flatMap cellsPo))(hsep:∀y,inRd v y→¬inSl s y)(hl:l.length≤100000000)(hn:L.length≤3200)(hg:∀x∈L,(g x).length≤300)
  (hcall:∀W s' l' x (K' :Kont),x∈L→OwnB W s' l' →l'.length≤900000000→(∀s'' W',OwnB W' s'' (l' ++g x)→Mod (inSl s') W W' →(∀b,inSl s'' b→inSl s' b∨W.heap.size≤b)→K' s'' W')→callV Tryz.prog fv [s',poV x] W K')
  (hK:∀s' w',OwnB w' s' (l++lsB g L)→Mod (inSl s) w w' →(∀b,inSl s' b→inSl s b∨w.heap.size≤b)→K s' w'):Ca Tryz.prog 161 #[s,v,fv] w K:=by
 apply ca161
 unfold F161
 obtain⟨va,vc,hv⟩:=hR.isSl
 have ln:∀W,(builtin .len #[46] 3 #[false] #[v]).run Tryz.prog W=.ok (.value (.int .i64 (L.length:Int))) W:=λW=>by rw[hv];simp[go_sem]
 refine rnS (ln _) (rvS (v:=.int .u64 (L.length:Int)) (w' :=w) (by simp[go_sem];rw[wrapU (by omega) (by omega)]) ?_)
 have hn10:(natB L.length).length≤10:=natB_le10 (by omega)
 refine ca_wnatB (n:=L.length) h (by omega) (by omega) λs1 w1 o1 m1 n1=>?_
 refine rnS (ln _) ?_
 have hfl:∀k,((L.take k).flatMap g).length≤960000:=λk=>by
  have h1:=flat_leF (m:=300) (g:=g) (L:=L.take k) λx hx=>hg x (List.mem_of_mem_take hx)
  have h2:(L.take k).length≤L.length:=by rw[List.length_take];omega
  omega
 refine loopV (λst W=>∃(k:Nat) (s' :Value),k≤L.length∧st=(s',.int .i64 k,())∧OwnB W s' (l++natB L.length++(L.take k).flatMap g)∧Mod (inSl s) w W∧∀b,inSl s' b→inSl s b∨w.heap.size≤b)
  (λst _=>match st.2.1 with| .int _ k=>L.length - k.toNat|_=>0) ⟨0,s1,by omega,rfl,by rw[List.take_zero,List.flatMap_nil,List.append_nil];exact o1,m1,n1⟩ ?_
 rintro _ W ⟨k,s',hk,rfl,oW,mW,nW⟩ KN hKN
 unfold L161_0
 intro _
 by_cases hlt:k<L.length
 ·have hlt' :(k:Int)<(L.length:Int):=by omega
  refine rvS (v:=.bool true) (by simp[go_sem,hlt']<;>first|exact⟨rfl,rfl⟩|exact rfl) ?_
  rw[ifB_bool,if_pos rfl]
  have hRW:=hR.mod mW hsep
  have hmem:=List.getElem_mem hlt
  have htk:=take_succ' hlt
  obtain⟨eb,eo,e1,e2⟩:=poIt hRW hlt
  refine rvS e1 (rvS e2 ?_)
  obtain⟨x,hx⟩:∃x,x=L[k]:=⟨_,rfl⟩
  rw[←hx]
  obtain⟨W2,W3,f2,f3,b3,M3⟩:=poVar x W
  refine rvS f2 (ruS f3 (rvS (poLdI b3) ?_))
  refine hcall W3 s' _ x _ (hx▸hmem) (oW.mod M3 λ_ _ h=>h) (by simp only[List.length_append];have:=hfl k;omega) λs2 W4 o4 m4 n4=>?_
  refine rvS (v:=.int .i64 ((k+1:Nat):Int)) (w' :=W4) (by simp[go_sem];rw[wrapI (by omega) (by omega)]) ?_
  have hz:=mW.size
  have hz3:=M3.size
  have MW3:Mod (inSl s) w W3:=mW.trans (M3.mono λ_ _ h=>h.elim)
  refine hKN _ _ ⟨k+1,s2,by omega,rfl,?_,MW3.on m4 nW,λb hb=>?_⟩ (by show L.length - (((k+1:Nat):Int)).toNat<L.length - ((k:Int)).toNat;omega)
  ·rw[htk,←hx,List.flatMap_append,List.flatMap_cons,List.flatMap_nil,List.append_nil,←List.append_assoc];exact o4
  ·rcases n4 b hb with h' |h'
   ·exact nW b h'
   ·exact .inr (by omega)
 ·obtain rfl:k=L.length:=by omega
  refine rvS (v:=.bool false) (by simp[go_sem]<;>first|exact⟨rfl,rfl⟩|exact rfl) ?_
  rw[ifB_bool,if_neg Bool.false_ne_true]
  rw[List.take_length,List.append_assoc]at oW
  exact hK _ _ oW mW nW
set_option maxRecDepth 10000 in
set_option maxHeartbeats 1000000 in
theorem ca_listSd{w:World}{K:Kont}{s v fv:Value}{l:List UInt8}{L:List (Int×Od)}{g:Int×Od→List UInt8}(h:OwnB w s l)(hR:Rd w 6 v L.length (L.flatMap sdOC))(hsep:∀y,inRd v y→¬inSl s y)(hl:l.length≤100000000)(hn:L.length≤3200)(hg:∀x∈L,(g x).length≤300)
  (hcall:∀W s' l' x (K' :Kont),x∈L→OwnB W s' l' →l'.length≤900000000→(∀s'' W',OwnB W' s'' (l' ++g x)→Mod (inSl s') W W' →(∀b,inSl s'' b→inSl s' b∨W.heap.size≤b)→K' s'' W')→callV Tryz.prog fv [s',sdVF x] W K')
  (hK:∀s' w',OwnB w' s' (l++lsB g L)→Mod (inSl s) w w' →(∀b,inSl s' b→inSl s b∨w.heap.size≤b)→K s' w'):Ca Tryz.prog 163 #[s,v,fv] w K:=by
 apply ca163
 unfold F163
 obtain⟨va,vc,hv⟩:=hR.isSl
 have ln:∀W,(builtin .len #[47] 3 #[false] #[v]).run Tryz.prog W=.ok (.value (.int .i64 (L.length:Int))) W:=λW=>by rw[hv];simp[go_sem]
 refine rnS (ln _) (rvS (v:=.int .u64 (L.length:Int)) (w' :=w) (by simp[go_sem];rw[wrapU (by omega) (by omega)]) ?_)
 have hn10:(natB L.length).length≤10:=natB_le10 (by omega)
 refine ca_wnatB (n:=L.length) h (by omega) (by omega) λs1 w1 o1 m1 n1=>?_
 refine rnS (ln _) ?_
 have hfl:∀k,((L.take k).flatMap g).length≤960000:=λk=>by
  have h1:=flat_leF (m:=300) (g:=g) (L:=L.take k) λx hx=>hg x (List.mem_of_mem_take hx)
  have h2:(L.take k).length≤L.length:=by rw[List.length_take];omega
  omega
 refine loopV (λst W=>∃(k:Nat) (s' :Value),k≤L.length∧st=(s',.int .i64 k,())∧OwnB W s' (l++natB L.length++(L.take k).flatMap g)∧Mod (inSl s) w W∧∀b,inSl s' b→inSl s b∨w.heap.size≤b)
  (λst _=>match st.2.1 with| .int _ k=>L.length - k.toNat|_=>0) ⟨0,s1,by omega,rfl,by rw[List.take_zero,List.flatMap_nil,List.append_nil];exact o1,m1,n1⟩ ?_
 rintro _ W ⟨k,s',hk,rfl,oW,mW,nW⟩ KN hKN
 unfold L163_0
 intro _
 by_cases hlt:k<L.length
 ·have hlt' :(k:Int)<(L.length:Int):=by omega
  refine rvS (v:=.bool true) (by simp[go_sem,hlt']<;>first|exact⟨rfl,rfl⟩|exact rfl) ?_
  rw[ifB_bool,if_pos rfl]
  have hRW:=hR.mod mW hsep
  have hmem:=List.getElem_mem hlt
  have htk:=take_succ' hlt
  obtain⟨eb,eo,ei,hA⟩:=sdIt hRW hlt
  refine rvS (ei W _) (rvS (sdLdAt hA) ?_)
  obtain⟨x,hx⟩:∃x,x=L[k]:=⟨_,rfl⟩
  rw[←hx]
  obtain⟨W2,W3,f2,f3,b3,M3⟩:=sdVarF x W
  refine rvS f2 (ruS f3 (rvS (sdLdAt (At.all b3)) ?_))
  refine hcall W3 s' _ x _ (hx▸hmem) (oW.mod M3 λ_ _ h=>h) (by simp only[List.length_append];have:=hfl k;omega) λs2 W4 o4 m4 n4=>?_
  refine rvS (v:=.int .i64 ((k+1:Nat):Int)) (w' :=W4) (by simp[go_sem];rw[wrapI (by omega) (by omega)]) ?_
  have hz:=mW.size
  have hz3:=M3.size
  have MW3:Mod (inSl s) w W3:=mW.trans (M3.mono λ_ _ h=>h.elim)
  refine hKN _ _ ⟨k+1,s2,by omega,rfl,?_,MW3.on m4 nW,λb hb=>?_⟩ (by show L.length - (((k+1:Nat):Int)).toNat<L.length - ((k:Int)).toNat;omega)
  ·rw[htk,←hx,List.flatMap_append,List.flatMap_cons,List.flatMap_nil,List.append_nil,←List.append_assoc];exact o4
  ·rcases n4 b hb with h' |h'
   ·exact nW b h'
   ·exact .inr (by omega)
 ·obtain rfl:k=L.length:=by omega
  refine rvS (v:=.bool false) (by simp[go_sem]<;>first|exact⟨rfl,rfl⟩|exact rfl) ?_
  rw[ifB_bool,if_neg Bool.false_ne_true]
  rw[List.take_length,List.append_assoc]at oW
  exact hK _ _ oW mW nW
end Go.Proofs
