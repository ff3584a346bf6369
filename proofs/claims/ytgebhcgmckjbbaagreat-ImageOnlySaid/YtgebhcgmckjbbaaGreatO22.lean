/- Part of a proof. -/
import Derived.Test.YtgebhcgmckjbbaaGreatO18
import Derived.Test.YtgebhcgmckjbbaaGreatO21
set_option linter.all false
namespace Go.Proofs
open Go Go.Vc
attribute [local congr] Ca_congV
theorem neqSdD(x y:Int×Od)(W:World):(bin .neq tSdF false (sdVF x) (sdVF y)).run Tryz.prog W=.ok (.bool (!decide (x=y))) W:=by
 obtain⟨c,o⟩:=x
 obtain⟨c',o'⟩:=y
 obtain⟨a1,a2,a3,a4,a5⟩:=o
 obtain⟨b1,b2,b3,b4,b5⟩:=o'
 have:(.ok (.bool (!decide (((c,⟨a1,a2,a3,a4,a5⟩):Int×Od)=(c',⟨b1,b2,b3,b4,b5⟩)))) W:Result Value)=.ok (.bool (!(decide (c=c')&& (decide (a1=b1)&& (decide (a2=b2)&& (decide (a3=b3)&& (decide (a4=b4)&& decide (a5=b5)))))))) W:=by
  congr 3
  rw[Bool.eq_iff_iff]
  simp
 rw[this]
 simp[go_sem,sdVF,sdOC,odC]
 (repeat' split)<;>simp_all
set_option maxRecDepth 10000 in
set_option maxHeartbeats 1000000 in
theorem ca_eqSd{w:World}{K:Kont}{a b:Value}{la lb:List (Int×Od)}(ha:Rd w 6 a la.length (la.flatMap sdOC))(hb:Rd w 6 b lb.length (lb.flatMap sdOC))(hl:la.length≤100000)(hK:∀w',Mod (λ_=>False) w w' →K (.bool (decide (la=lb))) w'):Ca Tryz.prog 51 #[a,b] w K:=by
 apply ca51
 unfold F51
 obtain⟨a1,c1,e1⟩:=ha.isSl
 obtain⟨a2,c2,e2⟩:=hb.isSl
 have l1:∀W,(builtin .len #[47] 3 #[false] #[a]).run Tryz.prog W=.ok (.value (.int .i64 (la.length:Int))) W:=λW=>by rw[e1];simp[go_sem]
 refine rnS (l1 _) ?_
 refine rnS (v:=.int .i64 (lb.length:Int)) (w' :=w) (by rw[e2];simp[go_sem]) ?_
 by_cases hlen:la.length=lb.length
 rotate_left
 ·refine rvS (v:=.bool true) (w' :=w) (by simp[go_sem];omega) ?_
  rw[ifB_bool,if_pos rfl]
  have hne:la≠lb:=λe=>hlen (by rw[e])
  have:=hK w (Mod.refl _ _)
  rw[decide_eq_false hne]at this
  exact this
 refine rvS (v:=.bool false) (w' :=w) (by simp[go_sem];omega) ?_
 rw[ifB_bool,if_neg Bool.false_ne_true]
 refine rnS (l1 _) ?_
 refine loopV (λst W=>∃k:Nat,st=(.bool false,.int .i64 k,())∧k≤la.length∧la.take k=lb.take k∧Mod (λ_=>False) w W)
  (λst _=>match st.2.1 with| .int _ k=>la.length - k.toNat|_=>0) ⟨0,rfl,by omega,rfl,Mod.refl _ _⟩ ?_
 rintro _ W ⟨k,rfl,hk,hpre,m⟩ KN hKN
 unfold L51_0
 intro _
 by_cases hlt:k<la.length
 ·have hlt' :(k:Int)<(la.length:Int):=by omega
  refine rvS (v:=.bool true) (by simp[go_sem,hlt']<;>first|exact⟨rfl,rfl⟩|exact rfl) ?_
  rw[ifB_bool,if_pos rfl]
  have md:=m.drew
  have ra:=ha.mod md λ_ _ h=>h
  have rb:=hb.mod md λ_ _ h=>h
  generalize W.drew=W1 at md ra rb⊢
  have hltb:k<lb.length:=by omega
  obtain⟨pb,po,pe,pA⟩:=sdIt ra hlt
  obtain⟨qb,qo,qe,qA⟩:=sdIt rb hltb
  refine rdPS (λW=>pe W _) (rdWS (sdLdAt pA) ?_)
  refine rdPS (λW=>qe W _) (rdWS (sdLdAt qA) ?_)
  refine rdPS (λW=>neqSdD _ _ W) ?_
  by_cases hx:la[k]=lb[k]
  ·rw[decide_eq_true hx,show(!true)=false from rfl,ifB_bool,if_neg Bool.false_ne_true]
   refine rvS (v:=.int .i64 ((k+1:Nat):Int)) (w' :=W1) (by simp[go_sem];rw[wrapI (by omega) (by omega)]) ?_
   refine hKN _ _ ⟨k+1,rfl,by omega,?_,md⟩ (by show la.length - (((k+1:Nat):Int)).toNat<la.length - ((k:Int)).toNat;omega)
   rw[take_succ' hlt,take_succ' hltb,hpre,hx]
  ·rw[decide_eq_false hx,show(!false)=true from rfl,ifB_bool,if_pos rfl]
   have hne:la≠lb:=λe=>hx (by subst e;rfl)
   have:=hK W1 md
   rw[decide_eq_false hne]at this
   exact this
 ·obtain rfl:k=la.length:=by omega
  refine rvS (v:=.bool false) (by simp[go_sem]<;>first|exact⟨rfl,rfl⟩|exact rfl) ?_
  rw[ifB_bool,if_neg Bool.false_ne_true]
  have he:la=lb:=by
   rw[List.take_length,hlen,List.take_length]at hpre
   exact hpre
  have:=hK W m
  rw[decide_eq_true he]at this
  exact this
section
variable{w:World}{b:Nat}{d nx fu:Int}{ss:Nat→Value}
theorem stLd345(h:StBlk w b d nx fu ss)(hs:∀i,3≤i→i≤7→∃a n c,ss i=.slice a n c):(Instr.loadAt 44 (.pointer (some ⟨b,3,none⟩))).run Tryz.prog w=.ok (ss 3) w∧(Instr.loadAt 45 (.pointer (some ⟨b,4,none⟩))).run Tryz.prog w=.ok (ss 4) w∧(Instr.loadAt 46 (.pointer (some ⟨b,5,none⟩))).run Tryz.prog w=.ok (ss 5) w:=
 ⟨stLdI h hs 3 (by omega) (by omega),stLdI h hs 4 (by omega) (by omega),stLdI h hs 5 (by omega) (by omega)⟩
theorem stLdW(h:StBlk w b d nx fu ss)(hs:∀i,3≤i→i≤7→∃a n c,ss i=.slice a n c):(Instr.loadAt tSt (.pointer (some ⟨b,0,none⟩))).run Tryz.prog w=.ok (stV d nx fu ss) w:=by
 have h' :hp w b=some (.cells (stC d nx fu ss).toArray tSt (0,0)):=h
 obtain⟨_,_,_,e3⟩:=hs 3 (by omega) (by omega)
 obtain⟨_,_,_,e4⟩:=hs 4 (by omega) (by omega)
 obtain⟨_,_,_,e5⟩:=hs 5 (by omega) (by omega)
 obtain⟨_,_,_,e6⟩:=hs 6 (by omega) (by omega)
 obtain⟨_,_,_,e7⟩:=hs 7 (by omega) (by omega)
 simp only[stC,stV,e3,e4,e5,e6,e7]at h' ⊢
 simp[go_sem,h']
end
abbrev tVp:TypeId:=23
theorem newVp(W:World):∃w1,(Instr.alloc tVp true (.tuple #[])).run Tryz.prog W=.ok (.pointer (some ⟨W.heap.size,0,none⟩)) w1∧hp w1 W.heap.size=some (.cells #[.pointer none] tVp (0,0))∧Mod (λ_=>False) W w1:=
 ⟨W.alloc (.cells #[.pointer none] tVp),by simp[go_sem],by simp[go_sem],(Mod.refl _ W).alloc _⟩
theorem setVp{W:World}{p:Nat}{x:Value}(v:Nat)(h:hp W p=some (.cells #[x] tVp (0,0))):∃W',(Instr.storeAt tVp (.pointer (some ⟨p,0,none⟩)) (vptr v)).run Tryz.prog W=.ok () W' ∧hp W' p=some (.cells #[vptr v] tVp (0,0))∧Mod (λy=>y=p) W W' :=
 ⟨W.setCell ⟨p,0,none⟩ (vptr v),by simp[go_sem,h,vptr],by simp[go_sem,h],(Mod.refl (λy=>y=p) W).setCell (.inl rfl) _ _⟩
theorem ldVp{W:World}{p v:Nat}(h:hp W p=some (.cells #[vptr v] tVp (0,0))):(Instr.loadAt tVp (.pointer (some ⟨p,0,none⟩))).run Tryz.prog W=.ok (vptr v) W:=by simp[go_sem,h,vptr]
abbrev PoB(W:World)(p:Nat)(x:Po):Prop:=hp W p=some (.cells (cellsPo x).toArray 112 (0,0))
theorem poB0{W:World}{p:Nat}{x:Po}(h:PoB W p x):(Instr.loadAt 35 (.pointer (some ⟨p,0,none⟩))).run Tryz.prog W=.ok (.int .u32 x.c) W:=by
 have h' :hp W p=some (.cells (cellsPo x).toArray 112 (0,0)):=h
 simp only[cellsPo]at h'
 simp[go_sem,h']
theorem poIt{W:World}{s:Value}{L:List Po}(h:Rd W 4 s L.length (L.flatMap cellsPo)){i:Nat}(hi:i<L.length):
  ∃b off,(Instr.indexAt 46 s (.int .i64 (i:Int))).run Tryz.prog W=.ok (.pointer (some ⟨b,off,none⟩)) W∧(Instr.loadAt 112 (.pointer (some ⟨b,off,none⟩))).run Tryz.prog W=.ok (poV L[i]) W:=by
 obtain⟨b,off,cap,hse,hcap,hA⟩:=h.item (show∀x,(cellsPo x).length=4 from λ_=>rfl) hi rfl
 have u:Tryz.prog.underlying 46=some (.slice 112):=by kernel_rfl
 refine⟨b,off+i*4,by rw[hse];simp[go_sem,hi,addr_add,u],?_⟩
 exact run_bigS (P:=Tryz.prog) (t:=112) (by kernel_rfl) (show Tryz.prog.cellsOf 112=3+1 by kernel_rfl) rfl hA
theorem told_len{S:Ven}(h:S.Ok):S.state.ords.length≤100000∧S.state.bids.length≤100000:=by
 have h1:=ordT_len h.ord S.nums.length
 have h2:=bidT_len h.ord S.nums.length
 unfold ordT at h1
 unfold bidT at h2
 rw[List.take_length]at h1 h2
 have h3:=h.cal.len
 have h4:S.nums.length=S.cal.l.length:=by unfold Ven.nums;rw[List.length_map]
 exact⟨by show(S.nums.flatMap _).length≤_;omega,by show(S.nums.flatMap _).length≤_;omega⟩
theorem ven0_bk(s:Sta)(n:Int):({ven0 s with bk:=upd (ven0 s).bk n Bk.empty}:Ven)=ven0 s:=by
 have e:upd (λ_:Int=>Bk.empty) n Bk.empty=λ_=>Bk.empty:=by
  funext m
  unfold upd
  split<;>rfl
 show(⟨(ven0 s).cal,(ven0 s).led,upd (λ_:Int=>Bk.empty) n Bk.empty,(ven0 s).bd,(ven0 s).next⟩:Ven)=_
 rw[e]
 rfl
set_option maxRecDepth 10000 in
set_option maxHeartbeats 8000000 in
theorem ca_vfrom{w:World}{K:Kont}{ss:Nat→Value}{s:Sta}(h:StaR w ss s)(hf:s.Fit)(hl:s.accts.length≤100000∧s.cts.length≤100000∧s.poss.length≤1024∧s.ords.length≤100000∧s.bids.length≤100000)
  (hK:∀(x:Value) (e:Int) (w' :World),Mod (λ_=>False) w w' →(match fromR s with|none=>e=2∧x=.pointer none|some S=>e=0∧∃v F,x=vptr v∧VenQ w' v F S∧∀y,F y→w.heap.size≤y)→K (.tuple #[x,.int .i64 e]) w'):Ca Tryz.prog 13 #[stV s.day s.next s.fund ss] w K:=by
 obtain⟨hlA,hlC,hlP,hlO,hlB⟩:=hl
 have hssl:=h.sl
 have bad:fromR s=none→∀w',Mod (λ_=>False) w w' →K (.tuple #[.pointer none,.int .i64 2]) w' :=λhn w' m=>hK _ 2 w' m (by rw[hn];exact⟨rfl,rfl⟩)
 have nf:¬From0 s→fromR s=none:=λhn=>by unfold fromR;rw[if_neg hn]
 apply ca13
 unfold F13
 obtain⟨w1,e1,b1,m1⟩:=boxStI s.day s.next s.fund ss w
 obtain⟨sb,hsb⟩:∃p,p=w.heap.size:=⟨_,rfl⟩
 rw[←hsb]at e1 b1
 refine rvS e1 (rvS (stFl sb 0 (by omega) _) (rvS (stLdN b1).1 ?_))
 refine rvS (stFl sb 4 (by omega) _) (rvS (stLd345 b1 hssl).2.1 ?_)
 have h1:=h.md0 m1
 refine ca_calfrom h1.cts hlC hf.cts hf.day (λhc16 hcup c Fc w2 qc m2 nc=>?_) λhcn w2 m2=>?_
 rotate_left
 ·refine rvS (v:=.pointer none) (w' :=w2) (by simp[go_sem]) (rvS (v:=.int .i64 2) (w' :=w2) (by simp[go_sem]) ?_)
  refine rvS (v:=.bool true) (w' :=w2) (by simp[go_sem]) ?_
  rw[ifB_bool,if_pos rfl]
  exact bad (nf λh0=>hcn ⟨h0.len,h0.cts⟩) _ (m1.trans m2)
 refine rvS (v:=cptr c) (w' :=w2) (by simp[go_sem]) (rvS (v:=.int .i64 0) (w' :=w2) (by simp[go_sem]) ?_)
 refine rvS (v:=.bool false) (w' :=w2) (by simp[go_sem]) ?_
 rw[ifB_bool,if_neg Bool.false_ne_true]
 have M2:=m1.trans m2
 have h2:=h.md0 M2
 have b2:StBlk w2 sb s.day s.next s.fund ss:=m2.hpk b1 id
 refine rvS (stFl sb 2 (by omega) _) (rvS (stLdN b2).2.2 ?_)
 refine rvS (stFl sb 3 (by omega) _) (rvS (stLd345 b2 hssl).1 ?_)
 refine rvS (stFl sb 5 (by omega) _) (rvS (stLd345 b2 hssl).2.2 ?_)
 refine ca_from (f:=s.fund) h2.accts h2.poss (by omega) hlP (λa ha=>(hf.accts a ha).1) hf.poss (λhF0 w3 l Fl ql m3 nl=>?_) λhF0 w3 m3=>?_
 rotate_left
 ·refine rvS (v:=.pointer none) (w' :=w3) (by simp[go_sem]) (rvS (v:=.int .i64 2) (w' :=w3) (by simp[go_sem]) ?_)
  refine rvS (v:=.bool true) (w' :=w3) (by simp[go_sem]) ?_
  rw[ifB_bool,if_pos rfl]
  exact bad (nf λh0=>hF0 h0.led) _ (M2.trans m3)
 refine rvS (v:=lptr l) (w' :=w3) (by simp[go_sem]) (rvS (v:=.int .i64 0) (w' :=w3) (by simp[go_sem]) ?_)
 refine rvS (v:=.bool false) (w' :=w3) (by simp[go_sem]) ?_
 rw[ifB_bool,if_neg Bool.false_ne_true]
 have M3:=M2.trans m3
 have b3:StBlk w3 sb s.day s.next s.fund ss:=m3.hpk b2 id
 refine JoinW.at (λst W=>st=(.bool (decide (¬(1≤s.next∧s.next≤maxNum+1))),())∧w3=W) ?_ ?_
 ·refine rvS (stFl sb 1 (by omega) _) (rvS (stLdN b3).2.1 ?_)
  refine rvS (v:=.bool (decide (s.next<1))) (w' :=w3) (by simp[go_sem]) ?_
  by_cases c1:s.next<1
  ·rw[ifB_bool,if_pos (by simpa using c1)]
   have:¬1≤s.next:=by omega
   exact⟨by simp[this],rfl⟩
  rw[ifB_bool,if_neg (by simpa using c1)]
  refine rvS (stFl sb 1 (by omega) _) (rvS (stLdN b3).2.1 ?_)
  refine rvS (v:=.bool (decide (¬(1≤s.next∧s.next≤maxNum+1)))) (w' :=w3) ?_ ⟨rfl,rfl⟩
  have c1' :1≤s.next:=by omega
  simp[go_sem,c1',maxNum]
 rintro _ _ ⟨rfl,rfl⟩
 unfold J13_6
 intro _
 by_cases hnx:1≤s.next∧s.next≤maxNum+1
 rotate_left
 ·simp only[decide_eq_true hnx]
  rw[ifB_bool,if_pos rfl]
  exact bad (nf λh0=>hnx h0.next) _ M3
 simp only[decide_eq_false (λhcc:¬(1≤s.next∧s.next≤maxNum+1)=>hcc hnx)]
 rw[ifB_bool,if_neg Bool.false_ne_true]
 have bc:∀x,Fc x→w1.heap.size≤x∧x<w2.heap.size:=λx hx=>⟨nc x hx,qc.lt hx⟩
 have bl:∀x,Fl x→w2.heap.size≤x∧x<w3.heap.size:=λx hx=>⟨nl x hx,ql.lt hx⟩
 replace qc:=qc.mod m3 λ_ _ h=>h
 have z1:=m1.size
 have z2:=m2.size
 have z3:=m3.size
 have hlsb:sb<w1.heap.size:=lt_of_heap b1
 obtain⟨nb,hnb⟩:∃nb,nb=w3.heap.size:=⟨_,rfl⟩
 have m4:Mod (λ_=>False) w3 (w3.alloc (.map #[] 0)):=(Mod.refl _ w3).alloc _
 have ab:MapAt encU bptr (w3.alloc (.map #[] 0)) nb ([]:List (Int×Nat)):=by rw[hnb];exact MapAt.new w3
 refine rvS (v:=.map (some nb)) (w' :=w3.alloc (.map #[] 0)) (by rw[hnb];simp[go_sem]) ?_
 generalize w3.alloc (.map #[] 0)=w4 at m4 ab⊢
 have z4:=m4.size
 have bb:=ab.lt
 replace qc:=qc.mod m4 λ_ _ h=>h
 replace ql:=ql.mod m4 λ_ _ h=>h
 obtain⟨nd,hnd⟩:∃nd,nd=w4.heap.size:=⟨_,rfl⟩
 have m5:Mod (λ_=>False) w4 (w4.alloc (.map #[] 0)):=(Mod.refl _ w4).alloc _
 have ad:MapAt encU idV (w4.alloc (.map #[] 0)) nd ([]:List (Int×Value)):=by rw[hnd];exact MapAt.new w4
 refine rvS (v:=.map (some nd)) (w' :=w4.alloc (.map #[] 0)) (by rw[hnd];simp[go_sem]) ?_
 generalize w4.alloc (.map #[] 0)=w5 at m5 ad⊢
 have z5:=m5.size
 replace qc:=qc.mod m5 λ_ _ h=>h
 replace ql:=ql.mod m5 λ_ _ h=>h
 replace ab:=ab.mod m5 id
 have M5:=(M3.trans m4).trans m5
 have b5:StBlk w5 sb s.day s.next s.fund ss:=m5.hpk (m4.hpk b3 id) id
 refine rvS (stFl sb 1 (by omega) _) (rvS (stLdN b5).2.1 ?_)
 refine rvS (v:=.agg #[cptr c,lptr l,.map (some nb),.map (some nd),.int .u64 s.next]) (w' :=w5) (by simp[go_sem,cptr,lptr]) ?_
 refine ven_box (w:=w1) (S:=ven0 s) (((m2.trans m3).trans m4).trans m5) qc ql ab ad bc bl (by omega) (by omega) (by omega) (by omega) (by omega) (by omega) (by omega) λv w6 fp0 v6 m6 n6=>?_
 rw[cpy_nil]at v6
 replace v6:VenW w6 v c l nb nd [] [] fp0 (ven0 s):=v6
 have b6:StBlk w6 sb s.day s.next s.fund ss:=m6.hpk b1 id
 obtain⟨w7,e7,b7,m7⟩:=newVp w6
 obtain⟨pb,hpb⟩:∃p,p=w6.heap.size:=⟨_,rfl⟩
 rw[←hpb]at e7 b7
 obtain⟨w8,e8,b8,m8⟩:=setVp v b7
 refine rvS e7 (ruS e8 ?_)
 have M68:Mod (λ_=>False) w6 w8:=m7.on m8 λy hy=>.inr (by omega)
 have z6:=m6.size
 have v8:=v6.mod M68 λ_ _ _ h=>h
 refine ca_call v8.cal λgv w9 ht m9=>?_
 have M69:=M68.trans m9
 have z69:=M69.size
 have v9:=v6.mod M69 λ_ _ _ h=>h
 have b9:hp w9 pb=some (.cells #[vptr v] tVp (0,0)):=m9.hpk b8 id
 have s9:StBlk w9 sb s.day s.next s.fund ss:=M69.hpk b6 id
 have hpl6:pb=w6.heap.size:=hpb
 have hf0:∀y,allP fp0 y→w1.heap.size≤y∧y<pb:=λy ⟨pt,hy⟩=>⟨n6 pt y hy,by have:=v6.lt hy;omega⟩
 have hpb9:pb<w9.heap.size:=lt_of_heap b9
 have h0pb:¬allP fp0 pb:=λhc=>by have:=hf0 pb hc;omega
 have h0sb:¬allP fp0 sb:=λhc=>by have:=hf0 sb hc;omega
 have M19:Mod (λ_=>False) w w9:=(m1.trans m6).trans M69
 let I:(Nat→Prop)→Nat→World→Prop:=λX i W=>∃(A' :List (Int×Nat)) (fp' :Pt→Nat→Prop),VenW W v c l nb nd A' [] fp' (ven0 s)∧(∀n,(lk A' n).isSome=true↔∃k∈s.cts.take i,k.spec.num=n)∧(∀y,X y↔allP fp' y)∧∀y,allP fp' y→w1.heap.size≤y∧y≠pb
 obtain⟨hcs,hrise⟩:=calUp_spec hcup
 delta R13_4
 refine RF_out (X0:=allP fp0) (fv:=λk:Ct=>.agg (ctC k).toArray) (asg:=λx W K=>rx Tryz.prog (bigA tCt) W λv w1=>rux Tryz.prog (bigU tCt v x) w1 λw2=>K v w2) (Pv:=PvOf tCt ctC) (xs:=s.cts) ht hasg_ct hPv_of I (λ_ _ _=>False) ?_ (λ_ _ _ _ _ h=>h.elim) (λx ⟨pt,hx⟩=>v9.lt hx) ⟨[],fp0,v9,λn=>?_,λy=>Iff.rfl,λy hy=>⟨(hf0 y hy).1,by have:=(hf0 y hy).2;omega⟩⟩ ?_ ?_ (λ_ _ _ _ _ h=>h.elim)
 ·rintro X i W W' H ⟨A',fp',i1,i2,i3,i4⟩ hm hX
  exact⟨A',fp',i1.mod hm λpt y hy=>hX y ((i3 y).2 ⟨pt,hy⟩),i2,i3,i4⟩
 ·constructor
  ·intro hc;cases hc
  ·rintro⟨k,hk,-⟩
   rw[List.take_zero]at hk;cases hk
 ·rintro X i hi W q vv ⟨A',fp',i1,i2,i3,i4⟩ mW hX hdq hqW ⟨rfl,gq⟩ ⟨rec0,hrec⟩ KN KJ hKN hKJ
  have bW:hp W pb=some (.cells #[vptr v] tVp (0,0)):=mW.hpk b9 h0pb
  obtain⟨n,hn⟩:∃n,n=(s.cts[i]).spec.num:=⟨_,rfl⟩
  have mdr:Mod (λ_=>False) W W.drew:=(Mod.refl _ W).drew
  have i1d:=i1.mod mdr λ_ _ _ h=>h
  have gqd:CtB W.drew q s.cts[i]:=mdr.hpk gq id
  have bd:=mdr.hpk bW id
  have hpW:pb<W.heap.size:=lt_of_heap bW
  have hzd:W.drew.heap.size=W.heap.size:=rfl
  generalize W.drew=W2 at mdr i1d gqd bd hzd⊢
  refine rdWS (ldVp bd) ?_
  simp only[vptr,nilK_ptr]
  refine rdPS (fldV 2 (by omega)) (rdWS (ld2 _ i1d.blk) ?_)
  refine rdPS (v:=.pointer (some ⟨q,0,none⟩)) (λW=>by simp[go_sem]) (rdPS (v:=.pointer (some ⟨q,0,none⟩)) (λW=>by simp[go_sem]) (rdWS (ctB0 gqd) ?_))
  refine ca_bknew λbk Gb w3 q3 m3 n3=>?_
  have i1e:=i1d.mod m3 λ_ _ _ h=>h
  refine⟨ctB0 (m3.hpk gqd id),ld2 _ i1e.blk,ldVp (m3.hpk bd id),?_⟩
  rw[←hn]
  have hA:lk A' n=none:=by
   cases hl:lk A' n with
   |none=>rfl
   |some b=>
    obtain⟨k,hk,hkn⟩:=(i2 n).1 (by rw[hl];rfl)
    exfalso
    have h1:k.spec.num<(s.cts[i]).spec.num:=by
     have hd:s.cts=s.cts.take i++s.cts.drop i:=(List.take_append_drop i s.cts).symm
     have hr:=hrise
     unfold Rising at hr
     rw[hd,List.pairwise_append]at hr
     exact hr.2.2 k hk _ (by rw[List.drop_eq_getElem_cons hi];exact List.mem_cons_self)
    omega
  refine rux_mapUp (enc:=encU) (ev:=bptr) (x:=n) (v:=bk) uMapB kU32 i1e.mbk λw4 a4 m4 hs4=>?_
  have v4:=i1d.addBk (n:=n) hA m3 q3 n3 a4 m4
  rw[ven0_bk]at v4
  have hnb:X nb:=(i3 nb).2 ⟨.mb,(i1.fmb nb).2 rfl⟩
  have hz3:=m3.size
  have hz2:=mdr.size
  refine hKN (allP (updP fp' (.bk n) Gb)) w4 ⟨_,_,v4,λm=>?_,λy=>Iff.rfl,λy ⟨pt,hy⟩=>?_⟩ (((mdr.mono λ_ _ h=>h.elim).trans (m3.mono λ_ _ h=>h.elim)).trans (m4.mono λy _ hy=>by rw[hy];exact hnb)) λy ⟨pt,hy⟩=>⟨?_,v4.lt hy⟩
  ·rw[lk_put,take_succ' hi]
   constructor
   ·intro hm
    by_cases hnm:n=m
    ·exact⟨s.cts[i],List.mem_append_right _ (List.mem_singleton.2 rfl),by rw[←hn];exact hnm⟩
    ·rw[if_neg hnm]at hm
     obtain⟨k,hk,hkm⟩:=(i2 m).1 hm
     exact⟨k,List.mem_append_left _ hk,hkm⟩
   ·rintro⟨k,hk,hkm⟩
    by_cases hnm:n=m
    ·rw[if_pos hnm];rfl
    ·rw[if_neg hnm]
     refine(i2 m).2 ?_
     rcases List.mem_append.1 hk with hk|hk
     ·exact⟨k,hk,hkm⟩
     ·rw[List.mem_singleton.1 hk,←hn]at hkm
      exact absurd hkm hnm
  ·by_cases hpt:pt=.bk n
   ·subst hpt
    rw[updP_self]at hy
    have:=n3 y hy
    exact⟨by omega,by omega⟩
   ·rw[updP_ne hpt]at hy
    exact i4 y ⟨pt,hy⟩
  ·by_cases hpt:pt=.bk n
   ·subst hpt
    rw[updP_self]at hy
    have:=n3 y hy
    exact .inr (by omega)
   ·rw[updP_ne hpt]at hy
    exact .inl ((i3 y).2 ⟨pt,hy⟩)
 rintro X W d hd ⟨A',fp',i1,i2,i3,i4⟩ mW hdef hX
 have vR:VenR W v c l nb nd A' [] fp' (ven0 s):=⟨i1,λn=>by
  rw[Bool.eq_iff_iff,i2 n,List.take_length,←nums_get]
  unfold Ven.nums
  rw[List.mem_map]
  exact Iff.rfl,λn hn=>(by cases hn)⟩
 have hdn:∀y,allP fp' y→y≠d:=λy hy e=>by
  subst e
  rcases(hX y ((i3 y).2 hy)).2 with h' |h'
  ·have:=(hf0 y h').2;omega
  ·omega
 have hdW:d<W.heap.size:=lt_of_heap hdef
 have bW:hp W pb=some (.cells #[vptr v] tVp (0,0)):=mW.hpk b9 h0pb
 have sW:StBlk W sb s.day s.next s.fund ss:=mW.hpk s9 h0sb
 have MW:Mod (λ_=>False) w W:=M19.on mW λy hy=>.inr (by have:=(hf0 y hy).1;omega)
 have hW:=h.md0 MW
 have hzW:=MW.size
 unfold A13_5
 simp only[afterK]
 refine rvS (stFl sb 5 (by omega) _) (rvS (stLd345 sW hssl).2.2 ?_)
 obtain⟨pa,pc,hp5⟩:=hW.poss.isSl
 refine rnS (v:=.int .i64 (s.poss.length:Int)) (w' :=W) (by rw[hp5];simp[go_sem]) ?_
 refine loopV (λst W' =>∃i:Nat,i≤s.poss.length∧st=(.pointer none,.int .i64 0,.int .i64 i,())∧(∀p∈s.poss.take i,calAlive s.cts p.c=0)∧Mod (λ_=>False) W W')
  (λst _=>match st.2.2.1 with| .int _ i=>s.poss.length - i.toNat|_=>0) ⟨0,by omega,rfl,λp hp=>(by rw[List.take_zero]at hp;cases hp),Mod.refl _ _⟩ ?_
 rintro _ W1 ⟨i,hi,rfl,hal,mW1⟩ KN hKN
 unfold L13_1
 intro _
 have hdef1:=mW1.hpk hdef id
 have bW1:=mW1.hpk bW id
 have v1:=vR.md0 mW1
 by_cases hlt:i<s.poss.length
 ·have hlt' :(i:Int)<(s.poss.length:Int):=by omega
  refine rvS (v:=.bool true) (by simp[go_sem,hlt']<;>first|exact⟨rfl,rfl⟩|exact rfl) ?_
  rw[ifB_bool,if_pos rfl]
  obtain⟨eb,eo,e10,e11⟩:=poIt (hW.poss.mod mW1 λ_ _ h=>h) hlt
  refine rvS e10 (rvS e11 ?_)
  obtain⟨x,hx⟩:∃x,x=s.poss[i]:=⟨_,rfl⟩
  rw[←hx]
  obtain⟨w2',w3',e2',e3',b3',m3'⟩:=poVar x W1
  obtain⟨p,hp0⟩:∃p,p=W1.heap.size:=⟨_,rfl⟩
  rw[←hp0]at e2' e3' b3'
  refine rvS e2' (ruS e3' ?_)
  refine rvS (ldVp (m3'.hpk bW1 id)) ?_
  refine rvS (v:=.pointer (some ⟨p,0,none⟩)) (w' :=w3') (by simp[go_sem]) (rvS (poB0 b3') ?_)
  refine ca_valive (v1.md0 m3') λw4' m4' =>?_
  obtain⟨k,hk⟩:∃k,k=calGetR (ven0 s).cal.l x.c:=⟨_,rfl⟩
  rw[←hk]
  refine rvS (by simp[-Int.natCast_add,go_sem]<;>first|exact⟨rfl,rfl⟩|exact rfl) ?_
  refine rvS (by simp[-Int.natCast_add,go_sem]<;>first|exact⟨rfl,rfl⟩|exact rfl) ?_
  refine newCtB _ λw5' b5' m5' =>?_
  obtain⟨z,hz0⟩:∃z,z=w4'.heap.size:=⟨_,rfl⟩
  rw[←hz0]at b5' ⊢
  refine ctBU (k' :=k.1) b5' λw6' b6' m6' =>?_
  have M6' :Mod (λ_=>False) W1 w6' :=((m3'.trans m4').trans m5').on m6' λy hy=>.inr (by have:=(m3'.trans m4').size;omega)
  refine rvS (v:=.bool (!decide (calAlive (ven0 s).cal.l x.c=0))) (w' :=w6') (by simp[go_sem]) ?_
  by_cases hca:calAlive (ven0 s).cal.l x.c=0
  ·rw[decide_eq_true hca,show(!true)=false from rfl,ifB_bool,if_neg Bool.false_ne_true]
   refine rvS (v:=.int .i64 ((i+1:Nat):Int)) (w' :=w6') (by simp[go_sem];rw[wrapI (by omega) (by omega)]) ?_
   refine hKN _ _ ⟨i+1,by omega,rfl,λy hy=>?_,mW1.trans M6'⟩ (by show s.poss.length - (((i+1:Nat):Int)).toNat<s.poss.length - ((i:Int)).toNat;omega)
   rw[take_succ' hlt,←hx]at hy
   rcases List.mem_append.1 hy with hy|hy
   ·exact hal y hy
   ·rw[List.mem_singleton.1 hy];exact hca
  ·rw[decide_eq_false hca,show(!false)=true from rfl,ifB_bool,if_pos rfl]
   refine retV1 (M6'.hpk hdef1 id) λW9 mr=>?_
   refine bad (nf λh0=>hca ?_) _ (((MW.trans mW1).trans M6').on mr λy hy=>.inr ?_)
   ·rw[hx];exact h0.poss _ (List.getElem_mem hlt)
   ·have:=M19.size;omega
 obtain rfl:i=s.poss.length:=by omega
 refine rvS (v:=.bool false) (by simp[go_sem]<;>first|exact⟨rfl,rfl⟩|exact rfl) ?_
 rw[ifB_bool,if_neg Bool.false_ne_true]
 rw[List.take_length]at hal
 have h0:From0 s:=⟨hc16,hcup,hF0,hnx,hal⟩
 have sW1:StBlk W1 sb s.day s.next s.fund ss:=mW1.hpk sW id
 have hW1:=hW.md0 mW1
 have hzW1:=mW1.size
 refine rvS (ldVp bW1) (rvS (stLdW sW1 hssl) ?_)
 have hlow:∀y,allP fp' y→w.heap.size≤y:=λy hy=>by have:=(i4 y hy).1;omega
 have hfr:fromR s=(fillR s).bind λS=>if S.state.ords=s.ords∧S.state.bids=s.bids then some S else none:=by unfold fromR;rw[if_pos h0]
 have hdw:w.heap.size≤d:=by have:=M19.size;omega
 refine ca_vfill (s:=s) v1 (FillI.zero h0 hf) hW1 hf hlO hlB (λj y hj1 hj2 hy hc=>by have:=hlow y hc;have:=(h j hj1 hj2).lt hy;omega) (λT D' fp'' w2' hT vT hI mT nT=>?_) λw2' hT mT=>?_
 rotate_left
 ·refine rvS (v:=.bool true) (w' :=w2') (by simp[go_sem]) ?_
  rw[ifB_bool,if_pos rfl]
  refine retV1 (mT.hpk hdef1 λhc=>hdn d hc rfl) λW9 mr=>?_
  refine bad (by rw[hfr];unfold fillR;rw[hT];rfl) _ (((MW.trans mW1).on mT λy hy=>.inr (hlow y hy)).on mr λy hy=>.inr (by omega))
 refine rvS (v:=.bool false) (w' :=w2') (by simp[go_sem]) ?_
 rw[ifB_bool,if_neg Bool.false_ne_true]
 obtain⟨U,hU⟩:=hI
 have hfl:fillR s=some T:=hT
 have hnpb:¬allP fp' pb:=λhc=>(i4 pb hc).2 rfl
 have bW2:=mT.hpk bW1 hnpb
 have M2' :Mod (λ_=>False) w w2' :=(MW.trans mW1).on mT λy hy=>.inr (hlow y hy)
 have hsbn:¬allP fp' sb:=λhc=>by have:=(i4 sb hc).1;omega
 have sW2:StBlk w2' sb s.day s.next s.fund ss:=mT.hpk sW1 hsbn
 have hdef2:=mT.hpk hdef1 λhc=>hdn d hc rfl
 refine rvS (ldVp bW2) ?_
 refine ca_vstate vT hU.ok λss' tb' lo w3' sT hlo m3' hb' =>?_
 obtain⟨w4',e4',b4',m4'⟩:=newSt w3'
 obtain⟨tb,htb⟩:∃p,p=w3'.heap.size:=⟨_,rfl⟩
 rw[←htb]at e4' b4'
 have hss' :∀i,3≤i→i≤7→∃a n c,ss' i=.slice a n c:=λi hi hj=>by
  obtain⟨a,cc,hs',-⟩:=(sT.own i hi hj).isSl
  exact⟨_,_,_,hs'⟩
 obtain⟨w5',e5',b5',m5'⟩:=stSt (d:=T.cal.day) (n:=T.next) (f:=T.led.fund) (ss:=ss') b4' rfl hss'
 refine rvS e4' (ruS e5' ?_)
 have M45:Mod (λ_=>False) w3' w5' :=m4'.on m5' λy hy=>.inr (by omega)
 have M35:Mod (λ_=>False) w2' w5' :=m3'.trans M45
 have sT5:=sT.mod M45 id λ_ _ _ _ _ h=>h.elim
 have hO6:Rd w5' 6 (ss' 6) T.state.ords.length (T.state.ords.flatMap sdOC):=(sT5.own 6 (by omega) (by omega)).rd
 have hO7:Rd w5' 6 (ss' 7) T.state.bids.length (T.state.bids.flatMap sdOC):=(sT5.own 7 (by omega) (by omega)).rd
 have h5' :=h.md0 (M2'.trans M35)
 have sW5:StBlk w5' sb s.day s.next s.fund ss:=M35.hpk sW2 id
 have hlens:T.state.ords.length≤100000∧T.state.bids.length≤100000:=told_len hU.ok
 refine JoinW.at (λst W' =>st=(.bool (!decide (T.state.ords=s.ords∧T.state.bids=s.bids)),())∧Mod (λ_=>False) w5' W') ?_ ?_
 ·refine rvS (stFl tb 6 (by omega) _) (rvS (stLd6 b5' hss').1 ?_)
  refine rvS (stFl sb 6 (by omega) _) (rvS (stLd6 sW5 hssl).1 ?_)
  refine ca_eqSd hO6 h5'.ords hlens.1 λw6' m6' =>?_
  by_cases c1:T.state.ords=s.ords
  rotate_left
  ·refine rvS (v:=.bool true) (w' :=w6') (by simp[go_sem,c1]) ?_
   rw[ifB_bool,if_pos rfl]
   exact⟨by simp[c1],m6'⟩
  refine rvS (v:=.bool false) (w' :=w6') (by simp[go_sem,c1]) ?_
  rw[ifB_bool,if_neg Bool.false_ne_true]
  have b6' :StBlk w6' tb T.cal.day T.next T.led.fund ss' :=m6'.hpk b5' id
  have sW6:StBlk w6' sb s.day s.next s.fund ss:=m6'.hpk sW5 id
  refine rvS (stFl tb 7 (by omega) _) (rvS (stLd6 b6' hss').2 ?_)
  refine rvS (stFl sb 7 (by omega) _) (rvS (stLd6 sW6 hssl).2 ?_)
  refine ca_eqSd (hO7.mod m6' λ_ _ h=>h) (h5'.md0 m6').bids hlens.2 λw7' m7' =>?_
  refine rvS (v:=.bool (!decide (T.state.ords=s.ords∧T.state.bids=s.bids))) (w' :=w7') (by simp[go_sem,c1]) ?_
  exact⟨rfl,m6'.trans m7'⟩
 rintro _ w6' ⟨rfl,m6'⟩
 unfold J13_0
 intro _
 have M36:=M35.trans m6'
 by_cases hc:T.state.ords=s.ords∧T.state.bids=s.bids
 ·rw[decide_eq_true hc,show(!true)=false from rfl,ifB_bool,if_neg Bool.false_ne_true]
  refine rvS (ldVp (M36.hpk bW2 id)) ?_
  refine retV1 (M36.hpk hdef2 id) λW9 mr=>?_
  refine hK (vptr v) 0 W9 ((M2'.trans M36).on mr λy hy=>.inr (by omega)) ?_
  rw[hfr,hfl,Option.bind_some,if_pos hc]
  refine⟨rfl,v,allP fp'',rfl,((vT.md0 M36).mod mr λpt y hy e=>?_).q,λy hy=>?_⟩
  ·rcases nT y ⟨pt,hy⟩with h' |h'
   ·exact hdn y h' e
   ·omega
  ·rcases nT y hy with h' |h'
   ·exact hlow y h'
   ·omega
 ·rw[decide_eq_false hc,show(!false)=true from rfl,ifB_bool,if_pos rfl]
  refine retV1 (M36.hpk hdef2 id) λW9 mr=>?_
  refine bad ?_ _ ((M2'.trans M36).on mr λy hy=>.inr (by omega))
  rw[hfr,hfl,Option.bind_some,if_neg hc]
end Go.Proofs
namespace Go.Proofs
open Go Go.Vc
attribute [local congr] Ca_congV
theorem take_all{α:Type}{P:α→Prop}{l:List UInt8}{f:Rs→α×Rs}(hf:∀s,P (f s).1):∀(n:Nat) (acc:List α) (s:Rs),(∀x∈acc,P x)→∀x∈(rsTake l f n acc s).1,P x
 |0,acc,s,h=>h
 |n+1,acc,s,h=>by
  unfold rsTake
  split
  ·intro x hx;cases hx
  ·refine take_all hf n _ _ λx hx=>?_
   rcases List.mem_append.1 hx with hx|hx
   ·exact h x hx
   ·rw[List.mem_singleton.1 hx];exact hf s
theorem take_le{α:Type}{l:List UInt8}{f:Rs→α×Rs}:∀(n:Nat) (acc:List α) (s:Rs),(rsTake l f n acc s).1.length≤acc.length+n
 |0,acc,s=>Nat.le_refl _
 |n+1,acc,s=>by
  unfold rsTake
  split
  ·exact Nat.zero_le _
  ·have:=take_le (l:=l) (f:=f) n (acc++[(f s).1]) (f s).2
   rw[List.length_append,List.length_singleton]at this
   omega
theorem list_le{α:Type}{l:List UInt8}{f:Rs→α×Rs}(most:Nat)(s:Rs):(rsList l f most s).1.length≤most:=by
 have:=take_le (l:=l) (f:=f) (rsSmall l most s).1 [] (rsSmall l most s).2
 have h2:=rsSmall_most (l:=l) (most:=most) (s:=s)
 unfold rsList
 rw[List.length_nil]at this
 omega
theorem list_all{α:Type}{P:α→Prop}{l:List UInt8}{f:Rs→α×Rs}(hf:∀s,P (f s).1)(most:Nat)(s:Rs):∀x∈(rsList l f most s).1,P x:=take_all hf _ _ _ λx hx=>(by cases hx)
section
attribute [local irreducible] rsNum rsInt rsFlag rsSp rsList
theorem rsSta_fit(l:List UInt8):(rsSta l).1.Fit where
 day:=num_u32 ..
 next:=num_u64 ..
 fund:=rsInt_fit ..
 accts:=λa ha=>list_all (f:=rsAc l) (P:=λa=>U32' a.num∧R64' a.cash) (λs=>⟨num_u32 _ _,rsInt_fit _ _⟩) 64 _ a ha
 cts:=λa ha=>list_all (f:=rsCt l) (P:=Ct.Fit) (λs=>⟨rsSp_fit _ _,num_u8 _ _,rsInt_fit _ _⟩) 16 _ a ha
 poss:=λa ha=>list_all (f:=rsPo l) (P:=λp=>(U32' p.c∧U32' p.a)∧R64' p.q∧R64' p.b) (λs=>⟨⟨num_u32 _ _,num_u32 _ _⟩,rsInt_fit _ _,rsInt_fit _ _⟩) 1024 _ a ha
 ords:=λa ha=>list_all (f:=rsOd l) (P:=λx=>U32' x.1∧x.2.Fit) (λs=>⟨num_u32 _ _,num_u64 _ _,num_u32 _ _,rsInt_fit _ _,rsInt_fit _ _⟩) 3200 _ a ha
 bids:=λa ha=>list_all (f:=rsOd l) (P:=λx=>U32' x.1∧x.2.Fit) (λs=>⟨num_u32 _ _,num_u64 _ _,num_u32 _ _,rsInt_fit _ _,rsInt_fit _ _⟩) 800 _ a ha
theorem rsSta_len(l:List UInt8):(rsSta l).1.accts.length≤64∧(rsSta l).1.cts.length≤16∧(rsSta l).1.poss.length≤1024∧(rsSta l).1.ords.length≤3200∧(rsSta l).1.bids.length≤800:=
 ⟨list_le ..,list_le ..,list_le ..,list_le ..,list_le ..⟩
end
noncomputable def readR (l:List UInt8):Option (Sta×Ven):=if rsDone l (rsSta l).2=0 then(fromR (rsSta l).1).map λS=>((rsSta l).1,S)else none
section
variable{w:World}{K:Kont}{v:Value}{l:List UInt8}
set_option maxRecDepth 10000 in
set_option maxHeartbeats 4000000 in
theorem ca_iread(h:Rd w 1 v l.length (bv l))(hl:l.length≤1000000000)
  (hok:∀s S ss w',readR l=some (s,S)→StaR w' ss s→Mod (λ_=>False) w w' →K (.tuple #[staV s ss,.int .i64 0]) w')
  (hno:∀w',readR l=none→Mod (λ_=>False) w w' →K (.tuple #[stV 0 0 0 (ss0 nilV),.int .i64 5]) w'):Ca Tryz.prog 18 #[v] w K:=by
 have hv0:∀b,inRd v b→b<w.heap.size:=λb hb=>h.lt hb
 apply ca18
 unfold F18
 obtain⟨w1,e1,b1,m1⟩:=newSt w
 obtain⟨q,hq⟩:∃q,q=w.heap.size:=⟨_,rfl⟩
 rw[←hq]at e1 b1
 refine rvS e1 ?_
 refine ca_newReader (h.mod m1 λ_ _ h=>h) hl λw2 r2 m2=>?_
 have b2:StBlk w2 q 0 0 0 (ss0 nilV):=m2.hpk b1 id
 obtain⟨r,hr⟩:∃r,r=w1.heap.size:=⟨_,rfl⟩
 rw[←hr]at r2⊢
 have hqr:q<r:=by have:=lt_of_heap b1;omega
 refine rvS (v:=rdV r) (w' :=w2) (by simp[go_sem,rptr,rdV]) ?_
 obtain⟨c,hc⟩:∃c,c=w2.heap.size:=⟨_,rfl⟩
 have hlay:∃w4,(w2.alloc (.cells #[.pointer none] tRdr)).setCell ⟨c,0,none⟩ (rptr r)=w4∧Mod (λ_=>False) w2 w4∧RdVar w4 c r:=
  ⟨_,rfl,((Mod.refl _ w2).alloc _).setCell (.inr (by omega)) _ _,by show hp _ _=_;rw[hc];simp[go_sem,rptr]⟩
 obtain⟨w4,hw4,m4,v4⟩:=hlay
 refine rvS (v:=.pointer (some ⟨c,0,none⟩)) (w' :=w2.alloc (.cells #[.pointer none] tRdr)) (by rw[hc];simp[go_sem]) ?_
 refine ruS (w' :=w4) (by rw[←hw4,hc];simp[go_sem,rptr,rdV]) ?_
 clear hw4
 have hrc:r<c:=by have:=r2.lt;omega
 have h4:RdC w4 c r v l ⟨0,0⟩:=⟨r2.mod m4 id λ_ _ h=>h,v4,by omega⟩
 obtain⟨w5,e5,b5,m5⟩:=newSt w4
 obtain⟨p,hp0⟩:∃p,p=w4.heap.size:=⟨_,rfl⟩
 rw[←hp0]at e5 b5
 refine rvS e5 ?_
 have hcp:c<p:=by have:=lt_of_heap v4;omega
 have md:=(Mod.refl (λ_=>False) w5).drew
 have h5:=(h4.md0 m5).md0 md
 have p5:StBlk w5.drew p 0 0 0 (ss0 nilV):=md.hpk b5 id
 have q5:StBlk w5.drew q 0 0 0 (ss0 nilV):=md.hpk (m5.hpk (m4.hpk b2 id) id) id
 have M5:Mod (λb=>b=r) w w5.drew:=((((m1.trans m2).trans m4).trans m5).trans md).mono λ_ _ h=>h.elim
 generalize w5.drew=u5 at h5 p5 q5 M5⊢
 have hpu:=lt_of_heap p5
 have hv:∀b,inRd v b→b<q:=λb hb=>by have:=hv0 b hb;omega
 have hrw:∀{W W' :World} {z:Nat},q≤z→Mod (λb=>b=r) w W→Mod (λy=>y=z) W W' →Mod (λb=>b=r) w W' :=λhz a b=>a.on b λy hy=>.inr (by omega)
 have hst:∀{W W' :World} {t:Rs},RdC W c r v l t→Mod (λy=>y=p) W W' →RdC W' c r v l t:=λh m=>h.st (by omega) hcp (λb hb=>by have:=hv b hb;omega) m
 refine rdWS (rvLV h5.var) (rdPS (λW=>rvF W c) (rdWS (rvL h5.var) (rdPS (λW=>rvF W c) (rdWS (rvL h5.var) ?_))))
 refine ca_iword h5.at_ λw6 r6 m6=>?_
 have h6:=h5.to r6 m6
 refine⟨rvL h6.var,rvL h6.var,rdPS (λW=>stFld W 0 (by omega)) ?_⟩
 refine ca_rnatI h6.at_ λw7 r7 m7=>?_
 have h7:=h6.to r7 m7
 refine⟨rvL h7.var,?_⟩
 refine ca_rint h7.at_ λw8 r8 m8=>?_
 have h8:=h7.to r8 m8
 obtain⟨a1,ha1⟩:∃a,a=rsNum l W32 ⟨0,0⟩:=⟨_,rfl⟩
 rw[←ha1]at h8⊢
 obtain⟨a2,ha2⟩:∃a,a=rsNum l W64 a1.2:=⟨_,rfl⟩
 rw[←ha2]at h8⊢
 obtain⟨a3,ha3⟩:∃a,a=rsInt l a2.2:=⟨_,rfl⟩
 rw[←ha3]at h8⊢
 have p8:StBlk w8 p 0 0 0 (ss0 nilV):=m8.hpk (m7.hpk (m6.hpk p5 (by omega)) (by omega)) (by omega)
 have q8:StBlk w8 q 0 0 0 (ss0 nilV):=m8.hpk (m7.hpk (m6.hpk q5 (by omega)) (by omega)) (by omega)
 have M8:=((M5.trans m6).trans m7).trans m8
 obtain⟨w9,e9,p9,m9⟩:=(stSetN p8).1 a1.1
 refine ruS e9 (rdPS (λW=>stFld W 1 (by omega)) ?_)
 obtain⟨w10,e10,p10,m10⟩:=(stSetN p9).2.1 a2.1
 refine ruS e10 (rdPS (λW=>stFld W 2 (by omega)) ?_)
 obtain⟨w11,e11,p11,m11⟩:=(stSetN p10).2.2 a3.1
 refine ruS e11 ?_
 have h11:=hst (hst (hst h8 m9) m10) m11
 have q11:StBlk w11 q 0 0 0 (ss0 nilV):=m11.hpk (m10.hpk (m9.hpk q8 (by omega)) (by omega)) (by omega)
 have M11:=hrw (by omega) (hrw (by omega) (hrw (by omega) M8 m9) m10) m11
 have kt:∀{W:World} {t:Rs},RdC W c r v l t→∀W1 W2 t (F:Nat→Prop),RdC W1 c r v l t→Mod F W1 W2→(∀y,F y→W.heap.size≤y)→RdC W2 c r v l t:=λhW W1 W2 t F hI m hF=>by
  obtain⟨z1,z2,z3⟩:=hW.lt
  exact⟨hI.at_.mod m (λhf=>by have:=hF _ hf;omega) λb hb hf=>by have:=hF _ hf;have:=z3 b hb;omega,m.hpk hI.var λhf=>by have:=hF _ hf;omega,hI.ne⟩
 refine rvS (rvLV h11.var) ?_
 refine ca_takenAc (most:=64) (f:=rsAc l) (Inv:=λW t=>RdC W c r v l t) h11 (λW t h=>h.at_) (λW W' t t' h h' m=>h.to h' m) (kt h11) (λW t K' hI hk=>by rw[callV_func];exact ca_rdAc hI hk) (by omega) λs3 w12 o12 h12 m12 n12=>?_
 have hs3:∃a n c,s3=.slice a n c:=by obtain⟨a,c,e,-⟩:=o12.isSl;exact⟨a,_,c,e⟩
 obtain⟨a4,ha4⟩:∃a,a=rsList l (rsAc l) 64 a3.2:=⟨_,rfl⟩
 rw[←ha4]at o12 h12
 have p12:StBlk w12 p a1.1 a2.1 a3.1 (ss0 nilV):=m12.hpk p11 (by omega)
 have q12:StBlk w12 q 0 0 0 (ss0 nilV):=m12.hpk q11 (by omega)
 have hp11:=lt_of_heap p11
 refine rvS (stFld _ 3 (by omega)) ?_
 obtain⟨w13,e13,p13,m13⟩:=stSetI p12 ss0_sl 3 (by omega) (by omega) hs3
 refine ruS e13 ?_
 have sl3:=updN_sl ss0_sl 3 hs3
 have N12:∀y,inSl s3 y→p<y:=λy hy=>by have:=n12 y hy;omega
 have o13:=o12.mod m13 λy hy e=>by have:=N12 y hy;omega
 have h13:=hst h12 m13
 have q13:StBlk w13 q 0 0 0 (ss0 nilV):=m13.hpk q12 (by omega)
 have M13:=hrw (by omega) (M11.trans m12) m13
 refine rvS (rvLV h13.var) ?_
 refine ca_takenCt (most:=16) (f:=rsCt l) (Inv:=λW t=>RdC W c r v l t) h13 (λW t h=>h.at_) (λW W' t t' h h' m=>h.to h' m) (kt h13) (λW t K' hI hk=>by rw[callV_func];exact ca_rdCt hI hk) (by omega) λs4 w14 o14 h14 m14 n14=>?_
 have hs4:∃a n c,s4=.slice a n c:=by obtain⟨a,c,e,-⟩:=o14.isSl;exact⟨a,_,c,e⟩
 obtain⟨a5,ha5⟩:∃a,a=rsList l (rsCt l) 16 a4.2:=⟨_,rfl⟩
 rw[←ha5]at o14 h14
 have p14:StBlk w14 p a1.1 a2.1 a3.1 (updN (ss0 nilV) 3 s3):=m14.hpk p13 (by omega)
 have q14:StBlk w14 q 0 0 0 (ss0 nilV):=m14.hpk q13 (by omega)
 have hp13:=lt_of_heap p13
 refine rvS (stFld _ 4 (by omega)) ?_
 obtain⟨w15,e15,p15,m15⟩:=stSetI p14 sl3 4 (by omega) (by omega) hs4
 refine ruS e15 ?_
 have sl4:=updN_sl sl3 4 hs4
 have N14:∀y,inSl s4 y→p<y:=λy hy=>by have:=n14 y hy;omega
 have oA15:=(o13.mod m14 λy hy e=>by have:=N12 y hy;omega).mod m15 λy hy e=>by have:=N12 y hy;omega
 have oC15:=o14.mod m15 λy hy e=>by have:=N14 y hy;omega
 have h15:=hst h14 m15
 have q15:StBlk w15 q 0 0 0 (ss0 nilV):=m15.hpk q14 (by omega)
 have M15:=hrw (by omega) (M13.trans m14) m15
 refine rvS (rvLV h15.var) ?_
 refine ca_takenPo (most:=1024) (f:=rsPo l) (Inv:=λW t=>RdC W c r v l t) h15 (λW t h=>h.at_) (λW W' t t' h h' m=>h.to h' m) (kt h15) (λW t K' hI hk=>by rw[callV_func];exact ca_rdPo hI hk) (by omega) λs5 w16 o16 h16 m16 n16=>?_
 have hs5:∃a n c,s5=.slice a n c:=by obtain⟨a,c,e,-⟩:=o16.isSl;exact⟨a,_,c,e⟩
 obtain⟨a6,ha6⟩:∃a,a=rsList l (rsPo l) 1024 a5.2:=⟨_,rfl⟩
 rw[←ha6]at o16 h16
 have p16:StBlk w16 p a1.1 a2.1 a3.1 (updN (updN (ss0 nilV) 3 s3) 4 s4):=m16.hpk p15 (by omega)
 have q16:StBlk w16 q 0 0 0 (ss0 nilV):=m16.hpk q15 (by omega)
 have hp15:=lt_of_heap p15
 refine rvS (stFld _ 5 (by omega)) ?_
 obtain⟨w17,e17,p17,m17⟩:=stSetI p16 sl4 5 (by omega) (by omega) hs5
 refine ruS e17 ?_
 have sl5:=updN_sl sl4 5 hs5
 have N16:∀y,inSl s5 y→p<y:=λy hy=>by have:=n16 y hy;omega
 have oA17:=(oA15.mod m16 λy hy e=>by have:=N12 y hy;omega).mod m17 λy hy e=>by have:=N12 y hy;omega
 have oC17:=(oC15.mod m16 λy hy e=>by have:=N14 y hy;omega).mod m17 λy hy e=>by have:=N14 y hy;omega
 have oP17:=o16.mod m17 λy hy e=>by have:=N16 y hy;omega
 have h17:=hst h16 m17
 have q17:StBlk w17 q 0 0 0 (ss0 nilV):=m17.hpk q16 (by omega)
 have M17:=hrw (by omega) (M15.trans m16) m17
 refine rvS (rvLV h17.var) (rvS (rvLV h17.var) ?_)
 have hcl:∀W t (K' :Kont),RdC W c r v l t→(∀W',RdC W' c r v l (rsOd l t).2→Mod (λb=>b=r) W W' →K' (sdVI (rsOd l t).1) W')→callV Tryz.prog (.func (.func 73) #[rdV r] #[]) [] W K' :=λW t K' hI hk=>by
  rw[callV_func]
  exact ca_rdOd hI.at_ λW' h' m' =>hk W' (hI.to h' m') m'
 refine ca_takenOd (most:=3200) (f:=rsOd l) (Inv:=λW t=>RdC W c r v l t) h17 (λW t h=>h.at_) (λW W' t t' h h' m=>h.to h' m) (kt h17) hcl (by omega) λs6 w18 o18 h18 m18 n18=>?_
 have hs6:∃a n c,s6=.slice a n c:=by obtain⟨a,c,e,-⟩:=o18.isSl;exact⟨a,_,c,e⟩
 obtain⟨a7,ha7⟩:∃a,a=rsList l (rsOd l) 3200 a6.2:=⟨_,rfl⟩
 rw[←ha7]at o18 h18
 have p18:StBlk w18 p a1.1 a2.1 a3.1 (updN (updN (updN (ss0 nilV) 3 s3) 4 s4) 5 s5):=m18.hpk p17 (by omega)
 have q18:StBlk w18 q 0 0 0 (ss0 nilV):=m18.hpk q17 (by omega)
 have hp17:=lt_of_heap p17
 refine rvS (stFld _ 6 (by omega)) ?_
 obtain⟨w19,e19,p19,m19⟩:=stSetI p18 sl5 6 (by omega) (by omega) hs6
 refine ruS e19 ?_
 have sl6:=updN_sl sl5 6 hs6
 have N18:∀y,inSl s6 y→p<y:=λy hy=>by have:=n18 y hy;omega
 have oA19:=(oA17.mod m18 λy hy e=>by have:=N12 y hy;omega).mod m19 λy hy e=>by have:=N12 y hy;omega
 have oC19:=(oC17.mod m18 λy hy e=>by have:=N14 y hy;omega).mod m19 λy hy e=>by have:=N14 y hy;omega
 have oP19:=(oP17.mod m18 λy hy e=>by have:=N16 y hy;omega).mod m19 λy hy e=>by have:=N16 y hy;omega
 have oO19:=o18.mod m19 λy hy e=>by have:=N18 y hy;omega
 have h19:=hst h18 m19
 have q19:StBlk w19 q 0 0 0 (ss0 nilV):=m19.hpk q18 (by omega)
 have M19:=hrw (by omega) (M17.trans m18) m19
 refine rvS (rvLV h19.var) (rvS (rvLV h19.var) ?_)
 refine ca_takenOd (most:=800) (f:=rsOd l) (Inv:=λW t=>RdC W c r v l t) h19 (λW t h=>h.at_) (λW W' t t' h h' m=>h.to h' m) (kt h19) hcl (by omega) λs7 w20 o20 h20 m20 n20=>?_
 have hs7:∃a n c,s7=.slice a n c:=by obtain⟨a,c,e,-⟩:=o20.isSl;exact⟨a,_,c,e⟩
 obtain⟨a8,ha8⟩:∃a,a=rsList l (rsOd l) 800 a7.2:=⟨_,rfl⟩
 rw[←ha8]at o20 h20
 have p20:StBlk w20 p a1.1 a2.1 a3.1 (updN (updN (updN (updN (ss0 nilV) 3 s3) 4 s4) 5 s5) 6 s6):=m20.hpk p19 (by omega)
 have q20:StBlk w20 q 0 0 0 (ss0 nilV):=m20.hpk q19 (by omega)
 have hp19:=lt_of_heap p19
 refine rvS (stFld _ 7 (by omega)) ?_
 obtain⟨w21,e21,p21,m21⟩:=stSetI p20 sl6 7 (by omega) (by omega) hs7
 refine ruS e21 ?_
 have sl7:=updN_sl sl6 7 hs7
 have N20:∀y,inSl s7 y→p<y:=λy hy=>by have:=n20 y hy;omega
 have oA:=(oA19.mod m20 λy hy e=>by have:=N12 y hy;omega).mod m21 λy hy e=>by have:=N12 y hy;omega
 have oC:=(oC19.mod m20 λy hy e=>by have:=N14 y hy;omega).mod m21 λy hy e=>by have:=N14 y hy;omega
 have oP:=(oP19.mod m20 λy hy e=>by have:=N16 y hy;omega).mod m21 λy hy e=>by have:=N16 y hy;omega
 have oO:=(oO19.mod m20 λy hy e=>by have:=N18 y hy;omega).mod m21 λy hy e=>by have:=N18 y hy;omega
 have oB:=o20.mod m21 λy hy e=>by have:=N20 y hy;omega
 have h21:=hst h20 m21
 have q21:StBlk w21 q 0 0 0 (ss0 nilV):=m21.hpk q20 (by omega)
 have M21:=hrw (by omega) (M19.trans m20) m21
 have M21' :Mod (λ_=>False) w w21:=(Mod.refl _ w).on M21 λy hy=>.inr (by omega)
 obtain⟨ss,hss⟩:∃ss,ss=updN (updN (updN (updN (updN (ss0 nilV) 3 s3) 4 s4) 5 s5) 6 s6) 7 s7:=⟨_,rfl⟩
 obtain⟨st,hst0⟩:∃st:Sta,st=⟨a1.1,a2.1,a3.1,a4.1,a5.1,a6.1,a7.1,a8.1⟩:=⟨_,rfl⟩
 have hread:rsSta l=(st,a8.2):=by
  rw[hst0]
  subst ha8 ha7 ha6 ha5 ha4 ha3 ha2 ha1
  rfl
 have hI:StaR w21 ss st:=by
  intro i hi hj
  have:i=3∨i=4∨i=5∨i=6∨i=7:=by omega
  rw[hss,hst0]
  rcases this with rfl|rfl|rfl|rfl|rfl
  ·exact oA.rd
  ·exact oC.rd
  ·exact oP.rd
  ·exact oO.rd
  ·exact oB.rd
 have hfit:st.Fit:=by have:=rsSta_fit l;rw[hread]at this;exact this
 have hlen:=rsSta_len l
 rw[hread]at hlen
 have hp21:StBlk w21 p st.day st.next st.fund ss:=by rw[hss,hst0];exact p21
 rw[←hss]at sl7
 have hrd:readR l=if rsDone l a8.2=0 then(fromR st).map λS=>(st,S)else none:=by unfold readR;rw[hread]
 have fail:∀W,Mod (λ_=>False) w21 W→readR l=none→rv Tryz.prog (Instr.build tSt #[]) W λv75 w76=>ru Tryz.prog (Instr.storeAt tSt (.pointer (some ⟨q,0,none⟩)) v75) w76 λw77=>rdW Tryz.prog (Instr.loadAt tSt (.pointer (some ⟨q,0,none⟩))) w77 λv78=>K (.tuple #[v78,.int .i64 5]) w77:=by
  intro W m hn
  refine rvS (bldSt0 W) ?_
  obtain⟨W',e',b',m'⟩:=stSt (d:=0) (n:=0) (f:=0) (ss:=ss0 nilV) (m.hpk q21 id) rfl ss0_sl
  refine ruS e' (rdWS (stLd b') ?_)
  exact hno W' hn ((M21'.trans m).on m' λy hy=>.inr (by omega))
 refine rvS (rvF _ _) (rvS (rvL h21.var) ?_)
 refine ca_done h21.at_ λw22 m22=>?_
 refine rvS (v:=.bool (decide (rsDone l a8.2≠0))) (w' :=w22) (by simp[go_sem];try rw[Bool.eq_iff_iff];simp) ?_
 by_cases hd:rsDone l a8.2=0
 ·rw[ifB_bool,if_neg (by simpa using hd)]
  rw[if_pos hd]at hrd
  have p22:StBlk w22 p st.day st.next st.fund ss:=m22.hpk hp21 id
  refine rvS (stLd p22) ?_
  simp only at hlen
  refine ca_vfrom (s:=st) (hI.md0 m22) hfit ⟨by omega,by omega,by omega,by omega,by omega⟩ λx e w23 m23 hx=>?_
  refine rvS (by simp[-Int.natCast_add,go_sem]<;>first|exact⟨rfl,rfl⟩|exact rfl) ?_
  refine rvS (by simp[-Int.natCast_add,go_sem]<;>first|exact⟨rfl,rfl⟩|exact rfl) ?_
  have m223:=m22.trans m23
  cases hf:fromR st with
  |none=>
   rw[hf]at hx hrd
   obtain⟨rfl,rfl⟩:=hx
   refine rvS (v:=.bool true) (w' :=w23) (by simp[go_sem]) ?_
   rw[ifB_bool,if_pos rfl]
   exact fail w23 m223 hrd
  |some S=>
   rw[hf]at hx hrd
   obtain⟨rfl,-⟩:=hx
   refine rvS (v:=.bool false) (w' :=w23) (by simp[go_sem]) ?_
   rw[ifB_bool,if_neg Bool.false_ne_true]
   refine rvS (stLd (m23.hpk p22 id)) ?_
   obtain⟨w24,e24,b24,m24⟩:=stSt (d:=st.day) (n:=st.next) (f:=st.fund) (ss:=ss) (m223.hpk q21 id) rfl sl7
   refine ruS e24 (rdWS (stLd b24) ?_)
   refine hok st S ss w24 hrd (λi hi hj=>((hI.md0 m223) i hi hj).mod m24 λy hy e=>?_) ((M21'.trans m223).on m24 λy hy=>.inr (by omega))
   have hy' :=inRd.sl hy
   have:i=3∨i=4∨i=5∨i=6∨i=7:=by omega
   rw[hss]at hy'
   rcases this with rfl|rfl|rfl|rfl|rfl
   ·have:=N12 y hy';omega
   ·have:=N14 y hy';omega
   ·have:=N16 y hy';omega
   ·have:=N18 y hy';omega
   ·have:=N20 y hy';omega
 ·rw[ifB_bool,if_pos (by simpa using hd)]
  rw[if_neg hd]at hrd
  exact fail w22 m22 hrd
end
end Go.Proofs
namespace Go.Proofs
open Go Go.Vc
attribute [local congr] Ca_congV
def Ven.dep(S:Ven)(x:Cm):Int×Rp×Ven:=((S.led.deposit x.acct x.amt).1,zRp,{S with led:=(S.led.deposit x.acct x.amt).2})
def Ven.depA(S:Ven)(x:Cm):Rp×Ven:=if x.may=false then(failR 160,S)else if(S.dep x).1≠0 then(failR (S.dep x).1,S)else((S.dep x).2.1,(S.dep x).2.2)
set_option maxRecDepth 10000 in
set_option maxHeartbeats 8000000 in
theorem ca_vapplyD{w:World}{K:Kont}{v:Nat}{F:Nat→Prop}{S:Ven}{x:Cm}(h:VenQ w v F S)(hx:x.Fit)(k1:x.kind=1)(hK:Post w v F (S.dep x) K):Ca Tryz.prog 44 #[vptr v,cmV x] w K:=by
 have hQ:=h
 obtain⟨c,l,mb,md,A,D,fp,hr,hF⟩:=h
 apply ca44
 unfold F44
 obtain⟨w1,e1,b1,m1⟩:=boxCm x w
 refine rvS e1 ?_
 obtain⟨p,hp0⟩:∃p,p=w.heap.size:=⟨_,rfl⟩
 rw[←hp0]at b1⊢
 obtain⟨w3,e3,b3,m3⟩:=newRp w1
 refine rvS e3 ?_
 obtain⟨q,hq0⟩:∃q,q=w1.heap.size:=⟨_,rfl⟩
 rw[←hq0]at b3⊢
 have hpq:p<q:=by have:=lt_of_heap b1;omega
 have M3:=m1.trans m3
 have c3:CmAt w3 p x:=m3.hpk b1 id
 have h3:=hr.md0 M3
 have Q3:=hQ.md0 M3
 have hFl:∀y,F y→y<p:=λy hy=>by obtain⟨pt,hp⟩:=(hF y).1 hy;have:=hr.lt hp;omega
 have hfpF:∀pt y,fp pt y→F y:=λpt y hy=>(hF y).2 ⟨_,hy⟩
 have hallF:∀y,allP fp y↔F y:=λy=>(hF y).symm
 have hq3:q<w3.heap.size:=lt_of_heap b3
 have hnq:∀{pt y},fp pt y→y≠q∧y≠p:=λhy=>by have:=hFl _ (hfpF _ _ hy);omega
 obtain⟨f1,f2,f3,f4,f5,f6,f7,f8,f9⟩:=id hx
 have tellZ:∀(e:Int) (T:Ven) (F' :Nat→Prop) (W:World),S.dep x=(e,zRp,T)→VenQ W v F' T→hp W q=some (.cells (rpC zRp nilV nilV nilV).toArray tRp (0,0))→Mod F w W→(∀y,F' y→(F y∨w.heap.size≤y)∧y≠q)→
   ru Tryz.prog (Instr.storeAt tRp (.pointer (some ⟨q,0,none⟩)) (rpV zRp nilV nilV nilV)) W λw20=>rdW Tryz.prog (Instr.loadAt tRp (.pointer (some ⟨q,0,none⟩))) w20 λv21=>K (.tuple #[v21,.int .i64 e]) w20:=by
  intro e T F' W he a b m hn
  obtain⟨W1,g1,x1,y1⟩:=stRp (r:=zRp) b rfl ⟨nilSlV,nilSlV,nilSlV⟩
  refine ruS g1 (rdWS (ldRp x1) ?_)
  exact hK.nil he (a.mod y1 λy hy e=>(hn y hy).2 e) (m.on y1 λy hy=>.inr (by omega)) λy hy=>(hn y hy).1
 refine rvS (cm0F _) (rvS (cm0L c3) ?_)
 have kq:∀{W W' :World} {pt:Pt},Mod (fp pt) W W' →hp W q=some (.cells (rpC zRp nilV nilV nilV).toArray tRp (0,0))→hp W' q=some (.cells (rpC zRp nilV nilV nilV).toArray tRp (0,0)):=λm hh=>m.hpk hh λhc=>(hnq hc).1 rfl
 have mdr:Mod (λ_=>False) w3 w3.drew:=(Mod.refl _ w3).drew
 have hd:=h3.md0 mdr
 have cd:CmAt w3.drew p x:=mdr.hpk c3 id
 have bd:=mdr.hpk b3 id
 have Md:=M3.trans mdr
 have hFQ:∀{W T},VenR W v c l mb md A D fp T→VenQ W v F T:=λa=>⟨c,l,mb,md,A,D,fp,a,hF⟩
 have hsame:∀y,F y→(F y∨w.heap.size≤y)∧y≠q:=λy hy=>⟨.inl hy,by have:=hFl y hy;omega⟩
 have MF:∀{W:World} {pt:Pt},Mod (fp pt) w3.drew W→Mod F w W:=λm=>(Md.mono λ_ _ h=>h.elim).trans (m.mono λy _ hy=>hfpF _ y hy)
 refine rvS (v:=.bool true) (w' :=w3) (by simp[go_sem,k1]) ?_
 rw[ifB_bool,if_pos rfl]
 simp only[vptr,nilK_ptr]
 refine rdWS (ldRp bd) ?_
 refine rdPS (fldV 1 (by omega)) (rdWS (ld1 _ hd.blk) ?_)
 refine rdPS cmF1 (rdWS (cmL1 cd) ?_)
 refine rdPS cmF4 (rdWS (cmL4 cd) ?_)
 refine ca_deposit hd.led f2 λw4 q4 m4=>?_
 have b4:=kq m4 bd
 refine⟨ldRp b4,?_⟩
 exact tellZ _ {S with led:=(S.led.deposit x.acct x.amt).2} F w4 rfl (hFQ (hd.setLed m4 q4)) b4 (MF m4) hsame
set_option maxRecDepth 10000 in
set_option maxHeartbeats 2000000 in
theorem ca_vApplyD{w:World}{K:Kont}{v:Nat}{F:Nat→Prop}{S:Ven}{x:Cm}(h:VenQ w v F S)(hok:S.Ok)(hx:x.Fit)(hk1:x.kind=1)
  (hK:∀sT sG sA F' w',VenQ w' v F' (S.depA x).2→RpQ w' sT sG sA (S.depA x).1→Mod F w w' →(∀y,F' y→F y∨w.heap.size≤y)→(∀y,inSl sT y∨inSl sG y∨inSl sA y→w.heap.size≤y∧¬F' y)→K (rpV (S.depA x).1 sT sG sA) w'):
  Ca Tryz.prog 12 #[vptr v,cmV x] w K:=by
 have hQ:=h
 obtain⟨c,l,mb,md,A,D,fp,hr,hF⟩:=h
 apply ca12
 unfold F12
 obtain⟨w1,e1,b1,m1⟩:=boxCm x w
 refine rvS e1 ?_
 obtain⟨p,hp0⟩:∃p,p=w.heap.size:=⟨_,rfl⟩
 rw[←hp0]at b1⊢
 obtain⟨w3,e3,b3,m3⟩:=newRp w1
 refine rvS e3 ?_
 obtain⟨q,hq0⟩:∃q,q=w1.heap.size:=⟨_,rfl⟩
 rw[←hq0]at b3⊢
 have hpq:p<q:=by have:=lt_of_heap b1;omega
 have M3:=m1.trans m3
 have c3:CmAt w3 p x:=m3.hpk b1 id
 have h3:=hr.md0 M3
 have hFl:∀y,F y→y<p:=λy hy=>by obtain⟨pt,hp⟩:=(hF y).1 hy;have:=hr.lt hp;omega
 have hq3:q<w3.heap.size:=lt_of_heap b3
 have fail:∀(e:Int) (W:World),S.depA x=(failR e,S)→Mod (λ_=>False) w W→hp W q=some (.cells (rpC zRp nilV nilV nilV).toArray tRp (0,0))→
   Ca Tryz.prog 41 #[.int .i64 e] W λv8 w9=>ru Tryz.prog (Instr.storeAt tRp (.pointer (some ⟨q,0,none⟩)) v8) w9 λw10=>rdW Tryz.prog (Instr.loadAt tRp (.pointer (some ⟨q,0,none⟩))) w10 λv11=>K v11 w10:=by
  intro e W he m b
  refine ca_failed λW1 mW1=>?_
  obtain⟨W2,g2,x2,y2⟩:=stRp (r:=failR e) (sT:=nilV) (sG:=nilV) (sA:=nilV) (mW1.hpk b id) rfl ⟨nilSlV,nilSlV,nilSlV⟩
  refine ruS g2 (rdWS (ldRp x2) ?_)
  have hk:=hK nilV nilV nilV F W2
  rw[he]at hk
  refine hk ((hQ.md0 (m.trans mW1)).mod y2 λy hy e=>by have:=hFl y hy;omega) (RpQ.nil _ e) (((m.trans mW1).mono λ_ _ h=>h.elim).on y2 λy hy=>.inr (by have:=m1.size;omega)) (λy hy=>.inl hy) λy hy=>?_
  rcases hy with hy|hy|hy<;>cases hy
 refine ca_vready h3.blk ?_
 refine rvS (v:=.bool false) (w' :=w3) (by simp[go_sem]) ?_
 rw[ifB_bool,if_neg Bool.false_ne_true]
 refine rx_of (cmLd c3) ?_
 refine ca_mayC hx λw4 m4=>?_
 have M4:=M3.trans m4
 have c4:CmAt w4 p x:=m4.hpk c3 id
 have b4:=m4.hpk b3 id
 refine rvS (v:=.bool (!x.may)) (w' :=w4) (by simp[go_sem]) ?_
 cases hmay:x.may with
 |false=>
  rw[show(!false)=true from rfl,ifB_bool,if_pos rfl]
  exact fail 160 w4 (by unfold Ven.depA;rw[if_pos hmay]) M4 b4
 |true=>
  rw[show(!true)=false from rfl,ifB_bool,if_neg Bool.false_ne_true]
  refine ca_vcopy (hr.md0 M4) hok λu Fu w5 Q5 m5 n5=>?_
  have M5:=M4.trans m5
  have c5:CmAt w5 p x:=m5.hpk c4 id
  have b5:=m5.hpk b4 id
  have v5:=m5.hpk (m4.hpk h3.blk id) id
  have hs5:=M4.size
  have hq4:q<w4.heap.size:=lt_of_heap b4
  have hs45:=m5.size
  refine rx_of (cmLd c5) ?_
  refine ca_vapplyD Q5 hx hk1 λsT sG sA F6 w6 a1 a2 a3 a4 a5=>?_
  obtain⟨Y,hY⟩:∃Y,Y=S.dep x:=⟨_,rfl⟩
  rw[←hY]at a1 a2⊢
  refine rvS (by simp[-Int.natCast_add,go_sem]<;>first|exact⟨rfl,rfl⟩|exact rfl) ?_
  refine rvS (by simp[-Int.natCast_add,go_sem]<;>first|exact⟨rfl,rfl⟩|exact rfl) ?_
  have hF6:∀y,F6 y→w4.heap.size≤y:=λy hy=>by
   rcases a4 y hy with h' |h'
   ·exact n5 y h'
   ·omega
  have hFu:∀{y},y<w4.heap.size→¬Fu y:=λh1 h2=>by have:=n5 _ h2;omega
  have b6:=a3.hpk b5 (hFu hq4)
  have hvw:v<w.heap.size:=by have:=hFl v hQ.self;omega
  have v6:=a3.hpk v5 (hFu (by omega))
  have M6:Mod (λ_=>False) w w6:=M5.on a3 λy hy=>.inr (by have:=n5 y hy;omega)
  obtain⟨w7,e7,b7,m7⟩:=newRp w6
  refine rvS e7 ?_
  obtain⟨z,hz⟩:∃z,z=w6.heap.size:=⟨_,rfl⟩
  rw[←hz]at b7⊢
  obtain⟨t1,t2,t3⟩:=a2.isSl
  obtain⟨w8,e8,b8,m8⟩:=stRp (r:=Y.2.1) b7 rfl ⟨t1,t2,t3⟩
  refine ruS e8 ?_
  have M8:Mod (λ_=>False) w6 w8:=m7.on m8 λy hy=>.inr (by omega)
  have M08:=M6.trans M8
  have Q8:=a1.md0 M8
  have R8:=a2.mod M8 λ_ _ h=>h
  have b8q:=M8.hpk b6 id
  have v8:=M8.hpk v6 id
  have hap:S.depA x=if Y.1≠0 then(failR Y.1,S)else(Y.2.1,Y.2.2):=by unfold Ven.depA;rw[if_neg (by rw[hmay];simp),hY]
  by_cases hYe:Y.1≠0
  ·rw[if_pos hYe]at hap
   refine rvS (v:=.bool true) (w' :=w8) (by simp[go_sem,hYe]) ?_
   rw[ifB_bool,if_pos rfl]
   exact fail Y.1 w8 hap M08 b8q
  rw[if_neg hYe]at hap
  have hY0:Y.1=0:=by simpa using hYe
  refine rvS (v:=.bool false) (w' :=w8) (by simp[go_sem,hY0]) ?_
  rw[ifB_bool,if_neg Bool.false_ne_true]
  obtain⟨c6,l6,mb6,md6,A6,D6,fp6,hr6,hF6'⟩:=Q8
  simp only[vptr,nilK_ptr]
  refine rvS (ldVen hr6.blk) ?_
  obtain⟨w9,e9,b9,m9⟩:=stVen (c' :=c6) (l' :=l6) (mb' :=mb6) (md' :=md6) (n' :=Y.2.2.next) v8
  refine ruS e9 ?_
  have hv6:∀pt,¬fp6 pt v:=λpt hc=>by have:=hF6 v ((hF6' v).2 ⟨pt,hc⟩);omega
  have h9:=hr6.move (λpt _=>hv6 pt) b9 m9
  have R9:=R8.mod m9 λy hy e=>by have:=(a5 y hy).1;omega
  have b9z:=m9.hpk b8 (by have:=M6.size;omega)
  have b9q:=m9.hpk b8q (by omega)
  refine rvS (ldRp b9z) ?_
  obtain⟨w10,e10,b10,m10⟩:=stRp (r:=Y.2.1) b9q rfl ⟨t1,t2,t3⟩
  refine ruS e10 (rdWS (ldRp b10) ?_)
  have hsub:∀y,allP (updP fp6 .v λy=>y=v) y→y=v∨F6 y:=λy ⟨pt,hy⟩=>by
   by_cases hpt:pt=.v
   ·subst hpt;rw[updP_self]at hy;exact .inl hy
   ·rw[updP_ne hpt]at hy;exact .inr ((hF6' y).2 ⟨pt,hy⟩)
  have hk:=hK sT sG sA (allP (updP fp6 .v λy=>y=v)) w10
  rw[hap]at hk
  refine hk (h9.mod m10 λpt y hy e=>?_).q (R9.mod m10 λy hy e=>?_) (((M08.mono (G:=F) λ_ _ h=>h.elim).trans (m9.mono λy _ hy=>by rw[hy];exact hQ.self)).on m10 λy hy=>.inr (by omega)) (λy hy=>?_) λy hy=>⟨?_,λhc=>?_⟩
  ·rcases hsub y ⟨pt,hy⟩with h' |h'
   ·omega
   ·have:=hF6 y h';omega
  ·have:=(a5 y hy).1;omega
  ·rcases hsub y hy with h' |h'
   ·exact .inl (h' ▸hQ.self)
   ·exact .inr (by have:=hF6 y h';omega)
  ·have:=(a5 y hy).1;omega
  ·rcases hsub y hc with h' |h'
   ·have:=(a5 y hy).1;omega
   ·exact(a5 y hy).2 h'
end Go.Proofs
set_option maxRecDepth 100000
namespace Go.Proofs
open Go Go.Vc
def F17(w:World)(K:Kont):Prop:=
 Ca Tryz.prog 10 #[] w λv0 w1=>
 Ca Tryz.prog 21 #[v0] w1 λv2 w3=>
 rv Tryz.prog (Instr.extract v2 0) w3 λv4 w5=>
 rv Tryz.prog (Instr.extract v2 1) w5 λv6 w7=>
 Ca Tryz.prog 20 #[v4] w7 λv8 w9=>
 rv Tryz.prog (Instr.extract v8 0) w9 λv10 w11=>
 rv Tryz.prog (Instr.extract v8 1) w11 λv12 w13=>
 rv Tryz.prog (bin .eql 26 true v6 (.int .i64 0)) w13 λv14 w15=>
 ifB v14
 (rx Tryz.prog (xConv 54 9 v4) w15 λv16 w17=>
 rv Tryz.prog (bin .eql 9 true v16 (.string ⟨#[0,1,0,0,0,0,0,0]⟩)) w17 λv18 w19=>
 ifB v18
 (rv Tryz.prog (bin .eql 26 true v12 (.int .i64 0)) w19 λv20 w21=>
 ifB v20
 (rv Tryz.prog (bin .neq 23 true v10 (.pointer none)) w21 λv22 w23=>
 ifB v22
 (rx Tryz.prog (bigB 41 #[(0,(.int .u8 1)),(1,(.int .u32 1)),(4,(.int .i64 5))]) w23 λv24 w25=>
 Ca Tryz.prog 12 #[v10,v24] w25 λv26 w27=>
 rv Tryz.prog (Instr.field 32 v26 0) w27 λv28 w29=>
 rv Tryz.prog (bin .eql 26 true v28 (.int .i64 0)) w29 λv30 w31=>
 K v30 w31)
 (K (.bool false) w23))
 (K (.bool false) w21))
 (K (.bool false) w19))
 (K (.bool false) w15)
theorem F17_eq(w:World)(K:Kont):vcFnJ Tryz.prog Tryz.f17 [] w K=F17 w K:=by kernel_rfl
theorem F17_ok:okF Tryz.prog Tryz.f17 0=true:=by kernel_rfl
theorem ca17{w:World}{K:Kont}(h:F17 w K):Ca Tryz.prog 17 #[] w K:=
 ca_of_vcJ Tryz.noNum Tryz.func17 F17_ok (by rw[F17_eq];exact h)
def F6(a0:Value)(w:World)(K:Kont):Prop:=
 rn Tryz.prog (builtin .len #[54] 3 #[false] #[a0]) w λv0 w1=>
 rv Tryz.prog (bin .gtr 3 true v0 (.int .i64 30000)) w1 λv2 w3=>
 ifB v2
 (Ca Tryz.prog 17 #[] w3 λv4 w5=>
 K v4 w5)
 (rv Tryz.prog (Instr.alloc 66 true (.tuple #[])) w3 λv6 w7=>
 Ca Tryz.prog 21 #[(.pointer none)] w7 λv8 w9=>
 rv Tryz.prog (Instr.extract v8 0) w9 λv10 w11=>
 rv Tryz.prog (Instr.extract v8 1) w11 λv12 w13=>
 Ca Tryz.prog 21 #[v6] w13 λv14 w15=>
 rv Tryz.prog (Instr.extract v14 0) w15 λv16 w17=>
 rv Tryz.prog (Instr.extract v14 1) w17 λv18 w19=>
 Ca Tryz.prog 20 #[a0] w19 λv20 w21=>
 rv Tryz.prog (Instr.extract v20 0) w21 λv22 w23=>
 rv Tryz.prog (Instr.extract v20 1) w23 λv24 w25=>
 rn Tryz.prog (builtin .len #[54] 3 #[false] #[v10]) w25 λv26 w27=>
 rn Tryz.prog (builtin .len #[54] 3 #[false] #[v16]) w27 λv28 w29=>
 rv Tryz.prog (bin .add 3 false v26 v28) w29 λv30 w31=>
 rv Tryz.prog (bin .eql 3 true v30 (.int .i64 0)) w31 λv32 w33=>
 ifB v32
 (rv Tryz.prog (bin .eql 26 true v12 (.int .i64 1)) w33 λv34 w35=>
 ifB v34
 (rv Tryz.prog (bin .eql 26 true v18 (.int .i64 1)) w35 λv36 w37=>
 ifB v36
 (rv Tryz.prog (bin .neq 23 true v22 (.pointer none)) w37 λv38 w39=>
 rv Tryz.prog (bin .eql 26 true v24 (.int .i64 0)) w39 λv40 w41=>
 rv Tryz.prog (bin .eql 4 false v38 v40) w41 λv42 w43=>
 ifB v42
 (Ca Tryz.prog 17 #[] w43 λv44 w45=>
 K v44 w45)
 (K (.bool false) w43))
 (K (.bool false) w37))
 (K (.bool false) w35))
 (K (.bool false) w33))
def F8(a0 a1:Value)(w:World)(K:Kont):Prop:=
 rn Tryz.prog (builtin .len #[54] 3 #[false] #[a0]) w λv0 w1=>
 rv Tryz.prog (bin .gtr 3 true v0 (.int .i64 30000)) w1 λv2 w3=>
 ifB v2
 (Ca Tryz.prog 17 #[] w3 λv4 w5=>
 K v4 w5)
 (Ca Tryz.prog 18 #[a0] w3 λv6 w7=>
 rv Tryz.prog (Instr.extract v6 0) w7 λv8 w9=>
 rv Tryz.prog (Instr.extract v6 1) w9 λv10 w11=>
 rv Tryz.prog (Instr.alloc 49 true (.tuple #[])) w11 λv12 w13=>
 ru Tryz.prog (Instr.storeAt 49 v12 v8) w13 λw14=>
 rv Tryz.prog (bin .neq 26 true v10 (.int .i64 0)) w14 λv15 w16=>
 ifB v15
 (Ca Tryz.prog 17 #[] w16 λv17 w18=>
 K v17 w18)
 (rv Tryz.prog (Instr.loadAt 49 v12) w16 λv19 w20=>
 Ca Tryz.prog 24 #[v19] w20 λv21 w22=>
 rv Tryz.prog (Instr.extract v21 0) w22 λv23 w24=>
 rv Tryz.prog (Instr.extract v21 1) w24 λv25 w26=>
 rx Tryz.prog (xLit 54 0 []) w26 λv27 w28=>
 rx Tryz.prog (xAppend #[54,54] 54 [v27,a0]) w28 λv29 w30=>
 rx Tryz.prog (xLit 54 1 [(0,a1)]) w30 λv31 w32=>
 rx Tryz.prog (xAppend #[54,54] 54 [v29,v31]) w32 λv33 w34=>
 Ca Tryz.prog 18 #[v33] w34 λv35 w36=>
 rv Tryz.prog (Instr.extract v35 0) w36 λv37 w38=>
 rv Tryz.prog (Instr.extract v35 1) w38 λv39 w40=>
 rv Tryz.prog (Instr.alloc 49 true (.tuple #[])) w40 λv41 w42=>
 ru Tryz.prog (Instr.storeAt 49 v41 v37) w42 λw43=>
 rn Tryz.prog (builtin .len #[54] 3 #[false] #[a0]) w43 λv44 w45=>
 rv Tryz.prog (bin .sub 3 true v44 (.int .i64 1)) w45 λv46 w47=>
 rv Tryz.prog (Instr.sliceAt 54 a0 none (some v46) none) w47 λv48 w49=>
 Ca Tryz.prog 18 #[v48] w49 λv50 w51=>
 rv Tryz.prog (Instr.extract v50 0) w51 λv52 w53=>
 rv Tryz.prog (Instr.extract v50 1) w53 λv54 w55=>
 rv Tryz.prog (Instr.alloc 49 true (.tuple #[])) w55 λv56 w57=>
 ru Tryz.prog (Instr.storeAt 49 v56 v52) w57 λw58=>
 rv Tryz.prog (bin .eql 26 true v25 (.int .i64 0)) w58 λv59 w60=>
 ifB v59
 (rx Tryz.prog (xConv 54 9 v23) w60 λv61 w62=>
 rx Tryz.prog (xConv 54 9 a0) w62 λv63 w64=>
 rv Tryz.prog (bin .eql 9 false v61 v63) w64 λv65 w66=>
 ifB v65
 (rv Tryz.prog (bin .eql 26 true v39 (.int .i64 5)) w66 λv67 w68=>
 ifB v67
 (rv Tryz.prog (bin .eql 26 true v54 (.int .i64 5)) w68 λv69 w70=>
 ifB v69
 (Ca Tryz.prog 17 #[] w70 λv71 w72=>
 K v71 w72)
 (K (.bool false) w70))
 (K (.bool false) w68))
 (K (.bool false) w66))
 (K (.bool false) w60)))
theorem F8_eq(a0 a1:Value)(w:World)(K:Kont):vcFnJ Tryz.prog Tryz.f8 [a0,a1] w K=F8 a0 a1 w K:=by kernel_rfl
theorem F8_ok:okF Tryz.prog Tryz.f8 2=true:=by kernel_rfl
theorem ca8{a0 a1:Value}{w:World}{K:Kont}(h:F8 a0 a1 w K):Ca Tryz.prog 8 #[a0,a1] w K:=
 ca_of_vcJ Tryz.noNum Tryz.func8 F8_ok (by rw[F8_eq];exact h)
end Go.Proofs
namespace Go.Proofs
open Go Go.Vc
attribute [local congr] Ca_congV
theorem natB0:natB 0=[0]:=by unfold natB;rfl
theorem natB1:natB 1=[1]:=by unfold natB;rfl
theorem intB0:intB 0=[0]:=by unfold intB;exact natB0
section
variable{w:World}{K:Kont}{s sl fv:Value}{l:List UInt8}
theorem ca_list0Ac(h:OwnB w s l)(hR:Rd w 4 sl 0 [])(hl:l.length≤1000)(hK:∀s' w',OwnB w' s' (l++[0])→Mod (inSl s) w w' →(∀b,inSl s' b→inSl s b∨w.heap.size≤b)→K s' w'):Ca Tryz.prog 155 #[s,sl,fv] w K:=by
 apply ca155
 unfold F155
 obtain⟨a,c,rfl⟩:=hR.isSl
 refine rnS (v:=.int .i64 0) (w' :=w) (by simp[go_sem]) (rvS (v:=.int .u64 0) (w' :=w) (by simp[go_sem];decide) ?_)
 refine ca_wnatB (n:=0) h (by omega) (by omega) λs' w' o m n=>?_
 rw[natB0]at o
 refine rnS (v:=.int .i64 0) (w' :=w') (by simp[go_sem]) ?_
 refine loopV (λst W=>st=(s',.int .i64 0,())∧w' =W) (λ_ _=>0) ⟨rfl,rfl⟩ ?_
 rintro _ _ ⟨rfl,rfl⟩ KN hKN
 unfold L155_0
 intro _
 refine rvS (v:=.bool false) (w' :=w') (by simp[go_sem]) ?_
 rw[ifB_bool,if_neg Bool.false_ne_true]
 exact hK _ _ o m n
theorem ca_list0Ct(h:OwnB w s l)(hR:Rd w 27 sl 0 [])(hl:l.length≤1000)(hK:∀s' w',OwnB w' s' (l++[0])→Mod (inSl s) w w' →(∀b,inSl s' b→inSl s b∨w.heap.size≤b)→K s' w'):Ca Tryz.prog 158 #[s,sl,fv] w K:=by
 apply ca158
 unfold F158
 obtain⟨a,c,rfl⟩:=hR.isSl
 refine rnS (v:=.int .i64 0) (w' :=w) (by simp[go_sem]) (rvS (v:=.int .u64 0) (w' :=w) (by simp[go_sem];decide) ?_)
 refine ca_wnatB (n:=0) h (by omega) (by omega) λs' w' o m n=>?_
 rw[natB0]at o
 refine rnS (v:=.int .i64 0) (w' :=w') (by simp[go_sem]) ?_
 refine loopV (λst W=>st=(s',.int .i64 0,())∧w' =W) (λ_ _=>0) ⟨rfl,rfl⟩ ?_
 rintro _ _ ⟨rfl,rfl⟩ KN hKN
 unfold L158_0
 intro _
 refine rvS (v:=.bool false) (w' :=w') (by simp[go_sem]) ?_
 rw[ifB_bool,if_neg Bool.false_ne_true]
 exact hK _ _ o m n
theorem ca_list0Po(h:OwnB w s l)(hR:Rd w 4 sl 0 [])(hl:l.length≤1000)(hK:∀s' w',OwnB w' s' (l++[0])→Mod (inSl s) w w' →(∀b,inSl s' b→inSl s b∨w.heap.size≤b)→K s' w'):Ca Tryz.prog 161 #[s,sl,fv] w K:=by
 apply ca161
 unfold F161
 obtain⟨a,c,rfl⟩:=hR.isSl
 refine rnS (v:=.int .i64 0) (w' :=w) (by simp[go_sem]) (rvS (v:=.int .u64 0) (w' :=w) (by simp[go_sem];decide) ?_)
 refine ca_wnatB (n:=0) h (by omega) (by omega) λs' w' o m n=>?_
 rw[natB0]at o
 refine rnS (v:=.int .i64 0) (w' :=w') (by simp[go_sem]) ?_
 refine loopV (λst W=>st=(s',.int .i64 0,())∧w' =W) (λ_ _=>0) ⟨rfl,rfl⟩ ?_
 rintro _ _ ⟨rfl,rfl⟩ KN hKN
 unfold L161_0
 intro _
 refine rvS (v:=.bool false) (w' :=w') (by simp[go_sem]) ?_
 rw[ifB_bool,if_neg Bool.false_ne_true]
 exact hK _ _ o m n
theorem ca_list0Sd(h:OwnB w s l)(hR:Rd w 6 sl 0 [])(hl:l.length≤1000)(hK:∀s' w',OwnB w' s' (l++[0])→Mod (inSl s) w w' →(∀b,inSl s' b→inSl s b∨w.heap.size≤b)→K s' w'):Ca Tryz.prog 163 #[s,sl,fv] w K:=by
 apply ca163
 unfold F163
 obtain⟨a,c,rfl⟩:=hR.isSl
 refine rnS (v:=.int .i64 0) (w' :=w) (by simp[go_sem]) (rvS (v:=.int .u64 0) (w' :=w) (by simp[go_sem];decide) ?_)
 refine ca_wnatB (n:=0) h (by omega) (by omega) λs' w' o m n=>?_
 rw[natB0]at o
 refine rnS (v:=.int .i64 0) (w' :=w') (by simp[go_sem]) ?_
 refine loopV (λst W=>st=(s',.int .i64 0,())∧w' =W) (λ_ _=>0) ⟨rfl,rfl⟩ ?_
 rintro _ _ ⟨rfl,rfl⟩ KN hKN
 unfold L163_0
 intro _
 refine rvS (v:=.bool false) (w' :=w') (by simp[go_sem]) ?_
 rw[ifB_bool,if_neg Bool.false_ne_true]
 exact hK _ _ o m n
end
def b8:List UInt8:=[0,1,0,0,0,0,0,0]
set_option maxRecDepth 10000 in
theorem ca_form0{w:World}{K:Kont}{ss:Nat→Value}(h:StaR w ss sta0)(hK:∀s' w',OwnB w' s' b8→Mod (λ_=>False) w w' →(∀b,inSl s' b→w.heap.size≤b)→K s' w'):Ca Tryz.prog 82 #[stV 0 1 0 ss] w K:=by
 have hssl:=h.sl
 apply ca82
 unfold F82
 obtain⟨w1,e1,b1,m1⟩:=boxStI 0 1 0 ss w
 obtain⟨sb,hsb⟩:∃p,p=w.heap.size:=⟨_,rfl⟩
 rw[←hsb]at e1 b1
 refine rvS e1 ?_
 have md:=(Mod.refl (λ_=>False) w1).drew
 have b2:StBlk w1.drew sb 0 1 0 ss:=md.hpk b1 id
 have M2:=m1.trans md
 generalize w1.drew=w2 at md b2 M2⊢
 refine rdPS (λW=>stFl sb 0 (by omega) W) (rdWS (stLdN b2).1 ?_)
 refine rdWS (v:=.int .u64 0) (by simp[go_sem];decide) ?_
 refine rdPS (λW=>stFl sb 1 (by omega) W) (rdWS (stLdN b2).2.1 ?_)
 refine rdPS (λW=>stFl sb 2 (by omega) W) (rdWS (stLdN b2).2.2 ?_)
 refine ca_wnatB (n:=0) (s:=nilV) (l:=[]) (Own.nil _ _ _) (by omega) (by decide) λs3 w3 o3 m3 n3=>?_
 rw[natB0]at o3
 have k3:∀{W W' :World} {s:Value} {z:Nat},StBlk W sb 0 1 0 ss→Mod (inSl s) W W' →(∀b,inSl s b→w1.heap.size≤b)→StBlk W' sb 0 1 0 ss:=λhb m hn=>m.hpk hb λhc=>by have:=hn sb hc;have:=lt_of_heap b1;omega
 have hsz2:w1.heap.size≤w2.heap.size:=md.size
 have hw1:w.heap.size≤w1.heap.size:=m1.size
 have b3:StBlk w3 sb 0 1 0 ss:=m3.hpk b2 λhc=>by cases hc
 have N3:∀b,inSl s3 b→w1.heap.size≤b:=λb hb=>by rcases n3 b hb with h' |h';cases h';omega
 refine⟨(stLdN b3).2.2,(stLdN b3).2.1,?_⟩
 refine ca_wnatB (n:=1) o3 (by omega) (by decide) λs4 w4 o4 m4 n4=>?_
 rw[natB1]at o4
 have z3:=m3.size
 have b4:StBlk w4 sb 0 1 0 ss:=k3 (z:=0) b3 m4 N3
 have N4:∀b,inSl s4 b→w1.heap.size≤b:=λb hb=>by rcases n4 b hb with h' |h';exact N3 b h';omega
 refine⟨(stLdN b4).2.2,?_⟩
 refine ca_wint (x:=0) o4 ⟨by decide,by decide⟩ (by decide) λs5 w5 o5 m5 n5=>?_
 rw[intB0]at o5
 have z4:=m4.size
 have b5:StBlk w5 sb 0 1 0 ss:=k3 (z:=0) b4 m5 N4
 have N5:∀b,inSl s5 b→w1.heap.size≤b:=λb hb=>by rcases n5 b hb with h' |h';exact N4 b h';omega
 have big:∀{F:Nat→Prop} {W:World},Mod (λ_=>False) w W→∀{W' :World},Mod F W W' →(∀b,F b→w1.heap.size≤b)→Mod (λ_=>False) w W' :=λa _ b hn=>a.on b λy hy=>.inr (by have:=hn y hy;omega)
 have M5:=big (big (M2.on m3 λy hy=>by cases hy) m4 N3) m5 N4
 have z5:=m5.size
 refine rvS (stFl sb 3 (by omega) _) (rvS (stLd345 b5 hssl).1 ?_)
 refine ca_list0Ac o5 ((h.md0 M5).accts) (by decide) λs6 w6 o6 m6 n6=>?_
 have b6:StBlk w6 sb 0 1 0 ss:=k3 (z:=0) b5 m6 N5
 have N6:∀b,inSl s6 b→w1.heap.size≤b:=λb hb=>by rcases n6 b hb with h' |h';exact N5 b h';omega
 have M6:=big M5 m6 N5
 have z6:=m6.size
 refine rvS (stFl sb 4 (by omega) _) (rvS (stLd345 b6 hssl).2.1 ?_)
 refine ca_list0Ct o6 ((h.md0 M6).cts) (by decide) λs7 w7 o7 m7 n7=>?_
 have b7:StBlk w7 sb 0 1 0 ss:=k3 (z:=0) b6 m7 N6
 have N7:∀b,inSl s7 b→w1.heap.size≤b:=λb hb=>by rcases n7 b hb with h' |h';exact N6 b h';omega
 have M7:=big M6 m7 N6
 have z7:=m7.size
 refine rvS (stFl sb 5 (by omega) _) (rvS (stLd345 b7 hssl).2.2 ?_)
 refine ca_list0Po o7 ((h.md0 M7).poss) (by decide) λs8 w8 o8 m8 n8=>?_
 have b8:StBlk w8 sb 0 1 0 ss:=k3 (z:=0) b7 m8 N7
 have N8:∀b,inSl s8 b→w1.heap.size≤b:=λb hb=>by rcases n8 b hb with h' |h';exact N7 b h';omega
 have M8:=big M7 m8 N7
 have z8:=m8.size
 have mdr:=(Mod.refl (λ_=>False) w8).drew
 have b9:StBlk w8.drew sb 0 1 0 ss:=mdr.hpk b8 id
 have o9:OwnB w8.drew s8 _:=o8.mod mdr λ_ _ h=>h
 have M9:=M8.trans mdr
 have z9:=mdr.size
 generalize w8.drew=w9 at mdr b9 o9 M9 z9⊢
 refine rdPS (λW=>stFl sb 6 (by omega) W) (rdWS (stLd6 b9 hssl).1 ?_)
 refine rdPS (λW=>stFl sb 7 (by omega) W) (rdWS (stLd6 b9 hssl).2 ?_)
 refine ca_list0Sd o9 ((h.md0 M9).ords) (by decide) λsa wa oa ma na=>?_
 have ba:StBlk wa sb 0 1 0 ss:=k3 (z:=0) b9 ma N8
 have Na:∀b,inSl sa b→w1.heap.size≤b:=λb hb=>by rcases na b hb with h' |h';exact N8 b h';omega
 have Ma:=big M9 ma N8
 have za:=ma.size
 refine⟨(stLd6 ba hssl).2,?_⟩
 refine ca_list0Sd oa ((h.md0 Ma).bids) (by decide) λsc wc oc mc nc=>?_
 refine hK sc wc oc (big Ma mc Na) λb hb=>?_
 rcases nc b hb with h' |h'
 ·have:=Na b h';omega
 ·omega
theorem ca_save0{w:World}{K:Kont}{v:Nat}{F:Nat→Prop}(h:VenQ w v F Ven.empty)(hK:∀s' w',OwnB w' s' b8→Mod (λ_=>False) w w' →K (.tuple #[s',.int .i64 0]) w'):Ca Tryz.prog 21 #[vptr v] w K:=by
 obtain⟨c,l,mb,md,A,D,fp,hr,hF⟩:=h
 apply ca21
 unfold F21
 refine ca_vcopy hr empty_ok λv' F' w1 q1 m1 n1=>?_
 refine rvS (v:=.bool false) (w' :=w1) (by simp[go_sem,vptr]) ?_
 rw[ifB_bool,if_neg Bool.false_ne_true]
 refine ca_vstate (hr.md0 m1) empty_ok λss b lo w2 sT hlo m2 hb=>?_
 have hst:StaR w2 ss sta0:=λi h1 h2=>(sT.own i h1 h2).rd
 refine ca_form0 hst λs' w3 o3 m3 n3=>?_
 exact hK s' w3 o3 ((m1.trans m2).trans m3)
theorem ca_load{w:World}{K:Kont}{v:Value}{l:List UInt8}(h:Rd w 1 v l.length (bv l))(hl:l.length≤1000000000)
  (hok:∀x s S F w',readR l=some (s,S)→VenQ w' x F S→(∀y,F y→w.heap.size≤y)→Mod (λ_=>False) w w' →K (.tuple #[vptr x,.int .i64 0]) w')
  (hno:∀w',readR l=none→Mod (λ_=>False) w w' →K (.tuple #[.pointer none,.int .i64 5]) w'):Ca Tryz.prog 20 #[v] w K:=by
 apply ca20
 unfold F20
 refine ca_iread h hl (λs S ss w1 hr hst m1=>?_) λw1 hr m1=>?_
 ·have hssl:=hst.sl
  have hfr:fromR s=some S∧s=(rsSta l).1:=by
   unfold readR at hr
   by_cases hd:rsDone l (rsSta l).2=0
   ·rw[if_pos hd]at hr
    cases hf:fromR (rsSta l).1 with
    |none=>rw[hf]at hr;cases hr
    |some T=>rw[hf]at hr;cases hr;exact⟨hf,rfl⟩
   ·rw[if_neg hd]at hr;cases hr
  have hfit:s.Fit:=by rw[hfr.2];exact rsSta_fit l
  have hlen:=rsSta_len l
  rw[←hfr.2]at hlen
  refine rvS (v:=staV s ss) (w' :=w1) (by simp[go_sem]) (rvS (v:=.int .i64 0) (w' :=w1) (by simp[go_sem]) ?_)
  obtain⟨w2,e2,b2,m2⟩:=newSt w1
  obtain⟨p,hp0⟩:∃p,p=w1.heap.size:=⟨_,rfl⟩
  rw[←hp0]at e2 b2
  obtain⟨w3,e3,b3,m3⟩:=stSt (d:=s.day) (n:=s.next) (f:=s.fund) (ss:=ss) b2 rfl hssl
  refine rvS e2 (ruS e3 ?_)
  have M3:Mod (λ_=>False) w1 w3:=m2.on m3 λy hy=>.inr (by omega)
  refine rvS (v:=.bool false) (w' :=w3) (by simp[go_sem]) ?_
  rw[ifB_bool,if_neg Bool.false_ne_true]
  have b3' :StBlk w3 p s.day s.next s.fund ss:=b3
  refine rvS (stLdW b3' hssl) ?_
  refine ca_vfrom (s:=s) (hst.md0 M3) hfit ⟨by omega,by omega,by omega,by omega,by omega⟩ λx e w4 m4 hx=>?_
  rw[hfr.1]at hx
  obtain⟨rfl,v',F,rfl,q4,hF⟩:=hx
  refine rvS (v:=vptr v') (w' :=w4) (by simp[go_sem]) (rvS (v:=.int .i64 0) (w' :=w4) (by simp[go_sem]) ?_)
  have hz:=m1.size
  have hz3:=M3.size
  exact hok v' s S F w4 hr q4 (λy hy=>by have:=hF y hy;omega) ((m1.trans M3).trans m4)
 ·refine rvS (v:=stV 0 0 0 (ss0 nilV)) (w' :=w1) (by simp[go_sem]) (rvS (v:=.int .i64 5) (w' :=w1) (by simp[go_sem]) ?_)
  obtain⟨w2,e2,b2,m2⟩:=newSt w1
  obtain⟨p,hp0⟩:∃p,p=w1.heap.size:=⟨_,rfl⟩
  rw[←hp0]at e2 b2
  obtain⟨w3,e3,b3,m3⟩:=stSt (d:=0) (n:=0) (f:=0) (ss:=ss0 nilV) b2 rfl ss0_sl
  refine rvS e2 (ruS e3 ?_)
  have M3:Mod (λ_=>False) w1 w3:=m2.on m3 λy hy=>.inr (by omega)
  refine rvS (v:=.bool true) (w' :=w3) (by simp[go_sem]) ?_
  rw[ifB_bool,if_pos rfl]
  exact hno _ hr (m1.trans M3)
theorem read_b8:readR b8=some (sta0,Ven.empty):=by
 have h1:rsSta b8=(sta0,⟨8,0⟩):=by kernel_rfl
 unfold readR
 rw[h1]
 have h2:rsDone b8 ⟨8,0⟩=0:=by kernel_rfl
 rw[if_pos h2,fromR_sta0]
 rfl
def cDep:Cm:={zCm with kind:=1,acct:=1,amt:=5}
theorem cDep_fit:cDep.Fit:=⟨⟨by decide,by decide⟩,⟨by decide,by decide⟩,⟨by decide,by decide⟩,⟨by decide,by decide⟩,⟨by decide,by decide⟩,zSp_fit,⟨by decide,by decide⟩,⟨by decide,by decide⟩,⟨by decide,by decide⟩⟩
theorem dep_ok:(Ven.empty.depA cDep).1.err=0:=by rfl
theorem bkDep:Tryz.prog.built tCm [(0,.int .u8 1),(1,.int .u32 1),(4,.int .i64 5)]=some (cmC cDep).toArray:=by kernel_rfl
theorem bldDep{w:World}{K:Kont}(hK:K (cmV cDep) w):rx Tryz.prog (bigB tCm #[(0,.int .u8 1),(1,.int .u32 1),(4,.int .i64 5)]) w K:=rx_bigB bkDep hK
theorem fldRpI(r:Rp)(sT sG sA:Value)(W:World):(Instr.field 32 (rpV r sT sG sA) 0).run Tryz.prog W=.ok (.int .i64 r.err) W:=by
 simp[Instr.field,go_sem,part,isAgg,asAgg,rpV]
theorem ca_known17{w:World}{K:Kont}(hK:∀w',Mod (λ_=>False) w w' →K (.bool true) w'):Ca Tryz.prog 17 #[] w K:=by
 apply ca17
 unfold F17
 refine ca_vnew λv F w1 q1 m1 n1=>?_
 refine ca_save0 q1 λs w2 o2 m2=>?_
 refine rvS (v:=s) (w' :=w2) (by simp[go_sem]) (rvS (v:=.int .i64 0) (w' :=w2) (by simp[go_sem]) ?_)
 refine ca_load o2.rd (by decide) (λx s' S F' w3 hr q3 n3 m3=>?_) λw3 hr m3=>?_
 rotate_left
 ·rw[read_b8]at hr;cases hr
 rw[read_b8]at hr
 cases hr
 refine rvS (v:=vptr x) (w' :=w3) (by simp[go_sem]) (rvS (v:=.int .i64 0) (w' :=w3) (by simp[go_sem]) ?_)
 refine rvS (v:=.bool true) (w' :=w3) (by simp[go_sem]) ?_
 rw[ifB_bool,if_pos rfl]
 refine rx_toStr (l:=b8) uBs (by kernel_rfl) (by kernel_rfl) (o2.rd.mod m3 λ_ _ h=>h) ?_
 refine rvS (v:=.bool true) (w' :=w3) (by simp[go_sem,b8,strOf]) ?_
 rw[ifB_bool,if_pos rfl]
 refine rvS (v:=.bool true) (w' :=w3) (by simp[go_sem]) ?_
 rw[ifB_bool,if_pos rfl]
 refine rvS (v:=.bool true) (w' :=w3) (by simp[go_sem,vptr]) ?_
 rw[ifB_bool,if_pos rfl]
 refine bldDep ?_
 refine ca_vApplyD q3 empty_ok cDep_fit rfl λsT sG sA F4 w4 q4 r4 m4 n4 s4=>?_
 refine rvS (v:=.int .i64 (Ven.empty.depA cDep).1.err) (w' :=w4) (fldRpI _ _ _ _ _) ?_
 rw[dep_ok]
 refine rvS (v:=.bool true) (w' :=w4) (by simp[go_sem]) ?_
 refine hK w4 (((m1.trans m2).trans m3).on m4 λy hy=>.inr ?_)
 have:=n3 y hy
 have:=m1.size
 have:=m2.size
 omega
end Go.Proofs
