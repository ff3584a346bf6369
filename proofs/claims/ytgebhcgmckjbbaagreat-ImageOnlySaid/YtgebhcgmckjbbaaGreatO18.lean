/- Part of a proof. -/
import Derived.Test.YtgebhcgmckjbbaaGreatO17
set_option linter.all false
namespace Go.Proofs
open Go Go.Vc
attribute [local congr] Ca_congV
abbrev tRdr:TypeId:=139
def rdV(r:Nat):Value:=.agg #[rptr r]
def cpt(c:Nat):Value:=.pointer (some ⟨c,0,none⟩)
theorem rsNum_12(l:List UInt8)(m:Nat)(s:Rs):(((rsSmall l m s).1:Nat):Int)=(rsNum l m s).1∧(rsSmall l m s).2=(rsNum l m s).2:=⟨rfl,rfl⟩
abbrev RdVar(w:World)(c r:Nat):Prop:=hp w c=some (.cells #[rptr r] tRdr (0,0))
theorem rvL{W:World}{c r:Nat}(h:RdVar W c r):(Instr.loadAt 136 (.pointer (some ⟨c,0,none⟩))).run Tryz.prog W=.ok (rptr r) W:=by
 have h' :hp W c=some (.cells #[rptr r] tRdr (0,0)):=h
 simp only[rptr]at h'
 simp[go_sem,h',rptr]
theorem rvLV{W:World}{c r:Nat}(h:RdVar W c r):(Instr.loadAt tRdr (.pointer (some ⟨c,0,none⟩))).run Tryz.prog W=.ok (rdV r) W:=by
 have h' :hp W c=some (.cells #[rptr r] tRdr (0,0)):=h
 simp only[rptr]at h'
 simp[go_sem,h',rptr,rdV]
theorem rvF(W:World)(c:Nat):(Instr.fieldAt tRdr (.pointer (some ⟨c,0,none⟩)) 0).run Tryz.prog W=.ok (.pointer (some ⟨c,0,none⟩)) W:=by simp[go_sem]
theorem boxRd(r:Nat)(w:World):∃w1,(Instr.box tRdr (rdV r)).run Tryz.prog w=.ok (.pointer (some ⟨w.heap.size,0,none⟩)) w1∧RdVar w1 w.heap.size r∧Mod (λ_=>False) w w1:=
 ⟨w.alloc (.cells #[rptr r] tRdr),rfl,by show hp _ _=_;simp[go_sem],(Mod.refl _ w).alloc _⟩
theorem ca_iword{w:World}{K:Kont}{r:Nat}{v:Value}{l:List UInt8}{s:Rs}(h:RdrAt w r v l s)
  (hK:∀w',RdrAt w' r v l (rsNum l W32 s).2→Mod (λb=>b=r) w w' →K (.int .u32 (rsNum l W32 s).1) w'):Ca Tryz.prog 60 #[rdV r] w K:=by
 apply ca60
 unfold F60
 obtain⟨w1,e1,b1,m1⟩:=boxRd r w
 refine rvS e1 (rvS (rvF _ _) (rvS (rvL b1) ?_))
 refine ca_small (h.mod m1 id λ_ _ h=>h) (most:=4294967295) (by omega) λw2 r2 m2=>?_
 have hn:=num_u32 l s
 obtain⟨x,hx⟩:∃x,x=rsNum l W32 s:=⟨_,rfl⟩
 have e:(((rsSmall l 4294967295 s).1:Nat):Int)=x.1∧(rsSmall l 4294967295 s).2=x.2:=by rw[hx];exact rsNum_12 _ _ _
 rw[e.1]
 rw[e.2]at r2
 rw[←hx]at hn hK
 refine rvS (v:=.int .u32 x.1) (w' :=w2) (by simp[go_sem];rw[IntKind.wrap_u32'];omega) ?_
 exact hK _ r2 ((m1.mono λ_ _ h=>h.elim).trans m2)
theorem ca_rnatI{w:World}{K:Kont}{r:Nat}{v:Value}{l:List UInt8}{s:Rs}(h:RdrAt w r v l s)
  (hK:∀w',RdrAt w' r v l (rsNum l W64 s).2→Mod (λb=>b=r) w w' →K (.int .u64 (rsNum l W64 s).1) w'):Ca Tryz.prog 61 #[rptr r] w K:=ca_rnat h hK
structure RdC(w:World)(c r:Nat)(v:Value)(l:List UInt8)(s:Rs):Prop where
 at_:RdrAt w r v l s
 var:RdVar w c r
 ne:c≠r
section
variable{w w' :World}{K:Kont}{c r:Nat}{v:Value}{l:List UInt8}{s:Rs}
theorem RdC.md0(h:RdC w c r v l s)(m:Mod (λ_=>False) w w'):RdC w' c r v l s:=⟨h.at_.mod m id λ_ _ h=>h,m.hpk h.var id,h.ne⟩
theorem RdC.to(h:RdC w c r v l s){s' :Rs}(h' :RdrAt w' r v l s')(m:Mod (λb=>b=r) w w'):RdC w' c r v l s' :=⟨h',m.hpk h.var h.ne,h.ne⟩
theorem RdC.lt(h:RdC w c r v l s):r<w.heap.size∧c<w.heap.size∧∀b,inRd v b→b<w.heap.size:=⟨h.at_.lt,lt_of_heap h.var,λb hb=>h.at_.rd.lt hb⟩
theorem RdC.st(h:RdC w c r v l s){p:Nat}(hr:r<p)(hc:c<p)(hv:∀b,inRd v b→b<p)(m:Mod (λy=>y=p) w w'):RdC w' c r v l s:=
 ⟨h.at_.mod m (by omega) λb hb e=>by have:=hv b hb;omega,m.hpk h.var (by omega),h.ne⟩
theorem acSt{W:World}{p:Nat}{a:Ac}(h:hp W p=some (.cells (cellsAc a).toArray 92 (0,0))):
  (∀x,∃W',(Instr.storeAt 35 (.pointer (some ⟨p,0,none⟩)) (.int .u32 x)).run Tryz.prog W=.ok () W' ∧hp W' p=some (.cells (cellsAc {a with num:=x}).toArray 92 (0,0))∧Mod (λy=>y=p) W W')∧
  (∀x,∃W',(Instr.storeAt 2 (.pointer (some ⟨p,1,none⟩)) (.int .i64 x)).run Tryz.prog W=.ok () W' ∧hp W' p=some (.cells (cellsAc {a with cash:=x}).toArray 92 (0,0))∧Mod (λy=>y=p) W W')∧
  (∀x,∃W',(Instr.storeAt 4 (.pointer (some ⟨p,2,none⟩)) (.bool x)).run Tryz.prog W=.ok () W' ∧hp W' p=some (.cells (cellsAc {a with kil:=x}).toArray 92 (0,0))∧Mod (λy=>y=p) W W')∧
  (∀x,∃W',(Instr.storeAt 4 (.pointer (some ⟨p,3,none⟩)) (.bool x)).run Tryz.prog W=.ok () W' ∧hp W' p=some (.cells (cellsAc {a with dfl:=x}).toArray 92 (0,0))∧Mod (λy=>y=p) W W'):=by
 simp only[cellsAc]at h⊢
 refine⟨λx=>⟨W.setCell ⟨p,0,none⟩ (.int .u32 x),?_,?_,?_⟩,λx=>⟨W.setCell ⟨p,1,none⟩ (.int .i64 x),?_,?_,?_⟩,λx=>⟨W.setCell ⟨p,2,none⟩ (.bool x),?_,?_,?_⟩,λx=>⟨W.setCell ⟨p,3,none⟩ (.bool x),?_,?_,?_⟩⟩
 all_goals first|exact(Mod.refl (λy=>y=p) W).setCell (.inl rfl) _ _|simp[go_sem,h]
theorem poSt{W:World}{p:Nat}{a:Po}(h:hp W p=some (.cells (cellsPo a).toArray 112 (0,0))):
  (∀x,∃W',(Instr.storeAt 35 (.pointer (some ⟨p,0,none⟩)) (.int .u32 x)).run Tryz.prog W=.ok () W' ∧hp W' p=some (.cells (cellsPo {a with c:=x}).toArray 112 (0,0))∧Mod (λy=>y=p) W W')∧
  (∀x,∃W',(Instr.storeAt 35 (.pointer (some ⟨p,1,none⟩)) (.int .u32 x)).run Tryz.prog W=.ok () W' ∧hp W' p=some (.cells (cellsPo {a with a:=x}).toArray 112 (0,0))∧Mod (λy=>y=p) W W')∧
  (∀x,∃W',(Instr.storeAt 2 (.pointer (some ⟨p,2,none⟩)) (.int .i64 x)).run Tryz.prog W=.ok () W' ∧hp W' p=some (.cells (cellsPo {a with q:=x}).toArray 112 (0,0))∧Mod (λy=>y=p) W W')∧
  (∀x,∃W',(Instr.storeAt 2 (.pointer (some ⟨p,3,none⟩)) (.int .i64 x)).run Tryz.prog W=.ok () W' ∧hp W' p=some (.cells (cellsPo {a with b:=x}).toArray 112 (0,0))∧Mod (λy=>y=p) W W'):=by
 simp only[cellsPo]at h⊢
 refine⟨λx=>⟨W.setCell ⟨p,0,none⟩ (.int .u32 x),?_,?_,?_⟩,λx=>⟨W.setCell ⟨p,1,none⟩ (.int .u32 x),?_,?_,?_⟩,λx=>⟨W.setCell ⟨p,2,none⟩ (.int .i64 x),?_,?_,?_⟩,λx=>⟨W.setCell ⟨p,3,none⟩ (.int .i64 x),?_,?_,?_⟩⟩
 all_goals first|exact(Mod.refl (λy=>y=p) W).setCell (.inl rfl) _ _|simp[go_sem,h]
theorem acVar2{W:World}{p:Nat}{a b:Ac}(h:hp W p=some (.cells (cellsAc a).toArray 92 (0,0))):(Instr.loadAt 92 (.pointer (some ⟨p,0,none⟩))).run Tryz.prog W=.ok (acV a) W∧
  ∃W',(Instr.storeAt 92 (.pointer (some ⟨p,0,none⟩)) (acV b)).run Tryz.prog W=.ok () W' ∧hp W' p=some (.cells (cellsAc b).toArray 92 (0,0))∧Mod (λy=>y=p) W W' :=by
 simp only[cellsAc]at h⊢
 exact⟨by simp[go_sem,h,acV],(((W.setCell ⟨p,0,none⟩ (.int .u32 b.num)).setCell ⟨p,1,none⟩ (.int .i64 b.cash)).setCell ⟨p,2,none⟩ (.bool b.kil)).setCell ⟨p,3,none⟩ (.bool b.dfl),by simp[go_sem,h,acV],by simp[go_sem,h],((((Mod.refl (λy=>y=p) W).setCell (.inl rfl) _ _).setCell (.inl rfl) _ _).setCell (.inl rfl) _ _).setCell (.inl rfl) _ _⟩
theorem poVar2{W:World}{p:Nat}{a b:Po}(h:hp W p=some (.cells (cellsPo a).toArray 112 (0,0))):(Instr.loadAt 112 (.pointer (some ⟨p,0,none⟩))).run Tryz.prog W=.ok (poV a) W∧
  ∃W',(Instr.storeAt 112 (.pointer (some ⟨p,0,none⟩)) (poV b)).run Tryz.prog W=.ok () W' ∧hp W' p=some (.cells (cellsPo b).toArray 112 (0,0))∧Mod (λy=>y=p) W W' :=by
 simp only[cellsPo]at h⊢
 exact⟨by simp[go_sem,h,poV],(((W.setCell ⟨p,0,none⟩ (.int .u32 b.c)).setCell ⟨p,1,none⟩ (.int .u32 b.a)).setCell ⟨p,2,none⟩ (.int .i64 b.q)).setCell ⟨p,3,none⟩ (.int .i64 b.b),by simp[go_sem,h,poV],by simp[go_sem,h],((((Mod.refl (λy=>y=p) W).setCell (.inl rfl) _ _).setCell (.inl rfl) _ _).setCell (.inl rfl) _ _).setCell (.inl rfl) _ _⟩
theorem acF(i:Nat)(hi:i<4)(p:Nat)(W:World):(Instr.fieldAt 92 (.pointer (some ⟨p,0,none⟩)) i).run Tryz.prog W=.ok (.pointer (some ⟨p,i,none⟩)) W:=by
 have:i=0∨i=1∨i=2∨i=3:=by omega
 rcases this with rfl|rfl|rfl|rfl<;>simp[go_sem]
theorem poF(i:Nat)(hi:i<4)(p:Nat)(W:World):(Instr.fieldAt 112 (.pointer (some ⟨p,0,none⟩)) i).run Tryz.prog W=.ok (.pointer (some ⟨p,i,none⟩)) W:=by
 have:i=0∨i=1∨i=2∨i=3:=by omega
 rcases this with rfl|rfl|rfl|rfl<;>simp[go_sem]
set_option maxRecDepth 10000 in
theorem ca_rdAc(h:RdC w c r v l s)(hK:∀w',RdC w' c r v l (rsAc l s).2→Mod (λb=>b=r) w w' →K (acV (rsAc l s).1) w'):Ca Tryz.prog 64 #[cpt c] w K:=by
 apply ca64
 unfold F64 cpt
 obtain⟨hr0,hc0,hv0⟩:=h.lt
 obtain⟨p,hp0⟩:∃p,p=w.heap.size:=⟨_,rfl⟩
 have m1:Mod (λ_=>False) w (w.alloc (.cells (cellsAc ⟨0,0,false,false⟩).toArray 92)):=(Mod.refl _ w).alloc _
 have b1:hp (w.alloc (.cells (cellsAc ⟨0,0,false,false⟩).toArray 92)) p=some (.cells (cellsAc ⟨0,0,false,false⟩).toArray 92 (0,0)):=by rw[hp0];simp[go_sem]
 refine rvS (v:=.pointer (some ⟨p,0,none⟩)) (w' :=w.alloc (.cells (cellsAc ⟨0,0,false,false⟩).toArray 92)) (by rw[hp0];simp[go_sem,cellsAc]) ?_
 generalize w.alloc (.cells (cellsAc ⟨0,0,false,false⟩).toArray 92)=w1 at m1 b1⊢
 have md:=(Mod.refl (λ_=>False) w1).drew
 have h1:=h.md0 (m1.trans md)
 have b1' :=md.hpk b1 id
 have M1:=m1.trans md
 generalize w1.drew=u1 at h1 b1' M1⊢
 have hr:r<p:=by omega
 have hc:c<p:=by omega
 have hv:∀b,inRd v b→b<p:=λb hb=>by have:=hv0 b hb;omega
 have hrw:∀{W W' :World},Mod (λb=>b=r) w W→Mod (λy=>y=p) W W' →Mod (λb=>b=r) w W' :=λa b=>a.on b λy hy=>.inr (by omega)
 refine rdWS (rvLV h1.var) (rdPS (λW=>rvF W c) (rdWS (rvL h1.var) ?_))
 refine ca_iword h1.at_ λw2 r2 m2=>?_
 have h2:=h1.to r2 m2
 have b2:=m2.hpk b1' (by omega)
 have M2:Mod (λb=>b=r) w w2:=(M1.mono λ_ _ h=>h.elim).trans m2
 refine⟨rvL h2.var,rdPS (λW=>acF 0 (by omega) p W) ?_⟩
 refine ca_rint h2.at_ λw3 r3 m3=>?_
 have h3:=h2.to r3 m3
 have b3:=m3.hpk b2 (by omega)
 obtain⟨w4,e4,b4,m4⟩:=(acSt b3).1 (rsNum l W32 s).1
 refine ruS e4 (rdPS (λW=>acF 1 (by omega) p W) ?_)
 obtain⟨w5,e5,b5,m5⟩:=(acSt b4).2.1 (rsInt l (rsNum l W32 s).2).1
 refine ruS e5 ?_
 have h5:=(h3.st hr hc hv m4).st hr hc hv m5
 have M5:=hrw (hrw (M2.trans m3) m4) m5
 have h5' :=h5.md0 (Mod.refl (λ_=>False) w5).drew
 have b5' :=((Mod.refl (λ_=>False) w5).drew).hpk b5 id
 have M5' :=M5.on (Mod.refl (λ_=>False) w5).drew λ_ h=>h.elim
 generalize w5.drew=u5 at h5' b5' M5' ⊢
 refine rdPS (λW=>rvF W c) (rdWS (rvL h5'.var) (rdPS (λW=>rvF W c) (rdWS (rvL h5'.var) ?_)))
 refine ca_rflag h5'.at_ λw6 r6 m6=>?_
 have h6:=h5'.to r6 m6
 have b6:=m6.hpk b5' (by omega)
 refine⟨rvL h6.var,rdPS (λW=>acF 2 (by omega) p W) ?_⟩
 refine ca_rflag h6.at_ λw7 r7 m7=>?_
 have h7:=h6.to r7 m7
 have b7:=m7.hpk b6 (by omega)
 obtain⟨w8,e8,b8,m8⟩:=(acSt b7).2.2.1 (rsFlag l (rsInt l (rsNum l W32 s).2).2).1
 refine ruS e8 (rdPS (λW=>acF 3 (by omega) p W) ?_)
 obtain⟨w9,e9,b9,m9⟩:=(acSt b8).2.2.2 (rsFlag l (rsFlag l (rsInt l (rsNum l W32 s).2).2).2).1
 refine ruS e9 (rvS (acVar2 (b:=⟨0,0,false,false⟩) b9).1 ?_)
 obtain⟨w10,e10,b10,m10⟩:=(acVar2 (b:=(rsAc l s).1) b9).2
 refine ruS e10 (rdWS (acVar2 (b:=⟨0,0,false,false⟩) b10).1 ?_)
 exact hK _ (((h7.st hr hc hv m8).st hr hc hv m9).st hr hc hv m10) (hrw (hrw (hrw ((M5'.trans m6).trans m7) m8) m9) m10)
set_option maxRecDepth 10000 in
theorem ca_rdPo(h:RdC w c r v l s)(hK:∀w',RdC w' c r v l (rsPo l s).2→Mod (λb=>b=r) w w' →K (poV (rsPo l s).1) w'):Ca Tryz.prog 71 #[cpt c] w K:=by
 apply ca71
 unfold F71 cpt
 obtain⟨hr0,hc0,hv0⟩:=h.lt
 obtain⟨p,hp0⟩:∃p,p=w.heap.size:=⟨_,rfl⟩
 have m1:Mod (λ_=>False) w (w.alloc (.cells (cellsPo ⟨0,0,0,0⟩).toArray 112)):=(Mod.refl _ w).alloc _
 have b1:hp (w.alloc (.cells (cellsPo ⟨0,0,0,0⟩).toArray 112)) p=some (.cells (cellsPo ⟨0,0,0,0⟩).toArray 112 (0,0)):=by rw[hp0];simp[go_sem]
 refine rvS (v:=.pointer (some ⟨p,0,none⟩)) (w' :=w.alloc (.cells (cellsPo ⟨0,0,0,0⟩).toArray 112)) (by rw[hp0];simp[go_sem,cellsPo]) ?_
 generalize w.alloc (.cells (cellsPo ⟨0,0,0,0⟩).toArray 112)=w1 at m1 b1⊢
 have md:=(Mod.refl (λ_=>False) w1).drew
 have h1:=h.md0 (m1.trans md)
 have b1' :=md.hpk b1 id
 have M1:=m1.trans md
 generalize w1.drew=u1 at h1 b1' M1⊢
 have hr:r<p:=by omega
 have hc:c<p:=by omega
 have hv:∀b,inRd v b→b<p:=λb hb=>by have:=hv0 b hb;omega
 have hrw:∀{W W' :World},Mod (λb=>b=r) w W→Mod (λy=>y=p) W W' →Mod (λb=>b=r) w W' :=λa b=>a.on b λy hy=>.inr (by omega)
 refine rdWS (rvLV h1.var) (rdWS (rvLV h1.var) ?_)
 refine ca_iword h1.at_ λw2 r2 m2=>?_
 have h2:=h1.to r2 m2
 have b2:=m2.hpk b1' (by omega)
 have M2:Mod (λb=>b=r) w w2:=(M1.mono λ_ _ h=>h.elim).trans m2
 refine⟨rvLV h2.var,rdPS (λW=>poF 0 (by omega) p W) ?_⟩
 refine ca_iword h2.at_ λw3 r3 m3=>?_
 have h3:=h2.to r3 m3
 have b3:=m3.hpk b2 (by omega)
 obtain⟨w4,e4,b4,m4⟩:=(poSt b3).1 (rsNum l W32 s).1
 refine ruS e4 (rdPS (λW=>poF 1 (by omega) p W) ?_)
 obtain⟨w5,e5,b5,m5⟩:=(poSt b4).2.1 (rsNum l W32 (rsNum l W32 s).2).1
 refine ruS e5 ?_
 have h5:=(h3.st hr hc hv m4).st hr hc hv m5
 have M5:=hrw (hrw (M2.trans m3) m4) m5
 have h5' :=h5.md0 (Mod.refl (λ_=>False) w5).drew
 have b5' :=((Mod.refl (λ_=>False) w5).drew).hpk b5 id
 have M5' :=M5.on (Mod.refl (λ_=>False) w5).drew λ_ h=>h.elim
 generalize w5.drew=u5 at h5' b5' M5' ⊢
 refine rdPS (λW=>rvF W c) (rdWS (rvL h5'.var) (rdPS (λW=>rvF W c) (rdWS (rvL h5'.var) ?_)))
 refine ca_rint h5'.at_ λw6 r6 m6=>?_
 have h6:=h5'.to r6 m6
 have b6:=m6.hpk b5' (by omega)
 refine⟨rvL h6.var,rdPS (λW=>poF 2 (by omega) p W) ?_⟩
 refine ca_rint h6.at_ λw7 r7 m7=>?_
 have h7:=h6.to r7 m7
 have b7:=m7.hpk b6 (by omega)
 obtain⟨w8,e8,b8,m8⟩:=(poSt b7).2.2.1 (rsInt l (rsNum l W32 (rsNum l W32 s).2).2).1
 refine ruS e8 (rdPS (λW=>poF 3 (by omega) p W) ?_)
 obtain⟨w9,e9,b9,m9⟩:=(poSt b8).2.2.2 (rsInt l (rsInt l (rsNum l W32 (rsNum l W32 s).2).2).2).1
 refine ruS e9 (rvS (poVar2 (b:=⟨0,0,0,0⟩) b9).1 ?_)
 obtain⟨w10,e10,b10,m10⟩:=(poVar2 (b:=(rsPo l s).1) b9).2
 refine ruS e10 (rdWS (poVar2 (b:=⟨0,0,0,0⟩) b10).1 ?_)
 exact hK _ (((h7.st hr hc hv m8).st hr hc hv m9).st hr hc hv m10) (hrw (hrw (hrw ((M5'.trans m6).trans m7) m8) m9) m10)
theorem hzCt:hasZero Tryz.prog tCt=true:=by kernel_rfl
abbrev CtAt(W:World)(p:Nat)(k:Ct):Prop:=hp W p=some (.cells (ctC k).toArray tCt (0,0))
theorem ctC_lenI(k:Ct):(ctC k).length=26+1:=ctC_len k
theorem nCtI:Tryz.prog.cellsOf tCt=26+1:=by kernel_rfl
theorem aCtI:isAggT Tryz.prog tCt=true:=by kernel_rfl
theorem ctC_oneI(k:Ct):(ctC k).all (·.oneCell')=true:=by
 unfold ctC
 rw[List.all_append,spC_one]
 rfl
theorem ctGi(k:Ct):(ctC k)[25]? =some (.int .u8 k.st)∧(ctC k)[26]? =some (.int .i64 k.price):=by
 unfold ctC
 constructor<;>(rw[List.getElem?_append_right (by rw[spC_len];omega),spC_len];rfl)
theorem ctS(k:Ct)(x:Int):(ctC k).set 25 (.int .u8 x)=ctC {k with st:=x}∧(ctC k).set 26 (.int .i64 x)=ctC {k with price:=x}:=by
 unfold ctC
 constructor<;>(rw[List.set_append_right _ _ (by rw[spC_len];omega),spC_len];rfl)
theorem ctSt{W:World}{p:Nat}{k:Ct}(h:CtAt W p k):
  (∀x,∃W',(Instr.storeAt 106 (.pointer (some ⟨p,25,none⟩)) (.int .u8 x)).run Tryz.prog W=.ok () W' ∧CtAt W' p {k with st:=x}∧Mod (λy=>y=p) W W')∧
  (∀x,∃W',(Instr.storeAt 2 (.pointer (some ⟨p,26,none⟩)) (.int .i64 x)).run Tryz.prog W=.ok () W' ∧CtAt W' p {k with price:=x}∧Mod (λy=>y=p) W W'):=by
 have h' :hp W p=some (.cells (ctC k).toArray tCt (0,0)):=h
 obtain⟨g1,g2⟩:=ctGi k
 refine⟨λx=>⟨W.setCell ⟨p,25,none⟩ (.int .u8 x),by simp[go_sem,h',g1],?_,(Mod.refl (λy=>y=p) W).setCell (.inl rfl) _ _⟩,λx=>⟨W.setCell ⟨p,26,none⟩ (.int .i64 x),by simp[go_sem,h',g2],?_,(Mod.refl (λy=>y=p) W).setCell (.inl rfl) _ _⟩⟩
 ·show hp _ _=_
  rw[←(ctS k x).1];simp[go_sem,h']
 ·show hp _ _=_
  rw[←(ctS k x).2];simp[go_sem,h']
theorem ctU{W:World}{p:Nat}{k:Ct}{s:Sp}{K:World→Prop}(h:CtAt W p k)(hK:∀W',CtAt W' p {k with spec:=s}→Mod (λy=>y=p) W W' →K W'):rux Tryz.prog (bigU tSpec (.pointer (some ⟨p,0,none⟩)) (.agg (spC s).toArray)) W K:=by
 have hh:W.heap[p]? =some (.cells (ctC k).toArray tCt (0,0)):=h
 refine rux_bigU nSp (spC_len s) hh (by rw[List.size_toArray,spC_len,ctC_len];omega) (spC_one _) (hK _ ?_ ((Mod.refl (λy=>y=p) W).setRow (.inl rfl) _))
 show(W.setRow p _).heap[p]? =_
 rw[heap_setRow,if_pos rfl,hh]
 have:lay (ctC k).toArray.toList 0 (spC s)=ctC {k with spec:=s}:=by
  unfold lay ctC
  simp only[List.take_zero,List.nil_append,Nat.zero_add,spC_len]
  rw[List.drop_append_of_le_length (by rw[spC_len];exact Nat.le_refl _),List.drop_of_length_le (by rw[spC_len];exact Nat.le_refl _)]
  rfl
 rw[this]
theorem ctUU{W:World}{p:Nat}{k k' :Ct}{K:World→Prop}(h:CtAt W p k)(hK:∀W',CtAt W' p k' →Mod (λy=>y=p) W W' →K W'):rux Tryz.prog (bigU tCt (.pointer (some ⟨p,0,none⟩)) (.agg (ctC k').toArray)) W K:=by
 have hh:W.heap[p]? =some (.cells (ctC k).toArray tCt (0,0)):=h
 refine rux_bigU nCtI (ctC_lenI k') hh (by rw[List.size_toArray,ctC_len,ctC_len];omega) (ctC_oneI _) (hK _ ?_ ((Mod.refl (λy=>y=p) W).setRow (.inl rfl) _))
 show(W.setRow p _).heap[p]? =_
 rw[heap_setRow,if_pos rfl,hh,lay_all (by rw[ctC_len];simp[ctC_len])]
attribute [local irreducible] rsNum rsInt rsFlag rsSp
set_option maxRecDepth 10000 in
theorem ca_rdCt(h:RdC w c r v l s)(hK:∀w',RdC w' c r v l (rsCt l s).2→Mod (λb=>b=r) w w' →K (.agg (ctC (rsCt l s).1).toArray) w'):Ca Tryz.prog 67 #[cpt c] w K:=by
 apply ca67
 unfold F67 cpt
 obtain⟨hr0,hc0,hv0⟩:=h.lt
 refine rx_bigA hzCt ?_
 rw[zeroCt]
 obtain⟨p,hp0⟩:∃p,p=w.heap.size:=⟨_,rfl⟩
 have m1:Mod (λ_=>False) w (w.alloc (.cells (ctC zCt0).toArray tCt)):=(Mod.refl _ w).alloc _
 have b1:CtAt (w.alloc (.cells (ctC zCt0).toArray tCt)) p zCt0:=by show hp _ _=_;rw[hp0];simp[go_sem]
 rw[←hp0]
 generalize w.alloc (.cells (ctC zCt0).toArray tCt)=w1 at m1 b1⊢
 have h1:=h.md0 m1
 have hr:r<p:=by omega
 have hc:c<p:=by omega
 have hv:∀b,inRd v b→b<p:=λb hb=>by have:=hv0 b hb;omega
 have hrw:∀{W W' :World},Mod (λb=>b=r) w W→Mod (λy=>y=p) W W' →Mod (λb=>b=r) w W' :=λa b=>a.on b λy hy=>.inr (by omega)
 have M1:Mod (λb=>b=r) w w1:=m1.mono λ_ _ h=>h.elim
 refine rvS (rvF _ _) (rvS (rvL h1.var) ?_)
 refine ca_take h1.at_ λw2 r2 m2=>?_
 have h2:=h1.to r2 m2
 have b2:CtAt w2 p zCt0:=m2.hpk b1 (by omega)
 refine rvS (v:=.pointer (some ⟨p,0,none⟩)) (w' :=w2) (by simp[go_sem]) ?_
 refine ctU b2 λw3 b3 m3=>?_
 have h3:=h2.st hr hc hv m3
 refine rvS (rvF _ _) (rvS (rvL h3.var) ?_)
 refine ca_small h3.at_ (most:=255) (by omega) λw4 r4 m4=>?_
 have hn:=num_u8 l (rsSp l s).2
 obtain⟨x,hx⟩:∃x,x=rsNum l 255 (rsSp l s).2:=⟨_,rfl⟩
 have e:(((rsSmall l 255 (rsSp l s).2).1:Nat):Int)=x.1∧(rsSmall l 255 (rsSp l s).2).2=x.2:=by rw[hx];exact rsNum_12 _ _ _
 rw[e.1]
 rw[e.2]at r4
 rw[←hx]at hn
 have h4:=h3.to r4 m4
 have b4:CtAt w4 p _:=m4.hpk b3 (by omega)
 refine rvS (v:=.int .u8 x.1) (w' :=w4) (by simp[go_sem];rw[IntKind.wrap_u8'];omega) ?_
 refine rvS (v:=.pointer (some ⟨p,25,none⟩)) (w' :=w4) (by simp[go_sem]) ?_
 obtain⟨w5,e5,b5,m5⟩:=(ctSt b4).1 x.1
 refine ruS e5 ?_
 have h5:=h4.st hr hc hv m5
 refine rvS (rvF _ _) (rvS (rvL h5.var) ?_)
 refine ca_rint h5.at_ λw6 r6 m6=>?_
 have h6:=h5.to r6 m6
 have b6:CtAt w6 p _:=m6.hpk b5 (by omega)
 refine rvS (v:=.pointer (some ⟨p,26,none⟩)) (w' :=w6) (by simp[go_sem]) ?_
 obtain⟨w7,e7,b7,m7⟩:=(ctSt b6).2 (rsInt l x.2).1
 refine ruS e7 ?_
 have hk' :({({({zCt0 with spec:=(rsSp l s).1}:Ct)with st:=x.1}:Ct)with price:=(rsInt l x.2).1}:Ct)=(rsCt l s).1:=by rw[hx];rfl
 rw[hk']at b7
 refine rx_bigS (ctC (rsCt l s).1) 26 aCtI nCtI (ctC_lenI _) (At.all b7) ?_
 refine ctUU (k' :=(rsCt l s).1) b7 λw8 b8 m8=>?_
 refine rdX_bigS (ctC (rsCt l s).1) 26 aCtI nCtI (ctC_lenI _) (At.all b8) ?_
 have hs' :(rsInt l x.2).2=(rsCt l s).2:=by rw[hx];rfl
 rw[hs']at h6
 exact hK _ ((h6.st hr hc hv m7).st hr hc hv m8) (hrw (hrw ((hrw ((hrw (M1.trans m2) m3).trans m4) m5).trans m6) m7) m8)
abbrev tSdI:TypeId:=119
def sdVI(x:Int×Od):Value:=.agg #[.int .u32 x.1,.int .u64 x.2.num,.int .u32 x.2.acct,.bool x.2.buy,.int .i64 x.2.price,.int .i64 x.2.left]
abbrev SdAt(W:World)(p:Nat)(x:Int×Od):Prop:=hp W p=some (.cells #[.int .u32 x.1,.int .u64 x.2.num,.int .u32 x.2.acct,.bool x.2.buy,.int .i64 x.2.price,.int .i64 x.2.left] tSdI (0,0))
set_option maxRecDepth 10000 in
theorem sdSt{W:World}{p:Nat}{a:Int×Od}(h:SdAt W p a):
  (∀x,∃W',(Instr.storeAt 35 (.pointer (some ⟨p,0,none⟩)) (.int .u32 x)).run Tryz.prog W=.ok () W' ∧SdAt W' p (x,a.2)∧Mod (λy=>y=p) W W')∧
  (∀x,∃W',(Instr.storeAt 27 (.pointer (some ⟨p,1,none⟩)) (.int .u64 x)).run Tryz.prog W=.ok () W' ∧SdAt W' p (a.1,{a.2 with num:=x})∧Mod (λy=>y=p) W W')∧
  (∀x,∃W',(Instr.storeAt 35 (.pointer (some ⟨p,2,none⟩)) (.int .u32 x)).run Tryz.prog W=.ok () W' ∧SdAt W' p (a.1,{a.2 with acct:=x})∧Mod (λy=>y=p) W W')∧
  (∀x,∃W',(Instr.storeAt 4 (.pointer (some ⟨p,3,none⟩)) (.bool x)).run Tryz.prog W=.ok () W' ∧SdAt W' p (a.1,{a.2 with buy:=x})∧Mod (λy=>y=p) W W')∧
  (∀x,∃W',(Instr.storeAt 2 (.pointer (some ⟨p,4,none⟩)) (.int .i64 x)).run Tryz.prog W=.ok () W' ∧SdAt W' p (a.1,{a.2 with price:=x})∧Mod (λy=>y=p) W W')∧
  (∀x,∃W',(Instr.storeAt 2 (.pointer (some ⟨p,5,none⟩)) (.int .i64 x)).run Tryz.prog W=.ok () W' ∧SdAt W' p (a.1,{a.2 with left:=x})∧Mod (λy=>y=p) W W'):=by
 have h' :hp W p=some (.cells #[.int .u32 a.1,.int .u64 a.2.num,.int .u32 a.2.acct,.bool a.2.buy,.int .i64 a.2.price,.int .i64 a.2.left] tSdI (0,0)):=h
 refine⟨λx=>⟨W.setCell ⟨p,0,none⟩ (.int .u32 x),?_,?_,?_⟩,λx=>⟨W.setCell ⟨p,1,none⟩ (.int .u64 x),?_,?_,?_⟩,λx=>⟨W.setCell ⟨p,2,none⟩ (.int .u32 x),?_,?_,?_⟩,λx=>⟨W.setCell ⟨p,3,none⟩ (.bool x),?_,?_,?_⟩,λx=>⟨W.setCell ⟨p,4,none⟩ (.int .i64 x),?_,?_,?_⟩,λx=>⟨W.setCell ⟨p,5,none⟩ (.int .i64 x),?_,?_,?_⟩⟩
 all_goals first|exact(Mod.refl (λy=>y=p) W).setCell (.inl rfl) _ _|(show hp _ _=_;simp[go_sem,h'])|simp[go_sem,h']
theorem sdLI{W:World}{p:Nat}{a:Int×Od}(h:SdAt W p a):(Instr.loadAt tSdI (.pointer (some ⟨p,0,none⟩))).run Tryz.prog W=.ok (sdVI a) W:=by
 have h' :hp W p=some (.cells #[.int .u32 a.1,.int .u64 a.2.num,.int .u32 a.2.acct,.bool a.2.buy,.int .i64 a.2.price,.int .i64 a.2.left] tSdI (0,0)):=h
 simp[go_sem,h',sdVI]
set_option maxRecDepth 10000 in
theorem sdSI{W:World}{p:Nat}{a b:Int×Od}(h:SdAt W p a):∃W',(Instr.storeAt tSdI (.pointer (some ⟨p,0,none⟩)) (sdVI b)).run Tryz.prog W=.ok () W' ∧SdAt W' p b∧Mod (λy=>y=p) W W' :=by
 have h' :hp W p=some (.cells #[.int .u32 a.1,.int .u64 a.2.num,.int .u32 a.2.acct,.bool a.2.buy,.int .i64 a.2.price,.int .i64 a.2.left] tSdI (0,0)):=h
 exact⟨(((((W.setCell ⟨p,0,none⟩ (.int .u32 b.1)).setCell ⟨p,1,none⟩ (.int .u64 b.2.num)).setCell ⟨p,2,none⟩ (.int .u32 b.2.acct)).setCell ⟨p,3,none⟩ (.bool b.2.buy)).setCell ⟨p,4,none⟩ (.int .i64 b.2.price)).setCell ⟨p,5,none⟩ (.int .i64 b.2.left),by simp[go_sem,h',sdVI],by show hp _ _=_;simp[go_sem,h'],((((((Mod.refl (λy=>y=p) W).setCell (.inl rfl) _ _).setCell (.inl rfl) _ _).setCell (.inl rfl) _ _).setCell (.inl rfl) _ _).setCell (.inl rfl) _ _).setCell (.inl rfl) _ _⟩
theorem newSdI(w:World):∃w1,(Instr.alloc tSdI true (.tuple #[])).run Tryz.prog w=.ok (.pointer (some ⟨w.heap.size,0,none⟩)) w1∧SdAt w1 w.heap.size (0,zOd)∧Mod (λ_=>False) w w1:=
 ⟨w.alloc (.cells #[.int .u32 0,.int .u64 0,.int .u32 0,.bool false,.int .i64 0,.int .i64 0] tSdI),by simp[go_sem],by show hp _ _=_;simp[go_sem,zOd],(Mod.refl _ w).alloc _⟩
theorem sdF(i:Nat)(hi:i<2)(p:Nat)(W:World):(Instr.fieldAt tSdI (.pointer (some ⟨p,0,none⟩)) i).run Tryz.prog W=.ok (.pointer (some ⟨p,i,none⟩)) W:=by
 have:i=0∨i=1:=by omega
 rcases this with rfl|rfl<;>simp[go_sem]
theorem sdFO(i:Nat)(hi:i<5)(p:Nat)(W:World):(Instr.fieldAt 117 (.pointer (some ⟨p,1,none⟩)) i).run Tryz.prog W=.ok (.pointer (some ⟨p,1+i,none⟩)) W:=by
 have:i=0∨i=1∨i=2∨i=3∨i=4:=by omega
 rcases this with rfl|rfl|rfl|rfl|rfl<;>simp[go_sem,addr_add]
set_option maxRecDepth 10000 in
theorem ca_rdOd(h0:RdrAt w r v l s)(hK:∀w',RdrAt w' r v l (rsOd l s).2→Mod (λb=>b=r) w w' →K (sdVI (rsOd l s).1) w'):Ca Tryz.prog 73 #[rdV r] w K:=by
 apply ca73
 unfold F73
 obtain⟨w1,e1,v1,m1⟩:=boxRd r w
 have hr0:=h0.lt
 have hv0:∀b,inRd v b→b<w.heap.size:=λb hb=>h0.rd.lt hb
 obtain⟨c,hc0⟩:∃c,c=w.heap.size:=⟨_,rfl⟩
 rw[←hc0]at e1 v1
 have h1:RdC w1 c r v l s:=⟨h0.mod m1 id λ_ _ h=>h,v1,by omega⟩
 refine rvS e1 ?_
 obtain⟨w2,e2,b2,m2⟩:=newSdI w1
 obtain⟨p,hp0⟩:∃p,p=w1.heap.size:=⟨_,rfl⟩
 rw[←hp0]at e2 b2
 refine rvS e2 ?_
 have h2:=h1.md0 m2
 have hc1:=lt_of_heap v1
 have hr:r<p:=by omega
 have hc:c<p:=by omega
 have hwp:w.heap.size≤p:=by omega
 have hv:∀b,inRd v b→b<p:=λb hb=>by have:=hv0 b hb;omega
 have hrw:∀{W W' :World},Mod (λb=>b=r) w W→Mod (λy=>y=p) W W' →Mod (λb=>b=r) w W' :=λa b=>a.on b λy hy=>.inr (by omega)
 have M2:Mod (λb=>b=r) w w2:=(m1.trans m2).mono λ_ _ h=>h.elim
 refine rvS (rvLV h2.var) ?_
 refine ca_iword h2.at_ λw3 r3 m3=>?_
 have h3:=h2.to r3 m3
 have b3:SdAt w3 p _:=m3.hpk b2 (by omega)
 refine rvS (sdF 0 (by omega) p _) ?_
 obtain⟨w4,e4,b4,m4⟩:=(sdSt b3).1 (rsNum l W32 s).1
 refine ruS e4 ?_
 have h4:=h3.st hr hc hv m4
 have M4:=hrw (M2.trans m3) m4
 refine rvS (rvF _ _) (rvS (rvL h4.var) ?_)
 refine ca_rnatI h4.at_ λw5 r5 m5=>?_
 have h5:=h4.to r5 m5
 have b5:SdAt w5 p _:=m5.hpk b4 (by omega)
 refine rvS (sdF 1 (by omega) p _) (rvS (sdFO 0 (by omega) p _) ?_)
 obtain⟨w6,e6,b6,m6⟩:=(sdSt b5).2.1 (rsNum l W64 (rsNum l W32 s).2).1
 refine ruS e6 ?_
 have h6:=h5.st hr hc hv m6
 have M6:=hrw (M4.trans m5) m6
 refine rvS (rvLV h6.var) ?_
 refine ca_iword h6.at_ λw7 r7 m7=>?_
 have h7:=h6.to r7 m7
 have b7:SdAt w7 p _:=m7.hpk b6 (by omega)
 refine rvS (sdF 1 (by omega) p _) (rvS (sdFO 1 (by omega) p _) ?_)
 obtain⟨w8,e8,b8,m8⟩:=(sdSt b7).2.2.1 (rsNum l W32 (rsNum l W64 (rsNum l W32 s).2).2).1
 refine ruS e8 ?_
 have h8:=h7.st hr hc hv m8
 have M8:=hrw (M6.trans m7) m8
 refine rvS (rvF _ _) (rvS (rvL h8.var) ?_)
 refine ca_rflag h8.at_ λw9 r9 m9=>?_
 have h9:=h8.to r9 m9
 have b9:SdAt w9 p _:=m9.hpk b8 (by omega)
 refine rvS (sdF 1 (by omega) p _) (rvS (sdFO 2 (by omega) p _) ?_)
 obtain⟨w10,e10,b10,m10⟩:=(sdSt b9).2.2.2.1 (rsFlag l (rsNum l W32 (rsNum l W64 (rsNum l W32 s).2).2).2).1
 refine ruS e10 ?_
 have h10:=(h9.st hr hc hv m10).md0 (Mod.refl (λ_=>False) w10).drew
 have b10' :SdAt w10.drew p _:=((Mod.refl (λ_=>False) w10).drew).hpk b10 id
 have M10:=(hrw (M8.trans m9) m10).on (Mod.refl (λ_=>False) w10).drew λ_ h=>h.elim
 generalize w10.drew=u10 at h10 b10' M10⊢
 refine rdPS (λW=>rvF W c) (rdWS (rvL h10.var) (rdPS (λW=>rvF W c) (rdWS (rvL h10.var) ?_)))
 refine ca_rint h10.at_ λw11 r11 m11=>?_
 have h11:=h10.to r11 m11
 have b11:SdAt w11 p _:=m11.hpk b10' (by omega)
 refine⟨rvL h11.var,rdPS (λW=>sdF 1 (by omega) p W) (rdPS (λW=>sdFO 3 (by omega) p W) ?_)⟩
 refine ca_rint h11.at_ λw12 r12 m12=>?_
 have h12:=h11.to r12 m12
 have b12:SdAt w12 p _:=m12.hpk b11 (by omega)
 obtain⟨w13,e13,b13,m13⟩:=(sdSt b12).2.2.2.2.1 (rsInt l (rsFlag l (rsNum l W32 (rsNum l W64 (rsNum l W32 s).2).2).2).2).1
 refine ruS e13 (rdPS (λW=>sdF 1 (by omega) p W) (rdPS (λW=>sdFO 4 (by omega) p W) ?_))
 obtain⟨w14,e14,b14,m14⟩:=(sdSt b13).2.2.2.2.2 (rsInt l (rsInt l (rsFlag l (rsNum l W32 (rsNum l W64 (rsNum l W32 s).2).2).2).2).2).1
 refine ruS e14 (rvS (sdLI b14) ?_)
 obtain⟨w15,e15,b15,m15⟩:=sdSI (b:=(rsOd l s).1) b14
 refine ruS e15 (rdWS (sdLI b15) ?_)
 exact hK _ (((h12.st hr hc hv m13).st hr hc hv m14).st hr hc hv m15).at_ (hrw (hrw (hrw ((M10.trans m11).trans m12) m13) m14) m15)
end
end Go.Proofs
namespace Go.Proofs
open Go Go.Vc
attribute [local congr] Ca_congV
theorem uPosI:Tryz.prog.underlying 46=some (.slice 112):=by kernel_rfl
theorem ePosI:elemOk Tryz.prog 112 4 24=true:=by kernel_rfl
theorem uSdI:Tryz.prog.underlying 47=some (.slice 119):=by kernel_rfl
theorem eSdI:elemOk Tryz.prog 119 6 40=true:=by kernel_rfl
theorem poVarI(p:Po)(W:World):∃w1 w2,(Instr.alloc 112 true (.tuple #[])).run Tryz.prog W=.ok (.pointer (some ⟨W.heap.size,0,none⟩)) w1∧(Instr.storeAt 112 (.pointer (some ⟨W.heap.size,0,none⟩)) (poV p)).run Tryz.prog w1=.ok () w2∧hp w2 W.heap.size=some (.cells (cellsPo p).toArray 112 (0,0))∧Mod (λ_=>False) W w2:=by
 obtain⟨w1,hw1⟩:∃w1,w1=W.alloc (.cells (cellsPo ⟨0,0,0,0⟩).toArray 112):=⟨_,rfl⟩
 have m1:Mod (λ_=>False) W w1:=by rw[hw1];exact(Mod.refl _ W).alloc _
 have b1:hp w1 W.heap.size=some (.cells (cellsPo ⟨0,0,0,0⟩).toArray 112 (0,0)):=by rw[hw1];simp[go_sem]
 obtain⟨w2,e2,b2,m2⟩:=(poVar2 (b:=p) b1).2
 exact⟨w1,w2,by rw[hw1];simp[go_sem,cellsPo],e2,b2,m1.on m2 λx hx=>.inr (by omega)⟩
theorem sdVarI(x:Int×Od)(W:World):∃w1 w2,(Instr.alloc 119 true (.tuple #[])).run Tryz.prog W=.ok (.pointer (some ⟨W.heap.size,0,none⟩)) w1∧(Instr.storeAt 119 (.pointer (some ⟨W.heap.size,0,none⟩)) (sdVI x)).run Tryz.prog w1=.ok () w2∧SdAt w2 W.heap.size x∧Mod (λ_=>False) W w2:=by
 obtain⟨w1,e1,b1,m1⟩:=newSdI W
 obtain⟨w2,e2,b2,m2⟩:=sdSI (b:=x) b1
 exact⟨w1,w2,e1,e2,b2,m1.on m2 λx hx=>.inr (by omega)⟩
theorem acLdI{a:Ac}{W:World}{p:Nat}(h:hp W p=some (.cells (cellsAc a).toArray 92 (0,0))):(Instr.loadAt 92 (.pointer (some ⟨p,0,none⟩))).run Tryz.prog W=.ok (acV a) W:=(acVar2 (b:=⟨0,0,false,false⟩) h).1
theorem poLdI{a:Po}{W:World}{p:Nat}(h:hp W p=some (.cells (cellsPo a).toArray 112 (0,0))):(Instr.loadAt 112 (.pointer (some ⟨p,0,none⟩))).run Tryz.prog W=.ok (poV a) W:=(poVar2 (b:=⟨0,0,0,0⟩) h).1
theorem sdLdI{a:Int×Od}{W:World}{p:Nat}(h:SdAt W p a):(Instr.loadAt 119 (.pointer (some ⟨p,0,none⟩))).run Tryz.prog W=.ok (sdVI a) W:=sdLI h
set_option maxRecDepth 10000 in
theorem ca_takenAc{w:World}{K:Kont}{r most:Nat}{v fv:Value}{l:List UInt8}{s:Rs}{f:Rs→Ac×Rs}{Inv:World→Rs→Prop}(hI:Inv w s)(hat:∀W t,Inv W t→RdrAt W r v l t)(hto:∀W W' t t',Inv W t→RdrAt W' r v l t' →Mod (λb=>b=r) W W' →Inv W' t')
  (hmd:∀W W' t (F:Nat→Prop),Inv W t→Mod F W W' →(∀y,F y→w.heap.size≤y)→Inv W' t)
  (hcall:∀W t (K' :Kont),Inv W t→(∀W',Inv W' (f t).2→Mod (λb=>b=r) W W' →K' (acV (f t).1) W')→callV Tryz.prog fv [] W K')(hmost:most≤100000)
  (hK:∀sl w',Own w' 92 4 sl (rsList l f most s).1.length ((rsList l f most s).1.flatMap cellsAc)→Inv w' (rsList l f most s).2→Mod (λb=>b=r) w w' →(∀y,inSl sl y→w.heap.size≤y)→K sl w'):
  Ca Tryz.prog 63 #[rdV r,.int .u64 most,fv] w K:=by
 apply ca63
 unfold F63
 have hrl:r<w.heap.size:=(hat _ _ hI).lt
 obtain⟨w1,e1,b1,m1⟩:=boxRd r w
 obtain⟨u,hu⟩:∃u,u=w.heap.size:=⟨_,rfl⟩
 rw[←hu]at e1 b1
 refine rvS e1 (rvS (rvF _ _) (rvS (rvL b1) ?_))
 have i1:=hmd _ _ _ _ hI m1 (λ_ h=>h.elim)
 refine ca_small (hat _ _ i1) (most:=most) (by omega) λw2 r2 m2=>?_
 have i2:=hto _ _ _ _ i1 r2 m2
 have b2:RdVar w2 u r:=m2.hpk b1 (by omega)
 have M2:Mod (λb=>b=r) w w2:=(m1.mono λ_ _ h=>h.elim).trans m2
 have hnm:(rsSmall l most s).1≤most:=rsSmall_most
 have hlist:rsList l f most s=rsTake l f (rsSmall l most s).1 [] (rsSmall l most s).2:=rfl
 obtain⟨n,hn⟩:∃n,n=(rsSmall l most s).1:=⟨_,rfl⟩
 obtain⟨s1,hs1⟩:∃s1,s1=(rsSmall l most s).2:=⟨_,rfl⟩
 rw[←hn]at hnm⊢
 rw[←hs1]at i2
 rw[←hn,←hs1]at hlist
 rw[hlist]at hK
 refine loopV (λst W=>∃(i:Nat) (acc:List (Ac)) (sl:Value) (t:Rs),i≤n∧acc.length=i∧st=(sl,.int .u64 i,())∧Inv W t∧Own W 92 4 sl acc.length (acc.flatMap cellsAc)∧(∀y,inSl sl y→u<y)∧rsTake l f n [] s1=rsTake l f (n - i) acc t∧RdVar W u r∧Mod (λb=>b=r) w W)
  (λst _=>match st.2.1 with| .int _ i=>n - i.toNat|_=>0) ⟨0,[],nilV,s1,by omega,rfl,rfl,i2,Own.nil _ _ _,λy hy=>(by cases hy),rfl,b2,M2⟩ ?_
 rintro⟨_,_⟩ W ⟨i,acc,sl,t,hi,hal,⟨⟩,iW,oW,nW,hT,bW,MW⟩ KN hKN
 unfold L63_1
 intro _
 refine rvS (v:=.bool (decide (i<n))) (w' :=W) (by simp[go_sem]) ?_
 by_cases hlt:i<n
 ·rw[ifB_bool,if_pos (by simpa using hlt)]
  refine hcall W t _ iW λW1 iW1 mW1=>?_
  have oW1:=oW.mod mW1 λy hy e=>by have:=nW y hy;omega
  have bW1:RdVar W1 u r:=mW1.hpk bW (by omega)
  have hu1:=lt_of_heap bW1
  obtain⟨W2,W3,e2,e3,b3,m3⟩:=acVar (f t).1 W1
  refine rvS e2 (ruS e3 ?_)
  have iW3:=hmd _ _ _ _ iW1 m3 (λ_ h=>h.elim)
  have bW3:RdVar W3 u r:=m3.hpk bW1 id
  have oW3:=oW1.mod m3 λ_ _ h=>h
  have rt:=hat _ _ iW3
  have hle:=rt.le
  have hstep:rsTake l f (n - i) acc t=if l.length - (f t).2.at_=0∧rsDone l (f t).2≠0 then([],(f t).2)else rsTake l f (n - (i+1)) (acc++[(f t).1]) (f t).2:=by
   rw[show n - i=(n - (i+1))+1 by omega];rfl
  rw[hstep]at hT
  refine JoinW.at (λst W' =>st=(.bool (decide (l.length - (f t).2.at_=0∧rsDone l (f t).2≠0)),())∧Mod (λ_=>False) W3 W') ?_ ?_
  ·refine rvS (rvF _ _) (rvS (rvL bW3) ?_)
   refine ca_rleft rt λW4 m4=>?_
   by_cases h0:l.length - (f t).2.at_=0
   ·rw[h0]
    refine rvS (v:=.bool true) (w' :=W4) (by simp[go_sem]) ?_
    rw[ifB_bool,if_pos rfl]
    have bW4:RdVar W4 u r:=m4.hpk bW3 id
    refine rvS (rvF _ _) (rvS (rvL bW4) ?_)
    refine ca_done (rt.mod m4 id λ_ _ h=>h) λW5 m5=>?_
    refine rvS (v:=.bool (decide (rsDone l (f t).2≠0))) (w' :=W5) (by simp[go_sem];try rw[Bool.eq_iff_iff];simp) ?_
    exact⟨by simp,m4.trans m5⟩
   ·have h0' :¬((l.length - (f t).2.at_:Nat):Int)=0:=by omega
    refine rvS (v:=.bool false) (w' :=W4) (by simp[go_sem,h0'];try omega) ?_
    rw[ifB_bool,if_neg Bool.false_ne_true]
    exact⟨by simp[h0],m4⟩
  rintro _ W6 ⟨rfl,m6⟩
  unfold J63_0
  intro _
  have iW6:=hmd _ _ _ _ iW3 m6 (λ_ h=>h.elim)
  have M6:=((MW.trans mW1).on m3 λ_ h=>h.elim).on m6 λ_ h=>h.elim
  have bW6:RdVar W6 u r:=m6.hpk bW3 id
  have hu6:=lt_of_heap bW6
  by_cases hd:l.length - (f t).2.at_=0∧rsDone l (f t).2≠0
  ·rw[if_pos hd]at hT
   rw[hT]at hK
   rw[ifB_bool,if_pos (by simpa using hd)]
   exact hK nilV W6 (Own.nil _ _ _) iW6 M6 λy hy=>(by cases hy)
  ·rw[if_neg hd]at hT
   rw[ifB_bool,if_neg (by simpa using hd)]
   refine rvS (acLdI (m6.hpk b3 id)) ?_
   refine pushV1 (x:=(f t).1) (f:=cellsAc) uAcs (elemT_of eAcc) (λ_=>rfl) rfl rfl (oW3.mod m6 λ_ _ h=>h) (by rw[hal];omega) (by omega) λsl' W7 o7 m7 n7=>?_
   refine rvS (v:=.int .u64 ((i+1:Nat):Int)) (w' :=W7) (by simp[go_sem];rw[wrapU (by omega) (by omega)]) ?_
   refine hKN _ _ ⟨i+1,acc++[(f t).1],sl',(f t).2,by omega,by simp[hal],rfl,hmd _ _ _ _ iW6 m7 (λy hy=>by have:=nW y hy;omega),o7,λy hy=>?_,hT,m7.hpk bW6 λhc=>(by have:=nW u hc;omega),M6.on m7 λy hy=>.inr (by have:=nW y hy;omega)⟩ (by show n - (((i+1:Nat):Int)).toNat<n - ((i:Int)).toNat;omega)
   rcases n7 y hy with h' |h'
   ·exact nW y h'
   ·omega
 ·rw[ifB_bool,if_neg (by simpa using hlt)]
  obtain rfl:i=n:=by omega
  rw[Nat.sub_self]at hT
  have hT' :rsTake l f i [] s1=(acc,t):=hT
  rw[hT']at hK
  exact hK _ W oW iW MW λy hy=>by have:=nW y hy;omega
set_option maxRecDepth 10000 in
theorem ca_takenPo{w:World}{K:Kont}{r most:Nat}{v fv:Value}{l:List UInt8}{s:Rs}{f:Rs→Po×Rs}{Inv:World→Rs→Prop}(hI:Inv w s)(hat:∀W t,Inv W t→RdrAt W r v l t)(hto:∀W W' t t',Inv W t→RdrAt W' r v l t' →Mod (λb=>b=r) W W' →Inv W' t')
  (hmd:∀W W' t (F:Nat→Prop),Inv W t→Mod F W W' →(∀y,F y→w.heap.size≤y)→Inv W' t)
  (hcall:∀W t (K' :Kont),Inv W t→(∀W',Inv W' (f t).2→Mod (λb=>b=r) W W' →K' (poV (f t).1) W')→callV Tryz.prog fv [] W K')(hmost:most≤100000)
  (hK:∀sl w',Own w' 112 4 sl (rsList l f most s).1.length ((rsList l f most s).1.flatMap cellsPo)→Inv w' (rsList l f most s).2→Mod (λb=>b=r) w w' →(∀y,inSl sl y→w.heap.size≤y)→K sl w'):
  Ca Tryz.prog 70 #[rdV r,.int .u64 most,fv] w K:=by
 apply ca70
 unfold F70
 have hrl:r<w.heap.size:=(hat _ _ hI).lt
 obtain⟨w1,e1,b1,m1⟩:=boxRd r w
 obtain⟨u,hu⟩:∃u,u=w.heap.size:=⟨_,rfl⟩
 rw[←hu]at e1 b1
 refine rvS e1 (rvS (rvF _ _) (rvS (rvL b1) ?_))
 have i1:=hmd _ _ _ _ hI m1 (λ_ h=>h.elim)
 refine ca_small (hat _ _ i1) (most:=most) (by omega) λw2 r2 m2=>?_
 have i2:=hto _ _ _ _ i1 r2 m2
 have b2:RdVar w2 u r:=m2.hpk b1 (by omega)
 have M2:Mod (λb=>b=r) w w2:=(m1.mono λ_ _ h=>h.elim).trans m2
 have hnm:(rsSmall l most s).1≤most:=rsSmall_most
 have hlist:rsList l f most s=rsTake l f (rsSmall l most s).1 [] (rsSmall l most s).2:=rfl
 obtain⟨n,hn⟩:∃n,n=(rsSmall l most s).1:=⟨_,rfl⟩
 obtain⟨s1,hs1⟩:∃s1,s1=(rsSmall l most s).2:=⟨_,rfl⟩
 rw[←hn]at hnm⊢
 rw[←hs1]at i2
 rw[←hn,←hs1]at hlist
 rw[hlist]at hK
 refine loopV (λst W=>∃(i:Nat) (acc:List (Po)) (sl:Value) (t:Rs),i≤n∧acc.length=i∧st=(sl,.int .u64 i,())∧Inv W t∧Own W 112 4 sl acc.length (acc.flatMap cellsPo)∧(∀y,inSl sl y→u<y)∧rsTake l f n [] s1=rsTake l f (n - i) acc t∧RdVar W u r∧Mod (λb=>b=r) w W)
  (λst _=>match st.2.1 with| .int _ i=>n - i.toNat|_=>0) ⟨0,[],nilV,s1,by omega,rfl,rfl,i2,Own.nil _ _ _,λy hy=>(by cases hy),rfl,b2,M2⟩ ?_
 rintro⟨_,_⟩ W ⟨i,acc,sl,t,hi,hal,⟨⟩,iW,oW,nW,hT,bW,MW⟩ KN hKN
 unfold L70_1
 intro _
 refine rvS (v:=.bool (decide (i<n))) (w' :=W) (by simp[go_sem]) ?_
 by_cases hlt:i<n
 ·rw[ifB_bool,if_pos (by simpa using hlt)]
  refine hcall W t _ iW λW1 iW1 mW1=>?_
  have oW1:=oW.mod mW1 λy hy e=>by have:=nW y hy;omega
  have bW1:RdVar W1 u r:=mW1.hpk bW (by omega)
  have hu1:=lt_of_heap bW1
  obtain⟨W2,W3,e2,e3,b3,m3⟩:=poVarI (f t).1 W1
  refine rvS e2 (ruS e3 ?_)
  have iW3:=hmd _ _ _ _ iW1 m3 (λ_ h=>h.elim)
  have bW3:RdVar W3 u r:=m3.hpk bW1 id
  have oW3:=oW1.mod m3 λ_ _ h=>h
  have rt:=hat _ _ iW3
  have hle:=rt.le
  have hstep:rsTake l f (n - i) acc t=if l.length - (f t).2.at_=0∧rsDone l (f t).2≠0 then([],(f t).2)else rsTake l f (n - (i+1)) (acc++[(f t).1]) (f t).2:=by
   rw[show n - i=(n - (i+1))+1 by omega];rfl
  rw[hstep]at hT
  refine JoinW.at (λst W' =>st=(.bool (decide (l.length - (f t).2.at_=0∧rsDone l (f t).2≠0)),())∧Mod (λ_=>False) W3 W') ?_ ?_
  ·refine rvS (rvF _ _) (rvS (rvL bW3) ?_)
   refine ca_rleft rt λW4 m4=>?_
   by_cases h0:l.length - (f t).2.at_=0
   ·rw[h0]
    refine rvS (v:=.bool true) (w' :=W4) (by simp[go_sem]) ?_
    rw[ifB_bool,if_pos rfl]
    have bW4:RdVar W4 u r:=m4.hpk bW3 id
    refine rvS (rvF _ _) (rvS (rvL bW4) ?_)
    refine ca_done (rt.mod m4 id λ_ _ h=>h) λW5 m5=>?_
    refine rvS (v:=.bool (decide (rsDone l (f t).2≠0))) (w' :=W5) (by simp[go_sem];try rw[Bool.eq_iff_iff];simp) ?_
    exact⟨by simp,m4.trans m5⟩
   ·have h0' :¬((l.length - (f t).2.at_:Nat):Int)=0:=by omega
    refine rvS (v:=.bool false) (w' :=W4) (by simp[go_sem,h0'];try omega) ?_
    rw[ifB_bool,if_neg Bool.false_ne_true]
    exact⟨by simp[h0],m4⟩
  rintro _ W6 ⟨rfl,m6⟩
  unfold J70_0
  intro _
  have iW6:=hmd _ _ _ _ iW3 m6 (λ_ h=>h.elim)
  have M6:=((MW.trans mW1).on m3 λ_ h=>h.elim).on m6 λ_ h=>h.elim
  have bW6:RdVar W6 u r:=m6.hpk bW3 id
  have hu6:=lt_of_heap bW6
  by_cases hd:l.length - (f t).2.at_=0∧rsDone l (f t).2≠0
  ·rw[if_pos hd]at hT
   rw[hT]at hK
   rw[ifB_bool,if_pos (by simpa using hd)]
   exact hK nilV W6 (Own.nil _ _ _) iW6 M6 λy hy=>(by cases hy)
  ·rw[if_neg hd]at hT
   rw[ifB_bool,if_neg (by simpa using hd)]
   refine rvS (poLdI (m6.hpk b3 id)) ?_
   refine pushV1 (x:=(f t).1) (f:=cellsPo) uPosI (elemT_of ePosI) (λ_=>rfl) rfl rfl (oW3.mod m6 λ_ _ h=>h) (by rw[hal];omega) (by omega) λsl' W7 o7 m7 n7=>?_
   refine rvS (v:=.int .u64 ((i+1:Nat):Int)) (w' :=W7) (by simp[go_sem];rw[wrapU (by omega) (by omega)]) ?_
   refine hKN _ _ ⟨i+1,acc++[(f t).1],sl',(f t).2,by omega,by simp[hal],rfl,hmd _ _ _ _ iW6 m7 (λy hy=>by have:=nW y hy;omega),o7,λy hy=>?_,hT,m7.hpk bW6 λhc=>(by have:=nW u hc;omega),M6.on m7 λy hy=>.inr (by have:=nW y hy;omega)⟩ (by show n - (((i+1:Nat):Int)).toNat<n - ((i:Int)).toNat;omega)
   rcases n7 y hy with h' |h'
   ·exact nW y h'
   ·omega
 ·rw[ifB_bool,if_neg (by simpa using hlt)]
  obtain rfl:i=n:=by omega
  rw[Nat.sub_self]at hT
  have hT' :rsTake l f i [] s1=(acc,t):=hT
  rw[hT']at hK
  exact hK _ W oW iW MW λy hy=>by have:=nW y hy;omega
set_option maxRecDepth 10000 in
theorem ca_takenOd{w:World}{K:Kont}{r most:Nat}{v fv:Value}{l:List UInt8}{s:Rs}{f:Rs→(Int×Od)×Rs}{Inv:World→Rs→Prop}(hI:Inv w s)(hat:∀W t,Inv W t→RdrAt W r v l t)(hto:∀W W' t t',Inv W t→RdrAt W' r v l t' →Mod (λb=>b=r) W W' →Inv W' t')
  (hmd:∀W W' t (F:Nat→Prop),Inv W t→Mod F W W' →(∀y,F y→w.heap.size≤y)→Inv W' t)
  (hcall:∀W t (K' :Kont),Inv W t→(∀W',Inv W' (f t).2→Mod (λb=>b=r) W W' →K' (sdVI (f t).1) W')→callV Tryz.prog fv [] W K')(hmost:most≤100000)
  (hK:∀sl w',Own w' 119 6 sl (rsList l f most s).1.length ((rsList l f most s).1.flatMap sdOC)→Inv w' (rsList l f most s).2→Mod (λb=>b=r) w w' →(∀y,inSl sl y→w.heap.size≤y)→K sl w'):
  Ca Tryz.prog 72 #[rdV r,.int .u64 most,fv] w K:=by
 apply ca72
 unfold F72
 have hrl:r<w.heap.size:=(hat _ _ hI).lt
 obtain⟨w1,e1,b1,m1⟩:=boxRd r w
 obtain⟨u,hu⟩:∃u,u=w.heap.size:=⟨_,rfl⟩
 rw[←hu]at e1 b1
 refine rvS e1 (rvS (rvF _ _) (rvS (rvL b1) ?_))
 have i1:=hmd _ _ _ _ hI m1 (λ_ h=>h.elim)
 refine ca_small (hat _ _ i1) (most:=most) (by omega) λw2 r2 m2=>?_
 have i2:=hto _ _ _ _ i1 r2 m2
 have b2:RdVar w2 u r:=m2.hpk b1 (by omega)
 have M2:Mod (λb=>b=r) w w2:=(m1.mono λ_ _ h=>h.elim).trans m2
 have hnm:(rsSmall l most s).1≤most:=rsSmall_most
 have hlist:rsList l f most s=rsTake l f (rsSmall l most s).1 [] (rsSmall l most s).2:=rfl
 obtain⟨n,hn⟩:∃n,n=(rsSmall l most s).1:=⟨_,rfl⟩
 obtain⟨s1,hs1⟩:∃s1,s1=(rsSmall l most s).2:=⟨_,rfl⟩
 rw[←hn]at hnm⊢
 rw[←hs1]at i2
 rw[←hn,←hs1]at hlist
 rw[hlist]at hK
 refine loopV (λst W=>∃(i:Nat) (acc:List ((Int×Od))) (sl:Value) (t:Rs),i≤n∧acc.length=i∧st=(sl,.int .u64 i,())∧Inv W t∧Own W 119 6 sl acc.length (acc.flatMap sdOC)∧(∀y,inSl sl y→u<y)∧rsTake l f n [] s1=rsTake l f (n - i) acc t∧RdVar W u r∧Mod (λb=>b=r) w W)
  (λst _=>match st.2.1 with| .int _ i=>n - i.toNat|_=>0) ⟨0,[],nilV,s1,by omega,rfl,rfl,i2,Own.nil _ _ _,λy hy=>(by cases hy),rfl,b2,M2⟩ ?_
 rintro⟨_,_⟩ W ⟨i,acc,sl,t,hi,hal,⟨⟩,iW,oW,nW,hT,bW,MW⟩ KN hKN
 unfold L72_1
 intro _
 refine rvS (v:=.bool (decide (i<n))) (w' :=W) (by simp[go_sem]) ?_
 by_cases hlt:i<n
 ·rw[ifB_bool,if_pos (by simpa using hlt)]
  refine hcall W t _ iW λW1 iW1 mW1=>?_
  have oW1:=oW.mod mW1 λy hy e=>by have:=nW y hy;omega
  have bW1:RdVar W1 u r:=mW1.hpk bW (by omega)
  have hu1:=lt_of_heap bW1
  obtain⟨W2,W3,e2,e3,b3,m3⟩:=sdVarI (f t).1 W1
  refine rvS e2 (ruS e3 ?_)
  have iW3:=hmd _ _ _ _ iW1 m3 (λ_ h=>h.elim)
  have bW3:RdVar W3 u r:=m3.hpk bW1 id
  have oW3:=oW1.mod m3 λ_ _ h=>h
  have rt:=hat _ _ iW3
  have hle:=rt.le
  have hstep:rsTake l f (n - i) acc t=if l.length - (f t).2.at_=0∧rsDone l (f t).2≠0 then([],(f t).2)else rsTake l f (n - (i+1)) (acc++[(f t).1]) (f t).2:=by
   rw[show n - i=(n - (i+1))+1 by omega];rfl
  rw[hstep]at hT
  refine JoinW.at (λst W' =>st=(.bool (decide (l.length - (f t).2.at_=0∧rsDone l (f t).2≠0)),())∧Mod (λ_=>False) W3 W') ?_ ?_
  ·refine rvS (rvF _ _) (rvS (rvL bW3) ?_)
   refine ca_rleft rt λW4 m4=>?_
   by_cases h0:l.length - (f t).2.at_=0
   ·rw[h0]
    refine rvS (v:=.bool true) (w' :=W4) (by simp[go_sem]) ?_
    rw[ifB_bool,if_pos rfl]
    have bW4:RdVar W4 u r:=m4.hpk bW3 id
    refine rvS (rvF _ _) (rvS (rvL bW4) ?_)
    refine ca_done (rt.mod m4 id λ_ _ h=>h) λW5 m5=>?_
    refine rvS (v:=.bool (decide (rsDone l (f t).2≠0))) (w' :=W5) (by simp[go_sem];try rw[Bool.eq_iff_iff];simp) ?_
    exact⟨by simp,m4.trans m5⟩
   ·have h0' :¬((l.length - (f t).2.at_:Nat):Int)=0:=by omega
    refine rvS (v:=.bool false) (w' :=W4) (by simp[go_sem,h0'];try omega) ?_
    rw[ifB_bool,if_neg Bool.false_ne_true]
    exact⟨by simp[h0],m4⟩
  rintro _ W6 ⟨rfl,m6⟩
  unfold J72_0
  intro _
  have iW6:=hmd _ _ _ _ iW3 m6 (λ_ h=>h.elim)
  have M6:=((MW.trans mW1).on m3 λ_ h=>h.elim).on m6 λ_ h=>h.elim
  have bW6:RdVar W6 u r:=m6.hpk bW3 id
  have hu6:=lt_of_heap bW6
  by_cases hd:l.length - (f t).2.at_=0∧rsDone l (f t).2≠0
  ·rw[if_pos hd]at hT
   rw[hT]at hK
   rw[ifB_bool,if_pos (by simpa using hd)]
   exact hK nilV W6 (Own.nil _ _ _) iW6 M6 λy hy=>(by cases hy)
  ·rw[if_neg hd]at hT
   rw[ifB_bool,if_neg (by simpa using hd)]
   refine rvS (sdLdI (m6.hpk b3 id)) ?_
   refine pushV1 (x:=(f t).1) (f:=sdOC) uSdI (elemT_of eSdI) (λ_=>rfl) rfl rfl (oW3.mod m6 λ_ _ h=>h) (by rw[hal];omega) (by omega) λsl' W7 o7 m7 n7=>?_
   refine rvS (v:=.int .u64 ((i+1:Nat):Int)) (w' :=W7) (by simp[go_sem];rw[wrapU (by omega) (by omega)]) ?_
   refine hKN _ _ ⟨i+1,acc++[(f t).1],sl',(f t).2,by omega,by simp[hal],rfl,hmd _ _ _ _ iW6 m7 (λy hy=>by have:=nW y hy;omega),o7,λy hy=>?_,hT,m7.hpk bW6 λhc=>(by have:=nW u hc;omega),M6.on m7 λy hy=>.inr (by have:=nW y hy;omega)⟩ (by show n - (((i+1:Nat):Int)).toNat<n - ((i:Int)).toNat;omega)
   rcases n7 y hy with h' |h'
   ·exact nW y h'
   ·omega
 ·rw[ifB_bool,if_neg (by simpa using hlt)]
  obtain rfl:i=n:=by omega
  rw[Nat.sub_self]at hT
  have hT' :rsTake l f i [] s1=(acc,t):=hT
  rw[hT']at hK
  exact hK _ W oW iW MW λy hy=>by have:=nW y hy;omega
set_option maxRecDepth 10000 in
theorem ca_takenCt{w:World}{K:Kont}{r most:Nat}{v fv:Value}{l:List UInt8}{s:Rs}{f:Rs→Ct×Rs}{Inv:World→Rs→Prop}(hI:Inv w s)(hat:∀W t,Inv W t→RdrAt W r v l t)(hto:∀W W' t t',Inv W t→RdrAt W' r v l t' →Mod (λb=>b=r) W W' →Inv W' t')
  (hmd:∀W W' t (F:Nat→Prop),Inv W t→Mod F W W' →(∀y,F y→w.heap.size≤y)→Inv W' t)
  (hcall:∀W t (K' :Kont),Inv W t→(∀W',Inv W' (f t).2→Mod (λb=>b=r) W W' →K' (.agg (ctC (f t).1).toArray) W')→callV Tryz.prog fv [] W K')(hmost:most≤100000)
  (hK:∀sl w',Own w' 108 27 sl (rsList l f most s).1.length ((rsList l f most s).1.flatMap ctC)→Inv w' (rsList l f most s).2→Mod (λb=>b=r) w w' →(∀y,inSl sl y→w.heap.size≤y)→K sl w'):
  Ca Tryz.prog 66 #[rdV r,.int .u64 most,fv] w K:=by
 apply ca66
 unfold F66
 have hrl:r<w.heap.size:=(hat _ _ hI).lt
 obtain⟨w1,e1,b1,m1⟩:=boxRd r w
 obtain⟨u,hu⟩:∃u,u=w.heap.size:=⟨_,rfl⟩
 rw[←hu]at e1 b1
 refine rvS e1 (rvS (rvF _ _) (rvS (rvL b1) ?_))
 have i1:=hmd _ _ _ _ hI m1 (λ_ h=>h.elim)
 refine ca_small (hat _ _ i1) (most:=most) (by omega) λw2 r2 m2=>?_
 have i2:=hto _ _ _ _ i1 r2 m2
 have b2:RdVar w2 u r:=m2.hpk b1 (by omega)
 have M2:Mod (λb=>b=r) w w2:=(m1.mono λ_ _ h=>h.elim).trans m2
 have hnm:(rsSmall l most s).1≤most:=rsSmall_most
 have hlist:rsList l f most s=rsTake l f (rsSmall l most s).1 [] (rsSmall l most s).2:=rfl
 obtain⟨n,hn⟩:∃n,n=(rsSmall l most s).1:=⟨_,rfl⟩
 obtain⟨s1,hs1⟩:∃s1,s1=(rsSmall l most s).2:=⟨_,rfl⟩
 rw[←hn]at hnm⊢
 rw[←hs1]at i2
 rw[←hn,←hs1]at hlist
 rw[hlist]at hK
 refine loopV (λst W=>∃(i:Nat) (acc:List (Ct)) (sl:Value) (t:Rs),i≤n∧acc.length=i∧st=(sl,.int .u64 i,())∧Inv W t∧Own W 108 27 sl acc.length (acc.flatMap ctC)∧(∀y,inSl sl y→u<y)∧rsTake l f n [] s1=rsTake l f (n - i) acc t∧RdVar W u r∧Mod (λb=>b=r) w W)
  (λst _=>match st.2.1 with| .int _ i=>n - i.toNat|_=>0) ⟨0,[],nilV,s1,by omega,rfl,rfl,i2,Own.nil _ _ _,λy hy=>(by cases hy),rfl,b2,M2⟩ ?_
 rintro⟨_,_⟩ W ⟨i,acc,sl,t,hi,hal,⟨⟩,iW,oW,nW,hT,bW,MW⟩ KN hKN
 unfold L66_1
 intro _
 refine rvS (v:=.bool (decide (i<n))) (w' :=W) (by simp[go_sem]) ?_
 by_cases hlt:i<n
 ·rw[ifB_bool,if_pos (by simpa using hlt)]
  refine hcall W t _ iW λW1 iW1 mW1=>?_
  have oW1:=oW.mod mW1 λy hy e=>by have:=nW y hy;omega
  have bW1:RdVar W1 u r:=mW1.hpk bW (by omega)
  have hu1:=lt_of_heap bW1
  refine rx_bigA hzCt ?_
  rw[zeroCt]
  have m2' :Mod (λ_=>False) W1 (W1.alloc (.cells (ctC zCt0).toArray tCt)):=(Mod.refl _ W1).alloc _
  have b2' :CtAt (W1.alloc (.cells (ctC zCt0).toArray tCt)) W1.heap.size zCt0:=by show hp _ _=_;simp[go_sem]
  generalize W1.alloc (.cells (ctC zCt0).toArray tCt)=W2 at m2' b2' ⊢
  refine ctUU (k' :=(f t).1) b2' λW3 b3 m3' =>?_
  have m3:Mod (λ_=>False) W1 W3:=m2'.on m3' λy hy=>.inr (by omega)
  have iW3:=hmd _ _ _ _ iW1 m3 (λ_ h=>h.elim)
  have bW3:RdVar W3 u r:=m3.hpk bW1 id
  have oW3:=oW1.mod m3 λ_ _ h=>h
  have rt:=hat _ _ iW3
  have hle:=rt.le
  have hstep:rsTake l f (n - i) acc t=if l.length - (f t).2.at_=0∧rsDone l (f t).2≠0 then([],(f t).2)else rsTake l f (n - (i+1)) (acc++[(f t).1]) (f t).2:=by
   rw[show n - i=(n - (i+1))+1 by omega];rfl
  rw[hstep]at hT
  refine JoinW.at (λst W' =>st=(.bool (decide (l.length - (f t).2.at_=0∧rsDone l (f t).2≠0)),())∧Mod (λ_=>False) W3 W') ?_ ?_
  ·refine rvS (rvF _ _) (rvS (rvL bW3) ?_)
   refine ca_rleft rt λW4 m4=>?_
   by_cases h0:l.length - (f t).2.at_=0
   ·rw[h0]
    refine rvS (v:=.bool true) (w' :=W4) (by simp[go_sem]) ?_
    rw[ifB_bool,if_pos rfl]
    have bW4:RdVar W4 u r:=m4.hpk bW3 id
    refine rvS (rvF _ _) (rvS (rvL bW4) ?_)
    refine ca_done (rt.mod m4 id λ_ _ h=>h) λW5 m5=>?_
    refine rvS (v:=.bool (decide (rsDone l (f t).2≠0))) (w' :=W5) (by simp[go_sem];try rw[Bool.eq_iff_iff];simp) ?_
    exact⟨by simp,m4.trans m5⟩
   ·have h0' :¬((l.length - (f t).2.at_:Nat):Int)=0:=by omega
    refine rvS (v:=.bool false) (w' :=W4) (by simp[go_sem,h0'];try omega) ?_
    rw[ifB_bool,if_neg Bool.false_ne_true]
    exact⟨by simp[h0],m4⟩
  rintro _ W6 ⟨rfl,m6⟩
  unfold J66_0
  intro _
  have iW6:=hmd _ _ _ _ iW3 m6 (λ_ h=>h.elim)
  have M6:=((MW.trans mW1).on m3 λ_ h=>h.elim).on m6 λ_ h=>h.elim
  have bW6:RdVar W6 u r:=m6.hpk bW3 id
  have hu6:=lt_of_heap bW6
  by_cases hd:l.length - (f t).2.at_=0∧rsDone l (f t).2≠0
  ·rw[if_pos hd]at hT
   rw[hT]at hK
   rw[ifB_bool,if_pos (by simpa using hd)]
   exact hK nilV W6 (Own.nil _ _ _) iW6 M6 λy hy=>(by cases hy)
  ·rw[if_neg hd]at hT
   rw[ifB_bool,if_neg (by simpa using hd)]
   refine rx_bigS (ctC (f t).1) 26 aCtI nCtI (ctC_lenI _) (At.all (m6.hpk b3 id)) ?_
   refine pushV1 (x:=(f t).1) (f:=ctC) uCts (elemT_of eCt) (λ_=>ctC_len _) (ctC_oneI _) rfl (oW3.mod m6 λ_ _ h=>h) (by rw[hal];omega) (by omega) λsl' W7 o7 m7 n7=>?_
   refine rvS (v:=.int .u64 ((i+1:Nat):Int)) (w' :=W7) (by simp[go_sem];rw[wrapU (by omega) (by omega)]) ?_
   refine hKN _ _ ⟨i+1,acc++[(f t).1],sl',(f t).2,by omega,by simp[hal],rfl,hmd _ _ _ _ iW6 m7 (λy hy=>by have:=nW y hy;omega),o7,λy hy=>?_,hT,m7.hpk bW6 λhc=>(by have:=nW u hc;omega),M6.on m7 λy hy=>.inr (by have:=nW y hy;omega)⟩ (by show n - (((i+1:Nat):Int)).toNat<n - ((i:Int)).toNat;omega)
   rcases n7 y hy with h' |h'
   ·exact nW y h'
   ·omega
 ·rw[ifB_bool,if_neg (by simpa using hlt)]
  obtain rfl:i=n:=by omega
  rw[Nat.sub_self]at hT
  have hT' :rsTake l f i [] s1=(acc,t):=hT
  rw[hT']at hK
  exact hK _ W oW iW MW λy hy=>by have:=nW y hy;omega
end Go.Proofs
