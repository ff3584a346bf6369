/- Part of a proof. -/
import Derived.Test.YtgebhcgmckjbbaaGreatS20
set_option linter.all false
namespace Go.Proofs
open Go Go.Vc
attribute [local congr] Ca_congV
theorem rsNum_12(l:List UInt8)(m:Nat)(s:Rs):(((rsSmall l m s).1:Nat):Int)=(rsNum l m s).1∧(rsSmall l m s).2=(rsNum l m s).2:=⟨rfl,rfl⟩
theorem ca_rnatI{w:World}{K:Kont}{r:Nat}{v:Value}{l:List UInt8}{s:Rs}(h:RdrAt w r v l s)
  (hK:∀w',RdrAt w' r v l (rsNum l W64 s).2→Mod (λb=>b=r) w w' →K (.int .u64 (rsNum l W64 s).1) w'):Ca Tryz.prog 61 #[rptr r] w K:=ca_rnat h hK
section
variable{w w' :World}{K:Kont}{c r:Nat}{v:Value}{l:List UInt8}{s:Rs}
theorem acVar2{W:World}{p:Nat}{a b:Ac}(h:hp W p=some (.cells (cellsAc a).toArray 92 (0,0))):(Instr.loadAt 92 (.pointer (some ⟨p,0,none⟩))).run Tryz.prog W=.ok (acV a) W∧
  ∃W',(Instr.storeAt 92 (.pointer (some ⟨p,0,none⟩)) (acV b)).run Tryz.prog W=.ok () W' ∧hp W' p=some (.cells (cellsAc b).toArray 92 (0,0))∧Mod (λy=>y=p) W W' :=by
 simp only[cellsAc]at h⊢
 exact⟨by simp[go_sem,h,acV],(((W.setCell ⟨p,0,none⟩ (.int .u32 b.num)).setCell ⟨p,1,none⟩ (.int .i64 b.cash)).setCell ⟨p,2,none⟩ (.bool b.kil)).setCell ⟨p,3,none⟩ (.bool b.dfl),by simp[go_sem,h,acV],by simp[go_sem,h],((((Mod.refl (λy=>y=p) W).setCell (.inl rfl) _ _).setCell (.inl rfl) _ _).setCell (.inl rfl) _ _).setCell (.inl rfl) _ _⟩
theorem poVar2{W:World}{p:Nat}{a b:Po}(h:hp W p=some (.cells (cellsPo a).toArray 112 (0,0))):(Instr.loadAt 112 (.pointer (some ⟨p,0,none⟩))).run Tryz.prog W=.ok (poV a) W∧
  ∃W',(Instr.storeAt 112 (.pointer (some ⟨p,0,none⟩)) (poV b)).run Tryz.prog W=.ok () W' ∧hp W' p=some (.cells (cellsPo b).toArray 112 (0,0))∧Mod (λy=>y=p) W W' :=by
 simp only[cellsPo]at h⊢
 exact⟨by simp[go_sem,h,poV],(((W.setCell ⟨p,0,none⟩ (.int .u32 b.c)).setCell ⟨p,1,none⟩ (.int .u32 b.a)).setCell ⟨p,2,none⟩ (.int .i64 b.q)).setCell ⟨p,3,none⟩ (.int .i64 b.b),by simp[go_sem,h,poV],by simp[go_sem,h],((((Mod.refl (λy=>y=p) W).setCell (.inl rfl) _ _).setCell (.inl rfl) _ _).setCell (.inl rfl) _ _).setCell (.inl rfl) _ _⟩
attribute [local irreducible] rsNum rsInt rsFlag rsSp
end
end Go.Proofs
namespace Go.Proofs
open Go Go.Vc
attribute [local congr] Ca_congV
abbrev tRp0:TypeId:=136
theorem rpL{W:World}{q r:Nat}(h:hp W q=some (.cells #[rptr r] tRp0 (0,0))):(Instr.loadAt tRp0 (.pointer (some ⟨q,0,none⟩))).run Tryz.prog W=.ok (rptr r) W:=by
 simp only[rptr]at h⊢
 simp[go_sem,h]
theorem cmS8{W:World}{p:Nat}{c:Cm}(x:Int)(h:CmAt W p c):∃W',(Instr.storeAt 39 (.pointer (some ⟨p,32,none⟩)) (.int .u8 x)).run Tryz.prog W=.ok () W' ∧CmAt W' p {c with ty:=x}∧Mod (λb=>b=p) W W' :=by
 refine⟨W.setCell ⟨p,32,none⟩ (.int .u8 x),by simp[go_sem,h,cm32],?_,(Mod.refl (λb=>b=p) W).setCell (.inl rfl) _ _⟩
 show hp _ p=_
 rw[hp_setCell,if_pos rfl,h,setObj1_cells,List.setIfInBounds_toArray]
 congr 3
 rw[show 32=30+2 from rfl,cmHiSet];rfl
structure RCm(w:World)(y q r:Nat)(v:Value)(l:List UInt8)(x:Cm×Rs):Prop where
 cm:CmAt w y x.1
 rb:hp w q=some (.cells #[rptr r] tRp0 (0,0))
 rd:RdrAt w r v l x.2
 yr:y≠r
 yq:y≠q
 qr:q≠r
 yv:∀b,inRd v b→b≠y
abbrev YR(y r:Nat):Nat→Prop:=λb=>b=y∨b=r
section
variable{w w' :World}{K:Kont}{y q r:Nat}{v:Value}{l:List UInt8}{x:Cm×Rs}
theorem RCm.to(h:RCm w y q r v l x){s:Rs}(h' :RdrAt w' r v l s)(m:Mod (λb=>b=r) w w'):RCm w' y q r v l (x.1,s):=⟨m.hpk h.cm h.yr,m.hpk h.rb h.qr,h',h.yr,h.yq,h.qr,h.yv⟩
theorem RCm.st(h:RCm w y q r v l x){c:Cm}(h' :CmAt w' y c)(m:Mod (λb=>b=y) w w'):RCm w' y q r v l (c,x.2):=⟨h',m.hpk h.rb λe=>h.yq e.symm,h.rd.mod m (λe=>h.yr e.symm) h.yv,h.yr,h.yq,h.qr,h.yv⟩
theorem RCm.md0(h:RCm w y q r v l x)(m:Mod (λ_=>False) w w'):RCm w' y q r v l x:=⟨m.hpk h.cm id,m.hpk h.rb id,h.rd.mod m id λ_ _ h=>h,h.yr,h.yq,h.qr,h.yv⟩
theorem YR.both{w1 w2:World}(m1:Mod (λb=>b=r) w w1)(m2:Mod (λb=>b=y) w1 w2):Mod (YR y r) w w2:=(m1.mono λ_ _ h=>.inr h).trans (m2.mono λ_ _ h=>.inl h)
theorem RCm.put(h:RCm w y q r v l x){s:Rs}{w1:World}(h1:RdrAt w1 r v l s)(m1:Mod (λb=>b=r) w w1){st:Sem Unit}{c:Cm}(hst:CmAt w1 y x.1→∃W',st.run Tryz.prog w1=.ok () W' ∧CmAt W' y c∧Mod (λb=>b=y) w1 W'){K2:World→Prop}
  (hK:∀W',RCm W' y q r v l (c,s)→Mod (YR y r) w W' →K2 W'):ru Tryz.prog st w1 K2:=by
 have h2:=h.to h1 m1
 obtain⟨W',e,b,m⟩:=hst h2.cm
 exact ruS e (hK W' (h2.st b m) (YR.both m1 m))
end
attribute [local irreducible] rsNum rsInt rsFlag rsSp rsSmall
section
variable{w:World}{y q r:Nat}{v:Value}{l:List UInt8}{x:Cm×Rs}
theorem rc1{K:Kont}(h:RCm w y q r v l x)(hK:∀W',RCm W' y q r v l (rqAc l x)→Mod (YR y r) w W' →K (.tuple #[]) W'):callV Tryz.prog (.func (.func 181) #[] #[.pointer (some ⟨q,0,none⟩),.pointer (some ⟨y,0,none⟩)]) [] w K:=by
 rw[callV_func]
 show Ca Tryz.prog 181 #[.pointer (some ⟨q,0,none⟩),.pointer (some ⟨y,0,none⟩)] w K
 apply ca181
 unfold F181
 refine rvS (rpL h.rb) ?_
 refine ca_small h.rd (most:=4294967295) (by omega) λw1 r1 m1=>?_
 have hn:=num_u32 l x.2
 have e:(((rsSmall l 4294967295 x.2).1:Nat):Int)=(rsNum l W32 x.2).1∧(rsSmall l 4294967295 x.2).2=(rsNum l W32 x.2).2:=rsNum_12 _ _ _
 rw[e.1]
 rw[e.2]at r1
 refine rvS (v:=.int .u32 (rsNum l W32 x.2).1) (w' :=w1) (by simp[go_sem];rw[IntKind.wrap_u32'];omega) ?_
 refine rvS (cmF1 _) ?_
 exact h.put r1 m1 (cmS1 _) hK
theorem rc2{K:Kont}(h:RCm w y q r v l x)(hK:∀W',RCm W' y q r v l (rqCt l x)→Mod (YR y r) w W' →K (.tuple #[]) W'):callV Tryz.prog (.func (.func 182) #[] #[.pointer (some ⟨q,0,none⟩),.pointer (some ⟨y,0,none⟩)]) [] w K:=by
 rw[callV_func]
 show Ca Tryz.prog 182 #[.pointer (some ⟨q,0,none⟩),.pointer (some ⟨y,0,none⟩)] w K
 apply ca182
 unfold F182
 refine rvS (rpL h.rb) ?_
 refine ca_small h.rd (most:=4294967295) (by omega) λw1 r1 m1=>?_
 have hn:=num_u32 l x.2
 have e:(((rsSmall l 4294967295 x.2).1:Nat):Int)=(rsNum l W32 x.2).1∧(rsSmall l 4294967295 x.2).2=(rsNum l W32 x.2).2:=rsNum_12 _ _ _
 rw[e.1]
 rw[e.2]at r1
 refine rvS (v:=.int .u32 (rsNum l W32 x.2).1) (w' :=w1) (by simp[go_sem];rw[IntKind.wrap_u32'];omega) ?_
 refine rvS (cmF2 _) ?_
 exact h.put r1 m1 (cmS2 _) hK
theorem rc3{K:Kont}(h:RCm w y q r v l x)(hK:∀W',RCm W' y q r v l (rqQt l (rqPr l x))→Mod (YR y r) w W' →K (.tuple #[]) W'):callV Tryz.prog (.func (.func 183) #[] #[.pointer (some ⟨q,0,none⟩),.pointer (some ⟨y,0,none⟩)]) [] w K:=by
 rw[callV_func]
 show Ca Tryz.prog 183 #[.pointer (some ⟨q,0,none⟩),.pointer (some ⟨y,0,none⟩)] w K
 apply ca183
 unfold F183
 have m0:=(Mod.refl (λ_=>False) w).drew
 have h0:=h.md0 m0
 generalize w.drew=w0 at m0 h0⊢
 refine rdWS (rpL h0.rb) (rdWS (rpL h0.rb) ?_)
 refine ca_rint h0.rd λw1 r1 m1=>?_
 have h1:=h0.to r1 m1
 refine⟨rpL h1.rb,?_⟩
 refine rdPS cmF9 ?_
 refine ca_rint h1.rd λw2 r2 m2=>?_
 have h2:=h1.to r2 m2
 obtain⟨w3,e3,b3,m3⟩:=cmS9 (rsInt l x.2).1 h2.cm
 have h3:=h2.st b3 m3
 refine ruS e3 (rdPS cmF10 ?_)
 obtain⟨w4,e4,b4,m4⟩:=cmS10 (rsInt l (rsInt l x.2).2).1 h3.cm
 refine ruS e4 ?_
 refine hK w4 (h3.st b4 m4) ?_
 have M:Mod (YR y r) w w1:=(m0.mono λ_ _ h=>h.elim).trans (m1.mono λ_ _ h=>.inr h)
 exact(M.trans (YR.both m2 m3)).trans (m4.mono λ_ _ h=>.inl h)
theorem rcA{K2:World→Prop}(h:RCm w y q r v l x)(hK:∀W',RCm W' y q r v l (rqAm l x)→Mod (YR y r) w W' →K2 W'):
  rv Tryz.prog (Instr.loadAt tRp0 (.pointer (some ⟨q,0,none⟩))) w λa w1=>Ca Tryz.prog 62 #[a] w1 λb w2=>rv Tryz.prog (Instr.fieldAt tCm (.pointer (some ⟨y,0,none⟩)) 4) w2 λc w3=>ru Tryz.prog (Instr.storeAt 2 c b) w3 K2:=by
 refine rvS (rpL h.rb) ?_
 refine ca_rint h.rd λw1 r1 m1=>?_
 exact rvS (cmF4 _) (h.put r1 m1 (cmS4 _) hK)
theorem rcP{K2:World→Prop}(h:RCm w y q r v l x)(hK:∀W',RCm W' y q r v l (rqPr l x)→Mod (YR y r) w W' →K2 W'):
  rv Tryz.prog (Instr.loadAt tRp0 (.pointer (some ⟨q,0,none⟩))) w λa w1=>Ca Tryz.prog 62 #[a] w1 λb w2=>rv Tryz.prog (Instr.fieldAt tCm (.pointer (some ⟨y,0,none⟩)) 9) w2 λc w3=>ru Tryz.prog (Instr.storeAt 2 c b) w3 K2:=by
 refine rvS (rpL h.rb) ?_
 refine ca_rint h.rd λw1 r1 m1=>?_
 exact rvS (cmF9 _) (h.put r1 m1 (cmS9 _) hK)
theorem rcS{K2:World→Prop}(h:RCm w y q r v l x)(hK:∀W',RCm W' y q r v l (rqSp l x)→Mod (YR y r) w W' →K2 W'):
  rv Tryz.prog (Instr.loadAt tRp0 (.pointer (some ⟨q,0,none⟩))) w λa w1=>Ca Tryz.prog 68 #[a] w1 λb w2=>rv Tryz.prog (Instr.fieldAt tCm (.pointer (some ⟨y,0,none⟩)) 5) w2 λc w3=>rux Tryz.prog (bigU 38 c b) w3 K2:=by
 refine rvS (rpL h.rb) ?_
 refine ca_take h.rd λw1 r1 m1=>?_
 refine rvS (cm5F _) ?_
 have h2:=h.to r1 m1
 exact cmS5 _ h2.cm λW' b m=>hK W' (h2.st b m) (YR.both m1 m)
theorem rcO{K2:World→Prop}(h:RCm w y q r v l x)(hK:∀W',RCm W' y q r v l (rqOn l x)→Mod (YR y r) w W' →K2 W'):
  rv Tryz.prog (Instr.loadAt tRp0 (.pointer (some ⟨q,0,none⟩))) w λa w1=>Ca Tryz.prog 65 #[a] w1 λb w2=>rv Tryz.prog (Instr.fieldAt tCm (.pointer (some ⟨y,0,none⟩)) 6) w2 λc w3=>ru Tryz.prog (Instr.storeAt 4 c b) w3 K2:=by
 refine rvS (rpL h.rb) ?_
 refine ca_rflag h.rd λw1 r1 m1=>?_
 exact rvS (cmF6 _) (h.put r1 m1 (cmS6 _) hK)
theorem rcB{K2:World→Prop}(h:RCm w y q r v l x)(hK:∀W',RCm W' y q r v l (rqBu l x)→Mod (YR y r) w W' →K2 W'):
  rv Tryz.prog (Instr.loadAt tRp0 (.pointer (some ⟨q,0,none⟩))) w λa w1=>Ca Tryz.prog 65 #[a] w1 λb w2=>rv Tryz.prog (Instr.fieldAt tCm (.pointer (some ⟨y,0,none⟩)) 7) w2 λc w3=>ru Tryz.prog (Instr.storeAt 4 c b) w3 K2:=by
 refine rvS (rpL h.rb) ?_
 refine ca_rflag h.rd λw1 r1 m1=>?_
 exact rvS (cmF7 _) (h.put r1 m1 (cmS7 _) hK)
theorem rcT{K2:World→Prop}(h:RCm w y q r v l x)(hK:∀W',RCm W' y q r v l (rqTy l x)→Mod (YR y r) w W' →K2 W'):
  rv Tryz.prog (Instr.loadAt tRp0 (.pointer (some ⟨q,0,none⟩))) w λa w1=>Ca Tryz.prog 69 #[a,.int .u64 255] w1 λb w2=>rv Tryz.prog (convert 27 39 b) w2 λb' w2' =>rv Tryz.prog (Instr.fieldAt tCm (.pointer (some ⟨y,0,none⟩)) 8) w2' λc w3=>ru Tryz.prog (Instr.storeAt 39 c b') w3 K2:=by
 refine rvS (rpL h.rb) ?_
 refine ca_small h.rd (most:=255) (by omega) λw1 r1 m1=>?_
 have hn:=num_u8 l x.2
 have e:(((rsSmall l 255 x.2).1:Nat):Int)=(rsNum l 255 x.2).1∧(rsSmall l 255 x.2).2=(rsNum l 255 x.2).2:=rsNum_12 _ _ _
 rw[e.1]
 rw[e.2]at r1
 refine rvS (v:=.int .u8 (rsNum l 255 x.2).1) (w' :=w1) (by simp[go_sem];rw[IntKind.wrap_u8'];omega) ?_
 exact rvS (cmF8 _) (h.put r1 m1 (cmS8 _) hK)
theorem rcN{K2:World→Prop}(h:RCm w y q r v l x)(hK:∀W',RCm W' y q r v l (rqNo l x)→Mod (YR y r) w W' →K2 W'):
  rv Tryz.prog (Instr.loadAt tRp0 (.pointer (some ⟨q,0,none⟩))) w λa w1=>Ca Tryz.prog 61 #[a] w1 λb w2=>rv Tryz.prog (Instr.fieldAt tCm (.pointer (some ⟨y,0,none⟩)) 3) w2 λc w3=>ru Tryz.prog (Instr.storeAt 27 c b) w3 K2:=by
 refine rvS (rpL h.rb) ?_
 refine ca_rnatI h.rd λw1 r1 m1=>?_
 exact rvS (cmF3 _) (h.put r1 m1 (cmS3 _) hK)
end
attribute [local irreducible] rqAc rqCt rqNo rqAm rqSp rqOn rqBu rqTy rqPr rqQt
theorem bkZ0:Tryz.prog.built tCm []=some (cmC zCm).toArray:=by kernel_rfl
theorem bkK(k:Int):Tryz.prog.built tCm [(0,.int .u8 k)]=some (cmC (kCm k)).toArray:=builtCm k
set_option maxRecDepth 10000 in
set_option maxHeartbeats 4000000 in
theorem ca_readCm{w:World}{K:Kont}{v:Value}{l:List UInt8}(h:Rd w 1 v l.length (bv l))(hl:l.length≤1000000000)
  (hK:∀w',Mod (λ_=>False) w w' →K (.tuple #[cmV ((rdCm l).getD zCm),.int .i64 (if(rdCm l).isSome then 0 else 5)]) w'):Ca Tryz.prog 104 #[v] w K:=by
 apply ca104
 unfold F104
 refine newCm λw1 c1 m1=>?_
 obtain⟨z,hz⟩:∃z,z=w.heap.size:=⟨_,rfl⟩
 rw[←hz]at c1⊢
 refine ca_newReader (l:=l) (h.mod m1 λ_ _ h=>h) hl λw2 r2 m2=>?_
 obtain⟨r,hr⟩:∃r,r=w1.heap.size:=⟨_,rfl⟩
 rw[←hr]at r2⊢
 have c2:CmAt w2 z zCm:=m2.hpk c1 id
 have hzr:z<r:=by have:=lt_of_heap c1;omega
 have M2:=m1.trans m2
 obtain⟨q,hq⟩:∃q,q=w2.heap.size:=⟨_,rfl⟩
 have hrq:r<q:=by have:=r2.lt;omega
 obtain⟨w4,hw4,m4,b4⟩:∃w4,(w2.alloc (.cells #[.pointer none] tRp0)).setCell ⟨q,0,none⟩ (rptr r)=w4∧Mod (λ_=>False) w2 w4∧hp w4 q=some (.cells #[rptr r] tRp0 (0,0)):=
  ⟨_,rfl,((Mod.refl _ w2).alloc _).setCell (.inr (by show w2.heap.size≤q;omega)) _ _,by rw[hq];simp[go_sem,rptr]⟩
 refine rvS (v:=.pointer (some ⟨q,0,none⟩)) (w' :=w2.alloc (.cells #[.pointer none] tRp0)) (by rw[hq];simp[go_sem]) ?_
 refine ruS (w' :=w4) (by rw[←hw4,hq];simp[go_sem,rptr]) ?_
 clear hw4
 have r4:=r2.mod m4 id λ_ _ h=>h
 have c4:CmAt w4 z zCm:=m4.hpk c2 id
 refine rvS (rpL b4) ?_
 refine ca_small r4 (most:=14) (by omega) λw5 r5 m5=>?_
 have hn:=rsNum_fit l 14 ⟨0,0⟩
 obtain⟨k,hk⟩:∃k,k=rsNum l 14 ⟨0,0⟩:=⟨_,rfl⟩
 have e:(((rsSmall l 14 ⟨0,0⟩).1:Nat):Int)=k.1∧(rsSmall l 14 ⟨0,0⟩).2=k.2:=by rw[hk];exact rsNum_12 _ _ _
 rw[e.1]
 rw[e.2]at r5
 rw[←hk]at hn
 refine rvS (v:=.int .u8 k.1) (w' :=w5) (by simp[go_sem];rw[IntKind.wrap_u8'];omega) ?_
 have hvl:∀b,inRd v b→b<z:=λb hb=>by have:=h.lt hb;omega
 have c5:CmAt w5 z zCm:=m5.hpk c4 (by omega)
 have b5:=m5.hpk b4 (by omega)
 have M5:Mod (λ_=>False) w w5:=(M2.trans m4).on m5 λy hy=>.inr (by omega)
 refine rx_bigB (bkK k.1) ?_
 refine newCm λw6 y6 m6=>?_
 obtain⟨y,hy⟩:∃y,y=w5.heap.size:=⟨_,rfl⟩
 rw[←hy]at y6⊢
 have hqy:q<y:=by have:=lt_of_heap b5;omega
 refine cmAll (kCm k.1) y6 λw7 y7 m7=>?_
 have M57:Mod (λ_=>False) w5 w7:=m6.on m7 λx hx=>.inr (by omega)
 have c7:CmAt w7 z zCm:=M57.hpk c5 id
 have M7:=M5.trans M57
 have h7:RCm w7 y q r v l (kCm k.1,k.2):=⟨y7,M57.hpk b5 id,r5.mod M57 id λ_ _ h=>h,by omega,by omega,by omega,λb hb=>by have:=hvl b hb;omega⟩
 clear r5 b5 y7 y6
 have hx:rdCx l=rdC l k.1 (kCm k.1,k.2):=by rw[hk];rfl
 refine JoinW.at (λs W=>s=()∧RCm W y q r v l (rdC l k.1 (kCm k.1,k.2))∧Mod (YR y r) w7 W) ?_ ?_
 ·refine rvS (cm0F _) (rvS (cm0L h7.cm) ?_)
  refine JoinW.at (λs W=>s=(.bool (decide (k.1=1∨k.1=2)),())∧w7=W) ?_ ?_
  ·by_cases h1:k.1=1
   ·refine rvS (v:=.bool true) (w' :=w7) (by simp[go_sem,kCm,h1]) ?_
    rw[ifB_bool,if_pos rfl]
    exact⟨by simp[h1],rfl⟩
   ·refine rvS (v:=.bool false) (w' :=w7) (by simp[go_sem,kCm,h1]) ?_
    rw[ifB_bool,if_neg Bool.false_ne_true]
    refine rvS (v:=.bool (decide (k.1=2))) (w' :=w7) (by simp[go_sem,kCm];rfl) ?_
    exact⟨by simp[h1],rfl⟩
  rintro _ _ ⟨rfl,rfl⟩
  unfold J104_0
  intro _
  have hkk:(kCm k.1).kind=k.1:=rfl
  rw[hkk]
  by_cases h1:k.1=1∨k.1=2
  ·rw[ifB_bool,if_pos (by simpa using h1)]
   refine rc1 h7 λW1 a1 b1=>?_
   refine rcA a1 λW2 a2 b2=>?_
   exact⟨rfl,by unfold rdC;rw[if_pos h1];exact a2,b1.trans b2⟩
  rw[ifB_bool,if_neg (by simpa using h1)]
  by_cases h3:k.1=3
  ·refine rvS (v:=.bool true) (w' :=w7) (by simp[go_sem,h3]) ?_
   rw[ifB_bool,if_pos rfl]
   refine rcS h7 λW1 a1 b1=>?_
   exact⟨rfl,by unfold rdC;rw[if_neg h1,if_pos h3];exact a1,b1⟩
  refine rvS (v:=.bool false) (w' :=w7) (by simp[go_sem,h3]) ?_
  rw[ifB_bool,if_neg Bool.false_ne_true]
  by_cases h4:k.1=4
  ·refine rvS (v:=.bool true) (w' :=w7) (by simp[go_sem,h4]) ?_
   rw[ifB_bool,if_pos rfl]
   refine rc2 h7 λW1 a1 b1=>?_
   refine rcO a1 λW2 a2 b2=>?_
   exact⟨rfl,by unfold rdC;rw[if_neg h1,if_neg h3,if_pos h4];exact a2,b1.trans b2⟩
  refine rvS (v:=.bool false) (w' :=w7) (by simp[go_sem,h4]) ?_
  rw[ifB_bool,if_neg Bool.false_ne_true]
  by_cases h5:k.1=5
  ·refine rvS (v:=.bool true) (w' :=w7) (by simp[go_sem,h5]) ?_
   rw[ifB_bool,if_pos rfl]
   refine rc1 h7 λW1 a1 b1=>?_
   refine rc2 a1 λW2 a2 b2=>?_
   refine rcB a2 λW3 a3 b3=>?_
   refine rcT a3 λW4 a4 b4=>?_
   refine rc3 a4 λW5 a5 b5=>?_
   exact⟨rfl,by unfold rdC;rw[if_neg h1,if_neg h3,if_neg h4,if_pos h5];exact a5,(((b1.trans b2).trans b3).trans b4).trans b5⟩
  refine rvS (v:=.bool false) (w' :=w7) (by simp[go_sem,h5]) ?_
  rw[ifB_bool,if_neg Bool.false_ne_true]
  by_cases h6:k.1=6
  ·refine rvS (v:=.bool true) (w' :=w7) (by simp[go_sem,h6]) ?_
   rw[ifB_bool,if_pos rfl]
   refine rc1 h7 λW1 a1 b1=>?_
   refine rcN a1 λW2 a2 b2=>?_
   exact⟨rfl,by unfold rdC;rw[if_neg h1,if_neg h3,if_neg h4,if_neg h5,if_pos h6];exact a2,b1.trans b2⟩
  refine rvS (v:=.bool false) (w' :=w7) (by simp[go_sem,h6]) ?_
  rw[ifB_bool,if_neg Bool.false_ne_true]
  by_cases h7' :k.1=7
  ·refine rvS (v:=.bool true) (w' :=w7) (by simp[go_sem,h7']) ?_
   rw[ifB_bool,if_pos rfl]
   refine rc1 h7 λW1 a1 b1=>?_
   refine rcN a1 λW2 a2 b2=>?_
   refine rc3 a2 λW3 a3 b3=>?_
   exact⟨rfl,by unfold rdC;rw[if_neg h1,if_neg h3,if_neg h4,if_neg h5,if_neg h6,if_pos h7'];exact a3,(b1.trans b2).trans b3⟩
  refine rvS (v:=.bool false) (w' :=w7) (by simp[go_sem,h7']) ?_
  rw[ifB_bool,if_neg Bool.false_ne_true]
  by_cases h8:k.1=8
  ·refine rvS (v:=.bool true) (w' :=w7) (by simp[go_sem,h8]) ?_
   rw[ifB_bool,if_pos rfl]
   refine rc1 h7 λW1 a1 b1=>?_
   refine rc2 a1 λW2 a2 b2=>?_
   exact⟨rfl,by unfold rdC;rw[if_neg h1,if_neg h3,if_neg h4,if_neg h5,if_neg h6,if_neg h7',if_pos h8];exact a2,b1.trans b2⟩
  refine rvS (v:=.bool false) (w' :=w7) (by simp[go_sem,h8]) ?_
  rw[ifB_bool,if_neg Bool.false_ne_true]
  by_cases h9:k.1=9
  ·refine rvS (v:=.bool true) (w' :=w7) (by simp[go_sem,h9]) ?_
   rw[ifB_bool,if_pos rfl]
   refine rc1 h7 λW1 a1 b1=>?_
   refine rc2 a1 λW2 a2 b2=>?_
   refine rcB a2 λW3 a3 b3=>?_
   refine rc3 a3 λW4 a4 b4=>?_
   exact⟨rfl,by unfold rdC;rw[if_neg h1,if_neg h3,if_neg h4,if_neg h5,if_neg h6,if_neg h7',if_neg h8,if_pos h9];exact a4,((b1.trans b2).trans b3).trans b4⟩
  refine rvS (v:=.bool false) (w' :=w7) (by simp[go_sem,h9]) ?_
  rw[ifB_bool,if_neg Bool.false_ne_true]
  by_cases h10:k.1=10
  ·refine rvS (v:=.bool true) (w' :=w7) (by simp[go_sem,h10]) ?_
   rw[ifB_bool,if_pos rfl]
   refine rc1 h7 λW1 a1 b1=>?_
   refine rcO a1 λW2 a2 b2=>?_
   exact⟨rfl,by unfold rdC;rw[if_neg h1,if_neg h3,if_neg h4,if_neg h5,if_neg h6,if_neg h7',if_neg h8,if_neg h9,if_pos h10];exact a2,b1.trans b2⟩
  refine rvS (v:=.bool false) (w' :=w7) (by simp[go_sem,h10]) ?_
  rw[ifB_bool,if_neg Bool.false_ne_true]
  by_cases h11:k.1=11
  ·refine rvS (v:=.bool true) (w' :=w7) (by simp[go_sem,h11]) ?_
   rw[ifB_bool,if_pos rfl]
   refine rc2 h7 λW1 a1 b1=>?_
   refine rcP a1 λW2 a2 b2=>?_
   exact⟨rfl,by unfold rdC;rw[if_neg h1,if_neg h3,if_neg h4,if_neg h5,if_neg h6,if_neg h7',if_neg h8,if_neg h9,if_neg h10,if_pos h11];exact a2,b1.trans b2⟩
  refine rvS (v:=.bool false) (w' :=w7) (by simp[go_sem,h11]) ?_
  rw[ifB_bool,if_neg Bool.false_ne_true]
  by_cases h13:k.1=13
  ·refine rvS (v:=.bool true) (w' :=w7) (by simp[go_sem,h13]) ?_
   rw[ifB_bool,if_pos rfl]
   refine rc1 h7 λW1 a1 b1=>?_
   exact⟨rfl,by unfold rdC;rw[if_neg h1,if_neg h3,if_neg h4,if_neg h5,if_neg h6,if_neg h7',if_neg h8,if_neg h9,if_neg h10,if_neg h11,if_pos h13];exact a1,b1⟩
  refine rvS (v:=.bool false) (w' :=w7) (by simp[go_sem,h13]) ?_
  rw[ifB_bool,if_neg Bool.false_ne_true]
  by_cases h14:k.1=14
  ·refine rvS (v:=.bool true) (w' :=w7) (by simp[go_sem,h14]) ?_
   rw[ifB_bool,if_pos rfl]
   refine rc2 h7 λW1 a1 b1=>?_
   exact⟨rfl,by unfold rdC;rw[if_neg h1,if_neg h3,if_neg h4,if_neg h5,if_neg h6,if_neg h7',if_neg h8,if_neg h9,if_neg h10,if_neg h11,if_neg h13,if_pos h14];exact a1,b1⟩
  refine rvS (v:=.bool false) (w' :=w7) (by simp[go_sem,h14]) ?_
  rw[ifB_bool,if_neg Bool.false_ne_true]
  exact⟨rfl,by unfold rdC;rw[if_neg h1,if_neg h3,if_neg h4,if_neg h5,if_neg h6,if_neg h7',if_neg h8,if_neg h9,if_neg h10,if_neg h11,if_neg h13,if_neg h14];exact h7,Mod.refl _ _⟩
 rw[←hx]
 have hfit:=rdCx_fit l
 obtain⟨x,hxx⟩:∃x,x=rdCx l:=⟨_,rfl⟩
 have hcm:rdCm l=if rsDone l x.2=0∧x.1.may=true then some x.1 else none:=by rw[hxx];rfl
 rw[←hxx]at hfit⊢
 rintro _ W ⟨rfl,hW,mW⟩
 unfold J104_2
 intro _
 have cW:CmAt W z zCm:=mW.hpk c7 λhc=>by rcases hc with hc|hc<;>omega
 have MW:Mod (λ_=>False) w W:=M7.on mW λb hb=>.inr (by rcases hb with hb|hb<;>omega)
 refine JoinW.at (λs W' =>s=(.bool (decide (¬(rsDone l x.2=0∧x.1.may=true))),())∧Mod (λ_=>False) W W') ?_ ?_
 ·refine rvS (rpL hW.rb) ?_
  refine ca_done hW.rd λw8 m8=>?_
  by_cases hd:rsDone l x.2=0
  ·refine rvS (v:=.bool false) (w' :=w8) (by simp[go_sem,hd]) ?_
   rw[ifB_bool,if_neg Bool.false_ne_true]
   refine rx_of (cmLd (hW.md0 m8).cm) ?_
   refine ca_mayC hfit λw9 m9=>?_
   refine rvS (v:=.bool (!x.1.may)) (w' :=w9) (by simp[go_sem]) ?_
   refine⟨?_,m8.trans m9⟩
   cases hm:x.1.may<;>simp[hd,hm]
  ·refine rvS (v:=.bool true) (w' :=w8) (by simp[go_sem];omega) ?_
   rw[ifB_bool,if_pos rfl]
   exact⟨by simp[hd],m8⟩
 rintro _ W8 ⟨rfl,m8⟩
 unfold J104_1
 intro _
 have c8:CmAt W8 z zCm:=m8.hpk cW id
 by_cases hok:rsDone l x.2=0∧x.1.may=true
 ·rw[ifB_bool,if_neg (by rw[decide_eq_true_eq];exact λh=>h hok)]
  rw[if_pos hok]at hcm
  rw[hcm]at hK
  refine rx_of (cmLd (hW.md0 m8).cm) ?_
  refine cmAll x.1 c8 λw9 c9 m9=>?_
  refine rdX_of (cmLd c9) ?_
  exact hK w9 ((MW.trans m8).on m9 λb hb=>.inr (by omega))
 ·rw[ifB_bool,if_pos (by rw[decide_eq_true_eq];exact hok)]
  rw[if_neg hok]at hcm
  rw[hcm]at hK
  refine rx_bigB bkZ0 ?_
  refine cmAll zCm c8 λw9 c9 m9=>?_
  refine rdX_of (cmLd c9) ?_
  exact hK w9 ((MW.trans m8).on m9 λb hb=>.inr (by omega))
end Go.Proofs
namespace Go.Proofs
open Go Go.Vc
attribute [local congr] Ca_congV
theorem natB0s:natB 0=[0]:=by unfold natB;rfl
section
variable{w:World}{K:Kont}{s fv:Value}{a:Option Addr}{c:Nat}{l:List UInt8}
theorem ca_wl0T(h:OwnB w s l)(hl:l.length≤1000)(hK:∀s' w',OwnB w' s' (l++[0])→Mod (inSl s) w w' →(∀b,inSl s' b→inSl s b∨w.heap.size≤b)→K s' w'):Ca Tryz.prog 186 #[s,.slice a 0 c,fv] w K:=by
 apply ca186
 unfold F186
 refine rnS (v:=.int .i64 0) (w' :=w) (by simp[go_sem]) (rvS (v:=.int .u64 0) (w' :=w) (by simp[go_sem];decide) ?_)
 refine ca_wnatB (n:=0) h (by omega) (by omega) λs' w' o m n=>?_
 rw[natB0s]at o
 refine rnS (v:=.int .i64 0) (w' :=w') (by simp[go_sem]) ?_
 refine loopV (λst W=>st=(s',.int .i64 0,())∧w' =W) (λ_ _=>0) ⟨rfl,rfl⟩ ?_
 rintro _ _ ⟨rfl,rfl⟩ KN hKN
 unfold L186_0
 intro _
 refine rvS (v:=.bool false) (w' :=w') (by simp[go_sem]) ?_
 rw[ifB_bool,if_neg Bool.false_ne_true]
 exact hK _ _ o m n
theorem ca_wl0N(h:OwnB w s l)(hl:l.length≤1000)(hK:∀s' w',OwnB w' s' (l++[0])→Mod (inSl s) w w' →(∀b,inSl s' b→inSl s b∨w.heap.size≤b)→K s' w'):Ca Tryz.prog 188 #[s,.slice a 0 c,fv] w K:=by
 apply ca188
 unfold F188
 refine rnS (v:=.int .i64 0) (w' :=w) (by simp[go_sem]) (rvS (v:=.int .u64 0) (w' :=w) (by simp[go_sem];decide) ?_)
 refine ca_wnatB (n:=0) h (by omega) (by omega) λs' w' o m n=>?_
 rw[natB0s]at o
 refine rnS (v:=.int .i64 0) (w' :=w') (by simp[go_sem]) ?_
 refine loopV (λst W=>st=(s',.int .i64 0,())∧w' =W) (λ_ _=>0) ⟨rfl,rfl⟩ ?_
 rintro _ _ ⟨rfl,rfl⟩ KN hKN
 unfold L188_0
 intro _
 refine rvS (v:=.bool false) (w' :=w') (by simp[go_sem]) ?_
 rw[ifB_bool,if_neg Bool.false_ne_true]
 exact hK _ _ o m n
theorem ca_wl0A(h:OwnB w s l)(hl:l.length≤1000)(hK:∀s' w',OwnB w' s' (l++[0])→Mod (inSl s) w w' →(∀b,inSl s' b→inSl s b∨w.heap.size≤b)→K s' w'):Ca Tryz.prog 189 #[s,.slice a 0 c,fv] w K:=by
 apply ca189
 unfold F189
 refine rnS (v:=.int .i64 0) (w' :=w) (by simp[go_sem]) (rvS (v:=.int .u64 0) (w' :=w) (by simp[go_sem];decide) ?_)
 refine ca_wnatB (n:=0) h (by omega) (by omega) λs' w' o m n=>?_
 rw[natB0s]at o
 refine rnS (v:=.int .i64 0) (w' :=w') (by simp[go_sem]) ?_
 refine loopV (λst W=>st=(s',.int .i64 0,())∧w' =W) (λ_ _=>0) ⟨rfl,rfl⟩ ?_
 rintro _ _ ⟨rfl,rfl⟩ KN hKN
 unfold L189_0
 intro _
 refine rvS (v:=.bool false) (w' :=w') (by simp[go_sem]) ?_
 rw[ifB_bool,if_neg Bool.false_ne_true]
 exact hK _ _ o m n
end
section
variable{w:World}{K:Kont}{a1 a2 a3:Option Addr}{c1 c2 c3 e:Nat}
abbrev tRpS:TypeId:=32
def rpE(e:Nat)(a1 a2 a3:Option Addr)(c1 c2 c3:Nat):Value:=rpV (failR e) (.slice a1 0 c1) (.slice a2 0 c2) (.slice a3 0 c3)
def rpEC(e:Nat)(a1 a2 a3:Option Addr)(c1 c2 c3:Nat):List Value:=[.int .i64 e,.int .u64 0,.int .i64 0,.int .i64 0,.slice a1 0 c1,.slice a2 0 c2,.slice a3 0 c3]
theorem boxRpE(w:World):∃w1,(Instr.box tRpS (rpE e a1 a2 a3 c1 c2 c3)).run Tryz.prog w=.ok (.pointer (some ⟨w.heap.size,0,none⟩)) w1∧hp w1 w.heap.size=some (.cells (rpEC e a1 a2 a3 c1 c2 c3).toArray tRpS (0,0))∧Mod (λ_=>False) w w1:=
 ⟨w.alloc (.cells (rpEC e a1 a2 a3 c1 c2 c3).toArray tRpS),rfl,by simp[go_sem],(Mod.refl _ w).alloc _⟩
theorem ca_empS(hK:∀w',Mod (λ_=>False) w w' →K (.bool true) w'):Ca Tryz.prog 246 #[rpE e a1 a2 a3 c1 c2 c3] w K:=by
 apply ca246
 unfold F246
 obtain⟨w1,e1,b1,m1⟩:=boxRpE (e:=e) (a1:=a1) (a2:=a2) (a3:=a3) (c1:=c1) (c2:=c2) (c3:=c3) w
 refine rvS e1 ?_
 generalize w.heap.size=p at b1⊢
 simp[go_sem,b1,rpEC]
 exact hK w1 m1
theorem ca_mayS(he:e≤999)(hK:∀w',Mod (λ_=>False) w w' →K (.bool true) w'):Ca Tryz.prog 184 #[rpE e a1 a2 a3 c1 c2 c3] w K:=by
 apply ca184
 unfold F184
 obtain⟨w1,e1,b1,m1⟩:=boxRpE (e:=e) (a1:=a1) (a2:=a2) (a3:=a3) (c1:=c1) (c2:=c2) (c3:=c3) w
 refine rvS e1 ?_
 generalize w.heap.size=p at b1⊢
 refine JoinW.at (λs W=>s=(.bool false,())∧Mod (λ_=>False) w W∧hp W p=some (.cells (rpEC e a1 a2 a3 c1 c2 c3).toArray tRpS (0,0))) ?_ ?_
 ·have lf:(Instr.fieldAt tRpS (.pointer (some ⟨p,0,none⟩)) 0).run Tryz.prog w1=.ok (.pointer (some ⟨p,0,none⟩)) w1:=by simp[go_sem]
  have ll:(Instr.loadAt 26 (.pointer (some ⟨p,0,none⟩))).run Tryz.prog w1=.ok (.int .i64 e) w1:=by simp[go_sem,b1,rpEC]
  refine rvS lf (rvS ll ?_)
  refine rvS (v:=.bool false) (w' :=w1) (by simp[go_sem]) ?_
  rw[ifB_bool,if_neg Bool.false_ne_true]
  refine rvS lf (rvS ll ?_)
  refine rvS (v:=.bool false) (w' :=w1) (by simp[go_sem];omega) ?_
  rw[ifB_bool,if_neg Bool.false_ne_true]
  refine rvS lf (rvS ll ?_)
  by_cases h0:e=0
  ·refine rvS (v:=.bool false) (w' :=w1) (by simp[go_sem,h0]) ?_
   rw[ifB_bool,if_neg Bool.false_ne_true]
   exact⟨rfl,m1,b1⟩
  ·refine rvS (v:=.bool true) (w' :=w1) (by simp[go_sem];omega) ?_
   rw[ifB_bool,if_pos rfl]
   have ld:(Instr.loadAt tRpS (.pointer (some ⟨p,0,none⟩))).run Tryz.prog w1=.ok (rpE e a1 a2 a3 c1 c2 c3) w1:=by simp[go_sem,b1,rpEC,rpE,rpV,failR,zRp]
   refine rvS ld ?_
   refine ca_empS λw2 m2=>?_
   refine rvS (v:=.bool false) (w' :=w2) (by simp[go_sem]) ?_
   exact⟨rfl,m1.trans m2,m2.hpk b1 id⟩
 rintro _ W ⟨rfl,M,b⟩
 unfold J184_0
 intro _
 rw[ifB_bool,if_neg Bool.false_ne_true]
 simp[go_sem,b,rpEC]
 exact hK W M
set_option maxRecDepth 10000 in
theorem ca_wrepS(he:e≤999)(hK:∀s w',OwnB w' s (repB e)→Mod (λ_=>False) w w' →(∀b,inSl s b→w.heap.size≤b)→K (.tuple #[s,.int .i64 0]) w'):
  Ca Tryz.prog 105 #[rpE e a1 a2 a3 c1 c2 c3] w K:=by
 apply ca105
 unfold F105
 obtain⟨w1,e1,b1,m1⟩:=boxRpE (e:=e) (a1:=a1) (a2:=a2) (a3:=a3) (c1:=c1) (c2:=c2) (c3:=c3) w
 refine rvS e1 ?_
 obtain⟨p,hp0⟩:∃p,p=w.heap.size:=⟨_,rfl⟩
 rw[←hp0]at b1⊢
 have ld:(Instr.loadAt tRpS (.pointer (some ⟨p,0,none⟩))).run Tryz.prog w1=.ok (rpE e a1 a2 a3 c1 c2 c3) w1:=by simp[go_sem,b1,rpEC,rpE,rpV,failR,zRp]
 refine rvS ld ?_
 refine ca_mayS he λw2 m2=>?_
 have b2:=m2.hpk b1 id
 have hpw2:=lt_of_heap b2
 have M2:=m1.trans m2
 refine rvS (v:=.bool false) (w' :=w2) (by simp[go_sem]) ?_
 rw[ifB_bool,if_neg Bool.false_ne_true]
 have lf:∀(W:World) (i:Nat),i<7→(Instr.fieldAt tRpS (.pointer (some ⟨p,0,none⟩)) i).run Tryz.prog W=.ok (.pointer (some ⟨p,i,none⟩)) W:=λW i hi=>by
  match i,hi with
  |0,_|1,_|2,_|3,_|4,_|5,_|6,_=>simp[go_sem]
 have ll:∀{W:World},hp W p=some (.cells (rpEC e a1 a2 a3 c1 c2 c3).toArray tRpS (0,0))→(Instr.loadAt 26 (.pointer (some ⟨p,0,none⟩))).run Tryz.prog W=.ok (.int .i64 e) W∧(Instr.loadAt 27 (.pointer (some ⟨p,1,none⟩))).run Tryz.prog W=.ok (.int .u64 0) W∧(Instr.loadAt 2 (.pointer (some ⟨p,2,none⟩))).run Tryz.prog W=.ok (.int .i64 0) W∧(Instr.loadAt 2 (.pointer (some ⟨p,3,none⟩))).run Tryz.prog W=.ok (.int .i64 0) W∧
   (Instr.loadAt 28 (.pointer (some ⟨p,4,none⟩))).run Tryz.prog W=.ok (.slice a1 0 c1) W∧(Instr.loadAt 29 (.pointer (some ⟨p,5,none⟩))).run Tryz.prog W=.ok (.slice a2 0 c2) W∧(Instr.loadAt 30 (.pointer (some ⟨p,6,none⟩))).run Tryz.prog W=.ok (.slice a3 0 c3) W:=λhW=>by
  refine⟨?_,?_,?_,?_,?_,?_,?_⟩<;>simp[go_sem,hW,rpEC]
 refine rvS (lf _ 0 (by omega)) (rvS (ll b2).1 ?_)
 refine rvS (v:=.int .u64 e) (w' :=w2) (by simp[go_sem];rw[wrapU (by omega) (by omega)]) ?_
 refine ca_wnatB (l:=[]) (n:=e) (Own.nil _ _ _) (by omega) (by decide) λs w3 o3 m3 n3=>?_
 have m3' :Mod (λ_=>False) w2 w3:=m3.mono λy _ hy=>by cases hy
 have n3' :∀b,inSl s b→w2.heap.size≤b:=λb hb=>by rcases n3 b hb with h|h;cases h;exact h
 have b3:=m3'.hpk b2 id
 have M3:=M2.trans m3'
 refine rvS (lf _ 0 (by omega)) (rvS (ll b3).1 ?_)
 by_cases h0:e=0
 ·subst h0
  rw[natB0s]at o3
  refine rvS (v:=.bool false) (w' :=w3) (by simp[go_sem]) ?_
  rw[ifB_bool,if_neg Bool.false_ne_true]
  have mdr:Mod (λ_=>False) w3 w3.drew:=(Mod.refl _ w3).drew
  have b4:=mdr.hpk b3 id
  have o4:OwnB w3.drew s _:=o3.mod mdr λ_ _ h=>h
  have M4:=m3'.trans mdr
  generalize w3.drew=w4 at mdr b4 o4 M4⊢
  refine rdPS (λW=>lf W 1 (by omega)) (rdWS (ll b4).2.1 ?_)
  refine rdPS (λW=>lf W 2 (by omega)) (rdWS (ll b4).2.2.1 ?_)
  refine rdPS (λW=>lf W 3 (by omega)) (rdWS (ll b4).2.2.2.1 ?_)
  have big:∀{s:Value} {W W' :World},Mod (λ_=>False) w2 W→(∀b,inSl s b→w2.heap.size≤b)→Mod (inSl s) W W' →Mod (λ_=>False) w2 W' :=λa b m=>a.on m λy hy=>.inr (b y hy)
  have kp:∀{s:Value} {W W' :World},hp W p=some (.cells (rpEC 0 a1 a2 a3 c1 c2 c3).toArray tRpS (0,0))→(∀b,inSl s b→w2.heap.size≤b)→Mod (inSl s) W W' →hp W' p=some (.cells (rpEC 0 a1 a2 a3 c1 c2 c3).toArray tRpS (0,0)):=λa b m=>m.hpk a λhc=>by have:=b p hc;omega
  have nx:∀{s s' :Value} {W:World},(∀b,inSl s b→w2.heap.size≤b)→Mod (λ_=>False) w2 W→(∀b,inSl s' b→inSl s b∨W.heap.size≤b)→∀b,inSl s' b→w2.heap.size≤b:=λa m n b hb=>by
   rcases n b hb with h|h
   ·exact a b h
   ·have:=m.size;omega
  refine ca_wnatB (n:=0) o4 (by omega) (by decide) λs5 w5 o5 m5 n5=>?_
  rw[natB0s]at o5
  have b5:=kp b4 n3' m5
  have N5:=nx n3' M4 n5
  have M5:=big M4 n3' m5
  refine⟨(ll b5).2.2.2.1,(ll b5).2.2.1,?_⟩
  apply ca185
  unfold F185
  refine ca_wint (x:=0) o5 ⟨by decide,by decide⟩ (by decide) λs6 w6 o6 m6 n6=>?_
  have ei:intB 0=[0]:=natB0s
  rw[ei]at o6
  have b6:=kp b5 N5 m6
  have N6:=nx N5 M5 n6
  have M6:=big M5 N5 m6
  refine ca_wint (x:=0) o6 ⟨by decide,by decide⟩ (by decide) λs7 w7 o7 m7 n7=>?_
  rw[ei]at o7
  have b7:=kp b6 N6 m7
  have N7:=nx N6 M6 n7
  have M7:=big M6 N6 m7
  refine rvS (lf _ 4 (by omega)) (rvS (ll b7).2.2.2.2.1 ?_)
  refine ca_wl0T o7 (by decide) λs8 w8 o8 m8 n8=>?_
  have b8:=kp b7 N7 m8
  have N8:=nx N7 M7 n8
  have M8:=big M7 N7 m8
  refine rvS (lf _ 5 (by omega)) (rvS (ll b8).2.2.2.2.2.1 ?_)
  refine ca_wl0N o8 (by decide) λs9 w9 o9 m9 n9=>?_
  have b9:=kp b8 N8 m9
  have N9:=nx N8 M8 n9
  have M9:=big M8 N8 m9
  refine rvS (lf _ 6 (by omega)) (rvS (ll b9).2.2.2.2.2.2 ?_)
  refine ca_wl0A o9 (by decide) λsa wa oa ma na=>?_
  have Na:=nx N9 M9 na
  have Ma:=big M9 N9 ma
  exact hK sa wa oa (M2.trans Ma) λb hb=>by have:=Na b hb;have:=M2.size;omega
 ·have he' :repB e=natB e:=by unfold repB;rw[if_neg (by omega)];rfl
  refine rvS (v:=.bool true) (w' :=w3) (by simp[go_sem];omega) ?_
  rw[ifB_bool,if_pos rfl]
  rw[List.nil_append,←he']at o3
  exact hK s w3 o3 M3 λb hb=>by have:=n3' b hb;have:=M2.size;omega
end
theorem dep_err(L:Led)(a m:Int):∃e:Nat,e≤999∧(L.deposit a m).1=e:=by
 unfold Led.deposit
 simp only
 repeat' split
 all_goals first|exact⟨0,by decide,rfl⟩|exact⟨2,by decide,rfl⟩|exact⟨6,by decide,rfl⟩|exact⟨9,by decide,rfl⟩
theorem wd_err(L:Led)(a m:Int):∃e:Nat,e≤999∧(L.withdraw a m).1=e:=by
 unfold Led.withdraw
 repeat' split
 all_goals first|exact⟨0,by decide,rfl⟩|exact⟨2,by decide,rfl⟩|exact⟨7,by decide,rfl⟩|exact⟨90,by decide,rfl⟩
theorem list_err(C:Cal)(s:Sp):∃e:Nat,e≤999∧(calList C s).1=e:=by
 unfold calList
 repeat' split
 all_goals first|exact⟨0,by decide,rfl⟩|exact⟨2,by decide,rfl⟩|exact⟨8,by decide,rfl⟩|exact⟨51,by decide,rfl⟩|exact⟨9,by decide,rfl⟩
theorem alive_err(l:List Ct)(n:Int):∃e:Nat,e≤999∧calAlive l n=e:=by
 unfold calAlive
 repeat' split
 all_goals first|exact⟨0,by decide,rfl⟩|exact⟨7,by decide,rfl⟩|exact⟨50,by decide,rfl⟩
theorem pub_err(C:Cal)(n p:Int):∃e:Nat,e≤999∧(calPublish C n p).1=e:=by
 unfold calPublish
 repeat' split
 all_goals first|exact⟨0,by decide,rfl⟩|exact⟨7,by decide,rfl⟩|exact⟨50,by decide,rfl⟩|exact⟨52,by decide,rfl⟩
theorem halt_err(C:Cal)(n:Int)(on:Bool):∃e:Nat,e≤999∧(calHalt C n on).1=e:=by
 unfold calHalt
 split
 ·exact alive_err _ _
 ·exact⟨0,by decide,rfl⟩
theorem done0_rp(S:Ven)(x:Cm):(S.done0 x).2.1=zRp∧∃e:Nat,e≤999∧(S.done0 x).1=e:=by
 unfold Ven.done0
 simp only
 repeat' split
 all_goals refine⟨rfl,?_⟩
 all_goals first|exact dep_err _ _ _|exact wd_err _ _ _|exact list_err _ _|exact halt_err _ _ _|exact pub_err _ _ _|exact⟨0,by decide,rfl⟩|exact⟨7,by decide,rfl⟩|exact⟨2,by decide,rfl⟩
theorem app0_rp(S:Ven)(x:Cm):∃e:Nat,e≤999∧(S.app0 x).1=failR e:=by
 obtain⟨h1,e,h2,h3⟩:=done0_rp S x
 unfold Ven.app0
 split
 ·exact⟨160,by decide,rfl⟩
 ·split
  ·exact⟨e,h2,by rw[h3]⟩
  ·exact⟨0,by decide,h1⟩
def Ven.doO(S:Ven):Option Cm→List UInt8×Ven
 |none=>(repB 160,S)
 |some x=>(repB (S.app0 x).1.err,(S.app0 x).2)
def Ven.do0(S:Ven)(l:List UInt8):List UInt8×Ven:=S.doO (rdCm l)
set_option maxRecDepth 10000 in
theorem ca_vdo0{w:World}{K:Kont}{v:Nat}{F:Nat→Prop}{S:Ven}{c:Value}{l:List UInt8}(h:VenQ w v F S)(hok:S.Ok)(hc0:S.cal=⟨0,[]⟩)(hL:S.led=noLed)(hR:Rd w 1 c l.length (bv l))(hl:l.length≤1000000000)
  (hK:∀s F' w',VenQ w' v F' (S.do0 l).2→OwnB w' s (S.do0 l).1→Mod F w w' →(∀y,F' y→F y∨w.heap.size≤y)→(∀y,inSl s y→w.heap.size≤y∧¬F' y)→K s w'):Ca Tryz.prog 38 #[vptr v,c] w K:=by
 apply ca38
 unfold F38
 refine ca_failed λw1 m1=>?_
 obtain⟨w2,e2,b2,m2⟩:=newRp w1
 refine rvS e2 ?_
 obtain⟨q,hq⟩:∃q,q=w1.heap.size:=⟨_,rfl⟩
 rw[←hq]at b2⊢
 obtain⟨w3,e3,b3,m3⟩:=stRp (r:=failR 1) (sT:=nilV) (sG:=nilV) (sA:=nilV) b2 rfl ⟨nilSlV,nilSlV,nilSlV⟩
 refine ruS e3 ?_
 have hs1:=m1.size
 have M3:Mod (λ_=>False) w w3:=(m1.trans m2).on m3 λy hy=>.inr (by omega)
 have h3:=h.md0 M3
 have hFq:∀y,F y→y<q:=λy hy=>by have:=h.lt hy;omega
 obtain⟨Z,hZ⟩:∃Z,Z=S.do0 l:=⟨_,rfl⟩
 rw[←hZ]at hK
 refine JoinW.at (λst W=>st=()∧∃(e:Nat) (a1 a2 a3:Option Addr) (c1 c2 c3:Nat) (F' :Nat→Prop),e≤999∧Z.1=repB e∧hp W q=some (.cells (rpEC e a1 a2 a3 c1 c2 c3).toArray tRpS (0,0))∧VenQ W v F' Z.2∧Mod F w W∧∀y,F' y→(F y∨w.heap.size≤y)∧y≠q) ?_ ?_
 ·obtain⟨vc,vl,mb,md,A,D,fp,hr,hF⟩:=id h3
  refine ca_vready hr.blk ?_
  rw[ifB_bool,if_pos rfl]
  refine ca_readCm (hR.mod M3 λ_ _ h=>h) hl λw4 m4=>?_
  obtain⟨X,hX⟩:∃X,X=rdCm l:=⟨_,rfl⟩
  rw[←hX]
  have hZX:Z=S.doO X:=by rw[hZ,hX];rfl
  have b4:=m4.hpk b3 id
  have M4:=M3.trans m4
  refine rvS (v:=cmV (X.getD zCm)) (w' :=w4) (by simp[go_sem]) (rvS (v:=.int .i64 (if X.isSome then 0 else 5)) (w' :=w4) (by simp[go_sem]) ?_)
  refine newCm λw5 c5 m5=>?_
  obtain⟨z,hz⟩:∃z,z=w4.heap.size:=⟨_,rfl⟩
  rw[←hz]at c5⊢
  have hqz:q<z:=by have:=lt_of_heap b4;omega
  refine cmAll (X.getD zCm) c5 λw6 c6 m6=>?_
  have M46:Mod (λ_=>False) w4 w6:=m5.on m6 λy hy=>.inr (by omega)
  have b6:=M46.hpk b4 id
  refine ca_failed λw7 m7=>?_
  have b7:=m7.hpk b6 id
  have c7:CmAt w7 z _:=m7.hpk c6 id
  obtain⟨w8,e8,b8,m8⟩:=stRp (r:=failR 160) (sT:=nilV) (sG:=nilV) (sA:=nilV) b7 rfl ⟨nilSlV,nilSlV,nilSlV⟩
  refine ruS e8 ?_
  have c8:CmAt w8 z _:=m8.hpk c7 (by omega)
  have M8:Mod (λ_=>False) w w8:=((M4.trans M46).trans m7).on m8 λy hy=>.inr (by omega)
  have h8:=h.md0 M8
  have hs8:=M8.size
  cases X with
  |none=>
   refine rvS (v:=.bool false) (w' :=w8) (by simp[go_sem]) ?_
   rw[ifB_bool,if_neg Bool.false_ne_true]
   have hZn:Z=(repB 160,S):=hZX
   refine⟨rfl,160,none,none,none,0,0,0,F,by decide,by rw[hZn];rfl,b8,by rw[hZn];exact h8,M8.mono λ_ _ h=>h.elim,λy hy=>⟨.inl hy,by have:=hFq y hy;omega⟩⟩
  |some x=>
   refine rvS (v:=.bool true) (w' :=w8) (by simp[go_sem]) ?_
   rw[ifB_bool,if_pos rfl]
   refine rx_of (cmLd c8) ?_
   obtain⟨hfit,-⟩:=rdCm_fit hX.symm
   show Ca Tryz.prog 12 #[vptr v,cmV x] w8 _
   refine ca_vApply0 h8 hok hc0 hL hfit λsT sG sA F' w9 v9 r9 m9 n9 s9=>?_
   obtain⟨e,he,hre⟩:=app0_rp S x
   have hZs:Z=(repB e,(S.app0 x).2):=by
    have:Z=(repB (S.app0 x).1.err,(S.app0 x).2):=hZX
    rw[hre]at this
    exact this
   rw[hre]at r9⊢
   obtain⟨a1,c1,hT,-⟩:=r9.tr.isSl
   obtain⟨a2,c2,hG,-⟩:=r9.go.isSl
   obtain⟨a3,c3,hA,-⟩:=r9.ac.isSl
   have hq9:¬F q:=λhc=>by have:=hFq q hc;omega
   have b9:=m9.hpk b8 hq9
   obtain⟨w10,e10,b10,m10⟩:=stRp (r:=failR e) (sT:=sT) (sG:=sG) (sA:=sA) b9 rfl ⟨⟨_,_,_,hT⟩,⟨_,_,_,hG⟩,⟨_,_,_,hA⟩⟩
   refine ruS e10 ?_
   have hn:∀y,F' y→(F y∨w.heap.size≤y)∧y≠q:=λy hy=>by
    have hq8:=lt_of_heap b8
    rcases n9 y hy with h' |h'
    ·exact⟨.inl h',by have:=hFq y h';omega⟩
    ·exact⟨.inr (by omega),by omega⟩
   refine⟨rfl,e,a1,a2,a3,c1,c2,c3,F',he,by rw[hZs],?_,by rw[hZs];exact v9.mod m10 λy hy e=>(hn y hy).2 e,((M8.mono (G:=F) λ_ _ h=>h.elim).trans m9).on m10 λy hy=>.inr (by omega),hn⟩
   rw[b10,hT,hG,hA]
   rfl
 rintro _ W ⟨rfl,e,a1,a2,a3,c1,c2,c3,F',he,hZ1,bW,vW,mW,nW⟩
 unfold J38_0
 intro _
 have ld:(Instr.loadAt tRpS (.pointer (some ⟨q,0,none⟩))).run Tryz.prog W=.ok (rpE e a1 a2 a3 c1 c2 c3) W:=by simp[go_sem,bW,rpEC,rpE,rpV,failR,zRp]
 refine rvS ld ?_
 refine ca_wrepS he λs w5 o5 m5 n5=>?_
 obtain⟨sa,sc,hs,-⟩:=o5.isSl
 refine rvS (v:=s) (w' :=w5) (by rw[hs];simp[go_sem]) (rvS (v:=.int .i64 0) (w' :=w5) (by rw[hs];simp[go_sem]) ?_)
 have hsW:=mW.size
 refine hK s F' w5 (vW.md0 m5) (by rw[hZ1];exact o5) (mW.trans (m5.mono λ_ _ h=>h.elim)) (λy hy=>(nW y hy).1) λy hy=>⟨by have:=n5 y hy;omega,λhc=>by have:=n5 y hy;have:=vW.lt hc;omega⟩
end Go.Proofs
namespace Go.Proofs
open Go Go.Vc
attribute [local congr] Ca_congV
def encU64(n:Nat):Value:=.int .u64 n
def kepV(p:Nat×Value):Value:=.agg #[.int .u64 p.1,p.2]
theorem uU64:Tryz.prog.underlying 27=some (.int .u64):=by kernel_rfl
theorem keyT_nat{P:Program}{k:TypeId}{kd:IntKind}(h:P.underlying k=some (.int kd)):KeyT P k (λn:Nat=>Value.int kd n):=by
 have hk:=KeyT.int h
 refine⟨λw em x=>hk.check w em (x:Int),λw x es ks he=>?_,λw x=>hk.stays w (x:Int)⟩
 have he' :es.map (·.key)=(ks.map λn:Nat=>(n:Int)).map λn=>Value.int kd n:=by rw[he,List.map_map];rfl
 rcases hk.same w (x:Int) es (ks.map λn:Nat=>(n:Int)) he' with⟨h1,h2⟩|⟨i,v,h1,h2,h3,h4⟩
 ·refine .inl ⟨h1,λhx=>h2 (List.mem_map.2 ⟨x,hx,rfl⟩)⟩
 ·refine .inr ⟨i,v,h1,h2,?_,λj hj hx=>h4 j hj ?_⟩
  ·rw[List.getElem?_map]at h3
   cases hh:ks[i]? with
   |none=>rw[hh]at h3;cases h3
   |some y=>
    rw[hh]at h3
    have:(y:Int)=x:=Option.some.inj h3
    rw[show y=x by omega]
  ·rw[List.getElem?_map,hx];rfl
theorem kU64n:KeyT Tryz.prog 27 encU64:=keyT_nat uU64
theorem uMapK:Tryz.prog.underlying 76=some (.map 27 190):=by kernel_rfl
theorem zKep:zeroOfT Tryz.prog 190=some (kepV (0,nilV)):=by kernel_rfl
theorem MapAt.empty{κ ν:Type}{enc:κ→Value}{ev:ν→Value}{w:World}{b:Nat}(h:hp w b=some (.map #[] 0)):MapAt enc ev w b []:=
 ⟨List.nodup_nil,#[],0,h,rfl,λx hx=>by simp at hx,by simp⟩
theorem uU64s:Tryz.prog.underlying 29=some (.slice 27):=by kernel_rfl
theorem eU64s:elemOk Tryz.prog 27 1 8=true:=by kernel_rfl
abbrev Kp:Type:=Nat×(Nat×Value)
def kyC(p:Kp):List Value:=[encU64 p.1]
abbrev tKeys:TypeId:=29
theorem ca_keys{w:World}{K:Kont}{mm:Nat}{T:List Kp}(hT:T.length≤1)(h:MapAt encU64 kepV w mm T)
  (hK:∀s w',Own w' 27 1 s T.length (T.flatMap kyC)→Mod (λ_=>False) w w' →K s w'):
  Ca Tryz.prog 180 #[.map (some mm)] w λv w1=>Ca Tryz.prog 243 #[v] w1 K:=by
 apply ca180
 unfold F180
 obtain⟨bx,hbx⟩:∃bx,bx=w.heap.size:=⟨_,rfl⟩
 have m1:Mod (λ_=>False) w (w.alloc (.cells #[.map (some mm)] 76)):=(Mod.refl _ w).alloc _
 have b1:hp (w.alloc (.cells #[.map (some mm)] 76)) bx=some (.cells #[.map (some mm)] 76 (0,0)):=by rw[hbx];simp[go_sem]
 refine rvS (v:=.pointer (some ⟨bx,0,none⟩)) (w' :=w.alloc (.cells #[.map (some mm)] 76)) (by rw[hbx];simp[go_sem]) ?_
 generalize w.alloc (.cells #[.map (some mm)] 76)=w1 at m1 b1⊢
 apply ca243
 unfold F243
 apply ca288
 unfold F288
 obtain⟨p,hp0⟩:∃p,p=w1.heap.size:=⟨_,rfl⟩
 have m2:Mod (λ_=>False) w1 (w1.alloc (.cells #[nilV] tKeys)):=(Mod.refl _ w1).alloc _
 have b2:hp (w1.alloc (.cells #[nilV] tKeys)) p=some (.cells #[nilV] tKeys (0,0)):=by rw[hp0];simp[go_sem]
 refine rvS (v:=.pointer (some ⟨p,0,none⟩)) (w' :=w1.alloc (.cells #[nilV] tKeys)) (by rw[hp0];simp[go_sem,nilV]) ?_
 have hbx2:=m2.hpk b1 id
 have M2:=m1.trans m2
 have h2:=h.mod M2 id
 generalize w1.alloc (.cells #[nilV] tKeys)=w2 at m2 b2 hbx2 M2 h2⊢
 have hbp:bx<p:=by have:=lt_of_heap b1;omega
 have hwp:w.heap.size≤bx:=by omega
 have hpl:=lt_of_heap b2
 have hmm:mm<bx:=by rw[hbx];exact h.lt
 refine RFW_iff.2 ?_
 show∀rec:Loop,_
 intro rec hready hpend hD hY
 obtain⟨d,hd0⟩:∃d,d=w2.heap.size:=⟨_,rfl⟩
 have hsz:(w2.alloc (.deferred (some []))).heap.size=d+1:=by rw[World.size_alloc,hd0]
 obtain⟨wr,hwr⟩:∃wr,wr=(w2.alloc (.deferred (some []))).alloc (.loop rec):=⟨_,rfl⟩
 have hrec0:wr.heap[d+1]? =some (.loop rec):=by rw[hwr,heap_alloc,if_pos hsz.symm]
 have hszr:wr.heap.size=d+2:=by rw[hwr,World.size_alloc,hsz]
 have hdef0:hp wr d=some (.deferred (some [])):=by rw[hwr];simp[go_sem,hd0]
 have hmr:Mod (λ_=>False) w2 wr:=by rw[hwr];exact((Mod.refl _ w2).alloc _).alloc _
 rw[hsz]at hY⊢
 rw[←hwr]
 have hput:∀(W:World) (o:Obj),Mod (λb=>b=d+1) W (W.putObj (d+1) o):=λW o=>(Mod.refl (λb=>b=d+1) W).putObj (b:=d+1) (.inl rfl) o
 show Ca Tryz.prog 245 #[.func (.yield (d+1)) #[] #[],.pointer (some ⟨bx,0,none⟩)] wr _
 apply ca245
 unfold F245
 have hbxr:=hmr.hpk hbx2 id
 refine rvS (v:=.map (some mm)) (w' :=wr) (by simp[go_sem,hbxr]) ?_
 refine rx_range uMapK (h2.mod hmr id) λw3 it3 m3=>?_
 obtain⟨it,hit⟩:∃it,it=wr.heap.size:=⟨_,rfl⟩
 rw[←hit]at it3⊢
 have br:=hmr.hpk b2 id
 refine loopV (λst W=>∃(R:List Kp) (sl:Value),st=()∧MapIt encU64 kepV W it mm R∧hp W p=some (.cells #[sl] tKeys (0,0))∧((R=T∧sl=nilV)∨(R=[]∧Own W 27 1 sl T.length (T.flatMap kyC)∧∀y,inSl sl y→it<y))∧
   hp W d=some (.deferred (some []))∧W.heap[d+1]? =some (.loop rec)∧Mod (λ_=>False) w W) (λ_ W=>itLeft it mm W)
  ⟨T,nilV,rfl,it3,m3.hpk br id,.inl ⟨rfl,rfl⟩,m3.hpk hdef0 id,m3.keep hrec0 id,(M2.trans hmr).trans m3⟩ ?_
 rintro _ W ⟨R,sl,rfl,i1,i2,i3,i5,i6,i7⟩ KN hKN
 unfold L245_0
 intro _
 have hlit:=i1.lt
 have hdit:d+1<it:=by omega
 refine rx_next i1 ?_ ?_
 ·intro hz W1 mz hh
  subst hz
  have j3:Own W 27 1 sl T.length (T.flatMap kyC)∧∀y,inSl sl y→it<y:=by
   rcases i3 with⟨h0,rfl⟩|⟨-,h1⟩
   ·rw[←h0];exact⟨Own.nil _ _ _,λy hy=>by cases hy⟩
   ·exact h1
  obtain⟨j3,i4⟩:=j3
  refine rvS (v:=.bool false) (w' :=W1) (by simp[go_sem]) ?_
  rw[ifB_bool,if_neg Bool.false_ne_true]
  refine⟨rec,mz.keep i6 id,by rw[hready];decide,?_⟩
  have j2:=mz.hpk i2 id
  replace j3:=j3.mod mz λ_ _ h=>h
  have j5:=mz.hpk i5 id
  have j7:=i7.trans mz
  have hm:=hput W1 (.loop {rec with state:=.exhausted})
  generalize W1.putObj (d+1) (.loop {rec with state:=.exhausted})=W8 at hm⊢
  rw[hpend]
  unfold A288_1
  simp only[afterK]
  obtain⟨sa,sc,hsl,-⟩:=j3.isSl
  have k2:=hm.hpk j2 (by omega)
  refine rvS (v:=sl) (w' :=W8) (by rw[hsl]at k2⊢;simp[go_sem,k2]) ?_
  rw[←hd0]
  refine retV1 (hm.hpk j5 (by omega)) λW9 m9=>?_
  exact hK sl W9 ((j3.mod hm λy hy e=>by have:=i4 y hy;omega).mod m9 λy hy e=>by have:=i4 y hy;omega) ((j7.on hm λy hy=>.inr (by omega)).on m9 λy hy=>.inr (by omega))
 ·intro i x hx W3 a3 cu3 n3 hs3
  obtain⟨hRT,rfl⟩:R=T∧sl=nilV:=by
   rcases i3 with h|⟨h,-⟩
   ·exact h
   ·rw[h]at hx;cases hx
  have hT1:R=[x]∧i=0:=by
   rw[←hRT]at hT
   cases R with
   |nil=>cases hx
   |cons y R=>
    cases R with
    |nil=>
     cases i with
     |zero=>cases hx;exact⟨rfl,rfl⟩
     |succ i=>cases hx
    |cons z R=>simp at hT
  obtain⟨hR1,rfl⟩:=hT1
  have hTx:T=[x]:=by rw[←hRT];exact hR1
  have a3' :MapIt encU64 kepV W3 it mm []:=by rw[hR1]at a3;exact a3
  refine rvS (v:=.bool true) (w' :=W3) (by simp[go_sem]) ?_
  rw[ifB_bool,if_pos rfl]
  refine rx_entry cu3 ?_
  refine rvS (v:=encU64 x.1) (w' :=W3) (by simp[go_sem]) ?_
  have j2:=n3.hpk i2 (by omega)
  have j5:=n3.hpk i5 (by omega)
  have j6:=n3.keep i6 (by omega)
  refine callV_iff.2 ?_
  show Yl Tryz.prog (d+1) ⟨_⟩ W3 _
  have e1:(#[]:Array Value).toList++[encU64 x.1]=[encU64 x.1]:=rfl
  rw[e1]
  refine hY _ W3 _ rfl ⟨rec.state,rec.pending,j6⟩ ?_
  unfold R288_0
  refine beginK_of j6 hready ?_
  have m4:=hput W3 (.loop {rec with state:=.busy})
  have r4:(W3.putObj (d+1) (.loop {rec with state:=.busy})).heap[d+1]? =some (.loop {rec with state:=.busy}):=by rw[heap_putObj,if_pos rfl,j6];rfl
  generalize W3.putObj (d+1) (.loop {rec with state:=.busy})=W4 at m4 r4⊢
  have k2:=m4.hpk j2 (by omega)
  have k5:=m4.hpk j5 (by omega)
  have k3:=a3'.mod m4 (by omega) (by omega)
  refine rvS (v:=nilV) (w' :=W4) (by simp[go_sem,k2,nilV]) ?_
  show rx Tryz.prog (xLit tKeys 1 [(0,encU64 x.1)]) W4 _
  refine pushV1 (l:=([]:List Kp)) (x:=x) (f:=kyC) uU64s (elemT_of eU64s) (λ_=>rfl) rfl rfl (Own.nil _ _ _) (by decide) (by decide) λs' W5 o5 m5 n5=>?_
  rw[List.nil_append]at o5
  have m5' :Mod (λ_=>False) W4 W5:=m5.mono λy _ hy=>by cases hy
  obtain⟨ta,tc,hs',-⟩:=o5.isSl
  have l2:=m5'.hpk k2 id
  refine ruS (w' :=W5.setCell ⟨p,0,none⟩ s') (by rw[hs'];simp[go_sem,l2]) ?_
  have mS:Mod (λy=>y=p) W5 (W5.setCell ⟨p,0,none⟩ s'):=(Mod.refl (λy=>y=p) W5).setCell (.inl rfl) _ _
  have bS:hp (W5.setCell ⟨p,0,none⟩ s') p=some (.cells #[s'] tKeys (0,0)):=by simp[go_sem,l2]
  generalize W5.setCell ⟨p,0,none⟩ s' =W6 at mS bS⊢
  have hW3:=m4.size
  have ns:∀y,inSl s' y→it<y:=λy hy=>by
   rcases n5 y hy with h' |h'
   ·cases h'
   ·omega
  have l6:W6.heap[d+1]? =some (.loop {rec with state:=.busy}):=mS.keep (m5'.keep r4 id) (by omega)
  refine⟨_,l6,?_⟩
  have m7:=hput W6 (.loop {{rec with state:=.busy}with state:=.ready,pending:=none})
  have l7:(W6.putObj (d+1) (.loop {{rec with state:=.busy}with state:=.ready,pending:=none})).heap[d+1]? =some (.loop rec):=by
   rw[heap_putObj,if_pos rfl,l6]
   simp[←hready,←hpend]
  generalize W6.putObj (d+1) (.loop {{rec with state:=.busy}with state:=.ready,pending:=none})=W7 at m7 l7⊢
  refine rvS (v:=.bool false) (w' :=W7) (by simp[go_sem]) ?_
  rw[ifB_bool,if_neg Bool.false_ne_true]
  have a7:MapIt encU64 kepV W7 it mm []:=((k3.mod m5' id id).mod mS (by omega) (by omega)).mod m7 (by omega) (by omega)
  refine hKN _ _ ⟨[],s',rfl,a7,m7.hpk bS (by omega),.inr ⟨rfl,?_,ns⟩,m7.hpk (mS.hpk (m5'.hpk k5 id) (by omega)) (by omega),l7,?_⟩ ?_
  ·rw[hTx]
   exact(o5.mod mS λy hy e=>by have:=ns y hy;omega).mod m7 λy hy e=>by have:=ns y hy;omega
  ·exact((((i7.on n3 λy hy=>.inr (by omega)).on m4 λy hy=>.inr (by omega)).trans m5').on mS λy hy=>.inr (by omega)).on m7 λy hy=>.inr (by omega)
  ·rw[a7.left,i1.left,hR1]
   exact Nat.zero_lt_one
set_option maxRecDepth 100000 in
theorem ca_len64{n:Nat}(hn:n≤1){w:World}{K:Kont}(hK:K (.int .i64 n) w):Ca Tryz.prog 230 #[.int .u64 n] w K:=by
 apply ca230
 unfold F230
 apply ca284
 unfold F284
 refine JoinW.at (λst W=>st=(.int .u64 n,.int .i64 0,())∧w=W) ?_ ?_
 ·refine rvS (v:=.bool false) (w' :=w) (by simp[go_sem];omega) ?_
  rw[ifB_bool,if_neg Bool.false_ne_true]
  exact⟨rfl,rfl⟩
 rintro _ _ ⟨rfl,rfl⟩
 unfold J284_2
 intro _
 refine JoinW.at (λst W=>st=(.int .i64 0,.int .u64 n,())∧w=W) ?_ ?_
 ·refine rvS (v:=.bool false) (w' :=w) (by simp[go_sem];omega) ?_
  rw[ifB_bool,if_neg Bool.false_ne_true]
  exact⟨rfl,rfl⟩
 rintro _ _ ⟨rfl,rfl⟩
 unfold J284_1
 intro _
 refine JoinW.at (λst W=>st=(.int .u64 n,.int .i64 0,())∧w=W) ?_ ?_
 ·refine rvS (v:=.bool false) (w' :=w) (by simp[go_sem];omega) ?_
  rw[ifB_bool,if_neg Bool.false_ne_true]
  exact⟨rfl,rfl⟩
 rintro _ _ ⟨rfl,rfl⟩
 unfold J284_0
 intro _
 refine rvS (v:=.int .u8 n) (w' :=w) (by simp[go_sem];rw[IntKind.wrap_u8'];omega) ?_
 obtain rfl|rfl:n=0∨n=1:=by omega
 ·refine rvS (v:=.int .u8 0) (w' :=w) (by simp[go_sem];decide) ?_
  refine rvS (v:=.int .i64 0) (w' :=w) (by simp[go_sem]<;>decide) ?_
  refine rvS (v:=.int .i64 0) (w' :=w) (by simp[go_sem]<;>decide) ?_
  exact hK
 ·refine rvS (v:=.int .u8 1) (w' :=w) (by simp[go_sem];decide) ?_
  refine rvS (v:=.int .i64 1) (w' :=w) (by simp[go_sem]<;>decide) ?_
  refine rvS (v:=.int .i64 1) (w' :=w) (by simp[go_sem]<;>decide) ?_
  exact hK
theorem ca_sort1{n:Nat}(hn:n≤1){w:World}{K:Kont}{a:Option Addr}{c:Nat}(hK:K (.tuple #[]) w):Ca Tryz.prog 244 #[.slice a n c] w K:=by
 apply ca244
 unfold F244
 refine rnS (v:=.int .i64 n) (w' :=w) (by simp[go_sem]) ?_
 refine rvS (v:=.int .u64 n) (w' :=w) (by simp[go_sem];rw[wrapU (by omega) (by omega)]) ?_
 refine ca_len64 hn ?_
 apply ca289
 unfold F289
 refine loopV (λst W=>st=(.int .i64 n,.int .i64 n,.int .i64 0,.bool true,.bool true,())∧w=W) (λ_ _=>0) ⟨rfl,rfl⟩ ?_
 rintro _ _ ⟨rfl,rfl⟩ KN hKN
 unfold L289_5
 intro _
 refine rvS (v:=.int .i64 n) (w' :=w) (by simp[go_sem];rw[wrapI (by omega) (by omega)]) ?_
 refine rvS (v:=.bool true) (w' :=w) (by simp[go_sem];omega) ?_
 rw[ifB_bool,if_pos rfl]
 apply ca326
 unfold F326
 refine rvS (v:=.int .i64 1) (w' :=w) (by simp[go_sem]<;>decide) ?_
 refine loopV (λst W=>st=(.int .i64 1,())∧w=W) (λ_ _=>0) ⟨rfl,rfl⟩ ?_
 rintro _ _ ⟨rfl,rfl⟩ KM hKM
 unfold L326_2
 intro _
 refine rvS (v:=.bool false) (w' :=w) (by simp[go_sem];omega) ?_
 rw[ifB_bool,if_neg Bool.false_ne_true]
 exact hK
theorem ca_sorted{w:World}{K:Kont}{mm:Nat}{T:List Kp}(hT:T.length≤1)(h:MapAt encU64 kepV w mm T)
  (hK:∀s w',Own w' 27 1 s T.length (T.flatMap kyC)→Mod (λ_=>False) w w' →K s w'):
  Ca Tryz.prog 180 #[.map (some mm)] w λv w1=>Ca Tryz.prog 179 #[v] w1 K:=by
 refine(ca_keys (K:=λv w=>Ca Tryz.prog 244 #[v] w λ_ w1=>K v w1) hT h λs w' o m=>?_).mono ?_
 ·obtain⟨a,c,hs,-⟩:=o.isSl
  have hk:=hK s w' o m
  rw[hs]at hk⊢
  exact ca_sort1 hT hk
 ·intro v w1 hh
  apply ca179
  unfold F179
  exact hh
end Go.Proofs
namespace Go.Proofs
open Go Go.Vc
attribute [local congr] Ca_congV
theorem acLdI{a:Ac}{W:World}{p:Nat}(h:hp W p=some (.cells (cellsAc a).toArray 92 (0,0))):(Instr.loadAt 92 (.pointer (some ⟨p,0,none⟩))).run Tryz.prog W=.ok (acV a) W:=(acVar2 (b:=⟨0,0,false,false⟩) h).1
theorem poLdI{a:Po}{W:World}{p:Nat}(h:hp W p=some (.cells (cellsPo a).toArray 112 (0,0))):(Instr.loadAt 112 (.pointer (some ⟨p,0,none⟩))).run Tryz.prog W=.ok (poV a) W:=(poVar2 (b:=⟨0,0,0,0⟩) h).1
end Go.Proofs
