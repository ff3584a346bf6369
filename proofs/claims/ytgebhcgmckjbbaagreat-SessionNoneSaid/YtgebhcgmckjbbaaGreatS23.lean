/- Part of a proof. -/
import Derived.Test.YtgebhcgmckjbbaaGreatS22
set_option linter.all false
namespace Go.Proofs
open Go Go.Vc
attribute [local congr] Ca_congV
structure Wrt(w:World)(s:Value)(w' :World)(s' :Value)(l:List UInt8):Prop where
 own:OwnB w' s' l
 md:Mod (inSl s) w w'
 nw:∀b,inSl s' b→inSl s b∨w.heap.size≤b
section
variable{w w1 w2:World}{s s1 s2:Value}{l l1 l2:List UInt8}{K:Kont}
theorem Wrt.zero(h:OwnB w s l)(m:Mod (λ_=>False) w w1):Wrt w s w1 s l:=⟨h.mod m λ_ _ h=>h,m.mono λ_ _ h=>h.elim,λb hb=>.inl hb⟩
theorem Wrt.go(h:Wrt w s w1 s1 l1)(o:OwnB w2 s2 l2)(m:Mod (inSl s1) w1 w2)(n:∀b,inSl s2 b→inSl s1 b∨w1.heap.size≤b):Wrt w s w2 s2 l2:=
 ⟨o,h.md.on m h.nw,λb hb=>by
  rcases n b hb with h' |h'
  ·exact h.nw b h'
  ·have:=h.md.size;exact .inr (by omega)⟩
theorem Wrt.dr(h:Wrt w s w1 s1 l1)(m:Mod (λ_=>False) w1 w2):Wrt w s w2 s1 l1:=⟨h.own.mod m λ_ _ h=>h,h.md.trans (m.mono λ_ _ h=>h.elim),h.nw⟩
theorem Wrt.np(h:Wrt w s w1 s1 l1){p:Nat}(h1:¬inSl s p)(h2:p<w.heap.size):¬inSl s1 p:=λhc=>by
 rcases h.nw p hc with h' |h'
 ·exact h1 h'
 ·omega
theorem Wrt.back{w0:World}(h:Wrt w s w1 s1 l1)(m:Mod (λ_=>False) w0 w):Mod (inSl s) w0 w1∧∀b,inSl s1 b→inSl s b∨w0.heap.size≤b:=
 ⟨(m.mono λ_ _ h=>h.elim).trans h.md,λb hb=>(h.nw b hb).imp id λh' =>by have:=m.size;omega⟩
theorem ca_wnum{x:Int}(h:OwnB w s l)(hx:0≤x∧x<18446744073709551616)(hk:l.length≤1000000000)
  (hK:∀s' w',OwnB w' s' (l++numB x)→Mod (inSl s) w w' →(∀b,inSl s' b→inSl s b∨w.heap.size≤b)→K s' w'):Ca Tryz.prog 100 #[s,.int .u64 x] w K:=by
 obtain⟨n,rfl⟩:=Int.eq_ofNat_of_zero_le hx.1
 exact ca_wnatB h (by omega) hk hK
theorem num_le(x:Int)(h:x<18446744073709551616):(numB x).length≤10:=natB_le10 (by omega)
theorem int_le{x:Int}(h:R64' x):(intB x).length≤10:=natB_le10 (zig_lt h)
theorem boxAcF(x:Ac)(w:World):∃w1,(Instr.box 92 (acV x)).run Tryz.prog w=.ok (.pointer (some ⟨w.heap.size,0,none⟩)) w1∧AcB w1 w.heap.size x∧Mod (λ_=>False) w w1:=
 ⟨w.alloc (.cells (cellsAc x).toArray 92),rfl,by show hp _ _=_;simp[go_sem],(Mod.refl _ w).alloc _⟩
theorem acFF(i:Nat)(hi:i<4)(p:Nat)(W:World):(Instr.fieldAt 92 (.pointer (some ⟨p,0,none⟩)) i).run Tryz.prog W=.ok (.pointer (some ⟨p,i,none⟩)) W:=by
 rcases(show i=0∨i=1∨i=2∨i=3 by omega)with rfl|rfl|rfl|rfl<;>simp[go_sem]
theorem acLF{W:World}{p:Nat}{a:Ac}(h:AcB W p a):(Instr.loadAt 35 (.pointer (some ⟨p,0,none⟩))).run Tryz.prog W=.ok (.int .u32 a.num) W∧(Instr.loadAt 2 (.pointer (some ⟨p,1,none⟩))).run Tryz.prog W=.ok (.int .i64 a.cash) W:=by
 have h' :hp W p=some (.cells (cellsAc a).toArray 92 (0,0)):=h
 simp only[cellsAc]at h'
 exact⟨by simp[go_sem,h'],by simp[go_sem,h']⟩
theorem cvU32{x:Int}(hx:U32' x)(W:World):(convert 35 27 (.int .u32 x)).run Tryz.prog W=.ok (.int .u64 x) W:=by
 obtain⟨h1,h2⟩:=hx
 simp[go_sem];rw[wrapU (by omega) (by omega)]
set_option maxRecDepth 10000 in
theorem ca_form1{x:Ac}(h:OwnB w s l)(hx:U32' x.num∧R64' x.cash)(hl:l.length≤900000000)
  (hK:∀s' w',OwnB w' s' (l++acB x)→Mod (inSl s) w w' →(∀b,inSl s' b→inSl s b∨w.heap.size≤b)→K s' w'):Ca Tryz.prog 156 #[s,acV x] w K:=by
 apply ca156
 unfold F156
 obtain⟨w1,e1,b1,m1⟩:=boxAcF x w
 obtain⟨p,hp0⟩:∃p,p=w.heap.size:=⟨_,rfl⟩
 rw[←hp0]at e1 b1
 have np:¬inSl s p:=λhc=>by have:=h.lt hc;omega
 refine rvS e1 ?_
 have mm:=m1.trans (Mod.refl (λ_=>False) w1).drew
 have b2:AcB w1.drew p x:=((Mod.refl (λ_=>False) w1).drew).hpk b1 id
 have h2:OwnB w1.drew s l:=h.mod mm λ_ _ h=>h
 generalize w1.drew=w2 at mm b2 h2⊢
 have hp2:p<w2.heap.size:=lt_of_heap b2
 have r0:Wrt w2 s w2 s l:=Wrt.zero h2 (Mod.refl _ _)
 have l1:=num_le x.num (by have:=hx.1.2;omega)
 have l2:=int_le hx.2
 refine rdPS (λW=>acFF 0 (by omega) p W) (rdWS (acLF b2).1 (rdWS (cvU32 hx.1 _) ?_))
 refine rdPS (λW=>acFF 1 (by omega) p W) (rdWS (acLF b2).2 ?_)
 refine rdPS (λW=>acFF 2 (by omega) p W) (rdWS (acBL b2).1 ?_)
 refine rdPS (λW=>acFF 3 (by omega) p W) (rdWS (acBL b2).2 ?_)
 refine ca_wnum h2 ⟨hx.1.1,by have:=hx.1.2;omega⟩ (by omega) λs3 w3 o3 m3 n3=>?_
 have r3:=r0.go o3 m3 n3
 have b3:AcB w3 p x:=m3.hpk b2 np
 refine⟨(acBL b3).2,(acBL b3).1,(acLF b3).2,?_⟩
 refine ca_wint o3 hx.2 (by simp only[List.length_append];omega) λs4 w4 o4 m4 n4=>?_
 have r4:=r3.go o4 m4 n4
 have b4:AcB w4 p x:=m4.hpk b3 (r3.np np hp2)
 refine⟨(acBL b4).2,(acBL b4).1,?_⟩
 refine ca_wflag o4 (by simp only[List.length_append];omega) λs5 w5 o5 m5 n5=>?_
 have r5:=r4.go o5 m5 n5
 have b5:AcB w5 p x:=m5.hpk b4 (r4.np np hp2)
 refine⟨(acBL b5).2,?_⟩
 refine ca_wflag o5 (by simp only[List.length_append,flagB,List.length_singleton];omega) λs6 w6 o6 m6 n6=>?_
 have r6:=r5.go o6 m6 n6
 have e:l++numB x.num++intB x.cash++flagB x.kil++flagB x.dfl=l++acB x:=by unfold acB;simp only[List.append_assoc]
 rw[e]at o6
 exact hK s6 w6 o6 (r6.back mm).1 (r6.back mm).2
theorem boxPoF(x:Po)(w:World):∃w1,(Instr.box 112 (poV x)).run Tryz.prog w=.ok (.pointer (some ⟨w.heap.size,0,none⟩)) w1∧PoB w1 w.heap.size x∧Mod (λ_=>False) w w1:=
 ⟨w.alloc (.cells (cellsPo x).toArray 112),rfl,by show hp _ _=_;simp[go_sem],(Mod.refl _ w).alloc _⟩
theorem poFF(i:Nat)(hi:i<4)(p:Nat)(W:World):(Instr.fieldAt 112 (.pointer (some ⟨p,0,none⟩)) i).run Tryz.prog W=.ok (.pointer (some ⟨p,i,none⟩)) W:=by
 rcases(show i=0∨i=1∨i=2∨i=3 by omega)with rfl|rfl|rfl|rfl<;>simp[go_sem]
theorem poLF{W:World}{p:Nat}{a:Po}(h:PoB W p a):(Instr.loadAt 35 (.pointer (some ⟨p,1,none⟩))).run Tryz.prog W=.ok (.int .u32 a.a) W∧(Instr.loadAt 2 (.pointer (some ⟨p,2,none⟩))).run Tryz.prog W=.ok (.int .i64 a.q) W∧(Instr.loadAt 2 (.pointer (some ⟨p,3,none⟩))).run Tryz.prog W=.ok (.int .i64 a.b) W:=by
 have h' :hp W p=some (.cells (cellsPo a).toArray 112 (0,0)):=h
 simp only[cellsPo]at h'
 exact⟨by simp[go_sem,h'],by simp[go_sem,h'],by simp[go_sem,h']⟩
set_option maxRecDepth 10000 in
theorem ca_form3{x:Po}(h:OwnB w s l)(hx:(U32' x.c∧U32' x.a)∧R64' x.q∧R64' x.b)(hl:l.length≤900000000)
  (hK:∀s' w',OwnB w' s' (l++poB x)→Mod (inSl s) w w' →(∀b,inSl s' b→inSl s b∨w.heap.size≤b)→K s' w'):Ca Tryz.prog 162 #[s,poV x] w K:=by
 obtain⟨⟨hc,ha⟩,hq,hb⟩:=hx
 apply ca162
 unfold F162
 obtain⟨w1,e1,b1,m1⟩:=boxPoF x w
 obtain⟨p,hp0⟩:∃p,p=w.heap.size:=⟨_,rfl⟩
 rw[←hp0]at e1 b1
 have np:¬inSl s p:=λhc=>by have:=h.lt hc;omega
 refine rvS e1 ?_
 have mm:=m1.trans (Mod.refl (λ_=>False) w1).drew
 have b2:PoB w1.drew p x:=((Mod.refl (λ_=>False) w1).drew).hpk b1 id
 have h2:OwnB w1.drew s l:=h.mod mm λ_ _ h=>h
 generalize w1.drew=w2 at mm b2 h2⊢
 have hp2:p<w2.heap.size:=lt_of_heap b2
 have r0:Wrt w2 s w2 s l:=Wrt.zero h2 (Mod.refl _ _)
 have l1:=num_le x.c (by have:=hc.2;omega)
 have l2:=num_le x.a (by have:=ha.2;omega)
 have l3:=int_le hq
 refine rdPS (λW=>poFF 0 (by omega) p W) (rdWS (poB0 b2) (rdWS (cvU32 hc _) ?_))
 refine rdPS (λW=>poFF 1 (by omega) p W) (rdWS (poLF b2).1 (rdWS (cvU32 ha _) ?_))
 refine rdPS (λW=>poFF 2 (by omega) p W) (rdWS (poLF b2).2.1 ?_)
 refine rdPS (λW=>poFF 3 (by omega) p W) (rdWS (poLF b2).2.2 ?_)
 refine ca_wnum h2 ⟨hc.1,by have:=hc.2;omega⟩ (by omega) λs3 w3 o3 m3 n3=>?_
 have r3:=r0.go o3 m3 n3
 have b3:PoB w3 p x:=m3.hpk b2 np
 refine⟨(poLF b3).2.2,(poLF b3).2.1,cvU32 ha _,(poLF b3).1,?_⟩
 refine ca_wnum o3 ⟨ha.1,by have:=ha.2;omega⟩ (by simp only[List.length_append];omega) λs4 w4 o4 m4 n4=>?_
 have r4:=r3.go o4 m4 n4
 have b4:PoB w4 p x:=m4.hpk b3 (r3.np np hp2)
 refine⟨(poLF b4).2.2,(poLF b4).2.1,?_⟩
 refine ca_wint o4 hq (by simp only[List.length_append];omega) λs5 w5 o5 m5 n5=>?_
 have r5:=r4.go o5 m5 n5
 have b5:PoB w5 p x:=m5.hpk b4 (r4.np np hp2)
 refine⟨(poLF b5).2.2,?_⟩
 refine ca_wint o5 hb (by simp only[List.length_append];omega) λs6 w6 o6 m6 n6=>?_
 have r6:=r5.go o6 m6 n6
 have e:l++numB x.c++numB x.a++intB x.q++intB x.b=l++poB x:=by unfold poB;simp only[List.append_assoc]
 rw[e]at o6
 exact hK s6 w6 o6 (r6.back mm).1 (r6.back mm).2
theorem odBG(i:Nat)(hi:i<5)(p:Nat)(W:World):(Instr.fieldAt tOd (.pointer (some ⟨p,1,none⟩)) i).run Tryz.prog W=.ok (.pointer (some ⟨p,1+i,none⟩)) W:=by
 rcases(show i=0∨i=1∨i=2∨i=3∨i=4 by omega)with rfl|rfl|rfl|rfl|rfl<;>simp[go_sem,addr_add]
theorem sdLF{W:World}{p:Nat}{x:Int×Od}(h:SdB W p x):(Instr.loadAt 27 (.pointer (some ⟨p,1+0,none⟩))).run Tryz.prog W=.ok (.int .u64 x.2.num) W∧(Instr.loadAt 35 (.pointer (some ⟨p,1+1,none⟩))).run Tryz.prog W=.ok (.int .u32 x.2.acct) W∧(Instr.loadAt 4 (.pointer (some ⟨p,1+2,none⟩))).run Tryz.prog W=.ok (.bool x.2.buy) W∧
  (Instr.loadAt 2 (.pointer (some ⟨p,1+3,none⟩))).run Tryz.prog W=.ok (.int .i64 x.2.price) W∧(Instr.loadAt 2 (.pointer (some ⟨p,1+4,none⟩))).run Tryz.prog W=.ok (.int .i64 x.2.left) W:=by
 have h' :hp W p=some (.cells (sdOC x).toArray tSdF (0,0)):=h
 simp only[sdOC,odC]at h'
 exact⟨by simp[go_sem,h'],by simp[go_sem,h'],by simp[go_sem,h'],by simp[go_sem,h'],by simp[go_sem,h']⟩
set_option maxRecDepth 10000 in
theorem ca_stoodF{x:Int×Od}(h:OwnB w s l)(hx:U32' x.1∧x.2.Fit)(hl:l.length≤900000000)
  (hK:∀s' w',OwnB w' s' (l++odB x)→Mod (inSl s) w w' →(∀b,inSl s' b→inSl s b∨w.heap.size≤b)→K s' w'):Ca Tryz.prog 164 #[s,sdVF x] w K:=by
 obtain⟨hc,hn,ha,hpr,hle⟩:=hx
 apply ca164
 unfold F164
 obtain⟨w1,e1,b1,m1⟩:=boxSd x w
 obtain⟨p,hp0⟩:∃p,p=w.heap.size:=⟨_,rfl⟩
 rw[←hp0]at e1 b1
 have np:¬inSl s p:=λhc=>by have:=h.lt hc;omega
 refine rvS e1 ?_
 have mm:=m1.trans (Mod.refl (λ_=>False) w1).drew
 have b2:SdB w1.drew p x:=((Mod.refl (λ_=>False) w1).drew).hpk b1 id
 have h2:OwnB w1.drew s l:=h.mod mm λ_ _ h=>h
 generalize w1.drew=w2 at mm b2 h2⊢
 have hp2:p<w2.heap.size:=lt_of_heap b2
 have r0:Wrt w2 s w2 s l:=Wrt.zero h2 (Mod.refl _ _)
 have l1:=num_le x.1 (by have:=hc.2;omega)
 have l2:=num_le x.2.num (by have:=hn.2;omega)
 have l3:=num_le x.2.acct (by have:=ha.2;omega)
 have l4:=int_le hpr
 refine rdPS (λW=>(sdBF p W).1) (rdWS (sdB0 b2) (rdWS (cvU32 hc _) ?_))
 refine rdPS (λW=>(sdBF p W).2) (rdPS (λW=>odBG 0 (by omega) p W) (rdWS (sdLF b2).1 ?_))
 refine rdPS (λW=>(sdBF p W).2) (rdPS (λW=>odBG 1 (by omega) p W) (rdWS (sdLF b2).2.1 (rdWS (cvU32 ha _) ?_)))
 refine ca_wnum h2 ⟨hc.1,by have:=hc.2;omega⟩ (by omega) λs3 w3 o3 m3 n3=>?_
 have r3:=r0.go o3 m3 n3
 have b3:SdB w3 p x:=m3.hpk b2 np
 refine⟨cvU32 ha _,(sdLF b3).2.1,(sdLF b3).1,?_⟩
 refine ca_wnum o3 ⟨hn.1,by have:=hn.2;omega⟩ (by simp only[List.length_append];omega) λs4 w4 o4 m4 n4=>?_
 have r4:=r3.go o4 m4 n4
 have b4:SdB w4 p x:=m4.hpk b3 (r3.np np hp2)
 refine⟨cvU32 ha _,(sdLF b4).2.1,?_⟩
 refine ca_wnum o4 ⟨ha.1,by have:=ha.2;omega⟩ (by simp only[List.length_append];omega) λs5 w5 o5 m5 n5=>?_
 have r5:=r4.go o5 m5 n5
 have b5:SdB w5 p x:=m5.hpk b4 (r4.np np hp2)
 have md:=(Mod.refl (λ_=>False) w5).drew
 have r6:=r5.dr md
 have b6:SdB w5.drew p x:=md.hpk b5 id
 have o6:=r6.own
 generalize w5.drew=w6 at md r6 b6 o6⊢
 refine rdPS (λW=>(sdBF p W).2) (rdPS (λW=>odBG 2 (by omega) p W) (rdWS (sdLF b6).2.2.1 ?_))
 refine rdPS (λW=>(sdBF p W).2) (rdPS (λW=>odBG 3 (by omega) p W) (rdWS (sdLF b6).2.2.2.1 ?_))
 refine rdPS (λW=>(sdBF p W).2) (rdPS (λW=>odBG 4 (by omega) p W) (rdWS (sdLF b6).2.2.2.2 ?_))
 refine ca_wflag o6 (by simp only[List.length_append];omega) λs7 w7 o7 m7 n7=>?_
 have r7:=r6.go o7 m7 n7
 have b7:SdB w7 p x:=m7.hpk b6 (r6.np np hp2)
 refine⟨(sdLF b7).2.2.2.2,(sdLF b7).2.2.2.1,?_⟩
 refine ca_wint o7 hpr (by simp only[List.length_append,flagB,List.length_singleton];omega) λs8 w8 o8 m8 n8=>?_
 have r8:=r7.go o8 m8 n8
 have b8:SdB w8 p x:=m8.hpk b7 (r7.np np hp2)
 refine⟨(sdLF b8).2.2.2.2,?_⟩
 refine ca_wint o8 hle (by simp only[List.length_append,flagB,List.length_singleton];omega) λs9 w9 o9 m9 n9=>?_
 have r9:=r8.go o9 m9 n9
 have e:l++numB x.1++numB x.2.num++numB x.2.acct++flagB x.2.buy++intB x.2.price++intB x.2.left=l++odB x:=by unfold odB;simp only[List.append_assoc]
 rw[e]at o9
 exact hK s9 w9 o9 (r9.back mm).1 (r9.back mm).2
end
end Go.Proofs
namespace Go.Proofs
open Go Go.Vc
attribute [local congr] Ca_congV
theorem e64F:elemOk Tryz.prog 2 1 8=true:=by kernel_rfl
theorem uI64sF:Tryz.prog.underlying 333=some (.slice 2):=by kernel_rfl
theorem spGet(x:Sp):(spC x)[0]? =some (.int .u32 x.num)∧(spC x)[1]? =some (.int .u8 x.route)∧(spC x)[2]? =some (.int .i64 x.tick)∧(spC x)[3]? =some (.int .i64 x.lot)∧(spC x)[4]? =some (.int .i64 x.band)∧(spC x)[5]? =some (.int .i64 x.limit)∧
  (spC x)[22]? =some (.int .i64 x.credit)∧(spC x)[23]? =some (.int .u32 x.last)∧(spC x)[24]? =some (.int .i64 x.first):=by
 have h:∀i:Nat,(spC x)[i]? =(spC x++[])[i]? :=λi=>by rw[List.append_nil]
 refine⟨rfl,rfl,rfl,rfl,rfl,rfl,?_,?_,?_⟩
 ·rw[h];exact spG22 x []
 ·rw[h];exact spG23 x []
 ·rw[h];exact spG24 x []
section
variable{w w' :World}{s:Value}{l:List UInt8}{K:Kont}{p:Nat}{x:Sp}
theorem spLd(h:SpAt w p (spC x)):(Instr.loadAt 35 (.pointer (some ⟨p,0,none⟩))).run Tryz.prog w=.ok (.int .u32 x.num) w∧(Instr.loadAt 5 (.pointer (some ⟨p,1,none⟩))).run Tryz.prog w=.ok (.int .u8 x.route) w∧
  (Instr.loadAt 2 (.pointer (some ⟨p,2,none⟩))).run Tryz.prog w=.ok (.int .i64 x.tick) w∧(Instr.loadAt 2 (.pointer (some ⟨p,3,none⟩))).run Tryz.prog w=.ok (.int .i64 x.lot) w∧
  (Instr.loadAt 2 (.pointer (some ⟨p,4,none⟩))).run Tryz.prog w=.ok (.int .i64 x.band) w∧(Instr.loadAt 2 (.pointer (some ⟨p,5,none⟩))).run Tryz.prog w=.ok (.int .i64 x.limit) w:=by
 have h' :hp w p=some (.cells (spC x).toArray tSpec (0,0)):=h
 obtain⟨g0,g1,g2,g3,g4,g5,g6,g7,g8⟩:=spGet x
 exact⟨by simp[go_sem,h',g0],by simp[go_sem,h',g1],by simp[go_sem,h',g2],by simp[go_sem,h',g3],by simp[go_sem,h',g4],by simp[go_sem,h',g5]⟩
theorem spLe(h:SpAt w p (spC x)):(Instr.loadAt 2 (.pointer (some ⟨p,22,none⟩))).run Tryz.prog w=.ok (.int .i64 x.credit) w∧(Instr.loadAt 35 (.pointer (some ⟨p,23,none⟩))).run Tryz.prog w=.ok (.int .u32 x.last) w∧
  (Instr.loadAt 2 (.pointer (some ⟨p,24,none⟩))).run Tryz.prog w=.ok (.int .i64 x.first) w:=by
 have h' :hp w p=some (.cells (spC x).toArray tSpec (0,0)):=h
 obtain⟨g0,g1,g2,g3,g4,g5,g6,g7,g8⟩:=spGet x
 exact⟨by simp[go_sem,h',g6],by simp[go_sem,h',g7],by simp[go_sem,h',g8]⟩
theorem spFd(p:Nat)(W:World):(∀i,i<7→(Instr.fieldAt tSpec (.pointer (some ⟨p,0,none⟩)) i).run Tryz.prog W=.ok (.pointer (some ⟨p,i,none⟩)) W)∧(Instr.fieldAt tSpec (.pointer (some ⟨p,0,none⟩)) 7).run Tryz.prog W=.ok (.pointer (some ⟨p,22,none⟩)) W∧
  (Instr.fieldAt tSpec (.pointer (some ⟨p,0,none⟩)) 8).run Tryz.prog W=.ok (.pointer (some ⟨p,23,none⟩)) W∧(Instr.fieldAt tSpec (.pointer (some ⟨p,0,none⟩)) 9).run Tryz.prog W=.ok (.pointer (some ⟨p,24,none⟩)) W:=by
 refine⟨λi hi=>?_,by simp[go_sem],by simp[go_sem],by simp[go_sem]⟩
 rcases(show i=0∨i=1∨i=2∨i=3∨i=4∨i=5∨i=6 by omega)with rfl|rfl|rfl|rfl|rfl|rfl|rfl<;>simp[go_sem]
theorem cvI64{x:Int}(h0:0≤x)(h1:x<9223372036854775808)(W:World):(convert 2 27 (.int .i64 x)).run Tryz.prog W=.ok (.int .u64 x) W:=by
 simp[go_sem];rw[wrapU (by omega) (by omega)]
def spNs(x:Sp):List Int:=[x.num,x.route,x.tick,x.lot,x.band,x.limit]
theorem spBounds(hx:x.Fit)(hm:x.may=true):(∀n∈spNs x,0≤n∧n<9223372036854775808)∧(0≤x.credit∧x.credit<9223372036854775808)∧(0≤x.first∧x.first<9223372036854775808):=by
 obtain⟨f1,f2,f3,f4,f5,f6,f7,f8,f9,f10⟩:=hx
 unfold Sp.may priceB amongB at hm
 simp only[Bool.and_eq_true,decide_eq_true_eq]at hm
 obtain⟨⟨⟨⟨⟨⟨⟨⟨⟨⟨-,-⟩,-⟩,-⟩,-⟩,ht⟩,hlo⟩,hb⟩,hli⟩,hcr⟩,hfi,-⟩:=hm
 refine⟨λn hn=>?_,⟨by omega,f8.2⟩,⟨by omega,f10.2⟩⟩
 have:n=x.num∨n=x.route∨n=x.tick∨n=x.lot∨n=x.band∨n=x.limit:=by simpa [spNs]using hn
 rcases this with rfl|rfl|rfl|rfl|rfl|rfl
 ·exact⟨f1.1,by have:=f1.2;omega⟩
 ·exact⟨f2.1,by have:=f2.2;omega⟩
 ·exact⟨by omega,f3.2⟩
 ·exact⟨by omega,f4.2⟩
 ·exact⟨by omega,f5.2⟩
 ·exact⟨by omega,f6.2⟩
set_option maxRecDepth 10000 in
set_option maxHeartbeats 2000000 in
theorem ca_putF(h:OwnB w s l)(hx:x.Fit)(hl:l.length≤900000000)
  (hK:∀s' w',OwnB w' s' (l++spB x)→Mod (inSl s) w w' →(∀b,inSl s' b→inSl s b∨w.heap.size≤b)→K s' w'):Ca Tryz.prog 160 #[s,.agg (spC x).toArray] w K:=by
 apply ca160
 unfold F160
 obtain⟨p,hp0⟩:∃p,p=w.heap.size:=⟨_,rfl⟩
 have m1:Mod (λ_=>False) w (w.alloc (.cells (spC x).toArray tSpec)):=(Mod.refl _ w).alloc _
 have b1:SpAt (w.alloc (.cells (spC x).toArray tSpec)) p (spC x):=by show hp _ _=_;rw[hp0];simp[go_sem]
 refine rvS (v:=.pointer (some ⟨p,0,none⟩)) (w' :=w.alloc (.cells (spC x).toArray tSpec)) (by rw[hp0];rfl) ?_
 generalize w.alloc (.cells (spC x).toArray tSpec)=w1 at m1 b1⊢
 refine rx_bigS (spC x) 24 aSp nSp (spC_len _) (At.all b1) ?_
 refine ca_smayS hx λw2 m2=>?_
 refine rvS (v:=.bool (!x.may)) (w' :=w2) (by simp[go_sem]) ?_
 have M2:=m1.trans m2
 cases hm:x.may with
 |false=>
  rw[show(!false)=true from rfl,ifB_bool,if_pos rfl]
  have e:spB x=[]:=by unfold spB;rw[if_neg (by rw[hm];simp)]
  rw[e]at hK
  exact hK s w2 (by rw[List.append_nil];exact h.mod M2 λ_ _ h=>h) (M2.mono λ_ _ h=>h.elim) λb hb=>.inl hb
 |true=>
 rw[show(!true)=false from rfl,ifB_bool,if_neg Bool.false_ne_true]
 obtain⟨hN,hcr,hfi⟩:=spBounds hx hm
 have b2:SpAt w2 p (spC x):=m2.hpk b1 id
 have h2:OwnB w2 s l:=h.mod M2 λ_ _ h=>h
 have hps:¬inSl s p:=λhc=>by have:=h.lt hc;omega
 obtain⟨g0,g1,g2,g3,g4,g5⟩:=spLd b2
 have hf:=(spFd p w2).1
 obtain⟨n0,n1,n2,n3,n4,n5⟩:(0≤x.num∧x.num<9223372036854775808)∧(0≤x.route∧x.route<9223372036854775808)∧True∧True∧True∧True:=⟨hN _ (by simp[spNs]),hN _ (by simp[spNs]),trivial,trivial,trivial,trivial⟩
 refine rvS (hf 0 (by omega)) (rvS g0 (rvS (v:=.int .i64 x.num) (w' :=w2) (by simp[go_sem];rw[wrapI (by omega) (by omega)]) ?_))
 refine rvS (hf 1 (by omega)) (rvS g1 (rvS (v:=.int .i64 x.route) (w' :=w2) (by simp[go_sem];rw[wrapI (by omega) (by omega)]) ?_))
 refine rvS (hf 2 (by omega)) (rvS g2 (rvS (hf 3 (by omega)) (rvS g3 (rvS (hf 4 (by omega)) (rvS g4 (rvS (hf 5 (by omega)) (rvS g5 ?_)))))))
 obtain⟨q,hq⟩:∃q,q=w2.heap.size:=⟨_,rfl⟩
 refine rx_lit ((spNs x).map λn=>.int .i64 n) uI64sF (elemT_of e64F) rfl rfl (by intro v hv;obtain⟨n,-,rfl⟩:=List.mem_map.1 hv;rfl) (by omega) ?_
 rw[←hq]
 have e0:((((spNs x).map λn=>(.int .i64 n:Value)).flatMap (·.cells.toList)).toArray)=((spNs x).map λn=>(.int .i64 n:Value)).toArray:=rfl
 rw[e0]
 have m3:Mod (λ_=>False) w2 (w2.alloc (.cells ((spNs x).map λn=>(.int .i64 n:Value)).toArray 2)):=(Mod.refl _ w2).alloc _
 have bq:hp (w2.alloc (.cells ((spNs x).map λn=>(.int .i64 n:Value)).toArray 2)) q=some (.cells ((spNs x).map λn=>(.int .i64 n:Value)).toArray 2 (0,0)):=by rw[hq];simp[go_sem]
 generalize w2.alloc (.cells ((spNs x).map λn=>(.int .i64 n:Value)).toArray 2)=w3 at m3 bq⊢
 have M3:=M2.trans m3
 have h3:OwnB w3 s l:=h2.mod m3 λ_ _ h=>h
 have b3:SpAt w3 p (spC x):=m3.hpk b2 id
 have hqs:¬inSl s q:=λhc=>by have:=h2.lt hc;omega
 have hp3:p<w3.heap.size:=lt_of_heap b3
 have hq3:q<w3.heap.size:=lt_of_heap bq
 have hlen:(spNs x).length=6:=rfl
 have l10:∀n∈spNs x,(numB n).length≤10:=λn hn=>num_le n (by have:=(hN n hn).2;omega)
 refine rnS (v:=.int .i64 6) (w' :=w3) (by simp[go_sem]) ?_
 refine loopV (λst W=>∃(i:Nat) (s' :Value),i≤6∧st=(s',.int .i64 i,())∧Wrt w3 s W s' (l++((spNs x).take i).flatMap numB))
  (λst _=>match st.2.1 with| .int _ i=>6 - i.toNat|_=>0) ⟨0,s,by omega,rfl,by rw[List.take_zero,List.flatMap_nil,List.append_nil];exact Wrt.zero h3 (Mod.refl _ _)⟩ ?_
 rintro _ W ⟨i,s',hi,rfl,rW⟩ KN hKN
 unfold L160_1
 intro _
 have hfl:(((spNs x).take i).flatMap numB).length≤60:=by
  have h1:=flat_leF (m:=10) (g:=numB) (L:=(spNs x).take i) λn hn=>l10 n (List.mem_of_mem_take hn)
  have h2:((spNs x).take i).length≤6:=by rw[List.length_take];omega
  omega
 by_cases hlt:i<6
 ·have hlt' :(i:Int)<6:=by omega
  have hil:i<(spNs x).length:=hlt
  refine rvS (v:=.bool true) (by simp[go_sem,hlt']<;>first|exact⟨rfl,rfl⟩|exact rfl) ?_
  rw[ifB_bool,if_pos rfl]
  obtain⟨n,hn⟩:∃n,n=(spNs x)[i]:=⟨_,rfl⟩
  have hmem:n∈spNs x:=hn▸List.getElem_mem hil
  have bqW:=rW.md.hpk bq hqs
  have hgi:((spNs x).map λn=>(.int .i64 n:Value))[i]? =some (.int .i64 n):=by rw[List.getElem?_map,List.getElem?_eq_getElem hil,hn];rfl
  have hlt6:¬(6:Int)≤(i:Int):=by omega
  refine rvS (v:=.pointer (some ⟨q,i,none⟩)) (w' :=W) (by simp[go_sem,hlt,hlt6,addr_add]) ?_
  refine rvS (v:=.int .i64 n) (w' :=W) (by simp[go_sem,bqW,hgi]) ?_
  refine rvS (cvI64 (hN n hmem).1 (hN n hmem).2 _) ?_
  refine ca_wnum rW.own ⟨(hN n hmem).1,by have:=(hN n hmem).2;omega⟩ (by simp only[List.length_append];omega) λs2 W2 o2 m2' n2' =>?_
  refine rvS (v:=.int .i64 ((i+1:Nat):Int)) (w' :=W2) (by simp[go_sem];rw[wrapI (by omega) (by omega)]) ?_
  have r2:=rW.go o2 m2' n2'
  refine hKN _ _ ⟨i+1,s2,by omega,rfl,?_⟩ (by show 6 - (((i+1:Nat):Int)).toNat<6 - ((i:Int)).toNat;omega)
  rw[take_succ' hil,←hn,List.flatMap_append,List.flatMap_cons,List.flatMap_nil,List.append_nil,←List.append_assoc]
  exact r2
 obtain rfl:i=6:=by omega
 refine rvS (v:=.bool false) (by simp[go_sem]<;>first|exact⟨rfl,rfl⟩|exact rfl) ?_
 rw[ifB_bool,if_neg Bool.false_ne_true]
 have b4:SpAt W p (spC x):=rW.md.hpk b3 hps
 refine rvS ((spFd p W).1 6 (by omega)) ?_
 have hA:At W p 6 (shC x.shifts):=by
  have:=(At.all b4).sub 6 16 (by rw[spC_len];omega)
  rw[spC_shift]at this
  simpa using this
 refine rx_bigS (shC x.shifts) 15 aSh nSh (shC_len _) hA ?_
 obtain⟨f1,f2,f3,f4,f5,f6,f7,f8,f9,f10⟩:=hx
 have hsl:x.shifts.toList.length=16:=by simp
 obtain⟨l6,hl6⟩:∃l6,l6=l++((spNs x).take 6).flatMap numB:=⟨_,rfl⟩
 rw[←hl6]at rW
 have hl6' :l6.length≤900000060:=by rw[hl6,List.length_append];omega
 refine loopV (λst W' =>∃(i:Nat) (s2:Value),i≤16∧st=(s2,.int .i64 i,())∧Wrt w3 s W' s2 (l6++(x.shifts.toList.take i).flatMap intB))
  (λst _=>match st.2.1 with| .int _ i=>16 - i.toNat|_=>0) ⟨0,s',by omega,rfl,by rw[List.take_zero,List.flatMap_nil,List.append_nil];exact rW⟩ ?_
 rintro _ V ⟨j,s2,hj,rfl,rV⟩ KN2 hKN2
 unfold L160_0
 intro _
 have hfl2:((x.shifts.toList.take j).flatMap intB).length≤160:=by
  have h1:=flat_leF (m:=10) (g:=intB) (L:=x.shifts.toList.take j) λn hn=>int_le (f7 n (List.mem_of_mem_take hn))
  have h2:(x.shifts.toList.take j).length≤16:=by rw[List.length_take];omega
  omega
 by_cases hlt:j<16
 ·have hlt' :(j:Int)<16:=by omega
  have hil:j<x.shifts.toList.length:=by omega
  refine rvS (v:=.bool true) (by simp[go_sem,hlt']<;>first|exact⟨rfl,rfl⟩|exact rfl) ?_
  rw[ifB_bool,if_pos rfl]
  refine rvS (v:=.int .i64 x.shifts.toList[j]!) (w' :=V) (run_index_one uSh aI64 sI64 nI64 hlt (shC_get _ j hlt)) ?_
  rw[getElem!_pos x.shifts.toList j hil]
  refine ca_wint rV.own (f7 _ (List.getElem_mem hil)) (by simp only[List.length_append];omega) λs4 W2 o2 m2' n2' =>?_
  refine rvS (v:=.int .i64 ((j+1:Nat):Int)) (w' :=W2) (by simp[go_sem];rw[wrapI (by omega) (by omega)]) ?_
  have r2:=rV.go o2 m2' n2'
  refine hKN2 _ _ ⟨j+1,s4,by omega,rfl,?_⟩ (by show 16 - (((j+1:Nat):Int)).toNat<16 - ((j:Int)).toNat;omega)
  rw[take_succ' hil,List.flatMap_append,List.flatMap_cons,List.flatMap_nil,List.append_nil,←List.append_assoc]
  exact r2
 obtain rfl:j=16:=by omega
 refine rvS (v:=.bool false) (by simp[go_sem]<;>first|exact⟨rfl,rfl⟩|exact rfl) ?_
 rw[ifB_bool,if_neg Bool.false_ne_true]
 have md:=(Mod.refl (λ_=>False) V).drew
 have rD:=rV.dr md
 have b5:SpAt V.drew p (spC x):=md.hpk (rV.md.hpk b3 hps) id
 have oD:=rD.own
 generalize V.drew=u at md rD b5 oD⊢
 have c1:=num_le x.credit (by have:=hcr.2;omega)
 have c2:=num_le x.last (by have:=f9.2;omega)
 refine rdPS (λW=>(spFd p W).2.1) (rdWS (spLe b5).1 (rdWS (cvI64 hcr.1 hcr.2 _) ?_))
 refine rdPS (λW=>(spFd p W).2.2.1) (rdWS (spLe b5).2.1 (rdWS (cvU32 f9 _) ?_))
 refine rdPS (λW=>(spFd p W).2.2.2) (rdWS (spLe b5).2.2 (rdWS (cvI64 hfi.1 hfi.2 _) ?_))
 refine ca_wnum oD ⟨hcr.1,by have:=hcr.2;omega⟩ (by simp only[List.length_append];omega) λs5 w5 o5 m5 n5=>?_
 have r5:=rD.go o5 m5 n5
 have b6:SpAt w5 p (spC x):=m5.hpk b5 (rD.np hps hp3)
 refine⟨cvI64 hfi.1 hfi.2 _,(spLe b6).2.2,cvU32 f9 _,(spLe b6).2.1,?_⟩
 refine ca_wnum o5 ⟨f9.1,by have:=f9.2;omega⟩ (by simp only[List.length_append];omega) λs6 w6 o6 m6 n6=>?_
 have r6:=r5.go o6 m6 n6
 have b7:SpAt w6 p (spC x):=m6.hpk b6 (r5.np hps hp3)
 refine⟨cvI64 hfi.1 hfi.2 _,(spLe b7).2.2,?_⟩
 refine ca_wnum o6 ⟨hfi.1,by have:=hfi.2;omega⟩ (by simp only[List.length_append];omega) λs7 w7 o7 m7 n7=>?_
 have r7:=r6.go o7 m7 n7
 have e:l6++(x.shifts.toList.take 16).flatMap intB++numB x.credit++numB x.last++numB x.first=l++spB x:=by
  rw[hl6,List.take_of_length_le (by omega),List.take_of_length_le (by omega)]
  unfold spB
  rw[if_pos hm]
  simp[spNs]
 rw[e]at o7
 exact hK s7 w7 o7 (r7.back M3).1 (r7.back M3).2
theorem spB_le(hx:x.Fit):(spB x).length≤250:=by
 unfold spB
 by_cases hm:x.may
 ·rw[if_pos hm]
  obtain⟨hN,hcr,hfi⟩:=spBounds hx hm
  obtain⟨f1,f2,f3,f4,f5,f6,f7,f8,f9,f10⟩:=hx
  have l10:∀n∈spNs x,(numB n).length≤10:=λn hn=>num_le n (by have:=(hN n hn).2;omega)
  have hsh:=flat_leF (m:=10) (g:=intB) (L:=x.shifts.toList) λn hn=>int_le (f7 n hn)
  have hsl:x.shifts.toList.length=16:=by simp
  have c0:=l10 x.num (by simp[spNs])
  have c1:=l10 x.route (by simp[spNs])
  have c2:=l10 x.tick (by simp[spNs])
  have c3:=l10 x.lot (by simp[spNs])
  have c4:=l10 x.band (by simp[spNs])
  have c5:=l10 x.limit (by simp[spNs])
  have c6:=num_le x.credit (by have:=hcr.2;omega)
  have c7:=num_le x.last (by have:=f9.2;omega)
  have c8:=num_le x.first (by have:=hfi.2;omega)
  simp only[List.length_append]
  omega
 ·rw[if_neg hm];exact Nat.zero_le _
end
section
variable{w:World}{s:Value}{l:List UInt8}{K:Kont}
set_option maxRecDepth 10000 in
theorem ca_form2{x:Ct}(h:OwnB w s l)(hx:x.Fit)(hl:l.length≤900000000)
  (hK:∀s' w',OwnB w' s' (l++ctB x)→Mod (inSl s) w w' →(∀b,inSl s' b→inSl s b∨w.heap.size≤b)→K s' w'):Ca Tryz.prog 159 #[s,ctVF x] w K:=by
 apply ca159
 unfold F159
 obtain⟨p,hp0⟩:∃p,p=w.heap.size:=⟨_,rfl⟩
 have m1:Mod (λ_=>False) w (w.alloc (.cells (ctC x).toArray tCt)):=(Mod.refl _ w).alloc _
 have b1:CtB (w.alloc (.cells (ctC x).toArray tCt)) p x:=by show hp _ _=_;rw[hp0];simp[go_sem]
 refine rvS (v:=.pointer (some ⟨p,0,none⟩)) (w' :=w.alloc (.cells (ctC x).toArray tCt)) (by rw[hp0];rfl) ?_
 generalize w.alloc (.cells (ctC x).toArray tCt)=w1 at m1 b1⊢
 have np:¬inSl s p:=λhc=>by have:=h.lt hc;omega
 have mm:=m1.trans (Mod.refl (λ_=>False) w1).drew
 have b2:CtB w1.drew p x:=((Mod.refl (λ_=>False) w1).drew).hpk b1 id
 have h2:OwnB w1.drew s l:=h.mod mm λ_ _ h=>h
 generalize w1.drew=w2 at mm b2 h2⊢
 have hp2:p<w2.heap.size:=lt_of_heap b2
 have r0:Wrt w2 s w2 s l:=Wrt.zero h2 (Mod.refl _ _)
 obtain⟨hsp,hst,hpr⟩:=hx
 have l1:=spB_le hsp
 have l2:=num_le x.st (by have:=hst.2;omega)
 have cv8:∀W,(convert 106 27 (.int .u8 x.st)).run Tryz.prog W=.ok (.int .u64 x.st) W:=λW=>by
  obtain⟨a1,a2⟩:=hst
  simp[go_sem];rw[wrapU (by omega) (by omega)]
 refine rdPS (λW=>(ctBF p W).1) (rdX_bigS (spC x.spec) 24 aSp nSp (spC_len _) (ctAtSp (At.all b2)) ?_)
 refine rdPS (λW=>(ctBF p W).2.1) (rdWS (ctB25 b2) (rdWS (cv8 _) ?_))
 refine rdPS (λW=>(ctBF p W).2.2.1) (rdWS (ctB26 b2) ?_)
 refine ca_putF h2 hsp (by omega) λs3 w3 o3 m3 n3=>?_
 have r3:=r0.go o3 m3 n3
 have b3:CtB w3 p x:=m3.hpk b2 np
 refine⟨ctB26 b3,cv8 _,ctB25 b3,?_⟩
 refine ca_wnum o3 ⟨hst.1,by have:=hst.2;omega⟩ (by simp only[List.length_append];omega) λs4 w4 o4 m4 n4=>?_
 have r4:=r3.go o4 m4 n4
 have b4:CtB w4 p x:=m4.hpk b3 (r3.np np hp2)
 refine⟨ctB26 b4,?_⟩
 refine ca_wint o4 hpr (by simp only[List.length_append];omega) λs5 w5 o5 m5 n5=>?_
 have r5:=r4.go o5 m5 n5
 have e:l++spB x.spec++numB x.st++intB x.price=l++ctB x:=by unfold ctB;simp only[List.append_assoc]
 rw[e]at o5
 exact hK s5 w5 o5 (r5.back mm).1 (r5.back mm).2
end
end Go.Proofs
namespace Go.Proofs
open Go Go.Vc
attribute [local congr] Ca_congV
theorem acB_le{x:Ac}(h:U32' x.num∧R64' x.cash):(acB x).length≤300:=by
 have l1:=num_le x.num (by have:=h.1.2;omega)
 have l2:=int_le h.2
 unfold acB flagB
 simp only[List.length_append,List.length_singleton]
 omega
theorem poB_le{x:Po}(h:(U32' x.c∧U32' x.a)∧R64' x.q∧R64' x.b):(poB x).length≤300:=by
 have l1:=num_le x.c (by have:=h.1.1.2;omega)
 have l2:=num_le x.a (by have:=h.1.2.2;omega)
 have l3:=int_le h.2.1
 have l4:=int_le h.2.2
 unfold poB
 simp only[List.length_append]
 omega
theorem ctB_le{x:Ct}(h:x.Fit):(ctB x).length≤300:=by
 have l1:=spB_le h.1
 have l2:=num_le x.st (by have:=h.2.1.2;omega)
 have l3:=int_le h.2.2
 unfold ctB
 simp only[List.length_append]
 omega
theorem odB_le{x:Int×Od}(h:U32' x.1∧x.2.Fit):(odB x).length≤300:=by
 obtain⟨hc,hn,ha,hpr,hle⟩:=h
 have l1:=num_le x.1 (by have:=hc.2;omega)
 have l2:=num_le x.2.num (by have:=hn.2;omega)
 have l3:=num_le x.2.acct (by have:=ha.2;omega)
 have l4:=int_le hpr
 have l5:=int_le hle
 unfold odB flagB
 simp only[List.length_append,List.length_singleton]
 omega
theorem lsB_le{α:Type}{g:α→List UInt8}{L:List α}(hg:∀x∈L,(g x).length≤300)(hn:L.length≤3200):(lsB g L).length≤960010:=by
 have h1:=flat_leF hg
 have h2:=natB_le10 (n:=L.length) (by omega)
 unfold lsB
 rw[List.length_append]
 omega
section
variable{w:World}{K:Kont}{ss:Nat→Value}{s:Sta}
set_option maxRecDepth 10000 in
set_option maxHeartbeats 2000000 in
theorem ca_formF(h:StaR w ss s)(hf:s.Fit)(hl:s.accts.length≤3200∧s.cts.length≤3200∧s.poss.length≤3200∧s.ords.length≤3200∧s.bids.length≤3200)
  (hK:∀s' w',OwnB w' s' (staB s)→Mod (λ_=>False) w w' →(∀b,inSl s' b→w.heap.size≤b)→K s' w'):Ca Tryz.prog 82 #[stV s.day s.next s.fund ss] w K:=by
 obtain⟨hA,hC,hP,hO,hB⟩:=hl
 have hssl:=h.sl
 have gA:∀x∈s.accts,(acB x).length≤300:=λx hx=>acB_le (hf.accts x hx)
 have gC:∀x∈s.cts,(ctB x).length≤300:=λx hx=>ctB_le (hf.cts x hx)
 have gP:∀x∈s.poss,(poB x).length≤300:=λx hx=>poB_le (hf.poss x hx)
 have gO:∀x∈s.ords,(odB x).length≤300:=λx hx=>odB_le (hf.ords x hx)
 have gB:∀x∈s.bids,(odB x).length≤300:=λx hx=>odB_le (hf.bids x hx)
 have n1:=num_le s.day (by have:=hf.day.2;omega)
 have n2:=num_le s.next (by have:=hf.next.2;omega)
 have n3:=int_le hf.fund
 have n4:=lsB_le gA hA
 have n5:=lsB_le gC hC
 have n6:=lsB_le gP hP
 have n7:=lsB_le gO hO
 apply ca82
 unfold F82
 obtain⟨w1,e1,b1,m1⟩:=boxStI s.day s.next s.fund ss w
 obtain⟨sb,hsb⟩:∃p,p=w.heap.size:=⟨_,rfl⟩
 rw[←hsb]at e1 b1
 refine rvS e1 ?_
 have mm:=m1.trans (Mod.refl (λ_=>False) w1).drew
 have b2:StBlk w1.drew sb s.day s.next s.fund ss:=((Mod.refl (λ_=>False) w1).drew).hpk b1 id
 generalize w1.drew=w2 at mm b2⊢
 have hsb2:sb<w2.heap.size:=lt_of_heap b2
 have nsb:¬inSl nilV sb:=λhc=>by cases hc
 have r2:Wrt w2 nilV w2 nilV []:=Wrt.zero (Own.nil _ _ _) (Mod.refl _ _)
 have hsep:∀{W:World} {s' :Value} {l:List UInt8},Wrt w2 nilV W s' l→∀i,3≤i→i≤7→∀y,inRd (ss i) y→¬inSl s' y:=λr i h1 h2 y hy hc=>by
  have:=(h i h1 h2).lt hy
  have:=mm.size
  rcases r.nw y hc with h' |h'
  ·cases h'
  ·omega
 have hst:∀{W:World} {s' :Value} {l:List UInt8},Wrt w2 nilV W s' l→StaR W ss s:=λr=>h.md0 (mm.trans (r.md.mono λ_ _ h=>by cases h))
 refine rdPS (λW=>stFl sb 0 (by omega) W) (rdWS (stLdN b2).1 (rdWS (cvU32 hf.day _) ?_))
 refine rdPS (λW=>stFl sb 1 (by omega) W) (rdWS (stLdN b2).2.1 ?_)
 refine rdPS (λW=>stFl sb 2 (by omega) W) (rdWS (stLdN b2).2.2 ?_)
 refine ca_wnum r2.own ⟨hf.day.1,by have:=hf.day.2;omega⟩ (by simp) λs3 w3 o3 m3 k3=>?_
 have r3:=r2.go o3 m3 k3
 have b3:StBlk w3 sb s.day s.next s.fund ss:=m3.hpk b2 nsb
 refine⟨(stLdN b3).2.2,(stLdN b3).2.1,?_⟩
 refine ca_wnum o3 ⟨hf.next.1,by have:=hf.next.2;omega⟩ (by simp only[List.length_append,List.length_nil];omega) λs4 w4 o4 m4 k4=>?_
 have r4:=r3.go o4 m4 k4
 have b4:StBlk w4 sb s.day s.next s.fund ss:=m4.hpk b3 (r3.np nsb hsb2)
 refine⟨(stLdN b4).2.2,?_⟩
 refine ca_wint o4 hf.fund (by simp only[List.length_append,List.length_nil];omega) λs5 w5 o5 m5 k5=>?_
 have r5:=r4.go o5 m5 k5
 have b5:StBlk w5 sb s.day s.next s.fund ss:=m5.hpk b4 (r4.np nsb hsb2)
 refine rvS (stFl sb 3 (by omega) _) (rvS (stLd345 b5 hssl).1 ?_)
 refine ca_listAc (g:=acB) o5 (hst r5).accts (hsep r5 3 (by omega) (by omega)) (by simp only[List.length_append,List.length_nil];omega) hA gA (λW s' l' x K' hx hO hl' hk=>by rw[callV_func];exact ca_form1 hO (hf.accts x hx) hl' hk) λs6 w6 o6 m6 k6=>?_
 have r6:=r5.go o6 m6 k6
 have b6:StBlk w6 sb s.day s.next s.fund ss:=m6.hpk b5 (r5.np nsb hsb2)
 refine rvS (stFl sb 4 (by omega) _) (rvS (stLd345 b6 hssl).2.1 ?_)
 refine ca_listCt (g:=ctB) o6 (hst r6).cts (hsep r6 4 (by omega) (by omega)) (by simp only[List.length_append,List.length_nil];omega) hC gC (λW s' l' x K' hx hO hl' hk=>by rw[callV_func];exact ca_form2 hO (hf.cts x hx) hl' hk) λs7 w7 o7 m7 k7=>?_
 have r7:=r6.go o7 m7 k7
 have b7:StBlk w7 sb s.day s.next s.fund ss:=m7.hpk b6 (r6.np nsb hsb2)
 refine rvS (stFl sb 5 (by omega) _) (rvS (stLd345 b7 hssl).2.2 ?_)
 refine ca_listPo (g:=poB) o7 (hst r7).poss (hsep r7 5 (by omega) (by omega)) (by simp only[List.length_append,List.length_nil];omega) hP gP (λW s' l' x K' hx hO hl' hk=>by rw[callV_func];exact ca_form3 hO (hf.poss x hx) hl' hk) λs8 w8 o8 m8 k8=>?_
 have r8:=r7.go o8 m8 k8
 have b8:StBlk w8 sb s.day s.next s.fund ss:=m8.hpk b7 (r7.np nsb hsb2)
 have md:=(Mod.refl (λ_=>False) w8).drew
 have r9:=r8.dr md
 have b9:StBlk w8.drew sb s.day s.next s.fund ss:=md.hpk b8 id
 have o9:=r9.own
 generalize w8.drew=w9 at md r9 b9 o9⊢
 refine rdPS (λW=>stFl sb 6 (by omega) W) (rdWS (stLd6 b9 hssl).1 ?_)
 refine rdPS (λW=>stFl sb 7 (by omega) W) (rdWS (stLd6 b9 hssl).2 ?_)
 refine ca_listSd (g:=odB) o9 (hst r9).ords (hsep r9 6 (by omega) (by omega)) (by simp only[List.length_append,List.length_nil];omega) hO gO (λW s' l' x K' hx hO hl' hk=>by rw[callV_func];exact ca_stoodF hO (hf.ords x hx) hl' hk) λsa wa oa ma ka=>?_
 have ra:=r9.go oa ma ka
 have ba:StBlk wa sb s.day s.next s.fund ss:=ma.hpk b9 (r9.np nsb hsb2)
 refine⟨(stLd6 ba hssl).2,?_⟩
 refine ca_listSd (g:=odB) oa (hst ra).bids (hsep ra 7 (by omega) (by omega)) (by simp only[List.length_append,List.length_nil];omega) hB gB (λW s' l' x K' hx hO hl' hk=>by rw[callV_func];exact ca_stoodF hO (hf.bids x hx) hl' hk) λsc wc oc mc kc=>?_
 have rc:=ra.go oc mc kc
 have e: []++numB s.day++numB s.next++intB s.fund++lsB acB s.accts++lsB ctB s.cts++lsB poB s.poss++lsB odB s.ords++lsB odB s.bids=staB s:=by unfold staB;simp only[List.append_assoc,List.nil_append]
 rw[e]at oc
 refine hK sc wc oc (mm.trans (rc.md.mono λ_ _ h=>by cases h)) λb hb=>?_
 rcases rc.nw b hb with h' |h'
 ·cases h'
 ·have:=mm.size;omega
end
end Go.Proofs
set_option maxRecDepth 100000
namespace Go.Proofs
open Go Go.Vc
def F27(w:World)(K:Kont):Prop:=
 rx Tryz.prog (xLit 54 1 [(0,(.int .u8 120))]) w λv0 w1=>
 rx Tryz.prog (xConv 54 54 v0) w1 λv2 w3=>
 rv Tryz.prog (Instr.build 186 #[(0,(.int .u64 1)),(1,(.int .u64 2)),(2,v2)]) w3 λv4 w5=>
 Ca Tryz.prog 96 #[v4] w5 λv6 w7=>
 rv Tryz.prog (Instr.extract v6 0) w7 λv8 w9=>
 rv Tryz.prog (Instr.extract v6 1) w9 λv10 w11=>
 Ca Tryz.prog 34 #[] w11 λv12 w13=>
 Ca Tryz.prog 28 #[v12,v8] w13 λv14 w15=>
 rv Tryz.prog (Instr.extract v14 0) w15 λv16 w17=>
 rv Tryz.prog (Instr.extract v14 1) w17 λv18 w19=>
 rv Tryz.prog (Instr.extract v14 2) w19 λv20 w21=>
 rv Tryz.prog (bin .eql 26 true v10 (.int .i64 0)) w21 λv22 w23=>
 ifB v22
 (rx Tryz.prog (xConv 54 9 v8) w23 λv24 w25=>
 rv Tryz.prog (bin .eql 9 true v24 (.string ⟨#[1,2,1,120]⟩)) w25 λv26 w27=>
 ifB v26
 (rv Tryz.prog (Op.unary .not v20) w27 λv28 w29=>
 ifB v28
 (Ca Tryz.prog 30 #[v12,(.int .u64 1)] w29 λv30 w31=>
 rv Tryz.prog (bin .eql 27 true v30 (.int .u64 0)) w31 λv32 w33=>
 K v32 w33)
 (K (.bool false) w29))
 (K (.bool false) w27))
 (K (.bool false) w23)
theorem F27_eq(w:World)(K:Kont):vcFnJ Tryz.prog Tryz.f27 [] w K=F27 w K:=by kernel_rfl
theorem F27_ok:okF Tryz.prog Tryz.f27 0=true:=by kernel_rfl
theorem ca27{w:World}{K:Kont}(h:F27 w K):Ca Tryz.prog 27 #[] w K:=
 ca_of_vcJ Tryz.noNum Tryz.func27 F27_ok (by rw[F27_eq];exact h)
def J9_0(K:Kont)(v6:Value)(a0:Value)(s22:Value×Unit)(w23:World):Prop:=
 ∀_:Nat→Value,
 ifB s22.1
 (K (.bool false) w23)
 (Ca Tryz.prog 34 #[] w23 λv43 w44=>
 Ca Tryz.prog 28 #[v6,a0] w44 λv45 w46=>
 rv Tryz.prog (Instr.extract v45 0) w46 λv47 w48=>
 rv Tryz.prog (Instr.extract v45 1) w48 λv49 w50=>
 rv Tryz.prog (Instr.extract v45 2) w50 λv51 w52=>
 Ca Tryz.prog 28 #[v43,a0] w52 λv53 w54=>
 rv Tryz.prog (Instr.extract v53 0) w54 λv55 w56=>
 rv Tryz.prog (Instr.extract v53 1) w56 λv57 w58=>
 rv Tryz.prog (Instr.extract v53 2) w58 λv59 w60=>
 rdP Tryz.prog (bin .eql 27 false v47 v55) λv61=>
 ifB v61
 (rdP Tryz.prog (bin .eql 27 false v49 v57) λv62=>
 ifB v62
 (rdP Tryz.prog (bin .eql 4 false v51 v59) λv63=>
 ifB v63
 (Ca Tryz.prog 31 #[v6] w60.drew λv64 w65=>
 rdX Tryz.prog (xConv 54 9 v64) w65 λv66=>
 Ca Tryz.prog 31 #[v43] w65 λv67 w68=>
 Sem.run Tryz.prog (xConv 54 9 v64) w68=.ok v66 w68∧
 (rdX Tryz.prog (xConv 54 9 v67) w68 λv69=>
 rdP Tryz.prog (bin .eql 9 false v66 v69) λv70=>
 ifB v70
 (Ca Tryz.prog 27 #[] w68 λv71 w72=>
 K v71 w72)
 (K (.bool false) w68)))
 (K (.bool false) w60.drew))
 (K (.bool false) w60.drew))
 (K (.bool false) w60.drew))
def F9(a0 a1 a2:Value)(w:World)(K:Kont):Prop:=
 rn Tryz.prog (builtin .len #[54] 3 #[false] #[a0]) w λv0 w1=>
 rv Tryz.prog (bin .gtr 3 true v0 (.int .i64 3000)) w1 λv2 w3=>
 ifB v2
 (Ca Tryz.prog 27 #[] w3 λv4 w5=>
 K v4 w5)
 (rv Tryz.prog (Instr.alloc 78 true (.tuple #[])) w3 λv6 w7=>
 Ca Tryz.prog 28 #[(.pointer none),a0] w7 λv8 w9=>
 rv Tryz.prog (Instr.extract v8 0) w9 λv10 w11=>
 rv Tryz.prog (Instr.extract v8 1) w11 λv12 w13=>
 rv Tryz.prog (Instr.extract v8 2) w13 λv14 w15=>
 Ca Tryz.prog 29 #[(.pointer none),a1,a2] w15 λv16 w17=>
 rv Tryz.prog (Instr.extract v16 0) w17 λv18 w19=>
 rv Tryz.prog (Instr.extract v16 1) w19 λv20 w21=>
 JoinW (S:=Value×Unit) (λJ24=>
 ifB v14
 (J24 ((.bool true),()) w21)
 (ifB v20
 (J24 ((.bool true),()) w21)
 (Ca Tryz.prog 30 #[(.pointer none),a1] w21 λv25 w26=>
 rv Tryz.prog (bin .neq 27 true v25 (.int .u64 0)) w26 λv27 w28=>
 ifB v27
 (J24 ((.bool true),()) w28)
 (Ca Tryz.prog 31 #[(.pointer none)] w28 λv29 w30=>
 rn Tryz.prog (builtin .len #[54] 3 #[false] #[v29]) w30 λv31 w32=>
 rv Tryz.prog (bin .neq 3 true v31 (.int .i64 0)) w32 λv33 w34=>
 ifB v33
 (J24 ((.bool true),()) w34)
 (Ca Tryz.prog 32 #[(.pointer none)] w34 λv35 w36=>
 rv Tryz.prog (bin .neq 75 true v35 (.pointer none)) w36 λv37 w38=>
 ifB v37
 (J24 ((.bool true),()) w38)
 (Ca Tryz.prog 33 #[(.pointer none)] w38 λv39 w40=>
 rv Tryz.prog (bin .neq 23 true v39 (.pointer none)) w40 λv41 w42=>
 J24 (v41,()) w42))))))
 (J9_0 K v6 a0))
theorem F9_eq(a0 a1 a2:Value)(w:World)(K:Kont):vcFnJ Tryz.prog Tryz.f9 [a0,a1,a2] w K=F9 a0 a1 a2 w K:=by kernel_rfl
theorem F9_ok:okF Tryz.prog Tryz.f9 3=true:=by kernel_rfl
theorem ca9{a0 a1 a2:Value}{w:World}{K:Kont}(h:F9 a0 a1 a2 w K):Ca Tryz.prog 9 #[a0,a1,a2] w K:=
 ca_of_vcJ Tryz.noNum Tryz.func9 F9_ok (by rw[F9_eq];exact h)
end Go.Proofs
namespace Go.Proofs
open Go Go.Vc
attribute [local congr] Ca_congV
theorem fldKep(n:Nat)(x:Value)(W:World):(Instr.field 190 (.agg #[.int .u64 n,x]) 0).run Tryz.prog W=.ok (.int .u64 n) W:=by
 simp[Instr.field,go_sem,part,isAgg,asAgg]
abbrev tMch:TypeId:=78
abbrev mpt(m:Nat):Value:=.pointer (some ⟨m,0,none⟩)
abbrev Kpt:Type:=Option (Nat×Nat×List UInt8)
def KpOk(w:World):Kpt→List Kp→Prop
 |none,T=>T=[]
 |some (c,q,b),T=>∃s,T=[(c,(q,s))]∧OwnB w s b
def inT(T:List Kp)(y:Nat):Prop:=∃p∈T,inSl p.2.2 y
structure MchQ(w:World)(m:Nat)(F:Nat→Prop)(S:Ven)(o:Kpt):Prop where
 out:∃v mm Fv T,hp w m=some (.cells #[vptr v,.map (some mm)] tMch (0,0))∧VenQ w v Fv S∧MapAt encU64 kepV w mm T∧KpOk w o T∧¬Fv m∧¬Fv mm∧m≠mm∧(∀y,inT T y→¬Fv y∧y≠m∧y≠mm)∧∀y,F y↔Fv y∨y=m∨y=mm∨inT T y
theorem KpOk.mod{G:Nat→Prop}{w w' :World}{o:Kpt}{T:List Kp}(h:KpOk w o T)(hm:Mod G w w')(hd:∀y,inT T y→¬G y):KpOk w' o T:=by
 cases o with
 |none=>exact h
 |some x=>
  obtain⟨c,q,b⟩:=x
  obtain⟨s,hT,hO⟩:=h
  refine⟨s,hT,hO.mod hm λy hy=>hd y ?_⟩
  rw[hT]
  exact⟨_,List.mem_singleton_self _,hy⟩
theorem KpOk.lt{w:World}{o:Kpt}{T:List Kp}(h:KpOk w o T){y:Nat}(hy:inT T y):y<w.heap.size:=by
 obtain⟨p,hp,hy⟩:=hy
 cases o with
 |none=>rw[show T=[]from h]at hp;cases hp
 |some x=>
  obtain⟨c,q,b⟩:=x
  obtain⟨s,hT,hO⟩:=h
  rw[hT]at hp
  rw[List.mem_singleton.1 hp]at hy
  exact hO.lt hy
theorem MchQ.mod{G:Nat→Prop}{w w' :World}{m:Nat}{F:Nat→Prop}{S:Ven}{o:Kpt}(h:MchQ w m F S o)(hm:Mod G w w')(hd:∀y,F y→¬G y):MchQ w' m F S o:=by
 obtain⟨v,mm,Fv,T,h1,h2,h3,h4,h5,h6,h7,h8,h9⟩:=h.out
 exact⟨v,mm,Fv,T,hm.hpk h1 (hd m ((h9 m).2 (.inr (.inl rfl)))),h2.mod hm λy hy=>hd y ((h9 y).2 (.inl hy)),h3.mod hm (hd mm ((h9 mm).2 (.inr (.inr (.inl rfl))))),h4.mod hm λy hy=>hd y ((h9 y).2 (.inr (.inr (.inr hy)))),h5,h6,h7,h8,h9⟩
theorem MchQ.lt{w:World}{m:Nat}{F:Nat→Prop}{S:Ven}{o:Kpt}(h:MchQ w m F S o){y:Nat}(hy:F y):y<w.heap.size:=by
 obtain⟨v,mm,Fv,T,h1,h2,h3,h4,h5,h6,h7,h8,h9⟩:=h.out
 rcases(h9 y).1 hy with h|rfl|rfl|h
 ·exact h2.lt h
 ·exact lt_of_heap h1
 ·exact h3.lt
 ·exact h4.lt h
section
variable{w:World}{K:Kont}{m:Nat}{F:Nat→Prop}{S:Ven}{o:Kpt}
theorem ca_snewQ(hK:∀m F w',MchQ w' m F Ven.empty none→Mod (λ_=>False) w w' →(∀y,F y→w.heap.size≤y)→K (mpt m) w'):Ca Tryz.prog 34 #[] w K:=by
 apply ca34
 unfold F34
 refine ca_vnew λv Fv w1 q1 m1 n1=>?_
 obtain⟨mm,hmm⟩:∃mm,mm=w1.heap.size:=⟨_,rfl⟩
 have m2:Mod (λ_=>False) w1 (w1.alloc (.map #[] 0)):=(Mod.refl _ w1).alloc _
 have a2:MapAt encU64 kepV (w1.alloc (.map #[] 0)) mm []:=MapAt.empty (by rw[hmm];simp[go_sem])
 refine rvS (v:=.map (some mm)) (w' :=w1.alloc (.map #[] 0)) (by rw[hmm];simp[go_sem]) ?_
 have hs2:(w1.alloc (.map #[] 0)).heap.size=mm+1:=by rw[hmm];simp[go_sem]
 generalize w1.alloc (.map #[] 0)=w2 at m2 a2 hs2⊢
 refine rvS (v:=.agg #[vptr v,.map (some mm)]) (w' :=w2) (by simp[go_sem,vptr]) ?_
 have m3:Mod (λ_=>False) w2 (w2.alloc (.cells #[vptr v,.map (some mm)] tMch)):=(Mod.refl _ w2).alloc _
 have b3:hp (w2.alloc (.cells #[vptr v,.map (some mm)] tMch)) (mm+1)=some (.cells #[vptr v,.map (some mm)] tMch (0,0)):=by rw[←hs2];simp[go_sem]
 refine rvS (v:=mpt (mm+1)) (w' :=w2.alloc (.cells #[vptr v,.map (some mm)] tMch)) (by rw[←hs2];simp[go_sem,vptr]) ?_
 generalize w2.alloc (.cells #[vptr v,.map (some mm)] tMch)=w3 at m3 b3⊢
 have m23:=m2.trans m3
 have hs1:=m1.size
 refine hK (mm+1) (λy=>Fv y∨y=mm+1∨y=mm∨inT [] y) w3 ⟨v,mm,Fv,[],b3,q1.md0 m23,a2.mod m3 id,rfl,λhc=>by have:=q1.lt hc;omega,λhc=>by have:=q1.lt hc;omega,by omega,λy hy=>(by obtain⟨p,hp,-⟩:=hy;cases hp),λy=>Iff.rfl⟩ (m1.trans m23) λy hy=>?_
 rcases hy with hy|hy|hy|⟨p,hp,-⟩
 ·exact n1 y hy
 ·omega
 ·omega
 ·cases hp
theorem ca_readyN(hK:K (.bool false) w):Ca Tryz.prog 98 #[.pointer none] w K:=by
 apply ca98
 unfold F98
 refine rvS (v:=.bool true) (w' :=w) (by simp[go_sem]) ?_
 rw[ifB_bool,if_pos rfl]
 exact hK
theorem ca_readyQ(h:MchQ w m F S o)(hK:K (.bool true) w):Ca Tryz.prog 98 #[mpt m] w K:=by
 obtain⟨v,mm,Fv,T,h1,-⟩:=h.out
 apply ca98
 unfold F98
 refine rvS (v:=.bool false) (w' :=w) (by simp[go_sem]) ?_
 rw[ifB_bool,if_neg Bool.false_ne_true]
 simp only[nilK_ptr]
 refine rvS (v:=.pointer (some ⟨m,0,none⟩)) (w' :=w) (by simp[go_sem]) ?_
 refine rvS (v:=vptr v) (w' :=w) (by simp[go_sem,h1,vptr]) ?_
 refine rvS (v:=.bool false) (w' :=w) (by simp[go_sem,vptr]) ?_
 rw[ifB_bool,if_neg Bool.false_ne_true]
 exact hK
inductive MchI (w:World) (m:Nat) (F:Nat→Prop):Prop where
 |new (h:MchQ w m F Ven.empty none)
 |zero (h:hp w m=some (.cells #[.pointer none,.map none] tMch (0,0))) (hF:∀y,F y↔y=m)
theorem MchI.mod{G:Nat→Prop}{w w' :World}{m:Nat}{F:Nat→Prop}(h:MchI w m F)(hm:Mod G w w')(hd:∀y,F y→¬G y):MchI w' m F:=by
 cases h with
 |new h=>exact .new (h.mod hm hd)
 |zero h hF=>exact .zero (hm.hpk h (hd m ((hF m).2 rfl))) hF
theorem MchI.lt(h:MchI w m F){y:Nat}(hy:F y):y<w.heap.size:=by
 cases h with
 |new h=>exact h.lt hy
 |zero h hF=>rw[(hF y).1 hy];exact lt_of_heap h
theorem ca_readyI(h:MchI w m F)(hK:∀F' w',MchQ w' m F' Ven.empty none→Mod F w w' →(∀y,F' y→F y∨w.heap.size≤y)→K (.bool true) w'):Ca Tryz.prog 98 #[mpt m] w K:=by
 cases h with
 |new h=>exact ca_readyQ h (hK F w h (Mod.refl _ _) λy hy=>.inl hy)
 |zero h hF=>
  apply ca98
  unfold F98
  refine rvS (v:=.bool false) (w' :=w) (by simp[go_sem]) ?_
  rw[ifB_bool,if_neg Bool.false_ne_true]
  simp only[nilK_ptr]
  refine rvS (v:=.pointer (some ⟨m,0,none⟩)) (w' :=w) (by simp[go_sem]) ?_
  refine rvS (v:=.pointer none) (w' :=w) (by simp[go_sem,h]) ?_
  refine rvS (v:=.bool true) (w' :=w) (by simp[go_sem]) ?_
  rw[ifB_bool,if_pos rfl]
  refine ca_snewQ λm2 F2 w2 q2 n2 s2=>?_
  have b2:=n2.hpk h id
  obtain⟨v,mm,Fv,T,h1,h2,h3,h4,h5,h6,h7,h8,h9⟩:=q2.out
  simp only[nilK_ptr]
  refine rvS (v:=.agg #[vptr v,.map (some mm)]) (w' :=w2) (by simp only[vptr]at h1⊢;simp[go_sem,h1]) ?_
  have m3:Mod (λy=>y=m) w2 ((w2.setCell ⟨m,0,none⟩ (vptr v)).setCell ⟨m,1,none⟩ (.map (some mm))):=((Mod.refl (λy=>y=m) w2).setCell (.inl rfl) _ _).setCell (.inl rfl) _ _
  have b3:hp ((w2.setCell ⟨m,0,none⟩ (vptr v)).setCell ⟨m,1,none⟩ (.map (some mm))) m=some (.cells #[vptr v,.map (some mm)] tMch (0,0)):=by simp[go_sem,b2]
  refine ruS (w' :=(w2.setCell ⟨m,0,none⟩ (vptr v)).setCell ⟨m,1,none⟩ (.map (some mm))) (by simp only[vptr];simp[go_sem,b2]) ?_
  generalize(w2.setCell ⟨m,0,none⟩ (vptr v)).setCell ⟨m,1,none⟩ (.map (some mm))=w3 at m3 b3⊢
  have hmw:=lt_of_heap h
  have hF2:∀{y},F2 y→y≠m:=λhy e=>by have:=s2 _ hy;omega
  have hT0:T=[]:=h4
  subst hT0
  refine hK (λy=>Fv y∨y=m∨y=mm∨inT [] y) w3 ⟨v,mm,Fv,[],b3,h2.mod m3 λy hy=>hF2 ((h9 y).2 (.inl hy)),h3.mod m3 λe=>hF2 ((h9 mm).2 (.inr (.inr (.inl rfl)))) e,rfl,λhc=>hF2 ((h9 m).2 (.inl hc)) rfl,h6,λe=>hF2 ((h9 mm).2 (.inr (.inr (.inl rfl)))) e.symm,λy hy=>(by obtain⟨p,hp,-⟩:=hy;cases hp),λy=>Iff.rfl⟩ ((n2.mono λ_ _ h=>h.elim).trans (m3.mono λy _ hy=>(hF y).2 hy)) λy hy=>?_
  rcases hy with hy|hy|hy|⟨p,hp,-⟩
  ·exact .inr (s2 y ((h9 y).2 (.inl hy)))
  ·exact .inl ((hF y).2 hy)
  ·exact .inr (s2 y ((h9 y).2 (.inr (.inr (.inl hy)))))
  ·cases hp
structure Sout where
 c:Nat
 q:Nat
 d:Bool
 S:Ven
 o:Kpt
def sOut(l:List UInt8):Sout:=
 if(rdT l).2≠0∨(rdT l).1.q≠1 then⟨0,0,false,Ven.empty,none⟩
 else⟨(rdT l).1.c,1,true,(Ven.empty.do0 (rdT l).1.b).2,some ((rdT l).1.c,1,(Ven.empty.do0 (rdT l).1.b).1)⟩
theorem rdT_len' (l:List UInt8):(rdT l).1.b.length≤2000∧(rdT l).1.c<18446744073709551616∧(rdT l).1.q<18446744073709551616:=by
 have h:=turnO_lt l
 unfold rdT turnR
 split
 ·rename_i o ho
  split at ho
  ·cases ho;exact⟨h.2.2,h.1,h.2.1⟩
  ·cases ho
 ·exact⟨by decide,by decide,by decide⟩
set_option maxRecDepth 10000 in
theorem ca_sapplyI{v:Value}{l:List UInt8}(h:MchI w m F)(hv:Rd w 1 v l.length (bv l))(hl:l.length≤1000000000)
  (hK:∀F' w',MchQ w' m F' (sOut l).S (sOut l).o→Mod F w w' →(∀y,F' y→F y∨w.heap.size≤y)→K (.tuple #[.int .u64 (sOut l).c,.int .u64 (sOut l).q,.bool (sOut l).d]) w'):Ca Tryz.prog 28 #[mpt m,v] w K:=by
 apply ca28
 unfold F28
 refine ca_sread hv hl λv2 w1 o1 m1 n1=>?_
 have hlen:=rdT_len' l
 obtain⟨T,hT⟩:∃T,T=rdT l:=⟨_,rfl⟩
 obtain⟨Z,hZ⟩:∃Z,Z=sOut l:=⟨_,rfl⟩
 have hZT:Z=if T.2≠0∨T.1.q≠1 then⟨0,0,false,Ven.empty,none⟩else⟨T.1.c,1,true,(Ven.empty.do0 T.1.b).2,some (T.1.c,1,(Ven.empty.do0 T.1.b).1)⟩:=by rw[hZ,hT];rfl
 rw[←hT]at o1 hlen⊢
 rw[←hZ]at hK
 clear hT hZ
 refine rvS (v:=tnV T.1.c T.1.q v2) (w' :=w1) (by simp[go_sem]) ?_
 refine rvS (v:=.int .i64 T.2) (w' :=w1) (by simp[go_sem]) ?_
 have m2:Mod (λ_=>False) w1 (w1.alloc (.cells #[.int .u64 0,.int .u64 0,.slice none 0 0] 186)):=(Mod.refl _ w1).alloc _
 refine rvS (v:=.pointer (some ⟨w1.heap.size,0,none⟩)) (w' :=w1.alloc (.cells #[.int .u64 0,.int .u64 0,.slice none 0 0] 186)) (by simp[go_sem]) ?_
 obtain⟨p,hp0⟩:∃p,p=w1.heap.size:=⟨_,rfl⟩
 have hb2:hp (w1.alloc (.cells #[.int .u64 0,.int .u64 0,.slice none 0 0] 186)) p=some (.cells #[.int .u64 0,.int .u64 0,.slice none 0 0] 186 (0,0)):=by rw[hp0];simp[go_sem]
 rw[←hp0]
 have hpw:w.heap.size≤p:=by have:=m1.size;omega
 generalize w1.alloc (.cells #[.int .u64 0,.int .u64 0,.slice none 0 0] 186)=w2 at m2 hb2⊢
 obtain⟨a2,c2,hv2,-⟩:=o1.isSl
 obtain⟨w3,hs3,b3,m3⟩:=stTn (x:=T.1.c) (y:=T.1.q) (v:=v2) hb2 ⟨_,_,_,hv2⟩
 refine ruS hs3 ?_
 have M3:Mod (λ_=>False) w w3:=(m1.trans m2).on m3 λb hb=>.inr (by rw[hb];exact hpw)
 have hFw:∀y,F y→y<w.heap.size:=λy hy=>h.lt hy
 have h3:=h.mod M3 λ_ _ h=>h
 have hp3:=lt_of_heap b3
 have o3:=(o1.mod m2 λ_ _ h=>h).mod m3 λy hy e=>by have:=o1.lt hy;omega
 refine JoinW.at (λst W=>st=(.bool (decide (T.2≠0)),())∧∃F',MchQ W m F' Ven.empty none∧Mod F w3 W∧∀y,F' y→F y∨w3.heap.size≤y) ?_ ?_
 ·refine ca_readyI h3 λF' w4 q4 m4 n4=>?_
  refine rvS (v:=.bool false) (w' :=w4) (by simp[go_sem]) ?_
  rw[ifB_bool,if_neg Bool.false_ne_true]
  refine rvS (v:=.bool (decide (T.2≠0))) (w' :=w4) (by by_cases h0:T.2=0<;>simp[go_sem,h0]<;>omega) ?_
  exact⟨rfl,F',q4,m4,n4⟩
 rintro _ w4 ⟨rfl,F',q4,m4,n4⟩
 unfold J28_1
 intro _
 have hw3:=M3.size
 have M4:Mod F w w4:=(M3.mono λ_ _ h=>h.elim).trans m4
 have N4:∀y,F' y→F y∨w.heap.size≤y:=λy hy=>(n4 y hy).imp id λh' =>by omega
 by_cases he:T.2≠0
 ·rw[ifB_bool,if_pos (by simpa using he)]
  rw[if_pos (.inl he)]at hZT
  rw[hZT]at hK
  exact hK F' w4 q4 M4 N4
 rw[ifB_bool,if_neg (by simpa using he)]
 have b4:=m4.hpk b3 λhc=>by have:=hFw p hc;omega
 have hpF' :¬F' p:=λhc=>by
  rcases n4 p hc with h' |h'
  ·have:=hFw p h';omega
  ·omega
 have hn2:∀y,inSl v2 y→w.heap.size≤y∧y<w3.heap.size:=λy hy=>⟨n1 y hy,o3.lt hy⟩
 have o4:=o3.mod m4 λy hy hc=>by have:=hFw y hc;have:=(hn2 y hy).1;omega
 obtain⟨vv,mm,Fv,T0,a1,a2',a3,a4,a5,a6,a7,a8,a9⟩:=id q4.out
 have hT0:T0=[]:=a4
 subst hT0
 simp only[nilK_ptr]
 have md:Mod (λ_=>False) w4 w4.drew:=(Mod.refl _ w4).drew
 have hmd:=md.hpk a1 id
 have bd:=md.hpk b4 id
 have Ad:=a3.mod md id
 have od:=o4.mod md λ_ _ h=>h
 have vd:=a2'.md0 md
 have qd:=q4.mod md λ_ _ h=>h
 have Md:=M4.trans (md.mono (G:=F) λ_ _ h=>h.elim)
 have hs4d:w4.drew.heap.size=w4.heap.size:=rfl
 generalize w4.drew=w5 at md hmd bd Ad od vd qd Md hs4d⊢
 refine rdPS (v:=.pointer (some ⟨m,1,none⟩)) (λW=>by simp[go_sem]) ?_
 refine rdWS (v:=.map (some mm)) (by simp[go_sem,hmd]) ?_
 refine rdPS (v:=.pointer (some ⟨p,0,none⟩)) (λW=>by simp[go_sem]) ?_
 refine rdWS (v:=encU64 T.1.c) (by simp[go_sem,bd,encU64]) ?_
 refine rdX_look (kepV (0,nilV)) uMapK kU64n zKep (.inr ⟨mm,rfl,Ad⟩) ?_
 simp only[lk,Option.elim,kepV]
 refine rdPS (v:=.int .u64 0) (λW=>fldKep 0 nilV W) ?_
 refine JoinW.at (λst W=>st=(.bool (decide (T.1.q≠1)),())∧w5=W) ?_ ?_
 ·refine rvS (v:=.bool false) (w' :=w5) (by simp[go_sem]) ?_
  rw[ifB_bool,if_neg Bool.false_ne_true]
  refine rvS (v:=.pointer (some ⟨p,1,none⟩)) (w' :=w5) (by simp[go_sem]) ?_
  refine rvS (v:=.int .u64 T.1.q) (w' :=w5) (by simp[go_sem,bd]) ?_
  refine rvS (v:=.int .u64 1) (w' :=w5) (by simp[go_sem];try rw[wrapU (by omega) (by omega)]) ?_
  refine rvS (v:=.bool (decide (T.1.q≠1))) (w' :=w5) (by by_cases h1:T.1.q=1<;>simp[go_sem,h1]<;>omega) ?_
  exact⟨rfl,rfl⟩
 rintro _ _ ⟨rfl,rfl⟩
 unfold J28_0
 intro _
 by_cases hq:T.1.q≠1
 ·rw[ifB_bool,if_pos (by simpa using hq)]
  rw[if_pos (.inr hq)]at hZT
  rw[hZT]at hK
  exact hK F' w5 qd Md N4
 rw[ifB_bool,if_neg (by simpa using hq)]
 have hq1:T.1.q=1:=by simpa using hq
 rw[if_neg (not_or.2 ⟨he,hq⟩)]at hZT
 rw[hZT]at hK
 simp only at hK
 simp only[nilK_ptr]
 have me:Mod (λ_=>False) w5 w5.drew:=(Mod.refl _ w5).drew
 have hme:=me.hpk hmd id
 have be:=me.hpk bd id
 have Ae:=Ad.mod me id
 have oe:=od.mod me λ_ _ h=>h
 have ve:=vd.md0 me
 have Me:=Md.trans (me.mono (G:=F) λ_ _ h=>h.elim)
 have hs5e:w5.drew.heap.size=w5.heap.size:=rfl
 generalize w5.drew=w6 at me hme be Ae oe ve Me hs5e⊢
 have t0:∀{W:World},hp W p=some (.cells #[.int .u64 T.1.c,.int .u64 T.1.q,v2] 186 (0,0))→(Instr.loadAt 27 (.pointer (some ⟨p,0,none⟩))).run Tryz.prog W=.ok (encU64 T.1.c) W∧(Instr.loadAt 27 (.pointer (some ⟨p,1,none⟩))).run Tryz.prog W=.ok (.int .u64 T.1.q) W∧(Instr.loadAt tBs (.pointer (some ⟨p,2,none⟩))).run Tryz.prog W=.ok v2 W:=λhW=>by
  rw[hv2]at hW⊢
  refine⟨?_,?_,?_⟩<;>simp[go_sem,hW,encU64]
 have mL:∀{W:World},hp W m=some (.cells #[vptr vv,.map (some mm)] tMch (0,0))→(Instr.loadAt 76 (.pointer (some ⟨m,1,none⟩))).run Tryz.prog W=.ok (.map (some mm)) W:=λhW=>by simp[go_sem,hW]
 refine rdPS (v:=.pointer (some ⟨m,1,none⟩)) (λW=>by simp[go_sem]) (rdWS (mL hme) ?_)
 refine rdPS (v:=.pointer (some ⟨p,0,none⟩)) (λW=>by simp[go_sem]) (rdWS (t0 be).1 ?_)
 refine rdPS (v:=.pointer (some ⟨p,1,none⟩)) (λW=>by simp[go_sem]) (rdWS (t0 be).2.1 ?_)
 refine rdPS (v:=.pointer (some ⟨m,0,none⟩)) (λW=>by simp[go_sem]) (rdWS (v:=vptr vv) (by simp[go_sem,hme,vptr]) ?_)
 refine rdPS (v:=.pointer (some ⟨p,2,none⟩)) (λW=>by simp[go_sem]) (rdWS (t0 be).2.2 ?_)
 refine ca_vdo0 ve empty_ok rfl rfl oe.rd (by omega) λs Fw w7 v7 o7 m7 n7 s7=>?_
 have hFv' :∀y,Fv y→F' y:=λy hy=>(a9 y).2 (.inl hy)
 have hpFv:¬Fv p:=λhc=>hpF' (hFv' p hc)
 have b7:=m7.hpk be hpFv
 have c7:=m7.hpk hme a5
 have A7:=Ae.mod m7 a6
 refine⟨(t0 b7).2.1,(t0 b7).1,mL c7,?_⟩
 obtain⟨sa,sc,hse,-⟩:=o7.isSl
 refine rdPS (v:=kepV (T.1.q,s)) (λW=>by rw[hse];simp[go_sem,kepV]) ?_
 refine rux_mapUp (x:=T.1.c) (v:=((T.1.q,s):Nat×Value)) uMapK kU64n A7 λw8 A8 m8 hs8=>?_
 have hmF' :F' m:=(a9 m).2 (.inr (.inl rfl))
 have hmmF' :F' mm:=(a9 mm).2 (.inr (.inr (.inl rfl)))
 have hpmm:p≠mm:=λe=>hpF' (e▸hmmF')
 have b8:=m8.hpk b7 hpmm
 have c8:=m8.hpk c7 a7
 have hs6:w.heap.size≤w6.heap.size:=Me.size
 have hF'6:∀y,F' y→y<w6.heap.size:=λy hy=>by have:=q4.lt hy;omega
 have hs8' :∀y,inSl s y→w6.heap.size≤y:=λy hy=>(s7 y hy).1
 have v8:=v7.mod m8 λy hy e=>by
  rcases n7 y hy with h' |h'
  ·exact a6 (e▸h')
  ·have:=hF'6 mm hmmF';omega
 have o8:=o7.mod m8 λy hy e=>by have:=hs8' y hy;have:=hF'6 mm hmmF';omega
 have m9:Mod (λ_=>False) w8 w8.drew:=(Mod.refl _ w8).drew
 have b9:=m9.hpk b8 id
 have hput:put ([]:List Kp) T.1.c (T.1.q,s)=[(T.1.c,(T.1.q,s))]:=rfl
 rw[hput]at A8
 refine rdPS (v:=.pointer (some ⟨p,0,none⟩)) (λW=>by simp[go_sem]) (rdWS (t0 b9).1 ?_)
 refine rdPS (v:=.pointer (some ⟨p,1,none⟩)) (λW=>by simp[go_sem]) (rdWS (t0 b9).2.1 ?_)
 refine⟨(t0 b9).2.1,?_⟩
 have M9:Mod F w w8.drew:=by
  refine((Me.on m7 λy hy=>?_).on m8 λy hy=>?_).trans (m9.mono λ_ _ h=>h.elim)
  ·exact N4 y (hFv' y hy)
  ·rw[hy];exact N4 mm hmmF'
 have hk:=hK (λy=>Fw y∨y=m∨y=mm∨inT [(T.1.c,(T.1.q,s))] y) w8.drew ⟨vv,mm,Fw,_,m9.hpk c8 id,v8.md0 m9,A8.mod m9 id,⟨s,by rw[hq1],o8.mod m9 λ_ _ h=>h⟩,λhc=>?_,λhc=>?_,a7,λy hy=>?_,λy=>Iff.rfl⟩ M9 λy hy=>?_
 ·rw[hq1]
  exact hk
 ·rcases n7 m hc with h' |h'
  ·exact a5 h'
  ·have:=hF'6 m hmF';omega
 ·rcases n7 mm hc with h' |h'
  ·exact a6 h'
  ·have:=hF'6 mm hmmF';omega
 ·obtain⟨q,hq',hy⟩:=hy
  rw[List.mem_singleton.1 hq']at hy
  have h1:=s7 y hy
  exact⟨h1.2,by have:=hF'6 m hmF';omega,by have:=hF'6 mm hmmF';omega⟩
 ·rcases hy with hy|hy|hy|⟨q,hq',hy⟩
  ·rcases n7 y hy with h' |h'
   ·exact N4 y (hFv' y h')
   ·exact .inr (by omega)
  ·rw[hy];exact N4 m hmF'
  ·rw[hy];exact N4 mm hmmF'
  ·rw[List.mem_singleton.1 hq']at hy
   have:=hs8' y hy
   exact .inr (by omega)
end
end Go.Proofs
