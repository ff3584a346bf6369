/- Part of a proof. -/
import Derived.Test.YtgebhcgmckjbbaaGreatS19
set_option linter.all false
namespace Go.Proofs
open Go Go.Vc
def zig(x:Int):Nat:=if 0≤x then 2*x.toNat else 2*(-x - 1).toNat+1
def zag(n:Nat):Int:=if n%2=0 then(n / 2:Nat)else -((n / 2:Nat):Int) - 1
theorem zig_lt{x:Int}(h:R64' x):zig x<18446744073709551616:=by
 unfold zig;split<;>omega
theorem zag_fit{n:Nat}(h:n<18446744073709551616):R64' (zag n):=by
 unfold zag;split<;>(constructor<;>omega)
def numB(x:Int):List UInt8:=natB x.toNat
def intB(x:Int):List UInt8:=natB (zig x)
def flagB(f:Bool):List UInt8:=[if f then 1 else 0]
def spB(s:Sp):List UInt8:=
 if s.may then numB s.num++(numB s.route++(numB s.tick++(numB s.lot++(numB s.band++numB s.limit))))++s.shifts.toList.flatMap intB++(numB s.credit++(numB s.last++numB s.first))else []
def acB(a:Ac):List UInt8:=numB a.num++(intB a.cash++(flagB a.kil++flagB a.dfl))
def ctB(k:Ct):List UInt8:=spB k.spec++(numB k.st++intB k.price)
def poB(p:Po):List UInt8:=numB p.c++(numB p.a++(intB p.q++intB p.b))
def odB(x:Int×Od):List UInt8:=numB x.1++(numB x.2.num++(numB x.2.acct++(flagB x.2.buy++(intB x.2.price++intB x.2.left))))
def lsB{α:Type}(f:α→List UInt8)(l:List α):List UInt8:=natB l.length++l.flatMap f
def staB(s:Sta):List UInt8:=numB s.day++(numB s.next++(intB s.fund++(lsB acB s.accts++(lsB ctB s.cts++(lsB poB s.poss++(lsB odB s.ords++lsB odB s.bids))))))
def rsNum(l:List UInt8)(most:Nat)(s:Rs):Int×Rs:=((rsSmall l most s).1,(rsSmall l most s).2)
def rsInt(l:List UInt8)(s:Rs):Int×Rs:=(zag (rsSmall l 18446744073709551615 s).1,(rsSmall l 18446744073709551615 s).2)
def rsFlag(l:List UInt8)(s:Rs):Bool×Rs:=
 if s.e≠0 then(false,s)else if s.at_=l.length then(false,{s with e:=4})
 else if 1<(l.getD s.at_ 0).toNat then(false,{s with e:=5})else(decide ((l.getD s.at_ 0).toNat=1),{s with at_:=s.at_+1})
def rsFail(e:Nat)(s:Rs):Rs:=if s.e≠0 then s else{s with e:=e}
def rsInts(l:List UInt8):Nat→Rs→List Int×Rs
 |0,s=>([],s)
 |n+1,s=>((rsInt l s).1::(rsInts l n (rsInt l s).2).1,(rsInts l n (rsInt l s).2).2)
theorem rsInts_len(l:List UInt8):∀(n:Nat) (s:Rs),(rsInts l n s).1.length=n
 |0,s=>rfl
 |n+1,s=>by simp only[rsInts,List.length_cons,rsInts_len l n]
def W32:Nat:=4294967295
def W63:Nat:=9223372036854775807
def W64:Nat:=18446744073709551615
def rsSp0(l:List UInt8)(s:Rs):Sp×Rs:=
 let a:=rsNum l W32 s
 let b:=rsNum l 255 a.2
 let c:=rsNum l W63 b.2
 let d:=rsNum l W63 c.2
 let e:=rsNum l W63 d.2
 let f:=rsNum l W63 e.2
 let g:=rsInts l 16 f.2
 let h:=rsNum l W63 g.2
 let i:=rsNum l W32 h.2
 let j:=rsNum l W63 i.2
 (⟨a.1,b.1,c.1,d.1,e.1,f.1,⟨g.1.toArray,by simp[g,rsInts_len]⟩,h.1,i.1,j.1⟩,j.2)
def rsSp(l:List UInt8)(s:Rs):Sp×Rs:=if(rsSp0 l s).1.may then rsSp0 l s else(zSp,rsFail 5 (rsSp0 l s).2)
def rsAc(l:List UInt8)(s:Rs):Ac×Rs:=
 let a:=rsNum l W32 s
 let b:=rsInt l a.2
 let c:=rsFlag l b.2
 let d:=rsFlag l c.2
 (⟨a.1,b.1,c.1,d.1⟩,d.2)
def rsCt(l:List UInt8)(s:Rs):Ct×Rs:=
 let a:=rsSp l s
 let b:=rsNum l 255 a.2
 let c:=rsInt l b.2
 (⟨a.1,b.1,c.1⟩,c.2)
def rsPo(l:List UInt8)(s:Rs):Po×Rs:=
 let a:=rsNum l W32 s
 let b:=rsNum l W32 a.2
 let c:=rsInt l b.2
 let d:=rsInt l c.2
 (⟨a.1,b.1,c.1,d.1⟩,d.2)
def rsOd(l:List UInt8)(s:Rs):(Int×Od)×Rs:=
 let a:=rsNum l W32 s
 let b:=rsNum l W64 a.2
 let c:=rsNum l W32 b.2
 let d:=rsFlag l c.2
 let e:=rsInt l d.2
 let f:=rsInt l e.2
 ((a.1,⟨b.1,c.1,d.1,e.1,f.1⟩),f.2)
def rsTake{α:Type}(l:List UInt8)(f:Rs→α×Rs):Nat→List α→Rs→List α×Rs
 |0,acc,s=>(acc,s)
 |n+1,acc,s=>if l.length - (f s).2.at_=0∧rsDone l (f s).2≠0 then([],(f s).2)else rsTake l f n (acc++[(f s).1]) (f s).2
def rsList{α:Type}(l:List UInt8)(f:Rs→α×Rs)(most:Nat)(s:Rs):List α×Rs:=rsTake l f (rsSmall l most s).1 [] (rsSmall l most s).2
attribute [local irreducible] rsNum rsInt rsFlag rsInts
attribute [local irreducible] rsSp rsAc rsCt rsPo rsOd rsList
end Go.Proofs
namespace Go.Proofs
open Go Go.Vc
attribute [local congr] Ca_congV
theorem ltIg(a b:Nat)(W:World):(bin .lss 3 false (.int .i64 (a:Int)) (.int .i64 (b:Int))).run Tryz.prog W=.ok (.bool (decide (a<b))) W:=by simp[go_sem]
theorem addI{i:Nat}(h:i<1000000)(W:World):(bin .add 3 true (.int .i64 (i:Int)) (.int .i64 1)).run Tryz.prog W=.ok (.int .i64 ((i+1:Nat):Int)) W:=by
 simp[go_sem];rw[wrapI (by omega) (by omega)]
theorem i64_xor0(a:Nat)(ha:a<9223372036854775808):bits .xor .i64 (a:Int) 0=(a:Int):=by
 show IntKind.i64.wrap ((BitVec.ofInt 64 (a:Int) ^^^ BitVec.ofInt 64 0).toNat:Int)=_
 have h1:BitVec.ofInt 64 0=0#64:=by decide
 rw[h1,BitVec.xor_zero,ofInt_u64 a (by omega)]
 simp[IntKind.wrap,IntKind.bits,IntKind.signed]
 omega
theorem i64_xorm(a:Nat)(ha:a<9223372036854775808):bits .xor .i64 (a:Int) (-1)= -1 - (a:Int):=by
 rw[←i64_not a ha]
 show IntKind.i64.wrap ((BitVec.ofInt 64 (a:Int) ^^^ BitVec.ofInt 64 (-1)).toNat:Int)=IntKind.i64.wrap ((BitVec.ofInt 64 (-1) ^^^ BitVec.ofInt 64 (a:Int)).toNat:Int)
 rw[BitVec.xor_comm]
theorem u64_xorm(a:Nat)(ha:a<18446744073709551616):bits .xor .u64 (a:Int) 18446744073709551615=((18446744073709551615 - a:Nat):Int):=by
 show IntKind.u64.wrap ((BitVec.ofInt 64 (a:Int) ^^^ BitVec.ofInt 64 18446744073709551615).toNat:Int)=_
 have h1:BitVec.ofInt 64 18446744073709551615=BitVec.allOnes 64:=by decide
 rw[h1,BitVec.xor_allOnes,BitVec.toNat_not,ofInt_u64 a ha,IntKind.wrap_u64]
 omega
theorem u64_xor0(a:Nat)(ha:a<18446744073709551616):bits .xor .u64 (a:Int) 0=(a:Int):=by
 have:=u64_xor_nat a 0 ha (by omega)
 simpa using this
theorem ca_rint{w:World}{K:Kont}{r:Nat}{v:Value}{l:List UInt8}{s:Rs}(h:RdrAt w r v l s)
  (hK:∀w',RdrAt w' r v l (rsInt l s).2→Mod (λb=>b=r) w w' →K (.int .i64 (rsInt l s).1) w'):Ca Tryz.prog 62 #[rptr r] w K:=by
 apply ca62
 unfold F62
 refine ca_rnat h λw1 h1 m1=>?_
 have hk:=hK w1 h1 m1
 unfold rsInt at hk
 simp only at hk
 have hn:(rsSmall l 18446744073709551615 s).1≤18446744073709551615:=rsSmall_most
 generalize(rsSmall l 18446744073709551615 s).1=n at hk hn⊢
 refine rvS (v:=.int .u64 ((n / 2:Nat):Int)) (w' :=w1) (by simp[go_sem]) ?_
 refine rvS (v:=.int .i64 ((n / 2:Nat):Int)) (w' :=w1) (by simp[-Int.natCast_ediv,go_sem];rw[wrapI (by omega) (by omega)]) ?_
 refine rvS (v:=.int .u64 ((n%2:Nat):Int)) (w' :=w1) (by simp only[go_sem];simp[-Int.natCast_emod,go_sem];rw[show(1:Int)=((1:Nat):Int)from rfl,u64_and_nat _ _ (by omega) (by omega),nat_mask1]) ?_
 refine rvS (v:=.int .i64 ((n%2:Nat):Int)) (w' :=w1) (by simp[-Int.natCast_emod,go_sem];rw[wrapI (by omega) (by omega)]) ?_
 by_cases h2:n%2=0
 ·rw[h2]
  refine rvS (v:=.int .i64 0) (w' :=w1) (by simp[go_sem];decide) ?_
  refine rvS (v:=.int .i64 ((n / 2:Nat):Int)) (w' :=w1) (by simp only[go_sem];simp[-Int.natCast_ediv,go_sem];rw[i64_xor0 _ (by omega)]) ?_
  unfold zag at hk
  rw[if_pos h2]at hk
  exact hk
 ·rw[show n%2=1 by omega]
  refine rvS (v:=.int .i64 (-1)) (w' :=w1) (by simp[go_sem];decide) ?_
  refine rvS (v:=.int .i64 (-((n / 2:Nat):Int) - 1)) (w' :=w1) (by simp only[go_sem];simp[-Int.natCast_ediv,go_sem];rw[i64_xorm _ (by omega)];omega) ?_
  unfold zag at hk
  rw[if_neg h2]at hk
  exact hk
theorem rdrL(W:World){r:Nat}{v:Value}{l:List UInt8}{s:Rs}(h:RdrAt W r v l s):(Instr.loadAt 54 (.pointer (some ⟨r,0,none⟩))).run Tryz.prog W=.ok v W∧(Instr.loadAt 3 (.pointer (some ⟨r,1,none⟩))).run Tryz.prog W=.ok (.int .i64 s.at_) W:=by
 obtain⟨a,c,rfl⟩:=h.rd.isSl
 have hb:=h.blk
 exact⟨by simp[go_sem,hb],by simp[go_sem,hb]⟩
theorem rdrF(i:Nat)(hi:i<3)(W:World){r:Nat}:(Instr.fieldAt 248 (.pointer (some ⟨r,0,none⟩)) i).run Tryz.prog W=.ok (.pointer (some ⟨r,i,none⟩)) W:=by
 have:i=0∨i=1∨i=2:=by omega
 rcases this with rfl|rfl|rfl<;>simp[go_sem]
theorem RdrAt.drew{w:World}{r:Nat}{v:Value}{l:List UInt8}{s:Rs}(h:RdrAt w r v l s):RdrAt w.drew r v l s:=h.mod (Mod.refl (λ_=>False) w).drew id λ_ _ h=>h
set_option maxRecDepth 10000 in
theorem ca_rflag{w:World}{K:Kont}{r:Nat}{v:Value}{l:List UInt8}{s:Rs}(h:RdrAt w r v l s)
  (hK:∀w',RdrAt w' r v l (rsFlag l s).2→Mod (λb=>b=r) w w' →K (.bool (rsFlag l s).1) w'):Ca Tryz.prog 65 #[rptr r] w K:=by
 have hle:=h.le
 have hlen:=h.len
 apply ca65
 unfold F65
 refine ca_off h ?_
 unfold rsFlag at hK
 by_cases he:s.e≠0
 ·rw[ifB_bool,if_pos (by simpa using he)]
  rw[if_pos he]at hK
  exact hK _ h (Mod.refl _ _)
 rw[ifB_bool,if_neg (by simpa using he)]
 rw[if_neg he]at hK
 obtain⟨va,vc,hv⟩:=h.rd.isSl
 have h1:=h.drew
 have m1:Mod (λb=>b=r) w w.drew:=(Mod.refl _ w).drew
 simp only[rptr,nilK_ptr]
 refine rdPS (λW=>rdrF 1 (by omega) W) (rdWS (rdrL _ h1).2 ?_)
 refine rdPS (λW=>rdrF 0 (by omega) W) (rdWS (rdrL _ h1).1 ?_)
 refine rdWS (v:=.int .i64 l.length) (by rw[hv];simp[go_sem]) ?_
 refine rdPS (v:=.bool (decide (s.at_=l.length))) (λW=>by simp[go_sem];rw[Bool.eq_iff_iff];simp;omega) ?_
 by_cases hend:s.at_=l.length
 ·rw[if_pos hend]at hK
  rw[ifB_bool,if_pos (by simpa using hend)]
  obtain⟨hA,hM⟩:=h1.fault 4
  refine rvS (rdrF 2 (by omega) _) (ruS (w' :=w.drew.setCell ⟨r,2,none⟩ (.int .i64 4)) (by simp[go_sem,h1.blk]) ?_)
  exact hK _ hA (m1.trans hM)
 rw[if_neg hend]at hK
 rw[ifB_bool,if_neg (by simpa using hend)]
 have hlt:s.at_<l.length:=by omega
 have h2:=h1.drew
 have m2:Mod (λb=>b=r) w w.drew.drew:=m1.drew
 generalize w.drew.drew=w2 at h2 m2⊢
 obtain⟨b,off,cap,C,e',fz,hve,hcap,hC,hg⟩:=Rd.byte h2.rd hlt hlt
 have hgd:l.getD s.at_ 0=l[s.at_]:=by simp[hlt]
 rw[hgd]at hK
 generalize l[s.at_]=x at hg hK
 refine rdPS (λW=>rdrF 0 (by omega) W) (rdWS (rdrL _ h2).1 ?_)
 refine rdPS (λW=>rdrF 1 (by omega) W) (rdWS (rdrL _ h2).2 ?_)
 have hlt1:¬(l.length:Int)≤(s.at_:Int):=by omega
 refine rdPS (v:=.pointer (some ⟨b,off+s.at_,none⟩)) (λW=>by rw[hve];simp[go_sem,hlt1,hlt,addr_add]) ?_
 refine rdWS (v:=.int .u8 (x.toNat:Int)) (by simp[go_sem,hC,hg]) ?_
 refine rdPS (v:=.bool (decide (1<x.toNat))) (λW=>by simp[go_sem];omega) ?_
 by_cases h1x:1<x.toNat
 ·rw[if_pos h1x]at hK
  rw[ifB_bool,if_pos (by simpa using h1x)]
  obtain⟨hA,hM⟩:=h2.fault 5
  refine rvS (rdrF 2 (by omega) _) (ruS (w' :=w2.setCell ⟨r,2,none⟩ (.int .i64 5)) (by simp[go_sem,h2.blk]) ?_)
  exact hK _ hA (m2.trans hM)
 rw[if_neg h1x]at hK
 rw[ifB_bool,if_neg (by simpa using h1x)]
 refine rvS (rdrF 1 (by omega) _) (rvS (rdrL _ h2).2 ?_)
 refine rvS (v:=.int .i64 ((s.at_+1:Nat):Int)) (w' :=w2) (by simp[go_sem];rw[wrapI (by omega) (by omega)]) ?_
 obtain⟨hA,hM⟩:=h2.go (s.at_+1) (by omega)
 refine rvS (rdrF 1 (by omega) _) (ruS (w' :=w2.setCell ⟨r,1,none⟩ (.int .i64 (s.at_+1:Nat))) (by simp[-Int.natCast_add,go_sem,h2.blk]) ?_)
 have h3:=hA.drew
 have m3:Mod (λb=>b=r) w (w2.setCell ⟨r,1,none⟩ (.int .i64 (s.at_+1:Nat))).drew:=(m2.trans hM).drew
 have hbr:b≠r:=λe=>h2.ne (by rw[hve,←e];exact⟨_,_,_,rfl,by omega,rfl⟩)
 have hC3:hp (w2.setCell ⟨r,1,none⟩ (.int .i64 (s.at_+1:Nat))).drew b=some (.cells C e' fz):=(hM.drew).hpk hC hbr
 generalize(w2.setCell ⟨r,1,none⟩ (.int .i64 (s.at_+1:Nat))).drew=w3 at h3 m3 hC3⊢
 refine rdPS (λW=>rdrF 0 (by omega) W) (rdWS (rdrL _ h3).1 ?_)
 refine rdPS (λW=>rdrF 1 (by omega) W) (rdWS (rdrL _ h3).2 ?_)
 refine rdPS (v:=.int .i64 (s.at_:Int)) (λW=>by simp[go_sem];rw[wrapI (by omega) (by omega)]) ?_
 refine rdPS (v:=.pointer (some ⟨b,off+s.at_,none⟩)) (λW=>by rw[hve];simp[go_sem,hlt1,hlt,addr_add]) ?_
 refine rdWS (v:=.int .u8 (x.toNat:Int)) (by simp[go_sem,hC3,hg]) ?_
 refine rdPS (v:=.bool (decide (x.toNat=1))) (λW=>by simp[go_sem];rw[Bool.eq_iff_iff];simp;omega) ?_
 exact hK _ h3 m3
theorem ca_rfail{w:World}{K:Kont}{r e:Nat}{v:Value}{l:List UInt8}{s:Rs}(h:RdrAt w r v l s)
  (hK:∀w',RdrAt w' r v l (rsFail e s)→Mod (λb=>b=r) w w' →K (.tuple #[]) w'):Ca Tryz.prog 149 #[rptr r,.int .i64 e] w K:=by
 apply ca149
 unfold F149
 refine ca_off h ?_
 refine rvS (v:=.bool (decide (s.e=0))) (w' :=w) (by simp[go_sem]) ?_
 unfold rsFail at hK
 by_cases he:s.e≠0
 ·rw[if_pos he]at hK
  rw[ifB_bool,if_neg (by simpa using he)]
  exact hK _ h (Mod.refl _ _)
 ·rw[if_neg he]at hK
  rw[ifB_bool,if_pos (by simpa using he)]
  simp only[rptr,nilK_ptr]
  obtain⟨hA,hM⟩:=h.fault e
  refine rvS (rdrF 2 (by omega) _) (ruS (w' :=w.setCell ⟨r,2,none⟩ (.int .i64 e)) (by simp[go_sem,h.blk]) ?_)
  exact hK _ hA hM
theorem ca_folded{x:Int}{w:World}{K:Kont}(h:R64' x)(hK:K (.int .u64 (zig x:Int)) w):Ca Tryz.prog 240 #[.int .i64 x] w K:=by
 apply ca240
 unfold F240
 by_cases h0:0≤x
 ·obtain⟨n,rfl⟩:=Int.eq_ofNat_of_zero_le h0
  have hz:zig ((n:Nat):Int)=2*n:=by unfold zig;rw[if_pos h0];simp
  rw[hz]at hK
  refine rvS (v:=.int .u64 (n:Int)) (w' :=w) (by simp[go_sem];rw[wrapU (by omega) (by omega)]) ?_
  refine rvS (v:=.int .u64 ((2*n:Nat):Int)) (w' :=w) (by simp[-Int.natCast_mul,go_sem];rw[wrapU (by omega) (by omega)];omega) ?_
  refine rvS (v:=.int .i64 0) (w' :=w) (by simp[go_sem];omega) ?_
  refine rvS (v:=.int .u64 0) (w' :=w) (by simp[go_sem];decide) ?_
  refine rvS (v:=.int .u64 ((2*n:Nat):Int)) (w' :=w) (by simp only[go_sem];simp[-Int.natCast_mul,go_sem];rw[u64_xor0 _ (by omega)]) ?_
  exact hK
 ·have hz:(zig x:Int)= -2*x - 1:=by unfold zig;rw[if_neg h0];omega
  rw[hz]at hK
  obtain⟨m,hm⟩:∃m:Nat,(m:Int)=18446744073709551616+2*x:=⟨(18446744073709551616+2*x).toNat,by omega⟩
  refine rvS (v:=.int .u64 (18446744073709551616+x)) (w' :=w) (by simp[go_sem];rw[IntKind.wrap_u64];omega) ?_
  refine rvS (v:=.int .u64 (m:Int)) (w' :=w) (by simp[go_sem];rw[IntKind.wrap_u64];omega) ?_
  refine rvS (v:=.int .i64 (-1)) (w' :=w) (by simp[go_sem];omega) ?_
  refine rvS (v:=.int .u64 18446744073709551615) (w' :=w) (by simp[go_sem];decide) ?_
  refine rvS (v:=.int .u64 (-2*x - 1)) (w' :=w) (by simp only[go_sem];simp[go_sem];rw[u64_xorm _ (by omega)];omega) ?_
  exact hK
abbrev OwnB(w:World)(s:Value)(l:List UInt8):Prop:=Own w 5 1 s l.length (bv l)
theorem ca_wnatB{w:World}{K:Kont}{s:Value}{n:Nat}{l:List UInt8}(h:OwnB w s l)(hn:n<18446744073709551616)(hk:l.length≤1000000000)
  (hK:∀s' w',OwnB w' s' (l++natB n)→Mod (inSl s) w w' →(∀b,inSl s' b→inSl s b∨w.heap.size≤b)→K s' w'):Ca Tryz.prog 100 #[s,.int .u64 n] w K:=
 ca_wnat h hn hk λs' w' o m n' =>hK s' w' (by unfold OwnB;rw[List.length_append];exact o) m n'
theorem ca_wint{w:World}{K:Kont}{s:Value}{x:Int}{l:List UInt8}(h:OwnB w s l)(hx:R64' x)(hk:l.length≤1000000000)
  (hK:∀s' w',OwnB w' s' (l++intB x)→Mod (inSl s) w w' →(∀b,inSl s' b→inSl s b∨w.heap.size≤b)→K s' w'):Ca Tryz.prog 154 #[s,.int .i64 x] w K:=by
 apply ca154
 unfold F154
 refine ca_folded hx ?_
 exact ca_wnatB h (zig_lt hx) hk hK
theorem ca_wflag{w:World}{K:Kont}{s:Value}{f:Bool}{l:List UInt8}(h:OwnB w s l)(hk:l.length≤1000000000)
  (hK:∀s' w',OwnB w' s' (l++flagB f)→Mod (inSl s) w w' →(∀b,inSl s' b→inSl s b∨w.heap.size≤b)→K s' w'):Ca Tryz.prog 157 #[s,.bool f] w K:=by
 have push:∀u:UInt8,flagB f=[u]→rx Tryz.prog (xLit tBs 1 [(0,.int .u8 u.toNat)]) w λv1 w2=>rx Tryz.prog (xAppend #[tBs,tBs] tBs [s,v1]) w2 K:=λu hu=>by
  refine litV [u] uBs (elemT_of u8E) rfl rfl (by omega) λv W2 o2 m2 n2=>?_
  refine rx_append (m:=1) uBs uBs (elemT_of u8E) (h.mod m2 λ_ _ h=>h) o2.rd (bv_one _) (by omega) λs3 W3 o3 m3 n3=>?_
  refine hK s3 W3 ?_ ((m2.mono λ_ _ h=>h.elim).trans m3) λb hb=>(n3 b hb).imp id λh=>by have:=m2.size;omega
  rw[hu]
  unfold OwnB
  rw[←bv_append]at o3
  rw[List.length_append]
  exact o3
 apply ca157
 unfold F157
 cases f with
 |true=>rw[ifB_bool,if_pos rfl];exact push 1 rfl
 |false=>rw[ifB_bool,if_neg Bool.false_ne_true];exact push 0 rfl
end Go.Proofs
namespace Go.Proofs
open Go Go.Vc
attribute [local congr] Ca_congV
theorem rsInts_snoc(l:List UInt8):∀(n:Nat) (s:Rs),rsInts l (n+1) s=((rsInts l n s).1++[(rsInt l (rsInts l n s).2).1],(rsInt l (rsInts l n s).2).2)
 |0,s=>rfl
 |n+1,s=>by
  have ih:=rsInts_snoc l n (rsInt l s).2
  have e:rsInts l (n+1+1) s=((rsInt l s).1::(rsInts l (n+1) (rsInt l s).2).1,(rsInts l (n+1) (rsInt l s).2).2):=rfl
  rw[e,ih]
  rfl
theorem rsNum_fit(l:List UInt8)(most:Nat)(s:Rs):0≤(rsNum l most s).1∧(rsNum l most s).1≤most:=by
 have:=rsSmall_most (l:=l) (most:=most) (s:=s)
 unfold rsNum
 simp only
 omega
theorem rsInt_fit(l:List UInt8)(s:Rs):R64' (rsInt l s).1:=by
 have:=rsSmall_most (l:=l) (most:=18446744073709551615) (s:=s)
 exact zag_fit (by omega)
theorem rsInts_fit(l:List UInt8):∀(n:Nat) (s:Rs),∀x∈(rsInts l n s).1,R64' x
 |0,s,x,hx=>by cases hx
 |n+1,s,x,hx=>by
  rcases List.mem_cons.1 hx with rfl|hx
  ·exact rsInt_fit l s
  ·exact rsInts_fit l n _ x hx
theorem num_u32(l:List UInt8)(s:Rs):U32' (rsNum l W32 s).1:=by
 have:=rsNum_fit l W32 s
 unfold W32 at*
 exact⟨this.1,by omega⟩
theorem num_r64(l:List UInt8)(s:Rs):R64' (rsNum l W63 s).1:=by
 have:=rsNum_fit l W63 s
 unfold W63 at*
 constructor<;>omega
theorem num_u64(l:List UInt8)(s:Rs):U64' (rsNum l W64 s).1:=by
 have:=rsNum_fit l W64 s
 unfold W64 at*
 exact⟨this.1,by omega⟩
theorem num_u8(l:List UInt8)(s:Rs):0≤(rsNum l 255 s).1∧(rsNum l 255 s).1<256:=by
 have:=rsNum_fit l 255 s
 omega
theorem rsSp0_fit(l:List UInt8)(s:Rs):(rsSp0 l s).1.Fit:=
 ⟨num_u32 ..,num_u8 ..,num_r64 ..,num_r64 ..,num_r64 ..,num_r64 ..,λx hx=>rsInts_fit l 16 _ x (by simpa [rsSp0]using hx),num_r64 ..,num_u32 ..,num_r64 ..⟩
theorem zSp_fit:zSp.Fit:=by
 refine⟨?_,?_,?_,?_,?_,?_,λx hx=>?_,?_,?_,?_⟩
 all_goals first|(have:x=0:=(by simpa [zSp]using hx);rw[this];decide)|decide
theorem rsSp_fit(l:List UInt8)(s:Rs):(rsSp l s).1.Fit:=by
 unfold rsSp
 split
 ·exact rsSp0_fit l s
 ·exact zSp_fit
def spL(a b t lo bd li:Int)(sh:List Value)(c la f:Int):List Value:=[.int .u32 a,.int .u8 b,.int .i64 t,.int .i64 lo,.int .i64 bd,.int .i64 li]++(sh++[.int .i64 c,.int .u32 la,.int .i64 f])
theorem spC_L(s:Sp):spC s=spL s.num s.route s.tick s.lot s.band s.limit (shC s.shifts) s.credit s.last s.first:=rfl
theorem zeroSp0:zeroC Tryz.prog 38=spC zSp:=by kernel_rfl
theorem hzSp:hasZero Tryz.prog 38=true:=by kernel_rfl
theorem builtSpA(a b:Int):Tryz.prog.built 38 [(0,.int .u32 a),(1,.int .u8 b)]=some (spC {zSp with num:=a,route:=b}).toArray:=by
 have h1:∀parts,Tryz.prog.built 38 parts=Instr.fill (λi=>#[(0,1),(1,1),(2,1),(3,1),(4,1),(5,1),(6,16),(22,1),(23,1),(24,1)][i]?) (zeroC Tryz.prog 38).toArray parts:=λparts=>by kernel_rfl
 rw[h1,zeroSp0]
 rw[fill_part (off:=0) (size:=1) rfl rfl (by rw[spC_len];omega),fill_part (off:=1) (size:=1) rfl rfl (by have:(Value.int .u32 a).cells.size=1:=rfl;simp[spC_len,lay];omega),fill_nil]
 rfl
theorem builtSpZ:Tryz.prog.built 38 []=some (spC zSp).toArray:=by kernel_rfl
theorem uPt:Tryz.prog.underlying 252=some (.slice 251):=by kernel_rfl
theorem ePt:elemOk Tryz.prog 251 1 8=true:=by kernel_rfl
abbrev tSpec:TypeId:=38
abbrev SpAt(W:World)(p:Nat)(C:List Value):Prop:=hp W p=some (.cells C.toArray tSpec (0,0))
theorem stI{W:World}{p i:Nat}{C C' :List Value}{y x:Int}(h:SpAt W p C)(hg:C[i]? =some (.int .i64 y))(hs:C.set i (.int .i64 x)=C'):
  ∃W',(Instr.storeAt 2 (.pointer (some ⟨p,i,none⟩)) (.int .i64 x)).run Tryz.prog W=.ok () W' ∧SpAt W' p C' ∧Mod (λb=>b=p) W W' :=
 ⟨W.setCell ⟨p,i,none⟩ (.int .i64 x),by simp[go_sem,h,hg],by rw[←hs];show hp _ _=_;simp[go_sem,h],(Mod.refl (λb=>b=p) W).setCell (.inl rfl) _ _⟩
theorem stU32{W:World}{p i:Nat}{C C' :List Value}{y x:Int}(h:SpAt W p C)(hg:C[i]? =some (.int .u32 y))(hs:C.set i (.int .u32 x)=C'):
  ∃W',(Instr.storeAt 35 (.pointer (some ⟨p,i,none⟩)) (.int .u32 x)).run Tryz.prog W=.ok () W' ∧SpAt W' p C' ∧Mod (λb=>b=p) W W' :=
 ⟨W.setCell ⟨p,i,none⟩ (.int .u32 x),by simp[go_sem,h,hg],by rw[←hs];show hp _ _=_;simp[go_sem,h],(Mod.refl (λb=>b=p) W).setCell (.inl rfl) _ _⟩
def shL(xs:List Int)(k:Nat):List Value:=xs.map (λn=>.int .i64 n)++List.replicate (16 - k) (.int .i64 0)
theorem shL_len{xs:List Int}{k:Nat}(h:xs.length=k)(hk:k≤16):(shL xs k).length=16:=by simp[shL,h];omega
theorem shL_get{xs:List Int}{k:Nat}(h:xs.length=k)(hk:k<16):(shL xs k)[k]? =some (.int .i64 0):=by
 unfold shL
 rw[List.getElem?_append_right (by simp[h])]
 simp only[List.length_map,h,Nat.sub_self]
 rw[List.getElem?_replicate,if_pos (by omega)]
theorem shL_set{xs:List Int}{k:Nat}(h:xs.length=k)(hk:k<16)(x:Int):(shL xs k).set k (.int .i64 x)=shL (xs++[x]) (k+1):=by
 unfold shL
 rw[List.set_append_right _ _ (by simp[h]),show 16 - k=(16 - (k+1))+1 by omega,List.replicate_succ]
 simp[h]
theorem spL_getS{a b t lo bd li c la f:Int}{sh:List Value}{k:Nat}(hl:sh.length=16)(hk:k<16):(spL a b t lo bd li sh c la f)[6+k]? =sh[k]? :=by
 unfold spL
 rw[List.getElem?_append_right (by simp),List.getElem?_append_left (by simp;omega)]
 congr 1;simp
theorem spL_setS{a b t lo bd li c la f:Int}{sh:List Value}{k:Nat}(hl:sh.length=16)(hk:k<16)(x:Value):(spL a b t lo bd li sh c la f).set (6+k) x=spL a b t lo bd li (sh.set k x) c la f:=by
 unfold spL
 rw[List.set_append_right _ _ (by simp),List.set_append_left _ _ (by simp;omega)]
 congr 3;simp
theorem spL_getE{a b t lo bd li c la f:Int}{sh:List Value}{k:Nat}(hl:sh.length=16):(spL a b t lo bd li sh c la f)[22+k]? =([.int .i64 c,.int .u32 la,.int .i64 f]:List Value)[k]? :=by
 unfold spL
 rw[List.getElem?_append_right (by simp;omega),List.getElem?_append_right (by simp;omega)]
 congr 1;simp[hl];omega
theorem spL_setE{a b t lo bd li c la f:Int}{sh:List Value}{k:Nat}(hl:sh.length=16)(x:Value):(spL a b t lo bd li sh c la f).set (22+k) x=[.int .u32 a,.int .u8 b,.int .i64 t,.int .i64 lo,.int .i64 bd,.int .i64 li]++(sh++([.int .i64 c,.int .u32 la,.int .i64 f]:List Value).set k x):=by
 unfold spL
 rw[List.set_append_right _ _ (by simp;omega),List.set_append_right _ _ (by simp;omega)]
 congr 3;simp[hl];omega
section
attribute [local irreducible] rsNum rsInts
theorem sp0_of{l:List UInt8}{s:Rs}{x1 x2 y0 y1 y2 y3 ya yb yc:Int×Rs}{g:List Int×Rs}(h1:x1=rsNum l W32 s)(h2:x2=rsNum l 255 x1.2)(h3:y0=rsNum l W63 x2.2)(h4:y1=rsNum l W63 y0.2)(h5:y2=rsNum l W63 y1.2)(h6:y3=rsNum l W63 y2.2)
  (hg:g=rsInts l 16 y3.2)(ha:ya=rsNum l W63 g.2)(hb:yb=rsNum l W32 ya.2)(hc:yc=rsNum l W63 yb.2):
  (rsSp0 l s).2=yc.2∧spL x1.1 x2.1 y0.1 y1.1 y2.1 y3.1 (shL g.1 16) ya.1 yb.1 yc.1=spC (rsSp0 l s).1:=by
 subst h1 h2 h3 h4 h5 h6 hg ha hb hc
 rw[spC_L]
 unfold rsSp0 shC shL
 simp
end
set_option maxRecDepth 10000 in
set_option maxHeartbeats 4000000 in
theorem ca_take{w:World}{K:Kont}{r:Nat}{v:Value}{l:List UInt8}{s:Rs}(h:RdrAt w r v l s)
  (hK:∀w',RdrAt w' r v l (rsSp l s).2→Mod (λb=>b=r) w w' →K (.agg (spC (rsSp l s).1).toArray) w'):Ca Tryz.prog 68 #[rptr r] w K:=by
 apply ca68
 unfold F68
 have hrl:=h.lt
 have hvl:∀b,inRd v b→b<w.heap.size:=λb hb=>h.rd.lt hb
 refine rx_bigA hzSp ?_
 rw[zeroSp0]
 obtain⟨z,hz⟩:∃z,z=w.heap.size:=⟨_,rfl⟩
 have m1:Mod (λ_=>False) w (w.alloc (.cells (spC zSp).toArray tSpec)):=(Mod.refl _ w).alloc _
 have b1:SpAt (w.alloc (.cells (spC zSp).toArray tSpec)) z (spC zSp):=by show hp _ _=_;rw[hz];simp[go_sem]
 rw[←hz]
 generalize w.alloc (.cells (spC zSp).toArray tSpec)=w1 at m1 b1⊢
 have r1:=h.mod m1 id λ_ _ h=>h
 refine ca_small r1 (most:=4294967295) (by omega) λw2 r2 m2=>?_
 have hz1:=lt_of_heap b1
 have b2:=m2.hpk b1 (by omega)
 have n1:=num_u32 l s
 obtain⟨x1,hx1⟩:∃x1,x1=rsNum l W32 s:=⟨_,rfl⟩
 have e1:(((rsSmall l 4294967295 s).1:Nat):Int)=x1.1∧(rsSmall l 4294967295 s).2=x1.2:=by rw[hx1];exact⟨rfl,rfl⟩
 rw[e1.1]
 rw[e1.2]at r2
 rw[←hx1]at n1
 refine rvS (v:=.int .u32 x1.1) (w' :=w2) (by simp[go_sem];rw[IntKind.wrap_u32'];omega) ?_
 refine ca_small r2 (most:=255) (by omega) λw3 r3 m3=>?_
 have b3:=m3.hpk b2 (by omega)
 have n2:=num_u8 l x1.2
 obtain⟨x2,hx2⟩:∃x2,x2=rsNum l 255 x1.2:=⟨_,rfl⟩
 have e2:(((rsSmall l 255 x1.2).1:Nat):Int)=x2.1∧(rsSmall l 255 x1.2).2=x2.2:=by rw[hx2];exact⟨rfl,rfl⟩
 rw[e2.1]
 rw[e2.2]at r3
 rw[←hx2]at n2
 refine rvS (v:=.int .u8 x2.1) (w' :=w3) (by simp[go_sem];rw[IntKind.wrap_u8'];omega) ?_
 refine rx_bigB (builtSpA x1.1 x2.1) ?_
 refine rx_bigA hzSp ?_
 rw[zeroSp0]
 obtain⟨p,hp0⟩:∃p,p=w3.heap.size:=⟨_,rfl⟩
 have m4:Mod (λ_=>False) w3 (w3.alloc (.cells (spC zSp).toArray tSpec)):=(Mod.refl _ w3).alloc _
 have b4:SpAt (w3.alloc (.cells (spC zSp).toArray tSpec)) p (spC zSp):=by show hp _ _=_;rw[hp0];simp[go_sem]
 rw[←hp0]
 generalize w3.alloc (.cells (spC zSp).toArray tSpec)=w4 at m4 b4⊢
 have r4:=r3.mod m4 id λ_ _ h=>h
 have z4:=m4.hpk b3 id
 have hz2:=m2.size
 have hz3:=m3.size
 have hzp:z<p:=by omega
 have hh:w4.heap[p]? =some (.cells (spC zSp).toArray tSpec (0,0)):=b4
 refine rux_bigU nSp (spC_len {zSp with num:=x1.1,route:=x2.1}) hh (by rw[List.size_toArray,spC_len,spC_len];omega) (spC_one _) ?_
 have e5:lay (spC zSp).toArray.toList 0 (spC {zSp with num:=x1.1,route:=x2.1})=spC {zSp with num:=x1.1,route:=x2.1}:=lay_all (by rw[spC_len];simp[spC_len])
 rw[e5]
 have m5:Mod (λb=>b=p) w4 (w4.setRow p (spC {zSp with num:=x1.1,route:=x2.1}).toArray):=(Mod.refl (λb=>b=p) w4).setRow (.inl rfl) _
 have b5:SpAt (w4.setRow p (spC {zSp with num:=x1.1,route:=x2.1}).toArray) p (spL x1.1 x2.1 0 0 0 0 (shL [] 0) 0 0 0):=by
  show(w4.setRow p _).heap[p]? =_
  rw[heap_setRow,if_pos rfl,hh]
  rfl
 generalize w4.setRow p (spC {zSp with num:=x1.1,route:=x2.1}).toArray=w5 at m5 b5⊢
 have r5:=r4.mod m5 (by omega) λb hb e=>by have:=hvl b hb;omega
 have z5:=m5.hpk z4 (by omega)
 have M5:Mod (λb=>b=r) w w5:=(((m1.mono (G:=λb=>b=r) λ_ _ h=>h.elim).trans (m2.trans m3)).on m4 λ_ h=>h.elim).on m5 λb hb=>.inr (by omega)
 refine rvS (v:=.pointer (some ⟨p,2,none⟩)) (w' :=w5) (by simp[go_sem]) ?_
 refine rvS (v:=.pointer (some ⟨p,3,none⟩)) (w' :=w5) (by simp[go_sem]) ?_
 refine rvS (v:=.pointer (some ⟨p,4,none⟩)) (w' :=w5) (by simp[go_sem]) ?_
 refine rvS (v:=.pointer (some ⟨p,5,none⟩)) (w' :=w5) (by simp[go_sem]) ?_
 refine rx_lit [.pointer (some ⟨p,2,none⟩),.pointer (some ⟨p,3,none⟩),.pointer (some ⟨p,4,none⟩),.pointer (some ⟨p,5,none⟩)] uPt (elemT_of ePt) rfl rfl (by intro x hx;simp at hx;rcases hx with rfl|rfl|rfl|rfl<;>rfl) (by omega) ?_
 have e6:(([.pointer (some ⟨p,2,none⟩),.pointer (some ⟨p,3,none⟩),.pointer (some ⟨p,4,none⟩),.pointer (some ⟨p,5,none⟩)]:List Value).flatMap (·.cells.toList)).toArray= #[.pointer (some ⟨p,2,none⟩),.pointer (some ⟨p,3,none⟩),.pointer (some ⟨p,4,none⟩),.pointer (some ⟨p,5,none⟩)]:=rfl
 rw[e6]
 obtain⟨q,hq⟩:∃q,q=w5.heap.size:=⟨_,rfl⟩
 have m6:Mod (λ_=>False) w5 (w5.alloc (.cells #[.pointer (some ⟨p,2,none⟩),.pointer (some ⟨p,3,none⟩),.pointer (some ⟨p,4,none⟩),.pointer (some ⟨p,5,none⟩)] 251)):=(Mod.refl _ _).alloc _
 have q6:hp (w5.alloc (.cells #[.pointer (some ⟨p,2,none⟩),.pointer (some ⟨p,3,none⟩),.pointer (some ⟨p,4,none⟩),.pointer (some ⟨p,5,none⟩)] 251)) q=some (.cells #[.pointer (some ⟨p,2,none⟩),.pointer (some ⟨p,3,none⟩),.pointer (some ⟨p,4,none⟩),.pointer (some ⟨p,5,none⟩)] 251 (0,0)):=by rw[hq];simp[go_sem]
 rw[←hq]
 generalize w5.alloc (.cells #[.pointer (some ⟨p,2,none⟩),.pointer (some ⟨p,3,none⟩),.pointer (some ⟨p,4,none⟩),.pointer (some ⟨p,5,none⟩)] 251)=w6 at m6 q6⊢
 have r6:=r5.mod m6 id λ_ _ h=>h
 have b6:=m6.hpk b5 id
 have z6:=m6.hpk z5 id
 have M6:=M5.on m6 λ_ h=>h.elim
 have hpq:p<q:=by have:=lt_of_heap b5;omega
 refine rnS (v:=.int .i64 ((4:Nat):Int)) (w' :=w6) (by simp[go_sem]) ?_
 obtain⟨S,hS⟩:∃S:Nat→Rs,S=λk=>Nat.rec x2.2 (λ_ t=>(rsNum l W63 t).2) k:=⟨_,rfl⟩
 have hS0:S 0=x2.2:=by subst hS;rfl
 have hSs:∀k,S (k+1)=(rsNum l W63 (S k)).2:=λk=>by subst hS;rfl
 obtain⟨g,hg⟩:∃g:Nat→Nat→Int,g=λk i=>if k<i then(rsNum l W63 (S k)).1 else 0:=⟨_,rfl⟩
 have g0:∀k,g k 0=0:=λk=>by rw[hg];rfl
 have gK:∀k i,k<i→g k i=(rsNum l W63 (S k)).1:=λk i h=>by rw[hg];exact if_pos h
 have gN:∀k i,¬k<i→g k i=0:=λk i h=>by rw[hg];exact if_neg h
 have keepR:∀{W W' :World},Mod (λb=>b=r∨b=p) W W' →Mod (λb=>b=r) w W→Mod (λb=>b=r) w W' :=λm M=>M.on m λb hb=>hb.elim .inl λhb=>.inr (by omega)
 refine loopV (λst W=>∃i:Nat,i≤4∧st=(.int .i64 i,())∧RdrAt W r v l (S i)∧SpAt W p (spL x1.1 x2.1 (g 0 i) (g 1 i) (g 2 i) (g 3 i) (shL [] 0) 0 0 0)∧Mod (λb=>b=r∨b=p) w6 W)
  (λst _=>match st.1 with| .int _ i=>4 - i.toNat|_=>0) ⟨0,by omega,rfl,by rw[hS0];exact r6,by rw[g0,g0,g0,g0];exact b6,Mod.refl _ _⟩ ?_
 rintro⟨_,_⟩ W ⟨i,hi,⟨⟩,rW,bW,mW⟩ KN hKN
 unfold L68_1
 intro _
 refine rvS (ltIg _ 4 _) ?_
 by_cases hlt:i<4
 ·rw[ifB_bool,if_pos (by simpa using hlt)]
  have qW:=mW.hpk q6 (by omega)
  have hlt' :¬(4:Int)≤(i:Int):=by omega
  refine rvS (v:=.pointer (some ⟨q,i,none⟩)) (w' :=W) (by simp[go_sem,hlt',addr_add]<;>omega) ?_
  refine rvS (v:=.pointer (some ⟨p,2+i,none⟩)) (w' :=W) (by rcases(show i=0∨i=1∨i=2∨i=3 by omega)with rfl|rfl|rfl|rfl<;>simp[go_sem,qW]) ?_
  refine ca_small rW (most:=9223372036854775807) (by omega) λW1 rW1 mW1=>?_
  have nb:=num_r64 l (S i)
  have ex:(((rsSmall l 9223372036854775807 (S i)).1:Nat):Int)=(rsNum l W63 (S i)).1∧(rsSmall l 9223372036854775807 (S i)).2=S (i+1):=by rw[hSs];exact⟨rfl,rfl⟩
  have n0:=(rsNum_fit l W63 (S i)).1
  rw[ex.1]
  rw[ex.2]at rW1
  obtain⟨y,hy⟩:∃y,y=(rsNum l W63 (S i)).1:=⟨_,rfl⟩
  rw[←hy]at nb n0⊢
  refine rvS (v:=.int .i64 y) (w' :=W1) (by simp[go_sem];rw[wrapI (by omega) (by omega)]) ?_
  rw[nilK_ptr]
  have bW1:=mW1.hpk bW (by omega)
  have hset:∃C',(spL x1.1 x2.1 (g 0 i) (g 1 i) (g 2 i) (g 3 i) (shL [] 0) 0 0 0).set (2+i) (.int .i64 y)=C' ∧C' =spL x1.1 x2.1 (g 0 (i+1)) (g 1 (i+1)) (g 2 (i+1)) (g 3 (i+1)) (shL [] 0) 0 0 0∧∃o,(spL x1.1 x2.1 (g 0 i) (g 1 i) (g 2 i) (g 3 i) (shL [] 0) 0 0 0)[2+i]? =some (.int .i64 o):=by
   rcases(show i=0∨i=1∨i=2∨i=3 by omega)with rfl|rfl|rfl|rfl
   ·exact⟨_,rfl,by rw[gK 0 1 (by omega),←hy,gN 1 1 (by omega),gN 2 1 (by omega),gN 3 1 (by omega),g0,g0,g0,g0];rfl,_,rfl⟩
   ·exact⟨_,rfl,by rw[gK 0 2 (by omega),gK 1 2 (by omega),←hy,gN 2 2 (by omega),gN 3 2 (by omega),gK 0 1 (by omega),gN 1 1 (by omega),gN 2 1 (by omega),gN 3 1 (by omega)];rfl,_,rfl⟩
   ·exact⟨_,rfl,by rw[gK 0 3 (by omega),gK 1 3 (by omega),gK 2 3 (by omega),←hy,gN 3 3 (by omega),gK 0 2 (by omega),gK 1 2 (by omega),gN 2 2 (by omega),gN 3 2 (by omega)];rfl,_,rfl⟩
   ·exact⟨_,rfl,by rw[gK 0 4 (by omega),gK 1 4 (by omega),gK 2 4 (by omega),gK 3 4 (by omega),←hy,gK 0 3 (by omega),gK 1 3 (by omega),gK 2 3 (by omega),gN 3 3 (by omega)];rfl,_,rfl⟩
  obtain⟨C',hs1,hs2,o,hgo⟩:=hset
  obtain⟨W2,e2',bW2,mW2⟩:=stI bW1 hgo hs1
  refine ruS e2' ?_
  refine rvS (addI (by omega) _) ?_
  refine hKN _ _ ⟨i+1,by omega,rfl,rW1.mod mW2 (by omega) λb hb e=>by have:=hvl b hb;omega,by rw[←hs2];exact bW2,(mW.trans (mW1.mono λ_ _ h=>.inl h)).trans (mW2.mono λ_ _ h=>.inr h)⟩ (by show 4 - (i+1)<4 - i;omega)
 obtain rfl:i=4:=by omega
 rw[ifB_bool,if_neg (by simp)]
 clear hKN
 rw[gK 0 4 (by omega),gK 1 4 (by omega),gK 2 4 (by omega),gK 3 4 (by omega)]at bW
 have MW:=keepR mW M6
 have zW:=mW.hpk z6 (by omega)
 obtain⟨G,hG⟩:∃G:List Int→Int→Int→Int→Nat→List Value,G=λxs c la f k=>spL x1.1 x2.1 (rsNum l W63 (S 0)).1 (rsNum l W63 (S 1)).1 (rsNum l W63 (S 2)).1 (rsNum l W63 (S 3)).1 (shL xs k) c la f:=⟨_,rfl⟩
 have hGe:∀xs c la f k,spL x1.1 x2.1 (rsNum l W63 (S 0)).1 (rsNum l W63 (S 1)).1 (rsNum l W63 (S 2)).1 (rsNum l W63 (S 3)).1 (shL xs k) c la f=G xs c la f k:=λxs c la f k=>by rw[hG]
 rw[hGe]at bW
 refine loopV (λst X=>∃k:Nat,k≤16∧st=(.int .i64 k,())∧RdrAt X r v l (rsInts l k (S 4)).2∧SpAt X p (G (rsInts l k (S 4)).1 0 0 0 k)∧Mod (λb=>b=r∨b=p) W X)
  (λst _=>match st.1 with| .int _ i=>16 - i.toNat|_=>0) ⟨0,by omega,rfl,rW,bW,Mod.refl _ _⟩ ?_
 rintro⟨_,_⟩ X ⟨k,hk,⟨⟩,rX,bX,mX⟩ KN2 hKN2
 unfold L68_0
 intro _
 have hkl:=rsInts_len l k (S 4)
 refine rvS (v:=.bool (decide (k<16))) (w' :=X) (by simp[go_sem];omega) ?_
 by_cases hlt2:k<16
 ·rw[ifB_bool,if_pos (by simpa using hlt2)]
  refine ca_rint rX λX1 rX1 mX1=>?_
  have hsn:=rsInts_snoc l k (S 4)
  have hfi:=rsInt_fit l (rsInts l k (S 4)).2
  have e7:(rsInt l (rsInts l k (S 4)).2).2=(rsInts l (k+1) (S 4)).2:=by rw[hsn]
  rw[e7]at rX1
  have bX1:=mX1.hpk bX (by omega)
  refine rvS (v:=.pointer (some ⟨p,6,none⟩)) (w' :=X1) (by simp[go_sem]) ?_
  have hlt3:¬(16:Int)≤(k:Int):=by omega
  refine rvS (v:=.pointer (some ⟨p,6+k,none⟩)) (w' :=X1) (by simp[go_sem,hlt2,hlt3,addr_add]<;>omega) ?_
  have hgk:(G (rsInts l k (S 4)).1 0 0 0 k)[6+k]? =some (.int .i64 0):=by
   rw[←hGe,spL_getS (shL_len hkl (by omega)) hlt2,shL_get hkl hlt2]
  obtain⟨X2,e8,bX2,mX2⟩:=stI (x:=(rsInt l (rsInts l k (S 4)).2).1) bX1 hgk rfl
  refine ruS e8 ?_
  refine rvS (addI (by omega) _) ?_
  refine hKN2 _ _ ⟨k+1,by omega,rfl,rX1.mod mX2 (by omega) λb hb e=>by have:=hvl b hb;omega,?_,(mX.trans (mX1.mono λ_ _ h=>.inl h)).trans (mX2.mono λ_ _ h=>.inr h)⟩ (by show 16 - (k+1)<16 - k;omega)
  rw[←hGe,spL_setS (shL_len hkl (by omega)) hlt2,shL_set hkl hlt2]at bX2
  rw[hsn,←hGe]
  exact bX2
 obtain rfl:k=16:=by omega
 rw[ifB_bool,if_neg (by simp)]
 clear hKN2
 have MX:=keepR mX MW
 have zX:=mX.hpk zW (by omega)
 have hl16:=shL_len hkl (by omega)
 obtain⟨xs,hxs⟩:∃xs,xs=(rsInts l 16 (S 4)).1:=⟨_,rfl⟩
 obtain⟨T,hT⟩:∃T,T=(rsInts l 16 (S 4)).2:=⟨_,rfl⟩
 rw[←hxs]at hkl hl16 bX
 rw[←hT]at rX
 have gE:∀c la f k,(G xs c la f 16)[22+k]? =([.int .i64 c,.int .u32 la,.int .i64 f]:List Value)[k]? :=λc la f k=>by rw[←hGe];exact spL_getE hl16
 have sE:∀c la f k x,(G xs c la f 16).set (22+k) x=[.int .u32 x1.1,.int .u8 x2.1,.int .i64 (rsNum l W63 (S 0)).1,.int .i64 (rsNum l W63 (S 1)).1,.int .i64 (rsNum l W63 (S 2)).1,.int .i64 (rsNum l W63 (S 3)).1]++(shL xs 16++([.int .i64 c,.int .u32 la,.int .i64 f]:List Value).set k x):=λc la f k x=>by rw[←hGe];exact spL_setE hl16 x
 have hvr:∀{X X' :World} {t:Rs},RdrAt X r v l t→Mod (λb=>b=p) X X' →RdrAt X' r v l t:=λh m=>h.mod m (by omega) λb hb e=>by have:=hvl b hb;omega
 refine ca_small rX (most:=9223372036854775807) (by omega) λX1 rX1 mX1=>?_
 have nA:=num_r64 l T
 have nA0:=(rsNum_fit l W63 T).1
 obtain⟨ya,hya⟩:∃y,y=rsNum l W63 T:=⟨_,rfl⟩
 have exA:(((rsSmall l 9223372036854775807 T).1:Nat):Int)=ya.1∧(rsSmall l 9223372036854775807 T).2=ya.2:=by rw[hya];exact⟨rfl,rfl⟩
 rw[exA.1]
 rw[exA.2]at rX1
 rw[←hya]at nA nA0
 refine rvS (v:=.int .i64 ya.1) (w' :=X1) (by simp[go_sem];rw[wrapI (by omega) (by omega)]) ?_
 refine rvS (v:=.pointer (some ⟨p,22+0,none⟩)) (w' :=X1) (by simp[go_sem]) ?_
 obtain⟨X2,f2,bX2,mX2⟩:=stI (x:=ya.1) (mX1.hpk bX (by omega)) (gE 0 0 0 0) (C' :=G xs ya.1 0 0 16) ((sE 0 0 0 0 _).trans (by rw[←hGe];rfl))
 refine ruS f2 ?_
 have rX2:=hvr rX1 mX2
 refine ca_small rX2 (most:=4294967295) (by omega) λX3 rX3 mX3=>?_
 have nB:=num_u32 l ya.2
 obtain⟨yb,hyb⟩:∃y,y=rsNum l W32 ya.2:=⟨_,rfl⟩
 have exB:(((rsSmall l 4294967295 ya.2).1:Nat):Int)=yb.1∧(rsSmall l 4294967295 ya.2).2=yb.2:=by rw[hyb];exact⟨rfl,rfl⟩
 rw[exB.1]
 rw[exB.2]at rX3
 rw[←hyb]at nB
 refine rvS (v:=.int .u32 yb.1) (w' :=X3) (by simp[go_sem];rw[IntKind.wrap_u32'];omega) ?_
 refine rvS (v:=.pointer (some ⟨p,22+1,none⟩)) (w' :=X3) (by simp[go_sem]) ?_
 obtain⟨X4,f4,bX4,mX4⟩:=stU32 (x:=yb.1) (mX3.hpk bX2 (by omega)) (gE ya.1 0 0 1) (C' :=G xs ya.1 yb.1 0 16) ((sE _ _ _ 1 _).trans (by rw[←hGe];rfl))
 refine ruS f4 ?_
 have rX4:=hvr rX3 mX4
 refine ca_small rX4 (most:=9223372036854775807) (by omega) λX5 rX5 mX5=>?_
 have nC:=num_r64 l yb.2
 have nC0:=(rsNum_fit l W63 yb.2).1
 obtain⟨yc,hyc⟩:∃y,y=rsNum l W63 yb.2:=⟨_,rfl⟩
 have exC:(((rsSmall l 9223372036854775807 yb.2).1:Nat):Int)=yc.1∧(rsSmall l 9223372036854775807 yb.2).2=yc.2:=by rw[hyc];exact⟨rfl,rfl⟩
 rw[exC.1]
 rw[exC.2]at rX5
 rw[←hyc]at nC nC0
 refine rvS (v:=.int .i64 yc.1) (w' :=X5) (by simp[go_sem];rw[wrapI (by omega) (by omega)]) ?_
 refine rvS (v:=.pointer (some ⟨p,22+2,none⟩)) (w' :=X5) (by simp[go_sem]) ?_
 obtain⟨X6,f6,bX6,mX6⟩:=stI (x:=yc.1) (mX5.hpk bX4 (by omega)) (gE ya.1 yb.1 0 2) (C' :=G xs ya.1 yb.1 yc.1 16) ((sE _ _ _ 2 _).trans (by rw[←hGe];rfl))
 refine ruS f6 ?_
 have rX6:=hvr rX5 mX6
 have MX6:Mod (λb=>b=r) w X6:=keepR ((((((mX1.mono λ_ _ h=>.inl h).trans (mX2.mono λ_ _ h=>.inr h)).trans (mX3.mono λ_ _ h=>.inl h)).trans (mX4.mono λ_ _ h=>.inr h)).trans (mX5.mono λ_ _ h=>.inl h)).trans (mX6.mono λ_ _ h=>.inr h)) MX
 have zX6:=mX6.hpk (mX5.hpk (mX4.hpk (mX3.hpk (mX2.hpk (mX1.hpk zX (by omega)) (by omega)) (by omega)) (by omega)) (by omega)) (by omega)
 have hsp:(rsSp0 l s).2=yc.2∧G xs ya.1 yb.1 yc.1 16=spC (rsSp0 l s).1:=by
  rw[←hGe]
  have hS1:S 1=(rsNum l W63 (S 0)).2:=hSs 0
  have hS2:S 2=(rsNum l W63 (S 1)).2:=hSs 1
  have hS3:S 3=(rsNum l W63 (S 2)).2:=hSs 2
  have hS4:S 4=(rsNum l W63 (S 3)).2:=hSs 3
  rw[hxs]
  exact sp0_of hx1 hx2 (by rw[hS0]) (by rw[hS1]) (by rw[hS2]) (by rw[hS3]) (by rw[hS4]) (by rw[hya,hT]) hyb hyc
 obtain⟨Z,hZ⟩:∃Z,Z=rsSp0 l s:=⟨_,rfl⟩
 have hzf:Z.1.Fit:=by rw[hZ];exact rsSp0_fit l s
 rw[←hZ]at hsp
 rw[hsp.2]at bX6
 rw[←hsp.1]at rX6
 have hk:=hK
 unfold rsSp at hk
 rw[←hZ]at hk
 refine rx_bigS (spC Z.1) 24 aSp nSp (spC_len _) (At.all bX6) ?_
 refine ca_smayS hzf λX7 mX7=>?_
 refine rvS (v:=.bool (!Z.1.may)) (w' :=X7) (by simp[go_sem]) ?_
 have rX7:=rX6.mod mX7 id λ_ _ h=>h
 have bX7:=mX7.hpk bX6 id
 have zX7:=mX7.hpk zX6 id
 have MX7:=MX6.on mX7 λ_ h=>h.elim
 have fin:∀(X8:World) (t:Sp) (rs:Rs),RdrAt X8 r v l rs→Mod (λb=>b=r) w X8→SpAt X8 z (spC zSp)→(∀w',RdrAt w' r v l rs→Mod (λb=>b=r) w w' →K (.agg (spC t).toArray) w')→
   rux Tryz.prog (bigU tSpec (.pointer (some ⟨z,0,none⟩)) (.agg (spC t).toArray)) X8 λw9=>rdX Tryz.prog (bigS tSpec (.pointer (some ⟨z,0,none⟩))) w9 λv9=>K v9 w9:=by
  intro X8 t rs hr hm hb hk
  have hh:X8.heap[z]? =some (.cells (spC zSp).toArray tSpec (0,0)):=hb
  refine rux_bigU nSp (spC_len t) hh (by rw[List.size_toArray,spC_len,spC_len];omega) (spC_one _) ?_
  have e5:lay (spC zSp).toArray.toList 0 (spC t)=spC t:=lay_all (by rw[spC_len];simp[spC_len])
  rw[e5]
  have m9:Mod (λb=>b=z) X8 (X8.setRow z (spC t).toArray):=(Mod.refl (λb=>b=z) X8).setRow (.inl rfl) _
  have b9:SpAt (X8.setRow z (spC t).toArray) z (spC t):=by
   show(X8.setRow z _).heap[z]? =_
   rw[heap_setRow,if_pos rfl,hh]
  refine rdX_bigS (spC t) 24 aSp nSp (spC_len _) (At.all b9) ?_
  exact hk _ (hr.mod m9 (by omega) λb hb e=>by have:=hvl b hb;omega) (hm.on m9 λb hb=>.inr (by omega))
 cases hmay:Z.1.may with
 |false=>
  rw[hmay]at hk
  rw[show(!false)=true from rfl,ifB_bool,if_pos rfl]
  refine ca_rfail (e:=5) rX7 λX8 rX8 mX8=>?_
  refine rx_bigB builtSpZ ?_
  exact fin X8 zSp _ rX8 (MX7.trans mX8) (mX8.hpk zX7 (by omega)) (by simpa using hk)
 |true=>
  rw[hmay]at hk
  rw[show(!true)=false from rfl,ifB_bool,if_neg Bool.false_ne_true]
  refine rx_bigS (spC Z.1) 24 aSp nSp (spC_len _) (At.all bX7) ?_
  exact fin X7 Z.1 _ rX7 MX7 zX7 (by simpa using hk)
end Go.Proofs
namespace Go.Proofs
open Go Go.Vc
section
variable(l:List UInt8)
def rqAc(x:Cm×Rs):Cm×Rs:=({x.1 with acct:=(rsNum l W32 x.2).1},(rsNum l W32 x.2).2)
def rqCt(x:Cm×Rs):Cm×Rs:=({x.1 with ct:=(rsNum l W32 x.2).1},(rsNum l W32 x.2).2)
def rqNo(x:Cm×Rs):Cm×Rs:=({x.1 with num:=(rsNum l W64 x.2).1},(rsNum l W64 x.2).2)
def rqAm(x:Cm×Rs):Cm×Rs:=({x.1 with amt:=(rsInt l x.2).1},(rsInt l x.2).2)
def rqSp(x:Cm×Rs):Cm×Rs:=({x.1 with spec:=(rsSp l x.2).1},(rsSp l x.2).2)
def rqOn(x:Cm×Rs):Cm×Rs:=({x.1 with on:=(rsFlag l x.2).1},(rsFlag l x.2).2)
def rqBu(x:Cm×Rs):Cm×Rs:=({x.1 with buy:=(rsFlag l x.2).1},(rsFlag l x.2).2)
def rqTy(x:Cm×Rs):Cm×Rs:=({x.1 with ty:=(rsNum l 255 x.2).1},(rsNum l 255 x.2).2)
def rqPr(x:Cm×Rs):Cm×Rs:=({x.1 with price:=(rsInt l x.2).1},(rsInt l x.2).2)
def rqQt(x:Cm×Rs):Cm×Rs:=({x.1 with qty:=(rsInt l x.2).1},(rsInt l x.2).2)
def rdC(k:Int)(z:Cm×Rs):Cm×Rs:=
 if k=1∨k=2 then rqAm l (rqAc l z)
 else if k=3 then rqSp l z
 else if k=4 then rqOn l (rqCt l z)
 else if k=5 then rqQt l (rqPr l (rqTy l (rqBu l (rqCt l (rqAc l z)))))
 else if k=6 then rqNo l (rqAc l z)
 else if k=7 then rqQt l (rqPr l (rqNo l (rqAc l z)))
 else if k=8 then rqCt l (rqAc l z)
 else if k=9 then rqQt l (rqPr l (rqBu l (rqCt l (rqAc l z))))
 else if k=10 then rqOn l (rqAc l z)
 else if k=11 then rqPr l (rqCt l z)
 else if k=13 then rqAc l z
 else if k=14 then rqCt l z
 else z
def kCm(k:Int):Cm:={zCm with kind:=k}
def rdCx:Cm×Rs:=rdC l (rsNum l 14 ⟨0,0⟩).1 (kCm (rsNum l 14 ⟨0,0⟩).1,(rsNum l 14 ⟨0,0⟩).2)
def rdCm:Option Cm:=if rsDone l (rdCx l).2=0∧(rdCx l).1.may=true then some (rdCx l).1 else none
end
attribute [local irreducible] rsNum rsInt rsFlag rsSp
section
variable{l:List UInt8}{x:Cm×Rs}
theorem rqAc_fit(h:x.1.Fit):(rqAc l x).1.Fit:=by obtain⟨f1,f2,f3,f4,f5,f6,f7,f8,f9⟩:=h;exact⟨f1,num_u32 l x.2,f3,f4,f5,f6,f7,f8,f9⟩
theorem rqCt_fit(h:x.1.Fit):(rqCt l x).1.Fit:=by obtain⟨f1,f2,f3,f4,f5,f6,f7,f8,f9⟩:=h;exact⟨f1,f2,num_u32 l x.2,f4,f5,f6,f7,f8,f9⟩
theorem rqNo_fit(h:x.1.Fit):(rqNo l x).1.Fit:=by obtain⟨f1,f2,f3,f4,f5,f6,f7,f8,f9⟩:=h;exact⟨f1,f2,f3,num_u64 l x.2,f5,f6,f7,f8,f9⟩
theorem rqAm_fit(h:x.1.Fit):(rqAm l x).1.Fit:=by obtain⟨f1,f2,f3,f4,f5,f6,f7,f8,f9⟩:=h;exact⟨f1,f2,f3,f4,rsInt_fit l x.2,f6,f7,f8,f9⟩
theorem rqSp_fit(h:x.1.Fit):(rqSp l x).1.Fit:=by obtain⟨f1,f2,f3,f4,f5,f6,f7,f8,f9⟩:=h;exact⟨f1,f2,f3,f4,f5,rsSp_fit l x.2,f7,f8,f9⟩
theorem rqOn_fit(h:x.1.Fit):(rqOn l x).1.Fit:=h
theorem rqBu_fit(h:x.1.Fit):(rqBu l x).1.Fit:=h
theorem rqTy_fit(h:x.1.Fit):(rqTy l x).1.Fit:=by obtain⟨f1,f2,f3,f4,f5,f6,f7,f8,f9⟩:=h;exact⟨f1,f2,f3,f4,f5,f6,num_u8 l x.2,f8,f9⟩
theorem rqPr_fit(h:x.1.Fit):(rqPr l x).1.Fit:=by obtain⟨f1,f2,f3,f4,f5,f6,f7,f8,f9⟩:=h;exact⟨f1,f2,f3,f4,f5,f6,f7,rsInt_fit l x.2,f9⟩
theorem rqQt_fit(h:x.1.Fit):(rqQt l x).1.Fit:=by obtain⟨f1,f2,f3,f4,f5,f6,f7,f8,f9⟩:=h;exact⟨f1,f2,f3,f4,f5,f6,f7,f8,rsInt_fit l x.2⟩
attribute [local irreducible] rqAc rqCt rqNo rqAm rqSp rqOn rqBu rqTy rqPr rqQt
theorem ite_fit{c:Prop} [Decidable c]{a b:Cm×Rs}(ha:a.1.Fit)(hb:b.1.Fit):(if c then a else b).1.Fit:=by
 by_cases h:c
 ·rw[if_pos h];exact ha
 ·rw[if_neg h];exact hb
theorem rdC_fit(k:Int)(h:x.1.Fit):(rdC l k x).1.Fit:=
 ite_fit (rqAm_fit (rqAc_fit h)) <| ite_fit (rqSp_fit h) <| ite_fit (rqOn_fit (rqCt_fit h)) <| ite_fit (rqQt_fit (rqPr_fit (rqTy_fit (rqBu_fit (rqCt_fit (rqAc_fit h)))))) <|
  ite_fit (rqNo_fit (rqAc_fit h)) <| ite_fit (rqQt_fit (rqPr_fit (rqNo_fit (rqAc_fit h)))) <| ite_fit (rqCt_fit (rqAc_fit h)) <| ite_fit (rqQt_fit (rqPr_fit (rqBu_fit (rqCt_fit (rqAc_fit h))))) <|
  ite_fit (rqOn_fit (rqAc_fit h)) <| ite_fit (rqPr_fit (rqCt_fit h)) <| ite_fit (rqAc_fit h) <| ite_fit (rqCt_fit h) h
theorem kCm_fit{k:Int}(h:0≤k∧k<256):(kCm k).Fit:=by
 have z1:U32' 0:=by decide
 have z2:U64' 0:=by decide
 have z3:R64' 0:=by decide
 have z4:(0:Int)≤0∧(0:Int)<256:=by decide
 exact⟨h,z1,z1,z2,z3,zSp_fit,z4,z3,z3⟩
theorem rdCx_fit(l:List UInt8):(rdCx l).1.Fit:=rdC_fit _ (kCm_fit (by have:=rsNum_fit l 14 ⟨0,0⟩;omega))
theorem rdCm_fit{c:Cm}(h:rdCm l=some c):c.Fit∧c.may=true:=by
 unfold rdCm at h
 split at h
 ·rename_i h'
  cases h
  exact⟨rdCx_fit l,h'.2⟩
 ·cases h
end
def repB(e:Int):List UInt8:=if e=0 then [0,0,0,0,0,0,0]else natB e.toNat
theorem repB_len(e:Int)(h:0≤e∧e≤999):(repB e).length≤10:=by
 unfold repB
 split
 ·decide
 ·exact natB_len10 (by omega)
end Go.Proofs
namespace Go.Proofs
open Go Go.Vc
attribute [local congr] Ca_congV
theorem uAcs:Tryz.prog.underlying 44=some (.slice 92):=by kernel_rfl
theorem eAcc:elemOk Tryz.prog 92 4 24=true:=by kernel_rfl
theorem ca_collect{w:World}{K:Kont}{gv:Value}{L:List Ac}(ht:TellsM gv (L.map λa=>[acV a]) w)(hl:L.length≤100000)
  (hK:∀s' w',Own w' 92 4 s' L.length (L.flatMap cellsAc)→Mod (λ_=>False) w w' →(∀y,inSl s' y→w.heap.size≤y)→K s' w'):Ca Tryz.prog 54 #[gv] w K:=by
 apply ca54
 unfold F54
 apply ca137
 unfold F137
 obtain⟨p,hp0⟩:∃p,p=w.heap.size:=⟨_,rfl⟩
 have m1:Mod (λ_=>False) w (w.alloc (.cells #[nilV] 44)):=(Mod.refl _ w).alloc _
 have b1:hp (w.alloc (.cells #[nilV] 44)) p=some (.cells #[nilV] 44 (0,0)):=by rw[hp0];simp[go_sem]
 refine rvS (v:=.pointer (some ⟨p,0,none⟩)) (w' :=w.alloc (.cells #[nilV] 44)) (by rw[hp0];simp[go_sem,nilV]) ?_
 generalize w.alloc (.cells #[nilV] 44)=w1 at m1 b1⊢
 have hpl:=lt_of_heap b1
 let I:(Nat→Prop)→Nat→World→Prop:=λX i W=>∃sl,hp W p=some (.cells #[sl] 44 (0,0))∧Own W 92 4 sl (L.take i).length ((L.take i).flatMap cellsAc)∧(∀y,X y↔y=p∨inSl sl y)∧∀y,inSl sl y→p<y
 delta R137_0
 refine RF_list (X0:=λx=>x=p) (T:=tAc) (fc:=cellsAc) (ht.mod m1) VarOk.ac I (λ_ _ _=>False) ?_ (λ_ _ _ _ _ h=>h.elim) (λx hx=>by omega) ⟨nilV,b1,Own.nil _ _ _,λy=>⟨.inl,λhy=>hy.elim id λhy=>by cases hy⟩,λy hy=>(by cases hy)⟩ ?_ ?_ (λ_ _ _ _ _ h=>h.elim)
 ·rintro X i W W' H ⟨sl,i1,i2,i3,i4⟩ hm hX
  exact⟨sl,hm.hpk i1 (hX _ ((i3 _).2 (.inl rfl))),i2.mod hm λy hy=>hX y ((i3 y).2 (.inr hy)),i3,i4⟩
 ·rintro X i hi W r ⟨sl,i1,i2,i3,i4⟩ mW hX hdq hqW gq KN KJ hKN hKJ
  obtain⟨sa,sc,hsl,-⟩:=i2.isSl
  have htk:=take_succ' hi
  refine rvS (v:=sl) (w' :=W) (by rw[hsl]at i1⊢;simp[go_sem,i1]) ?_
  refine rvS (acLd gq) ?_
  have hl64:(L.take i).length≤100000:=by rw[List.length_take];omega
  refine pushV1 (x:=L[i]) (f:=cellsAc) uAcs (elemT_of eAcc) (λ_=>rfl) rfl rfl i2 (by omega) (by omega) λs' W1 o1 mo n1=>?_
  obtain⟨ta,tc,hs',-⟩:=o1.isSl
  have hpW:=lt_of_heap i1
  have z1:=mo.hpk i1 λhc=>by have:=i4 _ hc;omega
  refine ruS (w' :=W1.setCell ⟨p,0,none⟩ s') (by rw[hs'];simp[go_sem,z1]) ?_
  have mS:Mod (λy=>y=p) W1 (W1.setCell ⟨p,0,none⟩ s'):=(Mod.refl (λy=>y=p) W1).setCell (.inl rfl) _ _
  have bS:hp (W1.setCell ⟨p,0,none⟩ s') p=some (.cells #[s'] 44 (0,0)):=by simp[go_sem,z1]
  generalize W1.setCell ⟨p,0,none⟩ s' =W2 at mS bS⊢
  have hsW:=mo.size
  have hs2W:=mS.size
  have hn4:∀y,inSl s' y→p<y:=λy hy=>by
   rcases n1 y hy with h' |h'
   ·exact i4 y h'
   ·omega
  refine hKN (λy=>y=p∨inSl s' y) W2 ⟨s',bS,?_,λy=>Iff.rfl,hn4⟩ ((mo.mono λy _ hy=>(i3 y).2 (.inr hy)).trans (mS.mono λy _ hy=>(i3 y).2 (.inl hy))) λy hy=>?_
  ·rw[htk]
   exact o1.mod mS λy hy e=>by have:=hn4 y hy;omega
  ·rcases hy with rfl|hy
   ·exact⟨.inl ((i3 _).2 (.inl rfl)),by omega⟩
   ·refine⟨(n1 y hy).imp (λh' =>(i3 y).2 (.inr h')) id,?_⟩
    have:=o1.lt hy;omega
 ·rintro X W d hd ⟨sl,i1,i2,i3,i4⟩ mW hdef hX
  replace i2:Own W 92 4 sl (L.take L.length).length ((L.take L.length).flatMap cellsAc):=i2
  rw[List.take_length]at i2
  obtain⟨sa,sc,hsl,-⟩:=i2.isSl
  unfold A137_1
  simp only[afterK]
  refine rvS (v:=sl) (w' :=W) (by rw[hsl]at i1⊢;simp[go_sem,i1]) ?_
  refine retV1 hdef λW2 m2=>?_
  refine hK sl W2 (i2.mod m2 λy hy e=>?_) (((m1.on mW λy hy=>.inr (by omega))).on m2 λy hy=>.inr (by omega)) λy hy=>by have:=i4 y hy;omega
  rcases(hX y ((i3 y).2 (.inr hy))).2 with h' |h'
  ·have:=i4 y hy;omega
  ·omega
abbrev tSt:TypeId:=49
def stE:Nat→TypeId
 |3=>92
 |4=>108
 |5=>112
 |_=>119
def stS:Nat→TypeId
 |3=>44
 |4=>45
 |5=>46
 |_=>47
def stK:Nat→Nat
 |3=>4
 |4=>27
 |5=>4
 |_=>6
def stB:Nat→Nat
 |3=>24
 |4=>208
 |5=>24
 |_=>40
theorem stU(i:Nat):Tryz.prog.underlying (stS i)=some (.slice (stE i)):=by
 unfold stS stE
 split<;>kernel_rfl
theorem stEl(i:Nat):elemOk Tryz.prog (stE i) (stK i) (stB i)=true:=by
 unfold stE stK stB
 split<;>kernel_rfl
theorem stBd(i:Nat):stK i≤27∧stB i≤208:=by
 unfold stK stB
 split<;>exact⟨by omega,by omega⟩
def stC(d n f:Int)(ss:Nat→Value):List Value:=[.int .u32 d,.int .u64 n,.int .i64 f,ss 3,ss 4,ss 5,ss 6,ss 7]
def stV(d n f:Int)(ss:Nat→Value):Value:=.agg (stC d n f ss).toArray
def updN{α:Type}(f:Nat→α)(i:Nat)(x:α):Nat→α:=λj=>if j=i then x else f j
structure StB(w:World)(b:Nat)(d nx fu:Int)(ss:Nat→Value)(n:Nat→Nat)(cs:Nat→List Value)(lo:Nat):Prop where
 at_:hp w b=some (.cells (stC d nx fu ss).toArray tSt (0,0))
 own:∀i,3≤i→i≤7→Own w (stE i) (stK i) (ss i) (n i) (cs i)
 dj:∀i j y,3≤i→i≤7→3≤j→j≤7→inSl (ss i) y→inSl (ss j) y→i=j
 nw:∀i y,3≤i→i≤7→inSl (ss i) y→lo≤y∧y≠b
theorem StB.mod{F:Nat→Prop}{w w' :World}{b lo:Nat}{d nx fu:Int}{ss:Nat→Value}{n:Nat→Nat}{cs:Nat→List Value}(h:StB w b d nx fu ss n cs lo)(hm:Mod F w w')(h1:¬F b)(h2:∀i y,3≤i→i≤7→inSl (ss i) y→¬F y):StB w' b d nx fu ss n cs lo:=
 ⟨hm.hpk h.at_ h1,λi hi hj=>(h.own i hi hj).mod hm λy hy=>h2 i y hi hj hy,h.dj,h.nw⟩
theorem stFld(W:World){b:Nat}(i:Nat)(hi:i<8):(Instr.fieldAt tSt (.pointer (some ⟨b,0,none⟩)) i).run Tryz.prog W=.ok (.pointer (some ⟨b,i,none⟩)) W:=by
 have:i=0∨i=1∨i=2∨i=3∨i=4∨i=5∨i=6∨i=7:=by omega
 rcases this with rfl|rfl|rfl|rfl|rfl|rfl|rfl|rfl<;>simp[go_sem]
theorem StB.ld{w:World}{b lo:Nat}{d nx fu:Int}{ss:Nat→Value}{n:Nat→Nat}{cs:Nat→List Value}(h:StB w b d nx fu ss n cs lo)(i:Nat)(hi:3≤i)(hj:i≤7):(Instr.loadAt (stS i) (.pointer (some ⟨b,i,none⟩))).run Tryz.prog w=.ok (ss i) w:=by
 obtain⟨a,c,hs,-⟩:=(h.own i hi hj).isSl
 have hat:=h.at_
 have:i=3∨i=4∨i=5∨i=6∨i=7:=by omega
 rcases this with rfl|rfl|rfl|rfl|rfl<;>(simp only[stS];rw[hs];simp only[stC]at hat;rw[hs]at hat;simp[go_sem,hat])
theorem pushSt{w:World}{b lo:Nat}{d nx fu:Int}{ss:Nat→Value}{n:Nat→Nat}{cs:Nat→List Value}(h:StB w b d nx fu ss n cs lo)(i:Nat)(hi:3≤i)(hj:i≤7){xv:Value}{c:List Value}{K:World→Prop}(hx:xv.cells.toList=c)(hc:c.length=stK i)(hone:c.all (·.oneCell')=true)(hn:n i≤1000000)(hlo:lo≤w.heap.size)
  (hK:∀s' w',StB w' b d nx fu (updN ss i s') (updN n i (n i+1)) (updN cs i (cs i++c)) lo→Mod (λy=>y=b∨inSl (ss i) y) w w' →(∀y,inSl s' y→inSl (ss i) y∨w.heap.size≤y)→K w'):
  rx Tryz.prog (xLit (stS i) 1 [(0,xv)]) w λv w1=>rx Tryz.prog (xAppend #[stS i,stS i] (stS i) [ss i,v]) w1 λv2 w2=>rv Tryz.prog (Instr.fieldAt tSt (.pointer (some ⟨b,0,none⟩)) i) w2 λv3 w3=>ru Tryz.prog (Instr.storeAt (stS i) v3 v2) w3 K:=by
 have hcz:xv.cells.size=stK i:=by rw[←Array.length_toList,hx,hc]
 have hbd:=stBd i
 refine rx_lit [xv] (stU i) (elemT_of (stEl i)) rfl rfl (by intro v hv;rw[List.mem_singleton.1 hv];exact hcz) (by omega) ?_
 have e0:(([xv]:List Value).flatMap (·.cells.toList)).toArray=c.toArray:=by simp[hx]
 rw[e0]
 have m1:Mod (λ_=>False) w (w.alloc (.cells c.toArray (stE i))):=(Mod.refl _ w).alloc _
 have r1:Rd (w.alloc (.cells c.toArray (stE i))) (stK i) (.slice (some ⟨w.heap.size,0,none⟩) 1 1) 1 c:=
  ⟨by rw[hc];omega,.inr ⟨_,0,1,rfl,Nat.le_refl _,At.all (hp_of (by rw[heap_alloc,if_pos rfl]))⟩⟩
 have hown:=h.own i hi hj
 have hbl:b<w.heap.size:=lt_of_heap h.at_
 refine rx_append (stU i) (stU i) (elemT_of (stEl i)) (hown.mod m1 λ_ _ h=>h) r1 hone (Nat.le_trans (Nat.mul_le_mul (show n i+1≤1000001 by omega) hbd.2) (by decide)) λs' w' o' m' n' =>?_
 refine rvS (stFld w' i (by omega)) ?_
 have hsz:(w.alloc (.cells c.toArray (stE i))).heap.size=w.heap.size+1:=World.size_alloc ..
 have M' :Mod (inSl (ss i)) w w' :=(m1.mono (G:=inSl (ss i)) λ_ _ h=>h.elim).trans m'
 have n'' :∀y,inSl s' y→inSl (ss i) y∨w.heap.size≤y:=λy hy=>by
  rcases n' y hy with h' |h'
  ·exact .inl h'
  ·exact .inr (by omega)
 have at' :=M'.hpk h.at_ λhc=>(h.nw i b hi hj hc).2 rfl
 obtain⟨a,cc,hs',-⟩:=o'.isSl
 have hst:(Instr.storeAt (stS i) (.pointer (some ⟨b,i,none⟩)) s').run Tryz.prog w' =.ok () (w'.setCell ⟨b,i,none⟩ s')∧hp (w'.setCell ⟨b,i,none⟩ s') b=some (.cells (stC d nx fu (updN ss i s')).toArray tSt (0,0)):=by
  obtain⟨a0,c0,hs0,-⟩:=hown.isSl
  have:i=3∨i=4∨i=5∨i=6∨i=7:=by omega
  rcases this with rfl|rfl|rfl|rfl|rfl<;>(simp only[stC]at at';rw[hs0]at at';refine⟨by simp only[stS];rw[hs'];simp[go_sem,at'],by rw[hs'];simp[go_sem,at',stC,updN]⟩)
 refine ruS hst.1 ?_
 have mS:Mod (λy=>y=b) w' (w'.setCell ⟨b,i,none⟩ s'):=(Mod.refl (λy=>y=b) w').setCell (.inl rfl) _ _
 have hs'n:∀y,inSl s' y→lo≤y∧y≠b:=λy hy=>by
  rcases n'' y hy with h' |h'
  ·exact h.nw i y hi hj h'
  ·exact⟨by omega,by omega⟩
 refine hK s' _ ⟨hst.2,λj hj1 hj2=>?_,λj1 j2 y a1 a2 a3 a4 y1 y2=>?_,λj y hj1 hj2 hy=>?_⟩ ((M'.mono λy _ hy=>.inr hy).trans (mS.mono λy _ hy=>.inl hy)) n''
 ·unfold updN
  by_cases hji:j=i
  ·subst hji
   rw[if_pos rfl,if_pos rfl,if_pos rfl]
   exact o'.mod mS λy hy e=>(hs'n y hy).2 e
  ·rw[if_neg hji,if_neg hji,if_neg hji]
   exact((h.own j hj1 hj2).mod M' λy hy hc=>hji (h.dj j i y hj1 hj2 hi hj hy hc)).mod mS λy hy e=>(h.nw j y hj1 hj2 hy).2 e
 ·unfold updN at y1 y2
  have hlt:∀j,3≤j→j≤7→inSl (ss j) y→y<w.heap.size:=λj b1 b2 hy=>(h.own j b1 b2).lt hy
  by_cases h1:j1=i
  ·by_cases h2:j2=i
   ·rw[h1,h2]
   ·rw[if_pos h1]at y1
    rw[if_neg h2]at y2
    rcases n'' y y1 with h' |h'
    ·rw[h1];exact h.dj i j2 y hi hj a3 a4 h' y2
    ·have:=hlt j2 a3 a4 y2;omega
  ·rw[if_neg h1]at y1
   by_cases h2:j2=i
   ·rw[if_pos h2]at y2
    rcases n'' y y2 with h' |h'
    ·rw[h2];exact h.dj j1 i y a1 a2 hi hj y1 h'
    ·have:=hlt j1 a1 a2 y1;omega
   ·rw[if_neg h2]at y2
    exact h.dj j1 j2 y a1 a2 a3 a4 y1 y2
 ·unfold updN at hy
  by_cases hji:j=i
  ·rw[if_pos hji]at hy;exact hs'n y hy
  ·rw[if_neg hji]at hy;exact h.nw j y hj1 hj2 hy
end Go.Proofs
namespace Go.Proofs
open Go Go.Vc
attribute [local congr] Ca_congV
def sdOC(x:Int×Od):List Value:=.int .u32 x.1::odC x.2
def LN(A:List Ac)(C:List Ct)(P:List Po)(O B:List (Int×Od)):Nat→Nat
 |3=>A.length
 |4=>C.length
 |5=>P.length
 |6=>O.length
 |7=>B.length
 |_=>0
def LC(A:List Ac)(C:List Ct)(P:List Po)(O B:List (Int×Od)):Nat→List Value
 |3=>A.flatMap cellsAc
 |4=>C.flatMap ctC
 |5=>P.flatMap cellsPo
 |6=>O.flatMap sdOC
 |7=>B.flatMap sdOC
 |_=>[]
abbrev SB(w:World)(b:Nat)(d nx fu:Int)(ss:Nat→Value)(A:List Ac)(C:List Ct)(P:List Po)(O B:List (Int×Od))(lo:Nat):Prop:=StB w b d nx fu ss (LN A C P O B) (LC A C P O B) lo
def XS(ss:Nat→Value)(b:Nat):Nat→Prop:=λy=>y=b∨∃i,3≤i∧i≤7∧inSl (ss i) y
section
variable{w:World}{b lo:Nat}{d nx fu:Int}{ss:Nat→Value}{A:List Ac}{C:List Ct}{P:List Po}{O B:List (Int×Od)}
theorem SB.modX{H:Nat→Prop}{w' :World}(h:SB w b d nx fu ss A C P O B lo)(hm:Mod H w w')(hx:∀y,XS ss b y→¬H y):SB w' b d nx fu ss A C P O B lo:=
 h.mod hm (hx b (.inl rfl)) λi y hi hj hy=>hx y (.inr ⟨i,hi,hj,hy⟩)
theorem SB.ltX(h:SB w b d nx fu ss A C P O B lo){y:Nat}(hy:XS ss b y):y<w.heap.size:=by
 rcases hy with rfl|⟨i,hi,hj,hy⟩
 ·exact lt_of_heap h.at_
 ·exact(h.own i hi hj).lt hy
theorem pushX{i:Nat}(hi:3≤i)(hj:i≤7){xv:Value}{c:List Value}{A' :List Ac}{C' :List Ct}{P' :List Po}{O' B' :List (Int×Od)}{K:World→Prop}(h:SB w b d nx fu ss A C P O B lo)(hx:xv.cells.toList=c)(hc:c.length=stK i)(hone:c.all (·.oneCell')=true)(hn:LN A C P O B i≤1000000)(hlo:lo≤w.heap.size)
  (e1:updN (LN A C P O B) i (LN A C P O B i+1)=LN A' C' P' O' B')(e2:updN (LC A C P O B) i (LC A C P O B i++c)=LC A' C' P' O' B')
  (hK:∀ss' w',SB w' b d nx fu ss' A' C' P' O' B' lo→Mod (XS ss b) w w' →(∀y,XS ss' b y→XS ss b y∨w.heap.size≤y)→K w'):
  rx Tryz.prog (xLit (stS i) 1 [(0,xv)]) w λv w1=>rx Tryz.prog (xAppend #[stS i,stS i] (stS i) [ss i,v]) w1 λv2 w2=>rv Tryz.prog (Instr.fieldAt tSt (.pointer (some ⟨b,0,none⟩)) i) w2 λv3 w3=>ru Tryz.prog (Instr.storeAt (stS i) v3 v2) w3 K:=by
 refine pushSt h i hi hj hx hc hone hn hlo λs' w' h' m' n' =>hK (updN ss i s') w' ?_ (m'.mono λy _ hy=>hy.imp id λhy=>⟨i,hi,hj,hy⟩) λy hy=>?_
 ·rw[e1,e2]at h'
  exact h'
 ·rcases hy with hy|⟨j,hj1,hj2,hy⟩
  ·exact .inl (.inl hy)
  ·unfold updN at hy
   by_cases hji:j=i
   ·rw[if_pos hji]at hy
    exact(n' y hy).imp (λh=>.inr ⟨i,hi,hj,h⟩) id
   ·rw[if_neg hji]at hy
    exact .inl (.inr ⟨j,hj1,hj2,hy⟩)
end
theorem updN_ext{α:Type}{f g:Nat→α}{i:Nat}{x:α}(h1:g i=x)(h2:∀j,j≠i→g j=f j):updN f i x=g:=by
 funext j
 unfold updN
 by_cases h:j=i
 ·rw[if_pos h,h,h1]
 ·rw[if_neg h,h2 j h]
theorem LN4(A:List Ac)(C:List Ct)(P:List Po)(O B:List (Int×Od))(k:Ct):updN (LN A C P O B) 4 (LN A C P O B 4+1)=LN A (C++[k]) P O B:=
 updN_ext (by simp[LN]) λj hj=>by unfold LN;split<;>first|rfl|exact absurd rfl hj
theorem LC4(A:List Ac)(C:List Ct)(P:List Po)(O B:List (Int×Od))(k:Ct):updN (LC A C P O B) 4 (LC A C P O B 4++ctC k)=LC A (C++[k]) P O B:=
 updN_ext (by simp[LC]) λj hj=>by unfold LC;split<;>first|rfl|exact absurd rfl hj
theorem LN5(A:List Ac)(C:List Ct)(P:List Po)(O B:List (Int×Od))(k:Po):updN (LN A C P O B) 5 (LN A C P O B 5+1)=LN A C (P++[k]) O B:=
 updN_ext (by simp[LN]) λj hj=>by unfold LN;split<;>first|rfl|exact absurd rfl hj
theorem LC5(A:List Ac)(C:List Ct)(P:List Po)(O B:List (Int×Od))(k:Po):updN (LC A C P O B) 5 (LC A C P O B 5++cellsPo k)=LC A C (P++[k]) O B:=
 updN_ext (by simp[LC]) λj hj=>by unfold LC;split<;>first|rfl|exact absurd rfl hj
theorem LN6(A:List Ac)(C:List Ct)(P:List Po)(O B:List (Int×Od))(k:Int×Od):updN (LN A C P O B) 6 (LN A C P O B 6+1)=LN A C P (O++[k]) B:=
 updN_ext (by simp[LN]) λj hj=>by unfold LN;split<;>first|rfl|exact absurd rfl hj
theorem LC6(A:List Ac)(C:List Ct)(P:List Po)(O B:List (Int×Od))(k:Int×Od):updN (LC A C P O B) 6 (LC A C P O B 6++sdOC k)=LC A C P (O++[k]) B:=
 updN_ext (by simp[LC]) λj hj=>by unfold LC;split<;>first|rfl|exact absurd rfl hj
theorem LN7(A:List Ac)(C:List Ct)(P:List Po)(O B:List (Int×Od))(k:Int×Od):updN (LN A C P O B) 7 (LN A C P O B 7+1)=LN A C P O (B++[k]):=
 updN_ext (by simp[LN]) λj hj=>by unfold LN;split<;>first|rfl|exact absurd rfl hj
theorem LC7(A:List Ac)(C:List Ct)(P:List Po)(O B:List (Int×Od))(k:Int×Od):updN (LC A C P O B) 7 (LC A C P O B 7++sdOC k)=LC A C P O (B++[k]):=
 updN_ext (by simp[LC]) λj hj=>by unfold LC;split<;>first|rfl|exact absurd rfl hj
theorem bldSd(n:Int)(o:Od)(W:World):(Instr.build 119 #[(0,.int .u32 n),(1,odV o)]).run Tryz.prog W=.ok (.agg (sdOC (n,o)).toArray) W:=by
 simp[go_sem,odV,odC,sdOC]
theorem stLd{W:World}{p:Nat}{d n f:Int}{ss:Nat→Value}(h:hp W p=some (.cells (stC d n f ss).toArray tSt (0,0))):(Instr.loadAt tSt (.pointer (some ⟨p,0,none⟩))).run Tryz.prog W=.ok (stV d n f ss) W:=
 run_bigS (P:=Tryz.prog) (t:=tSt) (n:=7) (by kernel_rfl) (by kernel_rfl) rfl (At.all h)
theorem stSt{W:World}{p:Nat}{cs:Array Value}{d n f:Int}{ss:Nat→Value}(h:hp W p=some (.cells cs tSt (0,0)))(hc:cs.size=8)(hs:∀i,3≤i→i≤7→∃a n c,ss i=.slice a n c):
  ∃W',(Instr.storeAt tSt (.pointer (some ⟨p,0,none⟩)) (stV d n f ss)).run Tryz.prog W=.ok () W' ∧hp W' p=some (.cells (stC d n f ss).toArray tSt (0,0))∧Mod (λb=>b=p) W W' :=by
 have h7:cs.toList.length=8:=by simpa using hc
 have hn:Tryz.prog.cellsOf tSt=7+1:=by kernel_rfl
 have hone:(stC d n f ss).all (·.oneCell')=true:=by
  obtain⟨_,_,_,e3⟩:=hs 3 (by omega) (by omega)
  obtain⟨_,_,_,e4⟩:=hs 4 (by omega) (by omega)
  obtain⟨_,_,_,e5⟩:=hs 5 (by omega) (by omega)
  obtain⟨_,_,_,e6⟩:=hs 6 (by omega) (by omega)
  obtain⟨_,_,_,e7⟩:=hs 7 (by omega) (by omega)
  unfold stC
  rw[e3,e4,e5,e6,e7]
  rfl
 have e:=run_bigU (P:=Tryz.prog) (t:=tSt) (b:=p) (off:=0) (cs:=stC d n f ss) hn rfl h (by show 0+8≤cs.size;omega) hone
 refine⟨W.setRow p (lay cs.toList 0 (stC d n f ss)).toArray,?_,?_,(Mod.refl (λb=>b=p) W).setRow (.inl rfl) _⟩
 ·have:(bigU tSt (.pointer (some ⟨p,0,none⟩)) (stV d n f ss)).run Tryz.prog W=_:=e
  unfold bigU at this
  exact this
 ·rw[hp_setRow,if_pos rfl,h,lay_all (by rw[h7];rfl)]
def ss0(s:Value):Nat→Value:=λi=>if i=3 then s else nilV
theorem newSt(W:World):∃W',(Instr.alloc tSt true (.tuple #[])).run Tryz.prog W=.ok (.pointer (some ⟨W.heap.size,0,none⟩)) W' ∧hp W' W.heap.size=some (.cells (stC 0 0 0 (ss0 nilV)).toArray tSt (0,0))∧Mod (λ_=>False) W W' :=
 ⟨W.alloc (.cells (stC 0 0 0 (ss0 nilV)).toArray tSt),by simp[go_sem,stC,ss0,nilV],by simp[go_sem],(Mod.refl _ W).alloc _⟩
theorem bldSt(d n f:Int)(s:Value)(W:World)(hs:∃a n c,s=.slice a n c):(Instr.build tSt #[(0,.int .u32 d),(1,.int .u64 n),(2,.int .i64 f),(3,s)]).run Tryz.prog W=.ok (stV d n f (ss0 s)) W:=by
 obtain⟨_,_,_,rfl⟩:=hs
 simp[go_sem,stV,stC,ss0,nilV]
end Go.Proofs
