/- Part of a proof. -/
import Derived.Test.YtgebhcgmckjbbaaGreatS17
set_option linter.all false
namespace Go.Proofs
open Go Go.Vc
attribute [local congr] Ca_congV
abbrev tRp:TypeId:=32
def rpV(r:Rp)(sT sG sA:Value):Value:=.agg #[.int .i64 r.err,.int .u64 r.num,.int .i64 r.filled,.int .i64 r.left,sT,sG,sA]
def rpC(r:Rp)(sT sG sA:Value):List Value:=[.int .i64 r.err,.int .u64 r.num,.int .i64 r.filled,.int .i64 r.left,sT,sG,sA]
abbrev acctC(n:Int):List Value:=[.int .u32 n]
structure RpQ(w:World)(sT sG sA:Value)(r:Rp):Prop where
 tr:Own w 135 4 sT r.trades.length (r.trades.flatMap tdC)
 go:Own w 27 1 sG r.gone.length (r.gone.flatMap numC)
 ac:Own w 35 1 sA r.accts.length (r.accts.flatMap acctC)
 d1:∀x,inSl sT x→¬inSl sG x
 d2:∀x,inSl sT x→¬inSl sA x
 d3:∀x,inSl sG x→¬inSl sA x
theorem RpQ.mod{F:Nat→Prop}{w w' :World}{sT sG sA:Value}{r:Rp}(h:RpQ w sT sG sA r)(hm:Mod F w w')(hd:∀x,inSl sT x∨inSl sG x∨inSl sA x→¬F x):RpQ w' sT sG sA r:=
 ⟨h.tr.mod hm λx hx=>hd x (.inl hx),h.go.mod hm λx hx=>hd x (.inr (.inl hx)),h.ac.mod hm λx hx=>hd x (.inr (.inr hx)),h.d1,h.d2,h.d3⟩
theorem RpQ.nil(w:World)(e:Int):RpQ w nilV nilV nilV (failR e):=⟨Own.nil _ _ _,Own.nil _ _ _,Own.nil _ _ _,λx hx=>(by cases hx),λx hx=>(by cases hx),λx hx=>(by cases hx)⟩
theorem RpQ.isSl{w:World}{sT sG sA:Value}{r:Rp}(h:RpQ w sT sG sA r):(∃a n c,sT=.slice a n c)∧(∃a n c,sG=.slice a n c)∧∃a n c,sA=.slice a n c:=by
 obtain⟨a,c,h1,-⟩:=h.tr.isSl
 obtain⟨a',c',h2,-⟩:=h.go.isSl
 obtain⟨a'',c'',h3,-⟩:=h.ac.isSl
 exact⟨⟨_,_,_,h1⟩,⟨_,_,_,h2⟩,_,_,_,h3⟩
theorem stRp{W:World}{p:Nat}{cs:Array Value}{r:Rp}{sT sG sA:Value}(h:hp W p=some (.cells cs tRp (0,0)))(hc:cs.size=7)(hs:(∃a n c,sT=.slice a n c)∧(∃a n c,sG=.slice a n c)∧∃a n c,sA=.slice a n c):
  ∃W',(Instr.storeAt tRp (.pointer (some ⟨p,0,none⟩)) (rpV r sT sG sA)).run Tryz.prog W=.ok () W' ∧hp W' p=some (.cells (rpC r sT sG sA).toArray tRp (0,0))∧Mod (λb=>b=p) W W' :=by
 have h7:cs.toList.length=7:=by simpa using hc
 have hn:Tryz.prog.cellsOf tRp=6+1:=by kernel_rfl
 have hone:(rpC r sT sG sA).all (·.oneCell')=true:=by
  obtain⟨⟨_,_,_,rfl⟩,⟨_,_,_,rfl⟩,⟨_,_,_,rfl⟩⟩:=hs
  rfl
 have e:=run_bigU (P:=Tryz.prog) (t:=tRp) (b:=p) (off:=0) (cs:=rpC r sT sG sA) hn rfl h (by show 0+7≤cs.size;omega) hone
 refine⟨W.setRow p (lay cs.toList 0 (rpC r sT sG sA)).toArray,?_,?_,(Mod.refl (λb=>b=p) W).setRow (.inl rfl) _⟩
 ·have:(bigU tRp (.pointer (some ⟨p,0,none⟩)) (rpV r sT sG sA)).run Tryz.prog W=_:=e
  unfold bigU at this
  exact this
 ·rw[hp_setRow,if_pos rfl,h,lay_all (by rw[h7];rfl)]
theorem ldRp{W:World}{p:Nat}{r:Rp}{sT sG sA:Value}{T:TypeId}(h:hp W p=some (.cells (rpC r sT sG sA).toArray T (0,0))):(Instr.loadAt tRp (.pointer (some ⟨p,0,none⟩))).run Tryz.prog W=.ok (rpV r sT sG sA) W:=
 run_bigS (P:=Tryz.prog) (t:=tRp) (n:=6) (by kernel_rfl) (by kernel_rfl) rfl (At.all h)
theorem newRp(W:World):∃W',(Instr.alloc tRp true (.tuple #[])).run Tryz.prog W=.ok (.pointer (some ⟨W.heap.size,0,none⟩)) W' ∧hp W' W.heap.size=some (.cells (rpC zRp nilV nilV nilV).toArray tRp (0,0))∧Mod (λ_=>False) W W' :=
 ⟨W.alloc (.cells (rpC zRp nilV nilV nilV).toArray tRp),by simp[go_sem,rpC,zRp,nilV],by simp[go_sem],(Mod.refl _ W).alloc _⟩
theorem nilSlV:(∃a n c,nilV=.slice a n c):=⟨none,0,0,rfl⟩
theorem ca_failed{w:World}{K:Kont}{e:Int}(hK:∀w',Mod (λ_=>False) w w' →K (rpV (failR e) nilV nilV nilV) w'):Ca Tryz.prog 41 #[.int .i64 e] w K:=by
 apply ca41
 unfold F41
 obtain⟨w1,e1,b1,m1⟩:=newRp w
 refine rvS e1 ?_
 obtain⟨p,hp0⟩:∃p,p=w.heap.size:=⟨_,rfl⟩
 rw[←hp0]at b1⊢
 refine rvS (v:=rpV (failR e) nilV nilV nilV) (w' :=w1) (by simp[go_sem,rpV,failR,zRp,nilV]) ?_
 obtain⟨w2,e2,b2,m2⟩:=stRp (r:=failR e) b1 rfl ⟨nilSlV,nilSlV,nilSlV⟩
 refine ruS e2 (rdWS (ldRp b2) ?_)
 exact hK w2 (m1.on m2 λb hb=>.inr (by omega))
section
variable{w:World}{K:Kont}{v c l mb md:Nat}{A:List (Int×Nat)}{D:List (Int×Value)}{fp:Pt→Nat→Prop}{S:Ven}
theorem lkB(h:VenR w v c l mb md A D fp S){n:Int}(hn:(calGet S.cal.l n).isSome=true):∃b,lk A n=some b∧BookQ w b (fp (.bk n)) (S.bk n):=by
 have:=h.dom n
 rw[hn]at this
 cases hl:lk A n with
 |none=>rw[hl]at this;cases this
 |some b=>exact⟨b,rfl,h.bk n b hl⟩
theorem acc_getV(S:Ven)(a:Int):(S.led.getV a)=(S.acc a,if S.led.getO a=none then 7 else 0):=by
 unfold Led.getV Ven.acc
 cases S.led.getO a<;>simp
end
end Go.Proofs


namespace Go.Proofs
open Go Go.Vc
attribute [local congr] Ca_congV
theorem pushV1{α:Type}{P:Program}{t e:TypeId}{k by_:Nat}{w:World}{K:Kont}{s xv:Value}{l:List α}{x:α}{f:α→List Value}(ht:P.underlying t=some (.slice e))(hE:ElemT P e k by_)(hf:∀x,(f x).length=k)(hf1:(f x).all (·.oneCell')=true)
  (hx:xv.cells.toList=f x)(hs:Own w e k s l.length (l.flatMap f))(hb:(l.length+1)*by_≤140737488355328)(hk:k≤1000)
  (hK:∀s' w',Own w' e k s' (l++[x]).length ((l++[x]).flatMap f)→Mod (inSl s) w w' →(∀b,inSl s' b→inSl s b∨w.heap.size≤b)→K s' w'):
  rx P (xLit t 1 [(0,xv)]) w λv w1=>rx P (xAppend #[t,t] t [s,v]) w1 K:=by
 have hc:xv.cells.size=k:=by rw[←Array.length_toList,hx,hf]
 refine rx_lit [xv] ht hE rfl rfl (by intro v hv;rw[List.mem_singleton.1 hv];exact hc) (by omega) ?_
 have e0:(([xv]:List Value).flatMap (·.cells.toList)).toArray=(f x).toArray:=by simp[hx]
 rw[e0]
 have m1:Mod (λ_=>False) w (w.alloc (.cells (f x).toArray e)):=(Mod.refl _ w).alloc _
 have r1:Rd (w.alloc (.cells (f x).toArray e)) k (.slice (some ⟨w.heap.size,0,none⟩) 1 1) 1 (f x):=
  ⟨by rw[hf];omega,.inr ⟨_,0,1,rfl,Nat.le_refl _,At.all (hp_of (by rw[heap_alloc,if_pos rfl]))⟩⟩
 refine rx_append ht ht hE (hs.mod m1 λ_ _ h=>h) r1 hf1 hb λs' w' o' m' n' =>?_
 refine hK s' w' ?_ ((m1.mono (G:=inSl s) λ_ _ h=>h.elim).trans m') λb hb' =>?_
 ·rw[List.flatMap_append,List.length_append]
  simpa using o'
 ·rcases n' b hb' with h|h
  ·exact .inl h
  ·rw[World.size_alloc]at h;exact .inr (by omega)
def PvOf{α:Type}(T:TypeId)(fc:α→List Value)(a:α)(v:Value)(q:Nat)(W:World):Prop:=v=.pointer (some ⟨q,0,none⟩)∧hp W q=some (.cells (fc a).toArray T (0,0))
theorem hPv_of{α:Type}{T:TypeId}{fc:α→List Value}:∀(a:α) v q W W' H,PvOf T fc a v q W→Mod H W W' →¬H q→PvOf T fc a v q W' :=by
 rintro a v q W W' H ⟨rfl,hb⟩ hm hq
 exact⟨rfl,hm.hpk hb hq⟩
theorem hasg_ct{xs:List Ct}:∀k∈xs,∀(W:World) (K:Value→World→Prop),(∀w2 v,PvOf tCt ctC k v W.heap.size w2→Mod (λ_=>False) W w2→K v w2)→
  rx Tryz.prog (bigA tCt) W λv w1=>rux Tryz.prog (bigU tCt v (.agg (ctC k).toArray)) w1 λw2=>K v w2:=λk _ W K hK=>ctVar λw2 b m=>hK w2 _ ⟨rfl,b⟩ m
theorem hasg_small{α:Type}{T:TypeId}{fv:α→Value}{fc:α→List Value}{xs:List α}(hv:VarOk T fv fc xs):∀a∈xs,∀(W:World) (K:Value→World→Prop),(∀w2 v,PvOf T fc a v W.heap.size w2→Mod (λ_=>False) W w2→K v w2)→
  rv Tryz.prog (Instr.alloc T true (.tuple #[])) W λv w1=>ru Tryz.prog (Instr.storeAt T v (fv a)) w1 λw2=>K v w2:=λa ha W K hK=>by
 obtain⟨w1,w2,v1,v2,v3,v4⟩:=hv a ha W
 exact rvS v1 (ruS v2 (hK w2 _ ⟨rfl,v3⟩ v4))
theorem poVar(p:Po)(W:World):∃w1 w2,(Instr.alloc 112 true (.tuple #[])).run Tryz.prog W=.ok (.pointer (some ⟨W.heap.size,0,none⟩)) w1∧(Instr.storeAt 112 (.pointer (some ⟨W.heap.size,0,none⟩)) (poV p)).run Tryz.prog w1=.ok () w2∧hp w2 W.heap.size=some (.cells (cellsPo p).toArray 112 (0,0))∧Mod (λ_=>False) W w2:=by
 obtain⟨w1,hw1⟩:∃w1,w1=W.alloc (.cells #[.int .u32 0,.int .u32 0,.int .i64 0,.int .i64 0] 112):=⟨_,rfl⟩
 have m1:Mod (λ_=>False) W w1:=by rw[hw1];exact(Mod.refl _ W).alloc _
 have b1:hp w1 W.heap.size=some (.cells #[.int .u32 0,.int .u32 0,.int .i64 0,.int .i64 0] 112 (0,0)):=by rw[hw1];simp[go_sem]
 refine⟨w1,(((w1.setCell ⟨W.heap.size,0,none⟩ (.int .u32 p.c)).setCell ⟨W.heap.size,1,none⟩ (.int .u32 p.a)).setCell ⟨W.heap.size,2,none⟩ (.int .i64 p.q)).setCell ⟨W.heap.size,3,none⟩ (.int .i64 p.b),by rw[hw1];simp[go_sem],by simp[go_sem,b1,poV],by simp[go_sem,b1,cellsPo],?_⟩
 exact m1.on (((((Mod.refl (λx=>x=W.heap.size) w1).setCell (.inl rfl) _ _).setCell (.inl rfl) _ _).setCell (.inl rfl) _ _).setCell (.inl rfl) _ _) λx hx=>.inr (by omega)
theorem acVar(p:Ac)(W:World):∃w1 w2,(Instr.alloc 92 true (.tuple #[])).run Tryz.prog W=.ok (.pointer (some ⟨W.heap.size,0,none⟩)) w1∧(Instr.storeAt 92 (.pointer (some ⟨W.heap.size,0,none⟩)) (acV p)).run Tryz.prog w1=.ok () w2∧hp w2 W.heap.size=some (.cells (cellsAc p).toArray 92 (0,0))∧Mod (λ_=>False) W w2:=by
 obtain⟨w1,hw1⟩:∃w1,w1=W.alloc (.cells #[.int .u32 0,.int .i64 0,.bool false,.bool false] 92):=⟨_,rfl⟩
 have m1:Mod (λ_=>False) W w1:=by rw[hw1];exact(Mod.refl _ W).alloc _
 have b1:hp w1 W.heap.size=some (.cells #[.int .u32 0,.int .i64 0,.bool false,.bool false] 92 (0,0)):=by rw[hw1];simp[go_sem]
 refine⟨w1,(((w1.setCell ⟨W.heap.size,0,none⟩ (.int .u32 p.num)).setCell ⟨W.heap.size,1,none⟩ (.int .i64 p.cash)).setCell ⟨W.heap.size,2,none⟩ (.bool p.kil)).setCell ⟨W.heap.size,3,none⟩ (.bool p.dfl),by rw[hw1];simp[go_sem],by simp[go_sem,b1,acV],by simp[go_sem,b1,cellsAc],?_⟩
 exact m1.on (((((Mod.refl (λx=>x=W.heap.size) w1).setCell (.inl rfl) _ _).setCell (.inl rfl) _ _).setCell (.inl rfl) _ _).setCell (.inl rfl) _ _) λx hx=>.inr (by omega)
theorem VarOk.ac{xs:List Ac}:VarOk 92 acV cellsAc xs:=λa _ W=>acVar a W
theorem VarOk.po{xs:List Po}:VarOk 112 poV cellsPo xs:=λa _ W=>poVar a W
theorem allocAc(W:World):∃w1,(Instr.alloc 92 true (.tuple #[])).run Tryz.prog W=.ok (.pointer (some ⟨W.heap.size,0,none⟩)) w1∧hp w1 W.heap.size=some (.cells (cellsAc ⟨0,0,false,false⟩).toArray 92 (0,0))∧Mod (λ_=>False) W w1:=
 ⟨W.alloc (.cells (cellsAc ⟨0,0,false,false⟩).toArray 92),by simp[go_sem,cellsAc],by simp[go_sem],(Mod.refl _ W).alloc _⟩
theorem storeAc{W:World}{q:Nat}{x:Ac}(p:Ac)(h:hp W q=some (.cells (cellsAc x).toArray 92 (0,0))):∃W',(Instr.storeAt 92 (.pointer (some ⟨q,0,none⟩)) (acV p)).run Tryz.prog W=.ok () W' ∧hp W' q=some (.cells (cellsAc p).toArray 92 (0,0))∧Mod (λb=>b=q) W W' :=by
 unfold cellsAc at h
 refine⟨(((W.setCell ⟨q,0,none⟩ (.int .u32 p.num)).setCell ⟨q,1,none⟩ (.int .i64 p.cash)).setCell ⟨q,2,none⟩ (.bool p.kil)).setCell ⟨q,3,none⟩ (.bool p.dfl),by simp[go_sem,h,acV],by simp[go_sem,h,cellsAc],?_⟩
 exact((((Mod.refl (λx=>x=q) W).setCell (.inl rfl) _ _).setCell (.inl rfl) _ _).setCell (.inl rfl) _ _).setCell (.inl rfl) _ _
end Go.Proofs

namespace Go.Proofs
open Go Go.Vc
attribute [local congr] Ca_congV
abbrev tCm:TypeId:=41
theorem cmC_len(c:Cm):(cmC c).length=35:=by simp[cmC,spC_len]
theorem cmC_one(c:Cm):(cmC c).all (·.oneCell')=true:=by rw[cmC,List.all_append,List.all_append,spC_one];rfl
theorem cm0(c:Cm):(cmC c)[0]? =some (.int .u8 c.kind):=rfl
theorem cm1(c:Cm):(cmC c)[1]? =some (.int .u32 c.acct):=rfl
theorem cm2(c:Cm):(cmC c)[2]? =some (.int .u32 c.ct):=rfl
theorem cm3(c:Cm):(cmC c)[3]? =some (.int .u64 c.num):=rfl
theorem cm4(c:Cm):(cmC c)[4]? =some (.int .i64 c.amt):=rfl
theorem cmHi(c:Cm)(i:Nat):(cmC c)[30+i]? =([.bool c.on,.bool c.buy,.int .u8 c.ty,.int .i64 c.price,.int .i64 c.qty]:List Value)[i]? :=by
 rw[cmC,List.getElem?_append_right (by show 5≤30+i;omega),List.getElem?_append_right (by rw[spC_len];simp;omega),spC_len]
 congr 1
 simp;omega
theorem cm30(c:Cm):(cmC c)[30]? =some (.bool c.on):=cmHi c 0
theorem cm31(c:Cm):(cmC c)[31]? =some (.bool c.buy):=cmHi c 1
theorem cm32(c:Cm):(cmC c)[32]? =some (.int .u8 c.ty):=cmHi c 2
theorem cm33(c:Cm):(cmC c)[33]? =some (.int .i64 c.price):=cmHi c 3
theorem cm34(c:Cm):(cmC c)[34]? =some (.int .i64 c.qty):=cmHi c 4
theorem aCm:isAggT Tryz.prog tCm=true:=by kernel_rfl
theorem nCm:Tryz.prog.cellsOf tCm=34+1:=by kernel_rfl
abbrev CmAt(W:World)(p:Nat)(c:Cm):Prop:=hp W p=some (.cells (cmC c).toArray tCm (0,0))
def cmV(c:Cm):Value:=.agg (cmC c).toArray
theorem boxCm(c:Cm)(w:World):∃w1,(Instr.box tCm (cmV c)).run Tryz.prog w=.ok (.pointer (some ⟨w.heap.size,0,none⟩)) w1∧CmAt w1 w.heap.size c∧Mod (λ_=>False) w w1:=
 ⟨w.alloc (.cells (cmC c).toArray tCm),rfl,by show hp _ _=_;simp[go_sem],(Mod.refl _ w).alloc _⟩
theorem cmLd{W:World}{p:Nat}{c:Cm}(h:CmAt W p c):(bigS tCm (.pointer (some ⟨p,0,none⟩))).run Tryz.prog W=.ok (cmV c) W:=run_bigS aCm nCm (cmC_len c) (At.all h)
section
variable{W:World}{p:Nat}{c:Cm}
theorem cmF1(W:World):(Instr.fieldAt tCm (.pointer (some ⟨p,0,none⟩)) 1).run Tryz.prog W=.ok (.pointer (some ⟨p,1,none⟩)) W:=by simp[go_sem]
theorem cmF2(W:World):(Instr.fieldAt tCm (.pointer (some ⟨p,0,none⟩)) 2).run Tryz.prog W=.ok (.pointer (some ⟨p,2,none⟩)) W:=by simp[go_sem]
theorem cmF3(W:World):(Instr.fieldAt tCm (.pointer (some ⟨p,0,none⟩)) 3).run Tryz.prog W=.ok (.pointer (some ⟨p,3,none⟩)) W:=by simp[go_sem]
theorem cmF4(W:World):(Instr.fieldAt tCm (.pointer (some ⟨p,0,none⟩)) 4).run Tryz.prog W=.ok (.pointer (some ⟨p,4,none⟩)) W:=by simp[go_sem]
theorem cmF6(W:World):(Instr.fieldAt tCm (.pointer (some ⟨p,0,none⟩)) 6).run Tryz.prog W=.ok (.pointer (some ⟨p,30,none⟩)) W:=by simp[go_sem]
theorem cmF7(W:World):(Instr.fieldAt tCm (.pointer (some ⟨p,0,none⟩)) 7).run Tryz.prog W=.ok (.pointer (some ⟨p,31,none⟩)) W:=by simp[go_sem]
theorem cmF8(W:World):(Instr.fieldAt tCm (.pointer (some ⟨p,0,none⟩)) 8).run Tryz.prog W=.ok (.pointer (some ⟨p,32,none⟩)) W:=by simp[go_sem]
theorem cmF9(W:World):(Instr.fieldAt tCm (.pointer (some ⟨p,0,none⟩)) 9).run Tryz.prog W=.ok (.pointer (some ⟨p,33,none⟩)) W:=by simp[go_sem]
theorem cmF10(W:World):(Instr.fieldAt tCm (.pointer (some ⟨p,0,none⟩)) 10).run Tryz.prog W=.ok (.pointer (some ⟨p,34,none⟩)) W:=by simp[go_sem]
theorem cmL1(h:CmAt W p c):(Instr.loadAt 35 (.pointer (some ⟨p,1,none⟩))).run Tryz.prog W=.ok (.int .u32 c.acct) W:=by simp[go_sem,h,cm1]
theorem cmL2(h:CmAt W p c):(Instr.loadAt 35 (.pointer (some ⟨p,2,none⟩))).run Tryz.prog W=.ok (.int .u32 c.ct) W:=by simp[go_sem,h,cm2]
theorem cmL3(h:CmAt W p c):(Instr.loadAt 27 (.pointer (some ⟨p,3,none⟩))).run Tryz.prog W=.ok (.int .u64 c.num) W:=by simp[go_sem,h,cm3]
theorem cmL4(h:CmAt W p c):(Instr.loadAt 2 (.pointer (some ⟨p,4,none⟩))).run Tryz.prog W=.ok (.int .i64 c.amt) W:=by simp[go_sem,h,cm4]
theorem cmL6(h:CmAt W p c):(Instr.loadAt 4 (.pointer (some ⟨p,30,none⟩))).run Tryz.prog W=.ok (.bool c.on) W:=by simp[go_sem,h,cm30]
theorem cmL7(h:CmAt W p c):(Instr.loadAt 4 (.pointer (some ⟨p,31,none⟩))).run Tryz.prog W=.ok (.bool c.buy) W:=by simp[go_sem,h,cm31]
theorem cmL9(h:CmAt W p c):(Instr.loadAt 2 (.pointer (some ⟨p,33,none⟩))).run Tryz.prog W=.ok (.int .i64 c.price) W:=by simp[go_sem,h,cm33]
theorem cmL10(h:CmAt W p c):(Instr.loadAt 2 (.pointer (some ⟨p,34,none⟩))).run Tryz.prog W=.ok (.int .i64 c.qty) W:=by simp[go_sem,h,cm34]
end
def Post(w:World)(v:Nat)(F:Nat→Prop)(x:Int×Rp×Ven)(K:Kont):Prop:=
 ∀sT sG sA F' w',VenQ w' v F' x.2.2→RpQ w' sT sG sA x.2.1→Mod F w w' →(∀y,F' y→F y∨w.heap.size≤y)→(∀y,inSl sT y∨inSl sG y∨inSl sA y→w.heap.size≤y∧¬F' y)→
  K (.tuple #[rpV x.2.1 sT sG sA,.int .i64 x.1]) w'
theorem Post.tell{w:World}{v:Nat}{F F' :Nat→Prop}{x:Int×Rp×Ven}{K:Kont}(h:Post w v F x K){e:Int}{r:Rp}{T:Ven}{sT sG sA:Value}{w' :World}(hx:x=(e,r,T))(h1:VenQ w' v F' T)(h2:RpQ w' sT sG sA r)(h3:Mod F w w')(h4:∀y,F' y→F y∨w.heap.size≤y)
  (h5:∀y,inSl sT y∨inSl sG y∨inSl sA y→w.heap.size≤y∧¬F' y):K (.tuple #[rpV r sT sG sA,.int .i64 e]) w' :=by
 have:=h sT sG sA F' w'
 rw[hx]at this
 exact this h1 h2 h3 h4 h5
theorem Post.nil{w:World}{v:Nat}{F F' :Nat→Prop}{x:Int×Rp×Ven}{K:Kont}(h:Post w v F x K){e:Int}{T:Ven}{w' :World}(hx:x=(e,zRp,T))(h1:VenQ w' v F' T)(h3:Mod F w w')(h4:∀y,F' y→F y∨w.heap.size≤y):K (.tuple #[rpV zRp nilV nilV nilV,.int .i64 e]) w' :=
 h.tell hx h1 (RpQ.nil _ 0) h3 h4 λy hy=>by rcases hy with hy|hy|hy<;>cases hy
theorem lookBk{W:World}{mb:Nat}{A:List (Int×Nat)}(h:MapAt encU bptr W mb A){n:Int}{b:Nat}(hb:lk A n=some b):(xLook 63 (.map (some mb)) (.int .u32 n) false).run Tryz.prog W=.ok (bptr b) W:=by
 have:=run_lookup (ok:=false) (x:=n) uMapB kU32 zBkP (.inr ⟨mb,rfl,h⟩:MapV encU bptr W (.map (some mb)) A)
 rw[hb]at this
 exact this
theorem lookBd{W:World}{md:Nat}{D:List (Int×Value)}(h:MapAt encU idV W md D)(n:Int):(xLook 64 (.map (some md)) (.int .u32 n) false).run Tryz.prog W=.ok (slOf D n) W:=by
 have:=run_lookup (ok:=false) (x:=n) uMapD kU32 zOdsP (.inr ⟨md,rfl,h⟩:MapV encU idV W (.map (some md)) D)
 unfold slOf
 cases hl:lk D n with
 |none=>rw[hl]at this;exact this
 |some x=>rw[hl]at this;exact this
end Go.Proofs
namespace Go.Proofs
open Go Go.Vc
attribute [local congr] Ca_congV
theorem nums_get{S:Ven}{n:Int}:n∈S.nums↔(calGet S.cal.l n).isSome=true:=by
 unfold Ven.nums calGet
 rw[List.mem_map,List.find?_isSome]
 constructor
 ·rintro⟨k,hk,h⟩;exact⟨k,hk,by simpa using h⟩
 ·rintro⟨k,hk,h⟩;exact⟨k,hk,by simpa using h⟩
end Go.Proofs


namespace Go.Proofs
open Go Go.Vc
attribute [local congr] Ca_congV
theorem odRd{w:World}{s:Value}{L:List Od}(h:Rd w 5 s L.length (L.flatMap odC)){i:Nat}(hi:i<L.length):
  ∃p,(Instr.indexAt 133 s (.int .i64 (i:Int))).run Tryz.prog w=.ok p w∧(Instr.loadAt tOd p).run Tryz.prog w=.ok (odV L[i]) w:=by
 obtain⟨b,off,cap,hse,hcap,hA⟩:=h.item odC_len hi rfl
 obtain⟨C,e,fz,hC,hg⟩:=hA.get
 have g0:=hg 0 (.int .u64 L[i].num) rfl
 have g1:=hg 1 (.int .u32 L[i].acct) rfl
 have g2:=hg 2 (.bool L[i].buy) rfl
 have g3:=hg 3 (.int .i64 L[i].price) rfl
 have g4:=hg 4 (.int .i64 L[i].left) rfl
 simp only[Nat.add_assoc,Nat.add_zero]at g0 g1 g2 g3 g4
 exact⟨.pointer (some ⟨b,off+i*5,none⟩),by rw[hse];simp[go_sem,hi,addr_add],by simp[go_sem,hp_of hC,g0,g1,g2,g3,g4,odC,odV]⟩
end Go.Proofs

namespace Go.Proofs
open Go Go.Vc
attribute [local congr] Ca_congV
abbrev tAc:TypeId:=92
theorem acLd{W:World}{r:Nat}{a:Ac}(h:hp W r=some (.cells (cellsAc a).toArray tAc (0,0))):(Instr.loadAt tAc (.pointer (some ⟨r,0,none⟩))).run Tryz.prog W=.ok (acV a) W:=by
 unfold cellsAc at h
 simp[go_sem,h,acV]
structure RpP(w:World)(q:Nat)(sG sA:Value)(r:Rp)(lo:Nat)(Z:Nat→Prop):Prop where
 at_:hp w q=some (.cells (rpC r nilV sG sA).toArray tRp (0,0))
 rp:RpQ w nilV sG sA r
 nw:∀y,inSl sG y∨inSl sA y→lo≤y∧y≠q∧¬Z y
end Go.Proofs

namespace Go.Proofs
open Go Go.Vc
attribute [local congr] Ca_congV
theorem nodup_len:∀{l m:List Int},l.Nodup→(∀x∈l,x∈m)→l.length≤m.length:=by
 intro l
 induction l with
 |nil=>intro m _ _;exact Nat.zero_le _
 |cons a l ih=>
  intro m hn hs
  rw[List.nodup_cons]at hn
  have ha:=hs a (List.mem_cons_self ..)
  have:=ih (m:=m.erase a) hn.2 λx hx=>by
   have hxa:x≠a:=λe=>hn.1 (e▸hx)
   exact(List.mem_erase_of_ne hxa).2 (hs x (List.mem_cons_of_mem _ hx))
  rw[List.length_erase_of_mem ha]at this
  have hpos:0<m.length:=List.length_pos_of_mem ha
  rw[List.length_cons]
  omega
theorem holders_len{L:Led}(h:L.Ok)(c:Int):(L.holders c).length≤64:=by
 have hn:((L.holders c).map (·.a)).Nodup:=by
  have hk:=(h.sp.nodup).sublist ((List.filter_sublist (p:=λp:Po=>decide (p.c=c))).map Po.key)
  show((L.held.filter λp=>decide (p.c=c)).map (·.a)).Nodup
  have e:(L.held.filter λp=>decide (p.c=c)).map Po.key=((L.held.filter λp=>decide (p.c=c)).map (·.a)).map λa=>(c,a):=by
   rw[List.map_map]
   refine List.map_congr_left λp hp=>?_
   have:=(List.mem_filter.1 hp).2
   rw[decide_eq_true_eq]at this
   show(p.c,p.a)=(c,p.a)
   rw[this]
  rw[e]at hk
  exact List.Pairwise.of_map (λa=>(c,a)) (λa b hab e=>hab (by rw[e])) hk
 have:=nodup_len (m:=L.all.map (·.num)) hn λx hx=>by
  obtain⟨p,hp,rfl⟩:=List.mem_map.1 hx
  obtain⟨a,ha,he⟩:=(h.pos p (List.mem_filter.1 hp).1).2.2.2.2.2.2.2
  exact List.mem_map.2 ⟨a,ha,he⟩
 rw[List.length_map,List.length_map]at this
 exact Nat.le_trans this h.len
theorem flt_len(p:Po→Bool):∀l:List Po,(l.filter p).length+(l.filter λx=> !p x).length=l.length:=by
 intro l
 induction l with
 |nil=>rfl
 |cons a l ih=>cases hp:p a<;>simp[hp]<;>omega
theorem held_le{L:Led}:∀(ns:List Int) (H:List Po),(∀p∈H,p.c∈ns)→H.length≤(ns.map λn=>(H.filter λp=>decide (p.c=n)).length).sum:=by
 intro ns
 induction ns with
 |nil=>intro H h;cases H with|nil=>simp|cons p H=>exact absurd (h p (List.mem_cons_self ..)) (by simp)
 |cons n ns ih=>
  intro H h
  have h1:=ih (H.filter λp=> !decide (p.c=n)) λp hp=>by
   obtain⟨hm,hc⟩:=List.mem_filter.1 hp
   rcases List.mem_cons.1 (h p hm)with e|e
   ·rw[e]at hc;simp at hc
   ·exact e
  have h2:(H.filter λp=>decide (p.c=n)).length+(H.filter λp=> !decide (p.c=n)).length=H.length:=by
   exact flt_len _ H
  have h3:(ns.map λm=>((H.filter λp=> !decide (p.c=n)).filter λp=>decide (p.c=m)).length).sum≤(ns.map λm=>(H.filter λp=>decide (p.c=m)).length).sum:=by
   clear ih h h1
   induction ns with
   |nil=>simp
   |cons m ns ih=>
    simp only[List.map_cons,List.sum_cons]
    have:((H.filter λp=> !decide (p.c=n)).filter λp=>decide (p.c=m)).length≤(H.filter λp=>decide (p.c=m)).length:=
     (List.filter_sublist.filter _).length_le
    omega
  simp only[List.map_cons,List.sum_cons]
  omega
theorem held_len{C:Cal}{L:Led}(hC:C.Ok)(h:OkL C L):L.held.length≤1024:=by
 have h1:=held_le (L:=L) (C.l.map (·.spec.num)) L.held λp hp=>by
  obtain⟨k,hk,-,hn,hm⟩:=alive_get (h.held p hp)
  exact List.mem_map.2 ⟨k,hm,hn⟩
 have h2:∀ns:List Int,(ns.map λn=>(L.held.filter λp=>decide (p.c=n)).length).sum≤64*ns.length:=by
  intro ns
  induction ns with
  |nil=>simp
  |cons n ns ih=>
   have:=holders_len h.led n
   unfold Led.holders at this
   simp only[List.map_cons,List.sum_cons,List.length_cons]
   omega
 have h3:=h2 (C.l.map (·.spec.num))
 have h4:=hC.len
 rw[List.length_map]at h3
 omega
end Go.Proofs
namespace Go.Proofs
open Go Go.Vc
attribute [local congr] Ca_congV
theorem updP_same(fp:Pt→Nat→Prop)(p:Pt):updP fp p (fp p)=fp:=by
 funext q
 unfold updP
 split
 ·rename_i h;rw[h]
 ·rfl
abbrev ErAt(W:World)(p:Nat)(e:Int):Prop:=hp W p=some (.cells #[.int .i64 e] 26 (0,0))
theorem stEr{W:World}{p:Nat}{e:Int}(x:Int)(h:ErAt W p e):∃W',(Instr.storeAt 26 (.pointer (some ⟨p,0,none⟩)) (.int .i64 x)).run Tryz.prog W=.ok () W' ∧ErAt W' p x∧Mod (λb=>b=p) W W' :=
 ⟨W.setCell ⟨p,0,none⟩ (.int .i64 x),by simp[go_sem,h],by show hp _ _=_;simp[go_sem,h],(Mod.refl (λb=>b=p) W).setCell (.inl rfl) _ _⟩
theorem ldEr{W:World}{p:Nat}{e:Int}(h:ErAt W p e):(Instr.loadAt 26 (.pointer (some ⟨p,0,none⟩))).run Tryz.prog W=.ok (.int .i64 e) W:=by simp[go_sem,h]
theorem newEr(W:World):∃W',(Instr.alloc 26 true (.tuple #[])).run Tryz.prog W=.ok (.pointer (some ⟨W.heap.size,0,none⟩)) W' ∧ErAt W' W.heap.size 0∧Mod (λ_=>False) W W' :=
 ⟨W.alloc (.cells #[.int .i64 0] 26),by simp[go_sem],by show hp _ _=_;simp[go_sem],(Mod.refl _ W).alloc _⟩
end Go.Proofs




namespace Go.Proofs
open Go Go.Vc
attribute [local congr] Ca_congV
theorem zeroCm:zeroC Tryz.prog tCm=cmC zCm:=by kernel_rfl
theorem zCmA:hasZero Tryz.prog tCm=true:=by kernel_rfl
theorem cm0F{p:Nat}(W:World):(Instr.fieldAt tCm (.pointer (some ⟨p,0,none⟩)) 0).run Tryz.prog W=.ok (.pointer (some ⟨p,0,none⟩)) W:=by simp[go_sem]
theorem cm5F{p:Nat}(W:World):(Instr.fieldAt tCm (.pointer (some ⟨p,0,none⟩)) 5).run Tryz.prog W=.ok (.pointer (some ⟨p,5,none⟩)) W:=by simp[go_sem]
theorem cm0L{W:World}{p:Nat}{c:Cm}(h:CmAt W p c):(Instr.loadAt 34 (.pointer (some ⟨p,0,none⟩))).run Tryz.prog W=.ok (.int .u8 c.kind) W:=by simp[go_sem,h,cm0]
theorem cm5At{W:World}{p:Nat}{c:Cm}(h:CmAt W p c):At W p 5 (spC c.spec):=by
 have:=(At.all h).sub 5 25 (by rw[cmC_len];omega)
 have e:((cmC c).drop 5).take 25=spC c.spec:=by
  show(spC c.spec++_).take 25=_
  rw[←spC_len c.spec,List.take_left]
 rw[e]at this
 exact this
theorem cmHiSet(c:Cm)(i:Nat)(v:Value):(cmC c).set (30+i) v=[.int .u8 c.kind,.int .u32 c.acct,.int .u32 c.ct,.int .u64 c.num,.int .i64 c.amt]++(spC c.spec++([.bool c.on,.bool c.buy,.int .u8 c.ty,.int .i64 c.price,.int .i64 c.qty]:List Value).set i v):=by
 unfold cmC
 rw[List.set_append_right _ _ (by show 5≤30+i;omega),List.set_append_right _ _ (by rw[spC_len];show 25≤30+i - 5;omega),spC_len]
 have:30+i - [Value.int .u8 c.kind,.int .u32 c.acct,.int .u32 c.ct,.int .u64 c.num,.int .i64 c.amt].length - 25=i:=by show 30+i - 5 - 25=i;omega
 rw[this]
theorem cmS1{W:World}{p:Nat}{c:Cm}(x:Int)(h:CmAt W p c):∃W',(Instr.storeAt 35 (.pointer (some ⟨p,1,none⟩)) (.int .u32 x)).run Tryz.prog W=.ok () W' ∧CmAt W' p {c with acct:=x}∧Mod (λb=>b=p) W W' :=by
 refine⟨W.setCell ⟨p,1,none⟩ (.int .u32 x),by simp[go_sem,h,cm1],?_,(Mod.refl (λb=>b=p) W).setCell (.inl rfl) _ _⟩
 show hp _ p=_
 rw[hp_setCell,if_pos rfl,h,setObj1_cells,List.setIfInBounds_toArray]
 congr 3
theorem cmS2{W:World}{p:Nat}{c:Cm}(x:Int)(h:CmAt W p c):∃W',(Instr.storeAt 35 (.pointer (some ⟨p,2,none⟩)) (.int .u32 x)).run Tryz.prog W=.ok () W' ∧CmAt W' p {c with ct:=x}∧Mod (λb=>b=p) W W' :=by
 refine⟨W.setCell ⟨p,2,none⟩ (.int .u32 x),by simp[go_sem,h,cm2],?_,(Mod.refl (λb=>b=p) W).setCell (.inl rfl) _ _⟩
 show hp _ p=_
 rw[hp_setCell,if_pos rfl,h,setObj1_cells,List.setIfInBounds_toArray]
 congr 3
theorem cmS3{W:World}{p:Nat}{c:Cm}(x:Int)(h:CmAt W p c):∃W',(Instr.storeAt 27 (.pointer (some ⟨p,3,none⟩)) (.int .u64 x)).run Tryz.prog W=.ok () W' ∧CmAt W' p {c with num:=x}∧Mod (λb=>b=p) W W' :=by
 refine⟨W.setCell ⟨p,3,none⟩ (.int .u64 x),by simp[go_sem,h,cm3],?_,(Mod.refl (λb=>b=p) W).setCell (.inl rfl) _ _⟩
 show hp _ p=_
 rw[hp_setCell,if_pos rfl,h,setObj1_cells,List.setIfInBounds_toArray]
 congr 3
theorem cmS4{W:World}{p:Nat}{c:Cm}(x:Int)(h:CmAt W p c):∃W',(Instr.storeAt 2 (.pointer (some ⟨p,4,none⟩)) (.int .i64 x)).run Tryz.prog W=.ok () W' ∧CmAt W' p {c with amt:=x}∧Mod (λb=>b=p) W W' :=by
 refine⟨W.setCell ⟨p,4,none⟩ (.int .i64 x),by simp[go_sem,h,cm4],?_,(Mod.refl (λb=>b=p) W).setCell (.inl rfl) _ _⟩
 show hp _ p=_
 rw[hp_setCell,if_pos rfl,h,setObj1_cells,List.setIfInBounds_toArray]
 congr 3
theorem cmS6{W:World}{p:Nat}{c:Cm}(x:Bool)(h:CmAt W p c):∃W',(Instr.storeAt 4 (.pointer (some ⟨p,30,none⟩)) (.bool x)).run Tryz.prog W=.ok () W' ∧CmAt W' p {c with on:=x}∧Mod (λb=>b=p) W W' :=by
 refine⟨W.setCell ⟨p,30,none⟩ (.bool x),by simp[go_sem,h,cm30],?_,(Mod.refl (λb=>b=p) W).setCell (.inl rfl) _ _⟩
 show hp _ p=_
 rw[hp_setCell,if_pos rfl,h,setObj1_cells,List.setIfInBounds_toArray]
 congr 3
 rw[show 30=30+0 from rfl,cmHiSet];rfl
theorem cmS7{W:World}{p:Nat}{c:Cm}(x:Bool)(h:CmAt W p c):∃W',(Instr.storeAt 4 (.pointer (some ⟨p,31,none⟩)) (.bool x)).run Tryz.prog W=.ok () W' ∧CmAt W' p {c with buy:=x}∧Mod (λb=>b=p) W W' :=by
 refine⟨W.setCell ⟨p,31,none⟩ (.bool x),by simp[go_sem,h,cm31],?_,(Mod.refl (λb=>b=p) W).setCell (.inl rfl) _ _⟩
 show hp _ p=_
 rw[hp_setCell,if_pos rfl,h,setObj1_cells,List.setIfInBounds_toArray]
 congr 3
 rw[show 31=30+1 from rfl,cmHiSet];rfl
theorem cmS9{W:World}{p:Nat}{c:Cm}(x:Int)(h:CmAt W p c):∃W',(Instr.storeAt 2 (.pointer (some ⟨p,33,none⟩)) (.int .i64 x)).run Tryz.prog W=.ok () W' ∧CmAt W' p {c with price:=x}∧Mod (λb=>b=p) W W' :=by
 refine⟨W.setCell ⟨p,33,none⟩ (.int .i64 x),by simp[go_sem,h,cm33],?_,(Mod.refl (λb=>b=p) W).setCell (.inl rfl) _ _⟩
 show hp _ p=_
 rw[hp_setCell,if_pos rfl,h,setObj1_cells,List.setIfInBounds_toArray]
 congr 3
 rw[show 33=30+3 from rfl,cmHiSet];rfl
theorem cmS10{W:World}{p:Nat}{c:Cm}(x:Int)(h:CmAt W p c):∃W',(Instr.storeAt 2 (.pointer (some ⟨p,34,none⟩)) (.int .i64 x)).run Tryz.prog W=.ok () W' ∧CmAt W' p {c with qty:=x}∧Mod (λb=>b=p) W W' :=by
 refine⟨W.setCell ⟨p,34,none⟩ (.int .i64 x),by simp[go_sem,h,cm34],?_,(Mod.refl (λb=>b=p) W).setCell (.inl rfl) _ _⟩
 show hp _ p=_
 rw[hp_setCell,if_pos rfl,h,setObj1_cells,List.setIfInBounds_toArray]
 congr 3
 rw[show 34=30+4 from rfl,cmHiSet];rfl
theorem cmS5{W:World}{p:Nat}{c:Cm}{K:World→Prop}(s:Sp)(h:CmAt W p c)(hK:∀W',CmAt W' p {c with spec:=s}→Mod (λb=>b=p) W W' →K W'):rux Tryz.prog (bigU 38 (.pointer (some ⟨p,5,none⟩)) (.agg (spC s).toArray)) W K:=by
 refine rux_bigU nSp (spC_len s) h (by rw[List.size_toArray,cmC_len,spC_len];omega) (spC_one s) (hK _ ?_ ((Mod.refl (λb=>b=p) W).setRow (.inl rfl) _))
 show hp _ p=_
 have e:lay (cmC c).toArray.toList 5 (spC s)=cmC {c with spec:=s}:=by
  show lay (cmC c) 5 (spC s)=_
  have h2:(cmC c).drop (5+(spC s).length)=[.bool c.on,.bool c.buy,.int .u8 c.ty,.int .i64 c.price,.int .i64 c.qty]:=by
   rw[spC_len,←spC_len c.spec,←List.drop_drop]
   show(spC c.spec++_).drop _=_
   rw[List.drop_left]
  unfold lay
  rw[h2]
  rfl
 have h3:hp (W.setRow p (lay (cmC c).toArray.toList 5 (spC s)).toArray) p=some (.cells (lay (cmC c).toArray.toList 5 (spC s)).toArray tCm (0,0)):=by
  show(W.setRow p _).heap[p]? =_
  have hh:W.heap[p]? =some (.cells (cmC c).toArray tCm (0,0)):=h
  rw[heap_setRow,if_pos rfl,hh]
 rw[h3,e]
theorem cmAll{W:World}{p:Nat}{c:Cm}{K:World→Prop}(d:Cm)(h:CmAt W p c)(hK:∀W',CmAt W' p d→Mod (λb=>b=p) W W' →K W'):rux Tryz.prog (bigU tCm (.pointer (some ⟨p,0,none⟩)) (cmV d)) W K:=by
 refine rux_bigU nCm (cmC_len d) h (by rw[List.size_toArray,cmC_len,cmC_len];omega) (cmC_one d) (hK _ ?_ ((Mod.refl (λb=>b=p) W).setRow (.inl rfl) _))
 show hp _ p=_
 have h3:hp (W.setRow p (lay (cmC c).toArray.toList 0 (cmC d)).toArray) p=some (.cells (lay (cmC c).toArray.toList 0 (cmC d)).toArray tCm (0,0)):=by
  show(W.setRow p _).heap[p]? =_
  have hh:W.heap[p]? =some (.cells (cmC c).toArray tCm (0,0)):=h
  rw[heap_setRow,if_pos rfl,hh]
 rw[h3,lay_all (by show(cmC d).length=(cmC c).length;rw[cmC_len,cmC_len])]
theorem newCm{W:World}{K:Kont}(hK:∀W',CmAt W' W.heap.size zCm→Mod (λ_=>False) W W' →K (.pointer (some ⟨W.heap.size,0,none⟩)) W'):rx Tryz.prog (bigA tCm) W K:=by
 refine rx_bigA zCmA ?_
 rw[zeroCm]
 exact hK _ (by show hp _ _=_;simp[go_sem]) ((Mod.refl _ W).alloc _)
theorem builtCm(k:Int):Tryz.prog.built tCm [(0,.int .u8 k)]=some (cmC {zCm with kind:=k}).toArray:=by
 have h1:∀parts,Tryz.prog.built tCm parts=Instr.fill (λi=>#[(0,1),(1,1),(2,1),(3,1),(4,1),(5,25),(30,1),(31,1),(32,1),(33,1),(34,1)][i]?) (zeroC Tryz.prog tCm).toArray parts:=λparts=>by kernel_rfl
 rw[h1,zeroCm]
 rw[fill_part (off:=0) (size:=1) rfl rfl (by rw[cmC_len];omega),fill_nil]
 rfl
theorem builtSp0:Tryz.prog.built 38 []=some (spC zSp).toArray:=by kernel_rfl
set_option maxRecDepth 10000 in
set_option maxHeartbeats 4000000 in
theorem ca_bare{x:Cm}{w:World}{K:Kont}(hK:∀w',Mod (λ_=>False) w w' →K (cmV x.bare) w'):Ca Tryz.prog 106 #[cmV x] w K:=by
 apply ca106
 unfold F106
 obtain⟨w1,e1,b1,m1⟩:=boxCm x w
 refine rvS e1 ?_
 obtain⟨p,hp0⟩:∃p,p=w.heap.size:=⟨_,rfl⟩
 rw[←hp0]at b1⊢
 refine newCm λw2 b2 m2=>?_
 obtain⟨z,hz0⟩:∃z,z=w1.heap.size:=⟨_,rfl⟩
 rw[←hz0]at b2⊢
 have c2:CmAt w2 p x:=m2.hpk b1 id
 refine rvS (cm0F _) (rvS (cm0L c2) ?_)
 refine rx_bigB (builtCm x.kind) ?_
 refine newCm λw3 b3 m3=>?_
 obtain⟨q,hq0⟩:∃q,q=w2.heap.size:=⟨_,rfl⟩
 rw[←hq0]at b3⊢
 have hpz:p<z:=by have:=lt_of_heap b1;omega
 have hzq:z<q:=by have:=lt_of_heap b2;omega
 refine cmAll {zCm with kind:=x.kind} b3 λw4 b4 m4=>?_
 have c4:CmAt w4 p x:=m4.hpk (m3.hpk c2 id) (by omega)
 have z4:CmAt w4 z zCm:=m4.hpk (m3.hpk b2 id) (by omega)
 have M4:Mod (λy=>y=z∨y=q) w w4:=(((m1.trans m2).trans m3).mono λ_ _ h=>h.elim).trans (m4.mono λy _ hy=>.inr hy)
 clear b1 b2 b3 c2 e1 m1 m2 m3 m4
 refine rvS (cm0F _) (rvS (cm0L c4) ?_)
 have fin:∀(b:Cm) (W:World),x.bare=b→CmAt W q b→CmAt W z zCm→Mod (λy=>y=z∨y=q) w4 W→rx Tryz.prog (bigS tCm (.pointer (some ⟨q,0,none⟩))) W λv32 w33=>rux Tryz.prog (bigU tCm (.pointer (some ⟨z,0,none⟩)) v32) w33 λw34=>rdX Tryz.prog (bigS tCm (.pointer (some ⟨z,0,none⟩))) w34 λv35=>K v35 w34:=by
  intro b W hb h1 h2 hm
  refine rx_of (cmLd h1) ?_
  refine cmAll b h2 λW2 a2 n2=>?_
  refine rdX_of (cmLd a2) ?_
  rw[←hb]
  exact hK W2 ((Mod.refl (λ_=>False) w).on ((M4.trans hm).trans (n2.mono λy _ hy=>.inl hy)) λy hy=>.inr (by rcases hy with hy|hy<;>omega))
 have hzq' :z≠q:=by omega
 have hpq' :p≠q:=by omega
 refine JoinW.at (λst W=>st=(.bool (decide (x.kind=1∨x.kind=2)),())∧w4=W) ?_ ?_
 ·by_cases h1:x.kind=1
  ·refine rvS (v:=.bool true) (w' :=w4) (by simp[go_sem,h1]) ?_
   rw[ifB_bool,if_pos rfl]
   exact⟨by simp[h1],rfl⟩
  ·refine rvS (v:=.bool false) (w' :=w4) (by simp[go_sem,h1]) ?_
   rw[ifB_bool,if_neg Bool.false_ne_true]
   refine rvS (v:=.bool (decide (x.kind=2))) (w' :=w4) (by simp[go_sem];rfl) ?_
   exact⟨by simp[h1],rfl⟩
 rintro _ _ ⟨rfl,rfl⟩
 unfold J106_0
 intro _
 by_cases h12:x.kind=1∨x.kind=2
 ·rw[ifB_bool,if_pos (decide_eq_true h12)]
  have hbare:x.bare={zCm with kind:=x.kind,acct:=x.acct,amt:=x.amt}:=by unfold Cm.bare;simp only;rw[if_pos h12]
  have mdr:Mod (λ_=>False) w4 w4.drew:=(Mod.refl _ w4).drew
  have c5:CmAt w4.drew p x:=mdr.hpk c4 id
  have q5:CmAt w4.drew q {zCm with kind:=x.kind}:=mdr.hpk b4 id
  have z5:CmAt w4.drew z zCm:=mdr.hpk z4 id
  have M5:Mod (λy=>y=z∨y=q) w4 w4.drew:=mdr.mono λ_ _ h=>h.elim
  generalize w4.drew=w5 at mdr c5 q5 z5 M5⊢
  refine rdPS cmF1 (rdWS (cmL1 c5) ?_)
  refine rdPS cmF4 (rdWS (cmL4 c5) ?_)
  refine rdPS cmF1 ?_
  obtain⟨w6,e6,q6,m6⟩:=cmS1 x.acct q5
  have c6:CmAt w6 p x:=m6.hpk c5 hpq'
  have z6:CmAt w6 z zCm:=m6.hpk z5 hzq'
  have M6:Mod (λy=>y=z∨y=q) w4 w6:=M5.trans (m6.mono λy _ hy=>.inr hy)
  refine ruS e6 ⟨cmL4 c6,?_⟩
  refine rdPS cmF4 ?_
  obtain⟨w7,e7,q7,m7⟩:=cmS4 x.amt q6
  have c7:CmAt w7 p x:=m7.hpk c6 hpq'
  have z7:CmAt w7 z zCm:=m7.hpk z6 hzq'
  have M7:Mod (λy=>y=z∨y=q) w4 w7:=M6.trans (m7.mono λy _ hy=>.inr hy)
  refine ruS e7 ?_
  exact fin _ w7 hbare q7 z7 M7
 rw[ifB_bool,if_neg (by rw[decide_eq_true_eq];exact h12)]
 by_cases h3:x.kind=3
 ·refine rvS (v:=.bool true) (w' :=w4) (by simp[go_sem,h3]) ?_
  rw[ifB_bool,if_pos rfl]
  have hbare:x.bare={zCm with kind:=x.kind,spec:=x.spec}:=by unfold Cm.bare;simp only;rw[if_neg h12,if_pos h3]
  refine rvS (cm5F _) ?_
  refine rx_bigS (spC x.spec) 24 aSp nSp (spC_len _) (cm5At c4) ?_
  refine rvS (cm5F _) ?_
  refine cmS5 x.spec b4 λw6 q6 m6=>?_
  exact fin _ w6 hbare q6 (m6.hpk z4 hzq') (m6.mono λy _ hy=>.inr hy)
 refine rvS (v:=.bool false) (w' :=w4) (by simp[go_sem,h3]) ?_
 rw[ifB_bool,if_neg Bool.false_ne_true]
 by_cases h4:x.kind=4
 ·refine rvS (v:=.bool true) (w' :=w4) (by simp[go_sem,h4]) ?_
  rw[ifB_bool,if_pos rfl]
  have hbare:x.bare={zCm with kind:=x.kind,ct:=x.ct,on:=x.on}:=by unfold Cm.bare;simp only;rw[if_neg h12,if_neg h3,if_pos h4]
  have mdr:Mod (λ_=>False) w4 w4.drew:=(Mod.refl _ w4).drew
  have c5:CmAt w4.drew p x:=mdr.hpk c4 id
  have q5:CmAt w4.drew q {zCm with kind:=x.kind}:=mdr.hpk b4 id
  have z5:CmAt w4.drew z zCm:=mdr.hpk z4 id
  have M5:Mod (λy=>y=z∨y=q) w4 w4.drew:=mdr.mono λ_ _ h=>h.elim
  generalize w4.drew=w5 at mdr c5 q5 z5 M5⊢
  refine rdPS cmF2 (rdWS (cmL2 c5) ?_)
  refine rdPS cmF6 (rdWS (cmL6 c5) ?_)
  refine rdPS cmF2 ?_
  obtain⟨w6,e6,q6,m6⟩:=cmS2 x.ct q5
  have c6:CmAt w6 p x:=m6.hpk c5 hpq'
  have z6:CmAt w6 z zCm:=m6.hpk z5 hzq'
  have M6:Mod (λy=>y=z∨y=q) w4 w6:=M5.trans (m6.mono λy _ hy=>.inr hy)
  refine ruS e6 ⟨cmL6 c6,?_⟩
  refine rdPS cmF6 ?_
  obtain⟨w7,e7,q7,m7⟩:=cmS6 x.on q6
  have c7:CmAt w7 p x:=m7.hpk c6 hpq'
  have z7:CmAt w7 z zCm:=m7.hpk z6 hzq'
  have M7:Mod (λy=>y=z∨y=q) w4 w7:=M6.trans (m7.mono λy _ hy=>.inr hy)
  refine ruS e7 ?_
  exact fin _ w7 hbare q7 z7 M7
 refine rvS (v:=.bool false) (w' :=w4) (by simp[go_sem,h4]) ?_
 rw[ifB_bool,if_neg Bool.false_ne_true]
 by_cases h5:x.kind=5
 ·refine rvS (v:=.bool true) (w' :=w4) (by simp[go_sem,h5]) ?_
  rw[ifB_bool,if_pos rfl]
  have hbare:x.bare={x with num:=0,amt:=0,spec:=zSp,on:=false}:=by unfold Cm.bare;simp only;rw[if_neg h12,if_neg h3,if_neg h4,if_pos h5]
  refine rx_of (cmLd c4) ?_
  refine cmAll x b4 λw5 q5 m5=>?_
  refine rx_bigB builtSp0 ?_
  refine rvS (cmF3 _) ?_
  obtain⟨w6,e6,q6,m6⟩:=cmS3 0 q5
  refine ruS e6 (rvS (cmF4 _) ?_)
  obtain⟨w7,e7,q7,m7⟩:=cmS4 0 q6
  refine ruS e7 (rvS (cm5F _) ?_)
  refine cmS5 zSp q7 λw8 q8 m8=>?_
  refine rvS (cmF6 _) ?_
  obtain⟨w9,e9,q9,m9⟩:=cmS6 false q8
  refine ruS e9 ?_
  have M9:Mod (λy=>y=q) w4 w9:=(((m5.trans m6).trans m7).trans m8).trans m9
  exact fin _ w9 hbare q9 (M9.hpk z4 hzq') (M9.mono λy _ hy=>.inr hy)
 refine rvS (v:=.bool false) (w' :=w4) (by simp[go_sem,h5]) ?_
 rw[ifB_bool,if_neg Bool.false_ne_true]
 by_cases h6:x.kind=6
 ·refine rvS (v:=.bool true) (w' :=w4) (by simp[go_sem,h6]) ?_
  rw[ifB_bool,if_pos rfl]
  have hbare:x.bare={zCm with kind:=x.kind,acct:=x.acct,num:=x.num}:=by unfold Cm.bare;simp only;rw[if_neg h12,if_neg h3,if_neg h4,if_neg h5,if_pos h6]
  have mdr:Mod (λ_=>False) w4 w4.drew:=(Mod.refl _ w4).drew
  have c5:CmAt w4.drew p x:=mdr.hpk c4 id
  have q5:CmAt w4.drew q {zCm with kind:=x.kind}:=mdr.hpk b4 id
  have z5:CmAt w4.drew z zCm:=mdr.hpk z4 id
  have M5:Mod (λy=>y=z∨y=q) w4 w4.drew:=mdr.mono λ_ _ h=>h.elim
  generalize w4.drew=w5 at mdr c5 q5 z5 M5⊢
  refine rdPS cmF1 (rdWS (cmL1 c5) ?_)
  refine rdPS cmF3 (rdWS (cmL3 c5) ?_)
  refine rdPS cmF1 ?_
  obtain⟨w6,e6,q6,m6⟩:=cmS1 x.acct q5
  have c6:CmAt w6 p x:=m6.hpk c5 hpq'
  have z6:CmAt w6 z zCm:=m6.hpk z5 hzq'
  have M6:Mod (λy=>y=z∨y=q) w4 w6:=M5.trans (m6.mono λy _ hy=>.inr hy)
  refine ruS e6 ⟨cmL3 c6,?_⟩
  refine rdPS cmF3 ?_
  obtain⟨w7,e7,q7,m7⟩:=cmS3 x.num q6
  have c7:CmAt w7 p x:=m7.hpk c6 hpq'
  have z7:CmAt w7 z zCm:=m7.hpk z6 hzq'
  have M7:Mod (λy=>y=z∨y=q) w4 w7:=M6.trans (m7.mono λy _ hy=>.inr hy)
  refine ruS e7 ?_
  exact fin _ w7 hbare q7 z7 M7
 refine rvS (v:=.bool false) (w' :=w4) (by simp[go_sem,h6]) ?_
 rw[ifB_bool,if_neg Bool.false_ne_true]
 by_cases h7:x.kind=7
 ·refine rvS (v:=.bool true) (w' :=w4) (by simp[go_sem,h7]) ?_
  rw[ifB_bool,if_pos rfl]
  have hbare:x.bare={zCm with kind:=x.kind,acct:=x.acct,num:=x.num,price:=x.price,qty:=x.qty}:=by unfold Cm.bare;simp only;rw[if_neg h12,if_neg h3,if_neg h4,if_neg h5,if_neg h6,if_pos h7]
  have mdr:Mod (λ_=>False) w4 w4.drew:=(Mod.refl _ w4).drew
  have c5:CmAt w4.drew p x:=mdr.hpk c4 id
  have q5:CmAt w4.drew q {zCm with kind:=x.kind}:=mdr.hpk b4 id
  have z5:CmAt w4.drew z zCm:=mdr.hpk z4 id
  have M5:Mod (λy=>y=z∨y=q) w4 w4.drew:=mdr.mono λ_ _ h=>h.elim
  generalize w4.drew=w5 at mdr c5 q5 z5 M5⊢
  refine rdPS cmF1 (rdWS (cmL1 c5) ?_)
  refine rdPS cmF3 (rdWS (cmL3 c5) ?_)
  refine rdPS cmF9 (rdWS (cmL9 c5) ?_)
  refine rdPS cmF10 (rdWS (cmL10 c5) ?_)
  refine rdPS cmF1 ?_
  obtain⟨w6,e6,q6,m6⟩:=cmS1 x.acct q5
  have c6:CmAt w6 p x:=m6.hpk c5 hpq'
  have z6:CmAt w6 z zCm:=m6.hpk z5 hzq'
  have M6:Mod (λy=>y=z∨y=q) w4 w6:=M5.trans (m6.mono λy _ hy=>.inr hy)
  refine ruS e6 ⟨cmL10 c6,cmL9 c6,cmL3 c6,?_⟩
  refine rdPS cmF3 ?_
  obtain⟨w7,e7,q7,m7⟩:=cmS3 x.num q6
  have c7:CmAt w7 p x:=m7.hpk c6 hpq'
  have z7:CmAt w7 z zCm:=m7.hpk z6 hzq'
  have M7:Mod (λy=>y=z∨y=q) w4 w7:=M6.trans (m7.mono λy _ hy=>.inr hy)
  refine ruS e7 ⟨cmL10 c7,cmL9 c7,?_⟩
  refine rdPS cmF9 ?_
  obtain⟨w8,e8,q8,m8⟩:=cmS9 x.price q7
  have c8:CmAt w8 p x:=m8.hpk c7 hpq'
  have z8:CmAt w8 z zCm:=m8.hpk z7 hzq'
  have M8:Mod (λy=>y=z∨y=q) w4 w8:=M7.trans (m8.mono λy _ hy=>.inr hy)
  refine ruS e8 ⟨cmL10 c8,?_⟩
  refine rdPS cmF10 ?_
  obtain⟨w9,e9,q9,m9⟩:=cmS10 x.qty q8
  have c9:CmAt w9 p x:=m9.hpk c8 hpq'
  have z9:CmAt w9 z zCm:=m9.hpk z8 hzq'
  have M9:Mod (λy=>y=z∨y=q) w4 w9:=M8.trans (m9.mono λy _ hy=>.inr hy)
  refine ruS e9 ?_
  exact fin _ w9 hbare q9 z9 M9
 refine rvS (v:=.bool false) (w' :=w4) (by simp[go_sem,h7]) ?_
 rw[ifB_bool,if_neg Bool.false_ne_true]
 by_cases h8:x.kind=8
 ·refine rvS (v:=.bool true) (w' :=w4) (by simp[go_sem,h8]) ?_
  rw[ifB_bool,if_pos rfl]
  have hbare:x.bare={zCm with kind:=x.kind,acct:=x.acct,ct:=x.ct}:=by unfold Cm.bare;simp only;rw[if_neg h12,if_neg h3,if_neg h4,if_neg h5,if_neg h6,if_neg h7,if_pos h8]
  have mdr:Mod (λ_=>False) w4 w4.drew:=(Mod.refl _ w4).drew
  have c5:CmAt w4.drew p x:=mdr.hpk c4 id
  have q5:CmAt w4.drew q {zCm with kind:=x.kind}:=mdr.hpk b4 id
  have z5:CmAt w4.drew z zCm:=mdr.hpk z4 id
  have M5:Mod (λy=>y=z∨y=q) w4 w4.drew:=mdr.mono λ_ _ h=>h.elim
  generalize w4.drew=w5 at mdr c5 q5 z5 M5⊢
  refine rdPS cmF1 (rdWS (cmL1 c5) ?_)
  refine rdPS cmF2 (rdWS (cmL2 c5) ?_)
  refine rdPS cmF1 ?_
  obtain⟨w6,e6,q6,m6⟩:=cmS1 x.acct q5
  have c6:CmAt w6 p x:=m6.hpk c5 hpq'
  have z6:CmAt w6 z zCm:=m6.hpk z5 hzq'
  have M6:Mod (λy=>y=z∨y=q) w4 w6:=M5.trans (m6.mono λy _ hy=>.inr hy)
  refine ruS e6 ⟨cmL2 c6,?_⟩
  refine rdPS cmF2 ?_
  obtain⟨w7,e7,q7,m7⟩:=cmS2 x.ct q6
  have c7:CmAt w7 p x:=m7.hpk c6 hpq'
  have z7:CmAt w7 z zCm:=m7.hpk z6 hzq'
  have M7:Mod (λy=>y=z∨y=q) w4 w7:=M6.trans (m7.mono λy _ hy=>.inr hy)
  refine ruS e7 ?_
  exact fin _ w7 hbare q7 z7 M7
 refine rvS (v:=.bool false) (w' :=w4) (by simp[go_sem,h8]) ?_
 rw[ifB_bool,if_neg Bool.false_ne_true]
 by_cases h9:x.kind=9
 ·refine rvS (v:=.bool true) (w' :=w4) (by simp[go_sem,h9]) ?_
  rw[ifB_bool,if_pos rfl]
  have hbare:x.bare={zCm with kind:=x.kind,acct:=x.acct,ct:=x.ct,buy:=x.buy,price:=x.price,qty:=x.qty}:=by unfold Cm.bare;simp only;rw[if_neg h12,if_neg h3,if_neg h4,if_neg h5,if_neg h6,if_neg h7,if_neg h8,if_pos h9]
  have mdr:Mod (λ_=>False) w4 w4.drew:=(Mod.refl _ w4).drew
  have c5:CmAt w4.drew p x:=mdr.hpk c4 id
  have q5:CmAt w4.drew q {zCm with kind:=x.kind}:=mdr.hpk b4 id
  have z5:CmAt w4.drew z zCm:=mdr.hpk z4 id
  have M5:Mod (λy=>y=z∨y=q) w4 w4.drew:=mdr.mono λ_ _ h=>h.elim
  generalize w4.drew=w5 at mdr c5 q5 z5 M5⊢
  refine rdPS cmF1 (rdWS (cmL1 c5) ?_)
  refine rdPS cmF2 (rdWS (cmL2 c5) ?_)
  refine rdPS cmF7 (rdWS (cmL7 c5) ?_)
  refine rdPS cmF9 (rdWS (cmL9 c5) ?_)
  refine rdPS cmF10 (rdWS (cmL10 c5) ?_)
  refine rdPS cmF1 ?_
  obtain⟨w6,e6,q6,m6⟩:=cmS1 x.acct q5
  have c6:CmAt w6 p x:=m6.hpk c5 hpq'
  have z6:CmAt w6 z zCm:=m6.hpk z5 hzq'
  have M6:Mod (λy=>y=z∨y=q) w4 w6:=M5.trans (m6.mono λy _ hy=>.inr hy)
  refine ruS e6 ⟨cmL10 c6,cmL9 c6,cmL7 c6,cmL2 c6,?_⟩
  refine rdPS cmF2 ?_
  obtain⟨w7,e7,q7,m7⟩:=cmS2 x.ct q6
  have c7:CmAt w7 p x:=m7.hpk c6 hpq'
  have z7:CmAt w7 z zCm:=m7.hpk z6 hzq'
  have M7:Mod (λy=>y=z∨y=q) w4 w7:=M6.trans (m7.mono λy _ hy=>.inr hy)
  refine ruS e7 ⟨cmL10 c7,cmL9 c7,cmL7 c7,?_⟩
  refine rdPS cmF7 ?_
  obtain⟨w8,e8,q8,m8⟩:=cmS7 x.buy q7
  have c8:CmAt w8 p x:=m8.hpk c7 hpq'
  have z8:CmAt w8 z zCm:=m8.hpk z7 hzq'
  have M8:Mod (λy=>y=z∨y=q) w4 w8:=M7.trans (m8.mono λy _ hy=>.inr hy)
  refine ruS e8 ⟨cmL10 c8,cmL9 c8,?_⟩
  refine rdPS cmF9 ?_
  obtain⟨w9,e9,q9,m9⟩:=cmS9 x.price q8
  have c9:CmAt w9 p x:=m9.hpk c8 hpq'
  have z9:CmAt w9 z zCm:=m9.hpk z8 hzq'
  have M9:Mod (λy=>y=z∨y=q) w4 w9:=M8.trans (m9.mono λy _ hy=>.inr hy)
  refine ruS e9 ⟨cmL10 c9,?_⟩
  refine rdPS cmF10 ?_
  obtain⟨w10,e10,q10,m10⟩:=cmS10 x.qty q9
  have c10:CmAt w10 p x:=m10.hpk c9 hpq'
  have z10:CmAt w10 z zCm:=m10.hpk z9 hzq'
  have M10:Mod (λy=>y=z∨y=q) w4 w10:=M9.trans (m10.mono λy _ hy=>.inr hy)
  refine ruS e10 ?_
  exact fin _ w10 hbare q10 z10 M10
 refine rvS (v:=.bool false) (w' :=w4) (by simp[go_sem,h9]) ?_
 rw[ifB_bool,if_neg Bool.false_ne_true]
 by_cases h10:x.kind=10
 ·refine rvS (v:=.bool true) (w' :=w4) (by simp[go_sem,h10]) ?_
  rw[ifB_bool,if_pos rfl]
  have hbare:x.bare={zCm with kind:=x.kind,acct:=x.acct,on:=x.on}:=by unfold Cm.bare;simp only;rw[if_neg h12,if_neg h3,if_neg h4,if_neg h5,if_neg h6,if_neg h7,if_neg h8,if_neg h9,if_pos h10]
  have mdr:Mod (λ_=>False) w4 w4.drew:=(Mod.refl _ w4).drew
  have c5:CmAt w4.drew p x:=mdr.hpk c4 id
  have q5:CmAt w4.drew q {zCm with kind:=x.kind}:=mdr.hpk b4 id
  have z5:CmAt w4.drew z zCm:=mdr.hpk z4 id
  have M5:Mod (λy=>y=z∨y=q) w4 w4.drew:=mdr.mono λ_ _ h=>h.elim
  generalize w4.drew=w5 at mdr c5 q5 z5 M5⊢
  refine rdPS cmF1 (rdWS (cmL1 c5) ?_)
  refine rdPS cmF6 (rdWS (cmL6 c5) ?_)
  refine rdPS cmF1 ?_
  obtain⟨w6,e6,q6,m6⟩:=cmS1 x.acct q5
  have c6:CmAt w6 p x:=m6.hpk c5 hpq'
  have z6:CmAt w6 z zCm:=m6.hpk z5 hzq'
  have M6:Mod (λy=>y=z∨y=q) w4 w6:=M5.trans (m6.mono λy _ hy=>.inr hy)
  refine ruS e6 ⟨cmL6 c6,?_⟩
  refine rdPS cmF6 ?_
  obtain⟨w7,e7,q7,m7⟩:=cmS6 x.on q6
  have c7:CmAt w7 p x:=m7.hpk c6 hpq'
  have z7:CmAt w7 z zCm:=m7.hpk z6 hzq'
  have M7:Mod (λy=>y=z∨y=q) w4 w7:=M6.trans (m7.mono λy _ hy=>.inr hy)
  refine ruS e7 ?_
  exact fin _ w7 hbare q7 z7 M7
 refine rvS (v:=.bool false) (w' :=w4) (by simp[go_sem,h10]) ?_
 rw[ifB_bool,if_neg Bool.false_ne_true]
 by_cases h11:x.kind=11
 ·refine rvS (v:=.bool true) (w' :=w4) (by simp[go_sem,h11]) ?_
  rw[ifB_bool,if_pos rfl]
  have hbare:x.bare={zCm with kind:=x.kind,ct:=x.ct,price:=x.price}:=by unfold Cm.bare;simp only;rw[if_neg h12,if_neg h3,if_neg h4,if_neg h5,if_neg h6,if_neg h7,if_neg h8,if_neg h9,if_neg h10,if_pos h11]
  have mdr:Mod (λ_=>False) w4 w4.drew:=(Mod.refl _ w4).drew
  have c5:CmAt w4.drew p x:=mdr.hpk c4 id
  have q5:CmAt w4.drew q {zCm with kind:=x.kind}:=mdr.hpk b4 id
  have z5:CmAt w4.drew z zCm:=mdr.hpk z4 id
  have M5:Mod (λy=>y=z∨y=q) w4 w4.drew:=mdr.mono λ_ _ h=>h.elim
  generalize w4.drew=w5 at mdr c5 q5 z5 M5⊢
  refine rdPS cmF2 (rdWS (cmL2 c5) ?_)
  refine rdPS cmF9 (rdWS (cmL9 c5) ?_)
  refine rdPS cmF2 ?_
  obtain⟨w6,e6,q6,m6⟩:=cmS2 x.ct q5
  have c6:CmAt w6 p x:=m6.hpk c5 hpq'
  have z6:CmAt w6 z zCm:=m6.hpk z5 hzq'
  have M6:Mod (λy=>y=z∨y=q) w4 w6:=M5.trans (m6.mono λy _ hy=>.inr hy)
  refine ruS e6 ⟨cmL9 c6,?_⟩
  refine rdPS cmF9 ?_
  obtain⟨w7,e7,q7,m7⟩:=cmS9 x.price q6
  have c7:CmAt w7 p x:=m7.hpk c6 hpq'
  have z7:CmAt w7 z zCm:=m7.hpk z6 hzq'
  have M7:Mod (λy=>y=z∨y=q) w4 w7:=M6.trans (m7.mono λy _ hy=>.inr hy)
  refine ruS e7 ?_
  exact fin _ w7 hbare q7 z7 M7
 refine rvS (v:=.bool false) (w' :=w4) (by simp[go_sem,h11]) ?_
 rw[ifB_bool,if_neg Bool.false_ne_true]
 by_cases h13:x.kind=13
 ·refine rvS (v:=.bool true) (w' :=w4) (by simp[go_sem,h13]) ?_
  rw[ifB_bool,if_pos rfl]
  have hbare:x.bare={zCm with kind:=x.kind,acct:=x.acct}:=by unfold Cm.bare;simp only;rw[if_neg h12,if_neg h3,if_neg h4,if_neg h5,if_neg h6,if_neg h7,if_neg h8,if_neg h9,if_neg h10,if_neg h11,if_pos h13]
  refine rvS (cmF1 _) (rvS (cmL1 c4) (rvS (cmF1 _) ?_))
  obtain⟨w6,e6,q6,m6⟩:=cmS1 x.acct b4
  refine ruS e6 ?_
  exact fin _ w6 hbare q6 (m6.hpk z4 hzq') (m6.mono λy _ hy=>.inr hy)
 refine rvS (v:=.bool false) (w' :=w4) (by simp[go_sem,h13]) ?_
 rw[ifB_bool,if_neg Bool.false_ne_true]
 by_cases h14:x.kind=14
 ·refine rvS (v:=.bool true) (w' :=w4) (by simp[go_sem,h14]) ?_
  rw[ifB_bool,if_pos rfl]
  have hbare:x.bare={zCm with kind:=x.kind,ct:=x.ct}:=by unfold Cm.bare;simp only;rw[if_neg h12,if_neg h3,if_neg h4,if_neg h5,if_neg h6,if_neg h7,if_neg h8,if_neg h9,if_neg h10,if_neg h11,if_neg h13,if_pos h14]
  refine rvS (cmF2 _) (rvS (cmL2 c4) (rvS (cmF2 _) ?_))
  obtain⟨w6,e6,q6,m6⟩:=cmS2 x.ct b4
  refine ruS e6 ?_
  exact fin _ w6 hbare q6 (m6.hpk z4 hzq') (m6.mono λy _ hy=>.inr hy)
 refine rvS (v:=.bool false) (w' :=w4) (by simp[go_sem,h14]) ?_
 rw[ifB_bool,if_neg Bool.false_ne_true]
 have hbare:x.bare={zCm with kind:=x.kind}:=by unfold Cm.bare;simp only;rw[if_neg h12,if_neg h3,if_neg h4,if_neg h5,if_neg h6,if_neg h7,if_neg h8,if_neg h9,if_neg h10,if_neg h11,if_neg h13,if_neg h14]
 exact fin _ w4 hbare b4 z4 (Mod.refl _ _)
end Go.Proofs
namespace Go.Proofs
open Go Go.Vc
attribute [local congr] Ca_congV
theorem eqItems_i64{P:Program}{w:World}{e:TypeId}(he:P.underlying e=some (.int .i64))(d:Nat)(x y:List Int)(hl:x.length=y.length):∀(k i:Nat),i+k=x.length→
  (Op.eqItems (d+1) e 1 (x.map λn=>Value.int .i64 n).toArray (y.map λn=>Value.int .i64 n).toArray (List.range' i k)).run P w=.ok (decide (x.drop i=y.drop i)) w
 |0,i,h=>by
  have h1:x.drop i=[]:=List.drop_of_length_le (by omega)
  have h2:y.drop i=[]:=List.drop_of_length_le (by omega)
  simp[Op.eqItems,h1,h2]
 |k+1,i,h=>by
  have hx:i<x.length:=by omega
  have hy:i<y.length:=by omega
  have hpart:∀(z:List Int) (hz:i<z.length),(part e (z.map λn=>Value.int .i64 n).toArray (i*1)).run P w=.ok (.int .i64 z[i]) w:=by
   intro z hz
   have h1:(z.map λn=>Value.int .i64 n).toArray[i]? =some (.int .i64 z[i]):=by
    rw[List.getElem?_toArray,List.getElem?_map,List.getElem?_eq_getElem hz]
    rfl
   have h2:(isAgg e).run P w=.ok false w:=by
    unfold isAgg
    simp[run_underlying he,Result.andThen]
   simp[part,h2,Result.andThen,h1]
  rw[List.range'_succ]
  unfold Op.eqItems
  simp only[Sem.run_bind,hpart x hx,hpart y hy,Result.andThen]
  rw[run_equalIn_int w d e .i64 .i64 _ _ he]
  rw[List.drop_eq_getElem_cons hx,List.drop_eq_getElem_cons hy]
  by_cases hxy:x[i]=y[i]
  ·have e1:(x[i]==y[i])=true:=by simp[hxy]
   simp only[e1,hxy,List.cons.injEq,true_and]
   have:=eqItems_i64 (w:=w) he d x y hl k (i+1) (by omega)
   simpa using this
  ·have e1:(x[i]==y[i])=false:=by simpa using hxy
   simp only[e1,List.cons.injEq,hxy,false_and,decide_false]
   simp
set_option maxRecDepth 10000 in
theorem eq_sh(x y:Vector Int 16)(d:Nat)(w:World):(Op.equalIn (d+2) 36 (.agg (shC x).toArray) (.agg (shC y).toArray)).run Tryz.prog w=.ok (decide (x=y)) w:=by
 obtain⟨i2,h2,-⟩:=info_of_cells (P:=Tryz.prog) (t:=2) (n:=0) (by kernel_rfl)
 have hu:Tryz.prog.underlying 36=some (.array 16 2):=by kernel_rfl
 have hc:Tryz.prog.cellsOf 2=1:=by kernel_rfl
 rw[run_equalIn_array w (d+1) _ _ hu h2,hc]
 have:=eqItems_i64 (P:=Tryz.prog) (w:=w) (e:=2) (by kernel_rfl) d x.toList y.toList (by simp) 16 0 (by simp)
 rw[List.range_eq_range']
 show(Op.eqItems (d+1) _ 1 (x.toList.map λn=>Value.int .i64 n).toArray (y.toList.map λn=>Value.int .i64 n).toArray (List.range' 0 16)).run Tryz.prog w=_
 rw[this]
 congr 1
 have hxy:(x.toList=y.toList)↔x=y:=by
  constructor
  ·intro h
   exact Vector.toList_inj.1 h
  ·rintro rfl;rfl
 simp only[List.drop_zero]
 exact decide_eq_decide.2 hxy
theorem eqF_c{P:Program}{w:World}{dd:Nat}{xs ys:Array Value}{f:Field}{fs:List Field}{a b:Value}{r r' :Bool}(hn:f.name≠ "_")(h1:(part f.type xs f.offset).run P w=.ok a w)(h2:(part f.type ys f.offset).run P w=.ok b w)
  (h3:(Op.equalIn dd f.type a b).run P w=.ok r w)(h4:(Op.eqFields dd xs ys fs).run P w=.ok r' w):(Op.eqFields dd xs ys (f::fs)).run P w=.ok (r&& r') w:=by
 simp only[Op.eqFields,hn,ne_eq,not_false_eq_true,if_true,Sem.run_bind,h1,h2,h3,Result.andThen_ok]
 cases r
 ·simp
 ·simpa using h4
theorem eqF_n{P:Program}{w:World}{dd:Nat}{xs ys:Array Value}:(Op.eqFields dd xs ys []).run P w=.ok true w:=by simp[Op.eqFields]
theorem partS{P:Program}{w:World}{e:TypeId}{l:List Value}{off:Nat}{v:Value}(he:P.plainKey e=true)(h:l[off]? =some v):(part e l.toArray off).run P w=.ok v w:=run_part_plain w he (by simpa using h)
theorem partA{P:Program}{w:World}{e:TypeId}{l m:List Value}{off n:Nat}(ha:isAggT P e=true)(hn:P.cellsOf e=n+1)(h:(l.drop off).take (n+1)=m):(part e l.toArray off).run P w=.ok (.agg m.toArray) w:=by
 have e1:l.toArray.extract off (off+(n+1))=m.toArray:=by
  apply Array.ext'
  rw[Array.toList_extract]
  simp[List.extract,h]
 simp[part,run_isAgg ha,Go.Vc.run_sizeOf hn,Result.andThen,h]
theorem eqB(x y:Bool)(d:Nat)(w:World):(Op.equalIn (d+1) 4 (.bool x) (.bool y)).run Tryz.prog w=.ok (x==y) w:=by
 have hu:Tryz.prog.underlying 4=some .bool:=by kernel_rfl
 simp[Op.equalIn,run_underlying hu,Result.andThen]
set_option maxRecDepth 10000 in
theorem eq_sp(a b:Sp)(d:Nat)(w:World):(Op.equalIn (d+3) 38 (.agg (spC a).toArray) (.agg (spC b).toArray)).run Tryz.prog w=.ok (decide (a=b)) w:=by
 have u:Tryz.prog.underlying 38=some (.struct (Tryz.prog.fieldsOf 38)):=by kernel_rfl
 have h:Tryz.prog.stoodInHeld 38=false:=by kernel_rfl
 rw[run_equalIn_struct w (d+2) 38 _ _ u h]
 unfold Program.fieldsOf
 rw[Tryz.underlying38]
 have hsh:∀s:Sp,((spC s).drop 6).take 16=shC s.shifts:=spC_shift
 have g22:∀s:Sp,(spC s)[22]? =some (.int .i64 s.credit)∧(spC s)[23]? =some (.int .u32 s.last)∧(spC s)[24]? =some (.int .i64 s.first):=λs=>by
  have key:∀i,(spC s)[22+i]? =([.int .i64 s.credit,.int .u32 s.last,.int .i64 s.first]:List Value)[i]? :=λi=>by
   unfold spC
   rw[List.getElem?_append_right (by show 6≤22+i;omega),List.getElem?_append_right (by rw[shC_len];show 16≤22+i - 6;omega),shC_len]
   congr 1
   show 22+i - 6 - 16=i;omega
  exact⟨key 0,key 1,key 2⟩
 have ei:∀(t:TypeId) (q:IntKind) (x y:Int),Tryz.prog.underlying t=some (.int q)→(Op.equalIn (d+2) t (.int q x) (.int q y)).run Tryz.prog w=.ok (x==y) w:=λt q x y hu=>run_equalIn_int w (d+1) t q q x y hu
 have hfin:decide (a=b)=((a.num==b.num)&& ((a.route==b.route)&& ((a.tick==b.tick)&& ((a.lot==b.lot)&& ((a.band==b.band)&& ((a.limit==b.limit)&& (decide (a.shifts=b.shifts)&& ((a.credit==b.credit)&& ((a.last==b.last)&& ((a.first==b.first)&& true)))))))))):=by
  obtain⟨a1,a2,a3,a4,a5,a6,a7,a8,a9,a10⟩:=a
  obtain⟨b1,b2,b3,b4,b5,b6,b7,b8,b9,b10⟩:=b
  rw[Bool.eq_iff_iff]
  simp[Sp.mk.injEq]
 rw[hfin]
 refine eqF_c (by decide) (partS (by kernel_rfl) rfl) (partS (by kernel_rfl) rfl) (ei _ _ _ _ (by kernel_rfl)) ?_
 refine eqF_c (by decide) (partS (by kernel_rfl) rfl) (partS (by kernel_rfl) rfl) (ei _ _ _ _ (by kernel_rfl)) ?_
 refine eqF_c (by decide) (partS (by kernel_rfl) rfl) (partS (by kernel_rfl) rfl) (ei _ _ _ _ (by kernel_rfl)) ?_
 refine eqF_c (by decide) (partS (by kernel_rfl) rfl) (partS (by kernel_rfl) rfl) (ei _ _ _ _ (by kernel_rfl)) ?_
 refine eqF_c (by decide) (partS (by kernel_rfl) rfl) (partS (by kernel_rfl) rfl) (ei _ _ _ _ (by kernel_rfl)) ?_
 refine eqF_c (by decide) (partS (by kernel_rfl) rfl) (partS (by kernel_rfl) rfl) (ei _ _ _ _ (by kernel_rfl)) ?_
 refine eqF_c (by decide) (partA (n:=15) (by kernel_rfl) (by kernel_rfl) (hsh a)) (partA (n:=15) (by kernel_rfl) (by kernel_rfl) (hsh b)) (eq_sh a.shifts b.shifts d w) ?_
 refine eqF_c (by decide) (partS (by kernel_rfl) (g22 a).1) (partS (by kernel_rfl) (g22 b).1) (ei _ _ _ _ (by kernel_rfl)) ?_
 refine eqF_c (by decide) (partS (by kernel_rfl) (g22 a).2.1) (partS (by kernel_rfl) (g22 b).2.1) (ei _ _ _ _ (by kernel_rfl)) ?_
 refine eqF_c (by decide) (partS (by kernel_rfl) (g22 a).2.2) (partS (by kernel_rfl) (g22 b).2.2) (ei _ _ _ _ (by kernel_rfl)) ?_
 exact eqF_n
theorem cm5D(c:Cm):((cmC c).drop 5).take 25=spC c.spec:=by
 show(spC c.spec++_).take 25=_
 rw[←spC_len c.spec,List.take_left]
set_option maxRecDepth 100000 in
theorem eq_cm(a b:Cm)(w:World):(Op.equalIn 10000 tCm (cmV a) (cmV b)).run Tryz.prog w=.ok (decide (a=b)) w:=by
 have u:Tryz.prog.underlying tCm=some (.struct (Tryz.prog.fieldsOf tCm)):=by kernel_rfl
 have h:Tryz.prog.stoodInHeld tCm=false:=by kernel_rfl
 unfold cmV
 rw[run_equalIn_struct w 9999 tCm _ _ u h]
 unfold Program.fieldsOf
 rw[Tryz.underlying41]
 have ei:∀(t:TypeId) (q:IntKind) (x y:Int),Tryz.prog.underlying t=some (.int q)→(Op.equalIn 9999 t (.int q x) (.int q y)).run Tryz.prog w=.ok (x==y) w:=λt q x y hu=>run_equalIn_int w 9998 t q q x y hu
 have hfin:decide (a=b)=((a.kind==b.kind)&& ((a.acct==b.acct)&& ((a.ct==b.ct)&& ((a.num==b.num)&& ((a.amt==b.amt)&& (decide (a.spec=b.spec)&& ((a.on==b.on)&& ((a.buy==b.buy)&& ((a.ty==b.ty)&& ((a.price==b.price)&& ((a.qty==b.qty)&& true))))))))))):=by
  obtain⟨a1,a2,a3,a4,a5,a6,a7,a8,a9,a10,a11⟩:=a
  obtain⟨b1,b2,b3,b4,b5,b6,b7,b8,b9,b10,b11⟩:=b
  rw[Bool.eq_iff_iff]
  simp[Cm.mk.injEq]
 rw[hfin]
 refine eqF_c (by decide) (partS (by kernel_rfl) (cm0 a)) (partS (by kernel_rfl) (cm0 b)) (ei _ _ _ _ (by kernel_rfl)) ?_
 refine eqF_c (by decide) (partS (by kernel_rfl) (cm1 a)) (partS (by kernel_rfl) (cm1 b)) (ei _ _ _ _ (by kernel_rfl)) ?_
 refine eqF_c (by decide) (partS (by kernel_rfl) (cm2 a)) (partS (by kernel_rfl) (cm2 b)) (ei _ _ _ _ (by kernel_rfl)) ?_
 refine eqF_c (by decide) (partS (by kernel_rfl) (cm3 a)) (partS (by kernel_rfl) (cm3 b)) (ei _ _ _ _ (by kernel_rfl)) ?_
 refine eqF_c (by decide) (partS (by kernel_rfl) (cm4 a)) (partS (by kernel_rfl) (cm4 b)) (ei _ _ _ _ (by kernel_rfl)) ?_
 refine eqF_c (by decide) (partA (n:=24) (by kernel_rfl) (by kernel_rfl) (cm5D a)) (partA (n:=24) (by kernel_rfl) (by kernel_rfl) (cm5D b)) (eq_sp a.spec b.spec 9996 w) ?_
 refine eqF_c (by decide) (partS (by kernel_rfl) (cm30 a)) (partS (by kernel_rfl) (cm30 b)) (eqB _ _ 9998 w) ?_
 refine eqF_c (by decide) (partS (by kernel_rfl) (cm31 a)) (partS (by kernel_rfl) (cm31 b)) (eqB _ _ 9998 w) ?_
 refine eqF_c (by decide) (partS (by kernel_rfl) (cm32 a)) (partS (by kernel_rfl) (cm32 b)) (ei _ _ _ _ (by kernel_rfl)) ?_
 refine eqF_c (by decide) (partS (by kernel_rfl) (cm33 a)) (partS (by kernel_rfl) (cm33 b)) (ei _ _ _ _ (by kernel_rfl)) ?_
 refine eqF_c (by decide) (partS (by kernel_rfl) (cm34 a)) (partS (by kernel_rfl) (cm34 b)) (ei _ _ _ _ (by kernel_rfl)) ?_
 exact eqF_n
theorem eql_cm(a b:Cm)(w:World):(bin .eql tCm false (cmV a) (cmV b)).run Tryz.prog w=.ok (.bool (decide (a=b))) w:=by
 have:=eq_cm a b w
 unfold cmV at this⊢
 generalize(cmC a).toArray=A at this
 generalize(cmC b).toArray=B at this
 simp[go_sem,this,Result.andThen]
theorem ca_mayC{x:Cm}{w:World}{K:Kont}(hx:x.Fit)(hK:∀w',Mod (λ_=>False) w w' →K (.bool x.may) w'):Ca Tryz.prog 42 #[cmV x] w K:=by
 apply ca42
 unfold F42
 obtain⟨w1,e1,b1,m1⟩:=boxCm x w
 refine rvS e1 ?_
 obtain⟨p,hp0⟩:∃p,p=w.heap.size:=⟨_,rfl⟩
 rw[←hp0]at b1⊢
 have mdr:Mod (λ_=>False) w1 w1.drew:=(Mod.refl _ w1).drew
 have c2:CmAt w1.drew p x:=mdr.hpk b1 id
 have M2:=m1.trans mdr
 generalize w1.drew=w2 at mdr c2 M2⊢
 have hk:=hK
 unfold Cm.may at hK
 refine rdPS cm0F (rdWS (cm0L c2) ?_)
 by_cases h1:1≤x.kind
 ·refine rdPS (v:=.bool true) (λ_=>by simp[go_sem];omega) ?_
  rw[ifB_bool,if_pos rfl]
  refine rdPS cm0F (rdWS (cm0L c2) ?_)
  by_cases h2:x.kind≤14
  ·refine rdPS (v:=.bool true) (λ_=>by simp[go_sem];omega) ?_
   rw[ifB_bool,if_pos rfl]
   refine rdX_of (cmLd c2) (rdX_of (cmLd c2) ?_)
   refine ca_bare λw3 m3=>?_
   have c3:CmAt w3 p x:=m3.hpk c2 id
   refine⟨cmLd c3,?_⟩
   have M3:=M2.trans m3
   refine rdPS (eql_cm x x.bare) ?_
   by_cases h3:x=x.bare
   ·rw[ifB_bool,if_pos (decide_eq_true h3)]
    refine rdPS cm0F (rdWS (cm0L c3) ?_)
    refine rdPS (v:=.bool (decide (x.kind≠3))) (λ_=>by simp[go_sem];rfl) ?_
    by_cases h4:x.kind≠3
    ·rw[ifB_bool,if_pos (decide_eq_true h4)]
     have:=hK w3 M3
     rw[decide_eq_true ⟨h1,h2⟩,decide_eq_true h3,decide_eq_true h4]at this
     exact this
    ·rw[ifB_bool,if_neg (by rw[decide_eq_true_eq];exact h4)]
     refine rdPS cm5F ?_
     refine rdX_bigS (spC x.spec) 24 aSp nSp (spC_len _) (cm5At c3) ?_
     refine ca_smayS hx.2.2.2.2.2.1 λw4 m4=>?_
     have:=hK w4 (M3.trans m4)
     rw[decide_eq_true ⟨h1,h2⟩,decide_eq_true h3,decide_eq_false h4]at this
     simpa using this
   ·rw[ifB_bool,if_neg (by rw[decide_eq_true_eq];exact h3)]
    have:=hK w3 M3
    rw[decide_eq_false h3,Bool.and_false,Bool.false_and]at this
    exact this
  ·refine rdPS (v:=.bool false) (λ_=>by simp[go_sem];omega) ?_
   rw[ifB_bool,if_neg Bool.false_ne_true]
   have:=hK w2 M2
   rw[decide_eq_false (λh=>h2 h.2),Bool.false_and,Bool.false_and]at this
   exact this
 ·refine rdPS (v:=.bool false) (λ_=>by simp[go_sem];omega) ?_
  rw[ifB_bool,if_neg Bool.false_ne_true]
  have:=hK w2 M2
  rw[decide_eq_false (λh=>h1 h.1),Bool.false_and,Bool.false_and]at this
  exact this
end Go.Proofs
