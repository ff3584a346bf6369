/- Part of a proof. -/
import Derived.CallsIn
import Derived.OrdersIn
import Derived.RangeFuncIn
import Derived.RangeFuncLeaves
import Derived.KernelRfl
import Derived.Laws.Sem
import Derived.Laws.World
import Derived.RangeFuncRecord
import Derived.TacticsIn
set_option linter.all false
set_option maxRecDepth 100000
set_option maxHeartbeats 4000000
namespace Go.Vc
open Go Go.Vc
variable {a:Act}{f:FuncId}{L done:List Nat}{ops:List Oper}{n i:Nat}{o:Oper}{ro:Option Nat}{P:Program}{s:Sem Value}{w:World}
def jr:= @Go.Calls.mono
def cG:= @List.getElem?_toArray
def gz:= @Array.getElem?_eq_getElem
def fX:= @Array.getD_eq_getD_getElem?
def cR:= @Option.getD_some
def kA:= @Nat.le_of_not_lt
def cD:= @List.mem_append_left
def lJ:= @List.mem_filterMap
def mT:= @List.all_cons
def ah:= @Bool.and_eq_true
def ab:= @if_pos
def aa:= @if_neg
def aF:= @List.getElem?_eq_some_iff
def aW:= @List.all_eq_true
def d8:= @List.mem_range
def lB:= @Nat.blt_eq
def iE:= @Bool.not_true
def eZ:= @Bool.false_or
def dK:= @Nat.eq_of_beq_eq_true
def nT:= @Bool.or_eq_true
def aN:= @List.mem_append
def ai:= @List.mem_cons_self
def aq:= @List.mem_cons
def ae:= @List.mem_cons_of_mem
def aM:= @List.mem_filter
def cY:= @Go.Sem.run_bind
def ii:= @Go.Sem.run_pure
def cM:= @Option.some.inj
def jU:= @Array.ext'
def bO:= @List.nodup_cons
def jW:= @Ne.symm
def dt:= @List.mem_of_find?_eq_some
def kZ:= @List.find?_some
def bX:= @List.mem_singleton
def dC:= @List.size_toArray
def ao:= @List.getElem?_eq_getElem
def eA:= @Option.map_some
def aD:= @List.mem_map
def jD:= @Array.all_eq_true'
def aS:= @Classical.byContradiction
def fx:= @List.eq_nil_iff_forall_not_mem
def ar:= @List.getElem_mem
def gl:= @List.filter_filter
def dx:= @List.filter_congr
def lF:= @List.contains_cons
def gZ:= @List.length_filter_lt_length_iff_exists
def cP:= @List.mem_of_getElem?
def oL:= @Bool.and_false
def er:= @List.mem_append_right
def gG:= @Bool.or_eq_false_iff
def je:= @List.nodup_nil
def da:= @List.map_map
def kH:= @List.map_id
def dN:= @List.map_congr_left
def aR:= @List.length_cons
def bN:= @List.drop_eq_getElem_cons
def eN:= @List.foldl_cons
def de:= @if_true
def dB:= @if_false
def aK:= @List.map_append
def ci:= @Go.World.size_alloc
def aw:= @Nat.zero_le
def jL:= @Nat.sub_zero
def gt:= @List.getElem?_eq_none
def iT:= @Array.getElem?_eq_some_iff
def fG:= @Bool.false_ne_true
def aA:= @decide_eq_true
def ax:= @decide_eq_true_eq
def aI:= @Iff.rfl
def aO:= @Go.run_underlying
def bE:= @Bool.false_eq_true
def iO:= @Array.getElem?_modify
def bz:= @of_decide_eq_true
def fd:= @Nat.add_assoc
def aB:= @Nat.le_refl
def bK:= @Nat.le_trans
def br:= @Nat.lt_of_lt_of_le
def iW:= @Go.World.putObj_size
def eB:= @List.getElem?_take
def eV:= @List.getElem?_drop
def cw:= @List.drop_drop
def cV:= @Nat.min_eq_left
def bM:= @Nat.add_zero
def ng:= @List.zipIdx_cons
def fV:= @Nat.mod_lt
def eW:= @getElem!_pos
def mG:= @Nat.le_mul_of_pos_right
def cz:= @Nat.mul_le_mul_right
def ag:= @List.append_assoc
def mB:= @Nat.sub_mul
def aT:= @List.flatMap_cons
def io:= @List.getElem_cons_succ
def ck:= @List.drop_left
def dY:= @Nat.add_mul
def gN:= @Int.mul_le_mul_of_nonneg_right
def aH:= @List.map_cons
def df:= @List.take_left
def dP:= @congrArg
def lC:= @not_or
def cB:= @List.Sublist.refl
def kX:= @List.cons.injEq
def gD:= @Option.some.injEq
def jz:= @List.eraseIdx_cons_succ
def ej:= @List.cons_append
def bY:= @List.getElem?_map
def jM:= @List.ext_getElem?
def kD:= @List.getElem?_modify
def jT:= @Array.getElem?_toList
def bm:= @List.mem_of_mem_take
def oe:= @true_and
def af:= @List.length_map
def bI:= @List.getElem_of_mem
def ad:= @List.length_append
def nH:= @Nat.succ_mul
def nK:= @Nat.add_comm
def bP:= @List.getElem?_append_left
def nj:= @Nat.mod_eq_of_lt
def bf:= @List.getElem?_append_right
def eb:= @Nat.mul_comm
def lm:= @Nat.div_add_mod
def aP:= @List.take_append_of_le_length
def ay:= @List.take_of_length_le
def nf:= @List.drop_append
def cX:= @List.nil_append
def cC:= @List.filter_eq_self
def ep:= @List.filter_sublist
def aU:= @List.filter_cons_of_neg
def aV:= @List.mem_map_of_mem
def bF:= @List.filter_cons_of_pos
def gO:= @Array.eq_empty_of_size_eq_zero
def fM:= @Bool.eq_false_iff
def db:= @List.Perm.refl
def av:= @List.length_take
def bi:= @List.length_drop
def cy:= @Go.IntKind.wrap_i64
def lz:= @Nat.succ_pos
def dO:= @List.drop_zero
def jQ:= @List.eq_nil_of_length_eq_zero
def d9:= @Int.natCast_mul
def gY:= @List.take_succ_cons
def iH:= @List.take_length_add_append
def fS:= @Int.toNat_natCast
def jJ:= @Nat.zero_mul
def cI:= @Nat.zero_add
def dz:= @List.pairwise_append
def bJ:= @List.pairwise_cons
def dA:= @List.pairwise_map
def ky:= @List.perm_middle
def iG:= @List.Perm.of_eq
def bT:= @Bool.eq_iff_iff
def iJ:= @List.find?_cons
def mV:= @Prod.mk.injEq
def aX:= @List.length_filter_le
def bp:= @List.sum_cons
def gH:= @List.length_eraseIdx
def aG:= @decide_eq_false
def kC:= @decide_eq_decide
def jg:= @Int.mul_nonneg
def cT:= @List.drop_append_of_le_length
def gi:= @Int.tmod_eq_emod_of_nonneg
def fN:= @List.take_add_one
def ez:= @List.all_append
def fb:= @Nat.add_sub_cancel_left
def bD:= @List.flatMap_append
def kU:= @dif_pos
def eD:= @Nat.lt_of_le_of_lt
def dq:= @List.length_singleton
def ce:= @List.take_append_drop
def gJ:= @List.mem_of_mem_drop
def bg:= @List.findIdx?_eq_some_iff_getElem
def du:= @List.findIdx?_eq_none_iff
def dE:= @List.find?_eq_some_iff_getElem
def dS:= @List.find?_eq_none
def dv:= @Nat.lt_succ_self
def cm:= @List.set_append_right
def dI:= @List.setIfInBounds_toArray
def dQ:= @List.set_append_left
def aZ:= @List.length_set
def eH:= @List.getElem_cons_zero
def ec:= @List.mem_or_eq_of_mem_set
def ek:= @Option.isSome_iff_exists
def nh:= @Nat.div_add_mod'
def bH:= @List.pairwise_iff_getElem
def fQ:= @decide_eq_false_iff_not
def gj:= @Nat.mul_le_mul
def jx:= @Int.natCast_add
def cj:= @List.filter_append
def fK:= @List.sum_append
def lj:= @List.takeWhile_cons
def ig:= @Int.add_zero
def aL:= @List.take_length
def fD:= @List.not_mem_nil
def mz:= @or_false
def eh:= @Int.le_refl
def pP:= @Int.add_assoc
def iP:= @List.foldl_append
def aC:= @List.append_nil
def jj:= @Int.shiftRight_eq_div_pow
def cn:= @List.getElem_map
def jH:= @List.set_set
def dX:= @List.getElem_set_self
def ia:= @List.any_eq_true
def bS:= @List.take_zero
def cg:= @List.drop_of_length_le
def l8:= @Nat.mul_add
def gF:= @Nat.mul_assoc
def gp:= @Nat.div_lt_iff_lt_mul
def gm:= @Nat.add_sub_cancel
def fW:= @Nat.div_mul_le_self
def jw:= @Nat.two_pow_pos
def mC:= @Nat.pow_add
def lu:= @Nat.div_le_self
def kq:= @Int.natCast_ediv
def iZ:= @Nat.pow_le_pow_right
def fU:= @List.map_set
def mq:= @Nat.mul_one
def lh:= @Nat.mul_le_mul_left
def iR:= @List.getD_eq_getElem?_getD
def cZ:= @List.length_replicate
def bR:= @List.getElem_cons_drop
def bh:= @Bool.false_and
def cK:= @Bool.true_and
def lr:= @List.range_succ
def ey:= @List.filter_nil
def ed:= @List.map_nil
def jO:= @List.all_eq_false
def lS:= @List.eq_of_mem_replicate
def gx:= @List.set_getElem_self
def dg:= @List.nodup_append
def ip:= @List.find?_cons_of_pos
def jY:= @List.singleton_append
def iq:= @List.find?_cons_of_neg
def lD:= @Int.lt_of_lt_of_le
def eO:= @List.eraseIdx_sublist
def gf:= @List.filter_eq_nil_iff
def bo:= @List.flatMap_nil
def gh:= @List.length_eraseIdx_of_lt
def eg:= @List.drop_length
def my:= @Option.isSome_map
def nG:= @decide_false
def nM:= @Nat.pow_succ
def iC:= @Go.IntKind.wrap_u8
def qZ{p:Prop}(h:p:=by omega):p:=h
def dW{α:Sort _}(a:α):∃x,x=a:=⟨_,rfl⟩
def eI{α:Sort _}{β:α->Sort _}{p:(a:α)->β a->Prop}(a:α)(b:β a)(h:p a b):p a b:=h
def qie{α:Sort _}{β:α->Sort _}{p:(a:α)->β a->Prop}(a:α)(b:β a)(h:False):p a b:=h.elim
def cH{p:Prop}(h:p:=by kernel_rfl):p:=h
abbrev be:=Value->World->Prop
variable {K:be}
abbrev gI(n:Int):Value:=.int .i64 n
abbrev iL:= @Instr.loadAt
abbrev iF:= @Instr.fieldAt
abbrev iS:= @Instr.storeAt
abbrev iA:= @Instr.alloc
abbrev iX:= @Instr.indexAt
abbrev gU(n:Int):Value:=.int .u32 n
abbrev gQ(n:Int):Value:=.int .u64 n
abbrev gB(n:Int):Value:=.int .u8 n
abbrev Wt_:=World
abbrev Vt_:=Value
abbrev NP_:=Nat->Prop
abbrev LV_:=List Value
abbrev cU(b o:Nat):Value:=.pointer (some ⟨b,o,none⟩)
structure Ca(P:Program)(f:FuncId)(args:Array Value)(w:World)(K:be):Prop where
 out:Calls P f args w λe w' =>∃v,e=.returned v/\K v w'
def Ca.mono{a:Array Value}{c:be}(h:Ca P f a w K)(d:∀v b,K v b->c v b):Ca P f a w c:=
 ⟨Calls.mono h.out λ_ _ ⟨v,g,e⟩=>⟨v,g,d _ _ e⟩⟩
def Yl(P:Program)(l:Nat)(args:Array Value)(w:World)(K:be):Prop:=
 ∃fn tmps assign body,(Instr.yield l args).run P w=.ok (.round l fn tmps assign body) w/\
  RoundIn Fence.wide 0 P l fn tmps assign body w λe w' =>∃v,e=.returned v/\K v w'
def Yl.mono{l:Nat}{c:Array Value}{e:be}(h:Yl P l c w K)(f:∀v d,K v d->e v d):Yl P l c w e:=
 let⟨fn,tmps,a,b,h1,h2⟩:=h
 ⟨fn,tmps,a,b,h1,h2.mono λ_ _ ⟨v,i,g⟩=>⟨v,i,f _ _ g⟩⟩
def YC(P:Program)(s:Sem Value)(w:World)(K:be):Prop:=
 match s.run P w with
 | .ok v w' =>K v w'
 | .halt _ _=>False
structure rv(P:Program)(s:Sem Value)(w:World)(K:be):Prop where
 out:YC P s w K
def E5:rv P s w K↔YC P s w K:=⟨rv.out,rv.mk⟩
def XZ(P:Program)(s:Sem Unit)(w:World)(K:World->Prop):Prop:=
 match s.run P w with
 | .ok _ w' =>K w'
 | .halt _ _=>False
structure ru(P:Program)(s:Sem Unit)(w:World)(K:World->Prop):Prop where
 out:XZ P s w K
def EC{s:Sem Unit}{K:World->Prop}:ru P s w K↔XZ P s w K:=⟨ru.out,ru.mk⟩
structure rx(P:Program)(s:Sem Value)(w:World)(K:be):Prop where
 out:rv P s w K
structure DD(P:Program)(s:Sem Unit)(w:World)(K:World->Prop):Prop where
 out:ru P s w K
def Pc(P:Program)(s:Sem Next)(w:World)(K:be):Prop:=
 match s.run P w with
 | .ok (.value v) w' =>K v w'
 | .ok .skip w' =>K undef w'
 | .ok (.enter f args) w' =>Ca P f args w' K
 | .ok (.round l fn tmps assign body) w' =>RoundIn Fence.wide 0 P l fn tmps assign body w' λe w'' =>∃v,e=.returned v/\K v w''
 |_=>False
structure rn(P:Program)(s:Sem Next)(w:World)(K:be):Prop where
 out:Pc P s w K
def pm{s:Sem Next}:rn P s w K↔Pc P s w K:=⟨rn.out,rn.mk⟩
def tV(P:Program):Bool:=P.funcs.all λfn=> !(fn.name== "runtime.NumGoroutine")
def Lq(P:Program)(fv:Value)(args:List Value)(w:World)(K:be):Prop:=
 match fv with
 | .func (.func f) first captured=>Ca P f ⟨first.toList++(args++captured.toList)⟩ w K
 | .func (.yield l) first _=>Yl P l ⟨first.toList++args⟩ w K
 |_=>False
structure om(P:Program)(fv:Value)(args:List Value)(w:World)(K:be):Prop where
 out:Lq P fv args w K
def jf{fv:Value}{a:List Value}:om P fv a w K↔Lq P fv a w K:=⟨om.out,om.mk⟩
def FI(v:Value)(K:Bool->Prop):Prop:=
 match v with
 | .bool b=>K b
 |_=>False
def bc(b:Bool)(T F:Prop):Prop:=
 match b with
 |true=>T
 |false=>F
def xe(v:Value)(T F:Prop):Prop:=FI v λb=>bc b T F
def Tb(b:Bool)(x y:Value):Value:=
 match b with
 |true=>x
 |false=>y
def Mu(b:Bool)(x y:Value):Tb b x y=if b then x else y:=by cases b<;>rfl
structure fa where
 l:List (Nat×Option Value)
 g:Nat->Value
 ds:List Nat
variable {E E' :fa}
def fa.look:List (Nat×Option Value)->Nat->Option (Option Value)
 | [],_=>none
 |(k,v)::r,t=>bif Nat.beq k t then some v else fa.look r t
def fa.get(E:fa)(t:Nat):Value:=
 match fa.look E.l t with
 |some (some v)=>v
 |some none=>undef
 |none=>E.g t
def fa.put(E:fa)(d:Option Nat)(v:Value):fa:=
 match d with
 |some d=>{E with l:=(d,some v)::E.l}
 |none=>E
def fa.skip(E:fa)(d:Option Nat):fa:=
 match d with
 |some d=>{E with l:=(d,none)::E.l}
 |none=>E
def fa.skipped(E:fa)(t:Nat):Bool:=
 match fa.look E.l t with
 |some none=>true
 |_=>false
def ev(E:fa):Operand->Value
 | .tmp t=>E.get t
 | .const v=>v
 | .global g=>.pointer (some ⟨g,0,none⟩)
 | .func f=>.func (.func f) #[] #[]
structure uz(n:Nat)(E:fa)(a:Act):Prop where
 size:a.tmps.size=n
 get:∀t,a.tmps.getD t undef=E.get t
 defs:a.defers=E.ds.map λd=>{target:=.collected d,args:=#[]}
def uz.ev(h:uz n E a):a.eval=ev E:=by
 funext x;cases x with
 |tmp t=>exact h.get t
 |const v=>rfl
 |global g=>rfl
 |func f=>rfl
def fa.get_put(E:fa)(d:Nat)(v:Value)(t:Nat):(E.put (some d) v).get t=if d=t then v else E.get t:=by
 by_cases h:d=t
 ·subst h;simp[fa.get,fa.put,fa.look]
 ·have:Nat.beq d t=false:=by
   cases a:Nat.beq d t with
   |false=>rfl
   |true=>exact absurd (Nat.eq_of_beq_eq_true a) h
  simp[fa.get,fa.put,fa.look,this,h]
def fa.get_skip(E:fa)(d:Nat)(t:Nat):(E.skip (some d)).get t=if d=t then undef else E.get t:=by
 by_cases h:d=t
 ·subst h;simp[fa.get,fa.skip,fa.look]
 ·have:Nat.beq d t=false:=by
   cases a:Nat.beq d t with
   |false=>rfl
   |true=>exact absurd (Nat.eq_of_beq_eq_true a) h
  simp[fa.get,fa.skip,fa.look,this,h]
def vA(n:Nat):Option Nat->Bool
 |some d=>Nat.blt d n
 |none=>true
def GV(xs:Array Value)(d t:Nat)(v:Value)(h:d<xs.size):(xs.setIfInBounds d v).getD t undef=if d=t then v else xs.getD t undef:=by
 by_cases a:d=t
 ·subst a;simp[h]
 ·simp[a]
def uz.put(h:uz n E a){d:Option Nat}(c:vA n d=true)(v:Value):uz n (E.put d v) (a.put d v):=by
 cases d with
 |none=>exact h
 |some d=>
  have b:d<a.tmps.size:=by rw[h.size];simpa [vA,Nat.blt_eq]using c
  refine⟨by simp[Act.put,h.size],λt=>?_,h.defs⟩;rw[fa.get_put];simp only[Act.put];rw[GV _ _ _ _ b,h.get]
def uz.skip(h:uz n E a){d:Option Nat}(c:vA n d=true):uz n (E.skip d) (a.put d undef):=by
 cases d with
 |none=>exact h
 |some d=>
  have b:d<a.tmps.size:=by rw[h.size];simpa [vA,Nat.blt_eq]using c
  refine⟨by simp[Act.put,h.size],λt=>?_,h.defs⟩;rw[fa.get_skip];simp only[Act.put];rw[GV _ _ _ _ b,h.get]
def uz.of_get(h:uz n E a)(c:∀t,E'.get t=E.get t)(b:E'.ds=E.ds):uz n E' a:=
 ⟨h.size,λt=>(h.get t).trans (c t).symm,by rw[b];exact h.defs⟩
def FK:Operand->Bool
 | .const _=>true
 |_=>false
def eqG(op:BinOp)(t:TypeId)(c:Bool)(a b:Value):Sem Unit:=do
 if !(op matches .eql| .neq)then return
 match a,b with
 | .nilIface,.nilIface=>
  if c then return
  if<-Op.eqGuardIn Op.maxDepth t a b then unsupported (.noEntry "binop/eql: two nil values of an interface type with methods, neither of them the literal nil")
 | .agg _,.agg _=>
  if !(<-program).eqGuardType (<-program).depth t then return
  if<-Op.eqGuardIn Op.maxDepth t a b then unsupported (.noEntry "binop/eql: two nil values of an interface type with methods, in a part of a struct or an array")
 |_,_=>pure ()
def YG(c:BinOp)(t:TypeId)(x y:Operand)(a b:Value):eqGuard c t x y a b=eqG c t (FK x||FK y) a b:=by
 unfold eqGuard eqG;cases x<;>cases y<;>rfl
def nV(op:BinOp)(t:TypeId)(c:Bool)(a b:Value):Sem Value:=do eqG op t c a b;binOp op t a b
def qC(v:Value)(K:Value->Prop):Prop:=
 match v with
 | .pointer (some a)=>K (.pointer (some a))
 |_=>False
def CS(P:Program)(t:TypeId):Bool:=Nat.blt 12 (P.cellsOf t)
def pp(t:TypeId)(x:Value):Sem Value:=Instr.loadAt t x
def ur(t:TypeId)(x y:Value):Sem Unit:=Instr.storeAt t x y
def vR(t:TypeId):Sem Value:=Instr.alloc t true (.tuple #[])
def CV(t:TypeId)(parts:Array (Nat×Value)):Sem Value:=Instr.build t parts
def ff(ts:Array TypeId)(t:TypeId)(args:List Value):Sem Value:=Builtin.append_ ts t ⟨args⟩
def LH(ts:Array TypeId)(t:TypeId)(args:List Value):Sem Value:=Builtin.copy_ ts t ⟨args⟩
def te(ts:Array TypeId)(t:TypeId)(args:List Value):Sem Value:=Builtin.delete_ ts t ⟨args⟩
def AY(ts:Array TypeId)(t:TypeId)(args:List Value):Sem Value:=Builtin.clear_ ts t ⟨args⟩
def Ed(t:TypeId)(l c:Value):Sem Value:=Instr.makeSlice t l c
def qL(t:TypeId)(n:Nat)(parts:List (Nat×Value)):Sem Value:=Instr.buildSlice t n ⟨parts⟩
def sn(s d:TypeId)(x:Value):Sem Value:=convert s d x
def jF(t:TypeId)(m k:Value)(ok:Bool):Sem Value:=Instr.lookup t m k ok
def rP(t:TypeId)(m k v:Value):Sem Unit:=Instr.mapUpdate t m k v
def Bf(t:TypeId)(x:Value):Sem Value:=Instr.range t x
def Ea(it:Value)(s:Bool)(t:TypeId):Sem Value:=Instr.next it s t
def Bh(it:Value):Sem Value:=Instr.entry it
def KZ(t:TypeId)(m k:Value):Sem Value:=Instr.mapEntry t m k
def PF(t:TypeId)(m s v:Value):Sem Unit:=Instr.entryStore t m s v
def IW(P:Program)(s d:TypeId):Bool:=
 (match P.underlying s with|some (.slice _)=>true|_=>false)||(match P.underlying d with|some (.slice _)=>true|_=>false)
def YW(P:Program)(f:FuncId):Bool:=match (P.funcs[f]?).bind (·.body)with|none=>true|some _=>false
structure rnx(P:Program)(f:FuncId)(args:List Value)(w:World)(K:be):Prop where
 out:rn P (callFunc f ⟨args⟩) w K
def kK(ρ:Operand->Value)(xs:Array Operand):List Value:=xs.toList.map ρ
def Ti(P:Program)(ρ:Operand->Value)(o:Oper)(w:World)(K:be):Prop:=
 match o.op with
 | .move x| .assign x=>K (ρ x) w
 | .pick c x y=>FI (ρ c) λb=>K (Tb b (ρ x) (ρ y)) w
 | .alloc elem=>match CS P elem with
  |true=>rx P (vR elem) w K
  |false=>rv P (Instr.alloc elem true (.tuple #[])) w K
 | .box elem x=>rv P (Instr.box elem (ρ x)) w K
 | .build t parts=>match CS P t with
  |true=>rx P (CV t ⟨parts.toList.map λp=>(p.1,ρ p.2)⟩) w K
  |false=>rv P (Instr.build t ⟨parts.toList.map λp=>(p.1,ρ p.2)⟩) w K
 | .buildSlice t len parts=>rx P (qL t len (parts.toList.map λp=>(p.1,ρ p.2))) w K
 | .load t x=>match CS P t with
  |true=>rx P (pp t (ρ x)) w K
  |false=>rv P (Instr.loadAt t (ρ x)) w K
 | .store t x y=>match CS P t with
  |true=>DD P (ur t (ρ x) (ρ y)) w (K undef)
  |false=>ru P (Instr.storeAt t (ρ x) (ρ y)) w (K undef)
 | .binOp op t x y _=>rv P (nV op t (FK x||FK y) (ρ x) (ρ y)) w K
 | .unOp op _ x=>rv P (Op.unary op (ρ x)) w K
 | .convert s d x=>match IW P s d with
  |true=>rx P (sn s d (ρ x)) w K
  |false=>rv P (convert s d (ρ x)) w K
 | .sliceToArrayPointer t x=>rv P (Instr.arrayAt t (ρ x)) w K
 | .makeInterface t x=>rv P (Instr.makeInterface t (ρ x)) w K
 | .makeFunc fn first captured=>K (.func fn ⟨kK ρ first⟩ ⟨kK ρ captured⟩) w
 | .makeMap t r=>rv P (Instr.makeMap t (r.map ρ)) w K
 | .makeSlice t l c=>rx P (Ed t (ρ l) (ρ c)) w K
 | .slice t x lo hi mx=>rv P (Instr.sliceAt t (ρ x) (lo.map ρ) (hi.map ρ) (mx.map ρ)) w K
 | .fieldAddr t x f=>rv P (Instr.fieldAt t (ρ x) f) w K
 | .field t x f=>rv P (Instr.field t (ρ x) f) w K
 | .indexAddr t x i=>rv P (Instr.indexAt t (ρ x) (ρ i)) w K
 | .index t x i=>rv P (Instr.index t (ρ x) (ρ i)) w K
 | .lookup t x i ok=>rx P (jF t (ρ x) (ρ i) ok) w K
 | .mapUpdate t m k x| .insert t m k x=>DD P (rP t (ρ m) (ρ k) (ρ x)) w (K undef)
 | .range t x=>rx P (Bf t (ρ x)) w K
 | .next it s=>rx P (Ea (ρ it) s o.type) w K
 | .entry it=>rx P (Bh (ρ it)) w K
 | .mapEntry t m k=>rx P (KZ t (ρ m) (ρ k)) w K
 | .entryStore t m s x=>DD P (PF t (ρ m) (ρ s) (ρ x)) w (K undef)
 | .typeAssert x t u ok=>rv P (Instr.typeAssert (ρ x) t u ok) w K
 | .extract t i=>rv P (Instr.extract (ρ t) i) w K
 | .call c=>
  match c.callee with
  | .value (.func f)=>match YW P f with
   |true=>rnx P f (kK ρ c.args) w K
   |false=>Ca P f ⟨kK ρ c.args⟩ w K
  | .value f=>om P (ρ f) (kK ρ c.args) w K
  | .builtin .append=>rx P (ff c.argTypes o.type (kK ρ c.args)) w K
  | .builtin .copy=>rx P (LH c.argTypes o.type (kK ρ c.args)) w K
  | .builtin .delete=>rx P (te c.argTypes o.type (kK ρ c.args)) w K
  | .builtin .clear=>rx P (AY c.argTypes o.type (kK ρ c.args)) w K
  | .builtin b=>rn P (builtin b c.argTypes o.type ⟨c.args.toList.map FK⟩ ⟨kK ρ c.args⟩) w K
  | .invoke _ _=>rn P (execOp ρ o) w K
 | .nilCheck x=>qC (ρ x) λv=>K v w
 | .defer _| .go _| .select .. | .panic _=>False
 |_=>rn P (execOp ρ o) w K
def lw(h:rv P s w K):rn P (do pure (.value (<-s))) w K:=by
 rw[E5]at h;unfold YC at h;rw[pm];unfold Pc;simp only[Sem.run_bind,Sem.run_pure];cases a:s.run P w with
 |ok v b=>rw[a]at h;simpa [Result.andThen]using h
 |halt x b=>rw[a]at h;exact h.elim
def uN{s:Sem Unit}(h:ru P s w (K undef)):rn P (do s;pure .skip) w K:=by
 rw[EC]at h;unfold XZ at h;rw[pm];unfold Pc;simp only[Sem.run_bind,Sem.run_pure];cases a:s.run P w with
 |ok v b=>rw[a]at h;simpa [Result.andThen]using h
 |halt x b=>rw[a]at h;exact h.elim
def Ca.bodied{a:Array Value}(h:Ca P f a w K):∃fn,P.funcs[f]? =some fn/\fn.body.isSome=true:=by
 apply Classical.byContradiction;intro q;obtain⟨e,u,k,⟨v,rfl,_⟩,t,_,o⟩:=h.out []
 have g:((P.funcs[f]?).bind (·.body))=none:=by
  cases l:P.funcs[f]? with
  |none=>rfl
  |some fn=>
   cases j:fn.body with
   |none=>simp[j]
   |some c=>exact absurd ⟨fn,l,by simp[j]⟩ q
 obtain⟨r,p⟩:∃r,step P (lone (Frame.enter P f a .normal) [] w)=.ended r w:=by
  refine⟨?r,step_lone_ended ?h⟩
  case h=>
   simp only[stepG,stepG.exec,Frame.enter,g];exact rfl
 obtain⟨n,d⟩:=(t:Steps P _ _)
 cases n with
 |zero=>
  simp only[runN]at d;injection d with s
  have i:Frame.enter P f a .normal=k:=by
   have:=congrArg (λm=>(m.gs[0]?).map (·.frame)) s;simpa [lone]using this
  have b:=o.1;rw[<-i]at b;simp[Frame.enter]at b
 |succ n=>simp[runN,p]at d
def zG(g:tV P=true){f:FuncId}{a:Array Value}{w:World}{K:be}(h:Ca P f a w K):rn P (callFunc f a) w K:=by
 obtain⟨fn,e,i⟩:=h.bodied
 have d:(fn.name== "runtime.NumGoroutine")=false:=by
  have:=(Array.all_eq_true'.1 g) fn (Array.mem_of_getElem? e);simpa using this
 rw[pm];unfold Pc
 have:(callFunc f a).run P w=.ok (.enter f a) w:=by
  have b:¬fn.name= "runtime.NumGoroutine" :=by simpa using d
  have c:¬fn.body=none:=by grind
  unfold callFunc;simp[Sem.run_bind,Result.andThen,e,b,c]
 rw[this];exact h
def nX(ρ:Operand->Value)(xs:Array Operand):(⟨kK ρ xs⟩:Array Value)=xs.map ρ:=by
 apply Array.ext';simp[kK]
def S8(n:tV P=true){fv:Value}{b:List Value}{w:World}{K:be}(h:om P fv b w K):
  rn P (do let d<-Deferred.ofValue fv ⟨b⟩;invoke d.target d.args) w K:=by
 rw[jf]at h;unfold Lq at h;split at h
 ·rename_i f first a
  have e:(do let d<-Deferred.ofValue (.func (.func f) first a) ⟨b⟩;invoke d.target d.args:Sem Next)=callFunc f (first++⟨b⟩++a):=rfl;rw[e]
  have g:(first++⟨b⟩++a:Array Value)=⟨first.toList++(b++a.toList)⟩:=by
   apply Array.ext';simp
  rw[g];exact zG n h
 ·rename_i l first a
  have e:(do let d<-Deferred.ofValue (.func (.yield l) first a) ⟨b⟩;invoke d.target d.args:Sem Next)=Instr.yield l (first++⟨b⟩):=rfl;rw[e]
  have g:(first++⟨b⟩:Array Value)=⟨first.toList++b⟩:=by
   apply Array.ext';simp
  rw[g];obtain⟨fn,j,c,i,m,k⟩:=h;rw[pm];unfold Pc;rw[m];exact k
 ·exact h.elim
def CX(C:tV P=true){ρ:Operand->Value}(E:∀f,ρ (.func f)=.func (.func f) #[] #[]){o:Oper}{w:World}{K:be}(h:Ti P ρ o w K):
  rn P (execOp ρ o) w K:=by
 obtain⟨A,B,q,pos,u,guard⟩:=o;unfold Ti at h;cases B<;>simp only at h
 case move x=>exact pm.2 h
 case assign x=>exact pm.2 h
 case pick c x y=>
  unfold FI at h;split at h
  ·rename_i b D
   simp only[execOp,D,pm,Pc,asBool,Sem.run_bind,Sem.run_pure,Result.andThen];rw[Mu]at h;exact h
  ·exact h.elim
 case alloc t=>
  split at h
  ·exact lw h.out
  ·exact lw h
 case load t x=>
  split at h
  ·exact lw h.out
  ·exact lw h
 case convert s d x=>
  split at h
  ·exact lw h.out
  ·exact lw h
 case build t ps=>
  have h:rv P (Instr.build t ⟨ps.toList.map λp=>(p.1,ρ p.2)⟩) w K:=by
   split at h
   ·exact h.out
   ·exact h
  have e:(⟨ps.toList.map λp=>(p.1,ρ p.2)⟩:Array (Nat×Value))=ps.map λ(i,x)=>(i,ρ x):=by
   apply Array.ext';simp
  rw[e]at h;exact lw h
 case buildSlice t n ps=>
  have h:rv P (Instr.buildSlice t n ⟨ps.toList.map λp=>(p.1,ρ p.2)⟩) w K:=h.out
  have e:(⟨ps.toList.map λp=>(p.1,ρ p.2)⟩:Array (Nat×Value))=ps.map λ(i,x)=>(i,ρ x):=by
   apply Array.ext';simp
  rw[e]at h;exact lw h
 case binOp B t x y yt=>
  have e:(do eqGuard B t x y (ρ x) (ρ y);binOp B t (ρ x) (ρ y):Sem Value)=nV B t (FK x||FK y) (ρ x) (ρ y):=by
   unfold nV;rw[YG]
  have:=lw h;rw[<-e]at this;exact this
 case makeFunc fn first captured=>
  rw[nX,nX]at h;exact pm.2 h
 case store t x y=>
  split at h
  ·exact uN h.out
  ·exact uN h
 case nilCheck x=>
  unfold qC at h;split at h
  ·rename_i a G
   simp only[execOp,G,pm,Pc,Sem.run_pure];exact h
  ·exact h.elim
 case mapUpdate t m k x=>exact uN h.out
 case insert t m k x=>exact uN h.out
 case entryStore t m s x=>exact uN h.out
 case call c=>
  obtain⟨z,j,l⟩:=c;cases z with
  |value f=>
   have key:om P (ρ f) (kK ρ j) w K->rn P (execOp ρ ⟨A,.call ⟨.value f,j,l⟩,q,pos,u,guard⟩) w K:=by
    intro h;have:=S8 C h;rw[nX]at this;exact this
   cases f with
   |func g=>
    simp only at h
    have this:rn P (callFunc g ⟨kK ρ j⟩) w K:=by
     split at h
     ·exact h.out
     ·exact zG C h
    rw[nX]at this;have e:(execOp ρ ⟨A,.call ⟨.value (.func g),j,l⟩,q,pos,u,guard⟩:Sem Next)=(do let d<-Deferred.ofValue (ρ (.func g)) (j.map ρ);invoke d.target d.args):=rfl;rw[e,E g];have F:(do let d<-Deferred.ofValue (.func (.func g) #[] #[]) (j.map ρ);invoke d.target d.args:Sem Next)=callFunc g (#[]++j.map ρ++ #[]):=rfl;rw[F];simpa using this
   |tmp t=>exact key h
   |const v=>exact key h
   |global g=>exact key h
  |builtin b=>
   have key:rn P (builtin b l q ⟨j.toList.map FK⟩ ⟨kK ρ j⟩) w K:=by
    cases b<;>first|exact h|exact lw h.out
   have h:=key;rw[nX]at h
   have e:(⟨j.toList.map FK⟩:Array Bool)=j.map λ| .const _=>true|_=>false:=by
    apply Array.ext';simp only[Array.toList_map];apply List.map_congr_left;intro x _;cases x<;>rfl
   rw[e]at h;exact h
  |invoke r m=>exact h
 all_goals first|exact lw h|exact lw h.out|exact h|exact h.elim
def FR:Option Nat->Fence
 |none=>Fence.wide
 |some l=>Fence.wide.inRound l
def FR.fn(ro:Option Nat)(f:FuncId):(FR ro).fn f:=by cases ro<;>exact trivial
def FR.round(ro:Option Nat):(FR ro).round=ro:=by cases ro<;>rfl
def FR.depth(ro:Option Nat):(FR ro).depth=none:=by cases ro<;>rfl
def FR.calls{a:Array Value}{w:Wt_}{R:Ending->World->Prop}(h:Calls P f a w R):CallsIn (FR ro) n P f a w R:=by
 cases ro with
 |none=>exact callsIn_wide.2 h
 |some l=>exact(callsIn_wide (n:=n)).2 h
def FR.roundIn{m:Nat}{l:Nat}{b:Array Value}{a body:Code}{w:Wt_}{R:Ending->World->Prop}
  (h:RoundIn Fence.wide m P l f b a body w R):RoundIn (FR ro) n P l f b a body w R:=by
 cases ro with
 |none=>exact⟨h.1,λc d _=>h.2 c d (room_wide _)⟩
 |some l=>exact⟨h.1,λc d _=>h.2 c d (room_wide _)⟩
def vk:Op->Bool
 | .defer _| .go _| .select .. =>false
 |_=>true
def BQ{w:Wt_}{next:Act->World->Prop}{Q:Exit->Act->World->Prop}{ρ:Operand->Value}
  (k:vk o.op=true)(l:execOp a.eval o=execOp ρ o)(h:rn P (execOp ρ o) w K)(i:∀v g,K v g->next (a.put o.dst v) g):o.wpIn (FR ro) 0 P a w next Q:=by
 refine⟨λf _=>FR.fn ro f,?_⟩;rw[FR.round,Oper.semAt_eq ro a.eval o (λc m=>by rw[m]at k;cases k),l];rw[pm]at h;unfold Pc at h;split at h
 ·rename_i b;rw[b];exact i _ _ h
 ·rename_i b;rw[b];exact i _ _ h
 ·rename_i b;rw[b]
  refine⟨(λd=>by rw[FR.depth]at d;cases d),FR.calls (jr h.out ?_)⟩;rintro e g ⟨v,rfl,j⟩;exact i _ _ j
 ·rename_i b;rw[b]
  refine⟨(λd=>by rw[FR.depth]at d;cases d),FR.roundIn (h.mono ?_)⟩;rintro e g ⟨v,rfl,j⟩;exact i _ _ j
 ·exact h.elim
def B6(ops:List Oper)(j:Nat):Option Nat:=
 match ops[j]? with
 |some o=>o.dst
 |none=>none
def Tq(ops:List Oper)(o:Oper)(E:fa)(yes no:fa->Prop):Prop:=
 match o.guard with
 |none=>yes E
 |some (j,want)=>
  match B6 ops j with
  |none=>no E
  |some s=>
   match E.skipped s with
   |true=>no E
   |false=>FI (E.get s) λb=>bc b
     ((match want with|true=>yes|false=>no) (E.put (some s) (.bool true)))
     ((match want with|true=>no|false=>yes) (E.put (some s) (.bool false)))
def vM:Value->Option Bool
 | .bool b=>some b
 |_=>none
def jP(ops:List Oper)(E:fa)(o:Oper):Bool:=
 Region.wanted o λj=>(B6 ops j).bind λs=>vM (E.get s)
def fa.Same(E E' :fa):Prop:=(∀t,E'.get t=E.get t)/\E'.ds=E.ds
def fa.Same.refl(E:fa):E.Same E:=⟨λ_=>rfl,rfl⟩
def fa.Same.ev(h:E.Same E'):Vc.ev E' =Vc.ev E:=by
 funext x;cases x<;>first|exact h.1 _|rfl
def fa.Same.wanted(h:E.Same E')(ops:List Oper)(o:Oper):jP ops E' o=jP ops E o:=by
 unfold jP;congr 1;funext j;cases B6 ops j<;>simp[h.1]
def fa.same_put{s:Nat}{v:Vt_}(h:E.get s=v):E.Same (E.put (some s) v):=by
 refine⟨λt=>?_,rfl⟩;rw[fa.get_put];split
 ·grind
 ·rfl
def yB{f no:fa->Prop}(h:Tq ops o E f no):
  (jP ops E o=true/\∃e,E.Same e/\f e)\/(jP ops E o=false/\∃e,E.Same e/\no e):=by
 unfold Tq at h;unfold jP Region.wanted;cases i:o.guard with
 |none=>rw[i]at h;exact .inl ⟨rfl,E,.refl E,h⟩
 |some g=>
  obtain⟨j,a⟩:=g;rw[i]at h;simp only at h|-;cases k:B6 ops j with
  |none=>rw[k]at h;exact .inr ⟨rfl,E,.refl E,h⟩
  |some s=>
   rw[k]at h;simp only at h;cases d:E.skipped s with
   |true=>
    rw[d]at h
    have m:E.get s=undef:=by
     unfold fa.skipped at d;unfold fa.get;split at d
     ·rename_i l;rw[l]
     ·cases d
    exact .inr ⟨by simp[m,undef,vM],E,.refl E,h⟩
   |false=>
    rw[d]at h;simp only[FI]at h;split at h
    ·rename_i b c
     cases b with
     |true=>
      cases a with
      |true=>exact .inl ⟨by simp[c,vM],_,fa.same_put c,h⟩
      |false=>exact .inr ⟨by simp[c,vM],_,fa.same_put c,h⟩
     |false=>
      cases a with
      |true=>exact .inr ⟨by simp[c,vM],_,fa.same_put c,h⟩
      |false=>exact .inl ⟨by simp[c,vM],_,fa.same_put c,h⟩
    ·exact h.elim
def BT(h:∀t,t∈o.looksAt ops.toArray->a.tmps.getD t undef=E.get t):
  Region.wanted o (yielded ops.toArray a.tmps)=jP ops E o:=by
 unfold jP Region.wanted;cases i:o.guard with
 |none=>rfl
 |some g=>
  obtain⟨j,e⟩:=g;simp only;congr 1;unfold yielded B6;cases c:ops[j]? with
  |none=>simp[c]
  |some k=>
   cases d:k.dst with
   |none=>simp[c,d]
   |some s=>
    have f:s∈o.looksAt ops.toArray:=by
     unfold Oper.looksAt;rw[i];simp[c,d]
    have:=h s f;simp only[cG,c,Option.bind_some,d];rw[<-this];by_cases b:s<a.tmps.size
    ·simp only[gz b,fX,cR];cases a.tmps[s]<;>rfl
    ·simp[Array.getElem?_eq_none (kA b),undef,vM]
def E7(c:vk o.op=true)(h:∀t,t∈o.looksAt ops.toArray->a.tmps.getD t undef=E.get t):
  execOp a.eval o=execOp (ev E) o:=by
 refine execOp_congr o (λi b e=>by rw[e]at c;cases c) λx d=>?_;cases x with
 |tmp t=>
  apply h t;unfold Oper.looksAt;refine cD _ (lJ.2 ⟨.tmp t,by simpa using d,rfl⟩)
 |const v=>rfl
 |global g=>rfl
 |func f=>rfl
def LK(E:fa)(f:FuncId):ev E (.func f)=.func (.func f) #[] #[]:=rfl
def GZ{ρ:Operand->Value}{w:Wt_}(h:Ti P ρ o w K):vk o.op=true:=by
 unfold Ti at h;cases a:o.op<;>rw[a]at h<;>first|rfl|exact h.elim
def yP(P:Program)(ops:List Oper):List Oper->fa->World->(fa->World->Prop)->Prop
 | [],E,w,K=>K E w
 |o::rest,E,w,K=>
  Tq ops o E (λE=>Ti P (ev E) o w λv w' =>yP P ops rest (E.put o.dst v) w' K)
   (λE=>yP P ops rest (E.skip o.dst) w K)
def Eu(u:tV P=true){ro:Option Nat}{n:Nat}{ops:List Oper}{Q:Exit->Act->World->Prop}{K:fa->World->Prop}
  (q:∀E a w,uz n E a->K E w->Q .normal a w):∀(l:List Oper),(l.all λo=>vA n o.dst)=true->∀(E:fa) (a:Act) (w:Wt_),uz n E a->
  yP P ops l E w K->wpListIn (FR ro) 0 P ops.toArray Q l a w:=by
 intro l;induction l with
 |nil=>exact λ_ E a w e h=>q E a w e h
 |cons o rest p=>
  intro d E a w e h;simp only[mT,ah]at d;unfold wpListIn;have b:∀t,t∈o.looksAt ops.toArray->a.tmps.getD t undef=E.get t:=λt _=>e.get t;rw[BT b];rcases yB h with⟨j,i,g,m⟩|⟨j,i,g,r⟩
  ·rw[ab j];have c:uz n i a:=e.of_get g.1 g.2;have k:=GZ m;refine BQ (ρ:=ev i) k (by rw[c.ev]) (CX u (LK i) m) λv x s=>?_;exact p d.2 _ _ _ (c.put d.1 v) s
  ·rw[aa (by rw[j];simp)];exact⟨λf _=>FR.fn ro f,p d.2 _ _ _ ((e.of_get g.1 g.2).skip d.1) r⟩
def GS(P:Program)(s:Sem Value)(w:Wt_)(K:Value->Prop):Prop:=
 match s.run P w with
 | .ok v w' =>w' =w/\K v
 | .halt _ _=>False
structure rV(P:Program)(s:Sem Value)(w:Wt_)(K:Value->Prop):Prop where
 out:GS P s w K
def xX{w:Wt_}{K:Value->Prop}:rV P s w K↔GS P s w K:=⟨rV.out,rV.mk⟩
def Yn(P:Program)(s:Sem Value)(K:Value->Prop):Prop:=∃v,(∀w,s.run P w=.ok v w)/\K v
structure qM(P:Program)(s:Sem Value)(K:Value->Prop):Prop where
 out:Yn P s K
def Ux{K:Value->Prop}:qM P s K↔Yn P s K:=⟨qM.out,qM.mk⟩
structure IG(P:Program)(s:Sem Value)(w:Wt_)(K:Value->Prop):Prop where
 out:rV P s w K
structure Hf(P:Program)(s:Sem Value)(K:Value->Prop):Prop where
 out:qM P s K
def xOp(P:Program):Op->Bool
 | .build t _=>CS P t
 | .load t _=>CS P t
 | .lookup .. =>true
 | .convert s d _=>IW P s d
 |_=>false
def wT(P:Program)(ρ:Operand->Value):Op->Option (Sem Value)
 | .binOp op t x y _=>some (nV op t (FK x||FK y) (ρ x) (ρ y))
 | .unOp op _ x=>some (Op.unary op (ρ x))
 | .fieldAddr t x f=>some (iF t (ρ x) f)
 | .field t x f=>some (Instr.field t (ρ x) f)
 | .indexAddr t x i=>some (iX t (ρ x) (ρ i))
 | .index t x i=>some (Instr.index t (ρ x) (ρ i))
 | .slice t x lo hi mx=>some (Instr.sliceAt t (ρ x) (lo.map ρ) (hi.map ρ) (mx.map ρ))
 | .sliceToArrayPointer t x=>some (Instr.arrayAt t (ρ x))
 | .extract t i=>some (Instr.extract (ρ t) i)
 | .build t parts=>match CS P t with
  |true=>some (CV t ⟨parts.toList.map λp=>(p.1,ρ p.2)⟩)
  |false=>some (Instr.build t ⟨parts.toList.map λp=>(p.1,ρ p.2)⟩)
 | .makeInterface t x=>some (Instr.makeInterface t (ρ x))
 |_=>none
def xf(P:Program)(ρ:Operand->Value)(o:Oper):Option (Sem Value):=
 match o.op with
 | .load t x=>match CS P t with
  |true=>some (pp t (ρ x))
  |false=>some (iL t (ρ x))
 | .lookup t x i ok=>some (jF t (ρ x) (ρ i) ok)
 | .call ⟨.builtin .len,args,ts⟩=>some (Builtin.len_ ts o.type ⟨kK ρ args⟩)
 | .call ⟨.builtin .min,args,ts⟩=>some (Builtin.min_ ts o.type ⟨kK ρ args⟩)
 | .call ⟨.builtin .max,args,ts⟩=>some (Builtin.max_ ts o.type ⟨kK ρ args⟩)
 | .convert s d x=>match P.underlying d with
  |some (.slice _)=>none
  |_=>match IW P s d with
   |true=>some (sn s d (ρ x))
   |false=>some (convert s d (ρ x))
 |_=>none
def UA:Op->Bool
 | .move _| .pick .. | .nilCheck _| .makeFunc .. =>true
 |_=>false
def yw(ρ:Operand->Value)(op:Op)(K:Value->Prop):Prop:=
 match op with
 | .move x=>K (ρ x)
 | .pick c x y=>FI (ρ c) λb=>K (Tb b (ρ x) (ρ y))
 | .nilCheck x=>qC (ρ x) K
 | .makeFunc fn first captured=>K (.func fn ⟨kK ρ first⟩ ⟨kK ρ captured⟩)
 |_=>False
def R9(P:Program)(o:Oper):Nat:=
 match UA o.op with
 |true=>0
 |false=>
  match wT P (λ_=>undef) o.op with
  |some _=>1
  |none=>
   match xf P (λ_=>undef) o with
   |some _=>2
   |none=>3
def Fi(o:Oper):List Nat:=(o.after.toList.filter λe=>Region.binds .any e).map (·.on)
def lM(ops:List Oper)(i:Nat):List Nat:=
 match ops[i]? with
 |some o=>Fi o
 |none=>[]
def ZQ(ops:List Oper):Nat->List Nat->List Nat->List Nat
 |0,_,acc=>acc
 |_+1,[],acc=>acc
 |f+1,x::r,acc=>
  match acc.contains x with
  |true=>ZQ ops f r acc
  |false=>ZQ ops f (lM ops x++r) (x::acc)
def CF(ops:List Oper)(j:Nat):List Nat:=ZQ ops 4000 (lM ops j) []
abbrev vw:=List (Nat×Sem Value×Value)
def A5(P:Program)(w:Wt_):vw->Prop->Prop
 | [],R=>R
 |(_,s,v)::r,R=>s.run P w=.ok v w/\A5 P w r R
def Ng(F:NP_):List Nat->Prop
 | []=>True
 | [j]=>F j
 |j::r=>F j/\Ng F r
def Yy(ops:List Oper)(done:List Nat)(i:Nat):Bool:= !done.contains i&& (lM ops i).all λd=>done.contains d
def FM(ops:List Oper)(done:List Nat):List Nat:=(List.range ops.length).filter (Yy ops done)
def Uj(P:Program)(ops:List Oper)(i:Nat):Bool:=
 match ops[i]? with
 |some o=>Nat.blt (R9 P o) 3
 |none=>false
def z8(P:Program)(ops:List Oper):Nat->List Nat->vw->fa->World->(fa->World->Prop)->Prop
 |0,_,_,_,_,_=>False
 |fuel+1,done,pend,E,w,K=>
  match (FM ops done).find? (Uj P ops)with
  |some i=>
   match ops[i]? with
   |none=>False
   |some o=>
    Tq ops o E (λE=>
     match R9 P o with
     |0=>yw (ev E) o.op λv=>z8 P ops fuel (i::done) pend (E.put o.dst v) w K
     |1=>match wT P (ev E) o.op with
      |some s=>match xOp P o.op with
       |true=>Hf P s λv=>z8 P ops fuel (i::done) pend (E.put o.dst v) w K
       |false=>qM P s λv=>z8 P ops fuel (i::done) pend (E.put o.dst v) w K
      |none=>False
     |_=>match xf P (ev E) o with
      |some s=>match xOp P o.op with
       |true=>IG P s w λv=>z8 P ops fuel (i::done) ((i,s,v)::pend) (E.put o.dst v) w K
       |false=>rV P s w λv=>z8 P ops fuel (i::done) ((i,s,v)::pend) (E.put o.dst v) w K
      |none=>False)
     (λE=>z8 P ops fuel (i::done) pend (E.skip o.dst) w K)
  |none=>
   match FM ops done with
   | []=>K E w
   |rs=>Ng (λj=>
    match ops[j]? with
    |none=>False
    |some o=>
     Tq ops o E (λE=>Ti P (ev E) o w λv w' =>A5 P w' (pend.filter λp=> !(CF ops j).contains p.1) (z8 P ops fuel (j::done) (pend.filter λp=> !(CF ops j).contains p.1) (E.put o.dst v) w' K))
      (λE=>z8 P ops fuel (j::done) (pend.filter λp=> !(CF ops j).contains p.1) (E.skip o.dst) w K)) rs
def qU(P:Program)(ops:List Oper):Bool:=
 (List.range ops.length).all λi=>match ops[i]? with
  |none=>false
  |some oi=>vk oi.op&& (!Nat.blt (R9 P oi) 3||((match oi.dst with|none=>true|some d=> !(oi.looksAt ops.toArray).contains d)&& (List.range ops.length).all λj=>Nat.beq i j||match ops[j]? with
   |none=>false
   |some oj=>
    (match oi.dst with
    |none=>true
    |some d=>oj.dst != some d&& (!(oj.looksAt ops.toArray).contains d||(CF ops j).contains i))&&
    (match oj.dst with
    |none=>true
    |some d=> !(oi.looksAt ops.toArray).contains d||(CF ops i).contains j||(CF ops j).contains i)))
def nD(h:qU P ops=true){i:Nat}{o:Oper}(hi:ops[i]? =some o):vk o.op=true:=by
 unfold qU at h;have a:i<ops.length:=(aF.1 hi).1;have:=aW.1 h i (d8.2 a);rw[hi]at this;simp only[ah]at this;exact this.1
def B5(h:qU P ops=true){i:Nat}{o:Oper}(hi:ops[i]? =some o)(e:R9 P o<3){d:Nat}(b:o.dst=some d):
  d ∉ o.looksAt ops.toArray:=by
 unfold qU at h;have a:i<ops.length:=(aF.1 hi).1;have:=aW.1 h i (d8.2 a);rw[hi]at this;have c:Nat.blt (R9 P o) 3=true:=by simpa [lB]using e
 simp only[c,b,ah,iE,eZ]at this;simpa using this.2.1
def qQ(h:qU P ops=true){i j:Nat}{e k:Oper}(hi:ops[i]? =some e)(o:ops[j]? =some k)(s:R9 P e<3)(n:i≠j):
  (∀d,e.dst=some d->k.dst≠some d/\(d∈k.looksAt ops.toArray->i∈CF ops j))/\
  (∀d,k.dst=some d->d∈e.looksAt ops.toArray->j∈CF ops i\/i∈CF ops j):=by
 unfold qU at h;have m:i<ops.length:=(aF.1 hi).1;have f:j<ops.length:=(aF.1 o).1;have:=aW.1 h i (d8.2 m);rw[hi]at this;have p:Nat.blt (R9 P e) 3=true:=by simpa [lB]using s
 simp only[p,ah,iE,eZ]at this;have g:=aW.1 this.2.2 j (d8.2 f)
 have b:Nat.beq i j=false:=by
  cases q:Nat.beq i j with
  |false=>rfl
  |true=>exact absurd (dK q) n
 rw[o,b]at g;simp only[eZ,ah]at g;refine⟨λd l=>?_,λd l r=>?_⟩
 ·have a:=g.1;rw[l]at a;simp only[ah,bne_iff_ne,ne_eq,nT]at a;refine⟨a.1,λr=>?_⟩;rcases a.2 with c|c
  ·grind
  ·simpa using c
 ·have a:=g.2;rw[l]at a;simp only[nT]at a;rcases a with(c|c)|c
  ·grind
  ·grind
  ·grind
def wo(ops:List Oper)(L:List Nat):Prop:=∀i∈L,∀d∈lM ops i,d∈L
def VW(e:wo ops L):∀(f:Nat) (c acc:List Nat),(∀x∈c,x∈L)->(∀x∈acc,x∈L)->∀x∈ZQ ops f c acc,x∈L:=by
 intro f;induction f with
 |zero=>intro c acc _ d x b;exact d x b
 |succ f h=>
  intro c acc g d x b;cases c with
  |nil=>exact d x b
  |cons y r=>
   simp only[ZQ]at b;split at b
   ·grind
   ·refine h _ _ (λz a=>?_) (λz a=>?_) x b
    ·rcases aN.1 a with a|a
     ·exact e y (g y ai) z a
     ·grind
    ·rcases aq.1 a with rfl|a
     ·grind
     ·exact d z a
def AF(b:wo ops L){j:Nat}(a:∀d∈lM ops j,d∈L):∀x∈CF ops j,x∈L:=
 VW b 4000 _ _ a (λ_ h=>by cases h)
def wo.cons(c:wo ops L){j:Nat}(e:∀d∈lM ops j,d∈L):wo ops (j::L):=by
 intro i a d b;rcases aq.1 a with rfl|a
 ·grind
 ·exact ae _ (c i a d b)
def Rq:Yy ops done i=true↔i ∉ done/\∀d∈lM ops i,d∈done:=by
 simp[Yy]
def qI:i∈FM ops done↔i<ops.length/\i ∉ done/\∀d∈lM ops i,d∈done:=by
 simp[FM,aM,Rq]
def De(P:Program)(s:Sem Value)(w:Wt_)(v:Vt_)(w' :Wt_)(h:s.run P w=.ok v w'):(do pure (.value (<-s)):Sem Next).run P w=.ok (.value v) w' :=by
 simp[cY,h,Result.andThen]
def Fp{ρ:Operand->Value}{K:Value->Prop}(h:yw ρ o.op K):
  ∃v,(∀w,(execOp ρ o).run P w=.ok (.value v) w)/\K v:=by
 obtain⟨f,g,e,pos,d,guard⟩:=o;unfold yw at h;cases g<;>simp only at h<;>first|exact h.elim|skip
 case move x=>exact⟨_,λ_=>rfl,h⟩
 case pick c x y=>
  unfold FI at h;split at h
  ·rename_i b j
   refine⟨_,λw=>?_,h⟩;simp only[execOp,j,asBool,cY,ii,Result.andThen,Mu]
  ·exact h.elim
 case nilCheck x=>
  unfold qC at h;split at h
  ·rename_i a i
   exact⟨_,λw=>by simp only[execOp,i,ii],h⟩
  ·exact h.elim
 case makeFunc fn first captured=>
  rw[nX,nX]at h;exact⟨_,λ_=>rfl,h⟩
def FG{ρ:Operand->Value}(h:wT P ρ o.op=some s):execOp ρ o=(do pure (.value (<-s))):=by
 obtain⟨c,d,b,pos,a,guard⟩:=o;unfold wT at h;cases d<;>simp only at h<;>first|(cases h;done)|(cases h;rfl)|skip
 case build t ps=>
  have h:Instr.build t ⟨ps.toList.map λp=>(p.1,ρ p.2)⟩=s:=by
   split at h
   ·exact cM h
   ·exact cM h
  subst h
  have e:(⟨ps.toList.map λp=>(p.1,ρ p.2)⟩:Array (Nat×Value))=ps.map λ(i,x)=>(i,ρ x):=by
   apply jU;simp
  simp only[execOp];rw[e]
def E6{ρ:Operand->Value}(h:xf P ρ o=some s):execOp ρ o=(do pure (.value (<-s))):=by
 obtain⟨j,k,i,pos,e,guard⟩:=o;unfold xf at h;cases k<;>simp only at h<;>first|(cases h;done)|(cases h;rfl)|skip
 case load t x=>
  split at h
  ·cases h;rfl
  ·cases h;rfl
 case convert a b x=>
  split at h
  ·cases h
  ·split at h
   ·cases h;rfl
   ·cases h;rfl
 case call c=>
  obtain⟨d,g,l⟩:=c;cases d with
  |value f=>cases h
  |invoke r m=>cases h
  |builtin b=>
   cases b<;>simp only at h<;>first|(cases h;done)|skip
   all_goals
    rw[nX]at h;cases h;rfl
def WI(P:Program)(ops:List Oper)(E:fa)(w:Wt_)(pend:vw)(i:Nat):Prop:=
 ∃o,ops[i]? =some o/\R9 P o<3/\
  ((jP ops E o=true/\∃v,(∀d,o.dst=some d->E.get d=v)/\(execOp (ev E) o).run P w=.ok (.value v) w/\
    ((∀w',(execOp (ev E) o).run P w' =.ok (.value v) w')\/∃s,(i,s,v)∈pend/\∀w',s.run P w' =.ok v w' ->(execOp (ev E) o).run P w' =.ok (.value v) w'))\/
  (jP ops E o=false/\∀d,o.dst=some d->E.get d=undef))
def Ae(ops:List Oper)(L:List Nat):List Nat->Prop
 | []=>True
 |i::A=>(∀d∈lM ops i,d∈L\/d∈A)/\Ae ops L A
def Ae.mono{b:List Nat}(h:∀x∈L,x∈b):∀{A:List Nat},Ae ops L A->Ae ops b A
 | [],_=>trivial
 |_::_,a=>⟨λd c=>(a.1 d c).imp (h d) id,Ae.mono h a.2⟩
def Ae.erase{j:Nat}:∀{A:List Nat},Ae ops L A->Ae ops (j::L) (A.erase j)
 | [],_=>trivial
 |i::A,b=>by
  by_cases a:i=j
  ·subst a;rw[List.erase_cons_head];exact b.2.mono (λx f=>ae _ f)
  ·rw[List.erase_cons_tail (by simpa using a)];refine⟨λd c=>?_,b.2.erase⟩;rcases b.1 d c with h|h
   ·grind
   ·by_cases e:d=j
    ·grind
    ·grind
def Ae.first:∀{A:List Nat},Ae ops L A->A≠ []->∃i∈A,∀d∈lM ops i,d∈L
 | [],_,h=>absurd rfl h
 | [i],b,_=>⟨i,ai,λd a=>(b.1 d a).resolve_right (by simp)⟩
 |i::k::A,b,_=>by
  obtain⟨j,c,a⟩:=b.2.first (by simp);exact⟨j,ae _ c,a⟩
structure DY(P:Program)(ops:List Oper)(n:Nat)(L A:List Nat)(done:List Nat)(pend:vw)(E:fa)(a:Act)(w:Wt_):Prop where
 doneIff:∀i,i∈done↔i∈L\/i∈A
 apart:∀i∈A,i ∉ L
 nodup:A.Nodup
 ord:Ae ops L A
 closed:wo ops L
 size:a.tmps.size=n
 defs:a.defers=E.ds.map λd=>{target:=.collected d,args:=#[]}
 frame:∀t,(∀i∈A,∀o,ops[i]? =some o->o.dst≠some t)->a.tmps.getD t undef=E.get t
 val:∀i∈A,WI P ops E w pend i
def DY.closedDone{A:List Nat}{e:vw}{w:Wt_}(h:DY P ops n L A done e E a w):wo ops done:=by
 have g:∀(A:List Nat),Ae ops L A->∀i∈A,∀d∈lM ops i,d∈L\/d∈A:=by
  intro A;induction A with
  |nil=>intro _ i b;cases b
  |cons k A j=>
   intro f i b d c;rcases aq.1 b with rfl|b
   ·exact(f.1 d c).imp id (ae _)
   ·exact(j f.2 i b d c).imp id (ae _)
 intro i b d c;rcases(h.doneIff i).1 b with b|b
 ·exact(h.doneIff d).2 (.inl (h.closed i b d c))
 ·exact(h.doneIff d).2 (g A h.ord i b d c)
def HP{P:Program}(d:vk o.op=true)(h:∀t∈o.looksAt ops.toArray,E'.get t=E.get t):
  execOp (ev E') o=execOp (ev E) o/\jP ops E' o=jP ops E o:=by
 constructor
 ·refine execOp_congr o (λn b m=>by rw[m]at d;cases d) λx l=>?_;cases x with
  |tmp t=>
   apply h t;unfold Oper.looksAt;exact cD _ (lJ.2 ⟨.tmp t,by simpa using l,rfl⟩)
  |const v=>rfl
  |global g=>rfl
  |func f=>rfl
 ·unfold jP Region.wanted;cases e:o.guard with
  |none=>rfl
  |some g=>
   obtain⟨j,c⟩:=g;simp only;congr 1;unfold B6;cases k:ops[j]? with
   |none=>rfl
   |some i=>
    cases a:i.dst with
    |none=>simp[a]
    |some s=>
     simp only[a,Option.bind_some];rw[h s (by unfold Oper.looksAt;rw[e];simp[k,a])]
def WI.env(l:qU P ops=true){E E' :fa}{w:Wt_}{c a:vw}{i:Nat}(h:WI P ops E w c i)
  (j:∀o,ops[i]? =some o->∀t,t∈o.looksAt ops.toArray\/o.dst=some t->E'.get t=E.get t)(hp:∀x∈c,x∈a):WI P ops E' w a i:=by
 obtain⟨o,e,r,q⟩:=h;have m:=HP (P:=P) (ops:=ops) (E:=E) (E' :=E') (nD l e) λt n=>j o e t (.inl n);refine⟨o,e,r,?_⟩;rw[m.1,m.2];rcases q with⟨k,v,g,p,f⟩|⟨k,g⟩
 ·refine .inl ⟨k,v,λd b=>(j o e d (.inr b)).trans (g d b),p,?_⟩;rcases f with f|⟨s,u,f⟩
  ·exact .inl f
  ·grind
 ·exact .inr ⟨k,λd b=>(j o e d (.inr b)).trans (g d b)⟩
def WI.world{w w' :Wt_}{b a:vw}(h:WI P ops E w b i)
  (hp:∀s v,(i,s,v)∈b->(i,s,v)∈a/\(w' =w\/s.run P w' =.ok v w')):WI P ops E w' a i:=by
 obtain⟨o,k,m,d⟩:=h;refine⟨o,k,m,?_⟩;rcases d with⟨j,v,g,l,c⟩|d
 ·rcases c with c|⟨s,f,c⟩
  ·grind
  ·refine .inl ⟨j,v,g,?_,.inr ⟨s,(hp s v f).1,c⟩⟩;rcases(hp s v f).2 with e|e
   ·rw[e];exact l
   ·exact c w' e
 ·exact .inr d
end Go.Vc
