/- Part of a proof. -/
import Derived.CallsIn
import Derived.OrdersIn
import Derived.RangeFuncIn
import Derived.RangeFuncLeaves
import Derived.KernelRfl
import Derived.Laws.Sem
import Derived.Laws.World
import Derived.RangeFuncRecord
import Derived.TacticsIn
set_option linter.all false
namespace Go.Vc
open Go Go.Vc
variable {a:Act}{f:FuncId}{L done ds:List Nat}{ops:List Oper}{n i t:Nat}{o:Oper}{ro:Option Nat}{P:Program}{s:Sem Value}{S:Type}{v:Value}{w:World}
def nM:= @Go.Calls.mono
def eX:= @List.getElem?_toArray
def kz:= @Array.getElem?_eq_getElem
def jS:= @Array.getD_eq_getD_getElem?
def fT:= @Option.getD_some
def nW:= @Nat.le_of_not_lt
def fk:= @List.mem_append_left
def pg:= @List.mem_filterMap
def qq:= @List.all_cons
def cL:= @Bool.and_eq_true
def bZ:= @if_pos
def aZ:= @if_neg
def cP:= @List.getElem?_eq_some_iff
def dF:= @List.all_eq_true
def iQ:= @List.mem_range
def oX:= @Nat.blt_eq
def mL:= @Bool.not_true
def jz:= @Bool.false_or
def fZ:= @Nat.eq_of_beq_eq_true
def rt:= @Bool.or_eq_true
def dg:= @List.mem_append
def cw:= @List.mem_cons_self
def cH:= @List.mem_cons
def cu:= @List.mem_cons_of_mem
def cO:= @List.mem_filter
def fE:= @Go.Sem.run_bind
def ly:= @Go.Sem.run_pure
def dB:= @Option.some.inj
def nQ:= @Array.ext'
def dA:= @List.nodup_cons
def kG:= @Ne.symm
def fl:= @List.mem_of_find?_eq_some
def jw:= @List.find?_some
def eK:= @List.mem_singleton
def eT:= @List.size_toArray
def cE:= @List.getElem?_eq_getElem
def iD:= @Option.map_some
def cF:= @List.mem_map
def nh:= @Array.all_eq_true'
def dU:= @Classical.byContradiction
def jx:= @List.eq_nil_iff_forall_not_mem
def cC:= @List.getElem_mem
def lF:= @List.filter_filter
def gF:= @List.filter_congr
def pf:= @List.contains_cons
def lu:= @List.length_filter_lt_length_iff_exists
def dL:= @List.mem_of_getElem?
def sj:= @Bool.and_false
def gg:= @List.mem_append_right
def kM:= @Bool.or_eq_false_iff
def nB:= @List.nodup_nil
def dQ:= @List.map_map
def iP:= @List.map_id
def dt:= @List.map_congr_left
def dc:= @List.length_cons
def fF:= @List.drop_eq_getElem_cons
def ig:= @List.foldl_cons
def fh:= @if_true
def eW:= @if_false
def dy:= @List.map_append
def eG:= @Go.World.size_alloc
def nY:= @Nat.zero_le
def lz:= @Nat.sub_zero
def ky:= @List.getElem?_eq_none
def js:= @Array.getElem?_eq_some_iff
def sh:= @List.mapM_cons
def gL:= @Bool.false_ne_true
def db:= @decide_eq_true
def dN:= @decide_eq_true_eq
def fd:= @Iff.rfl
def dx:= @Go.run_underlying
def dE:= @Bool.false_eq_true
def nT:= @Array.getElem?_modify
def dR:= @of_decide_eq_true
def jU:= @Nat.add_assoc
def cJ:= @Nat.le_refl
def dD:= @Nat.le_trans
def ep:= @Nat.lt_of_lt_of_le
def lQ:= @Go.World.putObj_size
def iE:= @List.getElem?_take
def iY:= @List.getElem?_drop
def eN:= @List.drop_drop
def fS:= @Nat.min_eq_left
def dS:= @Nat.add_zero
def qJ:= @List.zipIdx_cons
def gR:= @Nat.mod_lt
def jP:= @getElem!_pos
def qj:= @Nat.le_mul_of_pos_right
def dM:= @Nat.mul_le_mul_right
def df:= @List.append_assoc
def qf:= @Nat.sub_mul
def eu:= @List.flatMap_cons
def fA:= @List.getElem_cons_succ
def fj:= @List.drop_left
def im:= @Nat.add_mul
def fU:= @Int.mul_le_mul_of_nonneg_right
def cM:= @List.map_cons
def fN:= @List.take_left
def fC:= @congrArg
def mO:= @not_or
def kJ:= @List.Sublist.refl
def mR:= @List.cons.injEq
def jr:= @Option.some.injEq
def mT:= @List.eraseIdx_cons_succ
def dO:= @List.getElem?_map
def ny:= @List.ext_getElem?
def nX:= @List.getElem?_modify
def nN:= @Array.getElem?_toList
def dh:= @List.take_append_of_le_length
def cT:= @List.take_of_length_le
def qF:= @List.drop_append
def jO:= @List.nil_append
def fi:= @List.filter_eq_self
def jv:= @List.filter_sublist
def cY:= @List.filter_cons_of_neg
def dn:= @List.mem_map_of_mem
def dI:= @List.filter_cons_of_pos
def lh:= @Array.eq_empty_of_size_eq_zero
def kI:= @Bool.eq_false_iff
def mI:= @Array.length_toList
def fw:= @List.Perm.refl
def cZ:= @List.length_take
def dV:= @List.length_drop
def eF:= @Go.IntKind.wrap_i64
def qh:= @Nat.pow_add
def lS:= @Nat.pow_le_pow_right
def jE:= @Nat.mul_le_mul
def fe:= @Nat.mul_comm
def mN:= @Nat.mul_assoc
def pX:= @Nat.mul_one
def eU:= @Nat.zero_add
def lV:= @List.pairwise_append
def fO:= @List.pairwise_cons
def fD:= @List.pairwise_map
def qL:= @List.perm_middle
def lI:= @List.Perm.of_eq
def iC:= @Bool.eq_iff_iff
def jL:= @List.find?_cons
def ou:= @Prod.mk.injEq
def dm:= @List.length_filter_le
def di:= @List.sum_cons
def kP:= @List.length_eraseIdx
def ej:= @decide_eq_false
def tJ:= @true_and
def qP:= @decide_eq_decide
def lU:= @Int.mul_nonneg
def eZ:= @List.drop_append_of_le_length
def iw:= @List.drop_zero
def dC:= @List.getElem?_append_left
def cQ:= @List.getElem?_append_right
def kv:= @Int.tmod_eq_emod_of_nonneg
def kL:= @List.take_add_one
def gj:= @List.all_append
def jN:= @Nat.add_sub_cancel_left
def ri:= @Nat.succ_pos
def ek:= @List.mem_of_mem_take
def jF:= @List.eq_nil_of_length_eq_zero
def iB:= @Int.natCast_mul
def cD:= @List.length_append
def lq:= @List.take_succ_cons
def lJ:= @List.take_length_add_append
def kO:= @Int.toNat_natCast
def nv:= @Nat.zero_mul
def eJ:= @List.flatMap_append
def nP:= @List.length_singleton
def fP:= @List.take_append_drop
def kT:= @List.mem_of_mem_drop
def eB:= @List.findIdx?_eq_some_iff_getElem
def fR:= @List.findIdx?_eq_none_iff
def cX:= @List.getElem_of_mem
def fV:= @List.find?_eq_some_iff_getElem
def fW:= @List.find?_eq_none
def qH:= @Nat.lt_succ_self
def gh:= @List.set_append_right
def ed:= @List.setIfInBounds_toArray
def gZ:= @List.set_append_left
def ey:= @List.length_set
def iN:= @List.getElem_cons_zero
def gG:= @List.mem_or_eq_of_mem_set
def kY:= @Option.isSome_iff_exists
def qK:= @Nat.div_add_mod'
def eI:= @List.pairwise_iff_getElem
def jh:= @decide_eq_false_iff_not
def cz:= @List.length_map
def iT:= @Int.natCast_add
def dJ:= @List.filter_append
def g9:= @List.sum_append
def oO:= @List.takeWhile_cons
def ft:= @Int.add_zero
def cN:= @List.take_length
def mi:= @List.not_mem_nil
def io:= @Int.le_refl
def oD:= @Int.add_assoc
def kH:= @List.foldl_append
def ew:= @List.append_nil
def lZ:= @Int.shiftRight_eq_div_pow
def eL:= @List.getElem_map
def nt:= @List.set_set
def gV:= @List.getElem_set_self
def gA:= @List.any_eq_true
def kw:= @List.take_zero
def fg:= @List.drop_of_length_le
def iR:= @Nat.div_lt_iff_lt_mul
def jD:= @Nat.lt_of_le_of_lt
def je:= @Nat.succ_mul
def mE:= @Nat.div_mul_le_self
def ie:= @Nat.div_add_mod
def jf:= @Nat.add_comm
def iM:= @Nat.mod_eq_of_lt
def oI:= @Nat.two_pow_pos
def oS:= @Nat.div_le_self
def nV:= @Int.natCast_ediv
def lY:= @List.map_set
def nH:= @List.any_eq_false
def oN:= @Nat.mul_le_mul_left
def iH:= @List.getD_eq_getElem?_getD
def mg:= @Nat.sub_self
def fG:= @List.length_replicate
def gK:= @List.getElem_cons_drop
def jp:= @Bool.false_and
def oo:= @Bool.true_and
def oR:= @List.range_succ
def iz:= @List.filter_nil
def nI:= @List.all_eq_false
def lg:= @List.eq_of_mem_replicate
def nS:= @List.set_getElem_self
def jI:= @List.nodup_append
def kQ:= @List.any_cons
def lD:= @List.find?_cons_of_pos
def lE:= @List.find?_cons_of_neg
def oZ:= @Int.lt_of_lt_of_le
def jB:= @List.eraseIdx_sublist
def ii:= @List.filter_eq_nil_iff
def kt:= @List.length_eraseIdx_of_lt
def lv:= @List.drop_length
def qe:= @Option.isSome_map
def qN:= @List.flatMap_nil
def mQ:= @Go.IntKind.wrap_u8
def qb:= @decide_true
def qZ{p:Prop}(h:p:=by omega):p:=h
def dW{α:Sort _}(a:α):∃x,x=a:=⟨_,rfl⟩
def eQ{α:Sort _}{β:α->Sort _}{p:(a:α)->β a->Prop}(a:α)(b:β a)(h:p a b):p a b:=h
def qie{α:Sort _}{β:α->Sort _}{p:(a:α)->β a->Prop}(a:α)(b:β a)(h:False):p a b:=h.elim
def cU{p:Prop}(h:p:=by kernel_rfl):p:=h
abbrev cG:=Value->World->Prop
variable {K:cG}
structure Ca(P:Program)(f:FuncId)(args:Array Value)(w:World)(K:cG):Prop where
 out:Calls P f args w λe w' =>∃v,e=.returned v/\K v w'
def Ca.mono{a:Array Value}{c:cG}(h:Ca P f a w K)(d:∀v b,K v b->c v b):Ca P f a w c:=
 ⟨Calls.mono h.out λ_ _ ⟨v,g,e⟩=>⟨v,g,d _ _ e⟩⟩
def Yl(P:Program)(l:Nat)(args:Array Value)(w:World)(K:cG):Prop:=
 ∃fn tmps assign body,(Instr.yield l args).run P w=.ok (.round l fn tmps assign body) w/\
  RoundIn Fence.wide 0 P l fn tmps assign body w λe w' =>∃v,e=.returned v/\K v w'
def Yl.mono{l:Nat}{c:Array Value}{e:cG}(h:Yl P l c w K)(f:∀v d,K v d->e v d):Yl P l c w e:=
 let⟨fn,tmps,a,b,h1,h2⟩:=h
 ⟨fn,tmps,a,b,h1,h2.mono λ_ _ ⟨v,i,g⟩=>⟨v,i,f _ _ g⟩⟩
def Yq(P:Program)(s:Sem Value)(w:World)(K:cG):Prop:=
 match s.run P w with
 | .ok v w' =>K v w'
 | .halt _ _=>False
structure rv(P:Program)(s:Sem Value)(w:World)(K:cG):Prop where
 out:Yq P s w K
def FN:rv P s w K↔Yq P s w K:=⟨rv.out,rv.mk⟩
def XO(P:Program)(s:Sem Unit)(w:World)(K:World->Prop):Prop:=
 match s.run P w with
 | .ok _ w' =>K w'
 | .halt _ _=>False
structure ru(P:Program)(s:Sem Unit)(w:World)(K:World->Prop):Prop where
 out:XO P s w K
def Fo{s:Sem Unit}{K:World->Prop}:ru P s w K↔XO P s w K:=⟨ru.out,ru.mk⟩
structure rx(P:Program)(s:Sem Value)(w:World)(K:cG):Prop where
 out:rv P s w K
structure nj(P:Program)(s:Sem Unit)(w:World)(K:World->Prop):Prop where
 out:ru P s w K
def Ol(P:Program)(s:Sem Next)(w:World)(K:cG):Prop:=
 match s.run P w with
 | .ok (.value v) w' =>K v w'
 | .ok .skip w' =>K undef w'
 | .ok (.enter f args) w' =>Ca P f args w' K
 | .ok (.round l fn tmps assign body) w' =>RoundIn Fence.wide 0 P l fn tmps assign body w' λe w'' =>∃v,e=.returned v/\K v w''
 |_=>False
structure rn(P:Program)(s:Sem Next)(w:World)(K:cG):Prop where
 out:Ol P s w K
def sN{s:Sem Next}:rn P s w K↔Ol P s w K:=⟨rn.out,rn.mk⟩
def wV(P:Program):Bool:=P.funcs.all λfn=> !(fn.name== "runtime.NumGoroutine")
def K5(P:Program)(fv:Value)(args:List Value)(w:World)(K:cG):Prop:=
 match fv with
 | .func (.func f) first captured=>Ca P f ⟨first.toList++(args++captured.toList)⟩ w K
 | .func (.yield l) first _=>Yl P l ⟨first.toList++args⟩ w K
 |_=>False
structure iv(P:Program)(fv:Value)(args:List Value)(w:World)(K:cG):Prop where
 out:K5 P fv args w K
def oe{fv:Value}{a:List Value}:iv P fv a w K↔K5 P fv a w K:=⟨iv.out,iv.mk⟩
def Gz(v:Value)(K:Bool->Prop):Prop:=
 match v with
 | .bool b=>K b
 |_=>False
def bc(b:Bool)(T F:Prop):Prop:=
 match b with
 |true=>T
 |false=>F
def cV(v:Value)(T F:Prop):Prop:=Gz v λb=>bc b T F
def Uv(b:Bool)(x y:Value):Value:=
 match b with
 |true=>x
 |false=>y
def LX(b:Bool)(x y:Value):Uv b x y=if b then x else y:=by cases b<;>rfl
structure jg where
 l:List (Nat×Option Value)
 g:Nat->Value
 ds:List Nat
variable {E E' :jg}
def jg.look:List (Nat×Option Value)->Nat->Option (Option Value)
 | [],_=>none
 |(k,v)::r,t=>bif Nat.beq k t then some v else jg.look r t
def jg.get(E:jg)(t:Nat):Value:=
 match jg.look E.l t with
 |some (some v)=>v
 |some none=>undef
 |none=>E.g t
def jg.put(E:jg)(d:Option Nat)(v:Value):jg:=
 match d with
 |some d=>{E with l:=(d,some v)::E.l}
 |none=>E
def jg.skip(E:jg)(d:Option Nat):jg:=
 match d with
 |some d=>{E with l:=(d,none)::E.l}
 |none=>E
def jg.skipped(E:jg)(t:Nat):Bool:=
 match jg.look E.l t with
 |some none=>true
 |_=>false
def ev(E:jg):Operand->Value
 | .tmp t=>E.get t
 | .const v=>v
 | .global g=>.pointer (some ⟨g,0,none⟩)
 | .func f=>.func (.func f) #[] #[]
structure xm(n:Nat)(E:jg)(a:Act):Prop where
 size:a.tmps.size=n
 get:∀t,a.tmps.getD t undef=E.get t
 defs:a.defers=E.ds.map λd=>{target:=.collected d,args:=#[]}
def xm.ev(h:xm n E a):a.eval=ev E:=by
 funext x;cases x with
 |tmp t=>exact h.get t
 |const v=>rfl
 |global g=>rfl
 |func f=>rfl
def jg.get_put(E:jg)(d:Nat)(v:Value)(t:Nat):(E.put (some d) v).get t=if d=t then v else E.get t:=by
 by_cases h:d=t
 ·subst h;simp[jg.get,jg.put,jg.look]
 ·have:Nat.beq d t=false:=by
   cases a:Nat.beq d t with
   |false=>rfl
   |true=>exact absurd (Nat.eq_of_beq_eq_true a) h
  simp[jg.get,jg.put,jg.look,this,h]
def jg.get_skip(E:jg)(d:Nat)(t:Nat):(E.skip (some d)).get t=if d=t then undef else E.get t:=by
 by_cases h:d=t
 ·subst h;simp[jg.get,jg.skip,jg.look]
 ·have:Nat.beq d t=false:=by
   cases a:Nat.beq d t with
   |false=>rfl
   |true=>exact absurd (Nat.eq_of_beq_eq_true a) h
  simp[jg.get,jg.skip,jg.look,this,h]
def yk(n:Nat):Option Nat->Bool
 |some d=>Nat.blt d n
 |none=>true
def Hr(xs:Array Value)(d t:Nat)(v:Value)(h:d<xs.size):(xs.setIfInBounds d v).getD t undef=if d=t then v else xs.getD t undef:=by
 by_cases a:d=t
 ·subst a;simp[h]
 ·simp[a]
def xm.put(h:xm n E a){d:Option Nat}(c:yk n d=true)(v:Value):xm n (E.put d v) (a.put d v):=by
 cases d with
 |none=>exact h
 |some d=>
  have b:d<a.tmps.size:=by rw[h.size];simpa [yk,Nat.blt_eq]using c
  refine⟨by simp[Act.put,h.size],λt=>?_,h.defs⟩;rw[jg.get_put];simp only[Act.put];rw[Hr _ _ _ _ b,h.get]
def xm.skip(h:xm n E a){d:Option Nat}(c:yk n d=true):xm n (E.skip d) (a.put d undef):=by
 cases d with
 |none=>exact h
 |some d=>
  have b:d<a.tmps.size:=by rw[h.size];simpa [yk,Nat.blt_eq]using c
  refine⟨by simp[Act.put,h.size],λt=>?_,h.defs⟩;rw[jg.get_skip];simp only[Act.put];rw[Hr _ _ _ _ b,h.get]
def xm.of_get(h:xm n E a)(c:∀t,E'.get t=E.get t)(b:E'.ds=E.ds):xm n E' a:=
 ⟨h.size,λt=>(h.get t).trans (c t).symm,by rw[b];exact h.defs⟩
def Qk:Operand->Bool
 | .const _=>true
 |_=>false
def eqG(op:BinOp)(t:TypeId)(c:Bool)(a b:Value):Sem Unit:=do
 if !(op matches .eql| .neq)then return
 match a,b with
 | .nilIface,.nilIface=>
  if c then return
  if<-Op.eqGuardIn Op.maxDepth t a b then unsupported (.noEntry "binop/eql: two nil values of an interface type with methods, neither of them the literal nil")
 | .agg _,.agg _=>
  if !(<-program).eqGuardType (<-program).depth t then return
  if<-Op.eqGuardIn Op.maxDepth t a b then unsupported (.noEntry "binop/eql: two nil values of an interface type with methods, in a part of a struct or an array")
 |_,_=>pure ()
def Yw(c:BinOp)(t:TypeId)(x y:Operand)(a b:Value):eqGuard c t x y a b=eqG c t (Qk x||Qk y) a b:=by
 unfold eqGuard eqG;cases x<;>cases y<;>rfl
def qE(op:BinOp)(t:TypeId)(c:Bool)(a b:Value):Sem Value:=do eqG op t c a b;binOp op t a b
def ez(v:Value)(K:Value->Prop):Prop:=
 match v with
 | .pointer (some a)=>K (.pointer (some a))
 |_=>False
def DU(P:Program)(t:TypeId):Bool:=Nat.blt 12 (P.cellsOf t)
def fH(t:TypeId)(x:Value):Sem Value:=Instr.loadAt t x
def jH(t:TypeId)(x y:Value):Sem Unit:=Instr.storeAt t x y
def nE(t:TypeId):Sem Value:=Instr.alloc t true (.tuple #[])
def rB(t:TypeId)(parts:Array (Nat×Value)):Sem Value:=Instr.build t parts
def eg(ts:Array TypeId)(t:TypeId)(args:List Value):Sem Value:=Builtin.append_ ts t ⟨args⟩
def vY(ts:Array TypeId)(t:TypeId)(args:List Value):Sem Value:=Builtin.copy_ ts t ⟨args⟩
def wo(ts:Array TypeId)(t:TypeId)(args:List Value):Sem Value:=Builtin.delete_ ts t ⟨args⟩
def Ay(ts:Array TypeId)(t:TypeId)(args:List Value):Sem Value:=Builtin.clear_ ts t ⟨args⟩
def Ak(t:TypeId)(l c:Value):Sem Value:=Instr.makeSlice t l c
def jQ(t:TypeId)(n:Nat)(parts:List (Nat×Value)):Sem Value:=Instr.buildSlice t n ⟨parts⟩
def uL(s d:TypeId)(x:Value):Sem Value:=convert s d x
def ji(t:TypeId)(m k:Value)(ok:Bool):Sem Value:=Instr.lookup t m k ok
def nm(t:TypeId)(m k v:Value):Sem Unit:=Instr.mapUpdate t m k v
def ue(t:TypeId)(x:Value):Sem Value:=Instr.range t x
def wh(it:Value)(s:Bool)(t:TypeId):Sem Value:=Instr.next it s t
def uf(it:Value):Sem Value:=Instr.entry it
def Tf(t:TypeId)(m k:Value):Sem Value:=Instr.mapEntry t m k
def Xr(t:TypeId)(m s v:Value):Sem Unit:=Instr.entryStore t m s v
def IY(P:Program)(s d:TypeId):Bool:=
 (match P.underlying s with|some (.slice _)=>true|_=>false)||(match P.underlying d with|some (.slice _)=>true|_=>false)
def YI(P:Program)(f:FuncId):Bool:=match (P.funcs[f]?).bind (·.body)with|none=>true|some _=>false
structure rnx(P:Program)(f:FuncId)(args:List Value)(w:World)(K:cG):Prop where
 out:rn P (callFunc f ⟨args⟩) w K
def ov(ρ:Operand->Value)(xs:Array Operand):List Value:=xs.toList.map ρ
def Sy(P:Program)(ρ:Operand->Value)(o:Oper)(w:World)(K:cG):Prop:=
 match o.op with
 | .move x| .assign x=>K (ρ x) w
 | .pick c x y=>Gz (ρ c) λb=>K (Uv b (ρ x) (ρ y)) w
 | .alloc elem=>match DU P elem with
  |true=>rx P (nE elem) w K
  |false=>rv P (Instr.alloc elem true (.tuple #[])) w K
 | .box elem x=>rv P (Instr.box elem (ρ x)) w K
 | .build t parts=>match DU P t with
  |true=>rx P (rB t ⟨parts.toList.map λp=>(p.1,ρ p.2)⟩) w K
  |false=>rv P (Instr.build t ⟨parts.toList.map λp=>(p.1,ρ p.2)⟩) w K
 | .buildSlice t len parts=>rx P (jQ t len (parts.toList.map λp=>(p.1,ρ p.2))) w K
 | .load t x=>match DU P t with
  |true=>rx P (fH t (ρ x)) w K
  |false=>rv P (Instr.loadAt t (ρ x)) w K
 | .store t x y=>match DU P t with
  |true=>nj P (jH t (ρ x) (ρ y)) w (K undef)
  |false=>ru P (Instr.storeAt t (ρ x) (ρ y)) w (K undef)
 | .binOp op t x y _=>rv P (qE op t (Qk x||Qk y) (ρ x) (ρ y)) w K
 | .unOp op _ x=>rv P (Op.unary op (ρ x)) w K
 | .convert s d x=>match IY P s d with
  |true=>rx P (uL s d (ρ x)) w K
  |false=>rv P (convert s d (ρ x)) w K
 | .sliceToArrayPointer t x=>rv P (Instr.arrayAt t (ρ x)) w K
 | .makeInterface t x=>rv P (Instr.makeInterface t (ρ x)) w K
 | .makeFunc fn first captured=>K (.func fn ⟨ov ρ first⟩ ⟨ov ρ captured⟩) w
 | .makeMap t r=>rv P (Instr.makeMap t (r.map ρ)) w K
 | .makeSlice t l c=>rx P (Ak t (ρ l) (ρ c)) w K
 | .slice t x lo hi mx=>rv P (Instr.sliceAt t (ρ x) (lo.map ρ) (hi.map ρ) (mx.map ρ)) w K
 | .fieldAddr t x f=>rv P (Instr.fieldAt t (ρ x) f) w K
 | .field t x f=>rv P (Instr.field t (ρ x) f) w K
 | .indexAddr t x i=>rv P (Instr.indexAt t (ρ x) (ρ i)) w K
 | .index t x i=>rv P (Instr.index t (ρ x) (ρ i)) w K
 | .lookup t x i ok=>rx P (ji t (ρ x) (ρ i) ok) w K
 | .mapUpdate t m k x| .insert t m k x=>nj P (nm t (ρ m) (ρ k) (ρ x)) w (K undef)
 | .range t x=>rx P (ue t (ρ x)) w K
 | .next it s=>rx P (wh (ρ it) s o.type) w K
 | .entry it=>rx P (uf (ρ it)) w K
 | .mapEntry t m k=>rx P (Tf t (ρ m) (ρ k)) w K
 | .entryStore t m s x=>nj P (Xr t (ρ m) (ρ s) (ρ x)) w (K undef)
 | .typeAssert x t u ok=>rv P (Instr.typeAssert (ρ x) t u ok) w K
 | .extract t i=>rv P (Instr.extract (ρ t) i) w K
 | .call c=>
  match c.callee with
  | .value (.func f)=>match YI P f with
   |true=>rnx P f (ov ρ c.args) w K
   |false=>Ca P f ⟨ov ρ c.args⟩ w K
  | .value f=>iv P (ρ f) (ov ρ c.args) w K
  | .builtin .append=>rx P (eg c.argTypes o.type (ov ρ c.args)) w K
  | .builtin .copy=>rx P (vY c.argTypes o.type (ov ρ c.args)) w K
  | .builtin .delete=>rx P (wo c.argTypes o.type (ov ρ c.args)) w K
  | .builtin .clear=>rx P (Ay c.argTypes o.type (ov ρ c.args)) w K
  | .builtin b=>rn P (builtin b c.argTypes o.type ⟨c.args.toList.map Qk⟩ ⟨ov ρ c.args⟩) w K
  | .invoke _ _=>rn P (execOp ρ o) w K
 | .nilCheck x=>ez (ρ x) λv=>K v w
 | .defer _| .go _| .select .. | .panic _=>False
 |_=>rn P (execOp ρ o) w K
def oU(h:rv P s w K):rn P (do pure (.value (<-s))) w K:=by
 rw[FN]at h;unfold Yq at h;rw[sN];unfold Ol;simp only[Sem.run_bind,Sem.run_pure];cases a:s.run P w with
 |ok v b=>rw[a]at h;simpa [Result.andThen]using h
 |halt x b=>rw[a]at h;exact h.elim
def xE{s:Sem Unit}(h:ru P s w (K undef)):rn P (do s;pure .skip) w K:=by
 rw[Fo]at h;unfold XO at h;rw[sN];unfold Ol;simp only[Sem.run_bind,Sem.run_pure];cases a:s.run P w with
 |ok v b=>rw[a]at h;simpa [Result.andThen]using h
 |halt x b=>rw[a]at h;exact h.elim
def Ca.bodied{b:Array Value}(h:Ca P f b w K):∃fn,P.funcs[f]? =some fn/\fn.body.isSome=true:=by
 apply Classical.byContradiction;intro r;obtain⟨e,u,l,⟨v,rfl,_⟩,t,_,p⟩:=h.out []
 have i:((P.funcs[f]?).bind (·.body))=none:=by
  cases o:P.funcs[f]? with
  |none=>rfl
  |some fn=>
   cases k:fn.body with
   |none=>simp[k]
   |some c=>exact absurd ⟨fn,o,by simp[k]⟩ r
 have q:step P (lone (Frame.enter P f b .normal) [] w)=.ended (.unsupported (.elab "unsupported: a function without a Go body is entered") ((Frame.enter P f b .normal).pos P)) w:=by
  apply step_lone_ended;simp[stepG,stepG.exec,Frame.enter,i]
 obtain⟨n,g⟩:=(t:Steps P _ _)
 cases n with
 |zero=>
  simp only[runN]at g;injection g with s
  have j:Frame.enter P f b .normal=l:=by
   have:=congrArg (λm=>(m.gs[0]?).map (·.frame)) s;simpa [lone]using this
  have d:=p.1;rw[<-j]at d;simp[Frame.enter]at d
 |succ n=>simp[runN,q]at g
def By(g:wV P=true){f:FuncId}{a:Array Value}{w:World}{K:cG}(h:Ca P f a w K):rn P (callFunc f a) w K:=by
 obtain⟨fn,e,i⟩:=h.bodied
 have d:(fn.name== "runtime.NumGoroutine")=false:=by
  have:=(Array.all_eq_true'.1 g) fn (Array.mem_of_getElem? e);simpa using this
 rw[sN];unfold Ol
 have:(callFunc f a).run P w=.ok (.enter f a) w:=by
  have b:¬fn.name= "runtime.NumGoroutine" :=by simpa using d
  have c:¬fn.body=none:=by grind
  unfold callFunc;simp[Sem.run_bind,Result.andThen,e,b,c]
 rw[this];exact h
def rG(ρ:Operand->Value)(xs:Array Operand):(⟨ov ρ xs⟩:Array Value)=xs.map ρ:=by
 apply Array.ext';simp[ov]
def Sq(n:wV P=true){fv:Value}{b:List Value}{w:World}{K:cG}(h:iv P fv b w K):
  rn P (do let d<-Deferred.ofValue fv ⟨b⟩;invoke d.target d.args) w K:=by
 rw[oe]at h;unfold K5 at h;split at h
 ·rename_i f first a
  have e:(do let d<-Deferred.ofValue (.func (.func f) first a) ⟨b⟩;invoke d.target d.args:Sem Next)=callFunc f (first++⟨b⟩++a):=rfl;rw[e]
  have g:(first++⟨b⟩++a:Array Value)=⟨first.toList++(b++a.toList)⟩:=by
   apply Array.ext';simp
  rw[g];exact By n h
 ·rename_i l first a
  have e:(do let d<-Deferred.ofValue (.func (.yield l) first a) ⟨b⟩;invoke d.target d.args:Sem Next)=Instr.yield l (first++⟨b⟩):=rfl;rw[e]
  have g:(first++⟨b⟩:Array Value)=⟨first.toList++b⟩:=by
   apply Array.ext';simp
  rw[g];obtain⟨fn,j,c,i,m,k⟩:=h;rw[sN];unfold Ol;rw[m];exact k
 ·exact h.elim
def DX(C:wV P=true){ρ:Operand->Value}(E:∀f,ρ (.func f)=.func (.func f) #[] #[]){o:Oper}{w:World}{K:cG}(h:Sy P ρ o w K):
  rn P (execOp ρ o) w K:=by
 obtain⟨A,B,q,pos,u,guard⟩:=o;unfold Sy at h;cases B<;>simp only at h
 case move x=>exact sN.2 h
 case assign x=>exact sN.2 h
 case pick c x y=>
  unfold Gz at h;split at h
  ·rename_i b D
   simp only[execOp,D,sN,Ol,asBool,Sem.run_bind,Sem.run_pure,Result.andThen];rw[LX]at h;exact h
  ·exact h.elim
 case alloc t=>
  split at h
  ·exact oU h.out
  ·exact oU h
 case load t x=>
  split at h
  ·exact oU h.out
  ·exact oU h
 case convert s d x=>
  split at h
  ·exact oU h.out
  ·exact oU h
 case build t ps=>
  have h:rv P (Instr.build t ⟨ps.toList.map λp=>(p.1,ρ p.2)⟩) w K:=by
   split at h
   ·exact h.out
   ·exact h
  have e:(⟨ps.toList.map λp=>(p.1,ρ p.2)⟩:Array (Nat×Value))=ps.map λ(i,x)=>(i,ρ x):=by
   apply Array.ext';simp
  rw[e]at h;exact oU h
 case buildSlice t n ps=>
  have h:rv P (Instr.buildSlice t n ⟨ps.toList.map λp=>(p.1,ρ p.2)⟩) w K:=h.out
  have e:(⟨ps.toList.map λp=>(p.1,ρ p.2)⟩:Array (Nat×Value))=ps.map λ(i,x)=>(i,ρ x):=by
   apply Array.ext';simp
  rw[e]at h;exact oU h
 case binOp B t x y yt=>
  have e:(do eqGuard B t x y (ρ x) (ρ y);binOp B t (ρ x) (ρ y):Sem Value)=qE B t (Qk x||Qk y) (ρ x) (ρ y):=by
   unfold qE;rw[Yw]
  have:=oU h;rw[<-e]at this;exact this
 case makeFunc fn first captured=>
  rw[rG,rG]at h;exact sN.2 h
 case store t x y=>
  split at h
  ·exact xE h.out
  ·exact xE h
 case nilCheck x=>
  unfold ez at h;split at h
  ·rename_i a G
   simp only[execOp,G,sN,Ol,Sem.run_pure];exact h
  ·exact h.elim
 case mapUpdate t m k x=>exact xE h.out
 case insert t m k x=>exact xE h.out
 case entryStore t m s x=>exact xE h.out
 case call c=>
  obtain⟨z,j,l⟩:=c;cases z with
  |value f=>
   have key:iv P (ρ f) (ov ρ j) w K->rn P (execOp ρ ⟨A,.call ⟨.value f,j,l⟩,q,pos,u,guard⟩) w K:=by
    intro h;have:=Sq C h;rw[rG]at this;exact this
   cases f with
   |func g=>
    simp only at h
    have this:rn P (callFunc g ⟨ov ρ j⟩) w K:=by
     split at h
     ·exact h.out
     ·exact By C h
    rw[rG]at this;have e:(execOp ρ ⟨A,.call ⟨.value (.func g),j,l⟩,q,pos,u,guard⟩:Sem Next)=(do let d<-Deferred.ofValue (ρ (.func g)) (j.map ρ);invoke d.target d.args):=rfl;rw[e,E g];have F:(do let d<-Deferred.ofValue (.func (.func g) #[] #[]) (j.map ρ);invoke d.target d.args:Sem Next)=callFunc g (#[]++j.map ρ++ #[]):=rfl;rw[F];simpa using this
   |tmp t=>exact key h
   |const v=>exact key h
   |global g=>exact key h
  |builtin b=>
   have key:rn P (builtin b l q ⟨j.toList.map Qk⟩ ⟨ov ρ j⟩) w K:=by
    cases b<;>first|exact h|exact oU h.out
   have h:=key;rw[rG]at h
   have e:(⟨j.toList.map Qk⟩:Array Bool)=j.map λ| .const _=>true|_=>false:=by
    apply Array.ext';simp only[Array.toList_map];apply List.map_congr_left;intro x _;cases x<;>rfl
   rw[e]at h;exact h
  |invoke r m=>exact h
 all_goals first|exact oU h|exact oU h.out|exact h|exact h.elim
def FR:Option Nat->Fence
 |none=>Fence.wide
 |some l=>Fence.wide.inRound l
def FR.fn(ro:Option Nat)(f:FuncId):(FR ro).fn f:=by cases ro<;>exact trivial
def FR.round(ro:Option Nat):(FR ro).round=ro:=by cases ro<;>rfl
def FR.depth(ro:Option Nat):(FR ro).depth=none:=by cases ro<;>rfl
def FR.calls{a:Array Value}{R:Ending->World->Prop}(h:Calls P f a w R):CallsIn (FR ro) n P f a w R:=by
 cases ro with
 |none=>exact callsIn_wide.2 h
 |some l=>exact(callsIn_wide (n:=n)).2 h
def FR.roundIn{m:Nat}{l:Nat}{b:Array Value}{a body:Code}{R:Ending->World->Prop}
  (h:RoundIn Fence.wide m P l f b a body w R):RoundIn (FR ro) n P l f b a body w R:=by
 cases ro with
 |none=>exact⟨h.1,λc d _=>h.2 c d (room_wide _)⟩
 |some l=>exact⟨h.1,λc d _=>h.2 c d (room_wide _)⟩
def xY:Op->Bool
 | .defer _| .go _| .select .. =>false
 |_=>true
def Db{next:Act->World->Prop}{Q:Exit->Act->World->Prop}{ρ:Operand->Value}
  (k:xY o.op=true)(l:execOp a.eval o=execOp ρ o)(h:rn P (execOp ρ o) w K)(i:∀v g,K v g->next (a.put o.dst v) g):o.wpIn (FR ro) 0 P a w next Q:=by
 refine⟨λf _=>FR.fn ro f,?_⟩;rw[FR.round,Oper.semAt_eq ro a.eval o (λc m=>by rw[m]at k;cases k),l];rw[sN]at h;unfold Ol at h;split at h
 ·rename_i b;rw[b];exact i _ _ h
 ·rename_i b;rw[b];exact i _ _ h
 ·rename_i b;rw[b]
  refine⟨(λd=>by rw[FR.depth]at d;cases d),FR.calls (nM h.out ?_)⟩;rintro e g ⟨v,rfl,j⟩;exact i _ _ j
 ·rename_i b;rw[b]
  refine⟨(λd=>by rw[FR.depth]at d;cases d),FR.roundIn (h.mono ?_)⟩;rintro e g ⟨v,rfl,j⟩;exact i _ _ j
 ·exact h.elim
def Dq(ops:List Oper)(j:Nat):Option Nat:=
 match ops[j]? with
 |some o=>o.dst
 |none=>none
def SH(ops:List Oper)(o:Oper)(E:jg)(yes no:jg->Prop):Prop:=
 match o.guard with
 |none=>yes E
 |some (j,want)=>
  match Dq ops j with
  |none=>no E
  |some s=>
   match E.skipped s with
   |true=>no E
   |false=>Gz (E.get s) λb=>bc b
     ((match want with|true=>yes|false=>no) (E.put (some s) (.bool true)))
     ((match want with|true=>no|false=>yes) (E.put (some s) (.bool false)))
def yz:Value->Option Bool
 | .bool b=>some b
 |_=>none
def nK(ops:List Oper)(E:jg)(o:Oper):Bool:=
 Region.wanted o λj=>(Dq ops j).bind λs=>yz (E.get s)
def jg.Same(E E' :jg):Prop:=(∀t,E'.get t=E.get t)/\E'.ds=E.ds
def jg.Same.refl(E:jg):E.Same E:=⟨λ_=>rfl,rfl⟩
def jg.Same.ev(h:E.Same E'):Vc.ev E' =Vc.ev E:=by
 funext x;cases x<;>first|exact h.1 _|rfl
def jg.Same.wanted(h:E.Same E')(ops:List Oper)(o:Oper):nK ops E' o=nK ops E o:=by
 unfold nK;congr 1;funext j;cases Dq ops j<;>simp[h.1]
def jg.same_put{s:Nat}(h:E.get s=v):E.Same (E.put (some s) v):=by
 refine⟨λt=>?_,rfl⟩;rw[jg.get_put];split
 ·grind
 ·rfl
def AE{f k:jg->Prop}(h:SH ops o E f k):
  (nK ops E o=true/\∃e,E.Same e/\f e)\/(nK ops E o=false/\∃e,E.Same e/\k e):=by
 unfold SH at h;unfold nK Region.wanted;cases i:o.guard with
 |none=>rw[i]at h;exact .inl ⟨rfl,E,.refl E,h⟩
 |some g=>
  obtain⟨j,a⟩:=g;rw[i]at h;simp only at h|-;cases l:Dq ops j with
  |none=>rw[l]at h;exact .inr ⟨rfl,E,.refl E,h⟩
  |some s=>
   rw[l]at h;simp only at h;cases d:E.skipped s with
   |true=>
    rw[d]at h
    have n:E.get s=undef:=by
     unfold jg.skipped at d;unfold jg.get;split at d
     ·rename_i m;rw[m]
     ·cases d
    exact .inr ⟨by simp[n,undef,yz],E,.refl E,h⟩
   |false=>
    rw[d]at h;simp only[Gz]at h;split at h
    ·rename_i b c
     cases b with
     |true=>
      cases a with
      |true=>exact .inl ⟨by simp[c,yz],_,jg.same_put c,h⟩
      |false=>exact .inr ⟨by simp[c,yz],_,jg.same_put c,h⟩
     |false=>
      cases a with
      |true=>exact .inr ⟨by simp[c,yz],_,jg.same_put c,h⟩
      |false=>exact .inl ⟨by simp[c,yz],_,jg.same_put c,h⟩
    ·exact h.elim
def Dd(h:∀t,t∈o.looksAt ops.toArray->a.tmps.getD t undef=E.get t):
  Region.wanted o (yielded ops.toArray a.tmps)=nK ops E o:=by
 unfold nK Region.wanted;cases i:o.guard with
 |none=>rfl
 |some g=>
  obtain⟨j,e⟩:=g;simp only;congr 1;unfold yielded Dq;cases c:ops[j]? with
  |none=>simp[c]
  |some k=>
   cases d:k.dst with
   |none=>simp[c,d]
   |some s=>
    have f:s∈o.looksAt ops.toArray:=by
     unfold Oper.looksAt;rw[i];simp[c,d]
    have:=h s f;simp only[eX,c,Option.bind_some,d];rw[<-this];by_cases b:s<a.tmps.size
    ·simp only[kz b,jS,fT];cases a.tmps[s]<;>rfl
    ·simp[Array.getElem?_eq_none (nW b),undef,yz]
def FQ(c:xY o.op=true)(h:∀t,t∈o.looksAt ops.toArray->a.tmps.getD t undef=E.get t):
  execOp a.eval o=execOp (ev E) o:=by
 refine execOp_congr o (λi b e=>by rw[e]at c;cases c) λx d=>?_;cases x with
 |tmp t=>
  apply h t;unfold Oper.looksAt;refine fk _ (pg.2 ⟨.tmp t,by simpa using d,rfl⟩)
 |const v=>rfl
 |global g=>rfl
 |func f=>rfl
def Lj(E:jg)(f:FuncId):ev E (.func f)=.func (.func f) #[] #[]:=rfl
def Hv{ρ:Operand->Value}(h:Sy P ρ o w K):xY o.op=true:=by
 unfold Sy at h;cases a:o.op<;>rw[a]at h<;>first|rfl|exact h.elim
def AV(P:Program)(ops:List Oper):List Oper->jg->World->(jg->World->Prop)->Prop
 | [],E,w,K=>K E w
 |o::rest,E,w,K=>
  SH ops o E (λE=>Sy P (ev E) o w λv w' =>AV P ops rest (E.put o.dst v) w' K)
   (λE=>AV P ops rest (E.skip o.dst) w K)
def Fi(u:wV P=true){ro:Option Nat}{n:Nat}{ops:List Oper}{Q:Exit->Act->World->Prop}{K:jg->World->Prop}
  (q:∀E a w,xm n E a->K E w->Q .normal a w):∀(l:List Oper),(l.all λo=>yk n o.dst)=true->∀(E:jg) (a:Act) (w:World),xm n E a->
  AV P ops l E w K->wpListIn (FR ro) 0 P ops.toArray Q l a w:=by
 intro l;induction l with
 |nil=>exact λ_ E a w e h=>q E a w e h
 |cons o rest p=>
  intro d E a w e h;simp only[qq,cL]at d;unfold wpListIn;have b:∀t,t∈o.looksAt ops.toArray->a.tmps.getD t undef=E.get t:=λt _=>e.get t;rw[Dd b];rcases AE h with⟨j,i,g,m⟩|⟨j,i,g,r⟩
  ·rw[bZ j];have c:xm n i a:=e.of_get g.1 g.2;have k:=Hv m;refine Db (ρ:=ev i) k (by rw[c.ev]) (DX u (Lj i) m) λv x s=>?_;exact p d.2 _ _ _ (c.put d.1 v) s
  ·rw[aZ (by rw[j];simp)];exact⟨λf _=>FR.fn ro f,p d.2 _ _ _ ((e.of_get g.1 g.2).skip d.1) r⟩
def Hl(P:Program)(s:Sem Value)(w:World)(K:Value->Prop):Prop:=
 match s.run P w with
 | .ok v w' =>w' =w/\K v
 | .halt _ _=>False
structure uc(P:Program)(s:Sem Value)(w:World)(K:Value->Prop):Prop where
 out:Hl P s w K
def Am{K:Value->Prop}:uc P s w K↔Hl P s w K:=⟨uc.out,uc.mk⟩
def Yb(P:Program)(s:Sem Value)(K:Value->Prop):Prop:=∃v,(∀w,s.run P w=.ok v w)/\K v
structure wS(P:Program)(s:Sem Value)(K:Value->Prop):Prop where
 out:Yb P s K
def Tt{K:Value->Prop}:wS P s K↔Yb P s K:=⟨wS.out,wS.mk⟩
structure pS(P:Program)(s:Sem Value)(w:World)(K:Value->Prop):Prop where
 out:uc P s w K
structure DS(P:Program)(s:Sem Value)(K:Value->Prop):Prop where
 out:wS P s K
def xOp(P:Program):Op->Bool
 | .build t _=>DU P t
 | .load t _=>DU P t
 | .lookup .. =>true
 | .convert s d _=>IY P s d
 |_=>false
def zy(P:Program)(ρ:Operand->Value):Op->Option (Sem Value)
 | .binOp op t x y _=>some (qE op t (Qk x||Qk y) (ρ x) (ρ y))
 | .unOp op _ x=>some (Op.unary op (ρ x))
 | .fieldAddr t x f=>some (Instr.fieldAt t (ρ x) f)
 | .field t x f=>some (Instr.field t (ρ x) f)
 | .indexAddr t x i=>some (Instr.indexAt t (ρ x) (ρ i))
 | .index t x i=>some (Instr.index t (ρ x) (ρ i))
 | .slice t x lo hi mx=>some (Instr.sliceAt t (ρ x) (lo.map ρ) (hi.map ρ) (mx.map ρ))
 | .sliceToArrayPointer t x=>some (Instr.arrayAt t (ρ x))
 | .extract t i=>some (Instr.extract (ρ t) i)
 | .build t parts=>match DU P t with
  |true=>some (rB t ⟨parts.toList.map λp=>(p.1,ρ p.2)⟩)
  |false=>some (Instr.build t ⟨parts.toList.map λp=>(p.1,ρ p.2)⟩)
 | .makeInterface t x=>some (Instr.makeInterface t (ρ x))
 |_=>none
def zJ(P:Program)(ρ:Operand->Value)(o:Oper):Option (Sem Value):=
 match o.op with
 | .load t x=>match DU P t with
  |true=>some (fH t (ρ x))
  |false=>some (Instr.loadAt t (ρ x))
 | .lookup t x i ok=>some (ji t (ρ x) (ρ i) ok)
 | .call ⟨.builtin .len,args,ts⟩=>some (Builtin.len_ ts o.type ⟨ov ρ args⟩)
 | .call ⟨.builtin .min,args,ts⟩=>some (Builtin.min_ ts o.type ⟨ov ρ args⟩)
 | .call ⟨.builtin .max,args,ts⟩=>some (Builtin.max_ ts o.type ⟨ov ρ args⟩)
 | .convert s d x=>match P.underlying d with
  |some (.slice _)=>none
  |_=>match IY P s d with
   |true=>some (uL s d (ρ x))
   |false=>some (convert s d (ρ x))
 |_=>none
def Tu:Op->Bool
 | .move _| .pick .. | .nilCheck _| .makeFunc .. =>true
 |_=>false
def AB(ρ:Operand->Value)(op:Op)(K:Value->Prop):Prop:=
 match op with
 | .move x=>K (ρ x)
 | .pick c x y=>Gz (ρ c) λb=>K (Uv b (ρ x) (ρ y))
 | .nilCheck x=>ez (ρ x) K
 | .makeFunc fn first captured=>K (.func fn ⟨ov ρ first⟩ ⟨ov ρ captured⟩)
 |_=>False
def Rz(P:Program)(o:Oper):Nat:=
 match Tu o.op with
 |true=>0
 |false=>
  match zy P (λ_=>undef) o.op with
  |some _=>1
  |none=>
   match zJ P (λ_=>undef) o with
   |some _=>2
   |none=>3
def Gc(o:Oper):List Nat:=(o.after.toList.filter λe=>Region.binds .any e).map (·.on)
def pu(ops:List Oper)(i:Nat):List Nat:=
 match ops[i]? with
 |some o=>Gc o
 |none=>[]
def ZJ(ops:List Oper):Nat->List Nat->List Nat->List Nat
 |0,_,acc=>acc
 |_+1,[],acc=>acc
 |f+1,x::r,acc=>
  match acc.contains x with
  |true=>ZJ ops f r acc
  |false=>ZJ ops f (pu ops x++r) (x::acc)
def DL(ops:List Oper)(j:Nat):List Nat:=ZJ ops 4000 (pu ops j) []
abbrev yf:=List (Nat×Sem Value×Value)
def CK(P:Program)(w:World):yf->Prop->Prop
 | [],R=>R
 |(_,s,v)::r,R=>s.run P w=.ok v w/\CK P w r R
def Mq(F:Nat->Prop):List Nat->Prop
 | []=>True
 | [j]=>F j
 |j::r=>F j/\Mq F r
def Ym(ops:List Oper)(done:List Nat)(i:Nat):Bool:= !done.contains i&& (pu ops i).all λd=>done.contains d
def Gs(ops:List Oper)(done:List Nat):List Nat:=(List.range ops.length).filter (Ym ops done)
def Tk(P:Program)(ops:List Oper)(i:Nat):Bool:=
 match ops[i]? with
 |some o=>Nat.blt (Rz P o) 3
 |none=>false
def BP(P:Program)(ops:List Oper):Nat->List Nat->yf->jg->World->(jg->World->Prop)->Prop
 |0,_,_,_,_,_=>False
 |fuel+1,done,pend,E,w,K=>
  match (Gs ops done).find? (Tk P ops)with
  |some i=>
   match ops[i]? with
   |none=>False
   |some o=>
    SH ops o E (λE=>
     match Rz P o with
     |0=>AB (ev E) o.op λv=>BP P ops fuel (i::done) pend (E.put o.dst v) w K
     |1=>match zy P (ev E) o.op with
      |some s=>match xOp P o.op with
       |true=>DS P s λv=>BP P ops fuel (i::done) pend (E.put o.dst v) w K
       |false=>wS P s λv=>BP P ops fuel (i::done) pend (E.put o.dst v) w K
      |none=>False
     |_=>match zJ P (ev E) o with
      |some s=>match xOp P o.op with
       |true=>pS P s w λv=>BP P ops fuel (i::done) ((i,s,v)::pend) (E.put o.dst v) w K
       |false=>uc P s w λv=>BP P ops fuel (i::done) ((i,s,v)::pend) (E.put o.dst v) w K
      |none=>False)
     (λE=>BP P ops fuel (i::done) pend (E.skip o.dst) w K)
  |none=>
   match Gs ops done with
   | []=>K E w
   |rs=>Mq (λj=>
    match ops[j]? with
    |none=>False
    |some o=>
     SH ops o E (λE=>Sy P (ev E) o w λv w' =>CK P w' (pend.filter λp=> !(DL ops j).contains p.1) (BP P ops fuel (j::done) (pend.filter λp=> !(DL ops j).contains p.1) (E.put o.dst v) w' K))
      (λE=>BP P ops fuel (j::done) (pend.filter λp=> !(DL ops j).contains p.1) (E.skip o.dst) w K)) rs
def uI(P:Program)(ops:List Oper):Bool:=
 (List.range ops.length).all λi=>match ops[i]? with
  |none=>false
  |some oi=>xY oi.op&& (!Nat.blt (Rz P oi) 3||((match oi.dst with|none=>true|some d=> !(oi.looksAt ops.toArray).contains d)&& (List.range ops.length).all λj=>Nat.beq i j||match ops[j]? with
   |none=>false
   |some oj=>
    (match oi.dst with
    |none=>true
    |some d=>oj.dst != some d&& (!(oj.looksAt ops.toArray).contains d||(DL ops j).contains i))&&
    (match oj.dst with
    |none=>true
    |some d=> !(oi.looksAt ops.toArray).contains d||(DL ops i).contains j||(DL ops j).contains i)))
def re(h:uI P ops=true){i:Nat}{o:Oper}(hi:ops[i]? =some o):xY o.op=true:=by
 unfold uI at h;have a:i<ops.length:=(cP.1 hi).1;have:=dF.1 h i (iQ.2 a);rw[hi]at this;simp only[cL]at this;exact this.1
def Do(h:uI P ops=true){i:Nat}{o:Oper}(hi:ops[i]? =some o)(e:Rz P o<3){d:Nat}(b:o.dst=some d):
  d ∉ o.looksAt ops.toArray:=by
 unfold uI at h;have a:i<ops.length:=(cP.1 hi).1;have:=dF.1 h i (iQ.2 a);rw[hi]at this;have c:Nat.blt (Rz P o) 3=true:=by simpa [oX]using e
 simp only[c,b,cL,mL,jz]at this;simpa using this.2.1
def uC(h:uI P ops=true){i j:Nat}{e k:Oper}(hi:ops[i]? =some e)(o:ops[j]? =some k)(s:Rz P e<3)(n:i≠j):
  (∀d,e.dst=some d->k.dst≠some d/\(d∈k.looksAt ops.toArray->i∈DL ops j))/\
  (∀d,k.dst=some d->d∈e.looksAt ops.toArray->j∈DL ops i\/i∈DL ops j):=by
 unfold uI at h;have m:i<ops.length:=(cP.1 hi).1;have f:j<ops.length:=(cP.1 o).1;have:=dF.1 h i (iQ.2 m);rw[hi]at this;have p:Nat.blt (Rz P e) 3=true:=by simpa [oX]using s
 simp only[p,cL,mL,jz]at this;have g:=dF.1 this.2.2 j (iQ.2 f)
 have b:Nat.beq i j=false:=by
  cases q:Nat.beq i j with
  |false=>rfl
  |true=>exact absurd (fZ q) n
 rw[o,b]at g;simp only[jz,cL]at g;refine⟨λd l=>?_,λd l r=>?_⟩
 ·have a:=g.1;rw[l]at a;simp only[cL,bne_iff_ne,ne_eq,rt]at a;refine⟨a.1,λr=>?_⟩;rcases a.2 with c|c
  ·grind
  ·simpa using c
 ·have a:=g.2;rw[l]at a;simp only[rt]at a;rcases a with(c|c)|c
  ·grind
  ·grind
  ·grind
def zh(ops:List Oper)(L:List Nat):Prop:=∀i∈L,∀d∈pu ops i,d∈L
def Uo(e:zh ops L):∀(f:Nat) (c acc:List Nat),(∀x∈c,x∈L)->(∀x∈acc,x∈L)->∀x∈ZJ ops f c acc,x∈L:=by
 intro f;induction f with
 |zero=>intro c acc _ d x b;exact d x b
 |succ f h=>
  intro c acc g d x b;cases c with
  |nil=>exact d x b
  |cons y r=>
   simp only[ZJ]at b;split at b
   ·grind
   ·refine h _ _ (λz a=>?_) (λz a=>?_) x b
    ·rcases dg.1 a with a|a
     ·exact e y (g y cw) z a
     ·grind
    ·rcases cH.1 a with rfl|a
     ·grind
     ·exact d z a
def Cj(b:zh ops L){j:Nat}(a:∀d∈pu ops j,d∈L):∀x∈DL ops j,x∈L:=
 Uo b 4000 _ _ a (λ_ h=>by cases h)
def zh.cons(c:zh ops L){j:Nat}(e:∀d∈pu ops j,d∈L):zh ops (j::L):=by
 intro i a d b;rcases cH.1 a with rfl|a
 ·grind
 ·exact cu _ (c i a d b)
def QJ:Ym ops done i=true↔i ∉ done/\∀d∈pu ops i,d∈done:=by
 simp[Ym]
def uq:i∈Gs ops done↔i<ops.length/\i ∉ done/\∀d∈pu ops i,d∈done:=by
 simp[Gs,cO,QJ]
def Ec(P:Program)(s:Sem Value)(w:World)(v:Value)(w' :World)(h:s.run P w=.ok v w'):(do pure (.value (<-s)):Sem Next).run P w=.ok (.value v) w' :=by
 simp[fE,h,Result.andThen]
def Gd{ρ:Operand->Value}{K:Value->Prop}(h:AB ρ o.op K):
  ∃v,(∀w,(execOp ρ o).run P w=.ok (.value v) w)/\K v:=by
 obtain⟨f,g,e,pos,d,guard⟩:=o;unfold AB at h;cases g<;>simp only at h<;>first|exact h.elim|skip
 case move x=>exact⟨_,λ_=>rfl,h⟩
 case pick c x y=>
  unfold Gz at h;split at h
  ·rename_i b j
   refine⟨_,λw=>?_,h⟩;simp only[execOp,j,asBool,fE,ly,Result.andThen,LX]
  ·exact h.elim
 case nilCheck x=>
  unfold ez at h;split at h
  ·rename_i a i
   exact⟨_,λw=>by simp only[execOp,i,ly],h⟩
  ·exact h.elim
 case makeFunc fn first captured=>
  rw[rG,rG]at h;exact⟨_,λ_=>rfl,h⟩
def Gm{ρ:Operand->Value}(h:zy P ρ o.op=some s):execOp ρ o=(do pure (.value (<-s))):=by
 obtain⟨c,d,b,pos,a,guard⟩:=o;unfold zy at h;cases d<;>simp only at h<;>first|(cases h;done)|(cases h;rfl)|skip
 case build t ps=>
  have h:Instr.build t ⟨ps.toList.map λp=>(p.1,ρ p.2)⟩=s:=by
   split at h
   ·exact dB h
   ·exact dB h
  subst h
  have e:(⟨ps.toList.map λp=>(p.1,ρ p.2)⟩:Array (Nat×Value))=ps.map λ(i,x)=>(i,ρ x):=by
   apply nQ;simp
  simp only[execOp];rw[e]
def FO{ρ:Operand->Value}(h:zJ P ρ o=some s):execOp ρ o=(do pure (.value (<-s))):=by
 obtain⟨j,k,i,pos,e,guard⟩:=o;unfold zJ at h;cases k<;>simp only at h<;>first|(cases h;done)|(cases h;rfl)|skip
 case load t x=>
  split at h
  ·cases h;rfl
  ·cases h;rfl
 case convert a b x=>
  split at h
  ·cases h
  ·split at h
   ·cases h;rfl
   ·cases h;rfl
 case call c=>
  obtain⟨d,g,ts⟩:=c;cases d with
  |value f=>cases h
  |invoke r m=>cases h
  |builtin b=>
   cases b<;>simp only at h<;>first|(cases h;done)|skip
   all_goals
    rw[rG]at h;cases h;rfl
def VQ(P:Program)(ops:List Oper)(E:jg)(w:World)(pend:yf)(i:Nat):Prop:=
 ∃o,ops[i]? =some o/\Rz P o<3/\
  ((nK ops E o=true/\∃v,(∀d,o.dst=some d->E.get d=v)/\(execOp (ev E) o).run P w=.ok (.value v) w/\
    ((∀w',(execOp (ev E) o).run P w' =.ok (.value v) w')\/∃s,(i,s,v)∈pend/\∀w',s.run P w' =.ok v w' ->(execOp (ev E) o).run P w' =.ok (.value v) w'))\/
  (nK ops E o=false/\∀d,o.dst=some d->E.get d=undef))
def BT(ops:List Oper)(L:List Nat):List Nat->Prop
 | []=>True
 |i::A=>(∀d∈pu ops i,d∈L\/d∈A)/\BT ops L A
def BT.mono{b:List Nat}(h:∀x∈L,x∈b):∀{A:List Nat},BT ops L A->BT ops b A
 | [],_=>trivial
 |_::_,a=>⟨λd c=>(a.1 d c).imp (h d) id,BT.mono h a.2⟩
def BT.erase{j:Nat}:∀{A:List Nat},BT ops L A->BT ops (j::L) (A.erase j)
 | [],_=>trivial
 |i::A,b=>by
  by_cases a:i=j
  ·subst a;rw[List.erase_cons_head];exact b.2.mono (λx f=>cu _ f)
  ·rw[List.erase_cons_tail (by simpa using a)];refine⟨λd c=>?_,b.2.erase⟩;rcases b.1 d c with h|h
   ·grind
   ·by_cases e:d=j
    ·grind
    ·grind
def BT.first:∀{A:List Nat},BT ops L A->A≠ []->∃i∈A,∀d∈pu ops i,d∈L
 | [],_,h=>absurd rfl h
 | [i],b,_=>⟨i,cw,λd a=>(b.1 d a).resolve_right (by simp)⟩
 |i::k::A,b,_=>by
  obtain⟨j,c,a⟩:=b.2.first (by simp);exact⟨j,cu _ c,a⟩
structure ER(P:Program)(ops:List Oper)(n:Nat)(L A:List Nat)(done:List Nat)(pend:yf)(E:jg)(a:Act)(w:World):Prop where
 doneIff:∀i,i∈done↔i∈L\/i∈A
 apart:∀i∈A,i ∉ L
 nodup:A.Nodup
 ord:BT ops L A
 closed:zh ops L
 size:a.tmps.size=n
 defs:a.defers=E.ds.map λd=>{target:=.collected d,args:=#[]}
 frame:∀t,(∀i∈A,∀o,ops[i]? =some o->o.dst≠some t)->a.tmps.getD t undef=E.get t
 val:∀i∈A,VQ P ops E w pend i
def ER.closedDone{A:List Nat}{e:yf}(h:ER P ops n L A done e E a w):zh ops done:=by
 have g:∀(A:List Nat),BT ops L A->∀i∈A,∀d∈pu ops i,d∈L\/d∈A:=by
  intro A;induction A with
  |nil=>intro _ i b;cases b
  |cons k A j=>
   intro f i b d c;rcases cH.1 b with rfl|b
   ·exact(f.1 d c).imp id (cu _)
   ·exact(j f.2 i b d c).imp id (cu _)
 intro i b d c;rcases(h.doneIff i).1 b with b|b
 ·exact(h.doneIff d).2 (.inl (h.closed i b d c))
 ·exact(h.doneIff d).2 (g A h.ord i b d c)
def H9{P:Program}(d:xY o.op=true)(h:∀t∈o.looksAt ops.toArray,E'.get t=E.get t):
  execOp (ev E') o=execOp (ev E) o/\nK ops E' o=nK ops E o:=by
 constructor
 ·refine execOp_congr o (λn b m=>by rw[m]at d;cases d) λx l=>?_;cases x with
  |tmp t=>
   apply h t;unfold Oper.looksAt;exact fk _ (pg.2 ⟨.tmp t,by simpa using l,rfl⟩)
  |const v=>rfl
  |global g=>rfl
  |func f=>rfl
 ·unfold nK Region.wanted;cases e:o.guard with
  |none=>rfl
  |some g=>
   obtain⟨j,c⟩:=g;simp only;congr 1;unfold Dq;cases k:ops[j]? with
   |none=>rfl
   |some i=>
    cases a:i.dst with
    |none=>simp[a]
    |some s=>
     simp only[a,Option.bind_some];rw[h s (by unfold Oper.looksAt;rw[e];simp[k,a])]
def VQ.env(l:uI P ops=true){E E' :jg}{w:World}{c a:yf}{i:Nat}(h:VQ P ops E w c i)
  (j:∀o,ops[i]? =some o->∀t,t∈o.looksAt ops.toArray\/o.dst=some t->E'.get t=E.get t)(hp:∀x∈c,x∈a):VQ P ops E' w a i:=by
 obtain⟨o,e,r,q⟩:=h;have m:=H9 (P:=P) (ops:=ops) (E:=E) (E' :=E') (re l e) λt n=>j o e t (.inl n);refine⟨o,e,r,?_⟩;rw[m.1,m.2];rcases q with⟨k,v,g,p,f⟩|⟨k,g⟩
 ·refine .inl ⟨k,v,λd b=>(j o e d (.inr b)).trans (g d b),p,?_⟩;rcases f with f|⟨s,u,f⟩
  ·exact .inl f
  ·grind
 ·exact .inr ⟨k,λd b=>(j o e d (.inr b)).trans (g d b)⟩
def VQ.world{w' :World}{b a:yf}(h:VQ P ops E w b i)
  (hp:∀s v,(i,s,v)∈b->(i,s,v)∈a/\(w' =w\/s.run P w' =.ok v w')):VQ P ops E w' a i:=by
 obtain⟨o,k,m,d⟩:=h;refine⟨o,k,m,?_⟩;rcases d with⟨j,v,g,l,c⟩|d
 ·rcases c with c|⟨s,f,c⟩
  ·grind
  ·refine .inl ⟨j,v,g,?_,.inr ⟨s,(hp s v f).1,c⟩⟩;rcases(hp s v f).2 with e|e
   ·rw[e];exact l
   ·exact c w' e
 ·exact .inr d
def Dr{d:Option Nat}(h:d≠some t):(E.put d v).get t=E.get t:=by
 cases d with
 |none=>rfl
 |some d=>rw[jg.get_put,aZ (λe=>h (by rw[e]))]
def Fq{d:Option Nat}(h:d≠some t):(E.skip d).get t=E.get t:=by
 cases d with
 |none=>rfl
 |some d=>rw[jg.get_skip,aZ (λe=>h (by rw[e]))]
def AY(E:jg)(d:Option Nat)(v:Value):(E.put d v).ds=E.ds:=by cases d<;>rfl
def Cn(E:jg)(d:Option Nat):(E.skip d).ds=E.ds:=by cases d<;>rfl
def up{d:Nat}:(E.put (some d) v).get d=v:=by rw[jg.get_put,bZ rfl]
def yv{d:Nat}:(E.skip (some d)).get d=undef:=by rw[jg.get_skip,bZ rfl]
section
variable{P:Program}{ops:List Oper}{n:Nat}{L A done:List Nat}{pend:yf}{E:jg}{a:Act}{w:World}
def ER.same(h:ER P ops n L A done pend E a w){E' :jg}(c:E.Same E')(b:uI P ops=true):ER P ops n L A done pend E' a w:=
 {h with
  defs:=by rw[c.2];exact h.defs
  frame:=λt d=>(h.frame t d).trans (c.1 t).symm
  val:=λi e=>(h.val i e).env b (λ_ _ t _=>c.1 t) (λ_ f=>f)}
def ER.look(h:ER P ops n L A done pend E a w)(g:uI P ops=true){j:Nat}{p:Oper}(k:ops[j]? =some p)(s:j ∉ L)(q:∀d∈pu ops j,d∈L):
  ∀t∈p.looksAt ops.toArray,a.tmps.getD t undef=E.get t:=by
 intro t l;refine h.frame t λi m r b c=>?_;obtain⟨u,f,o,_⟩:=h.val i m;rw[b]at f;cases f;by_cases e:i=j
 ·subst e;rw[k]at b;cases b;exact Do g k o c l
 ·have:=((uC g b k o e).1 t c).2 l;exact h.apart i m (Cj h.closed q i this)
def ER.ahead(h:ER P ops n L A done pend E a w)(j:uI P ops=true){i:Nat}{o:Oper}(hi:ops[i]? =some o)(F:Rz P o<3)(N:i∈Gs ops done){E' :jg}{b:yf}
  (D:(∀t,o.dst≠some t->E'.get t=E.get t)/\E'.ds=E.ds)(hp:∀x∈pend,x∈b)
  (Q:(nK ops E o=true/\∃v,(∀d,o.dst=some d->E'.get d=v)/\(execOp (ev E) o).run P w=.ok (.value v) w/\
    ((∀q,(execOp (ev E) o).run P q=.ok (.value v) q)\/∃s,(i,s,v)∈b/\∀q,s.run P q=.ok v q->(execOp (ev E) o).run P q=.ok (.value v) q))\/
   (nK ops E o=false/\∀d,o.dst=some d->E'.get d=undef)):
  ER P ops n L (i::A) (i::done) b E' a w:=by
 obtain⟨J,r,u⟩:=uq.1 N;have C:i ∉ A:=λM=>r ((h.doneIff i).2 (.inr M));have G:i ∉ L:=λK=>r ((h.doneIff i).2 (.inl K));refine⟨λk=>?_,λk c=>?_,dA.2 ⟨C,h.nodup⟩,⟨λd z=>(h.doneIff d).1 (u d z),h.ord⟩,h.closed,h.size,by rw[D.2];exact h.defs,λt l=>?_,λk c=>?_⟩
 ·simp only[cH,h.doneIff];constructor
  ·rintro(g|g|g)
   ·exact .inr (.inl g)
   ·exact .inl g
   ·exact .inr (.inr g)
  ·rintro(g|g|g)
   ·exact .inr (.inl g)
   ·exact .inl g
   ·exact .inr (.inr g)
 ·rcases cH.1 c with rfl|c
  ·exact G
  ·exact h.apart k c
 ·rw[h.frame t (λk c=>l k (cu _ c))];exact(D.1 t (l i cw o hi)).symm
 ·have y:∀t∈o.looksAt ops.toArray,E'.get t=E.get t:=λt l=>D.1 t λz=>Do j hi F z l;rcases cH.1 c with rfl|c
  ·have I:=H9 (P:=P) (re j hi) y;refine⟨o,hi,F,?_⟩;rw[I.1,I.2];exact Q
  ·refine(h.val k c).env j (λok f t l=>D.1 t λz=>?_) hp;have B:k≠i:=λe=>C (e▸c);obtain⟨O,p,R,_⟩:=h.val k c;rw[f]at p;cases p;rcases l with l|l
   ·have:=((uC j hi f F (kG B)).1 t z).2 l;have m:∀d∈pu ops k,d∈done:=λd H=>h.closedDone k ((h.doneIff k).2 (.inr c)) d H;exact r (Cj h.closedDone m i this)
   ·exact((uC j hi f F (kG B)).1 t z).1 l
def adv(m:uI P ops=true){K:jg->World->Prop}{j:Nat}(hj:j∈Gs ops L):∀(e:Nat) (A done:List Nat) (pend:yf) (E:jg),
  ER P ops n L A done pend E a w->BP P ops e done pend E w K->
  ∃(F:Nat) (Y f:List Nat) (r:yf) (E' :jg),ER P ops n L Y f r E' a w/\BP P ops F f r E' w K/\
   (j∈Y\/(j ∉ f/\(Gs ops f).find? (Tk P ops)=none)):=by
 intro e;induction e with
 |zero=>intro A done pend E _ h;exact h.elim
 |succ e T=>
  intro A done pend E S h;by_cases Z:j∈A
  ·grind
  ·cases R:(Gs ops done).find? (Tk P ops)with
   |none=>
    refine⟨e+1,A,done,pend,E,S,h,.inr ⟨λM=>?_,R⟩⟩;rcases(S.doneIff j).1 M with O|O
    ·exact(uq.1 hj).2.1 O
    ·exact Z O
   |some i=>
    have z:i∈Gs ops done:=fl R;have hp:=jw R;simp only[BP,R]at h;unfold Tk at hp;cases J:ops[i]? with
    |none=>rw[J]at h;exact h.elim
    |some o=>
     rw[J]at h hp;simp only at hp;have U:Rz P o<3:=by simpa [oX]using hp
     simp only at h;rcases AE h with⟨X,l,Q,b⟩|⟨X,l,Q,V⟩
     ·have q:=S.same Q m;have u:nK ops l o=true:=by rw[Q.wanted];exact X
      have G:∀v,(∀t,o.dst≠some t->(l.put o.dst v).get t=l.get t)/\(l.put o.dst v).ds=l.ds:=λv=>⟨λt W=>Dr W,AY _ _ _⟩
      have k:∀v d,o.dst=some d->(l.put o.dst v).get d=v:=λv d M=>by rw[M];exact up
      cases I:Rz P o with
      |zero=>
       simp only[I]at b;obtain⟨v,C,N⟩:=Gd (P:=P) b;exact T _ _ _ _ (q.ahead m J U z (G v) (λ_ y=>y) (.inl ⟨u,v,k v,C w,.inl C⟩)) N
      |succ c=>
       cases c with
       |zero=>
        simp only[I]at b;cases g:zy P (ev l) o.op with
        |none=>rw[g]at b;exact b.elim
        |some s=>
         rw[g]at b
         have H:wS P s λv=>BP P ops e (i::done) pend (l.put o.dst v) w K:=by
          simp only at b;split at b
          ·exact b.out
          ·exact b
         obtain⟨v,C,N⟩:=H.out;have y:=Gm g;have p:∀B,(execOp (ev l) o).run P B=.ok (.value v) B:=λB=>by rw[y];exact Ec P s B v B (C B)
         exact T _ _ _ _ (q.ahead m J U z (G v) (λ_ y=>y) (.inl ⟨u,v,k v,p w,.inl p⟩)) N
       |succ c=>
        simp only[I]at b;cases g:zJ P (ev l) o with
        |none=>rw[g]at b;exact b.elim
        |some s=>
         rw[g]at b
         have H:uc P s w λv=>BP P ops e (i::done) ((i,s,v)::pend) (l.put o.dst v) w K:=by
          simp only at b;split at b
          ·exact b.out
          ·exact b
         clear b;have b:=H;simp only[Am,Hl]at b;cases C:s.run P w with
         |halt x B=>rw[C]at b;exact b.elim
         |ok v B=>
          rw[C]at b;obtain⟨rfl,N⟩:=b;have y:=FO g;have p:∀D,s.run P D=.ok v D->(execOp (ev l) o).run P D=.ok (.value v) D:=λD O=>by rw[y];exact Ec P s D v D O
          exact T _ _ _ _ (q.ahead m J U z (G v) (λ_ y=>cu _ y)
           (.inl ⟨u,v,k v,p _ C,.inr ⟨s,cw,p⟩⟩)) N
     ·have q:=S.same Q m;have u:nK ops l o=false:=by rw[Q.wanted];exact X
      exact T _ _ _ _ (q.ahead m J U z ⟨λt W=>Fq W,Cn _ _⟩ (λ_ y=>y)
       (.inr ⟨u,λd M=>by rw[M];exact yv⟩)) V
def GD{F:Nat->Prop}:∀{l:List Nat},Mq F l->∀j∈l,F j
 | [],_,j,b=>by cases b
 | [k],h,j,b=>by rcases eK.1 b with rfl;exact h
 |k::m::l,h,j,b=>by
  rcases cH.1 b with rfl|b
  ·exact h.1
  ·exact GD h.2 j b
def Eh{P:Program}{w:World}{R:Prop}:∀{p:yf},CK P w p R->R/\∀i s v,(i,s,v)∈p->s.run P w=.ok v w
 | [],h=>⟨h,λ_ _ _ b=>by cases b⟩
 |(i,s,v)::r,h=>by
  obtain⟨g,f⟩:=Eh h.2;refine⟨g,λj c d b=>?_⟩;rcases cH.1 b with e|b
  ·cases e;exact h.1
  ·exact f j c d b
def ER.took(h:ER P ops n L A done pend E a w)(u:uI P ops=true){j:Nat}{o:Oper}(z:ops[j]? =some o)(s:j∈A)(e:∀d∈pu ops j,d∈L){v:Value}
  (x:∀d,o.dst=some d->E.get d=v)(i:yk n o.dst=true):ER P ops n (j::L) (A.erase j) done pend E (a.put o.dst v) w:=by
 have b:xm n (({l:=[],g:=λt=>a.tmps.getD t undef,ds:=E.ds}:jg).put o.dst v) (a.put o.dst v):=xm.put (E:=({l:=[],g:=λt=>a.tmps.getD t undef,ds:=E.ds}:jg)) ⟨h.size,λ_=>rfl,h.defs⟩ i v;refine⟨λk=>?_,λk f q=>?_,h.nodup.erase j,h.ord.erase,h.closed.cons e,b.size,by have:=b.defs;rwa[AY]at this,λt y=>?_,λk f=>h.val k (List.mem_of_mem_erase f)⟩
 ·rw[h.doneIff];by_cases m:k=j
  ·subst m;simp[s]
  ·grind
 ·have p:=List.mem_of_mem_erase f;rcases cH.1 q with rfl|q
  ·exact(h.nodup.not_mem_erase) f
  ·exact h.apart k p q
 ·rw[b.get];by_cases c:o.dst=some t
  ·rw[c,up,x t c]
  ·rw[Dr c];refine h.frame t λk f ok r=>?_;by_cases m:k=j
   ·grind
   ·grind
def ER.acted(h:ER P ops n L A done pend E a w)(D:uI P ops=true){j:Nat}{o:Oper}(S:ops[j]? =some o)(J:j ∉ done)(c:∀d∈pu ops j,d∈L){v:Value}{E' :jg}{w' :World}
  (M:(∀t,o.dst≠some t->E'.get t=E.get t)/\E'.ds=E.ds/\(∀d,o.dst=some d->E'.get d=v))(H:yk n o.dst=true)
  (hp:∀i s u,(i,s,u)∈(pend.filter λp=> !(DL ops j).contains p.1)->w' =w\/s.run P w' =.ok u w'):
  ER P ops n (j::L) A (j::done) (pend.filter λp=> !(DL ops j).contains p.1) E' (a.put o.dst v) w' :=by
 have G:j ∉ A:=λU=>J ((h.doneIff j).2 (.inr U));have f:xm n (({l:=[],g:=λt=>a.tmps.getD t undef,ds:=E.ds}:jg).put o.dst v) (a.put o.dst v):=xm.put (E:=({l:=[],g:=λt=>a.tmps.getD t undef,ds:=E.ds}:jg)) ⟨h.size,λ_=>rfl,h.defs⟩ H v;have r:∀i∈A,i ∉ DL ops j:=λi W C=>h.apart i W (Cj h.closed c i C);refine⟨λk=>?_,λk z N=>?_,h.nodup,h.ord.mono (λx O=>cu _ O),h.closed.cons c,f.size,by have:=f.defs;rw[AY]at this;rw[M.2.1];exact this,λt B=>?_,λk z=>?_⟩
 ·simp only[cH,h.doneIff,or_assoc]
 ·rcases cH.1 N with rfl|N
  ·exact G z
  ·exact h.apart k z N
 ·rw[f.get];by_cases q:o.dst=some t
  ·rw[q,up,M.2.2 t q]
  ·rw[Dr q,M.1 t q];exact h.frame t B
 ·have T:VQ P ops E' w pend k:=by
   refine(h.val k z).env D (λok b t B=>M.1 t λR=>?_) (λ_ O=>O);obtain⟨V,y,K,_⟩:=h.val k z;rw[b]at y;cases y;have I:k≠j:=λe=>G (e▸z);rcases B with B|B
   ·rcases(uC D b S K I).2 t R B with C|C
    ·have m:∀d∈pu ops k,d∈done:=λd Q=>h.closedDone k ((h.doneIff k).2 (.inr z)) d Q;exact J (Cj h.closedDone m j C)
    ·exact r k z C
   ·exact((uC D b S K I).1 t B).1 R
  refine T.world λs v C=>?_;have F:(k,s,v)∈pend.filter λp=> !(DL ops j).contains p.1:=cO.2 ⟨C,by grind⟩;exact⟨F,hp k s v F⟩
end
def AP{b:Array Bool}(p:∀i,i<ops.length->(b.getD i true=true↔i∈L))(q:b.size=ops.length)(j:∀i∈L,i<ops.length){i:Nat}:
  i∈Region.ready .any ops.toArray b↔i∈Gs ops L:=by
 rw[uq];unfold Region.ready;simp only[cO,iQ,eT,cL];constructor
 ·rintro⟨f,m,h⟩;refine⟨f,λs=>?_,λd c=>?_⟩
  ·grind
  ·have g:ops[i]? =some ops[i]:=cE f;simp only[eX,g,iD,fT]at h;simp only[pu,g,Gc,cF,cO]at c;obtain⟨e,⟨l,k⟩,rfl⟩:=c;have o:=(nh.1 h) e (by simpa using l);simp only[k,mL,jz]at o;by_cases r:e.on<ops.length
   ·grind
   ·grind
 ·rintro⟨f,m,h⟩;refine⟨f,?_,?_⟩
  ·grind
  ·have g:ops[i]? =some ops[i]:=cE f;simp only[eX,g,iD,fT];refine nh.2 λe l=>?_;cases k:Region.binds .any e with
   |false=>rfl
   |true=>
    have c:e.on∈L:=h e.on (by simp only[pu,g,Gc,cF,cO];exact⟨e,⟨by simpa using l,k⟩,rfl⟩);have:=(p _ (j _ c)).2 c;rw[jS]at this|-;rw[kz (by grind)]at this|-;simpa using this
def NC(hP:wV P=true){ro:Option Nat}{n:Nat}{ops:List Oper}(y:uI P ops=true)(hdst:(ops.all λo=>yk n o.dst)=true)
  {Q:Exit->Act->World->Prop}{K:jg->World->Prop}(hK:∀E a w,xm n E a->K E w->Q .normal a w):
  ∀(m:Nat) (L A done:List Nat) (pend:yf) (E:jg) (a:Act) (w:World) (l:Nat) (b:Array Bool),
   ER P ops n L A done pend E a w->(∀i,i<ops.length->(b.getD i true=true↔i∈L))->b.size=ops.length->(∀i∈L,i<ops.length)->
   ((List.range ops.length).filter λi=> !L.contains i).length<=m->BP P ops l done pend E w K->
   wpAnyIn (FR ro) 0 P .any ops.toArray Q m b a w:=by
 have F:∀(L A done:List Nat) (pend:yf) (E:jg) (a:Act) (w:World) (l:Nat),ER P ops n L A done pend E a w->Gs ops L=[]->BP P ops l done pend E w K->Q .normal a w:=by
  intro L A done pend E a w l N W h
  have hA:A=[]:=by
   apply dU;intro hne;obtain⟨i,B,M⟩:=N.ord.first hne;obtain⟨o,ho,_⟩:=N.val i B;have:i∈Gs ops L:=uq.2 ⟨(cP.1 ho).1,N.apart i B,M⟩;rw[W]at this;cases this
  subst hA
  have hrd:Gs ops done=[]:=by
   apply jx.2;intro i B;obtain⟨h1,h2,h3⟩:=uq.1 B;have e:∀k,k∈done↔k∈L:=λk=>by rw[N.doneIff];simp
   have:i∈Gs ops L:=uq.2 ⟨h1,λhm=>h2 ((e i).2 hm),λd M=>(e d).1 (h3 d M)⟩;rw[W]at this;cases this
  cases l with
  |zero=>exact h.elim
  |succ l=>
   simp only[BP,hrd,List.find?_nil]at h;exact hK E a w ⟨N.size,λt=>N.frame t (λi B=>by cases B),N.defs⟩ h
 intro m;induction m with
 |zero=>
  intro L A done pend E a w l b N hL I O hm h
  have W:Gs ops L=[]:=by
   apply jx.2;intro i B;obtain⟨h1,h2,_⟩:=uq.1 B;have:i∈(List.range ops.length).filter λi=> !L.contains i:=cO.2 ⟨iQ.2 h1,by simpa using h2⟩;have:=List.length_pos_of_mem this;omega
  refine⟨?_,F L A done pend E a w l N W h⟩;apply jx.2;intro i B;rw[AP hL I O,W]at B;cases B
 |succ m ih=>
  intro L A done pend E a w l b N hL I O hm h;refine⟨λW=>F L A done pend E a w l N ?_ h,λj hj=>?_⟩
  ·apply jx.2;intro i B;rw[<-AP hL I O,W]at B;cases B
  ·have hjr:j∈Gs ops L:=(AP hL I O).1 hj;obtain⟨C,hjL,J⟩:=uq.1 hjr;have z:ops[j]? =some ops[j]:=cE C;have V:yk n (ops[j]).dst=true:=dF.1 hdst _ (cC C)
   have U:∀i,i<ops.length->((b.setIfInBounds j true).getD i true=true↔i∈j::L):=by
    intro i B;by_cases Z:j=i
    ·subst Z;simp[I,B]
    ·have:(b.setIfInBounds j true).getD i true=b.getD i true:=by
      simp[Z]
     rw[this,hL i B];simp[kG Z]
   have G:(b.setIfInBounds j true).size=ops.length:=by simpa using I
   have H:∀i∈j::L,i<ops.length:=λi B=>by
    rcases cH.1 B with rfl|B
    ·exact C
    ·exact O i B
   have T:((List.range ops.length).filter λi=> !(j::L).contains i).length<=m:=by
    have e:((List.range ops.length).filter λi=> !(j::L).contains i)=(((List.range ops.length).filter λi=> !L.contains i).filter λi=> !(i==j)):=by
     rw[lF];apply gF;intro x _;simp only[pf,Bool.not_or]
    have hmem:j∈(List.range ops.length).filter λi=> !L.contains i:=cO.2 ⟨iQ.2 C,by simpa using hjL⟩
    have h5:(((List.range ops.length).filter λi=> !L.contains i).filter λi=> !(i==j)).length<((List.range ops.length).filter λi=> !L.contains i).length:=
     lu.2 ⟨j,hmem,by simp⟩
    rw[e];omega
   obtain⟨g,A',r,q,E',D,h',hcase⟩:=adv y hjr l A done pend E N h;have R:=D.look y z hjL J;have hex:=FQ (a:=a) (E:=E') (re y z) R;have hwa:=Dd (a:=a) (E:=E') (o:=ops[j]) R;unfold wpOpIn;simp only[eX,z];rw[hwa];rcases hcase with hA|⟨hnd,X⟩
   ·obtain⟨o,ho,hc,hv⟩:=D.val j hA;rw[z]at ho;cases ho;rcases hv with⟨hw,v,M,W,_⟩|⟨hw,M⟩
    ·rw[bZ hw];refine⟨λf _=>FR.fn ro f,?_⟩;rw[FR.round,Oper.semAt_eq ro a.eval _ (λc hc' =>by have:=re y z;rw[hc']at this;cases this),hex,W];exact ih _ _ _ _ _ _ _ g _ (D.took y z hA J M V) U G H T h'
    ·rw[aZ (by rw[hw];simp)];exact⟨λf _=>FR.fn ro f,ih _ _ _ _ _ _ _ g _ (D.took y z hA J M V) U G H T h'⟩
   ·cases g with
    |zero=>exact h'.elim
    |succ g=>
     have S:j∈Gs ops r:=uq.2 ⟨C,hnd,λd M=>(D.doneIff d).2 (.inl (J d M))⟩;simp only[BP,X]at h'
     have h2:∀rs,Gs ops r=rs->(match rs with| []=>K E' w|rs=>Mq (λj=>match ops[j]? with
       |none=>False
       |some o=>SH ops o E' (λE=>Sy P (ev E) o w λv w' =>CK P w' (q.filter λp=> !(DL ops j).contains p.1) (BP P ops g (j::r) (q.filter λp=> !(DL ops j).contains p.1) (E.put o.dst v) w' K))
        (λE=>BP P ops g (j::r) (q.filter λp=> !(DL ops j).contains p.1) (E.skip o.dst) w K)) rs)->
       SH ops ops[j] E' (λE=>Sy P (ev E) ops[j] w λv w' =>CK P w' (q.filter λp=> !(DL ops j).contains p.1) (BP P ops g (j::r) (q.filter λp=> !(DL ops j).contains p.1) (E.put (ops[j]).dst v) w' K))
        (λE=>BP P ops g (j::r) (q.filter λp=> !(DL ops j).contains p.1) (E.skip (ops[j]).dst) w K):=by
      intro rs hrs hh;cases rs with
      |nil=>rw[hrs]at S;cases S
      |cons k rs=>
       have:=GD hh j (hrs▸S);rw[z]at this;exact this
     have h3:=h2 _ rfl h';rcases AE h3 with⟨hw,E1,hs,hy⟩|⟨hw,E1,hs,hno⟩
     ·rw[bZ hw];have Y:=D.same hs y;refine Db (ρ:=ev E1) (re y z) (by rw[hex,hs.ev]) (DX hP (Lj E1) hy) λv w' hv=>?_;obtain⟨hv1,hv2⟩:=Eh hv;exact ih _ _ _ _ _ _ _ g _ (Y.acted y z hnd J ⟨λt ht=>Dr ht,AY _ _ _,λd M=>by rw[M];exact up⟩ V (λi s u hm=>.inr (hv2 i s u hm))) U G H T hv1
     ·rw[aZ (by rw[hw];simp)];have Y:=D.same hs y;refine⟨λf _=>FR.fn ro f,?_⟩;have hI2:=Y.acted (v:=undef) (w' :=w) (E' :=E1.skip (ops[j]).dst) y z hnd J ⟨λt ht=>Fq ht,Cn _ _,λd M=>by rw[M];exact yv⟩ V (λi s u hm=>.inl rfl);exact ih _ _ _ _ _ _ _ g _ hI2 U G H T hno
def kn:Code->List Nat
 | .region _ ops _=>ops.toList.filterMap (·.dst)
 | .seq a b=>kn a++kn b
 | .cond _ a b=>kn a++kn b
 | .block _ c=>kn c
 | .loop c=>kn c
 | .scope c=>kn c
 |_=>[]
def qm:Code->Bool
 | .seq a b=>qm a||qm b
 | .cond _ a b=>qm a||qm b
 | .block _ c=>qm c
 | .loop c=>qm c
 | .scope c=>qm c
 | .rangeFunc .. =>true
 |_=>false
def jG(ds:List Nat):List (Nat×Option Value)->List Nat->List Nat
 | [],acc=>acc
 |(k,_)::r,acc=>
  match ds.contains k&& !acc.contains k with
  |true=>jG ds r (k::acc)
  |false=>jG ds r acc
def Oj:List Nat->Type
 | []=>Unit
 |_::l=>Value×Oj l
def oC(E:jg):(l:List Nat)->Oj l
 | []=>()
 |t::l=>(E.get t,oC E l)
def uW:(l:List Nat)->Oj l->List (Nat×Option Value)->List (Nat×Option Value)
 | [],_,r=>r
 |t::l,s,r=>(t,some s.1)::uW l s.2 r
def Bm{α:Type}{β:Sort _}:List α->(List α->β)->β
 | [],k=>k []
 |x::xs,k=>Bm xs λl=>k (x::l)
def xe{α:Type}{β:Sort _}:∀(l:List α) (k:List α->β),Bm l k=k l
 | [],_=>rfl
 |x::a,k=>by rw[Bm,xe a]
def Pp:Operand->Option Nat
 | .tmp t=>some t
 |_=>none
def vi:Code->List Nat
 | .region _ ops _=>ops.toList.flatMap λo=>o.op.operands.toList.filterMap Pp
 | .seq a b=>vi a++vi b
 | .cond c a b=>(Pp c).toList++vi a++vi b
 | .block _ c=>vi c
 | .loop c=>vi c
 | .scope c=>vi c
 | .rangeFunc gv _ a b=>(Pp gv).toList++vi a++vi b
 |_=>[]
def AX(ds:List Nat):List Nat->List Nat->List Nat
 | [],acc=>acc
 |k::r,acc=>
  match ds.contains k&& !acc.contains k with
  |true=>AX ds r (k::acc)
  |false=>AX ds r acc
def L3(ds:List Nat)(l:List (Nat×Option Value))(us:List Nat):List Nat:=AX ds us (jG ds l [])
def zG:Nat->Nat
 |0=>0
 |1=>1
 |_=>2
def szC:Code->Nat
 | .region _ ops _=>ops.toList.length
 | .seq a b=>szC a+szC b
 | .cond _ _ _=>9
 | .block _ c=>szC c
 | .loop _=>9
 | .rangeFunc _ _ _ _=>9
 |_=>0
def aA9:Op->Bool
 | .alloc _=>true
 | .box _ _=>true
 | .buildSlice _ _ _=>true
 | .makeSlice _ _ _=>true
 | .makeMap _ _=>true
 | .call _=>true
 | .store _ _ _=>true
 | .mapUpdate _ _ _ _=>true
 | .insert _ _ _ _=>true
 | .mapEntry _ _ _=>true
 | .entryStore _ _ _ _=>true
 |_=>false
def To(ops:List Oper):Bool:=
 let es:=(List.range ops.length).filter λi=>match ops[i]? with|some o=>aA9 o.op|none=>false
 es.any λj=>Bm (DL ops j) λaj=>es.any λi=>Nat.blt i j&& !aj.contains i&& !(DL ops i).contains j
def Oe:Code->Option Nat->Nat
 | .region _ ops draw,i=>match i with
  |none=>match (ops.toList.any λo=>o.guard.isSome)||(draw&& To ops.toList)with|true=>2|false=>1
  |some _=>0
 | .seq a b,i=>
  let na:=match Nat.ble 2 (Oe a none)&& !qm a&& Nat.ble 3 (szC b)with|true=>1|false=>Oe a none
  match i with
  |none=>zG (na*Oe b none)
  |some i=>zG (Oe a (some i)+na*Oe b (some i))
 | .cond _ a b,i=>zG (Oe a i+Oe b i)
 | .block id c,i=>match i with
  |none=>zG (Oe c none+Oe c (some id))
  |some i=>Oe c (some i)
 | .loop c,i=>match i with
  |none=>0
  |some i=>Oe c (some i)
 | .exit id,i=>match i with
  |none=>0
  |some i=>match Nat.beq i id with|true=>1|false=>0
 | .ret,_=>0
 | .refuse _,_=>0
 | .goto _,_=>0
 |_,i=>match i with
  |none=>1
  |some _=>0
def H8(a b:Code):Bool:=Nat.ble 2 (Oe a none)&& !qm a&& Nat.ble 3 (szC b)
structure dK{S:Type}(A:(S->World->Prop)->Prop)(B:S->World->Prop):Prop where
 out:∃J:S->World->Prop,(∀s w,J s w->B s w)/\A J
def dK.on{A:(S->World->Prop)->Prop}{B:S->World->Prop}(h:A B):dK A B:=⟨⟨B,eQ,h⟩⟩
def dK.at{A:(S->World->Prop)->Prop}{B:S->World->Prop}(J:S->World->Prop)(h:A J)(a:∀s w,J s w->B s w):dK A B:=⟨⟨J,a,h⟩⟩
def sr(E:jg)(ds live:List Nat)(s:Oj live)(g:Nat->Value)(marks:List Nat):jg:=
 {l:=uW live s E.l,g:=λt=>match ds.contains t with|true=>g t|false=>E.g t,ds:=marks}
structure lG{S:Type}(body:S->World->(S->World->Prop)->Prop)(s:S)(w:World):Prop where
 out:∃(I:S->World->Prop) (m:S->World->Nat),I s w/\∀s w,I s w->body s w λs' w' =>I s' w' /\m s' w' <m s w
def RK(ro:Option Nat)(w:World)(K:Nat->List Nat->World->Prop):Prop:=
 match ro with
 |none=>K w.heap.size [w.heap.size] (w.alloc (.deferred (some [])))
 |some l0=>∃r,w.heap[l0]? =some (.loop r)/\K r.defers [] w
def wU(W:World)(l:Nat)(r:Loop):Prop:=W.heap[l]? =some (.loop r)
def P9(W:World)(l:Nat)(rec:Loop):Prop:=∃st pend,wU W l {rec with state:=st,pending:=pend}
def RFD(P:Program)(ro:Option Nat)(gv:Value)(w:World)(np:Nat)
  (rnd:Nat->List Value->World->(World->Prop)->(Code->World->Prop)->Prop)(after:List Nat->Option Code->World->Prop):Prop:=
 match gv with
 | .func (.func f) first captured=>
  RK ro w λD mk w1=>∀rec:Loop,rec.state=.ready->rec.pending=none->rec.defers=D->
   (∀(args:List Value) (W:World) (K:cG),args.length=np->P9 W w1.heap.size rec->
    rnd w1.heap.size args W
     (λW' =>∃r,wU W' w1.heap.size r/\K (.bool true) (W'.putObj w1.heap.size (.loop {r with state:=.ready,pending:=none})))
     (λc W' =>∃r,wU W' w1.heap.size r/\K (.bool false) (W'.putObj w1.heap.size (.loop {r with state:=.done,pending:=some c})))->
    Yl P w1.heap.size ⟨args⟩ W K)->
   Ca P f ⟨first.toList++(.func (.yield w1.heap.size) #[] #[]::captured.toList)⟩ (w1.alloc (.loop rec)) λ_ W=>
    ∃r,wU W w1.heap.size r/\r.state≠ .busy/\after mk r.pending (W.putObj w1.heap.size (.loop {r with state:=.exhausted}))
 |_=>False
structure yP(P:Program)(ro:Option Nat)(gv:Value)(w:World)(np:Nat)
  (rnd:Nat->List Value->World->(World->Prop)->(Code->World->Prop)->Prop)(after:List Nat->Option Code->World->Prop):Prop where
 out:RFD P ro gv w np rnd after
def wu{gv:Value}{c:Nat}
  {b:Nat->List Value->World->(World->Prop)->(Code->World->Prop)->Prop}{a:List Nat->Option Code->World->Prop}:yP P ro gv w c b a↔RFD P ro gv w c b a:=⟨yP.out,yP.mk⟩
def XC(l:Nat)(W:World)(K:World->Prop):Prop:=∃r,wU W l r/\r.state=.ready/\K (W.putObj l (.loop {r with state:=.busy}))
structure lC(l:Nat)(W:World)(K:World->Prop):Prop where
 out:XC l W K
def yC:List Nat->Nat->List Value->List (Nat×Option Value)->List (Nat×Option Value)
 |t::ts,i,vs,r=>yC ts (i+1) vs ((t,some (vs.getD i undef))::r)
 | [],_,_,r=>r
def iJ(N R:World->Prop)(X:Nat->World->Prop)(pend:Option Code)(W:World):Prop:=
 match pend with
 |none=>N W
 |some .ret=>R W
 |some (.exit id)=>X id W
 |_=>False
def vc(P:Program)(jn:Bool)(ro:Option Nat):Code->(Exit->jg->World->Prop)->jg->World->Prop
 | .skip,Q,E,w=>Q .normal E w
 | .region _ ops draw,Q,E,w=>
  match draw with
  |false=>AV P ops.toList ops.toList E w (Q .normal)
  |true=>BP P ops.toList (ops.toList.length+1) [] [] E w.drew (Q .normal)
 | .seq a b,Q,E,w=>
  match jn&& H8 a b with
  |false=>vc P jn ro a (λe E w=>match e with| .normal=>vc P jn ro b Q E w|e=>Q e E w) E w
  |true=>
   Bm E.l λel=>Bm (L3 (kn a) el (vi b)) λlive=>
   dK (S:=Oj live) (λJ=>vc P jn ro a (λe E' w' =>match e with| .normal=>J (oC E' live) w' |e=>Q e E' w') {E with l:=el} w)
    (λs w' =>∀g,vc P jn ro b Q (sr {E with l:=el} (kn a) live s g E.ds) w')
 | .cond c t f,Q,E,w=>Gz (ev E c) λb=>bc b (vc P jn ro t Q E w) (vc P jn ro f Q E w)
 | .block id c,Q,E,w=>vc P jn ro c (λe E w=>match e with| .exit i=>bc (Nat.beq i id) (Q .normal E w) (Q (.exit i) E w)|e=>Q e E w) E w
 | .loop c,Q,E,w=>
  Bm E.l λel=>Bm (jG (kn c) el []) λlive=>
  match qm c with
  |false=>lG (S:=Oj live) (λs w K=>∀g,vc P jn ro c (λe E' w' =>match e with| .normal=>K (oC E' live) w' |e=>Q e E' w')
    (sr {E with l:=el} (kn c) live s g E.ds) w) (oC {E with l:=el} live) w
  |true=>lG (S:=Oj live×List Nat) (λs w K=>∀g,vc P jn ro c (λe E' w' =>match e with| .normal=>K (oC E' live,E'.ds) w' |e=>Q e E' w')
    (sr {E with l:=el} (kn c) live s.1 g s.2) w) (oC {E with l:=el} live,E.ds) w
 | .rangeFunc gv ps assign body,Q,E,w=>
  yP P ro (ev E gv) w ps.toList.length
   (λl args W KN KJ=>vc P jn (some l) assign (λe E W=>match e with
     | .normal=>lC l W λW=>vc P jn (some l) body (λe _ W=>match e with
      | .normal=>KN W
      | .ret=>KJ .ret W
      | .exit id=>KJ (.exit id) W
      |_=>False) E W
     |_=>False) {E with l:=yC ps.toList 0 args E.l,ds:=[]} W)
   (λmk pend W=>iJ (λW=>Q .normal {E with ds:=mk++E.ds} W) (λW=>Q .ret {E with ds:=mk++E.ds} W)
    (λid W=>Q (.exit id) {E with ds:=mk++E.ds} W) pend W)
 | .exit id,Q,E,w=>Q (.exit id) E w
 | .ret,Q,E,w=>Q .ret E w
 | .label _,Q,E,w=>Q .normal E w
 | .scope c,Q,E,w=>match ro with
  |none=>vc P jn none c (λe E w=>match e with| .goto _=>False|e=>Q e E w) E w
  |some _=>False
 | .goto _,_,_,_=>False
 | .refuse _,_,_,_=>False
def IS(P:Program)(n:Nat):Code->Bool
 | .region _ ops draw=>(ops.toList.all λo=>yk n o.dst)&& (!draw||(P.follows .mixedOrders&& uI P ops.toList))
 | .seq a b=>IS P n a&& IS P n b
 | .cond _ a b=>IS P n a&& IS P n b
 | .block _ c=>IS P n c
 | .loop c=>IS P n c
 | .scope c=>IS P n c
 | .rangeFunc _ ps a b=>(ps.toList.all λd=>Nat.blt d n)&& IS P n a&& IS P n b
 |_=>true
def Ga{b:cG}(h:rv P s w K)(c:∀v a,K v a->b v a):rv P s w b:=by
 rw[FN]at*;unfold Yq at*;split at h
 ·exact c _ _ h
 ·exact h.elim
def Fj{s:Sem Unit}{K b:World->Prop}(h:ru P s w K)(c:∀a,K a->b a):ru P s w b:=by
 rw[Fo]at*;unfold XO at*;split at h
 ·exact c _ h
 ·exact h.elim
def Cd{s:Sem Next}{c:cG}(h:rn P s w K)(a:∀v b,K v b->c v b):rn P s w c:=by
 rw[sN]at*;unfold Ol at*;split at h
 ·exact a _ _ h
 ·exact a _ _ h
 ·exact Ca.mono h a
 ·exact h.mono λ_ _ ⟨v,e,d⟩=>⟨v,e,a _ _ d⟩
 ·exact h.elim
def Dl{K a:Bool->Prop}(h:Gz v K)(c:∀b,K b->a b):Gz v a:=by
 unfold Gz at*;split at h
 ·exact c _ h
 ·exact h.elim
def EA{K a:Value->Prop}(h:ez v K)(c:∀b,K b->a b):ez v a:=by
 unfold ez at*;split at h
 ·exact c _ h
 ·exact h.elim
def Jk{fv:Value}{a:List Value}{d:cG}(h:iv P fv a w K)(b:∀v c,K v c->d v c):iv P fv a w d:=by
 rw[oe]at*;unfold K5 at*;split at h
 ·exact Ca.mono h b
 ·exact Yl.mono h b
 ·exact h.elim
def Ij{K a:Value->Prop}(h:uc P s w K)(b:∀v,K v->a v):uc P s w a:=by
 rw[Am]at*;unfold Hl at*;split at h
 ·grind
 ·exact h.elim
def FF{b:cG}(h:rx P s w K)(c:∀v a,K v a->b v a):rx P s w b:=⟨Ga h.out c⟩
def G1{s:Sem Unit}{K b:World->Prop}(h:nj P s w K)(c:∀a,K a->b a):nj P s w b:=⟨Fj h.out c⟩
def Ov{K a:Value->Prop}(h:pS P s w K)(b:∀v,K v->a v):pS P s w a:=⟨Ij h.out b⟩
def Iv{K a:Value->Prop}(h:wS P s K)(b:∀v,K v->a v):wS P s a:=
 let⟨v,h1,h2⟩:=h.out
 ⟨⟨v,h1,b _ h2⟩⟩
def Mi{K a:Value->Prop}(h:DS P s K)(b:∀v,K v->a v):DS P s a:=⟨Iv h.out b⟩
def HI{ρ:Operand->Value}{a:Op}{K c:Value->Prop}(h:AB ρ a K)(b:∀v,K v->c v):AB ρ a c:=by
 unfold AB at*;cases a<;>simp only at h|- <;>first|exact b _ h|exact Dl h (λ_=>b _)|exact EA h b|exact h.elim
def IG{ρ:Operand->Value}{i:cG}(h:Sy P ρ o w K)(a:∀v g,K v g->i v g):Sy P ρ o w i:=by
 unfold Sy at*
 cases d:o.op<;>rw[d]at h<;>simp only at h|- <;>
  first
   |exact Ga h a
   |exact FF h a
   |exact Fj h (λ_=>a _ _)
   |exact G1 h (λ_=>a _ _)
   |exact a _ _ h
   |exact Dl h (λ_=>a _ _)
   |exact EA h (λ_=>a _ _)
   |exact Cd h a
   |exact h.elim
   |(split at h<;>first|exact Ga h a|exact FF h a|exact Fj h (λ_=>a _ _)|exact G1 h (λ_=>a _ _))
   |skip
 rename_i c
 cases e:c.callee with
 |value f=>
  rw[e]at h;cases f<;>simp only at h|- <;>first|exact Jk h a|(split at h<;>first|exact⟨Cd h.out a⟩|exact Ca.mono h a)
 |builtin b=>rw[e]at h;cases b<;>first|exact FF h a|exact Cd h a
 |invoke r m=>rw[e]at h;exact Cd h a
def Cy{f p a e:jg->Prop}(h:SH ops o E f p)
  (n:∀c,E.Same c->f c->a c)(i:∀c,E.Same c->p c->e c):SH ops o E a e:=by
 unfold SH at*;cases l:o.guard with
 |none=>rw[l]at h;exact n E (.refl E) h
 |some g=>
  obtain⟨j,d⟩:=g;rw[l]at h;simp only at h|-;cases q:Dq ops j with
  |none=>rw[q]at h;exact i E (.refl E) h
  |some s=>
   rw[q]at h;simp only at h|-;cases m:E.skipped s with
   |true=>rw[m]at h;exact i E (.refl E) h
   |false=>
    rw[m]at h;simp only[Gz]at h|-;cases k:E.get s<;>rw[k]at h<;>first|exact h.elim|skip
    rename_i b
    cases b<;>cases d<;>first|exact n _ (jg.same_put k) h|exact i _ (jg.same_put k) h
def Fr(ds:List Nat)(E E' :jg):Prop:=∀t,t ∉ ds->E'.get t=E.get t
def Fr.refl(ds:List Nat)(E:jg):Fr ds E E:=λ_ _=>rfl
def Fr.trans{E1 b:jg}(h:Fr ds E E1)(c:Fr ds E1 b):Fr ds E b:=λt a=>(c t a).trans (h t a)
def Fr.mono{a:List Nat}{E1:jg}(h:Fr ds E E1)(d:∀t∈ds,t∈a):Fr a E E1:=λt c=>h t λb=>c (d t b)
def Fr.put(E:jg){d:Option Nat}(v:Value)(a:∀t,d=some t->t∈ds):Fr ds E (E.put d v):=λt b=>Dr λe=>b (a t e)
def Fr.skip(E:jg){d:Option Nat}(a:∀t,d=some t->t∈ds):Fr ds E (E.skip d):=λt b=>Fq λe=>b (a t e)
def Fr.of_same(h:E.Same E'):Fr ds E E' :=λt _=>h.1 t
def Gw{K q:jg->World->Prop}:∀(l:List Oper),(∀o∈l,∀t,o.dst=some t->t∈ds)->∀(E:jg) (w:World),AV P ops l E w K->
  (∀a f,Fr ds E a->a.ds=E.ds->K a f->q a f)->AV P ops l E w q:=by
 intro l;induction l with
 |nil=>exact λ_ E w h d=>d E w (.refl _ _) rfl h
 |cons o rest p=>
  intro m E w h d;have k:=m o cw;have n:∀o∈rest,∀t,o.dst=some t->t∈ds:=λu r=>m u (cu _ r);refine Cy h (λj c s=>IG s λv f y=>p n _ _ y λa b i e g=>d a b ?_ ?_ g) (λj c x=>p n _ _ x λa b i e g=>d a b ?_ ?_ g)
  ·exact((Fr.of_same c).trans (Fr.put j v k)).trans i
  ·rw[e,AY,c.2]
  ·exact((Fr.of_same c).trans (Fr.skip j k)).trans i
  ·rw[e,Cn,c.2]
def D0{F G:Nat->Prop}(h:∀j,F j->G j):∀{l:List Nat},Mq F l->Mq G l
 | [],_=>trivial
 | [_],a=>h _ a
 |_::k::l,a=>⟨h _ a.1,D0 h (l:=k::l) a.2⟩
def Dt{P:Program}{w:World}{R b:Prop}(h:R->b):∀{p:yf},CK P w p R->CK P w p b
 | [],a=>h a
 |_::_,a=>⟨a.1,Dt h a.2⟩
def Rq{K s:jg->World->Prop}(B:∀o∈ops,∀t,o.dst=some t->t∈ds):∀(f:Nat) (done:List Nat) (m:yf) (E:jg) (w:World),BP P ops f done m E w K->
  (∀d k,Fr ds E d->d.ds=E.ds->K d k->s d k)->BP P ops f done m E w s:=by
 intro f;induction f with
 |zero=>intro _ _ _ _ h;exact h.elim
 |succ f q=>
  intro done m E w h x
  have b:∀(o:Oper) (v:Value) (c:jg),o∈ops->E.Same c->∀d k,Fr ds (c.put o.dst v) d->d.ds=(c.put o.dst v).ds->K d k->s d k:=by
   intro o v c p e d k z u y;exact x d k (((Fr.of_same e).trans (Fr.put c v (B o p))).trans z) (by rw[u,AY,e.2]) y
  have l:∀(o:Oper) (c:jg),o∈ops->E.Same c->∀d k,Fr ds (c.skip o.dst) d->d.ds=(c.skip o.dst).ds->K d k->s d k:=by
   intro o c p e d k z u y;exact x d k (((Fr.of_same e).trans (Fr.skip c (B o p))).trans z) (by rw[u,Cn,e.2]) y
  simp only[BP]at h|-;split at h
  ·rename_i i D
   split at h
   ·exact h.elim
   ·rename_i o p
    have a:o∈ops:=dL p;refine Cy h (λc e g=>?_) (λc e A=>q _ _ _ _ A (l o c a e));split at g
    ·exact HI g λv n=>q _ _ _ _ n (b o v c a e)
    ·split at g
     · (split at g<;>first|exact Iv g λv n=>q _ _ _ _ n (b o v c a e)|exact Mi g λv n=>q _ _ _ _ n (b o v c a e))
     ·exact g.elim
    ·split at g
     · (split at g<;>first|exact Ij g λv n=>q _ _ _ _ n (b o v c a e)|exact Ov g λv n=>q _ _ _ _ n (b o v c a e))
     ·exact g.elim
  ·split at h
   ·exact x E w (.refl _ _) rfl h
   ·refine D0 (λj r=>?_) h;cases p:ops[j]? with
    |none=>rw[p]at r;exact r.elim
    |some o=>
     rw[p]at r;have a:o∈ops:=dL p;exact Cy r (λc e g=>IG g λv k n=>Dt (λC=>q _ _ _ _ C (b o v c a e)) n) (λc e A=>q _ _ _ _ A (l o c a e))
def lG.mono{body a:S->World->(S->World->Prop)->Prop}{s:S}(h:lG body s w)
  (b:∀s w K,body s w K->a s w K):lG a s w:=
 let⟨I,m,h0,h1⟩:=h.out
 ⟨⟨I,m,h0,λs w c=>b _ _ _ (h1 s w c)⟩⟩
def rH{r:List (Nat×Option Value)}{t:Nat}:∀{l:List Nat} {s:Oj l},t ∉ l->jg.look (uW l s r) t=jg.look r t
 | [],_,_=>rfl
 |k::l,s,b=>by
  have a:Nat.beq k t=false:=by
   cases d:Nat.beq k t with
   |false=>rfl
   |true=>exact absurd (by rw[fZ d];exact cw) b
  simp only[uW,jg.look,a,cond_false];exact rH λc=>b (cu _ c)
def rY{r:List (Nat×Option Value)}{t:Nat}{E:jg}:∀{l:List Nat},t∈l->jg.look (uW l (oC E l) r) t=some (some (E.get t))
 |k::l,b=>by
  simp only[uW,oC,jg.look];cases a:Nat.beq k t with
  |true=>rw[fZ a];rfl
  |false=>
   simp only[cond_false];apply rY;rcases cH.1 b with e|e
   ·subst e;simp at a
   ·exact e
def wG{ds:List Nat}:∀{l:List (Nat×Option Value)} {acc:List Nat},(∀t∈acc,t∈ds)->∀t∈jG ds l acc,t∈ds
 | [],acc,b,t,a=>b t (by simpa [jG]using a)
 |(k,v)::r,acc,b,t,a=>by
  unfold jG at a;cases d:ds.contains k&& !acc.contains k with
  |true=>
   rw[d]at a;refine wG (λx c=>?_) t a;rcases cH.1 c with rfl|c
   ·grind
   ·exact b x c
  |false=>rw[d]at a;exact wG b t a
def wp{ds:List Nat}:∀{l:List (Nat×Option Value)} {acc:List Nat} {t:Nat},t∈acc->t∈jG ds l acc
 | [],acc,t,a=>by simpa [jG]using a
 |(k,v)::r,acc,t,a=>by
  unfold jG;cases ds.contains k&& !acc.contains k with
  |true=>exact wp (cu _ a)
  |false=>exact wp a
def uG{ds:List Nat}:∀{l:List (Nat×Option Value)} {acc:List Nat} {t:Nat},t∈ds->jg.look l t≠none->t∈jG ds l acc
 | [],_,_,_,h=>absurd rfl h
 |(k,v)::r,acc,t,a,h=>by
  unfold jG;cases b:Nat.beq k t with
  |true=>
   obtain rfl:=fZ b;have c:ds.contains k=true:=by simpa using a
   cases e:acc.contains k with
   |true=>
    simp only[c,mL,sj];exact wp (by simpa using e)
   |false=>
    simp only[c,Bool.not_false,Bool.and_true];exact wp cw
  |false=>
   have d:jg.look r t≠none:=by simpa [jg.look,b]using h
   cases ds.contains k&& !acc.contains k with
   |true=>exact uG a d
   |false=>exact uG a d
def CJ{ds:List Nat}:∀{l acc:List Nat},(∀t∈acc,t∈ds)->∀t∈AX ds l acc,t∈ds
 | [],acc,b,t,a=>b t (by simpa [AX]using a)
 |k::r,acc,b,t,a=>by
  unfold AX at a;cases d:ds.contains k&& !acc.contains k with
  |true=>
   rw[d]at a;refine CJ (λx c=>?_) t a;rcases cH.1 c with rfl|c
   ·grind
   ·exact b x c
  |false=>rw[d]at a;exact CJ b t a
def CO{ds:List Nat}:∀{l acc:List Nat} {t:Nat},t∈acc->t∈AX ds l acc
 | [],acc,t,a=>by simpa [AX]using a
 |k::r,acc,t,a=>by
  unfold AX;cases ds.contains k&& !acc.contains k with
  |true=>exact CO (cu _ a)
  |false=>exact CO a
def Eb{l:List (Nat×Option Value)}{a:List Nat}:∀t∈L3 ds l a,t∈ds:=CJ (wG (by simp))
def MK{l:List (Nat×Option Value)}{a:List Nat}(b:t∈ds)(h:jg.look l t≠none):t∈L3 ds l a:=CO (uG b h)
def E0{a:List Nat}{s:Oj a}{g:Nat->Value}{mk:List Nat}(e:∀t∈a,t∈ds):Fr ds E (sr E ds a s g mk):=by
 intro t b;have d:t ∉ a:=λc=>b (e t c);have f:ds.contains t=false:=by simpa using b
 unfold jg.get sr;simp only[rH d,f]
def HC{a b:Code}(h:H8 a b=true):qm a=false:=by
 simp only[H8,cL,Bool.not_eq_true']at h;exact h.1.2
def we{s:Oj (jG ds E.l [])}{g:Nat->Value}{mk:List Nat}:Fr ds E (sr E ds (jG ds E.l []) s g mk):=by
 intro t a;have c:t ∉ jG ds E.l []:=λb=>a (wG (by simp) t b);have d:ds.contains t=false:=by simpa using a
 unfold jg.get sr;simp only[rH c,d]
def Gk{jn:Bool}:∀(c:Code) (ro:Option Nat) (Q z:Exit->jg->World->Prop) (E:jg) (w:World),vc P jn ro c Q E w->
  (∀e u B,Fr (kn c) E u->(qm c=false->u.ds=E.ds)->Q e u B->z e u B)->vc P jn ro c z E w:=by
 intro c;induction c with
 |skip=>intro ro Q z E w h d;exact d _ _ _ (.refl _ _) (λ_=>rfl) h
 |region id X H=>
  intro ro Q z E w h d;have m:∀o∈X.toList,∀t,o.dst=some t->t∈kn (.region id X H):=λo ho t A=>pg.2 ⟨o,ho,A⟩;cases H with
  |false=>exact Gw _ m _ _ h λu B n L hK=>d _ _ _ n (λ_=>L) hK
  |true=>exact Rq m _ _ _ _ _ h λu B n L hK=>d _ _ _ n (λ_=>L) hK
 |seq a b V T=>
  intro ro Q z E w h d;simp only[vc]at h|-;cases Y:jn&& H8 a b with
  |true=>
   rw[Y]at h;simp only[xe]at h|-;obtain⟨J,hJ,hA⟩:=h.out;simp only[cL]at Y;have x:=HC Y.2;refine⟨⟨J,λs I hs g=>T ro _ _ _ I (hJ s I hs g) λe u B n m j=>d e u B (((E0 Eb).mono λt A=>fk _ A).trans (n.mono λt A=>gg _ A)) (λp=>m (by simp only[qm,kM]at p;exact p.2)) j,?_⟩⟩;refine V ro _ _ E w hA λe u B n m j=>?_;have k:Fr (kn (.seq a b)) E u:=n.mono λt A=>fk _ A;cases e with
   |normal=>exact j
   |exit id=>exact d _ _ _ k (λ_=>m x) j
   |goto id=>exact d _ _ _ k (λ_=>m x) j
   |ret=>exact d _ _ _ k (λ_=>m x) j
   |panic S=>exact d _ _ _ k (λ_=>m x) j
   |outgrown=>exact d _ _ _ k (λ_=>m x) j
  |false=>
  rw[Y]at h;refine V ro _ _ E w h λe E1 I hf1 hd1 j=>?_;have y:Fr (kn (.seq a b)) E E1:=hf1.mono λt A=>fk _ A;have C:qm (.seq a b)=false->E1.ds=E.ds:=λp=>hd1 (by simp only[qm,kM]at p;exact p.1);cases e with
  |normal=>
   refine T ro _ _ E1 I j λe E2 w2 hf2 hd2 Z=>d e E2 w2 (y.trans (hf2.mono λt A=>gg _ A)) (λp=>?_) Z;rw[hd2 (by simp only[qm,kM]at p;exact p.2),C p]
  |exit id=>exact d _ _ _ y C j
  |goto id=>exact d _ _ _ y C j
  |ret=>exact d _ _ _ y C j
  |panic S=>exact d _ _ _ y C j
  |outgrown=>exact d _ _ _ y C j
 |cond c t f iht ihf=>
  intro ro Q z E w h d;refine Dl h λb D=>?_;cases b with
  |true=>exact iht ro _ _ E w D λe u B n m j=>d e u B (n.mono λt A=>fk _ A) (λp=>m (by simp only[qm,kM]at p;exact p.1)) j
  |false=>exact ihf ro _ _ E w D λe u B n m j=>d e u B (n.mono λt A=>gg _ A) (λp=>m (by simp only[qm,kM]at p;exact p.2)) j
 |block id c O=>
  intro ro Q z E w h d;refine O ro _ _ E w h λe u B n m j=>?_;cases e with
  |exit i=>
   simp only at j|-;cases D:Nat.beq i id<;>rw[D]at j<;>exact d _ _ _ n m j
  |normal=>exact d _ _ _ n m j
  |goto id=>exact d _ _ _ n m j
  |ret=>exact d _ _ _ n m j
  |panic S=>exact d _ _ _ n m j
  |outgrown=>exact d _ _ _ n m j
 |loop c O=>
  intro ro Q z E w h d;simp only[vc,xe]at h|-;cases x:qm c with
  |false=>
   rw[x]at h;refine h.mono λs I K D g=>O ro _ _ _ I (D g) λe u B n m j=>?_;have k:Fr (kn (.loop c)) E u:=we.trans n;have q:qm (.loop c)=false->u.ds=E.ds:=λp=>m x;cases e with
   |normal=>exact j
   |exit id=>exact d _ _ _ k q j
   |goto id=>exact d _ _ _ k q j
   |ret=>exact d _ _ _ k q j
   |panic S=>exact d _ _ _ k q j
   |outgrown=>exact d _ _ _ k q j
  |true=>
   rw[x]at h;refine h.mono λs I K D g=>O ro _ _ _ I (D g) λe u B n m j=>?_;have k:Fr (kn (.loop c)) E u:=we.trans n;have q:qm (.loop c)=false->u.ds=E.ds:=λp=>by simp only[qm]at p;rw[x]at p;cases p
   cases e with
   |normal=>exact j
   |exit id=>exact d _ _ _ k q j
   |goto id=>exact d _ _ _ k q j
   |ret=>exact d _ _ _ k q j
   |panic S=>exact d _ _ _ k q j
   |outgrown=>exact d _ _ _ k q j
 |rangeFunc gv ps G U _ _=>
  intro ro Q z E w h d;simp only[vc,wu,RFD]at h|-;split at h
  ·rename_i f first R hgv
   unfold RK at h|-;have M:∀mk:List Nat,Fr (kn (.rangeFunc gv ps G U)) E {E with ds:=mk++E.ds}:=λmk t _=>rfl
   have key:∀(mk:List Nat) (F:Option Code) (W:World),
     iJ (λW=>Q .normal {E with ds:=mk++E.ds} W) (λW=>Q .ret {E with ds:=mk++E.ds} W) (λid W=>Q (.exit id) {E with ds:=mk++E.ds} W) F W->
     iJ (λW=>z .normal {E with ds:=mk++E.ds} W) (λW=>z .ret {E with ds:=mk++E.ds} W) (λid W=>z (.exit id) {E with ds:=mk++E.ds} W) F W:=by
    intro mk F W p;unfold iJ at*;split at p
    ·exact d _ _ _ (M mk) (λh=>by cases h) p
    ·exact d _ _ _ (M mk) (λh=>by cases h) p
    ·exact d _ _ _ (M mk) (λh=>by cases h) p
    ·exact p.elim
   cases ro with
   |none=>
    intro N h1 h2 h3 hy;apply(h N h1 h2 h3 hy).mono;rintro v W ⟨r,hr,D,ha⟩;exact⟨r,hr,D,key _ _ _ ha⟩
   |some l0=>
    obtain⟨r0,hr0,h⟩:=h;refine⟨r0,hr0,λN h1 h2 h3 hy=>?_⟩;apply(h N h1 h2 h3 hy).mono;rintro v W ⟨r,hr,D,ha⟩;exact⟨r,hr,D,key _ _ _ ha⟩
  ·exact h.elim
 |exit id=>intro ro Q z E w h d;exact d _ _ _ (.refl _ _) (λ_=>rfl) h
 |scope c O=>
  intro ro Q z E w h d;cases ro with
  |some l=>exact h.elim
  |none=>
   refine O none _ _ E w h λe u B n m j=>?_;cases e with
   |goto l=>exact j.elim
   |exit id=>exact d _ _ _ n m j
   |normal=>exact d _ _ _ n m j
   |ret=>exact d _ _ _ n m j
   |panic S=>exact d _ _ _ n m j
   |outgrown=>exact d _ _ _ n m j
 |label l=>intro ro Q z E w h d;exact d _ _ _ (.refl _ _) (λ_=>rfl) h
 |goto l=>intro ro Q z E w h d;exact h.elim
 |ret=>intro ro Q z E w h d;exact d _ _ _ (.refl _ _) (λ_=>rfl) h
 |refuse why=>intro ro Q z E w h d;exact h.elim
end Go.Vc
