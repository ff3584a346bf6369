/- Part of a proof. -/
import Derived.CallsIn
import Derived.OrdersIn
import Derived.RangeFuncIn
import Derived.RangeFuncLeaves
import Derived.KernelRfl
import Derived.Laws.Sem
import Derived.Laws.World
import Derived.RangeFuncRecord
import Derived.TacticsIn
import Derived.Scope
import Derived.WalkKit
import Derived.WalkLawsBesides
import Derived.RowKit3
import Derived.Laws.Cover3
import Derived.Laws.CopyRow
import Derived.Laws.Append
import Derived.Laws.MakeOwn
import Derived.Laws.IdiomStrings
import Derived.Laws.BytesString
import Derived.MapKept
import Derived.ProofKit
import Derived.ChangeReads
import Derived.OpenShut
import Derived.ChangeKeysEq
set_option linter.all false
namespace Go.Vc
open Go Go.Vc
variable {a:Act}{f:FuncId}{L done ds mk:List Nat}{ops:List Oper}{n i d t:Nat}{F G:Nat->Prop}{g:Nat->Value}{o:Oper}{ro:Option Nat}{P:Program}{p:Prop}{s:Sem Value}{S:Type}{v:Value}{w w' :World}
def nM:= @Go.Calls.mono
def eX:= @List.getElem?_toArray
def kz:= @Array.getElem?_eq_getElem
def jS:= @Array.getD_eq_getD_getElem?
def fT:= @Option.getD_some
def nW:= @Nat.le_of_not_lt
def fk:= @List.mem_append_left
def pg:= @List.mem_filterMap
def qq:= @List.all_cons
def cL:= @Bool.and_eq_true
def bZ:= @if_pos
def aZ:= @if_neg
def cP:= @List.getElem?_eq_some_iff
def dF:= @List.all_eq_true
def iQ:= @List.mem_range
def oX:= @Nat.blt_eq
def mL:= @Bool.not_true
def jz:= @Bool.false_or
def fZ:= @Nat.eq_of_beq_eq_true
def rt:= @Bool.or_eq_true
def dg:= @List.mem_append
def cw:= @List.mem_cons_self
def cH:= @List.mem_cons
def cu:= @List.mem_cons_of_mem
def cO:= @List.mem_filter
def fE:= @Go.Sem.run_bind
def ly:= @Go.Sem.run_pure
def dB:= @Option.some.inj
def nQ:= @Array.ext'
def dA:= @List.nodup_cons
def kG:= @Ne.symm
def fl:= @List.mem_of_find?_eq_some
def jw:= @List.find?_some
def eK:= @List.mem_singleton
def eT:= @List.size_toArray
def cE:= @List.getElem?_eq_getElem
def iD:= @Option.map_some
def cF:= @List.mem_map
def nh:= @Array.all_eq_true'
def dU:= @Classical.byContradiction
def jx:= @List.eq_nil_iff_forall_not_mem
def cC:= @List.getElem_mem
def lF:= @List.filter_filter
def gF:= @List.filter_congr
def pf:= @List.contains_cons
def lu:= @List.length_filter_lt_length_iff_exists
def dL:= @List.mem_of_getElem?
def sj:= @Bool.and_false
def gg:= @List.mem_append_right
def kM:= @Bool.or_eq_false_iff
def nB:= @List.nodup_nil
def dQ:= @List.map_map
def iP:= @List.map_id
def dt:= @List.map_congr_left
def dc:= @List.length_cons
def fF:= @List.drop_eq_getElem_cons
def ig:= @List.foldl_cons
def fh:= @if_true
def eW:= @if_false
def dy:= @List.map_append
def eG:= @Go.World.size_alloc
def nY:= @Nat.zero_le
def lz:= @Nat.sub_zero
def ky:= @List.getElem?_eq_none
def js:= @Array.getElem?_eq_some_iff
def sh:= @List.mapM_cons
def gL:= @Bool.false_ne_true
def db:= @decide_eq_true
def dN:= @decide_eq_true_eq
def fd:= @Iff.rfl
def dx:= @Go.run_underlying
def dE:= @Bool.false_eq_true
def nT:= @Array.getElem?_modify
def dR:= @of_decide_eq_true
def jU:= @Nat.add_assoc
def cJ:= @Nat.le_refl
def dD:= @Nat.le_trans
def ep:= @Nat.lt_of_lt_of_le
def lQ:= @Go.World.putObj_size
def iE:= @List.getElem?_take
def iY:= @List.getElem?_drop
def eN:= @List.drop_drop
def fS:= @Nat.min_eq_left
def dS:= @Nat.add_zero
def qJ:= @List.zipIdx_cons
def gR:= @Nat.mod_lt
def jP:= @getElem!_pos
def qj:= @Nat.le_mul_of_pos_right
def dM:= @Nat.mul_le_mul_right
def df:= @List.append_assoc
def qf:= @Nat.sub_mul
def eu:= @List.flatMap_cons
def fA:= @List.getElem_cons_succ
def fj:= @List.drop_left
def im:= @Nat.add_mul
def fU:= @Int.mul_le_mul_of_nonneg_right
def cM:= @List.map_cons
def fN:= @List.take_left
def fC:= @congrArg
def mO:= @not_or
def kJ:= @List.Sublist.refl
def mR:= @List.cons.injEq
def jr:= @Option.some.injEq
def mT:= @List.eraseIdx_cons_succ
def dO:= @List.getElem?_map
def ny:= @List.ext_getElem?
def nX:= @List.getElem?_modify
def nN:= @Array.getElem?_toList
def dh:= @List.take_append_of_le_length
def cT:= @List.take_of_length_le
def qF:= @List.drop_append
def jO:= @List.nil_append
def fi:= @List.filter_eq_self
def jv:= @List.filter_sublist
def cY:= @List.filter_cons_of_neg
def dn:= @List.mem_map_of_mem
def dI:= @List.filter_cons_of_pos
def lh:= @Array.eq_empty_of_size_eq_zero
def kI:= @Bool.eq_false_iff
def mI:= @Array.length_toList
def fw:= @List.Perm.refl
def cZ:= @List.length_take
def dV:= @List.length_drop
def eF:= @Go.IntKind.wrap_i64
def qh:= @Nat.pow_add
def lS:= @Nat.pow_le_pow_right
def jE:= @Nat.mul_le_mul
def fe:= @Nat.mul_comm
def mN:= @Nat.mul_assoc
def pX:= @Nat.mul_one
def eU:= @Nat.zero_add
def lV:= @List.pairwise_append
def fO:= @List.pairwise_cons
def fD:= @List.pairwise_map
def qL:= @List.perm_middle
def lI:= @List.Perm.of_eq
def iC:= @Bool.eq_iff_iff
def jL:= @List.find?_cons
def ou:= @Prod.mk.injEq
def dm:= @List.length_filter_le
def di:= @List.sum_cons
def kP:= @List.length_eraseIdx
def ej:= @decide_eq_false
def tJ:= @true_and
def qP:= @decide_eq_decide
def lU:= @Int.mul_nonneg
def eZ:= @List.drop_append_of_le_length
def iw:= @List.drop_zero
def dC:= @List.getElem?_append_left
def cQ:= @List.getElem?_append_right
def kv:= @Int.tmod_eq_emod_of_nonneg
def kL:= @List.take_add_one
def gj:= @List.all_append
def jN:= @Nat.add_sub_cancel_left
def ri:= @Nat.succ_pos
def ek:= @List.mem_of_mem_take
def jF:= @List.eq_nil_of_length_eq_zero
def iB:= @Int.natCast_mul
def cD:= @List.length_append
def lq:= @List.take_succ_cons
def lJ:= @List.take_length_add_append
def kO:= @Int.toNat_natCast
def nv:= @Nat.zero_mul
def eJ:= @List.flatMap_append
def nP:= @List.length_singleton
def fP:= @List.take_append_drop
def kT:= @List.mem_of_mem_drop
def eB:= @List.findIdx?_eq_some_iff_getElem
def fR:= @List.findIdx?_eq_none_iff
def cX:= @List.getElem_of_mem
def fV:= @List.find?_eq_some_iff_getElem
def fW:= @List.find?_eq_none
def qH:= @Nat.lt_succ_self
def gh:= @List.set_append_right
def ed:= @List.setIfInBounds_toArray
def gZ:= @List.set_append_left
def ey:= @List.length_set
def iN:= @List.getElem_cons_zero
def gG:= @List.mem_or_eq_of_mem_set
def kY:= @Option.isSome_iff_exists
def qK:= @Nat.div_add_mod'
def eI:= @List.pairwise_iff_getElem
def jh:= @decide_eq_false_iff_not
def cz:= @List.length_map
def iT:= @Int.natCast_add
def dJ:= @List.filter_append
def g9:= @List.sum_append
def oO:= @List.takeWhile_cons
def ft:= @Int.add_zero
def cN:= @List.take_length
def mi:= @List.not_mem_nil
def io:= @Int.le_refl
def oD:= @Int.add_assoc
def kH:= @List.foldl_append
def ew:= @List.append_nil
def lZ:= @Int.shiftRight_eq_div_pow
def eL:= @List.getElem_map
def nt:= @List.set_set
def gV:= @List.getElem_set_self
def gA:= @List.any_eq_true
def kw:= @List.take_zero
def fg:= @List.drop_of_length_le
def iR:= @Nat.div_lt_iff_lt_mul
def jD:= @Nat.lt_of_le_of_lt
def je:= @Nat.succ_mul
def mE:= @Nat.div_mul_le_self
def ie:= @Nat.div_add_mod
def jf:= @Nat.add_comm
def iM:= @Nat.mod_eq_of_lt
def oI:= @Nat.two_pow_pos
def oS:= @Nat.div_le_self
def nV:= @Int.natCast_ediv
def lY:= @List.map_set
def nH:= @List.any_eq_false
def oN:= @Nat.mul_le_mul_left
def iH:= @List.getD_eq_getElem?_getD
def mg:= @Nat.sub_self
def fG:= @List.length_replicate
def gK:= @List.getElem_cons_drop
def jp:= @Bool.false_and
def oo:= @Bool.true_and
def oR:= @List.range_succ
def iz:= @List.filter_nil
def nI:= @List.all_eq_false
def lg:= @List.eq_of_mem_replicate
def nS:= @List.set_getElem_self
def jI:= @List.nodup_append
def kQ:= @List.any_cons
def lD:= @List.find?_cons_of_pos
def lE:= @List.find?_cons_of_neg
def oZ:= @Int.lt_of_lt_of_le
def jB:= @List.eraseIdx_sublist
def ii:= @List.filter_eq_nil_iff
def kt:= @List.length_eraseIdx_of_lt
def lv:= @List.drop_length
def qe:= @Option.isSome_map
def qN:= @List.flatMap_nil
def mQ:= @Go.IntKind.wrap_u8
def qb:= @decide_true
def qZ(h:p:=by omega):p:=h
def dW{α:Sort _}(a:α):∃x,x=a:=⟨_,rfl⟩
def eQ{α:Sort _}{β:α->Sort _}{p:(a:α)->β a->Prop}(a:α)(b:β a)(h:p a b):p a b:=h
def qie{α:Sort _}{β:α->Sort _}{p:(a:α)->β a->Prop}(a:α)(b:β a)(h:False):p a b:=h.elim
def cU(h:p:=by kernel_rfl):p:=h
abbrev cG:=Value->World->Prop
variable {K:cG}
structure Ca(P:Program)(f:FuncId)(args:Array Value)(w:World)(K:cG):Prop where
 out:Calls P f args w λe w' =>∃v,e=.returned v/\K v w'
def Ca.mono{a:Array Value}{c:cG}(h:Ca P f a w K)(d:∀v b,K v b->c v b):Ca P f a w c:=
 ⟨Calls.mono h.out λ_ _ ⟨v,g,e⟩=>⟨v,g,d _ _ e⟩⟩
def Yl(P:Program)(l:Nat)(args:Array Value)(w:World)(K:cG):Prop:=
 ∃fn tmps assign body,(Instr.yield l args).run P w=.ok (.round l fn tmps assign body) w/\
  RoundIn Fence.wide 0 P l fn tmps assign body w λe w' =>∃v,e=.returned v/\K v w'
def Yl.mono{l:Nat}{c:Array Value}{e:cG}(h:Yl P l c w K)(f:∀v d,K v d->e v d):Yl P l c w e:=
 let⟨fn,tmps,a,b,h1,h2⟩:=h
 ⟨fn,tmps,a,b,h1,h2.mono λ_ _ ⟨v,i,g⟩=>⟨v,i,f _ _ g⟩⟩
def Yq(P:Program)(s:Sem Value)(w:World)(K:cG):Prop:=
 match s.run P w with
 | .ok v w' =>K v w'
 | .halt _ _=>False
structure rv(P:Program)(s:Sem Value)(w:World)(K:cG):Prop where
 out:Yq P s w K
def FN:rv P s w K↔Yq P s w K:=⟨rv.out,rv.mk⟩
def XO(P:Program)(s:Sem Unit)(w:World)(K:World->Prop):Prop:=
 match s.run P w with
 | .ok _ w' =>K w'
 | .halt _ _=>False
structure ru(P:Program)(s:Sem Unit)(w:World)(K:World->Prop):Prop where
 out:XO P s w K
def Fo{s:Sem Unit}{K:World->Prop}:ru P s w K↔XO P s w K:=⟨ru.out,ru.mk⟩
structure rx(P:Program)(s:Sem Value)(w:World)(K:cG):Prop where
 out:rv P s w K
structure nj(P:Program)(s:Sem Unit)(w:World)(K:World->Prop):Prop where
 out:ru P s w K
def Ol(P:Program)(s:Sem Next)(w:World)(K:cG):Prop:=
 match s.run P w with
 | .ok (.value v) w' =>K v w'
 | .ok .skip w' =>K undef w'
 | .ok (.enter f args) w' =>Ca P f args w' K
 | .ok (.round l fn tmps assign body) w' =>RoundIn Fence.wide 0 P l fn tmps assign body w' λe w'' =>∃v,e=.returned v/\K v w''
 |_=>False
structure rn(P:Program)(s:Sem Next)(w:World)(K:cG):Prop where
 out:Ol P s w K
def sN{s:Sem Next}:rn P s w K↔Ol P s w K:=⟨rn.out,rn.mk⟩
def wV(P:Program):Bool:=P.funcs.all λfn=> !(fn.name== "runtime.NumGoroutine")
def K5(P:Program)(fv:Value)(args:List Value)(w:World)(K:cG):Prop:=
 match fv with
 | .func (.func f) first captured=>Ca P f ⟨first.toList++(args++captured.toList)⟩ w K
 | .func (.yield l) first _=>Yl P l ⟨first.toList++args⟩ w K
 |_=>False
structure iv(P:Program)(fv:Value)(args:List Value)(w:World)(K:cG):Prop where
 out:K5 P fv args w K
def oe{fv:Value}{a:List Value}:iv P fv a w K↔K5 P fv a w K:=⟨iv.out,iv.mk⟩
def Gz(v:Value)(K:Bool->Prop):Prop:=
 match v with
 | .bool b=>K b
 |_=>False
def bc(b:Bool)(T F:Prop):Prop:=
 match b with
 |true=>T
 |false=>F
def cV(v:Value)(T F:Prop):Prop:=Gz v λb=>bc b T F
def Uv(b:Bool)(x y:Value):Value:=
 match b with
 |true=>x
 |false=>y
def LX(b:Bool)(x y:Value):Uv b x y=if b then x else y:=by cases b<;>rfl
structure jg where
 l:List (Nat×Option Value)
 g:Nat->Value
 ds:List Nat
variable {E E' :jg}
def jg.look:List (Nat×Option Value)->Nat->Option (Option Value)
 | [],_=>none
 |(k,v)::r,t=>bif Nat.beq k t then some v else jg.look r t
def jg.get(E:jg)(t:Nat):Value:=
 match jg.look E.l t with
 |some (some v)=>v
 |some none=>undef
 |none=>E.g t
def jg.put(E:jg)(d:Option Nat)(v:Value):jg:=
 match d with
 |some d=>{E with l:=(d,some v)::E.l}
 |none=>E
def jg.skip(E:jg)(d:Option Nat):jg:=
 match d with
 |some d=>{E with l:=(d,none)::E.l}
 |none=>E
def jg.skipped(E:jg)(t:Nat):Bool:=
 match jg.look E.l t with
 |some none=>true
 |_=>false
def ev(E:jg):Operand->Value
 | .tmp t=>E.get t
 | .const v=>v
 | .global g=>.pointer (some ⟨g,0,none⟩)
 | .func f=>.func (.func f) #[] #[]
structure xm(n:Nat)(E:jg)(a:Act):Prop where
 size:a.tmps.size=n
 get:∀t,a.tmps.getD t undef=E.get t
 defs:a.defers=E.ds.map λd=>{target:=.collected d,args:=#[]}
def xm.ev(h:xm n E a):a.eval=ev E:=by
 funext x;cases x with
 |tmp t=>exact h.get t
 |const v=>rfl
 |global g=>rfl
 |func f=>rfl
def jg.get_put(E:jg)(d:Nat)(v:Value)(t:Nat):(E.put (some d) v).get t=if d=t then v else E.get t:=by
 by_cases h:d=t
 ·subst h;simp[jg.get,jg.put,jg.look]
 ·have:Nat.beq d t=false:=by
   cases a:Nat.beq d t with
   |false=>rfl
   |true=>exact absurd (Nat.eq_of_beq_eq_true a) h
  simp[jg.get,jg.put,jg.look,this,h]
def jg.get_skip(E:jg)(d:Nat)(t:Nat):(E.skip (some d)).get t=if d=t then undef else E.get t:=by
 by_cases h:d=t
 ·subst h;simp[jg.get,jg.skip,jg.look]
 ·have:Nat.beq d t=false:=by
   cases a:Nat.beq d t with
   |false=>rfl
   |true=>exact absurd (Nat.eq_of_beq_eq_true a) h
  simp[jg.get,jg.skip,jg.look,this,h]
def yk(n:Nat):Option Nat->Bool
 |some d=>Nat.blt d n
 |none=>true
def Hr(xs:Array Value)(d t:Nat)(v:Value)(h:d<xs.size):(xs.setIfInBounds d v).getD t undef=if d=t then v else xs.getD t undef:=by
 by_cases a:d=t
 ·subst a;simp[h]
 ·simp[a]
def xm.put(h:xm n E a){d:Option Nat}(c:yk n d=true)(v:Value):xm n (E.put d v) (a.put d v):=by
 cases d with
 |none=>exact h
 |some d=>
  have b:d<a.tmps.size:=by rw[h.size];simpa [yk,Nat.blt_eq]using c
  refine⟨by simp[Act.put,h.size],λt=>?_,h.defs⟩;rw[jg.get_put];simp only[Act.put];rw[Hr _ _ _ _ b,h.get]
def xm.skip(h:xm n E a){d:Option Nat}(c:yk n d=true):xm n (E.skip d) (a.put d undef):=by
 cases d with
 |none=>exact h
 |some d=>
  have b:d<a.tmps.size:=by rw[h.size];simpa [yk,Nat.blt_eq]using c
  refine⟨by simp[Act.put,h.size],λt=>?_,h.defs⟩;rw[jg.get_skip];simp only[Act.put];rw[Hr _ _ _ _ b,h.get]
def xm.of_get(h:xm n E a)(c:∀t,E'.get t=E.get t)(b:E'.ds=E.ds):xm n E' a:=
 ⟨h.size,λt=>(h.get t).trans (c t).symm,by rw[b];exact h.defs⟩
def Qk:Operand->Bool
 | .const _=>true
 |_=>false
def eqG(op:BinOp)(t:TypeId)(c:Bool)(a b:Value):Sem Unit:=do
 if !(op matches .eql| .neq)then return
 match a,b with
 | .nilIface,.nilIface=>
  if c then return
  if<-Op.eqGuardIn Op.maxDepth t a b then unsupported (.noEntry "binop/eql: two nil values of an interface type with methods, neither of them the literal nil")
 | .agg _,.agg _=>
  if !(<-program).eqGuardType (<-program).depth t then return
  if<-Op.eqGuardIn Op.maxDepth t a b then unsupported (.noEntry "binop/eql: two nil values of an interface type with methods, in a part of a struct or an array")
 |_,_=>pure ()
def Yw(c:BinOp)(t:TypeId)(x y:Operand)(a b:Value):eqGuard c t x y a b=eqG c t (Qk x||Qk y) a b:=by
 unfold eqGuard eqG;cases x<;>cases y<;>rfl
def qE(op:BinOp)(t:TypeId)(c:Bool)(a b:Value):Sem Value:=do eqG op t c a b;binOp op t a b
def ez(v:Value)(K:Value->Prop):Prop:=
 match v with
 | .pointer (some a)=>K (.pointer (some a))
 |_=>False
def DU(P:Program)(t:TypeId):Bool:=Nat.blt 12 (P.cellsOf t)
def fH(t:TypeId)(x:Value):Sem Value:=Instr.loadAt t x
def jH(t:TypeId)(x y:Value):Sem Unit:=Instr.storeAt t x y
def nE(t:TypeId):Sem Value:=Instr.alloc t true (.tuple #[])
def rB(t:TypeId)(parts:Array (Nat×Value)):Sem Value:=Instr.build t parts
def eg(ts:Array TypeId)(t:TypeId)(args:List Value):Sem Value:=Builtin.append_ ts t ⟨args⟩
def vY(ts:Array TypeId)(t:TypeId)(args:List Value):Sem Value:=Builtin.copy_ ts t ⟨args⟩
def wo(ts:Array TypeId)(t:TypeId)(args:List Value):Sem Value:=Builtin.delete_ ts t ⟨args⟩
def Ay(ts:Array TypeId)(t:TypeId)(args:List Value):Sem Value:=Builtin.clear_ ts t ⟨args⟩
def Ak(t:TypeId)(l c:Value):Sem Value:=Instr.makeSlice t l c
def jQ(t:TypeId)(n:Nat)(parts:List (Nat×Value)):Sem Value:=Instr.buildSlice t n ⟨parts⟩
def uL(s d:TypeId)(x:Value):Sem Value:=convert s d x
def ji(t:TypeId)(m k:Value)(ok:Bool):Sem Value:=Instr.lookup t m k ok
def nm(t:TypeId)(m k v:Value):Sem Unit:=Instr.mapUpdate t m k v
def ue(t:TypeId)(x:Value):Sem Value:=Instr.range t x
def wh(it:Value)(s:Bool)(t:TypeId):Sem Value:=Instr.next it s t
def uf(it:Value):Sem Value:=Instr.entry it
def Tf(t:TypeId)(m k:Value):Sem Value:=Instr.mapEntry t m k
def Xr(t:TypeId)(m s v:Value):Sem Unit:=Instr.entryStore t m s v
def IY(P:Program)(s d:TypeId):Bool:=
 (match P.underlying s with|some (.slice _)=>true|_=>false)||(match P.underlying d with|some (.slice _)=>true|_=>false)
def YI(P:Program)(f:FuncId):Bool:=match (P.funcs[f]?).bind (·.body)with|none=>true|some _=>false
structure rnx(P:Program)(f:FuncId)(args:List Value)(w:World)(K:cG):Prop where
 out:rn P (callFunc f ⟨args⟩) w K
def ov(ρ:Operand->Value)(xs:Array Operand):List Value:=xs.toList.map ρ
def Sy(P:Program)(ρ:Operand->Value)(o:Oper)(w:World)(K:cG):Prop:=
 match o.op with
 | .move x| .assign x=>K (ρ x) w
 | .pick c x y=>Gz (ρ c) λb=>K (Uv b (ρ x) (ρ y)) w
 | .alloc elem=>match DU P elem with
  |true=>rx P (nE elem) w K
  |false=>rv P (Instr.alloc elem true (.tuple #[])) w K
 | .box elem x=>rv P (Instr.box elem (ρ x)) w K
 | .build t parts=>match DU P t with
  |true=>rx P (rB t ⟨parts.toList.map λp=>(p.1,ρ p.2)⟩) w K
  |false=>rv P (Instr.build t ⟨parts.toList.map λp=>(p.1,ρ p.2)⟩) w K
 | .buildSlice t len parts=>rx P (jQ t len (parts.toList.map λp=>(p.1,ρ p.2))) w K
 | .load t x=>match DU P t with
  |true=>rx P (fH t (ρ x)) w K
  |false=>rv P (Instr.loadAt t (ρ x)) w K
 | .store t x y=>match DU P t with
  |true=>nj P (jH t (ρ x) (ρ y)) w (K undef)
  |false=>ru P (Instr.storeAt t (ρ x) (ρ y)) w (K undef)
 | .binOp op t x y _=>rv P (qE op t (Qk x||Qk y) (ρ x) (ρ y)) w K
 | .unOp op _ x=>rv P (Op.unary op (ρ x)) w K
 | .convert s d x=>match IY P s d with
  |true=>rx P (uL s d (ρ x)) w K
  |false=>rv P (convert s d (ρ x)) w K
 | .sliceToArrayPointer t x=>rv P (Instr.arrayAt t (ρ x)) w K
 | .makeInterface t x=>rv P (Instr.makeInterface t (ρ x)) w K
 | .makeFunc fn first captured=>K (.func fn ⟨ov ρ first⟩ ⟨ov ρ captured⟩) w
 | .makeMap t r=>rv P (Instr.makeMap t (r.map ρ)) w K
 | .makeSlice t l c=>rx P (Ak t (ρ l) (ρ c)) w K
 | .slice t x lo hi mx=>rv P (Instr.sliceAt t (ρ x) (lo.map ρ) (hi.map ρ) (mx.map ρ)) w K
 | .fieldAddr t x f=>rv P (Instr.fieldAt t (ρ x) f) w K
 | .field t x f=>rv P (Instr.field t (ρ x) f) w K
 | .indexAddr t x i=>rv P (Instr.indexAt t (ρ x) (ρ i)) w K
 | .index t x i=>rv P (Instr.index t (ρ x) (ρ i)) w K
 | .lookup t x i ok=>rx P (ji t (ρ x) (ρ i) ok) w K
 | .mapUpdate t m k x| .insert t m k x=>nj P (nm t (ρ m) (ρ k) (ρ x)) w (K undef)
 | .range t x=>rx P (ue t (ρ x)) w K
 | .next it s=>rx P (wh (ρ it) s o.type) w K
 | .entry it=>rx P (uf (ρ it)) w K
 | .mapEntry t m k=>rx P (Tf t (ρ m) (ρ k)) w K
 | .entryStore t m s x=>nj P (Xr t (ρ m) (ρ s) (ρ x)) w (K undef)
 | .typeAssert x t u ok=>rv P (Instr.typeAssert (ρ x) t u ok) w K
 | .extract t i=>rv P (Instr.extract (ρ t) i) w K
 | .call c=>
  match c.callee with
  | .value (.func f)=>match YI P f with
   |true=>rnx P f (ov ρ c.args) w K
   |false=>Ca P f ⟨ov ρ c.args⟩ w K
  | .value f=>iv P (ρ f) (ov ρ c.args) w K
  | .builtin .append=>rx P (eg c.argTypes o.type (ov ρ c.args)) w K
  | .builtin .copy=>rx P (vY c.argTypes o.type (ov ρ c.args)) w K
  | .builtin .delete=>rx P (wo c.argTypes o.type (ov ρ c.args)) w K
  | .builtin .clear=>rx P (Ay c.argTypes o.type (ov ρ c.args)) w K
  | .builtin b=>rn P (builtin b c.argTypes o.type ⟨c.args.toList.map Qk⟩ ⟨ov ρ c.args⟩) w K
  | .invoke _ _=>rn P (execOp ρ o) w K
 | .nilCheck x=>ez (ρ x) λv=>K v w
 | .defer _| .go _| .select .. | .panic _=>False
 |_=>rn P (execOp ρ o) w K
def oU(h:rv P s w K):rn P (do pure (.value (<-s))) w K:=by
 rw[FN]at h;unfold Yq at h;rw[sN];unfold Ol;simp only[Sem.run_bind,Sem.run_pure];cases a:s.run P w with
 |ok v b=>rw[a]at h;simpa [Result.andThen]using h
 |halt x b=>rw[a]at h;exact h.elim
def xE{s:Sem Unit}(h:ru P s w (K undef)):rn P (do s;pure .skip) w K:=by
 rw[Fo]at h;unfold XO at h;rw[sN];unfold Ol;simp only[Sem.run_bind,Sem.run_pure];cases a:s.run P w with
 |ok v b=>rw[a]at h;simpa [Result.andThen]using h
 |halt x b=>rw[a]at h;exact h.elim
def Ca.bodied{a:Array Value}(h:Ca P f a w K):∃fn,P.funcs[f]? =some fn/\fn.body.isSome=true:=by
 apply Classical.byContradiction;intro q;obtain⟨e,u,k,⟨v,rfl,_⟩,t,_,o⟩:=h.out []
 have g:((P.funcs[f]?).bind (·.body))=none:=by
  cases l:P.funcs[f]? with
  |none=>rfl
  |some fn=>
   cases j:fn.body with
   |none=>simp[j]
   |some c=>exact absurd ⟨fn,l,by simp[j]⟩ q
 obtain⟨r,p⟩:∃r,step P (lone (Frame.enter P f a .normal) [] w)=.ended r w:=by
  refine⟨?r,step_lone_ended ?h⟩
  case h=>
   simp only[stepG,stepG.exec,Frame.enter,g];exact rfl
 obtain⟨n,d⟩:=(t:Steps P _ _)
 cases n with
 |zero=>
  simp only[runN]at d;injection d with s
  have i:Frame.enter P f a .normal=k:=by
   have:=congrArg (λm=>(m.gs[0]?).map (·.frame)) s;simpa [lone]using this
  have b:=o.1;rw[<-i]at b;simp[Frame.enter]at b
 |succ n=>simp[runN,p]at d
def By(g:wV P=true){f:FuncId}{a:Array Value}{w:World}{K:cG}(h:Ca P f a w K):rn P (callFunc f a) w K:=by
 obtain⟨fn,e,i⟩:=h.bodied
 have d:(fn.name== "runtime.NumGoroutine")=false:=by
  have:=(Array.all_eq_true'.1 g) fn (Array.mem_of_getElem? e);simpa using this
 rw[sN];unfold Ol
 have:(callFunc f a).run P w=.ok (.enter f a) w:=by
  have b:¬fn.name= "runtime.NumGoroutine" :=by simpa using d
  have c:¬fn.body=none:=by grind
  unfold callFunc;simp[Sem.run_bind,Result.andThen,e,b,c]
 rw[this];exact h
def rG(ρ:Operand->Value)(xs:Array Operand):(⟨ov ρ xs⟩:Array Value)=xs.map ρ:=by
 apply Array.ext';simp[ov]
def Sq(n:wV P=true){fv:Value}{b:List Value}{w:World}{K:cG}(h:iv P fv b w K):
  rn P (do let d<-Deferred.ofValue fv ⟨b⟩;invoke d.target d.args) w K:=by
 rw[oe]at h;unfold K5 at h;split at h
 ·rename_i f first a
  have e:(do let d<-Deferred.ofValue (.func (.func f) first a) ⟨b⟩;invoke d.target d.args:Sem Next)=callFunc f (first++⟨b⟩++a):=rfl;rw[e]
  have g:(first++⟨b⟩++a:Array Value)=⟨first.toList++(b++a.toList)⟩:=by
   apply Array.ext';simp
  rw[g];exact By n h
 ·rename_i l first a
  have e:(do let d<-Deferred.ofValue (.func (.yield l) first a) ⟨b⟩;invoke d.target d.args:Sem Next)=Instr.yield l (first++⟨b⟩):=rfl;rw[e]
  have g:(first++⟨b⟩:Array Value)=⟨first.toList++b⟩:=by
   apply Array.ext';simp
  rw[g];obtain⟨fn,j,c,i,m,k⟩:=h;rw[sN];unfold Ol;rw[m];exact k
 ·exact h.elim
def DX(C:wV P=true){ρ:Operand->Value}(E:∀f,ρ (.func f)=.func (.func f) #[] #[]){o:Oper}{w:World}{K:cG}(h:Sy P ρ o w K):
  rn P (execOp ρ o) w K:=by
 obtain⟨A,B,q,pos,u,guard⟩:=o;unfold Sy at h;cases B<;>simp only at h
 case move x=>exact sN.2 h
 case assign x=>exact sN.2 h
 case pick c x y=>
  unfold Gz at h;split at h
  ·rename_i b D
   simp only[execOp,D,sN,Ol,asBool,Sem.run_bind,Sem.run_pure,Result.andThen];rw[LX]at h;exact h
  ·exact h.elim
 case alloc t=>
  split at h
  ·exact oU h.out
  ·exact oU h
 case load t x=>
  split at h
  ·exact oU h.out
  ·exact oU h
 case convert s d x=>
  split at h
  ·exact oU h.out
  ·exact oU h
 case build t ps=>
  have h:rv P (Instr.build t ⟨ps.toList.map λp=>(p.1,ρ p.2)⟩) w K:=by
   split at h
   ·exact h.out
   ·exact h
  have e:(⟨ps.toList.map λp=>(p.1,ρ p.2)⟩:Array (Nat×Value))=ps.map λ(i,x)=>(i,ρ x):=by
   apply Array.ext';simp
  rw[e]at h;exact oU h
 case buildSlice t n ps=>
  have h:rv P (Instr.buildSlice t n ⟨ps.toList.map λp=>(p.1,ρ p.2)⟩) w K:=h.out
  have e:(⟨ps.toList.map λp=>(p.1,ρ p.2)⟩:Array (Nat×Value))=ps.map λ(i,x)=>(i,ρ x):=by
   apply Array.ext';simp
  rw[e]at h;exact oU h
 case binOp B t x y yt=>
  have e:(do eqGuard B t x y (ρ x) (ρ y);binOp B t (ρ x) (ρ y):Sem Value)=qE B t (Qk x||Qk y) (ρ x) (ρ y):=by
   unfold qE;rw[Yw]
  have:=oU h;rw[<-e]at this;exact this
 case makeFunc fn first captured=>
  rw[rG,rG]at h;exact sN.2 h
 case store t x y=>
  split at h
  ·exact xE h.out
  ·exact xE h
 case nilCheck x=>
  unfold ez at h;split at h
  ·rename_i a G
   simp only[execOp,G,sN,Ol,Sem.run_pure];exact h
  ·exact h.elim
 case mapUpdate t m k x=>exact xE h.out
 case insert t m k x=>exact xE h.out
 case entryStore t m s x=>exact xE h.out
 case call c=>
  obtain⟨z,j,l⟩:=c;cases z with
  |value f=>
   have key:iv P (ρ f) (ov ρ j) w K->rn P (execOp ρ ⟨A,.call ⟨.value f,j,l⟩,q,pos,u,guard⟩) w K:=by
    intro h;have:=Sq C h;rw[rG]at this;exact this
   cases f with
   |func g=>
    simp only at h
    have this:rn P (callFunc g ⟨ov ρ j⟩) w K:=by
     split at h
     ·exact h.out
     ·exact By C h
    rw[rG]at this;have e:(execOp ρ ⟨A,.call ⟨.value (.func g),j,l⟩,q,pos,u,guard⟩:Sem Next)=(do let d<-Deferred.ofValue (ρ (.func g)) (j.map ρ);invoke d.target d.args):=rfl;rw[e,E g];have F:(do let d<-Deferred.ofValue (.func (.func g) #[] #[]) (j.map ρ);invoke d.target d.args:Sem Next)=callFunc g (#[]++j.map ρ++ #[]):=rfl;rw[F];simpa using this
   |tmp t=>exact key h
   |const v=>exact key h
   |global g=>exact key h
  |builtin b=>
   have key:rn P (builtin b l q ⟨j.toList.map Qk⟩ ⟨ov ρ j⟩) w K:=by
    cases b<;>first|exact h|exact oU h.out
   have h:=key;rw[rG]at h
   have e:(⟨j.toList.map Qk⟩:Array Bool)=j.map λ| .const _=>true|_=>false:=by
    apply Array.ext';simp only[Array.toList_map];apply List.map_congr_left;intro x _;cases x<;>rfl
   rw[e]at h;exact h
  |invoke r m=>exact h
 all_goals first|exact oU h|exact oU h.out|exact h|exact h.elim
def FR:Option Nat->Fence
 |none=>Fence.wide
 |some l=>Fence.wide.inRound l
def FR.fn(ro:Option Nat)(f:FuncId):(FR ro).fn f:=by cases ro<;>exact trivial
def FR.round(ro:Option Nat):(FR ro).round=ro:=by cases ro<;>rfl
def FR.depth(ro:Option Nat):(FR ro).depth=none:=by cases ro<;>rfl
def FR.calls{a:Array Value}{R:Ending->World->Prop}(h:Calls P f a w R):CallsIn (FR ro) n P f a w R:=by
 cases ro with
 |none=>exact callsIn_wide.2 h
 |some l=>exact(callsIn_wide (n:=n)).2 h
def FR.roundIn{m:Nat}{l:Nat}{b:Array Value}{a body:Code}{R:Ending->World->Prop}
  (h:RoundIn Fence.wide m P l f b a body w R):RoundIn (FR ro) n P l f b a body w R:=by
 cases ro with
 |none=>exact⟨h.1,λc d _=>h.2 c d (room_wide _)⟩
 |some l=>exact⟨h.1,λc d _=>h.2 c d (room_wide _)⟩
def xY:Op->Bool
 | .defer _| .go _| .select .. =>false
 |_=>true
def Db{next:Act->World->Prop}{Q:Exit->Act->World->Prop}{ρ:Operand->Value}
  (k:xY o.op=true)(l:execOp a.eval o=execOp ρ o)(h:rn P (execOp ρ o) w K)(i:∀v g,K v g->next (a.put o.dst v) g):o.wpIn (FR ro) 0 P a w next Q:=by
 refine⟨λf _=>FR.fn ro f,?_⟩;rw[FR.round,Oper.semAt_eq ro a.eval o (λc m=>by rw[m]at k;cases k),l];rw[sN]at h;unfold Ol at h;split at h
 ·rename_i b;rw[b];exact i _ _ h
 ·rename_i b;rw[b];exact i _ _ h
 ·rename_i b;rw[b]
  refine⟨(λd=>by rw[FR.depth]at d;cases d),FR.calls (nM h.out ?_)⟩;rintro e g ⟨v,rfl,j⟩;exact i _ _ j
 ·rename_i b;rw[b]
  refine⟨(λd=>by rw[FR.depth]at d;cases d),FR.roundIn (h.mono ?_)⟩;rintro e g ⟨v,rfl,j⟩;exact i _ _ j
 ·exact h.elim
def Dq(ops:List Oper)(j:Nat):Option Nat:=
 match ops[j]? with
 |some o=>o.dst
 |none=>none
def SH(ops:List Oper)(o:Oper)(E:jg)(yes no:jg->Prop):Prop:=
 match o.guard with
 |none=>yes E
 |some (j,want)=>
  match Dq ops j with
  |none=>no E
  |some s=>
   match E.skipped s with
   |true=>no E
   |false=>Gz (E.get s) λb=>bc b
     ((match want with|true=>yes|false=>no) (E.put (some s) (.bool true)))
     ((match want with|true=>no|false=>yes) (E.put (some s) (.bool false)))
def yz:Value->Option Bool
 | .bool b=>some b
 |_=>none
def nK(ops:List Oper)(E:jg)(o:Oper):Bool:=
 Region.wanted o λj=>(Dq ops j).bind λs=>yz (E.get s)
def jg.Same(E E' :jg):Prop:=(∀t,E'.get t=E.get t)/\E'.ds=E.ds
def jg.Same.refl(E:jg):E.Same E:=⟨λ_=>rfl,rfl⟩
def jg.Same.ev(h:E.Same E'):Vc.ev E' =Vc.ev E:=by
 funext x;cases x<;>first|exact h.1 _|rfl
def jg.Same.wanted(h:E.Same E')(ops:List Oper)(o:Oper):nK ops E' o=nK ops E o:=by
 unfold nK;congr 1;funext j;cases Dq ops j<;>simp[h.1]
def jg.same_put{s:Nat}(h:E.get s=v):E.Same (E.put (some s) v):=by
 refine⟨λt=>?_,rfl⟩;rw[jg.get_put];split
 ·grind
 ·rfl
def AE{f k:jg->Prop}(h:SH ops o E f k):
  (nK ops E o=true/\∃e,E.Same e/\f e)\/(nK ops E o=false/\∃e,E.Same e/\k e):=by
 unfold SH at h;unfold nK Region.wanted;cases i:o.guard with
 |none=>rw[i]at h;exact .inl ⟨rfl,E,.refl E,h⟩
 |some g=>
  obtain⟨j,a⟩:=g;rw[i]at h;simp only at h|-;cases l:Dq ops j with
  |none=>rw[l]at h;exact .inr ⟨rfl,E,.refl E,h⟩
  |some s=>
   rw[l]at h;simp only at h;cases d:E.skipped s with
   |true=>
    rw[d]at h
    have n:E.get s=undef:=by
     unfold jg.skipped at d;unfold jg.get;split at d
     ·rename_i m;rw[m]
     ·cases d
    exact .inr ⟨by simp[n,undef,yz],E,.refl E,h⟩
   |false=>
    rw[d]at h;simp only[Gz]at h;split at h
    ·rename_i b c
     cases b with
     |true=>
      cases a with
      |true=>exact .inl ⟨by simp[c,yz],_,jg.same_put c,h⟩
      |false=>exact .inr ⟨by simp[c,yz],_,jg.same_put c,h⟩
     |false=>
      cases a with
      |true=>exact .inr ⟨by simp[c,yz],_,jg.same_put c,h⟩
      |false=>exact .inl ⟨by simp[c,yz],_,jg.same_put c,h⟩
    ·exact h.elim
def Dd(h:∀t,t∈o.looksAt ops.toArray->a.tmps.getD t undef=E.get t):
  Region.wanted o (yielded ops.toArray a.tmps)=nK ops E o:=by
 unfold nK Region.wanted;cases i:o.guard with
 |none=>rfl
 |some g=>
  obtain⟨j,e⟩:=g;simp only;congr 1;unfold yielded Dq;cases c:ops[j]? with
  |none=>simp[c]
  |some k=>
   cases d:k.dst with
   |none=>simp[c,d]
   |some s=>
    have f:s∈o.looksAt ops.toArray:=by
     unfold Oper.looksAt;rw[i];simp[c,d]
    have:=h s f;simp only[eX,c,Option.bind_some,d];rw[<-this];by_cases b:s<a.tmps.size
    ·simp only[kz b,jS,fT];cases a.tmps[s]<;>rfl
    ·simp[Array.getElem?_eq_none (nW b),undef,yz]
def FQ(c:xY o.op=true)(h:∀t,t∈o.looksAt ops.toArray->a.tmps.getD t undef=E.get t):
  execOp a.eval o=execOp (ev E) o:=by
 refine execOp_congr o (λi b e=>by rw[e]at c;cases c) λx d=>?_;cases x with
 |tmp t=>
  apply h t;unfold Oper.looksAt;refine fk _ (pg.2 ⟨.tmp t,by simpa using d,rfl⟩)
 |const v=>rfl
 |global g=>rfl
 |func f=>rfl
def Lj(E:jg)(f:FuncId):ev E (.func f)=.func (.func f) #[] #[]:=rfl
def Hv{ρ:Operand->Value}(h:Sy P ρ o w K):xY o.op=true:=by
 unfold Sy at h;cases a:o.op<;>rw[a]at h<;>first|rfl|exact h.elim
def AV(P:Program)(ops:List Oper):List Oper->jg->World->(jg->World->Prop)->Prop
 | [],E,w,K=>K E w
 |o::rest,E,w,K=>
  SH ops o E (λE=>Sy P (ev E) o w λv w' =>AV P ops rest (E.put o.dst v) w' K)
   (λE=>AV P ops rest (E.skip o.dst) w K)
def Fi(u:wV P=true){ro:Option Nat}{n:Nat}{ops:List Oper}{Q:Exit->Act->World->Prop}{K:jg->World->Prop}
  (q:∀E a w,xm n E a->K E w->Q .normal a w):∀(l:List Oper),(l.all λo=>yk n o.dst)=true->∀(E:jg) (a:Act) (w:World),xm n E a->
  AV P ops l E w K->wpListIn (FR ro) 0 P ops.toArray Q l a w:=by
 intro l;induction l with
 |nil=>exact λ_ E a w e h=>q E a w e h
 |cons o rest p=>
  intro d E a w e h;simp only[qq,cL]at d;unfold wpListIn;have b:∀t,t∈o.looksAt ops.toArray->a.tmps.getD t undef=E.get t:=λt _=>e.get t;rw[Dd b];rcases AE h with⟨j,i,g,m⟩|⟨j,i,g,r⟩
  ·rw[bZ j];have c:xm n i a:=e.of_get g.1 g.2;have k:=Hv m;refine Db (ρ:=ev i) k (by rw[c.ev]) (DX u (Lj i) m) λv x s=>?_;exact p d.2 _ _ _ (c.put d.1 v) s
  ·rw[aZ (by rw[j];simp)];exact⟨λf _=>FR.fn ro f,p d.2 _ _ _ ((e.of_get g.1 g.2).skip d.1) r⟩
def Hl(P:Program)(s:Sem Value)(w:World)(K:Value->Prop):Prop:=
 match s.run P w with
 | .ok v w' =>w' =w/\K v
 | .halt _ _=>False
structure uc(P:Program)(s:Sem Value)(w:World)(K:Value->Prop):Prop where
 out:Hl P s w K
def Am{K:Value->Prop}:uc P s w K↔Hl P s w K:=⟨uc.out,uc.mk⟩
def Yb(P:Program)(s:Sem Value)(K:Value->Prop):Prop:=∃v,(∀w,s.run P w=.ok v w)/\K v
structure wS(P:Program)(s:Sem Value)(K:Value->Prop):Prop where
 out:Yb P s K
def Tt{K:Value->Prop}:wS P s K↔Yb P s K:=⟨wS.out,wS.mk⟩
structure pS(P:Program)(s:Sem Value)(w:World)(K:Value->Prop):Prop where
 out:uc P s w K
structure DS(P:Program)(s:Sem Value)(K:Value->Prop):Prop where
 out:wS P s K
def xOp(P:Program):Op->Bool
 | .build t _=>DU P t
 | .load t _=>DU P t
 | .lookup .. =>true
 | .convert s d _=>IY P s d
 |_=>false
def zy(P:Program)(ρ:Operand->Value):Op->Option (Sem Value)
 | .binOp op t x y _=>some (qE op t (Qk x||Qk y) (ρ x) (ρ y))
 | .unOp op _ x=>some (Op.unary op (ρ x))
 | .fieldAddr t x f=>some (Instr.fieldAt t (ρ x) f)
 | .field t x f=>some (Instr.field t (ρ x) f)
 | .indexAddr t x i=>some (Instr.indexAt t (ρ x) (ρ i))
 | .index t x i=>some (Instr.index t (ρ x) (ρ i))
 | .slice t x lo hi mx=>some (Instr.sliceAt t (ρ x) (lo.map ρ) (hi.map ρ) (mx.map ρ))
 | .sliceToArrayPointer t x=>some (Instr.arrayAt t (ρ x))
 | .extract t i=>some (Instr.extract (ρ t) i)
 | .build t parts=>match DU P t with
  |true=>some (rB t ⟨parts.toList.map λp=>(p.1,ρ p.2)⟩)
  |false=>some (Instr.build t ⟨parts.toList.map λp=>(p.1,ρ p.2)⟩)
 | .makeInterface t x=>some (Instr.makeInterface t (ρ x))
 |_=>none
def zJ(P:Program)(ρ:Operand->Value)(o:Oper):Option (Sem Value):=
 match o.op with
 | .load t x=>match DU P t with
  |true=>some (fH t (ρ x))
  |false=>some (Instr.loadAt t (ρ x))
 | .lookup t x i ok=>some (ji t (ρ x) (ρ i) ok)
 | .call ⟨.builtin .len,args,ts⟩=>some (Builtin.len_ ts o.type ⟨ov ρ args⟩)
 | .call ⟨.builtin .min,args,ts⟩=>some (Builtin.min_ ts o.type ⟨ov ρ args⟩)
 | .call ⟨.builtin .max,args,ts⟩=>some (Builtin.max_ ts o.type ⟨ov ρ args⟩)
 | .convert s d x=>match P.underlying d with
  |some (.slice _)=>none
  |_=>match IY P s d with
   |true=>some (uL s d (ρ x))
   |false=>some (convert s d (ρ x))
 |_=>none
def Tu:Op->Bool
 | .move _| .pick .. | .nilCheck _| .makeFunc .. =>true
 |_=>false
def AB(ρ:Operand->Value)(op:Op)(K:Value->Prop):Prop:=
 match op with
 | .move x=>K (ρ x)
 | .pick c x y=>Gz (ρ c) λb=>K (Uv b (ρ x) (ρ y))
 | .nilCheck x=>ez (ρ x) K
 | .makeFunc fn first captured=>K (.func fn ⟨ov ρ first⟩ ⟨ov ρ captured⟩)
 |_=>False
def Rz(P:Program)(o:Oper):Nat:=
 match Tu o.op with
 |true=>0
 |false=>
  match zy P (λ_=>undef) o.op with
  |some _=>1
  |none=>
   match zJ P (λ_=>undef) o with
   |some _=>2
   |none=>3
def Gc(o:Oper):List Nat:=(o.after.toList.filter λe=>Region.binds .any e).map (·.on)
def pu(ops:List Oper)(i:Nat):List Nat:=
 match ops[i]? with
 |some o=>Gc o
 |none=>[]
def ZJ(ops:List Oper):Nat->List Nat->List Nat->List Nat
 |0,_,acc=>acc
 |_+1,[],acc=>acc
 |f+1,x::r,acc=>
  match acc.contains x with
  |true=>ZJ ops f r acc
  |false=>ZJ ops f (pu ops x++r) (x::acc)
def DL(ops:List Oper)(j:Nat):List Nat:=ZJ ops 4000 (pu ops j) []
abbrev yf:=List (Nat×Sem Value×Value)
def CK(P:Program)(w:World):yf->Prop->Prop
 | [],R=>R
 |(_,s,v)::r,R=>s.run P w=.ok v w/\CK P w r R
def Mq(F:Nat->Prop):List Nat->Prop
 | []=>True
 | [j]=>F j
 |j::r=>F j/\Mq F r
def Ym(ops:List Oper)(done:List Nat)(i:Nat):Bool:= !done.contains i&& (pu ops i).all λd=>done.contains d
def Gs(ops:List Oper)(done:List Nat):List Nat:=(List.range ops.length).filter (Ym ops done)
def Tk(P:Program)(ops:List Oper)(i:Nat):Bool:=
 match ops[i]? with
 |some o=>Nat.blt (Rz P o) 3
 |none=>false
def BP(P:Program)(ops:List Oper):Nat->List Nat->yf->jg->World->(jg->World->Prop)->Prop
 |0,_,_,_,_,_=>False
 |fuel+1,done,pend,E,w,K=>
  match (Gs ops done).find? (Tk P ops)with
  |some i=>
   match ops[i]? with
   |none=>False
   |some o=>
    SH ops o E (λE=>
     match Rz P o with
     |0=>AB (ev E) o.op λv=>BP P ops fuel (i::done) pend (E.put o.dst v) w K
     |1=>match zy P (ev E) o.op with
      |some s=>match xOp P o.op with
       |true=>DS P s λv=>BP P ops fuel (i::done) pend (E.put o.dst v) w K
       |false=>wS P s λv=>BP P ops fuel (i::done) pend (E.put o.dst v) w K
      |none=>False
     |_=>match zJ P (ev E) o with
      |some s=>match xOp P o.op with
       |true=>pS P s w λv=>BP P ops fuel (i::done) ((i,s,v)::pend) (E.put o.dst v) w K
       |false=>uc P s w λv=>BP P ops fuel (i::done) ((i,s,v)::pend) (E.put o.dst v) w K
      |none=>False)
     (λE=>BP P ops fuel (i::done) pend (E.skip o.dst) w K)
  |none=>
   match Gs ops done with
   | []=>K E w
   |rs=>Mq (λj=>
    match ops[j]? with
    |none=>False
    |some o=>
     SH ops o E (λE=>Sy P (ev E) o w λv w' =>CK P w' (pend.filter λp=> !(DL ops j).contains p.1) (BP P ops fuel (j::done) (pend.filter λp=> !(DL ops j).contains p.1) (E.put o.dst v) w' K))
      (λE=>BP P ops fuel (j::done) (pend.filter λp=> !(DL ops j).contains p.1) (E.skip o.dst) w K)) rs
def uI(P:Program)(ops:List Oper):Bool:=
 (List.range ops.length).all λi=>match ops[i]? with
  |none=>false
  |some oi=>xY oi.op&& (!Nat.blt (Rz P oi) 3||((match oi.dst with|none=>true|some d=> !(oi.looksAt ops.toArray).contains d)&& (List.range ops.length).all λj=>Nat.beq i j||match ops[j]? with
   |none=>false
   |some oj=>
    (match oi.dst with
    |none=>true
    |some d=>oj.dst != some d&& (!(oj.looksAt ops.toArray).contains d||(DL ops j).contains i))&&
    (match oj.dst with
    |none=>true
    |some d=> !(oi.looksAt ops.toArray).contains d||(DL ops i).contains j||(DL ops j).contains i)))
def re(h:uI P ops=true){i:Nat}{o:Oper}(hi:ops[i]? =some o):xY o.op=true:=by
 unfold uI at h;have a:i<ops.length:=(cP.1 hi).1;have:=dF.1 h i (iQ.2 a);rw[hi]at this;simp only[cL]at this;exact this.1
def Do(h:uI P ops=true){i:Nat}{o:Oper}(hi:ops[i]? =some o)(e:Rz P o<3){d:Nat}(b:o.dst=some d):
  d ∉ o.looksAt ops.toArray:=by
 unfold uI at h;have a:i<ops.length:=(cP.1 hi).1;have:=dF.1 h i (iQ.2 a);rw[hi]at this;have c:Nat.blt (Rz P o) 3=true:=by simpa [oX]using e
 simp only[c,b,cL,mL,jz]at this;simpa using this.2.1
def uC(h:uI P ops=true){i j:Nat}{e k:Oper}(hi:ops[i]? =some e)(o:ops[j]? =some k)(s:Rz P e<3)(n:i≠j):
  (∀d,e.dst=some d->k.dst≠some d/\(d∈k.looksAt ops.toArray->i∈DL ops j))/\
  (∀d,k.dst=some d->d∈e.looksAt ops.toArray->j∈DL ops i\/i∈DL ops j):=by
 unfold uI at h;have m:i<ops.length:=(cP.1 hi).1;have f:j<ops.length:=(cP.1 o).1;have:=dF.1 h i (iQ.2 m);rw[hi]at this;have p:Nat.blt (Rz P e) 3=true:=by simpa [oX]using s
 simp only[p,cL,mL,jz]at this;have g:=dF.1 this.2.2 j (iQ.2 f)
 have b:Nat.beq i j=false:=by
  cases q:Nat.beq i j with
  |false=>rfl
  |true=>exact absurd (fZ q) n
 rw[o,b]at g;simp only[jz,cL]at g;refine⟨λd l=>?_,λd l r=>?_⟩
 ·have a:=g.1;rw[l]at a;simp only[cL,bne_iff_ne,ne_eq,rt]at a;refine⟨a.1,λr=>?_⟩;rcases a.2 with c|c
  ·grind
  ·simpa using c
 ·have a:=g.2;rw[l]at a;simp only[rt]at a;rcases a with(c|c)|c
  ·grind
  ·grind
  ·grind
def zh(ops:List Oper)(L:List Nat):Prop:=∀i∈L,∀d∈pu ops i,d∈L
def Uo(e:zh ops L):∀(f:Nat) (c acc:List Nat),(∀x∈c,x∈L)->(∀x∈acc,x∈L)->∀x∈ZJ ops f c acc,x∈L:=by
 intro f;induction f with
 |zero=>intro c acc _ d x b;exact d x b
 |succ f h=>
  intro c acc g d x b;cases c with
  |nil=>exact d x b
  |cons y r=>
   simp only[ZJ]at b;split at b
   ·grind
   ·refine h _ _ (λz a=>?_) (λz a=>?_) x b
    ·rcases dg.1 a with a|a
     ·exact e y (g y cw) z a
     ·grind
    ·rcases cH.1 a with rfl|a
     ·grind
     ·exact d z a
def Cj(b:zh ops L){j:Nat}(a:∀d∈pu ops j,d∈L):∀x∈DL ops j,x∈L:=
 Uo b 4000 _ _ a (λ_ h=>by cases h)
def zh.cons(c:zh ops L){j:Nat}(e:∀d∈pu ops j,d∈L):zh ops (j::L):=by
 intro i a d b;rcases cH.1 a with rfl|a
 ·grind
 ·exact cu _ (c i a d b)
def QJ:Ym ops done i=true↔i ∉ done/\∀d∈pu ops i,d∈done:=by
 simp[Ym]
def uq:i∈Gs ops done↔i<ops.length/\i ∉ done/\∀d∈pu ops i,d∈done:=by
 simp[Gs,cO,QJ]
def Ec(P:Program)(s:Sem Value)(w:World)(v:Value)(w' :World)(h:s.run P w=.ok v w'):(do pure (.value (<-s)):Sem Next).run P w=.ok (.value v) w' :=by
 simp[fE,h,Result.andThen]
def Gd{ρ:Operand->Value}{K:Value->Prop}(h:AB ρ o.op K):
  ∃v,(∀w,(execOp ρ o).run P w=.ok (.value v) w)/\K v:=by
 obtain⟨f,g,e,pos,d,guard⟩:=o;unfold AB at h;cases g<;>simp only at h<;>first|exact h.elim|skip
 case move x=>exact⟨_,λ_=>rfl,h⟩
 case pick c x y=>
  unfold Gz at h;split at h
  ·rename_i b j
   refine⟨_,λw=>?_,h⟩;simp only[execOp,j,asBool,fE,ly,Result.andThen,LX]
  ·exact h.elim
 case nilCheck x=>
  unfold ez at h;split at h
  ·rename_i a i
   exact⟨_,λw=>by simp only[execOp,i,ly],h⟩
  ·exact h.elim
 case makeFunc fn first captured=>
  rw[rG,rG]at h;exact⟨_,λ_=>rfl,h⟩
def Gm{ρ:Operand->Value}(h:zy P ρ o.op=some s):execOp ρ o=(do pure (.value (<-s))):=by
 obtain⟨c,d,b,pos,a,guard⟩:=o;unfold zy at h;cases d<;>simp only at h<;>first|(cases h;done)|(cases h;rfl)|skip
 case build t ps=>
  have h:Instr.build t ⟨ps.toList.map λp=>(p.1,ρ p.2)⟩=s:=by
   split at h
   ·exact dB h
   ·exact dB h
  subst h
  have e:(⟨ps.toList.map λp=>(p.1,ρ p.2)⟩:Array (Nat×Value))=ps.map λ(i,x)=>(i,ρ x):=by
   apply nQ;simp
  simp only[execOp];rw[e]
def FO{ρ:Operand->Value}(h:zJ P ρ o=some s):execOp ρ o=(do pure (.value (<-s))):=by
 obtain⟨j,k,i,pos,e,guard⟩:=o;unfold zJ at h;cases k<;>simp only at h<;>first|(cases h;done)|(cases h;rfl)|skip
 case load t x=>
  split at h
  ·cases h;rfl
  ·cases h;rfl
 case convert a b x=>
  split at h
  ·cases h
  ·split at h
   ·cases h;rfl
   ·cases h;rfl
 case call c=>
  obtain⟨d,g,ts⟩:=c;cases d with
  |value f=>cases h
  |invoke r m=>cases h
  |builtin b=>
   cases b<;>simp only at h<;>first|(cases h;done)|skip
   all_goals
    rw[rG]at h;cases h;rfl
def VQ(P:Program)(ops:List Oper)(E:jg)(w:World)(pend:yf)(i:Nat):Prop:=
 ∃o,ops[i]? =some o/\Rz P o<3/\
  ((nK ops E o=true/\∃v,(∀d,o.dst=some d->E.get d=v)/\(execOp (ev E) o).run P w=.ok (.value v) w/\
    ((∀w',(execOp (ev E) o).run P w' =.ok (.value v) w')\/∃s,(i,s,v)∈pend/\∀w',s.run P w' =.ok v w' ->(execOp (ev E) o).run P w' =.ok (.value v) w'))\/
  (nK ops E o=false/\∀d,o.dst=some d->E.get d=undef))
def BT(ops:List Oper)(L:List Nat):List Nat->Prop
 | []=>True
 |i::A=>(∀d∈pu ops i,d∈L\/d∈A)/\BT ops L A
def BT.mono{b:List Nat}(h:∀x∈L,x∈b):∀{A:List Nat},BT ops L A->BT ops b A
 | [],_=>trivial
 |_::_,a=>⟨λd c=>(a.1 d c).imp (h d) id,BT.mono h a.2⟩
def BT.erase{j:Nat}:∀{A:List Nat},BT ops L A->BT ops (j::L) (A.erase j)
 | [],_=>trivial
 |i::A,b=>by
  by_cases a:i=j
  ·subst a;rw[List.erase_cons_head];exact b.2.mono (λx f=>cu _ f)
  ·rw[List.erase_cons_tail (by simpa using a)];refine⟨λd c=>?_,b.2.erase⟩;rcases b.1 d c with h|h
   ·grind
   ·by_cases e:d=j
    ·grind
    ·grind
def BT.first:∀{A:List Nat},BT ops L A->A≠ []->∃i∈A,∀d∈pu ops i,d∈L
 | [],_,h=>absurd rfl h
 | [i],b,_=>⟨i,cw,λd a=>(b.1 d a).resolve_right (by simp)⟩
 |i::k::A,b,_=>by
  obtain⟨j,c,a⟩:=b.2.first (by simp);exact⟨j,cu _ c,a⟩
structure ER(P:Program)(ops:List Oper)(n:Nat)(L A:List Nat)(done:List Nat)(pend:yf)(E:jg)(a:Act)(w:World):Prop where
 doneIff:∀i,i∈done↔i∈L\/i∈A
 apart:∀i∈A,i ∉ L
 nodup:A.Nodup
 ord:BT ops L A
 closed:zh ops L
 size:a.tmps.size=n
 defs:a.defers=E.ds.map λd=>{target:=.collected d,args:=#[]}
 frame:∀t,(∀i∈A,∀o,ops[i]? =some o->o.dst≠some t)->a.tmps.getD t undef=E.get t
 val:∀i∈A,VQ P ops E w pend i
def ER.closedDone{A:List Nat}{e:yf}(h:ER P ops n L A done e E a w):zh ops done:=by
 have g:∀(A:List Nat),BT ops L A->∀i∈A,∀d∈pu ops i,d∈L\/d∈A:=by
  intro A;induction A with
  |nil=>intro _ i b;cases b
  |cons k A j=>
   intro f i b d c;rcases cH.1 b with rfl|b
   ·exact(f.1 d c).imp id (cu _)
   ·exact(j f.2 i b d c).imp id (cu _)
 intro i b d c;rcases(h.doneIff i).1 b with b|b
 ·exact(h.doneIff d).2 (.inl (h.closed i b d c))
 ·exact(h.doneIff d).2 (g A h.ord i b d c)
def H9{P:Program}(d:xY o.op=true)(h:∀t∈o.looksAt ops.toArray,E'.get t=E.get t):
  execOp (ev E') o=execOp (ev E) o/\nK ops E' o=nK ops E o:=by
 constructor
 ·refine execOp_congr o (λn b m=>by rw[m]at d;cases d) λx l=>?_;cases x with
  |tmp t=>
   apply h t;unfold Oper.looksAt;exact fk _ (pg.2 ⟨.tmp t,by simpa using l,rfl⟩)
  |const v=>rfl
  |global g=>rfl
  |func f=>rfl
 ·unfold nK Region.wanted;cases e:o.guard with
  |none=>rfl
  |some g=>
   obtain⟨j,c⟩:=g;simp only;congr 1;unfold Dq;cases k:ops[j]? with
   |none=>rfl
   |some i=>
    cases a:i.dst with
    |none=>simp[a]
    |some s=>
     simp only[a,Option.bind_some];rw[h s (by unfold Oper.looksAt;rw[e];simp[k,a])]
def VQ.env(l:uI P ops=true){E E' :jg}{w:World}{c a:yf}{i:Nat}(h:VQ P ops E w c i)
  (j:∀o,ops[i]? =some o->∀t,t∈o.looksAt ops.toArray\/o.dst=some t->E'.get t=E.get t)(hp:∀x∈c,x∈a):VQ P ops E' w a i:=by
 obtain⟨o,e,r,q⟩:=h;have m:=H9 (P:=P) (ops:=ops) (E:=E) (E' :=E') (re l e) λt n=>j o e t (.inl n);refine⟨o,e,r,?_⟩;rw[m.1,m.2];rcases q with⟨k,v,g,p,f⟩|⟨k,g⟩
 ·refine .inl ⟨k,v,λd b=>(j o e d (.inr b)).trans (g d b),p,?_⟩;rcases f with f|⟨s,u,f⟩
  ·exact .inl f
  ·grind
 ·exact .inr ⟨k,λd b=>(j o e d (.inr b)).trans (g d b)⟩
def VQ.world{b a:yf}(h:VQ P ops E w b i)
  (hp:∀s v,(i,s,v)∈b->(i,s,v)∈a/\(w' =w\/s.run P w' =.ok v w')):VQ P ops E w' a i:=by
 obtain⟨o,k,m,d⟩:=h;refine⟨o,k,m,?_⟩;rcases d with⟨j,v,g,l,c⟩|d
 ·rcases c with c|⟨s,f,c⟩
  ·grind
  ·refine .inl ⟨j,v,g,?_,.inr ⟨s,(hp s v f).1,c⟩⟩;rcases(hp s v f).2 with e|e
   ·rw[e];exact l
   ·exact c w' e
 ·exact .inr d
def Dr{d:Option Nat}(h:d≠some t):(E.put d v).get t=E.get t:=by
 cases d with
 |none=>rfl
 |some d=>rw[jg.get_put,aZ (λe=>h (by rw[e]))]
def Fq{d:Option Nat}(h:d≠some t):(E.skip d).get t=E.get t:=by
 cases d with
 |none=>rfl
 |some d=>rw[jg.get_skip,aZ (λe=>h (by rw[e]))]
def AY(E:jg)(d:Option Nat)(v:Value):(E.put d v).ds=E.ds:=by cases d<;>rfl
def Cn(E:jg)(d:Option Nat):(E.skip d).ds=E.ds:=by cases d<;>rfl
def up:(E.put (some d) v).get d=v:=by rw[jg.get_put,bZ rfl]
def yv:(E.skip (some d)).get d=undef:=by rw[jg.get_skip,bZ rfl]
section
variable{P:Program}{ops:List Oper}{n:Nat}{L A done:List Nat}{pend:yf}{E:jg}{a:Act}{w:World}
def ER.same(h:ER P ops n L A done pend E a w){E' :jg}(c:E.Same E')(b:uI P ops=true):ER P ops n L A done pend E' a w:=
 {h with
  defs:=by rw[c.2];exact h.defs
  frame:=λt d=>(h.frame t d).trans (c.1 t).symm
  val:=λi e=>(h.val i e).env b (λ_ _ t _=>c.1 t) (λ_ f=>f)}
def ER.look(h:ER P ops n L A done pend E a w)(g:uI P ops=true){j:Nat}{p:Oper}(k:ops[j]? =some p)(s:j ∉ L)(q:∀d∈pu ops j,d∈L):
  ∀t∈p.looksAt ops.toArray,a.tmps.getD t undef=E.get t:=by
 intro t l;refine h.frame t λi m r b c=>?_;obtain⟨u,f,o,_⟩:=h.val i m;rw[b]at f;cases f;by_cases e:i=j
 ·subst e;rw[k]at b;cases b;exact Do g k o c l
 ·have:=((uC g b k o e).1 t c).2 l;exact h.apart i m (Cj h.closed q i this)
def ER.ahead(h:ER P ops n L A done pend E a w)(j:uI P ops=true){i:Nat}{o:Oper}(hi:ops[i]? =some o)(F:Rz P o<3)(N:i∈Gs ops done){E' :jg}{b:yf}
  (D:(∀t,o.dst≠some t->E'.get t=E.get t)/\E'.ds=E.ds)(hp:∀x∈pend,x∈b)
  (Q:(nK ops E o=true/\∃v,(∀d,o.dst=some d->E'.get d=v)/\(execOp (ev E) o).run P w=.ok (.value v) w/\
    ((∀q,(execOp (ev E) o).run P q=.ok (.value v) q)\/∃s,(i,s,v)∈b/\∀q,s.run P q=.ok v q->(execOp (ev E) o).run P q=.ok (.value v) q))\/
   (nK ops E o=false/\∀d,o.dst=some d->E'.get d=undef)):
  ER P ops n L (i::A) (i::done) b E' a w:=by
 obtain⟨J,r,u⟩:=uq.1 N;have C:i ∉ A:=λM=>r ((h.doneIff i).2 (.inr M));have G:i ∉ L:=λK=>r ((h.doneIff i).2 (.inl K));refine⟨λk=>?_,λk c=>?_,dA.2 ⟨C,h.nodup⟩,⟨λd z=>(h.doneIff d).1 (u d z),h.ord⟩,h.closed,h.size,by rw[D.2];exact h.defs,λt l=>?_,λk c=>?_⟩
 ·simp only[cH,h.doneIff];constructor
  ·rintro(g|g|g)
   ·exact .inr (.inl g)
   ·exact .inl g
   ·exact .inr (.inr g)
  ·rintro(g|g|g)
   ·exact .inr (.inl g)
   ·exact .inl g
   ·exact .inr (.inr g)
 ·rcases cH.1 c with rfl|c
  ·exact G
  ·exact h.apart k c
 ·rw[h.frame t (λk c=>l k (cu _ c))];exact(D.1 t (l i cw o hi)).symm
 ·have y:∀t∈o.looksAt ops.toArray,E'.get t=E.get t:=λt l=>D.1 t λz=>Do j hi F z l;rcases cH.1 c with rfl|c
  ·have I:=H9 (P:=P) (re j hi) y;refine⟨o,hi,F,?_⟩;rw[I.1,I.2];exact Q
  ·refine(h.val k c).env j (λok f t l=>D.1 t λz=>?_) hp;have B:k≠i:=λe=>C (e▸c);obtain⟨O,p,R,_⟩:=h.val k c;rw[f]at p;cases p;rcases l with l|l
   ·have:=((uC j hi f F (kG B)).1 t z).2 l;have m:∀d∈pu ops k,d∈done:=λd H=>h.closedDone k ((h.doneIff k).2 (.inr c)) d H;exact r (Cj h.closedDone m i this)
   ·exact((uC j hi f F (kG B)).1 t z).1 l
def adv(m:uI P ops=true){K:jg->World->Prop}{j:Nat}(hj:j∈Gs ops L):∀(e:Nat) (A done:List Nat) (pend:yf) (E:jg),
  ER P ops n L A done pend E a w->BP P ops e done pend E w K->
  ∃(F:Nat) (Y f:List Nat) (r:yf) (E' :jg),ER P ops n L Y f r E' a w/\BP P ops F f r E' w K/\
   (j∈Y\/(j ∉ f/\(Gs ops f).find? (Tk P ops)=none)):=by
 intro e;induction e with
 |zero=>intro A done pend E _ h;exact h.elim
 |succ e T=>
  intro A done pend E S h;by_cases Z:j∈A
  ·grind
  ·cases R:(Gs ops done).find? (Tk P ops)with
   |none=>
    refine⟨e+1,A,done,pend,E,S,h,.inr ⟨λM=>?_,R⟩⟩;rcases(S.doneIff j).1 M with O|O
    ·exact(uq.1 hj).2.1 O
    ·exact Z O
   |some i=>
    have z:i∈Gs ops done:=fl R;have hp:=jw R;simp only[BP,R]at h;unfold Tk at hp;cases J:ops[i]? with
    |none=>rw[J]at h;exact h.elim
    |some o=>
     rw[J]at h hp;simp only at hp;have U:Rz P o<3:=by simpa [oX]using hp
     simp only at h;rcases AE h with⟨X,l,Q,b⟩|⟨X,l,Q,V⟩
     ·have q:=S.same Q m;have u:nK ops l o=true:=by rw[Q.wanted];exact X
      have G:∀v,(∀t,o.dst≠some t->(l.put o.dst v).get t=l.get t)/\(l.put o.dst v).ds=l.ds:=λv=>⟨λt W=>Dr W,AY _ _ _⟩
      have k:∀v d,o.dst=some d->(l.put o.dst v).get d=v:=λv d M=>by rw[M];exact up
      cases I:Rz P o with
      |zero=>
       simp only[I]at b;obtain⟨v,C,N⟩:=Gd (P:=P) b;exact T _ _ _ _ (q.ahead m J U z (G v) (λ_ y=>y) (.inl ⟨u,v,k v,C w,.inl C⟩)) N
      |succ c=>
       cases c with
       |zero=>
        simp only[I]at b;cases g:zy P (ev l) o.op with
        |none=>rw[g]at b;exact b.elim
        |some s=>
         rw[g]at b
         have H:wS P s λv=>BP P ops e (i::done) pend (l.put o.dst v) w K:=by
          simp only at b;split at b
          ·exact b.out
          ·exact b
         obtain⟨v,C,N⟩:=H.out;have y:=Gm g;have p:∀B,(execOp (ev l) o).run P B=.ok (.value v) B:=λB=>by rw[y];exact Ec P s B v B (C B)
         exact T _ _ _ _ (q.ahead m J U z (G v) (λ_ y=>y) (.inl ⟨u,v,k v,p w,.inl p⟩)) N
       |succ c=>
        simp only[I]at b;cases g:zJ P (ev l) o with
        |none=>rw[g]at b;exact b.elim
        |some s=>
         rw[g]at b
         have H:uc P s w λv=>BP P ops e (i::done) ((i,s,v)::pend) (l.put o.dst v) w K:=by
          simp only at b;split at b
          ·exact b.out
          ·exact b
         clear b;have b:=H;simp only[Am,Hl]at b;cases C:s.run P w with
         |halt x B=>rw[C]at b;exact b.elim
         |ok v B=>
          rw[C]at b;obtain⟨rfl,N⟩:=b;have y:=FO g;have p:∀D,s.run P D=.ok v D->(execOp (ev l) o).run P D=.ok (.value v) D:=λD O=>by rw[y];exact Ec P s D v D O
          exact T _ _ _ _ (q.ahead m J U z (G v) (λ_ y=>cu _ y)
           (.inl ⟨u,v,k v,p _ C,.inr ⟨s,cw,p⟩⟩)) N
     ·have q:=S.same Q m;have u:nK ops l o=false:=by rw[Q.wanted];exact X
      exact T _ _ _ _ (q.ahead m J U z ⟨λt W=>Fq W,Cn _ _⟩ (λ_ y=>y)
       (.inr ⟨u,λd M=>by rw[M];exact yv⟩)) V
def GD{F:Nat->Prop}:∀{l:List Nat},Mq F l->∀j∈l,F j
 | [],_,j,b=>by cases b
 | [k],h,j,b=>by rcases eK.1 b with rfl;exact h
 |k::m::l,h,j,b=>by
  rcases cH.1 b with rfl|b
  ·exact h.1
  ·exact GD h.2 j b
def Eh{P:Program}{w:World}{R:Prop}:∀{p:yf},CK P w p R->R/\∀i s v,(i,s,v)∈p->s.run P w=.ok v w
 | [],h=>⟨h,λ_ _ _ b=>by cases b⟩
 |(i,s,v)::r,h=>by
  obtain⟨g,f⟩:=Eh h.2;refine⟨g,λj c d b=>?_⟩;rcases cH.1 b with e|b
  ·cases e;exact h.1
  ·exact f j c d b
def ER.took(h:ER P ops n L A done pend E a w)(u:uI P ops=true){j:Nat}{o:Oper}(z:ops[j]? =some o)(s:j∈A)(e:∀d∈pu ops j,d∈L){v:Value}
  (x:∀d,o.dst=some d->E.get d=v)(i:yk n o.dst=true):ER P ops n (j::L) (A.erase j) done pend E (a.put o.dst v) w:=by
 have b:xm n (({l:=[],g:=λt=>a.tmps.getD t undef,ds:=E.ds}:jg).put o.dst v) (a.put o.dst v):=xm.put (E:=({l:=[],g:=λt=>a.tmps.getD t undef,ds:=E.ds}:jg)) ⟨h.size,λ_=>rfl,h.defs⟩ i v;refine⟨λk=>?_,λk f q=>?_,h.nodup.erase j,h.ord.erase,h.closed.cons e,b.size,by have:=b.defs;rwa[AY]at this,λt y=>?_,λk f=>h.val k (List.mem_of_mem_erase f)⟩
 ·rw[h.doneIff];by_cases m:k=j
  ·subst m;simp[s]
  ·grind
 ·have p:=List.mem_of_mem_erase f;rcases cH.1 q with rfl|q
  ·exact(h.nodup.not_mem_erase) f
  ·exact h.apart k p q
 ·rw[b.get];by_cases c:o.dst=some t
  ·rw[c,up,x t c]
  ·rw[Dr c];refine h.frame t λk f ok r=>?_;by_cases m:k=j
   ·grind
   ·grind
def ER.acted(h:ER P ops n L A done pend E a w)(D:uI P ops=true){j:Nat}{o:Oper}(S:ops[j]? =some o)(J:j ∉ done)(c:∀d∈pu ops j,d∈L){v:Value}{E' :jg}{w' :World}
  (M:(∀t,o.dst≠some t->E'.get t=E.get t)/\E'.ds=E.ds/\(∀d,o.dst=some d->E'.get d=v))(H:yk n o.dst=true)
  (hp:∀i s u,(i,s,u)∈(pend.filter λp=> !(DL ops j).contains p.1)->w' =w\/s.run P w' =.ok u w'):
  ER P ops n (j::L) A (j::done) (pend.filter λp=> !(DL ops j).contains p.1) E' (a.put o.dst v) w' :=by
 have G:j ∉ A:=λU=>J ((h.doneIff j).2 (.inr U));have f:xm n (({l:=[],g:=λt=>a.tmps.getD t undef,ds:=E.ds}:jg).put o.dst v) (a.put o.dst v):=xm.put (E:=({l:=[],g:=λt=>a.tmps.getD t undef,ds:=E.ds}:jg)) ⟨h.size,λ_=>rfl,h.defs⟩ H v;have r:∀i∈A,i ∉ DL ops j:=λi W C=>h.apart i W (Cj h.closed c i C);refine⟨λk=>?_,λk z N=>?_,h.nodup,h.ord.mono (λx O=>cu _ O),h.closed.cons c,f.size,by have:=f.defs;rw[AY]at this;rw[M.2.1];exact this,λt B=>?_,λk z=>?_⟩
 ·simp only[cH,h.doneIff,or_assoc]
 ·rcases cH.1 N with rfl|N
  ·exact G z
  ·exact h.apart k z N
 ·rw[f.get];by_cases q:o.dst=some t
  ·rw[q,up,M.2.2 t q]
  ·rw[Dr q,M.1 t q];exact h.frame t B
 ·have T:VQ P ops E' w pend k:=by
   refine(h.val k z).env D (λok b t B=>M.1 t λR=>?_) (λ_ O=>O);obtain⟨V,y,K,_⟩:=h.val k z;rw[b]at y;cases y;have I:k≠j:=λe=>G (e▸z);rcases B with B|B
   ·rcases(uC D b S K I).2 t R B with C|C
    ·have m:∀d∈pu ops k,d∈done:=λd Q=>h.closedDone k ((h.doneIff k).2 (.inr z)) d Q;exact J (Cj h.closedDone m j C)
    ·exact r k z C
   ·exact((uC D b S K I).1 t B).1 R
  refine T.world λs v C=>?_;have F:(k,s,v)∈pend.filter λp=> !(DL ops j).contains p.1:=cO.2 ⟨C,by grind⟩;exact⟨F,hp k s v F⟩
end
def AP{b:Array Bool}(p:∀i,i<ops.length->(b.getD i true=true↔i∈L))(q:b.size=ops.length)(j:∀i∈L,i<ops.length){i:Nat}:
  i∈Region.ready .any ops.toArray b↔i∈Gs ops L:=by
 rw[uq];unfold Region.ready;simp only[cO,iQ,eT,cL];constructor
 ·rintro⟨f,m,h⟩;refine⟨f,λs=>?_,λd c=>?_⟩
  ·grind
  ·have g:ops[i]? =some ops[i]:=cE f;simp only[eX,g,iD,fT]at h;simp only[pu,g,Gc,cF,cO]at c;obtain⟨e,⟨l,k⟩,rfl⟩:=c;have o:=(nh.1 h) e (by simpa using l);simp only[k,mL,jz]at o;by_cases r:e.on<ops.length
   ·grind
   ·grind
 ·rintro⟨f,m,h⟩;refine⟨f,?_,?_⟩
  ·grind
  ·have g:ops[i]? =some ops[i]:=cE f;simp only[eX,g,iD,fT];refine nh.2 λe l=>?_;cases k:Region.binds .any e with
   |false=>rfl
   |true=>
    have c:e.on∈L:=h e.on (by simp only[pu,g,Gc,cF,cO];exact⟨e,⟨by simpa using l,k⟩,rfl⟩);have:=(p _ (j _ c)).2 c;rw[jS]at this|-;rw[kz (by grind)]at this|-;simpa using this
def NC(hP:wV P=true){ro:Option Nat}{n:Nat}{ops:List Oper}(y:uI P ops=true)(hdst:(ops.all λo=>yk n o.dst)=true)
  {Q:Exit->Act->World->Prop}{K:jg->World->Prop}(hK:∀E a w,xm n E a->K E w->Q .normal a w):
  ∀(m:Nat) (L A done:List Nat) (pend:yf) (E:jg) (a:Act) (w:World) (l:Nat) (b:Array Bool),
   ER P ops n L A done pend E a w->(∀i,i<ops.length->(b.getD i true=true↔i∈L))->b.size=ops.length->(∀i∈L,i<ops.length)->
   ((List.range ops.length).filter λi=> !L.contains i).length<=m->BP P ops l done pend E w K->
   wpAnyIn (FR ro) 0 P .any ops.toArray Q m b a w:=by
 have F:∀(L A done:List Nat) (pend:yf) (E:jg) (a:Act) (w:World) (l:Nat),ER P ops n L A done pend E a w->Gs ops L=[]->BP P ops l done pend E w K->Q .normal a w:=by
  intro L A done pend E a w l N W h
  have hA:A=[]:=by
   apply dU;intro hne;obtain⟨i,B,M⟩:=N.ord.first hne;obtain⟨o,ho,_⟩:=N.val i B;have:i∈Gs ops L:=uq.2 ⟨(cP.1 ho).1,N.apart i B,M⟩;rw[W]at this;cases this
  subst hA
  have hrd:Gs ops done=[]:=by
   apply jx.2;intro i B;obtain⟨h1,h2,h3⟩:=uq.1 B;have e:∀k,k∈done↔k∈L:=λk=>by rw[N.doneIff];simp
   have:i∈Gs ops L:=uq.2 ⟨h1,λhm=>h2 ((e i).2 hm),λd M=>(e d).1 (h3 d M)⟩;rw[W]at this;cases this
  cases l with
  |zero=>exact h.elim
  |succ l=>
   simp only[BP,hrd,List.find?_nil]at h;exact hK E a w ⟨N.size,λt=>N.frame t (λi B=>by cases B),N.defs⟩ h
 intro m;induction m with
 |zero=>
  intro L A done pend E a w l b N hL I O hm h
  have W:Gs ops L=[]:=by
   apply jx.2;intro i B;obtain⟨h1,h2,_⟩:=uq.1 B;have:i∈(List.range ops.length).filter λi=> !L.contains i:=cO.2 ⟨iQ.2 h1,by simpa using h2⟩;have:=List.length_pos_of_mem this;omega
  refine⟨?_,F L A done pend E a w l N W h⟩;apply jx.2;intro i B;rw[AP hL I O,W]at B;cases B
 |succ m ih=>
  intro L A done pend E a w l b N hL I O hm h;refine⟨λW=>F L A done pend E a w l N ?_ h,λj hj=>?_⟩
  ·apply jx.2;intro i B;rw[<-AP hL I O,W]at B;cases B
  ·have hjr:j∈Gs ops L:=(AP hL I O).1 hj;obtain⟨C,hjL,J⟩:=uq.1 hjr;have z:ops[j]? =some ops[j]:=cE C;have V:yk n (ops[j]).dst=true:=dF.1 hdst _ (cC C)
   have U:∀i,i<ops.length->((b.setIfInBounds j true).getD i true=true↔i∈j::L):=by
    intro i B;by_cases Z:j=i
    ·subst Z;simp[I,B]
    ·have:(b.setIfInBounds j true).getD i true=b.getD i true:=by
      simp[Z]
     rw[this,hL i B];simp[kG Z]
   have G:(b.setIfInBounds j true).size=ops.length:=by simpa using I
   have H:∀i∈j::L,i<ops.length:=λi B=>by
    rcases cH.1 B with rfl|B
    ·exact C
    ·exact O i B
   have T:((List.range ops.length).filter λi=> !(j::L).contains i).length<=m:=by
    have e:((List.range ops.length).filter λi=> !(j::L).contains i)=(((List.range ops.length).filter λi=> !L.contains i).filter λi=> !(i==j)):=by
     rw[lF];apply gF;intro x _;simp only[pf,Bool.not_or]
    have hmem:j∈(List.range ops.length).filter λi=> !L.contains i:=cO.2 ⟨iQ.2 C,by simpa using hjL⟩
    have h5:(((List.range ops.length).filter λi=> !L.contains i).filter λi=> !(i==j)).length<((List.range ops.length).filter λi=> !L.contains i).length:=
     lu.2 ⟨j,hmem,by simp⟩
    rw[e];omega
   obtain⟨g,A',r,q,E',D,h',hcase⟩:=adv y hjr l A done pend E N h;have R:=D.look y z hjL J;have hex:=FQ (a:=a) (E:=E') (re y z) R;have hwa:=Dd (a:=a) (E:=E') (o:=ops[j]) R;unfold wpOpIn;simp only[eX,z];rw[hwa];rcases hcase with hA|⟨hnd,X⟩
   ·obtain⟨o,ho,hc,hv⟩:=D.val j hA;rw[z]at ho;cases ho;rcases hv with⟨hw,v,M,W,_⟩|⟨hw,M⟩
    ·rw[bZ hw];refine⟨λf _=>FR.fn ro f,?_⟩;rw[FR.round,Oper.semAt_eq ro a.eval _ (λc hc' =>by have:=re y z;rw[hc']at this;cases this),hex,W];exact ih _ _ _ _ _ _ _ g _ (D.took y z hA J M V) U G H T h'
    ·rw[aZ (by rw[hw];simp)];exact⟨λf _=>FR.fn ro f,ih _ _ _ _ _ _ _ g _ (D.took y z hA J M V) U G H T h'⟩
   ·cases g with
    |zero=>exact h'.elim
    |succ g=>
     have S:j∈Gs ops r:=uq.2 ⟨C,hnd,λd M=>(D.doneIff d).2 (.inl (J d M))⟩;simp only[BP,X]at h'
     have h2:∀rs,Gs ops r=rs->(match rs with| []=>K E' w|rs=>Mq (λj=>match ops[j]? with
       |none=>False
       |some o=>SH ops o E' (λE=>Sy P (ev E) o w λv w' =>CK P w' (q.filter λp=> !(DL ops j).contains p.1) (BP P ops g (j::r) (q.filter λp=> !(DL ops j).contains p.1) (E.put o.dst v) w' K))
        (λE=>BP P ops g (j::r) (q.filter λp=> !(DL ops j).contains p.1) (E.skip o.dst) w K)) rs)->
       SH ops ops[j] E' (λE=>Sy P (ev E) ops[j] w λv w' =>CK P w' (q.filter λp=> !(DL ops j).contains p.1) (BP P ops g (j::r) (q.filter λp=> !(DL ops j).contains p.1) (E.put (ops[j]).dst v) w' K))
        (λE=>BP P ops g (j::r) (q.filter λp=> !(DL ops j).contains p.1) (E.skip (ops[j]).dst) w K):=by
      intro rs hrs hh;cases rs with
      |nil=>rw[hrs]at S;cases S
      |cons k rs=>
       have:=GD hh j (hrs▸S);rw[z]at this;exact this
     have h3:=h2 _ rfl h';rcases AE h3 with⟨hw,E1,hs,hy⟩|⟨hw,E1,hs,hno⟩
     ·rw[bZ hw];have Y:=D.same hs y;refine Db (ρ:=ev E1) (re y z) (by rw[hex,hs.ev]) (DX hP (Lj E1) hy) λv w' hv=>?_;obtain⟨hv1,hv2⟩:=Eh hv;exact ih _ _ _ _ _ _ _ g _ (Y.acted y z hnd J ⟨λt ht=>Dr ht,AY _ _ _,λd M=>by rw[M];exact up⟩ V (λi s u hm=>.inr (hv2 i s u hm))) U G H T hv1
     ·rw[aZ (by rw[hw];simp)];have Y:=D.same hs y;refine⟨λf _=>FR.fn ro f,?_⟩;have hI2:=Y.acted (v:=undef) (w' :=w) (E' :=E1.skip (ops[j]).dst) y z hnd J ⟨λt ht=>Fq ht,Cn _ _,λd M=>by rw[M];exact yv⟩ V (λi s u hm=>.inl rfl);exact ih _ _ _ _ _ _ _ g _ hI2 U G H T hno
def kn:Code->List Nat
 | .region _ ops _=>ops.toList.filterMap (·.dst)
 | .seq a b=>kn a++kn b
 | .cond _ a b=>kn a++kn b
 | .block _ c=>kn c
 | .loop c=>kn c
 | .scope c=>kn c
 |_=>[]
def qm:Code->Bool
 | .seq a b=>qm a||qm b
 | .cond _ a b=>qm a||qm b
 | .block _ c=>qm c
 | .loop c=>qm c
 | .scope c=>qm c
 | .rangeFunc .. =>true
 |_=>false
def jG(ds:List Nat):List (Nat×Option Value)->List Nat->List Nat
 | [],acc=>acc
 |(k,_)::r,acc=>
  match ds.contains k&& !acc.contains k with
  |true=>jG ds r (k::acc)
  |false=>jG ds r acc
def Oj:List Nat->Type
 | []=>Unit
 |_::l=>Value×Oj l
def oC(E:jg):(l:List Nat)->Oj l
 | []=>()
 |t::l=>(E.get t,oC E l)
def uW:(l:List Nat)->Oj l->List (Nat×Option Value)->List (Nat×Option Value)
 | [],_,r=>r
 |t::l,s,r=>(t,some s.1)::uW l s.2 r
def Bm{α:Type}{β:Sort _}:List α->(List α->β)->β
 | [],k=>k []
 |x::xs,k=>Bm xs λl=>k (x::l)
def xe{α:Type}{β:Sort _}:∀(l:List α) (k:List α->β),Bm l k=k l
 | [],_=>rfl
 |x::a,k=>by rw[Bm,xe a]
def Pp:Operand->Option Nat
 | .tmp t=>some t
 |_=>none
def vi:Code->List Nat
 | .region _ ops _=>ops.toList.flatMap λo=>o.op.operands.toList.filterMap Pp
 | .seq a b=>vi a++vi b
 | .cond c a b=>(Pp c).toList++vi a++vi b
 | .block _ c=>vi c
 | .loop c=>vi c
 | .scope c=>vi c
 | .rangeFunc gv _ a b=>(Pp gv).toList++vi a++vi b
 |_=>[]
def AX(ds:List Nat):List Nat->List Nat->List Nat
 | [],acc=>acc
 |k::r,acc=>
  match ds.contains k&& !acc.contains k with
  |true=>AX ds r (k::acc)
  |false=>AX ds r acc
def L3(ds:List Nat)(l:List (Nat×Option Value))(us:List Nat):List Nat:=AX ds us (jG ds l [])
def zG:Nat->Nat
 |0=>0
 |1=>1
 |_=>2
def szC:Code->Nat
 | .region _ ops _=>ops.toList.length
 | .seq a b=>szC a+szC b
 | .cond _ _ _=>9
 | .block _ c=>szC c
 | .loop _=>9
 | .rangeFunc _ _ _ _=>9
 |_=>0
def aA9:Op->Bool
 | .alloc _=>true
 | .box _ _=>true
 | .buildSlice _ _ _=>true
 | .makeSlice _ _ _=>true
 | .makeMap _ _=>true
 | .call _=>true
 | .store _ _ _=>true
 | .mapUpdate _ _ _ _=>true
 | .insert _ _ _ _=>true
 | .mapEntry _ _ _=>true
 | .entryStore _ _ _ _=>true
 |_=>false
def To(ops:List Oper):Bool:=
 let es:=(List.range ops.length).filter λi=>match ops[i]? with|some o=>aA9 o.op|none=>false
 es.any λj=>Bm (DL ops j) λaj=>es.any λi=>Nat.blt i j&& !aj.contains i&& !(DL ops i).contains j
def Oe:Code->Option Nat->Nat
 | .region _ ops draw,i=>match i with
  |none=>match (ops.toList.any λo=>o.guard.isSome)||(draw&& To ops.toList)with|true=>2|false=>1
  |some _=>0
 | .seq a b,i=>
  let na:=match Nat.ble 2 (Oe a none)&& !qm a&& Nat.ble 3 (szC b)with|true=>1|false=>Oe a none
  match i with
  |none=>zG (na*Oe b none)
  |some i=>zG (Oe a (some i)+na*Oe b (some i))
 | .cond _ a b,i=>zG (Oe a i+Oe b i)
 | .block id c,i=>match i with
  |none=>zG (Oe c none+Oe c (some id))
  |some i=>Oe c (some i)
 | .loop c,i=>match i with
  |none=>0
  |some i=>Oe c (some i)
 | .exit id,i=>match i with
  |none=>0
  |some i=>match Nat.beq i id with|true=>1|false=>0
 | .ret,_=>0
 | .refuse _,_=>0
 | .goto _,_=>0
 |_,i=>match i with
  |none=>1
  |some _=>0
def H8(a b:Code):Bool:=Nat.ble 2 (Oe a none)&& !qm a&& Nat.ble 3 (szC b)
structure dK{S:Type}(A:(S->World->Prop)->Prop)(B:S->World->Prop):Prop where
 out:∃J:S->World->Prop,(∀s w,J s w->B s w)/\A J
def dK.on{A:(S->World->Prop)->Prop}{B:S->World->Prop}(h:A B):dK A B:=⟨⟨B,eQ,h⟩⟩
def dK.at{A:(S->World->Prop)->Prop}{B:S->World->Prop}(J:S->World->Prop)(h:A J)(a:∀s w,J s w->B s w):dK A B:=⟨⟨J,a,h⟩⟩
def sr(E:jg)(ds live:List Nat)(s:Oj live)(g:Nat->Value)(marks:List Nat):jg:=
 {l:=uW live s E.l,g:=λt=>match ds.contains t with|true=>g t|false=>E.g t,ds:=marks}
structure lG{S:Type}(body:S->World->(S->World->Prop)->Prop)(s:S)(w:World):Prop where
 out:∃(I:S->World->Prop) (m:S->World->Nat),I s w/\∀s w,I s w->body s w λs' w' =>I s' w' /\m s' w' <m s w
def RK(ro:Option Nat)(w:World)(K:Nat->List Nat->World->Prop):Prop:=
 match ro with
 |none=>K w.heap.size [w.heap.size] (w.alloc (.deferred (some [])))
 |some l0=>∃r,w.heap[l0]? =some (.loop r)/\K r.defers [] w
def wU(W:World)(l:Nat)(r:Loop):Prop:=W.heap[l]? =some (.loop r)
def P9(W:World)(l:Nat)(rec:Loop):Prop:=∃st pend,wU W l {rec with state:=st,pending:=pend}
def RFD(P:Program)(ro:Option Nat)(gv:Value)(w:World)(np:Nat)
  (rnd:Nat->List Value->World->(World->Prop)->(Code->World->Prop)->Prop)(after:List Nat->Option Code->World->Prop):Prop:=
 match gv with
 | .func (.func f) first captured=>
  RK ro w λD mk w1=>∀rec:Loop,rec.state=.ready->rec.pending=none->rec.defers=D->
   (∀(args:List Value) (W:World) (K:cG),args.length=np->P9 W w1.heap.size rec->
    rnd w1.heap.size args W
     (λW' =>∃r,wU W' w1.heap.size r/\K (.bool true) (W'.putObj w1.heap.size (.loop {r with state:=.ready,pending:=none})))
     (λc W' =>∃r,wU W' w1.heap.size r/\K (.bool false) (W'.putObj w1.heap.size (.loop {r with state:=.done,pending:=some c})))->
    Yl P w1.heap.size ⟨args⟩ W K)->
   Ca P f ⟨first.toList++(.func (.yield w1.heap.size) #[] #[]::captured.toList)⟩ (w1.alloc (.loop rec)) λ_ W=>
    ∃r,wU W w1.heap.size r/\r.state≠ .busy/\after mk r.pending (W.putObj w1.heap.size (.loop {r with state:=.exhausted}))
 |_=>False
structure yP(P:Program)(ro:Option Nat)(gv:Value)(w:World)(np:Nat)
  (rnd:Nat->List Value->World->(World->Prop)->(Code->World->Prop)->Prop)(after:List Nat->Option Code->World->Prop):Prop where
 out:RFD P ro gv w np rnd after
def wu{gv:Value}{c:Nat}
  {b:Nat->List Value->World->(World->Prop)->(Code->World->Prop)->Prop}{a:List Nat->Option Code->World->Prop}:yP P ro gv w c b a↔RFD P ro gv w c b a:=⟨yP.out,yP.mk⟩
def XC(l:Nat)(W:World)(K:World->Prop):Prop:=∃r,wU W l r/\r.state=.ready/\K (W.putObj l (.loop {r with state:=.busy}))
structure lC(l:Nat)(W:World)(K:World->Prop):Prop where
 out:XC l W K
def yC:List Nat->Nat->List Value->List (Nat×Option Value)->List (Nat×Option Value)
 |t::ts,i,vs,r=>yC ts (i+1) vs ((t,some (vs.getD i undef))::r)
 | [],_,_,r=>r
def iJ(N R:World->Prop)(X:Nat->World->Prop)(pend:Option Code)(W:World):Prop:=
 match pend with
 |none=>N W
 |some .ret=>R W
 |some (.exit id)=>X id W
 |_=>False
def vc(P:Program)(jn:Bool)(ro:Option Nat):Code->(Exit->jg->World->Prop)->jg->World->Prop
 | .skip,Q,E,w=>Q .normal E w
 | .region _ ops draw,Q,E,w=>
  match draw with
  |false=>AV P ops.toList ops.toList E w (Q .normal)
  |true=>BP P ops.toList (ops.toList.length+1) [] [] E w.drew (Q .normal)
 | .seq a b,Q,E,w=>
  match jn&& H8 a b with
  |false=>vc P jn ro a (λe E w=>match e with| .normal=>vc P jn ro b Q E w|e=>Q e E w) E w
  |true=>
   Bm E.l λel=>Bm (L3 (kn a) el (vi b)) λlive=>
   dK (S:=Oj live) (λJ=>vc P jn ro a (λe E' w' =>match e with| .normal=>J (oC E' live) w' |e=>Q e E' w') {E with l:=el} w)
    (λs w' =>∀g,vc P jn ro b Q (sr {E with l:=el} (kn a) live s g E.ds) w')
 | .cond c t f,Q,E,w=>Gz (ev E c) λb=>bc b (vc P jn ro t Q E w) (vc P jn ro f Q E w)
 | .block id c,Q,E,w=>vc P jn ro c (λe E w=>match e with| .exit i=>bc (Nat.beq i id) (Q .normal E w) (Q (.exit i) E w)|e=>Q e E w) E w
 | .loop c,Q,E,w=>
  Bm E.l λel=>Bm (jG (kn c) el []) λlive=>
  match qm c with
  |false=>lG (S:=Oj live) (λs w K=>∀g,vc P jn ro c (λe E' w' =>match e with| .normal=>K (oC E' live) w' |e=>Q e E' w')
    (sr {E with l:=el} (kn c) live s g E.ds) w) (oC {E with l:=el} live) w
  |true=>lG (S:=Oj live×List Nat) (λs w K=>∀g,vc P jn ro c (λe E' w' =>match e with| .normal=>K (oC E' live,E'.ds) w' |e=>Q e E' w')
    (sr {E with l:=el} (kn c) live s.1 g s.2) w) (oC {E with l:=el} live,E.ds) w
 | .rangeFunc gv ps assign body,Q,E,w=>
  yP P ro (ev E gv) w ps.toList.length
   (λl args W KN KJ=>vc P jn (some l) assign (λe E W=>match e with
     | .normal=>lC l W λW=>vc P jn (some l) body (λe _ W=>match e with
      | .normal=>KN W
      | .ret=>KJ .ret W
      | .exit id=>KJ (.exit id) W
      |_=>False) E W
     |_=>False) {E with l:=yC ps.toList 0 args E.l,ds:=[]} W)
   (λmk pend W=>iJ (λW=>Q .normal {E with ds:=mk++E.ds} W) (λW=>Q .ret {E with ds:=mk++E.ds} W)
    (λid W=>Q (.exit id) {E with ds:=mk++E.ds} W) pend W)
 | .exit id,Q,E,w=>Q (.exit id) E w
 | .ret,Q,E,w=>Q .ret E w
 | .label _,Q,E,w=>Q .normal E w
 | .scope c,Q,E,w=>match ro with
  |none=>vc P jn none c (λe E w=>match e with| .goto _=>False|e=>Q e E w) E w
  |some _=>False
 | .goto _,_,_,_=>False
 | .refuse _,_,_,_=>False
def IS(P:Program)(n:Nat):Code->Bool
 | .region _ ops draw=>(ops.toList.all λo=>yk n o.dst)&& (!draw||(P.follows .mixedOrders&& uI P ops.toList))
 | .seq a b=>IS P n a&& IS P n b
 | .cond _ a b=>IS P n a&& IS P n b
 | .block _ c=>IS P n c
 | .loop c=>IS P n c
 | .scope c=>IS P n c
 | .rangeFunc _ ps a b=>(ps.toList.all λd=>Nat.blt d n)&& IS P n a&& IS P n b
 |_=>true
def Ga{b:cG}(h:rv P s w K)(c:∀v a,K v a->b v a):rv P s w b:=by
 rw[FN]at*;unfold Yq at*;split at h
 ·exact c _ _ h
 ·exact h.elim
def Fj{s:Sem Unit}{K b:World->Prop}(h:ru P s w K)(c:∀a,K a->b a):ru P s w b:=by
 rw[Fo]at*;unfold XO at*;split at h
 ·exact c _ h
 ·exact h.elim
def Cd{s:Sem Next}{c:cG}(h:rn P s w K)(a:∀v b,K v b->c v b):rn P s w c:=by
 rw[sN]at*;unfold Ol at*;split at h
 ·exact a _ _ h
 ·exact a _ _ h
 ·exact Ca.mono h a
 ·exact h.mono λ_ _ ⟨v,e,d⟩=>⟨v,e,a _ _ d⟩
 ·exact h.elim
def Dl{K a:Bool->Prop}(h:Gz v K)(c:∀b,K b->a b):Gz v a:=by
 unfold Gz at*;split at h
 ·exact c _ h
 ·exact h.elim
def EA{K a:Value->Prop}(h:ez v K)(c:∀b,K b->a b):ez v a:=by
 unfold ez at*;split at h
 ·exact c _ h
 ·exact h.elim
def Jk{fv:Value}{a:List Value}{d:cG}(h:iv P fv a w K)(b:∀v c,K v c->d v c):iv P fv a w d:=by
 rw[oe]at*;unfold K5 at*;split at h
 ·exact Ca.mono h b
 ·exact Yl.mono h b
 ·exact h.elim
def Ij{K a:Value->Prop}(h:uc P s w K)(b:∀v,K v->a v):uc P s w a:=by
 rw[Am]at*;unfold Hl at*;split at h
 ·grind
 ·exact h.elim
def FF{b:cG}(h:rx P s w K)(c:∀v a,K v a->b v a):rx P s w b:=⟨Ga h.out c⟩
def G1{s:Sem Unit}{K b:World->Prop}(h:nj P s w K)(c:∀a,K a->b a):nj P s w b:=⟨Fj h.out c⟩
def Ov{K a:Value->Prop}(h:pS P s w K)(b:∀v,K v->a v):pS P s w a:=⟨Ij h.out b⟩
def Iv{K a:Value->Prop}(h:wS P s K)(b:∀v,K v->a v):wS P s a:=
 let⟨v,h1,h2⟩:=h.out
 ⟨⟨v,h1,b _ h2⟩⟩
def Mi{K a:Value->Prop}(h:DS P s K)(b:∀v,K v->a v):DS P s a:=⟨Iv h.out b⟩
def HI{ρ:Operand->Value}{a:Op}{K c:Value->Prop}(h:AB ρ a K)(b:∀v,K v->c v):AB ρ a c:=by
 unfold AB at*;cases a<;>simp only at h|- <;>first|exact b _ h|exact Dl h (λ_=>b _)|exact EA h b|exact h.elim
def IG{ρ:Operand->Value}{i:cG}(h:Sy P ρ o w K)(a:∀v g,K v g->i v g):Sy P ρ o w i:=by
 unfold Sy at*
 cases d:o.op<;>rw[d]at h<;>simp only at h|- <;>
  first
   |exact Ga h a
   |exact FF h a
   |exact Fj h (λ_=>a _ _)
   |exact G1 h (λ_=>a _ _)
   |exact a _ _ h
   |exact Dl h (λ_=>a _ _)
   |exact EA h (λ_=>a _ _)
   |exact Cd h a
   |exact h.elim
   |(split at h<;>first|exact Ga h a|exact FF h a|exact Fj h (λ_=>a _ _)|exact G1 h (λ_=>a _ _))
   |skip
 rename_i c
 cases e:c.callee with
 |value f=>
  rw[e]at h;cases f<;>simp only at h|- <;>first|exact Jk h a|(split at h<;>first|exact⟨Cd h.out a⟩|exact Ca.mono h a)
 |builtin b=>rw[e]at h;cases b<;>first|exact FF h a|exact Cd h a
 |invoke r m=>rw[e]at h;exact Cd h a
def Cy{f p a e:jg->Prop}(h:SH ops o E f p)
  (n:∀c,E.Same c->f c->a c)(i:∀c,E.Same c->p c->e c):SH ops o E a e:=by
 unfold SH at*;cases l:o.guard with
 |none=>rw[l]at h;exact n E (.refl E) h
 |some g=>
  obtain⟨j,d⟩:=g;rw[l]at h;simp only at h|-;cases q:Dq ops j with
  |none=>rw[q]at h;exact i E (.refl E) h
  |some s=>
   rw[q]at h;simp only at h|-;cases m:E.skipped s with
   |true=>rw[m]at h;exact i E (.refl E) h
   |false=>
    rw[m]at h;simp only[Gz]at h|-;cases k:E.get s<;>rw[k]at h<;>first|exact h.elim|skip
    rename_i b
    cases b<;>cases d<;>first|exact n _ (jg.same_put k) h|exact i _ (jg.same_put k) h
def Fr(ds:List Nat)(E E' :jg):Prop:=∀t,t ∉ ds->E'.get t=E.get t
def Fr.refl(ds:List Nat)(E:jg):Fr ds E E:=λ_ _=>rfl
def Fr.trans{E1 b:jg}(h:Fr ds E E1)(c:Fr ds E1 b):Fr ds E b:=λt a=>(c t a).trans (h t a)
def Fr.mono{a:List Nat}{E1:jg}(h:Fr ds E E1)(d:∀t∈ds,t∈a):Fr a E E1:=λt c=>h t λb=>c (d t b)
def Fr.put(E:jg){d:Option Nat}(v:Value)(a:∀t,d=some t->t∈ds):Fr ds E (E.put d v):=λt b=>Dr λe=>b (a t e)
def Fr.skip(E:jg){d:Option Nat}(a:∀t,d=some t->t∈ds):Fr ds E (E.skip d):=λt b=>Fq λe=>b (a t e)
def Fr.of_same(h:E.Same E'):Fr ds E E' :=λt _=>h.1 t
def Gw{K q:jg->World->Prop}:∀(l:List Oper),(∀o∈l,∀t,o.dst=some t->t∈ds)->∀(E:jg) (w:World),AV P ops l E w K->
  (∀a f,Fr ds E a->a.ds=E.ds->K a f->q a f)->AV P ops l E w q:=by
 intro l;induction l with
 |nil=>exact λ_ E w h d=>d E w (.refl _ _) rfl h
 |cons o rest p=>
  intro m E w h d;have k:=m o cw;have n:∀o∈rest,∀t,o.dst=some t->t∈ds:=λu r=>m u (cu _ r);refine Cy h (λj c s=>IG s λv f y=>p n _ _ y λa b i e g=>d a b ?_ ?_ g) (λj c x=>p n _ _ x λa b i e g=>d a b ?_ ?_ g)
  ·exact((Fr.of_same c).trans (Fr.put j v k)).trans i
  ·rw[e,AY,c.2]
  ·exact((Fr.of_same c).trans (Fr.skip j k)).trans i
  ·rw[e,Cn,c.2]
def D0{F G:Nat->Prop}(h:∀j,F j->G j):∀{l:List Nat},Mq F l->Mq G l
 | [],_=>trivial
 | [_],a=>h _ a
 |_::k::l,a=>⟨h _ a.1,D0 h (l:=k::l) a.2⟩
def Dt{P:Program}{w:World}{R b:Prop}(h:R->b):∀{p:yf},CK P w p R->CK P w p b
 | [],a=>h a
 |_::_,a=>⟨a.1,Dt h a.2⟩
def Rq{K s:jg->World->Prop}(B:∀o∈ops,∀t,o.dst=some t->t∈ds):∀(f:Nat) (done:List Nat) (m:yf) (E:jg) (w:World),BP P ops f done m E w K->
  (∀d k,Fr ds E d->d.ds=E.ds->K d k->s d k)->BP P ops f done m E w s:=by
 intro f;induction f with
 |zero=>intro _ _ _ _ h;exact h.elim
 |succ f q=>
  intro done m E w h x
  have b:∀(o:Oper) (v:Value) (c:jg),o∈ops->E.Same c->∀d k,Fr ds (c.put o.dst v) d->d.ds=(c.put o.dst v).ds->K d k->s d k:=by
   intro o v c p e d k z u y;exact x d k (((Fr.of_same e).trans (Fr.put c v (B o p))).trans z) (by rw[u,AY,e.2]) y
  have l:∀(o:Oper) (c:jg),o∈ops->E.Same c->∀d k,Fr ds (c.skip o.dst) d->d.ds=(c.skip o.dst).ds->K d k->s d k:=by
   intro o c p e d k z u y;exact x d k (((Fr.of_same e).trans (Fr.skip c (B o p))).trans z) (by rw[u,Cn,e.2]) y
  simp only[BP]at h|-;split at h
  ·rename_i i D
   split at h
   ·exact h.elim
   ·rename_i o p
    have a:o∈ops:=dL p;refine Cy h (λc e g=>?_) (λc e A=>q _ _ _ _ A (l o c a e));split at g
    ·exact HI g λv n=>q _ _ _ _ n (b o v c a e)
    ·split at g
     · (split at g<;>first|exact Iv g λv n=>q _ _ _ _ n (b o v c a e)|exact Mi g λv n=>q _ _ _ _ n (b o v c a e))
     ·exact g.elim
    ·split at g
     · (split at g<;>first|exact Ij g λv n=>q _ _ _ _ n (b o v c a e)|exact Ov g λv n=>q _ _ _ _ n (b o v c a e))
     ·exact g.elim
  ·split at h
   ·exact x E w (.refl _ _) rfl h
   ·refine D0 (λj r=>?_) h;cases p:ops[j]? with
    |none=>rw[p]at r;exact r.elim
    |some o=>
     rw[p]at r;have a:o∈ops:=dL p;exact Cy r (λc e g=>IG g λv k n=>Dt (λC=>q _ _ _ _ C (b o v c a e)) n) (λc e A=>q _ _ _ _ A (l o c a e))
def lG.mono{body a:S->World->(S->World->Prop)->Prop}{s:S}(h:lG body s w)
  (b:∀s w K,body s w K->a s w K):lG a s w:=
 let⟨I,m,h0,h1⟩:=h.out
 ⟨⟨I,m,h0,λs w c=>b _ _ _ (h1 s w c)⟩⟩
def rH{r:List (Nat×Option Value)}{t:Nat}:∀{l:List Nat} {s:Oj l},t ∉ l->jg.look (uW l s r) t=jg.look r t
 | [],_,_=>rfl
 |k::l,s,b=>by
  have a:Nat.beq k t=false:=by
   cases d:Nat.beq k t with
   |false=>rfl
   |true=>exact absurd (by rw[fZ d];exact cw) b
  simp only[uW,jg.look,a,cond_false];exact rH λc=>b (cu _ c)
def rY{r:List (Nat×Option Value)}{t:Nat}{E:jg}:∀{l:List Nat},t∈l->jg.look (uW l (oC E l) r) t=some (some (E.get t))
 |k::l,b=>by
  simp only[uW,oC,jg.look];cases a:Nat.beq k t with
  |true=>rw[fZ a];rfl
  |false=>
   simp only[cond_false];apply rY;rcases cH.1 b with e|e
   ·subst e;simp at a
   ·exact e
def wG{ds:List Nat}:∀{l:List (Nat×Option Value)} {acc:List Nat},(∀t∈acc,t∈ds)->∀t∈jG ds l acc,t∈ds
 | [],acc,b,t,a=>b t (by simpa [jG]using a)
 |(k,v)::r,acc,b,t,a=>by
  unfold jG at a;cases d:ds.contains k&& !acc.contains k with
  |true=>
   rw[d]at a;refine wG (λx c=>?_) t a;rcases cH.1 c with rfl|c
   ·grind
   ·exact b x c
  |false=>rw[d]at a;exact wG b t a
def wp{ds:List Nat}:∀{l:List (Nat×Option Value)} {acc:List Nat} {t:Nat},t∈acc->t∈jG ds l acc
 | [],acc,t,a=>by simpa [jG]using a
 |(k,v)::r,acc,t,a=>by
  unfold jG;cases ds.contains k&& !acc.contains k with
  |true=>exact wp (cu _ a)
  |false=>exact wp a
def uG{ds:List Nat}:∀{l:List (Nat×Option Value)} {acc:List Nat} {t:Nat},t∈ds->jg.look l t≠none->t∈jG ds l acc
 | [],_,_,_,h=>absurd rfl h
 |(k,v)::r,acc,t,a,h=>by
  unfold jG;cases b:Nat.beq k t with
  |true=>
   obtain rfl:=fZ b;have c:ds.contains k=true:=by simpa using a
   cases e:acc.contains k with
   |true=>
    simp only[c,mL,sj];exact wp (by simpa using e)
   |false=>
    simp only[c,Bool.not_false,Bool.and_true];exact wp cw
  |false=>
   have d:jg.look r t≠none:=by simpa [jg.look,b]using h
   cases ds.contains k&& !acc.contains k with
   |true=>exact uG a d
   |false=>exact uG a d
def CJ{ds:List Nat}:∀{l acc:List Nat},(∀t∈acc,t∈ds)->∀t∈AX ds l acc,t∈ds
 | [],acc,b,t,a=>b t (by simpa [AX]using a)
 |k::r,acc,b,t,a=>by
  unfold AX at a;cases d:ds.contains k&& !acc.contains k with
  |true=>
   rw[d]at a;refine CJ (λx c=>?_) t a;rcases cH.1 c with rfl|c
   ·grind
   ·exact b x c
  |false=>rw[d]at a;exact CJ b t a
def CO{ds:List Nat}:∀{l acc:List Nat} {t:Nat},t∈acc->t∈AX ds l acc
 | [],acc,t,a=>by simpa [AX]using a
 |k::r,acc,t,a=>by
  unfold AX;cases ds.contains k&& !acc.contains k with
  |true=>exact CO (cu _ a)
  |false=>exact CO a
def Eb{l:List (Nat×Option Value)}{a:List Nat}:∀t∈L3 ds l a,t∈ds:=CJ (wG (by simp))
def MK{l:List (Nat×Option Value)}{a:List Nat}(b:t∈ds)(h:jg.look l t≠none):t∈L3 ds l a:=CO (uG b h)
def E0{a:List Nat}{s:Oj a}(e:∀t∈a,t∈ds):Fr ds E (sr E ds a s g mk):=by
 intro t b;have d:t ∉ a:=λc=>b (e t c);have f:ds.contains t=false:=by simpa using b
 unfold jg.get sr;simp only[rH d,f]
def HC{a b:Code}(h:H8 a b=true):qm a=false:=by
 simp only[H8,cL,Bool.not_eq_true']at h;exact h.1.2
def we{s:Oj (jG ds E.l [])}:Fr ds E (sr E ds (jG ds E.l []) s g mk):=by
 intro t a;have c:t ∉ jG ds E.l []:=λb=>a (wG (by simp) t b);have d:ds.contains t=false:=by simpa using a
 unfold jg.get sr;simp only[rH c,d]
def Gk{jn:Bool}:∀(c:Code) (ro:Option Nat) (Q z:Exit->jg->World->Prop) (E:jg) (w:World),vc P jn ro c Q E w->
  (∀e u B,Fr (kn c) E u->(qm c=false->u.ds=E.ds)->Q e u B->z e u B)->vc P jn ro c z E w:=by
 intro c;induction c with
 |skip=>intro ro Q z E w h d;exact d _ _ _ (.refl _ _) (λ_=>rfl) h
 |region id X H=>
  intro ro Q z E w h d;have m:∀o∈X.toList,∀t,o.dst=some t->t∈kn (.region id X H):=λo ho t A=>pg.2 ⟨o,ho,A⟩;cases H with
  |false=>exact Gw _ m _ _ h λu B n L hK=>d _ _ _ n (λ_=>L) hK
  |true=>exact Rq m _ _ _ _ _ h λu B n L hK=>d _ _ _ n (λ_=>L) hK
 |seq a b V T=>
  intro ro Q z E w h d;simp only[vc]at h|-;cases Y:jn&& H8 a b with
  |true=>
   rw[Y]at h;simp only[xe]at h|-;obtain⟨J,hJ,hA⟩:=h.out;simp only[cL]at Y;have x:=HC Y.2;refine⟨⟨J,λs I hs g=>T ro _ _ _ I (hJ s I hs g) λe u B n m j=>d e u B (((E0 Eb).mono λt A=>fk _ A).trans (n.mono λt A=>gg _ A)) (λp=>m (by simp only[qm,kM]at p;exact p.2)) j,?_⟩⟩;refine V ro _ _ E w hA λe u B n m j=>?_;have k:Fr (kn (.seq a b)) E u:=n.mono λt A=>fk _ A;cases e with
   |normal=>exact j
   |exit id=>exact d _ _ _ k (λ_=>m x) j
   |goto id=>exact d _ _ _ k (λ_=>m x) j
   |ret=>exact d _ _ _ k (λ_=>m x) j
   |panic S=>exact d _ _ _ k (λ_=>m x) j
   |outgrown=>exact d _ _ _ k (λ_=>m x) j
  |false=>
  rw[Y]at h;refine V ro _ _ E w h λe E1 I hf1 hd1 j=>?_;have y:Fr (kn (.seq a b)) E E1:=hf1.mono λt A=>fk _ A;have C:qm (.seq a b)=false->E1.ds=E.ds:=λp=>hd1 (by simp only[qm,kM]at p;exact p.1);cases e with
  |normal=>
   refine T ro _ _ E1 I j λe E2 w2 hf2 hd2 Z=>d e E2 w2 (y.trans (hf2.mono λt A=>gg _ A)) (λp=>?_) Z;rw[hd2 (by simp only[qm,kM]at p;exact p.2),C p]
  |exit id=>exact d _ _ _ y C j
  |goto id=>exact d _ _ _ y C j
  |ret=>exact d _ _ _ y C j
  |panic S=>exact d _ _ _ y C j
  |outgrown=>exact d _ _ _ y C j
 |cond c t f iht ihf=>
  intro ro Q z E w h d;refine Dl h λb D=>?_;cases b with
  |true=>exact iht ro _ _ E w D λe u B n m j=>d e u B (n.mono λt A=>fk _ A) (λp=>m (by simp only[qm,kM]at p;exact p.1)) j
  |false=>exact ihf ro _ _ E w D λe u B n m j=>d e u B (n.mono λt A=>gg _ A) (λp=>m (by simp only[qm,kM]at p;exact p.2)) j
 |block id c O=>
  intro ro Q z E w h d;refine O ro _ _ E w h λe u B n m j=>?_;cases e with
  |exit i=>
   simp only at j|-;cases D:Nat.beq i id<;>rw[D]at j<;>exact d _ _ _ n m j
  |normal=>exact d _ _ _ n m j
  |goto id=>exact d _ _ _ n m j
  |ret=>exact d _ _ _ n m j
  |panic S=>exact d _ _ _ n m j
  |outgrown=>exact d _ _ _ n m j
 |loop c O=>
  intro ro Q z E w h d;simp only[vc,xe]at h|-;cases x:qm c with
  |false=>
   rw[x]at h;refine h.mono λs I K D g=>O ro _ _ _ I (D g) λe u B n m j=>?_;have k:Fr (kn (.loop c)) E u:=we.trans n;have q:qm (.loop c)=false->u.ds=E.ds:=λp=>m x;cases e with
   |normal=>exact j
   |exit id=>exact d _ _ _ k q j
   |goto id=>exact d _ _ _ k q j
   |ret=>exact d _ _ _ k q j
   |panic S=>exact d _ _ _ k q j
   |outgrown=>exact d _ _ _ k q j
  |true=>
   rw[x]at h;refine h.mono λs I K D g=>O ro _ _ _ I (D g) λe u B n m j=>?_;have k:Fr (kn (.loop c)) E u:=we.trans n;have q:qm (.loop c)=false->u.ds=E.ds:=λp=>by simp only[qm]at p;rw[x]at p;cases p
   cases e with
   |normal=>exact j
   |exit id=>exact d _ _ _ k q j
   |goto id=>exact d _ _ _ k q j
   |ret=>exact d _ _ _ k q j
   |panic S=>exact d _ _ _ k q j
   |outgrown=>exact d _ _ _ k q j
 |rangeFunc gv ps G U _ _=>
  intro ro Q z E w h d;simp only[vc,wu,RFD]at h|-;split at h
  ·rename_i f first R hgv
   unfold RK at h|-;have M:∀mk:List Nat,Fr (kn (.rangeFunc gv ps G U)) E {E with ds:=mk++E.ds}:=λmk t _=>rfl
   have key:∀(mk:List Nat) (F:Option Code) (W:World),
     iJ (λW=>Q .normal {E with ds:=mk++E.ds} W) (λW=>Q .ret {E with ds:=mk++E.ds} W) (λid W=>Q (.exit id) {E with ds:=mk++E.ds} W) F W->
     iJ (λW=>z .normal {E with ds:=mk++E.ds} W) (λW=>z .ret {E with ds:=mk++E.ds} W) (λid W=>z (.exit id) {E with ds:=mk++E.ds} W) F W:=by
    intro mk F W p;unfold iJ at*;split at p
    ·exact d _ _ _ (M mk) (λh=>by cases h) p
    ·exact d _ _ _ (M mk) (λh=>by cases h) p
    ·exact d _ _ _ (M mk) (λh=>by cases h) p
    ·exact p.elim
   cases ro with
   |none=>
    intro N h1 h2 h3 hy;apply(h N h1 h2 h3 hy).mono;rintro v W ⟨r,hr,D,ha⟩;exact⟨r,hr,D,key _ _ _ ha⟩
   |some l0=>
    obtain⟨r0,hr0,h⟩:=h;refine⟨r0,hr0,λN h1 h2 h3 hy=>?_⟩;apply(h N h1 h2 h3 hy).mono;rintro v W ⟨r,hr,D,ha⟩;exact⟨r,hr,D,key _ _ _ ha⟩
  ·exact h.elim
 |exit id=>intro ro Q z E w h d;exact d _ _ _ (.refl _ _) (λ_=>rfl) h
 |scope c O=>
  intro ro Q z E w h d;cases ro with
  |some l=>exact h.elim
  |none=>
   refine O none _ _ E w h λe u B n m j=>?_;cases e with
   |goto l=>exact j.elim
   |exit id=>exact d _ _ _ n m j
   |normal=>exact d _ _ _ n m j
   |ret=>exact d _ _ _ n m j
   |panic S=>exact d _ _ _ n m j
   |outgrown=>exact d _ _ _ n m j
 |label l=>intro ro Q z E w h d;exact d _ _ _ (.refl _ _) (λ_=>rfl) h
 |goto l=>intro ro Q z E w h d;exact h.elim
 |ret=>intro ro Q z E w h d;exact d _ _ _ (.refl _ _) (λ_=>rfl) h
 |refuse why=>intro ro Q z E w h d;exact h.elim
def tW{E E' :jg}(h:∀t,E'.get t=E.get t):∀l,oC E' l=oC E l
 | []=>rfl
 |t::l=>by
  simp only[oC,h t];rw[tW h l]
def EM:∀{l:List Nat} {s:Oj l} {r:List (Nat×Option Value)} {g:Nat->Value} {ds:List Nat},l.Nodup->oC {l:=uW l s r,g:=g,ds:=ds} l=s
 | [],_,_,_,_,_=>rfl
 |t::l,(v,s),r,g,ds,d=>by
  obtain⟨b,d⟩:=dA.1 d;simp only[oC];refine Prod.ext ?_ ?_
  ·simp[jg.get,uW,jg.look]
  ·simp only
   have e:∀a,t ∉ a->oC {l:=uW (t::l) (v,s) r,g:=g,ds:=ds} a=oC {l:=uW l s r,g:=g,ds:=ds} a:=by
    intro a;induction a with
    |nil=>intro _;rfl
    |cons k a j=>
     intro f
     have c:Nat.beq t k=false:=by
      cases h:Nat.beq t k with
      |false=>rfl
      |true=>exact absurd (by rw[fZ h];exact cw) f
     simp only[oC];rw[j λi=>f (cu _ i)];congr 1;simp[jg.get,uW,jg.look,c]
   rw[e l b];exact EM d
def wI{ds:List Nat}:∀{l:List (Nat×Option Value)} {acc:List Nat},acc.Nodup->(jG ds l acc).Nodup
 | [],acc,h=>by simpa [jG]using h
 |(k,v)::r,acc,h=>by
  unfold jG;cases a:ds.contains k&& !acc.contains k with
  |true=>
   simp only[cL]at a;exact wI (dA.2 ⟨by simpa using a.2,h⟩)
  |false=>exact wI h
def Bq{E1 e:jg}(i:Fr ds E e)(c:xm n e a)(h:e.ds=mk):
  xm n (sr E ds (jG ds E.l []) (oC e (jG ds E.l [])) (λt=>a.tmps.getD t undef) mk) a:=by
 refine⟨c.size,λt=>?_,by rw[c.defs,h];rfl⟩;by_cases d:t∈ds
 ·by_cases g:t∈jG ds E.l []
  ·unfold jg.get sr;simp only[rY g];exact c.get t
  ·have b:jg.look E.l t=none:=by
    apply dU;intro f;exact g (uG d f)
   unfold jg.get sr;have:ds.contains t=true:=by simpa using d
   simp only[rH g,b,this]
 ·rw[we t d,<-i t d];exact c.get t
def IX{h:jg}{b:List Nat}(d:∀t∈ds,jg.look E.l t≠none->t∈b)(e:∀t∈b,t∈ds)(l:Fr ds E h)(f:xm n h a)(k:h.ds=mk):
  xm n (sr E ds b (oC h b) (λt=>a.tmps.getD t undef) mk) a:=by
 refine⟨f.size,λt=>?_,by rw[f.defs,k];rfl⟩;by_cases g:t∈ds
 ·by_cases j:t∈b
  ·unfold jg.get sr;simp only[rY j];exact f.get t
  ·have c:jg.look E.l t=none:=by
    apply dU;intro i;exact j (d t g i)
   unfold jg.get sr;have:ds.contains t=true:=by simpa using g
   simp only[rH j,c,this]
 ·rw[E0 e t g,<-l t g];exact f.get t
def CA:∀t,(sr E ds (jG ds E.l []) (oC E (jG ds E.l [])) E.g E.ds).get t=E.get t:=by
 intro t;by_cases d:t∈ds
 ·by_cases c:t∈jG ds E.l []
  ·simp only[jg.get,sr,rY c]
  ·have a:jg.look E.l t=none:=by
    apply dU;intro b;exact c (uG d b)
   have:ds.contains t=true:=by simpa using d
   simp only[jg.get,sr,rH c,this,a]
 ·exact we t d
def BI{s:Oj (jG ds E.l [])}:oC (sr E ds (jG ds E.l []) s g mk) (jG ds E.l [])=s:=
 EM (wI nB)
def Yv(a:Act):jg:={l:=[],g:=λt=>a.tmps.getD t undef,ds:=a.defers.map λd=>match d.target with| .collected r=>r|_=>0}
def xm.actE(h:xm n E a):(∀t,(Vc.Yv a).get t=E.get t)/\(Vc.Yv a).ds=E.ds:=by
 refine⟨h.get,?_⟩;unfold Vc.Yv;simp only;rw[h.defs,dQ]
 conv=>rhs;rw[<-iP E.ds]
 exact dt λ_ _=>rfl
def BX(g:wV P=true){f:FuncId}{a:Array Value}{w w1:World}{K:cG}(h:Ca P f a w K):
  (callFunc f a).run P w1=.ok (.enter f a) w1:=by
 obtain⟨fn,e,i⟩:=h.bodied
 have d:(fn.name== "runtime.NumGoroutine")=false:=by
  have:=(nh.1 g) fn (Array.mem_of_getElem? e);simpa using this
 have b:¬fn.name= "runtime.NumGoroutine" :=by simpa using d
 have c:¬fn.body=none:=by grind
 unfold callFunc;simp[fE,Result.andThen,e,b,c]
def CS{n:Nat}:∀(f:List Nat) (i:Nat) (b:List Value) (E:jg) (c:Array Value),(f.all λd=>Nat.blt d n)=true->b.length=i+f.length->xm n E {tmps:=c,defers:=[]}->
  xm n {E with l:=yC f i b E.l} {tmps:=(f.zip (b.drop i)).foldl (λc (t,a)=>c.setIfInBounds t a) c,defers:=[]}
 | [],_,_,E,c,_,_,h=>by simpa [yC]using h
 |t::f,i,b,E,c,e,g,h=>by
  simp only[qq,cL]at e;simp only[dc]at g;have j:i<b.length:=qZ;have k:=fF j;have m:b.getD i undef=b[i]:=by simp[j]
  have o:xm n (E.put (some t) b[i]) (({tmps:=c,defers:=[]}:Act).put (some t) b[i]):=h.put (d:=some t) e.1 _;have:=CS f (i+1) b (E.put (some t) b[i]) (c.setIfInBounds t b[i]) e.2 qZ o;rw[k];simpa only[yC,jg.put,m,List.zip_cons_cons,ig]using this
def NX(d:Array Nat)(c:List Value)(b:Array Value):
  (d.zip ⟨c⟩).foldl (λb (t,a)=>b.setIfInBounds t a) b=(d.toList.zip c).foldl (λb (t,a)=>b.setIfInBounds t a) b:=by
 rw[<-Array.foldl_toList];simp
def yb{l0:Nat}{r:Loop}(h:w.heap[l0]? =some (.loop r))(fn:FuncId)(tmps:Array Value)(a:Array Tmp)(assign body:Code):
  (Instr.enterLoop fn tmps a assign body (some l0)).run P w=
   .ok (w.heap.size,[]) (w.alloc (.loop {state:=.ready,pending:=none,fn,tmps,params:=a,assign,body,defers:=r.defers})):=by
 unfold Instr.enterLoop;simp only[fE,run_getLoop h,Result.andThen,ly,run_newObj_alloc]
def PH{jn:Bool}(hP:wV P=true){n:Nat}:∀c B Q H E a w,
  IS P n c=true->xm n E a->(∀e E a w,xm n E a->Q e E w->H e a w)->vc P jn B c Q E w->c.wpIn (FR B) 0 P H a w:=by
 intro c;induction c with
 |skip=>intro B Q H E a w _ A p h;exact wpIn_skip (p _ _ _ _ A h)
 |region id R draw=>
  intro B Q H E a w q A p h;simp only[IS,cL]at q;cases draw with
  |false=>exact wpIn_region_list (Fi (ops:=R.toList) hP (p .normal) R.toList q.1 E a w A h)
  |true=>
   have V:=q.2;simp only[mL,jz,cL]at V;apply wpIn_region_any V.1
   have:=NC (ro:=B) (ops:=R.toList) hP V.2 q.1 (p .normal) R.size [] [] [] [] E a w.drew (R.toList.length+1) (Array.replicate R.size false)
    ⟨(λi=>by simp),(λi hi=>by cases hi),nB,trivial,(λi hi=>by cases hi),A.size,A.defs,(λt _=>A.get t),(λi hi=>by cases hi)⟩
    (λi hi=>by simp at hi;simp[hi]) (by simp) (by simp) (by grind) h
   simpa using this
 |seq x y ihx ihy=>
  intro B Q H E a w q A p h;simp only[IS,cL]at q;simp only[vc]at h;cases hj:jn&& H8 x y with
  |true=>
   rw[hj]at h;simp only[xe]at h;obtain⟨J,hJ,hA⟩:=h.out;simp only[cL]at hj;have hrf:=HC hj.2
   have hA' :=Gk x B _ (λe L T=>(match e with| .normal=>J (oC L (L3 (kn x) E.l (vi y))) T|e=>Q e L T)/\Fr (kn x) E L/\L.ds=E.ds) _ w hA
    (λe L T X hd o=>⟨by grind,X,hd hrf⟩)
   refine wpIn_seq (ihx B _ _ E a w q.1 A (λe E1 Y u k o=>?_) hA');obtain⟨o,X,hd⟩:=o;cases e with
   |normal=>exact ihy B Q H _ Y u q.2 (IX (λt ht hne=>MK ht hne) Eb X k hd) p (hJ _ _ o _)
   |exit id=>exact p _ _ _ _ k o
   |goto id=>exact p _ _ _ _ k o
   |ret=>exact p _ _ _ _ k o
   |panic ch=>exact p _ _ _ _ k o
   |outgrown=>exact p _ _ _ _ k o
  |false=>
  rw[hj]at h;refine wpIn_seq (ihx B _ _ E a w q.1 A (λe E1 Y u k o=>?_) h);cases e with
  |normal=>exact ihy B Q H E1 Y u q.2 k p o
  |exit id=>exact p _ _ _ _ k o
  |goto id=>exact p _ _ _ _ k o
  |ret=>exact p _ _ _ _ k o
  |panic ch=>exact p _ _ _ _ k o
  |outgrown=>exact p _ _ _ _ k o
 |cond c t f iht ihf=>
  intro B Q H E a w q A p h;simp only[IS,cL]at q;simp only[vc,Gz]at h;split at h
  ·rename_i b U
   have hb' :a.eval c=.bool b:=by rw[A.ev];exact U
   cases b with
   |true=>exact wpIn_cond hb' (iht B Q H E a w q.1 A p h)
   |false=>exact wpIn_cond hb' (ihf B Q H E a w q.2 A p h)
  ·exact h.elim
 |block id c ih=>
  intro B Q H E a w q A p h;refine wpIn_block (ih B _ _ E a w q A (λe E1 Y u k o=>?_) h);cases e with
  |exit i=>
   simp only at o;cases U:Nat.beq i id with
   |true=>
    rw[U]at o;simp only[bc]at o;simp only[Exit.inBlock,fZ U,fh];exact p _ _ _ _ k o
   |false=>
    rw[U]at o;have hne:¬i=id:=λe=>by subst e;simp at U
    simp only[Exit.inBlock,hne,eW];exact p _ _ _ _ k o
  |normal=>exact p _ _ _ _ k o
  |goto id=>exact p _ _ _ _ k o
  |ret=>exact p _ _ _ _ k o
  |panic ch=>exact p _ _ _ _ k o
  |outgrown=>exact p _ _ _ _ k o
 |loop c ih=>
  intro B Q H E a w q A p h;simp only[vc,xe]at h;cases hrf:qm c with
  |false=>
   rw[hrf]at h;obtain⟨I,m,h0,h1⟩:=h.out
   refine wpIn_loop (λa w=>∃s g,xm n (sr E (kn c) (jG (kn c) E.l []) s g E.ds) a/\I s w) (λa w=>m (oC (Yv a) (jG (kn c) E.l [])) w)
    ⟨_,E.g,A.of_get CA rfl,h0⟩ ?_
   rintro Y u ⟨s,g,k,hI⟩
   have U:=Gk c B _ (λe L T=>(match e with| .normal=>I (oC L (jG (kn c) E.l [])) T/\m (oC L (jG (kn c) E.l [])) T<m s u|e=>Q e L T)/\Fr (kn c) E L/\L.ds=E.ds) _ u (h1 s u hI g)
    (λe L T X hd o=>⟨by grind,we.trans X,hd hrf⟩)
   refine ih B _ _ _ Y u q k (λe E2 a2 w2 z o=>?_) U;obtain⟨o,X,hd⟩:=o;cases e with
   |normal=>
    refine⟨⟨_,_,Bq (E1:=E) X z hd,o.1⟩,?_⟩;rw[tW (z.actE.1),tW (k.actE.1),BI];exact o.2
   |exit id=>exact p _ _ _ _ z o
   |goto id=>exact p _ _ _ _ z o
   |ret=>exact p _ _ _ _ z o
   |panic ch=>exact p _ _ _ _ z o
   |outgrown=>exact p _ _ _ _ z o
  |true=>
   rw[hrf]at h;obtain⟨I,m,h0,h1⟩:=h.out
   refine wpIn_loop (λa w=>∃s g,xm n (sr E (kn c) (jG (kn c) E.l []) s.1 g s.2) a/\I s w) (λa w=>m (oC (Yv a) (jG (kn c) E.l []),(Yv a).ds) w)
    ⟨(_,E.ds),E.g,A.of_get CA rfl,h0⟩ ?_
   rintro Y u ⟨s,g,k,hI⟩
   have U:=Gk c B _ (λe L T=>(match e with| .normal=>I (oC L (jG (kn c) E.l []),L.ds) T/\m (oC L (jG (kn c) E.l []),L.ds) T<m s u|e=>Q e L T)/\Fr (kn c) E L) _ u (h1 s u hI g)
    (λe L T X hd o=>⟨by grind,we.trans X⟩)
   refine ih B _ _ _ Y u q k (λe E2 a2 w2 z o=>?_) U;obtain⟨o,X⟩:=o;cases e with
   |normal=>
    refine⟨⟨(_,E2.ds),_,Bq (E1:=E) X z rfl,o.1⟩,?_⟩;rw[tW (z.actE.1),tW (k.actE.1),BI,z.actE.2,k.actE.2];exact o.2
   |exit id=>exact p _ _ _ _ z o
   |goto id=>exact p _ _ _ _ z o
   |ret=>exact p _ _ _ _ z o
   |panic ch=>exact p _ _ _ _ z o
   |outgrown=>exact p _ _ _ _ z o
 |rangeFunc gv ps assign body iha ihb=>
  intro B Q H E a w q A p h;simp only[IS,cL]at q;obtain⟨⟨hps,hoka⟩,hokb⟩:=q;simp only[vc,wu,RFD]at h;split at h
  ·rename_i f first j hgv
   have hgv' :a.eval gv=.func (.func f) first j:=by rw[A.ev];exact hgv
   have main:∀(u:World) (D:Nat) (mk:List Nat) (fn:FuncId),
     (∀rec:Loop,rec.state=.ready->rec.pending=none->rec.defers=D->
      (∀(C:List Value) (W:World) (K:cG),C.length=ps.toList.length->P9 W u.heap.size rec->
       vc P jn (some u.heap.size) assign (λe E W=>match e with
        | .normal=>lC u.heap.size W λW=>vc P jn (some u.heap.size) body (λe _ W=>match e with
         | .normal=>∃r,wU W u.heap.size r/\K (.bool true) (W.putObj u.heap.size (.loop {r with state:=.ready,pending:=none}))
         | .ret=>∃r,wU W u.heap.size r/\K (.bool false) (W.putObj u.heap.size (.loop {r with state:=.done,pending:=some .ret}))
         | .exit id=>∃r,wU W u.heap.size r/\K (.bool false) (W.putObj u.heap.size (.loop {r with state:=.done,pending:=some (.exit id)}))
         |_=>False) E W
        |_=>False) {E with l:=yC ps.toList 0 C E.l,ds:=[]} W->
       Yl P u.heap.size ⟨C⟩ W K)->
      Ca P f ⟨first.toList++(.func (.yield u.heap.size) #[] #[]::j.toList)⟩ (u.alloc (.loop rec)) λ_ W=>
       ∃r,wU W u.heap.size r/\r.state≠ .busy/\iJ (λW=>Q .normal {E with ds:=mk++E.ds} W) (λW=>Q .ret {E with ds:=mk++E.ds} W)
        (λid W=>Q (.exit id) {E with ds:=mk++E.ds} W) r.pending (W.putObj u.heap.size (.loop {r with state:=.exhausted})))->
     let rc:Loop:={state:=.ready,pending:=none,fn,tmps:=a.tmps,params:=ps,assign,body,defers:=D}
     let a' :Act:={a with defers:=(mk.map λd=>{target:=.collected d,args:=#[]})++a.defers}
     CallsIn (FR B) 0 P f ⟨first.toList++(.func (.yield u.heap.size) #[] #[]::j.toList)⟩ (u.alloc (.loop rc)) (rangePost (FR B) 0 P u.heap.size H a')/\
      ∀w2,(callFunc f ⟨first.toList++(.func (.yield u.heap.size) #[] #[]::j.toList)⟩).run P w2=.ok (.enter f ⟨first.toList++(.func (.yield u.heap.size) #[] #[]::j.toList)⟩) w2:=by
    intro u D mk fn hh rc a'
    have hca:=hh rc rfl rfl rfl (λC W K hlen hrec hrnd=>by
     obtain⟨st,pend,hat⟩:=hrec;refine⟨_,_,_,_,run_yield hat (by simpa using hlen),?_⟩;apply roundIn_of_wpIn (F:=Fence.wide) trivial
     have hrel:xm n {E with l:=yC ps.toList 0 C E.l,ds:=[]} {tmps:=(ps.zip ⟨C⟩).foldl (λO (t,a)=>O.setIfInBounds t a) a.tmps,defers:=[]}:=by
      rw[NX];exact CS ps.toList 0 C {E with ds:=[]} a.tmps hps (by simpa using hlen) ⟨A.size,A.get,rfl⟩
     refine iha (some u.heap.size) _ _ _ _ W hoka hrel (λe E1 Y W1 k o=>?_) hrnd;cases e with
     |normal=>
      obtain⟨r,hra,hst,hbody⟩:=o.out;refine⟨_,run_beginRound hra hst,?_⟩;refine ihb (some u.heap.size) _ _ E1 Y _ hokb k (λe E2 a2 W2 z S=>?_) hbody;cases e with
      |normal=>
       obtain⟨r2,N,hK⟩:=S;exact⟨_,_,run_endRound none N,_,rfl,hK⟩
      |ret=>
       obtain⟨r2,N,hK⟩:=S;exact⟨_,_,run_endRound _ N,_,rfl,hK⟩
      |exit id=>
       obtain⟨r2,N,hK⟩:=S;exact⟨_,_,run_endRound _ N,_,rfl,hK⟩
      |goto id=>exact S.elim
      |panic ch=>exact S.elim
      |outgrown=>exact S.elim
     |exit id=>exact o.elim
     |goto id=>exact o.elim
     |ret=>exact o.elim
     |panic ch=>exact o.elim
     |outgrown=>exact o.elim)
    refine⟨FR.calls (nM hca.out ?_),λw2=>BX hP hca⟩;rintro e W ⟨v,rfl,r,hra,U,M⟩;refine⟨_,_,run_endLoop hra U,?_⟩;have hr' :xm n {E with ds:=mk++E.ds} a' :=⟨A.size,A.get,by simp only[a',A.defs,dy]⟩
    generalize W.putObj u.heap.size (.loop {r with state:=.exhausted})=W4 at M|-;unfold iJ at M;split at M
    ·grind
    ·rename_i hp;rw[hp];exact wpIn_ret (p _ _ _ _ hr' M)
    ·rename_i hp;rw[hp];exact wpIn_exit (p _ _ _ _ hr' M)
    ·exact M.elim
   refine wpIn_rangeFunc λfn _=>?_
   have hinv:∀l,(do let d<-resolve a.eval (rangeCall gv l) 0;invoke d.target d.args:Sem Next)=callFunc f ⟨first.toList++(.func (.yield l) #[] #[]::j.toList)⟩:=by
    intro l;have e1:resolve a.eval (rangeCall gv l) 0=Deferred.ofValue (a.eval gv) #[.func (.yield l) #[] #[]]:=by simp[resolve,Act.eval]
    rw[e1,hgv'];have e2:(do let d<-Deferred.ofValue (.func (.func f) first j) #[.func (.yield l) #[] #[]];invoke d.target d.args:Sem Next)=callFunc f (first++ #[.func (.yield l) #[] #[]]++j):=rfl;rw[e2];congr 1;apply nQ;simp
   have hres:∀l u,(resolve a.eval (rangeCall gv l) 0).run P u=.ok {target:=.fn (.func f) j,args:=first++ #[.func (.yield l) #[] #[]]} u:=by
    intro l u;have e1:resolve a.eval (rangeCall gv l) 0=Deferred.ofValue (a.eval gv) #[.func (.yield l) #[] #[]]:=by simp[resolve,Act.eval]
    rw[e1,hgv'];rfl
   have hinv2:∀l,(invoke (.fn (.func f) j) (first++ #[.func (.yield l) #[] #[]]):Sem Next)=callFunc f ⟨first.toList++(.func (.yield l) #[] #[]::j.toList)⟩:=by
    intro l;have e2:(invoke (.fn (.func f) j) (first++ #[.func (.yield l) #[] #[]]):Sem Next)=callFunc f (first++ #[.func (.yield l) #[] #[]]++j):=rfl;rw[e2];congr 1;apply nQ;simp
   cases B with
   |none=>
    have hm:=main (w.alloc (.deferred (some []))) w.heap.size [w.heap.size] fn h;obtain⟨W1,Z⟩:=dW ((w.alloc (.deferred (some []))).alloc (.loop {state:=.ready,pending:=none,fn,tmps:=a.tmps,params:=ps,assign,body,defers:=w.heap.size}));have hm1:=hm.1;have hm2:=hm.2 W1;rw[eG]at hm1 hm2;refine⟨w.heap.size+1,[{target:=.collected w.heap.size,args:=#[]}],W1,_,W1,f,⟨first.toList++(.func (.yield (w.heap.size+1)) #[] #[]::j.toList)⟩,W1,?_,hres _ _,λ_ _=>FR.fn none _,?_,(λhh=>by rw[FR.depth]at hh;cases hh),?_⟩
    ·rw[Z];exact run_enterLoop_outer fn a.tmps ps assign body
    ·rw[hinv2];exact hm2
    ·rw[Z];exact hm1
   |some l0=>
    obtain⟨r0,hr0,h⟩:=h;have hm:=main w r0.defers [] fn h;obtain⟨W1,Z⟩:=dW (w.alloc (.loop {state:=.ready,pending:=none,fn,tmps:=a.tmps,params:=ps,assign,body,defers:=r0.defers}));refine⟨w.heap.size,[],W1,_,W1,f,⟨first.toList++(.func (.yield w.heap.size) #[] #[]::j.toList)⟩,W1,?_,hres _ _,λ_ _=>FR.fn (some l0) _,?_,(λhh=>by rw[FR.depth]at hh;cases hh),?_⟩
    ·rw[FR.round,Z];exact yb hr0 fn a.tmps ps assign body
    ·grind
    ·rw[Z];exact hm.1
  ·exact h.elim
 |exit id=>intro B Q H E a w _ A p h;exact wpIn_exit (p _ _ _ _ A h)
 |scope c ih=>
  intro B Q H E a w q A p h;cases B with
  |some l=>exact h.elim
  |none=>
   refine wpIn_wide.2 (wp_scope_straight ((wpIn_wide (n:=0)).1 ?_));refine ih none (λe E w=>match e with| .goto _=>False|e=>Q e E w) (Exit.noGoto H) E a w q A (λe E1 Y u k o=>?_) h;cases e with
   |goto l=>exact o.elim
   |exit id=>exact p _ _ _ _ k o
   |normal=>exact p _ _ _ _ k o
   |ret=>exact p _ _ _ _ k o
   |panic ch=>exact p _ _ _ _ k o
   |outgrown=>exact p _ _ _ _ k o
 |label l=>intro B Q H E a w _ A p h;exact wpIn_label (p _ _ _ _ A h)
 |goto l=>intro B Q H E a w _ A p h;exact h.elim
 |ret=>intro B Q H E a w _ A p h;exact wpIn_ret (p _ _ _ _ A h)
 |refuse why=>intro B Q H E a w _ A p h;exact h.elim
def lj:List Nat->World->(World->Prop)->Prop
 | [],w,K=>K w
 |d::ds,w,K=>w.heap[d]? =some (.deferred (some []))/\lj ds (w.putObj d (.deferred none)) K
def Fh(P:Program):List ResultVar->jg->World->(List Value->Prop)->Prop
 | [],_,_,K=>K []
 | .tmp t::r,E,w,K=>Fh P r E w λvs=>K (E.get t::vs)
 | .cell a t::r,E,w,K=>match DU P t with
  |true=>pS P (fH t (E.get a)) w λv=>Fh P r E w λvs=>K (v::vs)
  |false=>uc P (Instr.loadAt t (E.get a)) w λv=>Fh P r E w λvs=>K (v::vs)
def Hj:List Value->Value
 | [v]=>v
 |vs=>.tuple ⟨vs⟩
def EB:Nat->List Value->List (Nat×Option Value)
 |_,[]=>[]
 |i,v::r=>(i,some v)::EB (i+1) r
def O4(P:Program)(jn:Bool)(fn:Func)(args:List Value)(w:World)(K:cG):Prop:=
 match fn.body with
 |none=>False
 |some c=>vc P jn none c (λe E w=>match e with
   | .normal=>lj E.ds w λw=>Fh P fn.results.toList E w λvs=>K (Hj vs) w
   | .ret=>lj E.ds w λw=>Fh P fn.results.toList E w λvs=>K (Hj vs) w
   |_=>False) {l:=EB 0 args,g:=λ_=>undef,ds:=[]} w
def VH(P:Program)(fn:Func)(args:List Value)(w:World)(K:cG):Prop:=O4 P true fn args w K
def okF(P:Program)(fn:Func)(k:Nat):Bool:=
 Nat.ble k fn.ntmps&& match fn.body with
 |none=>false
 |some c=>IS P fn.ntmps c
def DG(t:Nat):∀l i,jg.look (EB i l) t=if i<=t then(l[t - i]?).map some else none
 | [],i=>by simp[EB,jg.look]
 |v::r,i=>by
  simp only[EB,jg.look];cases a:Nat.beq i t with
  |true=>have:=fZ a;subst this;simp
  |false=>
   have b:i≠t:=λe=>by subst e;simp at a
   simp only[cond_false];rw[DG t r (i+1)];by_cases h:i+1<=t
   ·grind
   ·grind
def Ms(a:List Value)(n:Nat)(h:a.length<=n):
  xm n {l:=EB 0 a,g:=λ_=>undef,ds:=[]} {tmps:=(⟨a⟩:Array Value)++Array.replicate (n - a.length) undef,defers:=[]}:=by
 refine⟨by simp;omega,λt=>?_,rfl⟩;unfold jg.get;rw[DG];simp only[nY,fh,lz];by_cases b:t<a.length
 ·rw[jS,Array.getElem?_append_left (by simpa using b)];simp[cE b]
 ·rw[ky qZ];rw[jS,Array.getElem?_append_right (by grind)];simp only[Option.map_none];cases c:(Array.replicate (n - a.length) undef)[t - (⟨a⟩:Array Value).size]? with
  |none=>rfl
  |some v=>
   have:=(js.1 c).2;simp at this;simp[this]
def DC(tmps:Array Value):ResultVar->Sem Value
 | .tmp t=>pure (tmps.getD t undef)
 | .cell a t=>do loadVar t (<-asAddr (tmps.getD a undef))
def Dw{P:Program}{b:Array Value}{E:jg}{w:World}(e:∀t,b.getD t undef=E.get t):∀l K,Fh P l E w K->
  ∃c,(l.mapM (DC b)).run P w=.ok c w/\K c
 | [],K,h=>⟨[],rfl,h⟩
 | .tmp t::r,K,h=>by
  obtain⟨c,g,f⟩:=Dw e r _ h;refine⟨_,?_,f⟩;have i:(DC b (.tmp t)).run P w=.ok (E.get t) w:=by rw[<-e];rfl
  simp only[sh,fE,ly,Result.andThen,i,g]
 | .cell a t::r,K,h=>by
  have h:uc P (Instr.loadAt t (E.get a)) w λv=>Fh P r E w λc=>K (v::c):=by
   simp only[Fh]at h;cases k:DU P t with
   |true=>rw[k]at h;exact h.out
   |false=>rw[k]at h;exact h
  simp only[Am,Hl]at h;split at h
  ·rename_i v j d
   obtain⟨rfl,h⟩:=h;obtain⟨c,g,f⟩:=Dw e r _ h;refine⟨_,?_,f⟩
   have i:(DC b (.cell a t)).run P j=.ok v j:=by
    have m:DC b (.cell a t)=(do loadVar t (<-asAddr (b.getD a undef))):=rfl;rw[m,e];unfold Instr.loadAt at d;cases n:E.get a<;>rw[n]at d<;>first|(simp[Instr.sureAddr,stuck,fE,Sem.run,Result.andThen]at d;done)|skip
    rename_i p
    cases p with
    |none=>simp[Instr.sureAddr,stuck,fE,Sem.run,Result.andThen]at d
    |some p=>
     simp only[Instr.sureAddr,asAddr,fE,ly,Result.andThen]at d|-;exact d
   simp only[sh,fE,ly,Result.andThen,i,g]
  ·exact h.elim
def Kf(fn:Func)(a:Array Value):results fn a=(do
  let b<-fn.results.mapM (DC a)
  pure (if h:b.size=1 then b[0]else .tuple b)):=by
 unfold results;congr 1
def AU{P:Program}{fn:Func}{a:Array Value}{E:jg}{K:cG}(c:∀t,a.getD t undef=E.get t):∀ds w,
  lj ds w (λw=>Fh P fn.results.toList E w λb=>K (Hj b) w)->
  LeavesInM Fence.wide 0 P fn a (λe f=>∃v,e=.returned v/\K v f) (ds.map λd=>{target:=.collected d,args:=#[]}) .returning w
 | [],w,h=>by
  obtain⟨b,i,g⟩:=Dw c _ _ h;refine⟨Hj b,?_,_,rfl,g⟩;rw[Kf,Array.mapM_eq_mapM_toList];simp only[fE,Sem.run_map,i,Result.andThen,ly];congr 1
  match b with
  | []=>rfl
  | [v]=>rfl
  |v::u::r=>simp[Hj]
 |d::ds,w,h=>by
  refine⟨by simp,.inl ⟨d,_,rfl,run_takeDeferred h.1,AU c ds _ h.2⟩⟩
def MC{o:Bool}(q:wV P=true){f:FuncId}{fn:Func}{b:List Value}{w:World}{K:cG}(p:P.funcs[f]? =some fn)(d:okF P fn b.length=true)
  (h:O4 P o fn b w K):Ca P f ⟨b⟩ w K:=by
 unfold okF at d;unfold O4 at h;simp only[cL]at d;obtain⟨i,d⟩:=d;cases m:fn.body with
 |none=>rw[m]at h;exact h.elim
 |some c=>
  rw[m]at h d;refine⟨(callsIn_wide (n:=0)).1 (callsIn_of_wp_marks p m trivial ?_ rfl)⟩;have j:=Ms b fn.ntmps (by simpa [Nat.ble_eq]using i);refine PH (n:=fn.ntmps) q c none _ _ _ _ w d j (λe E a r l g=>?_) h;cases e with
  |normal=>have k:=AU (K:=K) l.get _ _ g;rw[<-l.defs]at k;exact k
  |ret=>have k:=AU (K:=K) l.get _ _ g;rw[<-l.defs]at k;exact k
  |exit id=>exact g.elim
  |goto id=>exact g.elim
  |panic s=>exact g.elim
  |outgrown=>exact g.elim
def NY(d:wV P=true){f:FuncId}{fn:Func}{a:List Value}{w:World}{K:cG}(c:P.funcs[f]? =some fn)(b:okF P fn a.length=true)
  (h:VH P fn a w K):Ca P f ⟨a⟩ w K:=MC d c b h
@[simp,go_sem] theorem cy (b:Bool) (T F:Prop):cV (.bool b) T F↔if b=true then T else F:=by cases b<;>simp[cV,Gz,bc]
def kx(A B:Prop):cV (.bool true) A B=A:=by rw[cy,bZ rfl]
def gP(A B:Prop):cV (.bool false) A B=B:=by rw[cy,aZ gL]
def qo  [Decidable p]{A B:Prop}(h:p):cV (.bool (decide p)) A B=A:=by rw[cy,bZ (db h)]
def DN  [Decidable p]{A B:Prop}(h:¬p):cV (.bool (decide p)) A B=B:=by rw[cy,aZ (by rw[dN];exact h)]
@[simp,go_sem] theorem ac5 (b:Bool) (K:Bool->Prop):Gz (.bool b) K↔K b:=fd
@[simp,go_sem] theorem dr (a:Addr) (K:Value->Prop):ez (.pointer (some a)) K↔K (.pointer (some a)):=fd
@[simp,go_sem] theorem aF0 (b:Bool) (T F:Prop):bc b T F↔if b=true then T else F:=by cases b<;>simp[bc]
@[simp,go_sem] theorem as9 (b:Bool) (x y:Value):Uv b x y=if b=true then x else y:=by cases b<;>rfl
def Ru{a:Sem Value}(c:s=a)(b:w=w'):rv P s w K=rv P a w' K:=by rw[c,b]
def Ph{s a:Sem Unit}{K:World->Prop}(c:s=a)(b:w=w'):ru P s w K=ru P a w' K:=by rw[c,b]
def QF{s a:Sem Next}(c:s=a)(b:w=w'):rn P s w K=rn P a w' K:=by rw[c,b]
def Oa{a:Sem Value}{K:Value->Prop}(c:s=a)(b:w=w'):uc P s w K=uc P a w' K:=by rw[c,b]
def Nw{a:Sem Value}{K:Value->Prop}(b:s=a):wS P s K=wS P a K:=by rw[b]
def SF{a b:Array Value}(d:a=b)(c:w=w'):Ca P f a w K=Ca P f b w' K:=by rw[d,c]
def HU{f c:Value}{a b:List Value}(g:f=c)(e:a=b)(d:w=w'):iv P f a w K=iv P c b w' K:=by rw[g,e,d]
def J0{a:Value}{K:Value->Prop}(h:v=a):ez v K=ez a K:=by rw[h]
def ND{a:Value}{K:Bool->Prop}(h:v=a):Gz v K=Gz a K:=by rw[h]
def Mf{a:Value}{T F:Prop}(h:v=a):cV v T F=cV a T F:=by rw[h]
def Ic{body:S->World->(S->World->Prop)->Prop}{s a:S}(c:s=a)(b:w=w'):lG body s w=lG body a w' :=by rw[c,b]
def Pg{a:Sem Value}(c:s=a)(b:w=w'):rx P s w K=rx P a w' K:=by rw[c,b]
def Mk{s a:Sem Unit}{K:World->Prop}(c:s=a)(b:w=w'):nj P s w K=nj P a w' K:=by rw[c,b]
def NH{a:Sem Value}{K:Value->Prop}(c:s=a)(b:w=w'):pS P s w K=pS P a w' K:=by rw[c,b]
def JV{a:Sem Value}{K:Value->Prop}(b:s=a):DS P s K=DS P a K:=by rw[b]
attribute [congr] Pg Mk NH JV Ru Ph QF Oa Nw SF HU J0 ND Mf Ic
attribute [go_sem] FN Yq Fo XO sN Ol Am Hl Tt Yb qE eqG
@[go_sem] theorem kE {P:Program} {f:FuncId} {first a:Array Value} {b:List Value} {w:World} {K:cG}:iv P (.func (.func f) first a) b w K↔Ca P f ⟨first.toList++(b++a.toList)⟩ w K:=oe
def Dx(P:Program)(t:TypeId):Bool:=match P.underlying t with|some (.map ..)=>true|_=>false
def Aj(P:Program)(t:TypeId):Bool:=match P.underlying t with|some (.slice ..)=>true|_=>false
@[go_sem] theorem yL {P:Program} {t:TypeId}:Dx P t=true↔∃k e,P.underlying t=some (.map k e):=by
 unfold Dx;split<;>simp_all
@[go_sem] theorem zL {P:Program} {t:TypeId}:Aj P t=true↔∃e,P.underlying t=some (.slice e):=by
 unfold Aj;split<;>simp_all
@[go_sem] theorem RE {P:Program} {w:World} (t:TypeId) (m:Option Nat) (h:Dx P t=true):(binOp .eql t (.map m) (.map none)).run P w=.ok (.bool m.isNone) w:=by
 obtain⟨k,e,h⟩:=yL.1 h;simp only[binOp];simp[run_equal_map_nil w t k e m h]
@[go_sem] theorem Qp {P:Program} {w:World} (t:TypeId) (m:Option Nat) (h:Dx P t=true):(binOp .neq t (.map m) (.map none)).run P w=.ok (.bool (!m.isNone)) w:=by
 obtain⟨k,e,h⟩:=yL.1 h;simp only[binOp];simp[run_equal_map_nil w t k e m h]
@[go_sem] theorem Mo {P:Program} {w:World} (t:TypeId) (a:Option Addr) (l c:Nat) (h:Aj P t=true):(binOp .eql t (.slice a l c) (.slice none 0 0)).run P w=.ok (.bool a.isNone) w:=by
 obtain⟨e,h⟩:=zL.1 h;simp only[binOp];simp[run_equal_slice_nil w t e a l c h]
@[go_sem] theorem NJ {P:Program} {w:World} (t:TypeId) (a:Option Addr) (l c:Nat) (h:Aj P t=true):(binOp .neq t (.slice a l c) (.slice none 0 0)).run P w=.ok (.bool (!a.isNone)) w:=by
 obtain⟨e,h⟩:=zL.1 h;simp only[binOp];simp[run_equal_slice_nil w t e a l c h]
@[go_sem] theorem Xh {P:Program} {w:World} (t:TypeId):(Instr.makeMap t none).run P w=.ok (.map (some w.heap.size)) (w.alloc (.map #[] 0)):=by
 simp[Instr.makeMap]
@[go_sem] theorem Om {P:Program} {w:World} (t:TypeId) (k:IntKind) (n:Int) (h:Dx P t=true):(Instr.makeMap t (some (.int k n))).run P w=.ok (.map (some w.heap.size)) (w.alloc (.map #[] 0)):=by
 obtain⟨k,e,h⟩:=yL.1 h;simp[Instr.makeMap,dx h,asInt,asIntOf,Result.andThen]
def FE(o:Option Obj)(i:Nat)(v:Value):Option Obj:=
 match o with
 |some (.cells c t fz)=>some (.cells (c.setIfInBounds i v) t fz)
 |o=>o
@[simp] theorem iK (c:Array Value) (t:TypeId) (fz:Nat×Nat) (i:Nat) (v:Value):FE (some (.cells c t fz)) i v=some (.cells (c.setIfInBounds i v) t fz):=rfl
def nL(w:World)(b i:Nat)(v:Value)(a:Nat):(w.setCell ⟨b,i,none⟩ v).heap[a]? =if a=b then FE w.heap[b]? i v else w.heap[a]? :=by
 unfold World.setCell;simp only[Option.isSome_none,dE,eW];rw[nT];by_cases h:b=a
 ·subst h;simp only[fh];cases c:w.heap[b]? with
  |none=>rfl
  |some o=>cases o<;>rfl
 ·grind
def gy(w:World)(o:Obj)(a:Nat):(w.alloc o).heap[a]? =if a=w.heap.size then some o else w.heap[a]? :=by
 show(w.heap.push o)[a]? =_;rw[Array.getElem?_push]
def fY(w:World)(b:Nat)(o:Obj)(c:Nat):(w.putObj b o).heap[c]? =if c=b then(w.heap[b]?).map (λ_=>o)else w.heap[c]? :=by
 unfold World.putObj;simp only;rw[Array.getElem?_setIfInBounds];by_cases h:b=c
 ·subst h;simp only[fh];by_cases a:b<w.heap.size
  ·simp[a]
  ·simp[a]
 ·grind
def wt(w:World)(a:Addr)(v:Value):(w.setCell a v).heap.size=w.heap.size:=by simp[World.setCell]
def cB{b:Nat}{o:Obj}(h:w.heap[b]? =some o):b<w.heap.size:=(js.1 h).1
def hp(w:World)(b:Nat):Option Obj:=w.heap[b]?
@[simp] abbrev hC (w:World) (b:Nat) (x:Array Value) (t:TypeId):Prop:=hp w b=some (.cells x t (0,0))
def py{q:Prop} [Decidable p] [Decidable q](h:decide p=true:=by decide)(g:decide q=true:=by decide):p/\q:=⟨dR h,dR g⟩
def fy{b:Nat}{o:Option Obj}(h:w.heap[b]? =o):hp w b=o:=h
@[go_sem] theorem at0 (w:World) (a:Addr):w.cell? a=match hp w a.block with|some (.cells c _ _)=>if a.spot.isSome then none else c[a.off]? |_=>none:=rfl
@[go_sem] theorem Zd (w:World) (a:Addr):w.frozen? a=match hp w a.block with|some (.cells _ _ (b,c))=>b<=a.off&& a.off<c|_=>false:=rfl
@[go_sem] theorem nO (w:World) (b i:Nat) (v:Value) (a:Nat):hp (w.setCell ⟨b,i,none⟩ v) a=if a=b then FE (hp w b) i v else hp w a:=nL w b i v a
@[go_sem] theorem SD (w:World) (o:Obj) (a:Nat):hp (w.alloc o) a=if a=w.heap.size then some o else hp w a:=gy w o a
@[go_sem] theorem MU (w:World) (b:Nat) (o:Obj) (a:Nat):hp (w.putObj b o) a=if a=b then(hp w b).map (λ_=>o)else hp w a:=fY w b o a
@[go_sem] theorem as8 (w:World) (b:Nat):hp w.drew b=hp w b:=rfl
attribute [go_sem] wt World.size_alloc World.putObj_size
@[go_sem] theorem Ed (w:World):w.drew.heap.size=w.heap.size:=rfl
def Yi(h:d<n):¬d=n/\(∀k,¬d=n+k)/\¬n=d/\∀k,¬n+k=d:=⟨qZ,λk=>qZ,qZ,λk=>qZ⟩
@[go_sem] theorem at3 (n a b:Nat):n+a+b=n+(a+b):=jU n a b
structure de(F:Nat->Prop)(w w' :World):Prop where
 size:w.heap.size<=w'.heap.size
 out:w'.output=w.output
 os:w'.os=w.os
 blk:∀b,b<w.heap.size->¬F b->w'.heap[b]? =w.heap[b]?
abbrev M0:=de λ_=>False
def de.refl(F:Nat->Prop)(w:World):de F w w:=⟨cJ _,rfl,rfl,λ_ _ _=>rfl⟩
def de.trans{w1 d:World}(h:de F w w1)(a:de F w1 d):de F w d:=
 ⟨dD h.size a.size,a.out.trans h.out,a.os.trans h.os,λb e c=>(a.blk b (ep e h.size) c).trans (h.blk b e c)⟩
def de.mono(h:de F w w')(d:∀b,b<w.heap.size->F b->G b):de G w w' :=
 ⟨h.size,h.out,h.os,λb a e=>h.blk b a λc=>e (d b a c)⟩
def de.to(h:de (λ_=>False) w w'):de G w w' :=h.mono λ_ _ h=>h.elim
def de.alloc(h:de F w w')(o:Obj):de F w (w'.alloc o):=
 ⟨by rw[eG];exact Nat.le_succ_of_le h.size,h.out,h.os,λb c a=>by
  rw[gy,aZ (by have:=h.size;omega)];exact h.blk b c a⟩
def de.drew(h:de F w w'):de F w w'.drew:=⟨h.size,h.out,h.os,h.blk⟩
def lX:de F w w:=.refl _ _
def lm{o:Obj}:de F w (w.alloc o):=(de.refl _ _).alloc _
def mP:de F w w.drew:=(de.refl _ _).drew
def sI{α β:Sort _}{a:α}{b:β}:a=a/\b=b:=⟨rfl,rfl⟩
def gz{q:Prop}(h:q:=by omega):p\/q:=.inr h
def de.setCell(h:de F w w'){b:Nat}(f:F b\/w.heap.size<=b)(i:Nat)(v:Value):de F w (w'.setCell ⟨b,i,none⟩ v):=
 ⟨by rw[wt];exact h.size,h.out,h.os,λd a c=>by
  rw[nL,aZ (λe=>by grind)];exact h.blk d a c⟩
def de.sc(h:de F w w'){b i:Nat}{v:Value}(a:F b:=by exact rfl):de F w (w'.setCell ⟨b,i,none⟩ v):=h.setCell (.inl a) i v
def de.putObj(h:de F w w'){b:Nat}(f:F b\/w.heap.size<=b)(o:Obj):de F w (w'.putObj b o):=
 ⟨by rw[lQ];exact h.size,h.out,h.os,λd a c=>by
  rw[fY,aZ (λe=>by grind)];exact h.blk d a c⟩
def de.on{w1 d:World}(h:de F w w1)(a:de G w1 d)(g:∀b,G b->F b\/w.heap.size<=b):de F w d:=
 ⟨dD h.size a.size,a.out.trans h.out,a.os.trans h.os,λb e c=>(a.blk b (ep e h.size) λf=>(g b f).elim c qZ).trans (h.blk b e c)⟩
def de.keep(h:de F w w'){b:Nat}{o:Obj}(a:w.heap[b]? =some o)(c:¬F b):w'.heap[b]? =some o:=
 (h.blk b (cB a) c).trans a
end Go.Vc
namespace Go.Vc
open Go Go.Vc
variable {cells:Array Value}{cs c:List Value}{b off n sz:Nat}{F:Nat->Prop}{P:Program}{s:Sem Value}{t e:TypeId}{v:Value}{w w' :World}{K:cG}
def iW(h:s.run P w=.ok v w')(a:K v w'):rx P s w K:=
 ⟨⟨by unfold Yq;rw[h];exact a⟩⟩
def sq(v:Value)(w' :World)(h:s.run P w=.ok v w')(a:K v w'):rx P s w K:=iW h a
def RF{s:Sem Unit}{K:World->Prop}(h:s.run P w=.ok () w')(a:K w'):nj P s w K:=
 ⟨⟨by unfold XO;rw[h];exact a⟩⟩
def li{K:Value->Prop}(h:s.run P w=.ok v w)(a:K v):pS P s w K:=
 ⟨⟨by unfold Hl;rw[h];exact⟨rfl,a⟩⟩⟩
def Te{K:Value->Prop}(h:∀w,s.run P w=.ok v w)(a:K v):DS P s K:=
 ⟨⟨⟨v,h,a⟩⟩⟩
def cS(b off i:Nat):(⟨b,off,none⟩:Addr).add i=⟨b,off+i,none⟩:=by
 unfold Addr.add;split<;>simp_all
def ij(w:World)(g:Nat)(cs:Array Value)(b:Nat):(w.setRow g cs).heap[b]? =if b=g then(match w.heap[g]? with|some (.cells _ t fz)=>some (.cells cs t fz)|o=>o)else w.heap[b]? :=by
 by_cases h:b=g
 ·subst h;rw[bZ rfl];cases a:w.heap[b]? with
  |none=>
   simp only;have:w.heap.size<=b:=by simpa using a
   simp[World.setRow,this]
  |some o=>
   cases o<;>first|exact setRow_heap w b _ cs _ _ a|(simp only[World.setRow,nT,fh,a];rfl)
 ·rw[aZ h];exact setRow_other w g b cs h
@[go_sem] theorem ED (w:World) (g:Nat) (cs:Array Value) (b:Nat):hp (w.setRow g cs) b=if b=g then(match hp w g with|some (.cells _ t fz)=>some (.cells cs t fz)|o=>o)else hp w b:=ij w g cs b
attribute [go_sem] setRow_size
def de.setRow(h:de F w w'){b:Nat}(f:F b\/w.heap.size<=b)(cs:Array Value):de F w (w'.setRow b cs):=
 ⟨by rw[setRow_size];exact h.size,h.out,h.os,λd a c=>by
  rw[setRow_other _ _ _ _ (λe=>by grind)];exact h.blk d a c⟩
def At(w:World)(b off:Nat)(cs:List Value):Prop:=∃c e fz,w.heap[b]? =some (.cells c e fz)/\off+cs.length<=c.size/\(c.toList.drop off).take cs.length=cs
def At.cell(h:At w b off cs)(j:Nat)(v:Value)(a:cs[j]? =some v):w.cell? ⟨b,off+j,none⟩=some v:=by
 obtain⟨c,e,fz,g,i,f⟩:=h;have d:j<cs.length:=(cP.1 a).1;rw[<-f,iE,bZ d,iY]at a;simp only[World.cell?,g];simpa using a
def At.get(h:At w b off cs):∃C e fz,hp w b=some (.cells C e fz)/\∀j v,cs[j]? =some v->C[off+j]? =some v:=by
 obtain⟨c,e,fz,g,i,f⟩:=h;refine⟨c,e,fz,g,λj v a=>?_⟩;have d:j<cs.length:=(cP.1 a).1;rw[<-f,iE,bZ d,iY]at a;simpa using a
def At.loads(h:At w b off cs):(loadCells ⟨b,off,none⟩ cs.length).run P w=.ok cs.toArray w:=
 run_loadCells_list w _ cs λj v a=>by rw[cS];exact h.cell j v a
def At.keep(h:At w b off cs)(d:w'.heap[b]? =w.heap[b]?):At w' b off cs:=by
 obtain⟨c,e,fz,f,a⟩:=h;exact⟨c,e,fz,by rw[d];exact f,a⟩
def At.mod(h:At w b off cs)(a:de F w w')(d:¬F b):At w' b off cs:=by
 obtain⟨c,e,fz,g,f⟩:=h;exact⟨c,e,fz,a.keep g d,f⟩
def At.lt(h:At w b off cs):b<w.heap.size:=by
 obtain⟨c,e,fz,a,_⟩:=h;exact cB a
def At.sub(h:At w b off cs)(i k:Nat)(g:i+k<=cs.length):At w b (off+i) ((cs.drop i).take k):=by
 obtain⟨c,e,fz,f,j,d⟩:=h;have a:((cs.drop i).take k).length=k:=by simp;omega
 refine⟨c,e,fz,f,by rw[a];omega,?_⟩;rw[a]
 conv=>rhs;rw[<-d]
 rw[List.drop_take,List.take_take,eN,fS qZ]
def pY(P:Program)(t:TypeId):Bool:=
 match P.underlying t with
 |some (.struct _)|some (.array ..)=>true
 |_=>false
def AS(h:pY P t=true)(w:World):(isAgg t).run P w=.ok true w:=by
 unfold pY at h;unfold isAgg;split at h
 ·rename_i a;simp[fE,dx a,Result.andThen]
 ·rename_i a;simp[fE,dx a,Result.andThen]
 ·cases h
def tC(h:P.cellsOf t=n+1):∃i,P.info? t=some i/\i.size=n+1:=by
 unfold Program.cellsOf at h;cases a:P.info? t with
 |none=>simp[a]at h
 |some i=>exact⟨i,rfl,by simpa [a]using h⟩
def oK(h:P.cellsOf t=n+1)(w:World):(sizeOf t).run P w=.ok (n+1) w:=by
 obtain⟨i,b,a⟩:=tC h;simp[sizeOf,typeInfo,b,a]
def gm(d:pY P t=true)(c:P.cellsOf t=n+1)(a:cs.length=n+1)(h:At w b off cs):
  (fH t (.pointer (some ⟨b,off,none⟩))).run P w=.ok (.agg cs.toArray) w:=by
 have:=h.loads (P:=P);rw[a]at this;simp[fH,Instr.loadAt,Instr.sureAddr,loadVar,fE,AS d,oK c,Result.andThen,this]
def jq(cs:List Value)(n:Nat)(e:pY P t=true)(c:P.cellsOf t=n+1)(a:cs.length=n+1)(h:At w b off cs)(d:K (.agg cs.toArray) w):
  rx P (fH t (.pointer (some ⟨b,off,none⟩))) w K:=iW (gm e c a h) d
def sm{K:Value->Prop}(cs:List Value)(n:Nat)(e:pY P t=true)(c:P.cellsOf t=n+1)(a:cs.length=n+1)(h:At w b off cs)(d:K (.agg cs.toArray)):
  pS P (fH t (.pointer (some ⟨b,off,none⟩))) w K:=li (gm e c a h) d
def mh(c:List Value)(off:Nat)(cs:List Value):List Value:=c.take off++cs++c.drop (off+cs.length)
def ve(h:off+cs.length<=c.length):(mh c off cs).length=c.length:=by
 simp[mh];omega
def tp(h:cs.length=c.length):mh c 0 cs=cs:=by simp[mh,h]
def sU(h:cs.all (·.oneCell')=true):∀v∈cs,v.oneCell' =true:=λv a=>dF.1 h v a
def xw{c:Array Value}(f:P.cellsOf t=n+1)(d:cs.length=n+1)
  (h:w.heap[b]? =some (.cells c e (0,0)))(a:off+cs.length<=c.size)(g:cs.all (·.oneCell')=true):
  (jH t (.pointer (some ⟨b,off,none⟩)) (.agg cs.toArray)).run P w=.ok () (w.setRow b (mh c.toList off cs).toArray):=by
 have:=run_storeCells_at P b off e cs 0 c w h (by simpa using a) (sU g);simp only[dS]at this;simp[jH,Instr.storeAt,Instr.sureAddr,storeVar,fE,oK f,Value.cells,d,Result.andThen,this,mh]
def uH{K:World->Prop}{c:Array Value}(f:P.cellsOf t=n+1)(d:cs.length=n+1)
  (h:w.heap[b]? =some (.cells c e (0,0)))(a:off+cs.length<=c.size)(g:cs.all (·.oneCell')=true)(i:K (w.setRow b (mh c.toList off cs).toArray)):
  nj P (jH t (.pointer (some ⟨b,off,none⟩)) (.agg cs.toArray)) w K:=RF (xw f d h a g) i
def lT(P:Program)(t:TypeId):List Value:=
 match (P.info? t).bind (·.zero)with
 |some z=>z.cells.toList
 |none=>[]
def se(P:Program)(t:TypeId):Bool:=((P.info? t).bind (·.zero)).isSome
def Sh(c:se P t=true):
  (nE t).run P w=.ok (.pointer (some ⟨w.heap.size,0,none⟩)) (w.alloc (.cells (lT P t).toArray t)):=by
 unfold se at c;cases b:P.info? t with
 |none=>simp[b]at c
 |some i=>
  cases a:i.zero with
  |none=>simp[b,a]at c
  |some z=>simp[nE,Instr.alloc,zeroValue,typeInfo,b,a,newVar,newRow,lT]
def rg(b:se P t=true)(a:K (.pointer (some ⟨w.heap.size,0,none⟩)) (w.alloc (.cells (lT P t).toArray t))):
  rx P (nE t) w K:=iW (Sh b) a
def lL{a:Array (Nat×Value)}(h:P.built t a.toList=some cells)(b:K (.agg cells) w):
  rx P (rB t a) w K:=iW (by unfold rB;exact run_build w t a cells h) b
def AN{a:Array (Nat×Value)}{K:Value->Prop}(h:P.built t a.toList=some cells)(b:K (.agg cells)):
  DS P (rB t a) K:=Te (λw=>by unfold rB;exact run_build w t a cells h) b
def R1{a:List Value}(h:off+(a.length+1)<=c.length):mh (c.set off v) (off+1) a=mh c off (v::a):=by
 simp only[mh,dc]
 have b:(c.set off v).take (off+1)=c.take off++[v]:=by
  rw[List.take_succ_eq_append_getElem (by simp;omega),List.take_set_of_le (cJ _)];simp
 have d:(c.set off v).drop (off+1+a.length)=c.drop (off+(a.length+1)):=by
  rw[List.drop_set_of_lt qZ,show off+1+a.length=off+(a.length+1) by omega]
 rw[b,d];simp
def D7(off:Nat):∀(a:List Value) (k:Nat) (c:Array Value),off+k+a.length<=c.size->
  ((a.zipIdx k).foldl (λb p=>b.setIfInBounds (off+p.2) p.1) c).toList=mh c.toList (off+k) a
 | [],k,c,_=>by simp[mh]
 |v::a,k,c,h=>by
  simp only[qJ,ig];simp only[dc]at h;rw[D7 off a (k+1) _ (by simp;omega),Array.toList_setIfInBounds,show off+(k+1)=off+k+1 by omega,R1 (by simp;omega)]
def uz{place:Nat->Option (Nat×Nat)}{cells:List Value}{i size:Nat}{rest:List (Nat×Value)}(hp:place i=some (off,size))(b:v.cells.size=size)(h:off+size<=cells.length):
  Instr.fill place cells.toArray ((i,v)::rest)=Instr.fill place (mh cells off v.cells.toList).toArray rest:=by
 have a:¬(v.cells.size≠size\/off+v.cells.size>cells.toArray.size):=by grind
 simp only[Instr.fill,hp];rw[aZ (by simpa using a)];congr 1;apply nQ;have:=D7 off v.cells.toList 0 cells.toArray (by simp;omega);simp only[dS]at this;rw[<-this,<-Array.toList_zipIdx,Array.foldl_toList]
def Dj{place:Nat->Option (Nat×Nat)}:Instr.fill place cells []=some cells:=rfl
def Rd(w:World)(sz:Nat)(v:Value)(n:Nat)(cs:List Value):Prop:=
 cs.length=n*sz/\((n=0/\∃a c,v=.slice a 0 c)\/∃b off cap,v=.slice (some ⟨b,off,none⟩) n cap/\n<=cap/\At w b off cs)
def BQ(v:Value)(b:Nat):Prop:=∃a n c,v=.slice (some a) n c/\n≠0/\a.block=b
def It:Value->Option Nat
 | .slice (some a) _ _=>some a.block
 |_=>none
def jo(w:World)(e:TypeId)(sz:Nat)(v:Value)(n:Nat)(cs:List Value):Prop:=
 cs.length=n*sz/\((v=.slice none 0 0/\n=0)\/∃b cap rest,v=.slice (some ⟨b,0,none⟩) n cap/\n<=cap/\w.heap[b]? =some (.cells (cs++rest).toArray e (0,0))/\rest.length=(cap - n)*sz/\(rest.all (·.oneCell')=true))
def cK(v:Value)(b:Nat):Prop:=It v=some b
def jo.keep(h:jo w e sz v n cs)(g:∀b,cK v b->w'.heap[b]? =w.heap[b]?):jo w' e sz v n cs:=by
 obtain⟨c,h|⟨b,a,rest,rfl,i,d,f⟩⟩:=h
 ·exact⟨c,.inl h⟩
 ·exact⟨c,.inr ⟨b,a,rest,rfl,i,by rw[g b rfl];exact d,f⟩⟩
def jo.lt(h:jo w e sz v n cs){b:Nat}(a:cK v b):b<w.heap.size:=by
 obtain⟨f,⟨rfl,_⟩|⟨i,d,rest,rfl,j,c,g⟩⟩:=h
 ·cases a
 ·cases a;exact cB c
def jo.nil(w:World)(e:TypeId)(sz:Nat):jo w e sz (.slice none 0 0) 0 []:=⟨by simp,.inl ⟨rfl,rfl⟩⟩
def jo.mod(h:jo w e sz v n cs)(c:de F w w')(d:∀b,cK v b->¬F b):jo w' e sz v n cs:=
 h.keep λb a=>c.blk b (h.lt a) (d b a)
def BQ.sl(h:BQ v b):cK v b:=by
 obtain⟨a,n,c,rfl,-,rfl⟩:=h;rfl
def jo.rd(h:jo w e sz v n cs):Rd w sz v n cs:=by
 obtain⟨c,⟨rfl,rfl⟩|⟨b,a,rest,rfl,f,d,g⟩⟩:=h
 ·exact⟨c,.inl ⟨rfl,_,_,rfl⟩⟩
 ·exact⟨c,.inr ⟨b,0,a,rfl,f,⟨_,_,_,d,by simp,by simp⟩⟩⟩
def Rd.keep(h:Rd w sz v n cs)(g:∀b,BQ v b->w'.heap[b]? =w.heap[b]?):Rd w' sz v n cs:=by
 obtain⟨c,h|⟨b,a,d,rfl,i,f⟩⟩:=h
 ·exact⟨c,.inl h⟩
 ·by_cases e:n=0
  ·subst e;exact⟨c,.inl ⟨rfl,_,_,rfl⟩⟩
  ·exact⟨c,.inr ⟨b,a,d,rfl,i,f.keep (g b ⟨_,_,_,rfl,e,rfl⟩)⟩⟩
def Rd.lt(h:Rd w sz v n cs){b:Nat}(f:BQ v b):b<w.heap.size:=by
 obtain⟨a,m,c,rfl,q,rfl⟩:=f;obtain⟨p,⟨rfl,l,k,e⟩|⟨b,i,g,e,s,j⟩⟩:=h
 ·grind
 ·injection e with d o r;injection d with d;subst d;exact j.lt
def Rd.mod(h:Rd w sz v n cs)(c:de F w w')(d:∀b,BQ v b->¬F b):Rd w' sz v n cs:=
 h.keep λb a=>c.blk b (h.lt a) (d b a)
def Rd.first(h:Rd w sz v n cs)(j:0<sz):
  (Builtin.firstCells sz n v).run P w=.ok cs.toArray w:=by
 obtain⟨d,⟨rfl,a,c,rfl⟩|⟨b,e,g,rfl,i,f⟩⟩:=h
 ·have:cs=[]:=by simpa using d
  subst this;cases a<;>simp[Builtin.firstCells,loadCells,loadCellsFrom]
 ·have:=f.loads (P:=P);rw[d]at this;simpa [Builtin.firstCells]using this
def Rd.isSl(h:Rd w sz v n cs):∃a c,v=.slice a n c:=by
 obtain⟨_,⟨rfl,a,c,rfl⟩|⟨b,d,e,rfl,_⟩⟩:=h
 ·exact⟨_,_,rfl⟩
 ·exact⟨_,_,rfl⟩
def Rd.lenOf(h:Rd w sz v n cs)(w1:World):(Builtin.lenOf v).run P w1=.ok n w1:=by
 obtain⟨f,⟨rfl,a,c,rfl⟩|⟨b,d,e,rfl,i,g⟩⟩:=h<;>rfl
end Go.Vc
namespace Go.Vc
open Go Go.Vc
variable {cs:List Value}{sz by_ n:Nat}{P:Program}{e t:TypeId}{s:Value}{w:World}{K:cG}
structure wd(P:Program)(e:TypeId)(sz by_:Nat):Prop where
 ok:∃i z,P.info? e=some i/\i.zero=some z/\i.size=sz/\i.bytes=by_/\z.cells.size=sz/\z.cells.toList.all (·.oneCell')=true
 pos:0<sz
 bpos:0<by_
def lN(P:Program)(e:TypeId)(sz by_:Nat):Bool:=
 Nat.blt 0 sz&& Nat.blt 0 by_&& match P.info? e with
 |none=>false
 |some i=>match i.zero with
  |none=>false
  |some z=>Nat.beq i.size sz&& Nat.beq i.bytes by_&& Nat.beq z.cells.size sz&& z.cells.toList.all (·.oneCell')
def eO(h:lN P e sz by_=true):wd P e sz by_:=by
 unfold lN at h;simp only[cL]at h;obtain⟨⟨g,d⟩,h⟩:=h;cases a:P.info? e with
 |none=>rw[a]at h;cases h
 |some i=>
  rw[a]at h;simp only at h;cases b:i.zero with
  |none=>rw[b]at h;cases h
  |some z=>
   rw[b]at h;simp only[cL]at h;obtain⟨⟨⟨k,f⟩,j⟩,c⟩:=h;exact⟨⟨i,z,a,b,fZ k,fZ f,fZ j,c⟩,by simpa [oX]using g,by simpa [oX]using d⟩
def tm{z:Array Value}(h:z.toList.all (·.oneCell')=true)(hp:0<z.size)(n:Nat):(Builtin.zeroCells z n).toList.all (·.oneCell')=true:=by
 unfold Builtin.zeroCells;simp only[Array.toList_map,List.all_map,dF];intro i _;have a:i%z.size<z.size:=gR _ hp;simp only[Function.comp_apply];rw[jP z _ a];exact dF.1 h _ (by simp)
def tv(z:Array Value)(n:Nat):(Builtin.zeroCells z n).toList.length=n*z.size:=by simp[Builtin.zeroCells]
def jR{u ty:TypeId}{x:Value}{m:Nat}{a:List Value}
  (M:P.underlying t=some (.slice e)){e' :TypeId}(V:P.underlying u=some (.slice e'))(hE:wd P e sz by_)
  (H:jo w e sz s n cs)(B:Rd w sz x m a)(h1:a.all (·.oneCell')=true)(G:(n+m)*by_<=140737488355328)
  (Q:∀I F,jo F e sz I (n+m) (cs++a)->de (cK s) w F->(∀b,cK I b->cK s b\/w.heap.size<=b)->K I F):
  rx P (eg #[t,u] ty [s,x]) w K:=by
 obtain⟨⟨i,z,W,hz,r,T,X,O⟩,k,q⟩:=hE;have S:n+m<=140737488355328:=dD (qj _ q) G;have l:cs.length=n*sz:=H.1;have g:a.length=m*sz:=B.1;have A:=λw1 (h:Rd w1 sz x m a)=>h.first (P:=P) k
 obtain⟨d,c,L,hcap,E⟩:∃d c,s=.slice d n c/\n<=c/\((d=none/\n=0/\c=0/\cs=[])\/∃b rest,d=some ⟨b,0,none⟩/\w.heap[b]? =some (.cells (cs++rest).toArray e (0,0))/\rest.length=(c - n)*sz/\rest.all (·.oneCell')=true):=by
  rcases H.2 with⟨rfl,rfl⟩|⟨b,c,rest,rfl,hc,U,hr⟩
  ·grind
  ·grind
 subst L;by_cases f:n+m<=c
 ·rcases E with⟨rfl,rfl,rfl,rfl⟩|⟨b,rest,rfl,U,D,hr1⟩
  ·have hm:m=0:=qZ;subst hm;have y:a=[]:=by simpa using g
   subst y;refine sq (.slice none 0 0) w ?_ (Q _ _ H lX (λb G=>.inl G));have:=A w B;simp[eg,Builtin.append_,dx M,sizeOf,typeInfo,W,r,dx V,B.lenOf,Result.andThen,this]
  ·have o:=run_storeCells_at P b (n*sz) e a 0 (cs++rest).toArray w U (by simp[l,D,g];exact dM _ qZ) (sU h1);simp only[dS]at o
   have p:(cs++rest).take (n*sz)++a++(cs++rest).drop (n*sz+a.length)=(cs++a)++rest.drop a.length:=by
    rw[<-l];simp[df]
   refine sq (.slice (some ⟨b,0,none⟩) (n+m) c) (w.setRow b ((cs++a)++rest.drop a.length).toArray) ?_ (Q _ _ ⟨?_,.inr ⟨b,c,rest.drop a.length,rfl,f,?_,?_,?_⟩⟩ ?_ ?_)
   ·have:=A w B;simp only[p]at o;have e0:(⟨b,0,none⟩:Addr).add (n*sz)=⟨b,n*sz,none⟩:=by rw[cS];simp
    simp[eg,Builtin.append_,dx M,sizeOf,typeInfo,W,r,dx V,B.lenOf,Result.andThen,this,f,e0,o]
   ·grind
   ·rw[ij,bZ rfl,U]
   ·simp[D,g];rw[<-qf];congr 1;omega
   ·grind
   ·exact(de.refl (cK (.slice (some ⟨b,0,none⟩) n c)) w).setRow (.inl (show cK _ b from rfl)) _
   ·intro b' C;exact .inl C
 ·have hfit:=growslice_fits (old:=c) (need:=n+m) (bytes:=by_) qZ G;have J:¬(281474976710656<Builtin.nextslicecap (n+m) c*i.bytes):=by rw[T];omega
  have R:¬(9223372036854775807<((n:Int)+(m:Int))):=qZ;have j:n+m<=grownCap w (n+m) c e:=by simp[grownCap,Question.cut]
  have N:Rd w.drew sz (.slice d n c) n cs:=H.rd.keep λ_ _=>rfl;have Z:=N.first (P:=P) k;have Y:=A w.drew (B.keep λ_ _=>rfl)
  refine iW (v:=.slice (some ⟨w.heap.size,0,none⟩) (n+m) (grownCap w (n+m) c e))
   (w' :=w.drew.alloc (.cells (cs.toArray++a.toArray++Builtin.zeroCells z.cells (grownCap w (n+m) c e - (n+m))) e)) ?_ (Q _ _ ⟨?_,.inr ⟨w.heap.size,_,(Builtin.zeroCells z.cells (grownCap w (n+m) c e - (n+m))).toList,rfl,j,?_,?_,?_⟩⟩ ?_ ?_)
  ·simp[eg,Builtin.append_,dx M,sizeOf,typeInfo,zeroValue,W,hz,r,dx V,B.lenOf,Result.andThen,f,R,J,Question.forced,Z,Y,newRow,grownCap];rw[<-Array.append_assoc];congr 2;simp
  ·grind
  ·rw[gy,bZ (show w.heap.size=w.drew.heap.size from rfl)];simp
  ·rw[tv,X]
  ·exact tm O (by grind) _
  ·exact mP.alloc _
  ·rintro b' C;cases C;exact .inr (cJ _)
def FW(w:World)(c:Array Value)(t:TypeId)(cs:Array Value):(w.alloc (.cells c t)).setRow w.heap.size cs=w.alloc (.cells cs t):=by
 unfold World.setRow World.alloc;simp only;congr 1;apply Array.ext
 ·simp
 ·intro i b a;simp only[Array.getElem_modify,Array.getElem_push];by_cases h:w.heap.size=i
  ·subst h;simp
  ·grind
def xM(n:Nat)(j:se P t=true)(f:P.cellsOf t=n+1)(b:cs.length=n+1)(a:(lT P t).length=n+1)(g:cs.all (·.oneCell')=true)
  (h:K (.pointer (some ⟨w.heap.size,0,none⟩)) (w.alloc (.cells cs.toArray t))):rx P (nE t) w λv d=>nj P (jH t v (.agg cs.toArray)) d λi=>K v i:=by
 apply rg j;apply uH (c:=(lT P t).toArray) (e:=t) f b (by rw[gy,bZ rfl]) (by simp[b,a]) g;rw[tp (by simp[b,a]),FW];exact h
def oB{α:Type}(f:α->List Value)(sz:Nat):∀(ws:List α) (i:Nat) (a:∀x∈ws,(f x).length=sz) (h:i<ws.length),((ws.flatMap f).drop (i*sz)).take sz=f ws[i]
 |x::ws,0,a,h=>by grind
 |x::ws,i+1,a,h=>by
  have e:(i+1)*sz=(f x).length+i*sz:=by grind
  simp only[eu,fA];rw[e,<-eN,fj];exact oB f sz ws i (λy b=>a y (by simp[b])) (by simpa using h)
def uE{α:Type}(f:α->List Value)(sz:Nat):∀(ws:List α) (a:∀x∈ws,(f x).length=sz),(ws.flatMap f).length=ws.length*sz
 | [],_=>by simp
 |x::ws,a=>by simp[a x (by simp),uE f sz ws λy b=>a y (by simp[b]),im];omega
def jo.isSl(h:jo w e sz s n cs):∃a c,s=.slice a n c/\n<=c:=by
 obtain⟨_,⟨rfl,rfl⟩|⟨b,d,_,rfl,f,_⟩⟩:=h
 ·grind
 ·grind
def jo.elem(h:jo w e sz s n cs){i:Nat}(hi:i<n):
  ∃b a,s=.slice (some ⟨b,0,none⟩) n a/\At w b (i*sz) ((cs.drop (i*sz)).take sz):=by
 obtain⟨f,⟨rfl,rfl⟩|⟨b,a,rest,rfl,k,g,j⟩⟩:=h
 ·omega
 ·have c:i*sz+sz<=cs.length:=by
   rw[f];have:(i+1)*sz<=n*sz:=dM _ hi;rw[im]at this;omega
  have d:At w b 0 cs:=⟨_,_,_,g,by simp,by simp⟩
  have:=d.sub (i*sz) sz c;exact⟨b,a,rfl,by simpa using this⟩
def Ll{kl k:IntKind}{l c:Int}{z:Value}(m:P.underlying t=some (.slice e))(s:wd P e sz by_)(n:0<=l)(g:l<=c)(o:(by_:Int)*c<=281474976710656)
  (y:(P.info? e).bind (·.zero)=some z)
  (r:K (.slice (some ⟨w.heap.size,0,none⟩) l.toNat c.toNat) (w.alloc (.cells (madeCells z.cells (c.toNat*sz)) e))):
  rx P (Ak t (.int kl l) (.int k c)) w K:=by
 obtain⟨⟨i,p,u,h,d,f,v,q⟩,j,a⟩:=s;have:z=p:=by grind
 subst this
 have b:c<=9223372036854775807:=by
  have x:(1:Int)*c<=(by_:Int)*c:=fU qZ qZ;omega
 exact iW (by unfold Ak;exact run_make w t e i z m u h kl k l c n g (by rw[f];exact o) b) (by rw[d];exact r)
def H7(sz:Nat):∀(b:List Value) (i:Nat) (a rest:List Value),(∀v∈b,v.cells.size=sz)->a.length=i*sz->rest.length=b.length*sz->
  Instr.fill (λi=>some (i*sz,sz)) (a++rest).toArray ((b.zipIdx i).map λp=>(p.2,p.1))=some (a++b.flatMap (·.cells.toList)).toArray
 | [],i,a,rest,_,_,d=>by
  have:rest=[]:=by simpa using d
  subst this;simp[Dj]
 |v::b,i,a,rest,g,hp,d=>by
  have c:=g v (by simp);have h:sz<=rest.length:=by rw[d,dc,im];omega
  simp only[qJ,cM];rw[uz (off:=i*sz) (size:=sz) rfl c (by simp;omega)]
  have e:mh (a++rest) (i*sz) v.cells.toList=(a++v.cells.toList)++rest.drop sz:=by
   have f:v.cells.toList.length=sz:=by simpa using c
   simp only[mh,f];rw[<-hp,fN,<-eN,fj]
  rw[e,H7 sz b (i+1) _ _ (λu j=>g u (by simp[j])) (by grind) (by simp[d,im])];simp
def oJ{a:List (Nat×Value)}(b:List Value)(m:P.underlying t=some (.slice e))(y:wd P e sz by_)
  (hp:a=b.zipIdx.map λp=>(p.2,p.1))(B:b.length=n)(D:∀v∈b,v.cells.size=sz)(E:n*sz<=16777216)
  (s:K (.slice (some ⟨w.heap.size,0,none⟩) n n) (w.alloc (.cells (b.flatMap (·.cells.toList)).toArray e))):rx P (jQ t n a) w K:=by
 obtain⟨⟨i,z,q,x,d,A,C,u⟩,o,k⟩:=y;subst hp;have l:¬(2 ^ 24<n*sz):=qZ;refine iW ?_ s
 have c:∀f:Array Value,(f.toList.length=n*sz)->Instr.fill (λi=>some (i*sz,sz)) f (b.zipIdx.map λp=>(p.2,p.1))=some (b.flatMap (·.cells.toList)).toArray:=λf j=>by
  have:=H7 sz b 0 [] f.toList D (by simp) (by rw[B];exact j);simpa using this
 by_cases g:n*sz=0
 ·have h:=c (Array.map (λ_=>default) (Array.range 0)) (by simp[g]);simp[jQ,Instr.buildSlice,dx m,sizeOf,typeInfo,q,d,g,h,newRow,Result.andThen]
 ·have h:=c ((Array.range (n*sz)).map (z.cells[·%z.cells.size]!)) (by simp);have r:Instr.fill (λi=>some (i*sz,sz)) ((Array.range (n*sz)).map (z.cells[·%sz]!)) (b.zipIdx.map λp=>(p.2,p.1))=some (b.flatMap (·.cells.toList)).toArray:=by grind
  simp[jQ,Instr.buildSlice,dx m,sizeOf,typeInfo,zeroValue,q,x,d,g,l,h,r,newRow,Result.andThen]
def bv(l:List UInt8):List Value:=l.map λu=>.int .u8 (u.toNat:Int)
@[simp] theorem Za (l:List UInt8):(bv l).length=l.length:=by simp[bv]
@[simp] theorem aD2:bv []=[]:=rfl
@[simp] theorem A4 (l l' :List UInt8):bv (l++l')=bv l++bv l' :=by simp[bv]
def Ud(l:List UInt8)(n:Nat):(bv l).drop n=bv (l.drop n):=by simp[bv]
def JE(l:List UInt8):(bv l).all (·.oneCell')=true:=by simp[bv,Value.oneCell']
def Mt(a:List UInt8):∀s:ByteArray,((a.map λu=>(u.toNat:Int)).foldl (λr n=>r.push (UInt8.ofNat n.toNat)) s)=⟨s.data++a.toArray⟩:=by
 induction a with
 |nil=>intro s;simp
 |cons n a b=>
  intro s;simp only[cM,ig];rw[b];simp[ByteArray.push]
def tY(l:List UInt8):ByteArray:=⟨l.toArray⟩
def AM{s d:TypeId}{v:Value}{l:List UInt8}
  (k:P.underlying s=some (.slice e))(m:P.underlying e=some (.int .u8))(i:P.underlying d=some .string)(h:Rd w 1 v n (bv l)):
  (uL s d v).run P w=.ok (.string (tY l)) w:=by
 have j:l.length=n:=by simpa using h.1
 obtain⟨_,⟨rfl,a,c,rfl⟩|⟨b,g,o,rfl,q,p⟩⟩:=h
 ·have:l=[]:=by simpa using j
  subst this;unfold uL;rw[run_convert_bytes_string w s d e _ _ _ k m i];cases a<;>rfl
 ·have f:(loadCells ⟨b,g,none⟩ n).run P w=.ok (bv l).toArray w:=by
   have:=p.loads (P:=P);simpa [j]using this
  unfold uL;rw[run_convert_bytes_string w s d e _ _ _ k m i,run_bytesToString w _ _ _ (l.map λu=>(u.toNat:Int)) (by rw[f];simp[bv]),Mt];simp[tY,ByteArray.empty,ByteArray.emptyWithCapacity];rfl
def xV{s d:TypeId}{K:Value->Prop}{v:Value}{l:List UInt8}
  (f:P.underlying s=some (.slice e))(b:P.underlying e=some (.int .u8))(a:P.underlying d=some .string)(h:Rd w 1 v n (bv l))(c:K (.string (tY l))):
  pS P (uL s d v) w K:=li (AM f b a h) c
@[simp] theorem TU (l l' :List UInt8):tY l++tY l' =tY (l++l'):=by
 apply ByteArray.ext;simp[tY]
@[simp] theorem XJ (l:List UInt8):(tY l).size=l.length:=by simp[tY,ByteArray.size]
@[simp] theorem TZ (l:List UInt8):(tY l).toList=l:=ByteArray.toList_mk l
@[simp] theorem Y8 {l l' :List UInt8}:tY l=tY l' ↔l=l' :=by
 refine⟨λh=>?_,λh=>by rw[h]⟩;have:=fC (λb:ByteArray=>b.data.toList) h;simpa [tY]using this
section
variable{κ ν:Type} [DecidableEq κ]
def lk:List (κ×ν)->κ->Option ν
 | [],_=>none
 |(a,b)::r,k=>if a=k then some b else lk r k
def put:List (κ×ν)->κ->ν->List (κ×ν)
 | [],k,v=>[(k,v)]
 |(a,b)::r,k,v=>if a=k then(k,v)::r else(a,b)::put r k v
def DF:List (κ×ν)->κ->List (κ×ν)
 | [],_=>[]
 |(a,b)::r,k=>if a=k then r else(a,b)::DF r k
def sn(L:List (κ×ν))(k j:κ)(v:ν):lk (put L k v) j=if k=j then some v else lk L j:=by
 induction L with
 |nil=>simp[put,lk]
 |cons p r c=>
  obtain⟨a,b⟩:=p;simp only[put];by_cases h:a=k
  ·subst h;rw[bZ rfl];simp only[lk];split<;>rfl
  ·rw[aZ h];simp only[lk,c];by_cases d:a=j
   ·grind
   ·grind
def rR{L:List (κ×ν)}{k:κ}(h:k ∉ L.map (·.1)):lk L k=none:=by
 induction L with
 |nil=>rfl
 |cons p r c=>
  obtain⟨a,b⟩:=p;simp only[cM,cH,mO]at h;simp only[lk];rw[aZ (λe=>h.1 e.symm)];exact c h.2
def Xo{L:List (κ×ν)}(c:(L.map (·.1)).Nodup)(k j:κ):lk (DF L k) j=if k=j then none else lk L j:=by
 induction L with
 |nil=>simp[DF,lk]
 |cons p r d=>
  obtain⟨a,b⟩:=p;simp only[cM,dA]at c;simp only[DF];by_cases h:a=k
  ·subst h;rw[bZ rfl];simp only[lk];split
   ·subst_vars;exact rR c.1
   ·rfl
  ·rw[aZ h];simp only[lk,d c.2];by_cases e:a=j
   ·grind
   ·grind
def QO(L:List (κ×ν))(k:κ)(v:ν):(put L k v).map (·.1)=if k∈L.map (·.1)then L.map (·.1)else L.map (·.1)++[k]:=by
 induction L with
 |nil=>simp[put]
 |cons p r c=>
  obtain⟨a,b⟩:=p;simp only[put];by_cases h:a=k
  ·subst h;simp
  ·grind
def Ea{L:List (κ×ν)}(h:(L.map (·.1)).Nodup)(k:κ)(v:ν):((put L k v).map (·.1)).Nodup:=by
 rw[QO];split
 ·exact h
 ·grind
def Us(L:List (κ×ν))(k:κ):(DF L k).Sublist L:=by
 induction L with
 |nil=>exact kJ _
 |cons p r c=>
  obtain⟨a,b⟩:=p;simp only[DF];split
  ·grind
  ·exact c.cons_cons _
def MT{L:List (κ×ν)}(h:(L.map (·.1)).Nodup)(k:κ):((DF L k).map (·.1)).Nodup:=h.sublist ((Us L k).map _)
def AC{L:List (κ×ν)}{k:κ}{v:ν}(h:lk L k=some v):(k,v)∈L:=by
 induction L with
 |nil=>cases h
 |cons q r c=>
  obtain⟨a,b⟩:=q;simp only[lk]at h;split at h
  ·grind
  ·grind
end
structure vB(P:Program)(k:TypeId){κ:Type} [DecidableEq κ](enc:κ->Value):Prop where
 check:∀(w:World) (em:Bool) (x:κ),(Instr.checkKey em 10000 k (enc x)).run P w=.ok () w
 same:∀(w:World) (x:κ) (es:List MapEntry) (ks:List κ),es.map (·.key)=ks.map enc->
  ((Instr.findKey k (enc x) es).run P w=.ok none w/\x ∉ ks)\/∃i v,(Instr.findKey k (enc x) es).run P w=.ok (some (i,v)) w/\(es[i]?).map (·.val)=some v/\ks[i]? =some x/\∀j,j<i->ks[j]? ≠some x
 stays:∀(w:World) (x:κ),(Instr.keyThatStays (enc x) (enc x)).run P w=.ok (enc x) w
section
variable{P:Program}{k:TypeId}{κ:Type} [DecidableEq κ]{enc:κ->Value}
def Bw(c:∀(w:World) (x y:κ),(Op.equal k (enc x) (enc y)).run P w=.ok (decide (x=y)) w)(w:World)(x:κ):
  ∀(b:List MapEntry) (a:List κ) (o:Nat),b.map (·.key)=a.map enc->
  ((Instr.findAsking k (enc x) b o).run P w=.ok none w/\x ∉ a)\/∃i v,(Instr.findAsking k (enc x) b o).run P w=.ok (some (o+i,v)) w/\(b[i]?).map (·.val)=some v/\a[i]? =some x/\∀j,j<i->a[j]? ≠some x
 | [],a,o,h=>by
  have:a=[]:=by cases a<;>simp_all
  subst this;exact .inl ⟨by simp[Instr.findAsking],by simp⟩
 |e::b,[],o,h=>by simp at h
 |e::b,y::a,o,h=>by
  simp only[cM,mR]at h;obtain⟨g,m⟩:=h;by_cases d:x=y
  ·subst d;refine .inr ⟨0,e.val,?_,by simp,by simp,λj l=>absurd l (Nat.not_lt_zero _)⟩;simp[Instr.findAsking,g,c,Result.andThen]
  ·have r:(Instr.findAsking k (enc x) (e::b) o).run P w=(Instr.findAsking k (enc x) b (o+1)).run P w:=by
    simp[Instr.findAsking,g,c,Result.andThen,d]
   rcases Bw c w x b a (o+1) m with⟨p,f⟩|⟨i,v,p,f,n,q⟩
   ·grind
   ·refine .inr ⟨i+1,v,by grind,by simpa using f,by simpa using n,λj l=>?_⟩;cases j with
    |zero=>simp;exact λe=>d e.symm
    |succ j=>simpa using q j qZ
def vB.asking{d:TypeDesc}(g:P.underlying k=some d)(c:∀x y,Instr.sameNow d (enc x) (enc y)=none)
  (f:∀(w:World) (x y:κ),(Op.equal k (enc x) (enc y)).run P w=.ok (decide (x=y)) w)
  (o:∀(w:World) (l:Bool) (x:κ),(Instr.checkKey l 10000 k (enc x)).run P w=.ok () w)(n:∀x,Instr.sameBits 10000 (enc x) (enc x)=true):vB P k enc where
 check:=o
 stays w x:=by simp[Instr.keyThatStays,n]
 same w x a b h:=by
  cases a with
  |nil=>
   have:b=[]:=by cases b<;>simp_all
   subst this;exact .inl ⟨by simp[Instr.findKey,dx g,Result.andThen,Instr.findNow],by simp⟩
  |cons e a=>
   cases b with
   |nil=>simp at h
   |cons y b=>
    have i:e.key=enc y:=by grind
    have j:Instr.findNow d (enc x) (e::a) 0=none:=by simp[Instr.findNow,i,c]
    have m:(Instr.findKey k (enc x) (e::a)).run P w=(Instr.findAsking k (enc x) (e::a)).run P w:=by
     simp[Instr.findKey,dx g,Result.andThen,j]
    rw[m];have:=Bw f w x (e::a) (y::b) 0 h;simpa using this
def Ib{d:TypeDesc}(a:∀x y,Instr.sameNow d (enc x) (enc y)=some (decide (x=y)))(x:κ):
  ∀(c:List MapEntry) (b:List κ) (o:Nat),c.map (·.key)=b.map enc->
  (Instr.findNow d (enc x) c o=some none/\x ∉ b)\/∃i v,Instr.findNow d (enc x) c o=some (some (o+i,v))/\(c[i]?).map (·.val)=some v/\b[i]? =some x/\∀j,j<i->b[j]? ≠some x
 | [],b,o,h=>by
  have:b=[]:=by cases b<;>simp_all
  subst this;exact .inl ⟨by simp[Instr.findNow],by simp⟩
 |e::c,[],o,h=>by simp at h
 |e::c,y::b,o,h=>by
  simp only[cM,mR]at h;obtain⟨l,n⟩:=h;by_cases f:x=y
  ·subst f;refine .inr ⟨0,e.val,?_,by simp,by simp,λj m=>absurd m (Nat.not_lt_zero _)⟩;simp[Instr.findNow,l,a]
  ·have s:Instr.findNow d (enc x) (e::c) o=Instr.findNow d (enc x) c (o+1):=by
    simp[Instr.findNow,l,a,f]
   rcases Ib a x c b (o+1) n with⟨q,g⟩|⟨i,v,q,g,p,r⟩
   ·grind
   ·refine .inr ⟨i+1,v,by grind,by simpa using g,by simpa using p,λj m=>?_⟩;cases j with
    |zero=>simp;exact λe=>f e.symm
    |succ j=>simpa using r j qZ
def vB.now{d:TypeDesc}(e:P.underlying k=some d)(a:∀x y,Instr.sameNow d (enc x) (enc y)=some (decide (x=y)))
  (j:∀(w:World) (f:Bool) (x:κ),(Instr.checkKey f 10000 k (enc x)).run P w=.ok () w)(g:∀x,Instr.sameBits 10000 (enc x) (enc x)=true):vB P k enc where
 check:=j
 stays w x:=by simp[Instr.keyThatStays,g]
 same w x es ks h:=by
  rcases Ib a x es ks 0 h with⟨c,b⟩|⟨i,v,c,b⟩
  ·exact .inl ⟨by simp[Instr.findKey,dx e,Result.andThen,c],b⟩
  ·exact .inr ⟨i,v,by simp[Instr.findKey,dx e,Result.andThen,c],b⟩
def vB.int{b:IntKind}(a:P.underlying k=some (.int b)):vB P k (λn:Int=>.int b n):=
 vB.now a (λx y=>by simp only[Instr.sameNow,fh];congr 1) (λw c x=>by
  unfold Instr.checkKey;simp[dx a,Result.andThen]) (λx=>by simp[Instr.sameBits])
end
section
variable{P:Program}{k:TypeId}{κ ν:Type} [DecidableEq κ]{enc:κ->Value}{ev:ν->Value}
def fB(enc:κ->Value)(ev:ν->Value)(w:World)(b:Nat)(L:List (κ×ν)):Prop:=
 (L.map (·.1)).Nodup/\∃es clock,w.heap[b]? =some (.map es clock)/\es.toList.map (λe=>(e.key,e.val))=L.map (λp=>(enc p.1,ev p.2))/\
  (∀x∈es.toList,x.born<clock)/\(es.toList.map (·.born)).Nodup
def fB.keep{w w' :World}{b:Nat}{L:List (κ×ν)}(h:fB enc ev w b L)(f:w'.heap[b]? =w.heap[b]?):fB enc ev w' b L:=by
 obtain⟨g,e,a,c,d⟩:=h;exact⟨g,e,a,by rw[f];exact c,d⟩
def fB.lt{w:World}{b:Nat}{L:List (κ×ν)}(h:fB enc ev w b L):b<w.heap.size:=by
 obtain⟨f,e,a,c,d⟩:=h;exact cB c
def fB.mod{F:Nat->Prop}{w w' :World}{b:Nat}{L:List (κ×ν)}(h:fB enc ev w b L)(a:de F w w')(c:¬F b):fB enc ev w' b L:=
 h.keep (a.blk b h.lt c)
def fB.new(w:World):fB enc ev (w.alloc (.map #[] 0)) w.heap.size ([]:List (κ×ν)):=
 ⟨by simp,#[],0,by rw[gy,bZ rfl],by simp,by simp,by simp⟩
def tx{a:List MapEntry}{L:List (κ×ν)}(h:a.map (λe=>(e.key,e.val))=L.map (λp=>(enc p.1,ev p.2))):a.map (·.key)=(L.map (·.1)).map enc:=by
 have:=fC (List.map Prod.fst) h;simp only[dQ]at this|-;exact this
def ZZ{L:List (κ×ν)}{x:κ}{i:Nat}{p:κ×ν}(c:L[i]? =some p)(d:p.1=x)(f:∀j,j<i->(L.map (·.1))[j]? ≠some x):lk L x=some p.2:=by
 induction L generalizing i with
 |nil=>simp at c
 |cons q r g=>
  obtain⟨a,b⟩:=q;cases i with
  |zero=>
   simp only[List.getElem?_cons_zero,jr]at c;subst c;simp only at d;simp[lk,d]
  |succ i=>
   have:a≠x:=λe=>f 0 qZ (by simp[e]);simp only[lk,aZ this];exact g (by simpa using c) (λj h=>by grind)
def Yj{L:List (κ×ν)}{x:κ}{v:ν}{i:Nat}(c:(L.map (·.1))[i]? =some x)(f:∀j,j<i->(L.map (·.1))[j]? ≠some x):put L x v=L.set i (x,v):=by
 induction L generalizing i with
 |nil=>simp at c
 |cons q r d=>
  obtain⟨a,b⟩:=q;cases i with
  |zero=>
   have:a=x:=by simpa using c
   simp[put,this]
  |succ i=>
   have:a≠x:=λe=>f 0 qZ (by simp[e]);simp only[put,aZ this,List.set_cons_succ];rw[d (by simpa using c) (λj g=>by grind)]
def YC{L:List (κ×ν)}{x:κ}{i:Nat}(c:(L.map (·.1))[i]? =some x)(f:∀j,j<i->(L.map (·.1))[j]? ≠some x):DF L x=L.eraseIdx i:=by
 induction L generalizing i with
 |nil=>simp at c
 |cons q r d=>
  obtain⟨a,b⟩:=q;cases i with
  |zero=>
   have:a=x:=by simpa using c
   simp[DF,this]
  |succ i=>
   have:a≠x:=λe=>f 0 qZ (by simp[e]);simp only[DF,aZ this,mT];rw[d (by simpa using c) (λj g=>by grind)]
def TH{L:List (κ×ν)}{x:κ}{v:ν}(h:x ∉ L.map (·.1)):put L x v=L++[(x,v)]:=by
 induction L with
 |nil=>rfl
 |cons q r c=>
  obtain⟨a,b⟩:=q;simp only[cM,cH,mO]at h;have d:¬a=x:=λe=>h.1 e.symm;simp only[put,aZ d,c h.2,List.cons_append]
def Ir{L:List (κ×ν)}{x:κ}(h:x ∉ L.map (·.1)):DF L x=L:=by
 induction L with
 |nil=>rfl
 |cons q r c=>
  obtain⟨a,b⟩:=q;simp only[cM,cH,mO]at h;have d:¬a=x:=λe=>h.1 e.symm;simp only[DF,aZ d,c h.2]
def qY{α β:Type}(f:α->β):∀(l:List α) (i:Nat),(l.eraseIdx i).map f=(l.map f).eraseIdx i
 | [],_=>rfl
 |_::_,0=>rfl
 |a::l,i+1=>by simp[qY f l i]
def qw(P:Program)(t:TypeId):Option Value:=(P.info? t).bind (·.zero)
def Bj{t:TypeId}{z:Value}(h:qw P t=some z)(w:World):(zeroValue t).run P w=.ok z w:=by
 unfold qw at h;cases a:P.info? t with
 |none=>simp[a]at h
 |some i=>simp[a]at h;simp[zeroValue,typeInfo,a,h]
def DR(enc:κ->Value)(ev:ν->Value)(w:World)(m:Value)(L:List (κ×ν)):Prop:=
 (m=.map none/\L=[])\/∃b,m=.map (some b)/\fB enc ev w b L
def rA{t e:TypeId}{w:World}{m:Value}{L:List (κ×ν)}{x:κ}{ok:Bool}{z:Value}(f:P.underlying t=some (.map k e))(c:vB P k enc)
  (n:qw P e=some z)(A:DR enc ev w m L):
  (Instr.lookup t m (enc x) ok).run P w=.ok (match lk L x with|some v=>if ok then .tuple #[ev v,.bool true]else ev v|none=>if ok then .tuple #[z,.bool false]else z) w:=by
 rcases A with⟨rfl,rfl⟩|⟨b,rfl,C,o,h,j,r,_⟩
 ·rcases c.same w x [] [] rfl with⟨d,_⟩|⟨i,v,_,a,_⟩
  ·simp[Instr.lookup,dx f,c.check,d,Bj n,Result.andThen,lk]
  ·simp at a
 ·rcases c.same w x o.toList (L.map (·.1)) (tx r)with⟨d,a⟩|⟨i,v,d,a,p,s⟩
  ·simp[Instr.lookup,dx f,MapKept.run_getObj_map j,c.check,d,Bj n,Result.andThen,rR a]
  ·have u:i<L.length:=by simpa using(cP.1 p).1
   have g:L[i]? =some L[i]:=cE u;have y:(L[i]).1=x:=by simpa [g]using p
   have B:v=ev (L[i]).2:=by
    have:=fC (λl=>(l[i]?).map Prod.snd) r;simp only[dO,g,Option.map_map,iD]at this;have q:(o.toList[i]?).map (·.val)=some (ev (L[i]).2):=by grind
    rw[a]at q;exact dB q
   simp[Instr.lookup,dx f,MapKept.run_getObj_map j,c.check,d,Result.andThen,ZZ g y s,B]
def vr{t e:TypeId}{w:World}{K:cG}{m:Value}{L:List (κ×ν)}{x:κ}(z:Value)(c:P.underlying t=some (.map k e))(b:vB P k enc)
  (d:qw P e=some z)(a:DR enc ev w m L)(f:K ((lk L x).elim z ev) w):rx P (ji t m (enc x) false) w K:=
 iW (by unfold ji;exact rA c b d a) (by grind)
def zC{t e:TypeId}{w:World}{K:cG}{m:Value}{L:List (κ×ν)}{x:κ}(z:Value)(c:P.underlying t=some (.map k e))(b:vB P k enc)
  (d:qw P e=some z)(a:DR enc ev w m L)(f:K (.tuple #[(lk L x).elim z ev,.bool (lk L x).isSome]) w):rx P (ji t m (enc x) true) w K:=
 iW (by unfold ji;exact rA c b d a) (by grind)
def NQ{t e:TypeId}{w:World}{K:Value->Prop}{m:Value}{L:List (κ×ν)}{x:κ}(z:Value)(c:P.underlying t=some (.map k e))(b:vB P k enc)
  (d:qw P e=some z)(a:DR enc ev w m L)(f:K (.tuple #[(lk L x).elim z ev,.bool (lk L x).isSome])):pS P (ji t m (enc x) true) w K:=
 li (by unfold ji;exact rA c b d a) (by grind)
def NR{c:List MapEntry}{L:List (κ×ν)}{i:Nat}{x:κ}{v:ν}{key val:Value}(h:c.map (λe=>(e.key,e.val))=L.map (λp=>(enc p.1,ev p.2)))(a:key=enc x)(b:val=ev v):
  (c.modify i λe=>{e with key:=key,val:=val}).map (λe=>(e.key,e.val))=(L.set i (x,v)).map (λp=>(enc p.1,ev p.2)):=by
 subst a b;apply ny;intro j;have g:=fC (λl=>l[j]?) h;simp only[dO]at g;simp only[dO,nX,List.getElem?_set];by_cases d:i=j
 ·subst d;simp only[fh];have m:c.length=L.length:=by simpa using fC List.length h
  by_cases f:i<L.length
  ·grind
  ·grind
 ·grind
def DV{t e:TypeId}{w:World}{b:Nat}{L:List (κ×ν)}{x:κ}{v:ν}(D:P.underlying t=some (.map k e))(q:vB P k enc)(H:fB enc ev w b L):
  ∃o,(Instr.mapUpdate t (.map (some b)) (enc x) (ev v)).run P w=.ok () (w.putObj b o)/\fB enc ev (w.putObj b o) b (put L x v):=by
 obtain⟨F,d,a,g,r,z,A⟩:=H;rcases q.same w x d.toList (L.map (·.1)) (tx r)with⟨s,C⟩|⟨i,u,s,C,B,G⟩
 ·refine⟨.map (d.push {key:=enc x,val:=ev v,born:=a}) (a+1),?_,Ea F x v,_,_,by rw[fY,bZ rfl,g];rfl,?_,?_,?_⟩
  ·simp[Instr.mapUpdate,dx D,MapKept.run_getObj_map g,q.check,s,MapKept.run_setObj_map _ g,Result.andThen,World.putObj]
  ·simp[r,TH C]
  ·intro y n;simp only[Array.toList_push,dg,eK]at n;rcases n with n|rfl
   ·grind
   ·grind
  ·grind
 ·have m:(Option.map (λe=>e.key) d[i]?).getD (enc x)=enc x:=by
   have:=fC (λl=>l[i]?) (tx r);simp only[dO]at this B;rw[B]at this;rw[nN]at this;rw[this];rfl
  have c:(d.modify i λe=>{e with key:=enc x,val:=ev v}).toList=d.toList.modify i λe=>{e with key:=enc x,val:=ev v}:=by simp
  refine⟨.map (d.modify i λe=>{e with key:=enc x,val:=ev v}) a,?_,Ea F x v,_,_,by rw[fY,bZ rfl,g];rfl,?_,?_,?_⟩
  ·simp[Instr.mapUpdate,dx D,MapKept.run_getObj_map g,q.check,s,MapKept.run_setObj_map _ g,Result.andThen,m,q.stays,World.putObj]
  ·rw[Yj B G,c];exact NR r rfl rfl
  ·rw[c];intro y n;obtain⟨j,p⟩:=List.mem_iff_getElem?.1 n;rw[nX]at p;cases f:d.toList[j]? with
   |none=>simp[f]at p
   |some E=>
    rw[f]at p;replace p:(if i=j then _ else E)=y:=dB p;have:=z E (dL f);by_cases h:i=j
    ·grind
    ·grind
  ·rw[c]
   have:(d.toList.modify i λe=>{e with key:=enc x,val:=ev v}).map (·.born)=d.toList.map (·.born):=by
    apply ny;intro j;simp only[dO,nX];by_cases h:i=j
    ·grind
    ·simp[h]
   rw[this];exact A
def kV{t e:TypeId}{w:World}{K:World->Prop}{b:Nat}{L:List (κ×ν)}{x:κ}{v:ν}(j:P.underlying t=some (.map k e))(d:vB P k enc)(c:fB enc ev w b L)
  (h:∀a,fB enc ev a b (put L x v)->de (λi=>i=b) w a->a.heap.size=w.heap.size->K a):nj P (nm t (.map (some b)) (enc x) (ev v)) w K:=by
 obtain⟨o,g,f⟩:=DV (v:=v) (x:=x) j d c;exact RF (by unfold nm;exact g) (h _ f ((de.refl _ w).putObj (b:=b) (.inl (by simp)) _) (lQ ..))
def Em{t u e:TypeId}{w:World}{K:cG}{ts:TypeId}{m:Value}{L:List (κ×ν)}{x:κ}(j:P.underlying t=some (.map k e))(g:vB P k enc)(B:DR enc ev w m L)
  (o:∀f,DR enc ev f m (DF L x)->de (λy=>m=.map (some y)) w f->f.heap.size=w.heap.size->K (.tuple #[]) f):rx P (wo #[t,u] ts [m,enc x]) w K:=by
 rcases B with⟨rfl,rfl⟩|⟨b,rfl,s,c,a,d,r,p,q⟩
 ·exact sq (.tuple #[]) w (by simp[wo,Builtin.delete_,dx j,g.check,Result.andThen]) (o _ (.inl ⟨rfl,rfl⟩) lX rfl)
 ·rcases g.same w x c.toList (L.map (·.1)) (tx r)with⟨n,h⟩|⟨i,v,n,h,A,z⟩
  ·refine sq (.tuple #[]) (w.putObj b (.map c a)) (by simp[wo,Builtin.delete_,dx j,MapKept.run_getObj_map d,g.check,n,MapKept.run_setObj_map _ d,Result.andThen,World.putObj])
    (o _ (.inr ⟨b,rfl,by rw[Ir h];exact s,c,a,by rw[fY,bZ rfl,d];rfl,by rw[Ir h];exact r,p,q⟩) ((de.refl _ w).putObj (b:=b) (.inl (by simp)) _) (lQ ..))
  ·have l:(c.eraseIdxIfInBounds i).toList=c.toList.eraseIdx i:=by simp
   refine sq (.tuple #[]) (w.putObj b (.map (c.eraseIdxIfInBounds i) a)) (by simp[wo,Builtin.delete_,dx j,MapKept.run_getObj_map d,g.check,n,MapKept.run_setObj_map _ d,Result.andThen,World.putObj])
    (o _ (.inr ⟨b,rfl,MT s x,c.eraseIdxIfInBounds i,a,by rw[fY,bZ rfl,d];rfl,?_,?_,?_⟩) ((de.refl _ w).putObj (b:=b) (.inl (by simp)) _) (lQ ..))
   ·rw[YC A z,l,qY,r,<-qY]
   ·grind
   ·grind
end
end Go.Vc
namespace Go.Vc
open Go Go.ChangeShapes Go.WideShapes Go.ChangeAt Go.RowKit
section
variable{H:Type}{enc:TypeId×Value->H}{P:Program}
def de.same{W a:World}(h:de (λ_=>False) W a){p:MemPlace}(hp:p.block<W.heap.size):W.sameAt a p:=by
 cases p with
 |cell b o=>exact World.cell?_of_block (w:=W) (h.blk b hp id)
 |map b=>exact h.blk b hp id
def de.frame{W a:World}(h:de (λ_=>False) W a)(may:MemPlace->Prop):W.keptBut a may:=by
 refine⟨h.os,h.out,λi b=>?_⟩;rw[h.blk i b id];split<;>simp_all
def yn{W k:World}(g:laidOutB P=true)(j:de (λ_=>False) W k):∀{ts:List TypeId} {e:List Value} {ds:List (DataW H)} {a:List MemPlace},
  (∀t∈ts,P.readableRec t=true/\t<P.types.size)->(∀x∈a,x.block<W.heap.size)->DataW.TrodAll enc P W 0 (λ_=>true) true ts e ds a->
  DataW.TrodAll enc P k 0 (λb=>decide (b<W.heap.size)) true ts e ds a
 | [],[],[],_,_,_,h=>h
 |t::ts,v::e,d::ds,a,f,hp,⟨p,q,m,l,n⟩=>by
  subst n;refine⟨p,q,?_,yn g j (λt h=>f t (cu _ h)) (λx c=>hp x (gg _ c)) l,rfl⟩;have i:=f t cw;exact WideElems.Trod_stays g i.1 i.2 m (λx c=>j.same (hp x (fk _ c))) (λx c=>by grind)
def post_of_mod{f:Func}{s:ChangeSpec}{d a:Bool}{W v:World}{b:Array Value}{ds gs:List (DataW H)}{c:List MemPlace}{n:TypeId}
  (z:laidOutB P=true)(w:(f.params.toList.all λt=>P.readableRec t&& Nat.blt t P.types.size)=true)(r:s.vars=[])
  (m:DataW.Whole enc P f.params.toList s.vars false W b.toList ds gs c)(o:de (λ_=>False) W v)
  (i:f.resultTypes= #[n])(l:P.underlying n=some .bool)(e:s.fn H (ds++gs)={results:=[.lit (.bool true)],args:=ds}):
  s.post enc P f false d a false W b (.bool true) v:=by
 have g:=m;obtain⟨p,q,y,u,rfl,C,A⟩:=m;rw[r]at u;obtain⟨rfl,rfl⟩:=trodVars_none u
 have k:∀t∈f.params.toList,P.readableRec t=true/\t<P.types.size:=λt h=>by
  have:=dF.1 w t h;simp only[cL,oX]at this;exact this
 have j:=g.lt;refine⟨ds,[],p++[],[],p,[],g,?_,?_,?_,o.frame _,λh=>by cases h⟩
 ·rw[e,i];exact trodAll_cons_mk (shut_bool l true) trodAll_mk0
 ·rw[e];exact yn z o k (λx B=>j x (by simpa using B)) y
 ·rw[r,e];rfl
def Jm{w:World}{a:Addr}{v:Value}(h:w.cell? a=some v):a.spot=none/\∃C e fz,w.heap[a.block]? =some (.cells C e fz)/\C[a.off]? =some v:=by
 unfold World.cell? at h;cases b:w.heap[a.block]? with
 |none=>rw[b]at h;cases h
 |some o=>
  rw[b]at h;cases o<;>simp at h
  obtain⟨c,d⟩:=h;exact⟨c,_,_,_,rfl,d⟩
def mJ{w:World}{a:Addr}{n cap sz:Nat}{cs:List Value}(s:n<=cap)(j:cs.length=n*sz)(d:∀i v,cs[i]? =some v->w.cell? (a.add i)=some v)(q:0<sz):Rd w sz (.slice (some a) n cap) n cs:=by
 by_cases o:n=0
 ·subst o;exact⟨j,.inl ⟨rfl,_,_,rfl⟩⟩
 have f:0<cs.length:=by rw[j];exact Nat.mul_pos (by omega) q
 obtain⟨b,c,k⟩:=a;obtain⟨g,C,e,fz,hC,-⟩:=Jm (by have:=d 0 _ (cE f);simpa [Addr.add]using this);simp only at g hC;subst g
 have h:∀i v,cs[i]? =some v->C[c+i]? =some v:=by
  intro i v m;have l:=d i v m;have r:(Addr.add ⟨b,c,none⟩ i)=⟨b,c+i,none⟩:=cS b c i;rw[r]at l;simpa [World.cell?,hC]using l
 have p:c+(cs.length - 1)<C.size:=(js.1 (h (cs.length - 1) _ (cE (by omega)))).1;refine⟨j,.inr ⟨b,c,cap,rfl,s,C,e,fz,hC,by omega,?_⟩⟩;apply ny;intro i;rw[iE];by_cases m:i<cs.length
 ·grind
 ·grind
end
section
variable{H:Type}{enc:TypeId×Value->H}{P:Program}{w:World}{base:Nat}{spare:Nat->Bool}{held:Bool}
def Wt(P:Program)(B:Nat)(t:TypeId)(d:DataW H):Prop:=∀m∈d.weights P t,m<=B
def zZ{g:Field->Option (DataW H×List MemPlace)}:∀{l:List Field} {r:List (DataW H×List MemPlace)},l.mapM g=some r->∀f∈l,∃y,g f=some y/\∀m∈y.1.weights P f.type,m∈DataW.weightsEach P (l.map (·.type)) (r.map (·.1))
 | [],_,_,x,c=>by cases c
 |a::l,r,h,x,c=>by
  rw[sh]at h;cases e:g a with
  |none=>simp[e]at h
  |some b=>
   cases d:l.mapM g with
   |none=>simp[e,d]at h
   |some n=>
    simp[e,d]at h;subst h;simp only[cM,DataW.weightsEach,dg];rcases cH.1 c with rfl|c
    ·grind
    ·obtain⟨y,j,i⟩:=zZ d x c;exact⟨y,j,λm k=>.inr (i m k)⟩
def ET{t:TypeId}{d:Array Field}{a:Nat}{cs:List Value}{x:DataW H×List MemPlace}{B:Nat}(c:P.underlying t=some (.struct d))(b:DataW.trod enc P w base spare held a t cs=some x)(l:Wt P B t x.1):
  ∀f∈d.toList,∃j y,DataW.trod enc P w base spare held j f.type ((cs.drop f.offset).take (P.cellsOf f.type))=some y/\Wt P B f.type y.1:=by
 cases a with
 |zero=>simp[DataW.trod]at b
 |succ n=>
  intro f h;simp only[DataW.trod,c]at b;split at b
  ·rw[Option.map_eq_some_iff]at b;obtain⟨o,e,rfl⟩:=b;obtain⟨y,i,g⟩:=zZ (P:=P) e f h;refine⟨n,y,i,λm k=>l m ?_⟩;simp only[DataW.weights,c];exact g m k
  ·cases b
end
end Go.Vc
namespace Go.Vc
open Go Go.Vc
variable {sz n:Nat}{P:Program}{s:Sem Value}{e t:TypeId}{v:Value}{w w' :World}{K:cG}
structure CW(P:Program)(gv:Value)(xs:List (List Value))(Ok:World->Prop):Prop where
 out:∃f first captured,gv=.func (.func f) first captured/\∀(y:Value) (J:(Nat->Prop)->Nat->World->Prop) (Js:World->Prop) (W:World) (K:cG),Ok W->
  (∀Q W1,M0 W W1->(∀b,Q b->W.heap.size<=b/\b<W1.heap.size)->J Q 0 W1)->
  (∀Q i W W',J Q i W->M0 W W' ->J Q i W')->
  (∀Q i x W,xs[i]? =some x->J Q i W->∀K' :cG,(∀W',J Q (i+1) W' ->(∀b,Q b->W'.heap[b]? =W.heap[b]?)->K' (.bool true) W')->(∀W',Js W' ->K' (.bool false) W')->iv P y x W K')->
  (∀Q W,J Q xs.length W->K (.tuple #[]) W)->(∀W,Js W->K (.tuple #[]) W)->Ca P f ⟨first.toList++(y::captured.toList)⟩ W K
def ux{l:Nat}{W:World}{K:World->Prop}{r:Loop}(h:W.heap[l]? =some (.loop r))(b:r.state=.ready)(a:K (W.putObj l (.loop {r with state:=.busy}))):lC l W K:=
 ⟨⟨r,h,b,a⟩⟩
section
variable{P:Program}{gv:Value}{w1:World}{np:Nat}{rnd:Nat->List Value->World->(World->Prop)->(Code->World->Prop)->Prop}{after:List Nat->Option Code->World->Prop}
 {xs:List (List Value)}{Ok:World->Prop}
def Tj{f:FuncId}{first e:Array Value}{mk:List Nat}
  (B:∀(y:Value) (J:(Nat->Prop)->Nat->World->Prop) (V:World->Prop) (W:World) (K:cG),Ok W->
   (∀Q z,M0 W z->(∀b,Q b->W.heap.size<=b/\b<z.heap.size)->J Q 0 z)->
   (∀Q i W a,J Q i W->M0 W a->J Q i a)->
   (∀Q i x W,xs[i]? =some x->J Q i W->∀u:cG,(∀a,J Q (i+1) a->(∀b,Q b->a.heap[b]? =W.heap[b]?)->u (.bool true) a)->(∀a,V a->u (.bool false) a)->iv P y x W u)->
   (∀Q W,J Q xs.length W->K (.tuple #[]) W)->(∀W,V W->K (.tuple #[]) W)->Ca P f ⟨first.toList++(y::e.toList)⟩ W K)
  (O:∀x∈xs,x.length=np)(J:(Nat->Prop)->Nat->World->Prop)(I:Code->World->Prop)
  (N:∀o,Ok (w1.alloc (.loop o)))
  (Y:∀o Q W,M0 (w1.alloc (.loop o)) W->(∀b,Q b->w1.heap.size<b/\b<W.heap.size)->J Q 0 W)
  (l:∀Q i W a,J Q i W->de (λb=>b=w1.heap.size) W a->J Q i a)
  (q:∀Q i x W r,xs[i]? =some x->J Q i W->W.heap[w1.heap.size]? =some (.loop r)->r.state=.ready->∀R S,
   (∀a,J Q (i+1) a->a.heap[w1.heap.size]? =some (.loop {r with state:=.busy})->(∀b,Q b->a.heap[b]? =W.heap[b]?)->R a)->
   (∀c a,I c a->a.heap[w1.heap.size]? =some (.loop {r with state:=.busy})->S c a)->rnd w1.heap.size x W R S)
  (v:∀Q W o,J Q xs.length W->after mk none (W.putObj w1.heap.size (.loop o)))
  (s:∀c W o,I c W->after mk (some c) (W.putObj w1.heap.size (.loop o)))
  (d:Loop)(g:d.state=.ready)(j:d.pending=none)
  (hY:∀(h:List Value) (W:World) (K:cG),h.length=np->P9 W w1.heap.size d->
    rnd w1.heap.size h W
     (λa=>∃r,wU a w1.heap.size r/\K (.bool true) (a.putObj w1.heap.size (.loop {r with state:=.ready,pending:=none})))
     (λc a=>∃r,wU a w1.heap.size r/\K (.bool false) (a.putObj w1.heap.size (.loop {r with state:=.done,pending:=some c})))->
    Yl P w1.heap.size ⟨h⟩ W K):
  Ca P f ⟨first.toList++(.func (.yield w1.heap.size) #[] #[]::e.toList)⟩ (w1.alloc (.loop d)) λ_ W=>
    ∃r,wU W w1.heap.size r/\r.state≠ .busy/\after mk r.pending (W.putObj w1.heap.size (.loop {r with state:=.exhausted})):=by
 have D:∀(W:World) (o:Obj),de (λb=>b=w1.heap.size) W (W.putObj w1.heap.size o):=λW o=>(de.refl _ W).putObj (b:=w1.heap.size) (.inl (by simp)) o;have n:(w1.alloc (.loop d)).heap[w1.heap.size]? =some (.loop d):=by rw[gy,bZ rfl]
 have T:(w1.alloc (.loop d)).heap.size=w1.heap.size+1:=eG ..
 refine B _ (λQ i W=>J Q i W/\W.heap[w1.heap.size]? =some (.loop d)/\∀b,Q b->w1.heap.size<b)
  (λW=>∃c r t,I c t/\W=t.putObj w1.heap.size (.loop r)/\W.heap[w1.heap.size]? =some (.loop r)/\r.state=.done/\r.pending=some c) _ _ (N d) ?_ ?_ ?_ ?_ ?_
 ·intro Q z C w;refine⟨Y d Q z C λb E=>⟨?_,(w b E).2⟩,C.keep n id,λb E=>?_⟩
  ·grind
  ·grind
 ·rintro Q i W a ⟨A,m,w⟩ C;exact⟨l Q i W a A (C.mono λ_ _ hf=>hf.elim),C.keep m id,w⟩
 ·rintro Q i x W U ⟨A,m,w⟩ u hT hF;apply oe.2;show Yl P w1.heap.size ⟨_⟩ W u;have F:x.length=np:=O x (dL U);have e1:(#[]:Array Value).toList++x=x:=rfl;rw[e1];apply hY x W u F ⟨d.state,d.pending,m⟩;refine q Q i x W d U A m g _ _ ?_ ?_
  ·intro a G k Z;refine⟨_,k,hT _ ⟨l _ _ _ _ G (D _ _),?_,w⟩ λb E=>?_⟩
   ·rw[fY,bZ rfl,k];simp[<-g,<-j]
   ·rw[fY,aZ (by grind)];exact Z b E
  ·intro c a p k;refine⟨_,k,hF _ ⟨c,{d with state:=.done,pending:=some c},a,p,rfl,?_,rfl,rfl⟩⟩;rw[fY,bZ rfl,k];rfl
 ·rintro Q W ⟨A,m,_⟩;refine⟨d,m,by rw[g];decide,?_⟩;rw[j];exact v Q W _ A
 ·rintro W ⟨c,r,t,p,rfl,m,L,H⟩;refine⟨r,m,by rw[L];decide,?_⟩
  have X:∀o M:Obj,(t.putObj w1.heap.size o).putObj w1.heap.size M=t.putObj w1.heap.size M:=λo M=>by
   simp[World.putObj]
  rw[X,H];exact s c t _ p
def Is{w:World}(m:CW P gv xs Ok)(l:∀x∈xs,x.length=np)(J:(Nat->Prop)->Nat->World->Prop)(k:Code->World->Prop)
  (s:∀o,Ok ((w.alloc (.deferred (some []))).alloc (.loop o)))
  (A:∀o Q W,M0 ((w.alloc (.deferred (some []))).alloc (.loop o)) W->(∀b,Q b->w.heap.size+1<b/\b<W.heap.size)->J Q 0 W)
  (v:∀Q i W a,J Q i W->de (λb=>b=w.heap.size+1) W a->J Q i a)
  (p:∀Q i x W r,xs[i]? =some x->J Q i W->W.heap[w.heap.size+1]? =some (.loop r)->r.state=.ready->∀t y,
   (∀a,J Q (i+1) a->a.heap[w.heap.size+1]? =some (.loop {r with state:=.busy})->(∀b,Q b->a.heap[b]? =W.heap[b]?)->t a)->
   (∀c a,k c a->a.heap[w.heap.size+1]? =some (.loop {r with state:=.busy})->y c a)->rnd (w.heap.size+1) x W t y)
  (u:∀Q W o,J Q xs.length W->after [w.heap.size] none (W.putObj (w.heap.size+1) (.loop o)))
  (q:∀c W o,k c W->after [w.heap.size] (some c) (W.putObj (w.heap.size+1) (.loop o))):
  yP P none gv w np rnd after:=by
 obtain⟨f,first,g,rfl,h⟩:=m.out;apply wu.2;show∀j:Loop,_;intro j d e B z;have n:(w.alloc (.deferred (some []))).heap.size=w.heap.size+1:=eG ..;refine Tj (w1:=w.alloc (.deferred (some []))) h l J k s ?_ ?_ ?_ ?_ ?_ j d e z
 all_goals rw[n]
 all_goals assumption
end
def KL{C xs a:List Value}{o:Nat}(h:o+xs.length+a.length<=C.length):mh (mh C o xs) (o+xs.length) a=mh C o (xs++a):=by
 unfold mh
 have c:(C.take o++xs++C.drop (o+xs.length)).take (o+xs.length)=C.take o++xs:=by
  rw[dh (by simp;omega),cT (by simp;omega)]
 have b:(C.take o++xs++C.drop (o+xs.length)).drop (o+xs.length+a.length)=C.drop (o+(xs++a).length):=by
  rw[qF,List.drop_eq_nil_of_le (by simp;omega),jO,eN];congr 1;simp;omega
 rw[c,b];simp[df]
section
variable{P:Program}{k:TypeId}{κ ν:Type}{enc:κ->Value}{ev:ν->Value}
def nD(enc:κ->Value)(ev:ν->Value)(w:World)(it m:Nat)(rest:List (κ×ν)):Prop:=
 ∃es clock seen,w.heap[m]? =some (.map es clock)/\w.heap[it]? =some (.mapIter (some m) clock seen clock)/\(∀x∈es.toList,x.born<clock)/\(es.toList.map (·.born)).Nodup/\
  (es.toList.filter λe=> !seen.contains e.born).map (λe=>(e.key,e.val))=rest.map (λp=>(enc p.1,ev p.2))
def nD.keep{w w' :World}{b m:Nat}{rest:List (κ×ν)}(h:nD enc ev w b m rest)(f:w'.heap[m]? =w.heap[m]?)(d:w'.heap[b]? =w.heap[b]?):nD enc ev w' b m rest:=by
 obtain⟨g,a,seen,c,i,e⟩:=h;exact⟨g,a,seen,by rw[f];exact c,by rw[d];exact i,e⟩
def nD.lt{w:World}{b m:Nat}{rest:List (κ×ν)}(h:nD enc ev w b m rest):m<w.heap.size/\b<w.heap.size:=by
 obtain⟨f,a,seen,c,d,e⟩:=h;exact⟨cB c,cB d⟩
def nD.mod{F:Nat->Prop}{w w' :World}{a m:Nat}{rest:List (κ×ν)}(h:nD enc ev w a m rest)(b:de F w w')(d:¬F m)(c:¬F a):nD enc ev w' a m rest:=
 h.keep (b.blk m h.lt.1 d) (b.blk a h.lt.2 c)
def rm(it m:Nat)(w:World):Nat:=
 match w.heap[it]?,w.heap[m]? with
 |some (.mapIter _ _ seen _),some (.map es _)=>(es.toList.filter λe=> !seen.contains e.born).length
 |_,_=>0
def nD.left{w:World}{b m:Nat}{rest:List (κ×ν)}(h:nD enc ev w b m rest):rm b m w=rest.length:=by
 obtain⟨f,a,seen,c,e,_,_,d⟩:=h;unfold rm;rw[c,e];simpa using fC List.length d
def sw [DecidableEq κ]{t e:TypeId}{w:World}{K:cG}{b:Nat}{L:List (κ×ν)}(m:P.underlying t=some (.map k e))(h:fB enc ev w b L)
  (j:∀d,nD enc ev d w.heap.size b L->M0 w d->K (.pointer (some ⟨w.heap.size,0,none⟩)) d):rx P (ue t (.map (some b))) w K:=by
 obtain⟨n,l,a,g,i,c,f⟩:=h;refine sq (.pointer (some ⟨w.heap.size,0,none⟩)) (w.alloc (.mapIter (some b) a #[] a)) ?_ (j _ ⟨l,a,#[],?_,?_,c,f,?_⟩ lm)
 ·simp[ue,Instr.range,dx m,MapKept.run_getObj_map g,Result.andThen]
 ·rw[gy,aZ (by grind)];exact g
 ·rw[gy,bZ rfl]
 ·rw[<-i];congr 1;exact fi.2 λ_ _=>by simp
def uk{w:World}{r:Nat}{m:Option Nat}{a:Nat}{s:Array Nat}{c:Nat}(b:w.heap[r]? =some (.mapIter m a s c)):(getObj r).run P w=.ok (.mapIter m a s c) w:=by
 simp[getObj,Sem.run,b]
def BY{w:World}{r:Nat}{m:Option Nat}{a:Nat}{s:Array Nat}{c:Nat}(o:Obj)(b:w.heap[r]? =some (.mapIter m a s c)):(setObj r o).run P w=.ok () (w.putObj r o):=by
 simp[setObj,Sem.run,b,World.putObj]
def PE(enc:κ->Value)(ev:ν->Value)(w:World)(it m:Nat)(p:κ×ν):Prop:=
 ∃es clock since seen stamp e,w.heap[m]? =some (.map es clock)/\w.heap[it]? =some (.mapIter (some m) since seen clock)/\seen.back? =some stamp/\es.find? (λx=>x.born==stamp)=some e/\e.key=enc p.1/\e.val=ev p.2
def sg{w:World}{K:cG}{d m:Nat}{p:κ×ν}(h:PE enc ev w d m p)(i:K (.tuple #[enc p.1,ev p.2]) w):rx P (uf (.pointer (some ⟨d,0,none⟩))) w K:=by
 obtain⟨q,b,a,seen,c,e,n,l,f,j,g,o⟩:=h;refine iW ?_ i;simp[uf,Instr.entry,uk l,MapKept.run_getObj_map n,Result.andThen,f,j,g,o]
def My{l:List MapEntry}{x:MapEntry}(b:(l.map (·.born)).Nodup)(a:x∈l):l.find? (λe=>e.born==x.born)=some x:=by
 induction l with
 |nil=>cases a
 |cons y l c=>
  simp only[cM,dA]at b;rcases cH.1 a with rfl|a
  ·simp
  ·grind
def Ig(b:List MapEntry)(seen:Array Nat)(x:MapEntry)(d:(b.map (·.born)).Nodup)(m:x∈b)(j: !seen.contains x.born)(i:Nat)
  (hi:(b.filter λe=> !seen.contains e.born)[i]? =some x):
  b.filter (λe=> !(seen.push x.born).contains e.born)=(b.filter λe=> !seen.contains e.born).eraseIdx i:=by
 have f:b.filter (λe=> !(seen.push x.born).contains e.born)=(b.filter λe=> !seen.contains e.born).filter (λe=> !(e.born==x.born)):=by
  rw[lF];apply gF;intro e _;simp only[Array.contains_push,Bool.not_or];rw[Bool.and_comm]
 rw[f];have a:((b.filter λe=> !seen.contains e.born).map (·.born)).Nodup:=d.sublist (jv.map _);generalize(b.filter λe=> !seen.contains e.born)=l at hi a;clear f j m d;induction l generalizing i with
 |nil=>simp at hi
 |cons y l n=>
  simp only[cM,dA]at a;cases i with
  |zero=>
   have:y=x:=by simpa using hi
   subst this;rw[cY (by simp)];simp only[List.eraseIdx_cons_zero];refine fi.2 λz g=>?_;have:z.born≠y.born:=λh=>a.1 (h▸dn g);simpa using this
  |succ i=>
   have c:x∈l:=dL (by simpa using hi);have:y.born≠x.born:=λh=>a.1 (h▸dn c);rw[dI (by simpa using this)];simp only[mT];rw[n i (by simpa using hi) a.2]
def uv{t:TypeId}{w:World}{K:cG}{q m:Nat}{rest:List (κ×ν)}(h:nD enc ev w q m rest)
  (h0:rest=[]->∀v,M0 w v->v.heap=w.heap->K (.tuple #[.bool false]) v)
  (h1:∀i p,rest[i]? =some p->∀v,nD enc ev v q m (rest.eraseIdx i)->PE enc ev v q m p->de (λb=>b=q) w v->v.heap.size=w.heap.size->K (.tuple #[.bool true,enc p.1,ev p.2]) v):
  rx P (wh (.pointer (some ⟨q,0,none⟩)) false t) w K:=by
 obtain⟨c,a,seen,M,N,y,F,T⟩:=h
 have g:(!seen.isEmpty&& !c.isEmpty&& c.all (λx=>decide (x.born≥a)))=false:=by
  cases u:c.isEmpty with
  |true=>simp
  |false=>
   have R:0<c.size:=by
    rcases Nat.eq_zero_or_pos c.size with h|h
    ·rw[Array.isEmpty_iff.2 (lh h)]at u;cases u
    ·exact h
   have:(c.all λx=>decide (x.born≥a))=false:=by
    rw[kI];intro Z;have h2:=y c[0] (by simp);have h3:=Array.all_eq_true.1 Z 0 R;simp at h3;omega
   rw[this];simp
 have j:(c.filter λe=> !seen.contains e.born).filter (λe=>decide (e.born<a))=c.filter λe=> !seen.contains e.born:=by
  refine Array.filter_eq_self.2 λx H=>?_;exact db (y x (by simpa using(Array.mem_filter.1 H).1))
 have n:(c.filter λe=> !seen.contains e.born).filter (λe=>decide (e.born≥a))= #[]:=by
  refine Array.filter_eq_empty_iff.2 λx H=>?_;have:=y x (by simpa using(Array.mem_filter.1 H).1);simp;omega
 have d:(c.filter λe=> !seen.contains e.born).toList=c.toList.filter λe=> !seen.contains e.born:=by simp
 generalize V:(c.filter λe=> !seen.contains e.born)=left at j n d
 have z:left.size=rest.length:=by
  rw[<-mI,d];simpa using fC List.length T
 by_cases W:rest=[]
 ·subst W;have Q:left= #[]:=lh (by simpa using z);subst Q
  have o:(Instr.next (.pointer (some ⟨q,0,none⟩)) false t).run P w=.ok (.tuple #[.bool false]) w:=by
   unfold Instr.next;simp only[fE,uk N,MapKept.run_getObj_map M,Result.andThen];rw[g];simp only[dE,eW];rw[V,j,n];have S:((if(#[]:Array MapEntry).isEmpty=true then #[none]else #[])++((#[]:Array MapEntry)++ #[]).map some)= #[none]:=by simp
   rw[S];simp[run_choose,Question.forced,Result.andThen]
  exact iW (by unfold wh;exact o) (h0 rfl w lX rfl)
 ·have f:0<left.size:=by
   rw[z];exact List.length_pos_iff.2 W
  have u:left.isEmpty=false:=by
   cases h:left.isEmpty with
   |false=>rfl
   |true=>rw[Array.isEmpty_iff.1 h]at f;simp at f
  obtain⟨i,s,O,L,D⟩:∃(i:Nat) (s:World),i<left.size/\(s=w\/s=w.drew)/\(choose (Question.mapNext left.size)).run P w=.ok i s:=by
   by_cases X:(Question.mapNext left.size).forced=true
   ·exact⟨0,w,f,.inl rfl,by rw[run_choose,bZ X]⟩
   ·refine⟨_,w.drew,?_,.inr rfl,by rw[run_choose,aZ X];rfl⟩;exact gR _ f
  have H:left[i]? =some left[i]:=kz O
  have B:(c.toList.filter λe=> !seen.contains e.born)[i]? =some left[i]:=by
   rw[<-d,nN];exact H
  have G:=dL B;have J:i<rest.length:=qZ
  have hp:(left[i].key,left[i].val)=(enc rest[i].1,ev rest[i].2):=by
   have:=fC (λl=>l[i]?) T;simp only[dO,B,cE J,iD,jr]at this;exact this
  have r:s.heap=w.heap:=by rcases L with rfl|rfl<;>rfl
  have C:s.heap[q]? =some (.mapIter (some m) a seen a):=by rw[r];exact N
  have I:s.heap[m]? =some (.map c a):=by rw[r];exact M
  have E:de (λb=>b=q) w s:=by
   rcases L with rfl|rfl
   ·exact lX
   ·exact(de.refl _ _).drew
  have A:q≠m:=by
   intro h;subst h;rw[N]at M;cases M
  have o:(Instr.next (.pointer (some ⟨q,0,none⟩)) false t).run P w=.ok (.tuple #[.bool true,left[i].key,left[i].val]) (s.putObj q (.mapIter (some m) a (seen.push left[i].born) a)):=by
   unfold Instr.next;simp only[fE,uk N,MapKept.run_getObj_map M,Result.andThen];rw[g];simp only[dE,eW];rw[V,j,n,u];have S:((if false=true then #[none]else #[])++(left++ #[]).map some)=left.map some:=by simp
   rw[S];simp only[fE,ly,Array.size_map,D,Result.andThen,Array.getElem?_map,H,iD,BY _ C]
  apply iW (by unfold wh;exact o);have U:left[i].key=enc rest[i].1:=(Prod.mk.inj hp).1;have Y:left[i].val=ev rest[i].2:=(Prod.mk.inj hp).2;rw[U,Y];refine h1 i rest[i] (cE J) _ ⟨c,a,seen.push left[i].born,?_,?_,y,F,?_⟩ ?_ (E.putObj (.inl rfl) _) ?_
  ·rw[fY,aZ (λe=>A e.symm)];exact I
  ·rw[fY,bZ rfl,C];rfl
  ·rw[Ig c.toList seen left[i] F (cO.1 G).1 (cO.1 G).2 i B,qY,T,<-qY]
  ·refine⟨c,a,a,seen.push left[i].born,left[i].born,left[i],?_,?_,by simp,?_,U,Y⟩
   ·rw[fY,aZ (λe=>A e.symm)];exact I
   ·rw[fY,bZ rfl,C];rfl
   ·rw[<-Array.find?_toList];exact My F (cO.1 G).1
  ·rw[lQ,r]
end
def vD{h:TypeId}{len:Nat}{cs:Array Value}{k:IntKind}{i:Nat}(j:P.underlying h=some (.array len e))(f:pY P e=false)(g:(P.underlying e).isSome=true)(l:P.cellsOf e=0+1)(hi:i<len)(m:cs[i]? =some v):
  (Instr.index h (.agg cs) (.int k i)).run P w=.ok v w:=by
 have c:(i:Int)<len:=qZ
 have b:(isAgg e).run P w=.ok false w:=by
  unfold isAgg;unfold pY at f;cases a:P.underlying e with
  |none=>rw[a]at g;cases g
  |some d=>
   rw[a]at f;simp only[fE,dx a,Result.andThen];cases d<;>first|rfl|(simp at f)
 simp[Instr.index,dx j,Result.andThen,c,hi,oK l,part,b,asIntOf,m]
def Ey{κ ν:Type} [DecidableEq κ]{enc:κ->Value}{ev:ν->Value}{t k e:TypeId}{w:World}{m:Value}{L:List (κ×ν)}{x:κ}{z:Value}(d:P.underlying t=some (.map k e))(b:vB P k enc)
  (c:qw P e=some z)(a:DR enc ev w m L):(ji t m (enc x) true).run P w=.ok (.tuple #[(lk L x).elim z ev,.bool (lk L x).isSome]) w:=by
 unfold ji;rw[rA d b c a];cases lk L x<;>rfl
def Kn{κ ν:Type} [DecidableEq κ]{enc:κ->Value}{ev:ν->Value}{t k e ty:TypeId}{w:World}{b:Nat}{L:List (κ×ν)}(c:P.underlying t=some (.map k e))(h:fB enc ev w b L):
  (Builtin.len_ #[t] ty #[.map (some b)]).run P w=.ok (.int .i64 L.length) w:=by
 obtain⟨j,g,a,d,i,_⟩:=h;have f:g.size=L.length:=by simpa using fC List.length i
 simp[Builtin.len_,dx c,MapKept.run_getObj_map d,Result.andThen,goInt,f]
def oY{α:Type}{l:List α}{i:Nat}{p:α}(h:l[i]? =some p):l.Perm (p::l.eraseIdx i):=by
 induction l generalizing i with
 |nil=>simp at h
 |cons x l a=>
  cases i with
  |zero=>
   have:x=p:=by simpa using h
   subst this;exact fw _
  |succ i=>
   simp only[mT];exact((a (by simpa using h)).cons x).trans (List.Perm.swap ..)
def eS{S:Type}{body:S->World->(S->World->Prop)->Prop}{s:S}(I:S->World->Prop)(m:S->World->Nat)(f:I s w)
  (h:∀s w,I s w->∀c:S->World->Prop,(∀a b,I a b->m a b<m s w->c a b)->body s w c):lG body s w:=
 ⟨⟨I,m,f,λs w g=>h s w g _ λ_ _ e d=>⟨e,d⟩⟩⟩
def cR{f:FuncId}{b a:Array Value}(d:b=a)(c:w=w'):Ca P f b w K=Ca P f a w' K:=by subst d c;rfl
def cI(h:s.run P w=.ok v w')(a:K v w'):rv P s w K:=by
 rw[FN];unfold Yq;rw[h];exact a
def cx(v:Value)(w' :World)(h:s.run P w=.ok v w')(a:K v w'):rv P s w K:=cI h a
def ir{s:Sem Unit}{K:World->Prop}(h:s.run P w=.ok () w')(a:K w'):ru P s w K:=by
 rw[Fo];unfold XO;rw[h];exact a
def pH{s:Sem Unit}{K:World->Prop}(w' :World)(h:s.run P w=.ok () w')(a:K w'):ru P s w K:=ir h a
def mB{s:Sem Next}(h:s.run P w=.ok (.value v) w')(a:K v w'):rn P s w K:=by
 rw[sN];unfold Ol;rw[h];exact a
def jm{s:Sem Next}(v:Value)(w' :World)(h:s.run P w=.ok (.value v) w')(a:K v w'):rn P s w K:=mB h a
def dp{K:Value->Prop}(h:s.run P w=.ok v w)(a:K v):uc P s w K:=by
 rw[Am];unfold Hl;rw[h];exact⟨rfl,a⟩
def oy{K:Value->Prop}(v:Value)(h:s.run P w=.ok v w)(a:K v):uc P s w K:=dp h a
def dw{K:Value->Prop}(h:∀w,s.run P w=.ok v w)(a:K v):wS P s K:=⟨⟨v,h,a⟩⟩
def dX{K:Value->Prop}(v:Value)(h:∀w,s.run P w=.ok v w)(a:K v):wS P s K:=dw h a
def sS(h:P.underlying t=some (.slice e)):P.underlying t=some (.slice (P.elem t))/\P.elem t=e:=by
 have:P.elem t=e:=by simp[Program.elem,h]
 rw[this];exact⟨h,rfl⟩
def Rd.part{cs:List Value}(F:P.underlying t=some (.slice e))(C:P.cellsOf e=sz+1)(h:Rd w (sz+1) v n cs)
  {lo hi:Nat}(J:lo<=hi)(D:hi<=n)(kl kh:IntKind):
  ∃k,(∀W,(Instr.sliceAt t v (some (.int kl (lo:Int))) (some (.int kh (hi:Int))) none).run P W=.ok k W)/\Rd w (sz+1) k (hi - lo) ((cs.drop (lo*(sz+1))).take ((hi - lo)*(sz+1)))/\(∀b,BQ k b->BQ v b):=by
 obtain⟨y,G⟩:=sS F;obtain⟨z,o⟩:=h
 obtain⟨a,d,rfl,u⟩:∃a d,v=.slice a n d/\(n<=d\/n=0):=by
  rcases o with⟨rfl,a,c,rfl⟩|⟨b,g,d,rfl,C,_⟩
  ·grind
  ·grind
 refine⟨sliced a lo hi d (sz+1),λW=>?_,?_,?_⟩
 ·rw[run_sliceAt_slice W t _ _ _ _ y,run_slice_lh W t a n d y kl kh lo hi qZ qZ qZ,G,oK C];simp[Result.andThen]
 ·refine⟨?_,?_⟩
  ·rw[cZ,dV,z];have:=dM (sz+1) D;rw[qf];omega
  ·by_cases s:hi - lo=0
   ·left;exact⟨s,_,_,by unfold sliced;rw[s]⟩
   ·rcases o with⟨p,_⟩|⟨b,g,j,f,l,x⟩
    ·omega
    injection f with i E B;subst i;subst B;right;refine⟨b,g+lo*(sz+1),d - lo,?_,qZ,?_⟩
    ·unfold sliced;rw[aZ qZ];simp[cS]
    ·have:=x.sub (lo*(sz+1)) ((hi - lo)*(sz+1)) (by
      rw[z,<-im];exact dM _ qZ)
     exact this
 ·rintro b ⟨I,m,H,A,K,rfl⟩;unfold sliced at A;injection A with i E B;by_cases r:d=lo
  ·grind
  ·rw[aZ r]at i;cases a with
   |none=>cases i
   |some a0=>
    simp only[iD,jr]at i;refine⟨a0,n,d,rfl,qZ,?_⟩;rcases o with⟨p,_⟩|⟨b,g,j,f,l,x⟩
    ·omega
    ·injection f with q;injection q with q;subst q;rw[<-i,cS]
def Rd.from_{cs:List Value}(j:P.underlying t=some (.slice e))(k:P.cellsOf e=sz+1)(h:Rd w (sz+1) v n cs)
  {lo:Nat}(o:lo<=n)(kl:IntKind):
  ∃f,(∀W,(Instr.sliceAt t v (some (.int kl (lo:Int))) none none).run P W=.ok f W)/\Rd w (sz+1) f (n - lo) (cs.drop (lo*(sz+1)))/\(∀b,BQ f b->BQ v b):=by
 obtain⟨f,q,l,m⟩:=h.part j k o (cJ n) kl .i64;obtain⟨g,u⟩:=sS j;refine⟨f,λW=>?_,?_,m⟩
 ·rw[<-q W];obtain⟨s,r⟩:=h
  obtain⟨a,d,rfl,i⟩:∃a d,v=.slice a n d/\(n<=d\/n=0):=by
   rcases r with⟨rfl,a,c,rfl⟩|⟨b,p,d,rfl,k,_⟩
   ·grind
   ·grind
  rw[run_sliceAt_slice W t _ _ _ _ g,run_sliceAt_slice W t _ _ _ _ g,run_slice_lh W t a n d g kl .i64 lo n qZ qZ qZ,run_slice_l W t a n d g kl lo qZ qZ];rfl
 ·have e:(cs.drop (lo*(sz+1))).take ((n - lo)*(sz+1))=cs.drop (lo*(sz+1)):=by
   rw[cT];rw[dV,h.1,qf];omega
  rwa[e]at l
def Rd.byte{l:List UInt8}(h:Rd w 1 v n (bv l)){i:Nat}(hi:i<n)(g:i<l.length):
  ∃b c a C e fz,v=.slice (some ⟨b,c,none⟩) n a/\n<=a/\hp w b=some (.cells C e fz)/\C[c+i]? =some (.int .u8 (l[i].toNat:Int)):=by
 obtain⟨_,⟨k,_⟩|⟨b,c,a,rfl,j,f⟩⟩:=h
 ·omega
 ·obtain⟨C,e,fz,hC,d⟩:=f.get;exact⟨b,c,a,C,e,fz,rfl,j,hC,d i _ (by rw[bv,dO,cE g];rfl)⟩
def af6{by_ m:Nat}{x:Value}{a:List Value}(g:P.underlying t=some (.slice e))(i:wd P e sz by_)(y:Rd w sz x m a)(q:a.all (·.oneCell')=true)(c:m*by_<=140737488355328)
  (r:∀d f,jo f e sz d m a->M0 w f->(∀b,cK d b->w.heap.size<=b)->K d f):
  rx P (jQ t 0 []) w λv l=>rx P (eg #[t,t] t [v,x]) l K:=by
 refine oJ [] g i rfl rfl (by simp) qZ ?_;have j:∀o,M0 w (w.alloc o):=λo=>(de.refl _ w).alloc o;refine jR (n:=0) (m:=m) (cs:=[]) g g i ?_ (y.mod (j _) eQ) q (by grind) λd f s u p=>?_
 ·refine⟨by simp,.inr ⟨w.heap.size,0,[],rfl,cJ _,?_,by simp⟩⟩;rw[gy,bZ rfl];simp
 ·have k:∀b,cK (.slice (some ⟨w.heap.size,0,none⟩) 0 0) b->w.heap.size<=b:=λb c=>by
   simp only[cK,It]at c;have:=dB c;omega
  refine r d f (by simpa using s) ((j _).on u λb c=>.inr (k b c)) λb c=>?_;rcases p b c with h|h
  ·exact k b h
  ·rw[eG]at h;omega
def EJ:∀a:List UInt8,(bv a).flatMap (·.cells.toList)=bv a
 | []=>rfl
 |u::a=>by
  show(Value.cells (Value.int .u8 u.toNat)).toList++(bv a).flatMap (λv=>v.cells.toList)=_;rw[EJ a];rfl
def Qm{a:List (Nat×Value)}(c:List UInt8)(i:P.underlying t=some (.slice e))(l:wd P e 1 1)(f:a=c.zipIdx.map λp=>(p.2,.int .u8 p.1.toNat))(h:c.length=n)(g:n<=1000)
  (j:∀v d,jo d e 1 v n (bv c)->M0 w d->(∀b,cK v b->w.heap.size<=b/\b<d.heap.size)->K v d):rx P (jQ t n a) w K:=by
 have k:a=(bv c).zipIdx.map λp=>(p.2,p.1):=by
  rw[f,bv,List.zipIdx_map,dQ];rfl
 have m:=EJ c
 refine oJ (bv c) i l k (by simpa using h) (λv o=>by
  obtain⟨u,_,rfl⟩:=cF.1 o;rfl) qZ ?_
 rw[m];refine j _ _ ⟨by simpa using h,.inr ⟨_,n,[],rfl,cJ _,by show hp _ _=_;simp[go_sem],by simp,by simp⟩⟩ lm λb g=>?_;have:b=w.heap.size:=by cases g;rfl
 rw[eG];omega
def de.hpk{F:Nat->Prop}(h:de F w w'){b:Nat}{o:Obj}(c:hp w b=some o)(a:¬F b):hp w' b=some o:=h.keep c a
def uP{n:Int}(b: -9223372036854775808<=n)(a:n<9223372036854775808):IntKind.i64.wrap n=n:=by rw[eF];omega
def G8{n:Int}(b:0<=n)(a:n<18446744073709551616):IntKind.u64.wrap n=n:=by rw[IntKind.wrap_u64];omega
end Go.Vc
namespace Go.Proofs
open Go Go.Vc
section
variable{P:Program}{s:Sem Value}{u:Sem Unit}{n:Sem Next}{w w' :World}{K:cG}{A B:World->Prop}{C D:Prop}{L:World->Prop}{M:Value->Prop}{v:Value}{p q r:Prop}
def qS0(a:K v w')(h:s.run P w=.ok v w' :=by simp[-Int.natCast_add,go_sem]<;>first|exact⟨rfl,rfl⟩|exact rfl):rv P s w K:=cI h a
def qSv0(v:Value)(a:K v w')(h:s.run P w=.ok v w' :=by simp[go_sem]<;>first|exact⟨rfl,rfl⟩|exact rfl):rv P s w K:=cI h a
def qSt0(a:A w')(h:s.run P w=.ok (.bool true) w' :=by simp[go_sem]<;>first|exact⟨rfl,rfl⟩|exact rfl):rv P s w λv w=>cV v (A w) (B w):=cI h (by rw[kx];exact a)
def qSf0(a:B w')(h:s.run P w=.ok (.bool false) w' :=by simp[go_sem]<;>first|exact⟨rfl,rfl⟩|exact rfl):rv P s w λv w=>cV v (A w) (B w):=cI h (by rw[gP];exact a)
def qN0(a:K v w')(h:n.run P w=.ok (.value v) w' :=by simp[-Int.natCast_add,go_sem]<;>first|exact⟨rfl,rfl⟩|exact rfl):rn P n w K:=mB h a
def qP0(a:M v)(h:∀w,s.run P w=.ok v w:=by intro _;simp[-Int.natCast_add,go_sem]<;>first|exact⟨rfl,rfl⟩|exact rfl):wS P s M:=dw h a
def qPv0(v:Value)(a:M v)(h:∀w,s.run P w=.ok v w:=by intro _;simp[go_sem]<;>first|exact⟨rfl,rfl⟩|exact rfl):wS P s M:=dw h a
def qPt0(a:C)(h:∀w,s.run P w=.ok (.bool true) w:=by intro _;simp[go_sem]<;>first|exact⟨rfl,rfl⟩|exact rfl):wS P s λv=>cV v C D:=dw h (by rw[kx];exact a)
def qW0(a:M v)(h:s.run P w=.ok v w:=by simp[-Int.natCast_add,go_sem]<;>first|exact⟨rfl,rfl⟩|exact rfl):uc P s w M:=dp h a
def qS1(f:p)(a:K v w')(h:p->s.run P w=.ok v w' :=by intro f;simp[-Int.natCast_add,go_sem,f]<;>first|exact⟨rfl,rfl⟩|exact rfl):rv P s w K:=cI (h f) a
def qSv1(v:Value)(f:p)(a:K v w')(h:p->s.run P w=.ok v w' :=by intro f;simp[go_sem,f]<;>first|exact⟨rfl,rfl⟩|exact rfl):rv P s w K:=cI (h f) a
def qSt1(f:p)(a:A w')(h:p->s.run P w=.ok (.bool true) w' :=by intro f;simp[go_sem,f]<;>first|exact⟨rfl,rfl⟩|exact rfl):rv P s w λv w=>cV v (A w) (B w):=cI (h f) (by rw[kx];exact a)
def qSf1(f:p)(a:B w')(h:p->s.run P w=.ok (.bool false) w' :=by intro f;simp[go_sem,f]<;>first|exact⟨rfl,rfl⟩|exact rfl):rv P s w λv w=>cV v (A w) (B w):=cI (h f) (by rw[gP];exact a)
def qU1(f:p)(a:L w')(h:p->u.run P w=.ok () w' :=by intro f;simp[-Int.natCast_add,go_sem,f]<;>first|exact⟨rfl,rfl⟩|exact rfl):ru P u w L:=ir (h f) a
def qN1(f:p)(a:K v w')(h:p->n.run P w=.ok (.value v) w' :=by intro f;simp[-Int.natCast_add,go_sem,f]<;>first|exact⟨rfl,rfl⟩|exact rfl):rn P n w K:=mB (h f) a
def qP1(f:p)(a:M v)(h:p->∀w,s.run P w=.ok v w:=by intro f _;simp[-Int.natCast_add,go_sem,f]<;>first|exact⟨rfl,rfl⟩|exact rfl):wS P s M:=dw (h f) a
def qPv1(v:Value)(f:p)(a:M v)(h:p->∀w,s.run P w=.ok v w:=by intro f _;simp[go_sem,f]<;>first|exact⟨rfl,rfl⟩|exact rfl):wS P s M:=dw (h f) a
def qPt1(f:p)(a:C)(h:p->∀w,s.run P w=.ok (.bool true) w:=by intro f _;simp[go_sem,f]<;>first|exact⟨rfl,rfl⟩|exact rfl):wS P s λv=>cV v C D:=dw (h f) (by rw[kx];exact a)
def qPf1(f:p)(a:D)(h:p->∀w,s.run P w=.ok (.bool false) w:=by intro f _;simp[go_sem,f]<;>first|exact⟨rfl,rfl⟩|exact rfl):wS P s λv=>cV v C D:=dw (h f) (by rw[gP];exact a)
def qW1(f:p)(a:M v)(h:p->s.run P w=.ok v w:=by intro f;simp[-Int.natCast_add,go_sem,f]<;>first|exact⟨rfl,rfl⟩|exact rfl):uc P s w M:=dp (h f) a
def qWv1(v:Value)(f:p)(a:M v)(h:p->s.run P w=.ok v w:=by intro f;simp[go_sem,f]<;>first|exact⟨rfl,rfl⟩|exact rfl):uc P s w M:=dp (h f) a
def qS2(f:p)(g:q)(a:K v w')(h:p->q->s.run P w=.ok v w' :=by intro f g;simp[-Int.natCast_add,go_sem,f,g]<;>first|exact⟨rfl,rfl⟩|exact rfl):rv P s w K:=cI (h f g) a
def qSv2(v:Value)(f:p)(g:q)(a:K v w')(h:p->q->s.run P w=.ok v w' :=by intro f g;simp[go_sem,f,g]<;>first|exact⟨rfl,rfl⟩|exact rfl):rv P s w K:=cI (h f g) a
def qU2(f:p)(g:q)(a:L w')(h:p->q->u.run P w=.ok () w' :=by intro f g;simp[-Int.natCast_add,go_sem,f,g]<;>first|exact⟨rfl,rfl⟩|exact rfl):ru P u w L:=ir (h f g) a
def qW2(f:p)(g:q)(a:M v)(h:p->q->s.run P w=.ok v w:=by intro f g;simp[-Int.natCast_add,go_sem,f,g]<;>first|exact⟨rfl,rfl⟩|exact rfl):uc P s w M:=dp (h f g) a
def qWv2(v:Value)(f:p)(g:q)(a:M v)(h:p->q->s.run P w=.ok v w:=by intro f g;simp[go_sem,f,g]<;>first|exact⟨rfl,rfl⟩|exact rfl):uc P s w M:=dp (h f g) a
def qS3(f:p)(g:q)(i:r)(a:K v w')(h:p->q->r->s.run P w=.ok v w' :=by intro f g i;simp[-Int.natCast_add,go_sem,f,g,i]<;>first|exact⟨rfl,rfl⟩|exact rfl):rv P s w K:=cI (h f g i) a
def qSv3(v:Value)(f:p)(g:q)(i:r)(a:K v w')(h:p->q->r->s.run P w=.ok v w' :=by intro f g i;simp[go_sem,f,g,i]<;>first|exact⟨rfl,rfl⟩|exact rfl):rv P s w K:=cI (h f g i) a
def qSi(n:Int)(a:K (.int .i64 n) w)(h:s.run P w=.ok (.int .i64 n) w:=by simp[go_sem];rw[uP qZ qZ]<;>omega):rv P s w K:=cI h a
def qSj(i:Nat)(a:K (.int .i64 ((i+1:Nat):Int)) w)(h:s.run P w=.ok (.int .i64 ((i+1:Nat):Int)) w:=by simp[go_sem];rw[uP qZ qZ]<;>omega):rv P s w K:=cI h a
def qPi(n:Int)(a:M (.int .i64 n))(h:∀w,s.run P w=.ok (.int .i64 n) w:=by intro _;simp[go_sem];rw[uP qZ qZ]<;>omega):wS P s M:=dw h a
def wI_{n:Int}(b: -9223372036854775808<=n:=by omega)(a:n<9223372036854775808:=by omega):IntKind.i64.wrap n=n:=uP b a
def wU_{n:Int}(b:0<=n:=by omega)(a:n<18446744073709551616:=by omega):IntKind.u64.wrap n=n:=G8 b a
end
end Go.Proofs
namespace Go.Vc
variable {n:Nat}
def pP(n:Nat):List UInt8:=if n<128 then [UInt8.ofNat n]else UInt8.ofNat (n%128+128)::pP (n / 128)
 termination_by n
 decreasing_by omega
def wK(h:n<128):pP n=[UInt8.ofNat n]:=by rw[pP,bZ h]
def Co(h:¬n<128):pP n=UInt8.ofNat (n%128+128)::pP (n / 128):=by rw[pP,aZ h]
def Hi:∀(k n:Nat),n<128 ^ (k+1)->(pP n).length<=k+1
 |0,n,h=>by rw[wK (by simpa using h)];simp
 |k+1,n,h=>by
  by_cases a:n<128
  ·rw[wK a];simp
  ·rw[Co a];have:=Hi k (n / 128) (by grind);simp only[dc];omega
def CT(h:n<18446744073709551616):(pP n).length<=10:=Hi 9 n (ep h (by decide))
def Lq(h:n<256):(UInt8.ofNat n).toNat=n:=by simp;omega
def ID:List UInt8->Nat->Nat->Except Nat (Nat×Nat)
 | [],_,_=>.error 4
 |x::r,k,acc=>
  if k=9/\1<x.toNat\/9<k then .error 5
  else if x.toNat<128 then(if x.toNat=0/\0<k then .error 5 else .ok (acc+x.toNat%128*128 ^ k,k+1))
  else ID r (k+1) (acc+x.toNat%128*128 ^ k)
def zr:∀(l:List UInt8) (k acc n m:Nat),ID l k acc=.ok (n,m)->k<=9->
  ∃d,n=acc+d*128 ^ k/\m=k+(pP d).length/\(pP d).length<=l.length/\l.take (pP d).length=pP d/\(0<d\/k=0)/\d*128 ^ k<18446744073709551616
 | [],_,_,_,_,h,_=>by cases h
 |x::r,k,acc,n,m,h,H=>by
  have J:=x.toNat_lt;simp only[ID]at h;by_cases q:k=9/\1<x.toNat\/9<k
  ·grind
  rw[aZ q]at h;have c:UInt8.ofNat x.toNat=x:=by simp
  have w:128 ^ k*128 ^ (9 - k)=9223372036854775808:=by
   rw[<-qh,show k+(9 - k)=9 by omega]
  by_cases a:x.toNat<128
  ·rw[bZ a]at h;by_cases v:x.toNat=0/\0<k
   ·grind
   rw[aZ v]at h;cases h;refine⟨x.toNat,by grind,?_,?_,?_,by omega,?_⟩
   ·rw[wK a];rfl
   ·rw[wK a];simp
   ·rw[wK a,c];simp
   ·by_cases A:k=9
    ·grind
    ·have D:128 ^ k<=128 ^ 8:=lS (by decide) (by omega);have I:=jE (show x.toNat<=127 by omega) D;have e:(127:Nat)*128 ^ 8<18446744073709551616:=by decide
     omega
  ·rw[aZ a]at h;have B:k≠9:=λe=>q (.inl ⟨e,by omega⟩);obtain⟨d,g,u,y,j,F,C⟩:=zr r (k+1) _ n m h (by omega);have t:0<d:=by omega
   have z:(x.toNat%128+d*128) / 128=d:=by omega
   have p:(x.toNat%128+d*128)%128+128=x.toNat:=by omega
   have o:pP (x.toNat%128+d*128)=x::pP d:=by rw[Co (by omega),z,p,c]
   have s:(x.toNat%128+d*128)*128 ^ k=x.toNat%128*128 ^ k+d*128 ^ (k+1):=by
    rw[im,Nat.pow_succ,fe (128 ^ k) 128,mN]
   refine⟨x.toNat%128+d*128,?_,?_,?_,?_,by omega,?_⟩
   ·rw[g,s];omega
   ·grind
   ·grind
   ·rw[o];simp[j]
   ·rw[s]
    have E:x.toNat%128*128 ^ k<128 ^ (k+1):=by
     rw[Nat.pow_succ,fe];exact Nat.mul_lt_mul_of_pos_left (gR _ (by decide)) (Nat.pow_pos (by decide))
    have b:128 ^ (k+1)*128 ^ (8 - k)=9223372036854775808:=by
     rw[<-qh,show k+1+(8 - k)=9 by omega]
    have i:d<2*128 ^ (8 - k):=by
     apply dU;intro G;have:=dM (128 ^ (k+1)) (nW G);rw[mN,fe (128 ^ (8 - k)),b]at this;omega
    have f:=dM (128 ^ (k+1)) (show d+1<=2*128 ^ (8 - k)from i);rw[mN,fe (128 ^ (8 - k)),b,im]at f;omega
def Sx{l:List UInt8}{m:Nat}(h:ID l 0 0=.ok (n,m)):m=(pP n).length/\m<=l.length/\l.take m=pP n/\n<18446744073709551616:=by
 obtain⟨d,c,b,f,e,_,a⟩:=zr l 0 0 n m h (by omega);simp only[Nat.pow_zero,pX,eU]at c b a;subst c;subst b;exact⟨rfl,f,e,a⟩
structure Rs where
 at_:Nat
 e:Nat
def uu(l:List UInt8)(most:Nat)(s:Rs):Nat×Rs:=
 if s.e≠0 then(0,s)else
 match ID (l.drop s.at_) 0 0 with
 | .error e=>(0,{s with e:=e})
 | .ok (n,k)=>if most<n then(0,{s with e:=5})else(n,{s with at_:=s.at_+k})
def Gn(l:List UInt8)(s:Rs):Nat:=if s.e=0/\s.at_<l.length then 5 else s.e
structure Tn where
 c:Nat
 q:Nat
 b:List UInt8
def Tn.May(o:Tn):Prop:=o.c<64/\o.q≠0/\o.b.length<=2000
instance(o:Tn):Decidable o.May:=by unfold Tn.May;infer_instance
end Go.Vc
