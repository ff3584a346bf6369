/- Part of a proof. -/
import Derived.CallsIn
import Derived.OrdersIn
import Derived.RangeFuncIn
import Derived.RangeFuncLeaves
import Derived.KernelRfl
import Derived.Laws.Sem
import Derived.Laws.World
import Derived.RangeFuncRecord
import Derived.TacticsIn
set_option linter.all false
namespace Go.Vc
open Go Go.Vc
variable {a:Act}{f:FuncId}{L done:List Nat}{ops:List Oper}{n i:Nat}{o:Oper}{ro:Option Nat}{P:Program}{s:Sem Value}{w:World}
def jW:= @Go.Calls.mono
def cQ:= @List.getElem?_toArray
def gz:= @Array.getElem?_eq_getElem
def fV:= @Array.getD_eq_getD_getElem?
def dt:= @Option.getD_some
def jg:= @Nat.le_of_not_lt
def cY:= @List.mem_append_left
def lJ:= @List.mem_filterMap
def mH:= @List.all_cons
def ao:= @Bool.and_eq_true
def ae:= @if_pos
def aa:= @if_neg
def aF:= @List.getElem?_eq_some_iff
def bf:= @List.all_eq_true
def eR:= @List.mem_range
def lC:= @Nat.blt_eq
def jk:= @Bool.not_true
def fG:= @Bool.false_or
def dN:= @Nat.eq_of_beq_eq_true
def li:= @Bool.or_eq_true
def bm:= @List.mem_append
def ai:= @List.mem_cons_self
def ar:= @List.mem_cons
def af:= @List.mem_cons_of_mem
def aT:= @List.mem_filter
def dh:= @Go.Sem.run_bind
def ib:= @Go.Sem.run_pure
def cS:= @Option.some.inj
def kg:= @Array.ext'
def bY:= @List.nodup_cons
def lv:= @Ne.symm
def dz:= @List.mem_of_find?_eq_some
def lh:= @List.find?_some
def bN:= @List.mem_singleton
def cI:= @List.size_toArray
def aq:= @List.getElem?_eq_getElem
def eI:= @Option.map_some
def aL:= @List.mem_map
def jC:= @Array.all_eq_true'
def aI:= @Classical.byContradiction
def fy:= @List.eq_nil_iff_forall_not_mem
def av:= @List.getElem_mem
def gl:= @List.filter_filter
def dH:= @List.filter_congr
def lH:= @List.contains_cons
def gY:= @List.length_filter_lt_length_iff_exists
def cX:= @List.mem_of_getElem?
def oH:= @Bool.and_false
def fE:= @List.mem_append_right
def gG:= @Bool.or_eq_false_iff
def iP:= @List.nodup_nil
def dK:= @List.map_map
def kD:= @List.map_id
def dZ:= @List.map_congr_left
def be:= @List.length_cons
def dA:= @List.drop_eq_getElem_cons
def eV:= @List.foldl_cons
def cZ:= @if_true
def da:= @if_false
def aM:= @List.map_append
def cm:= @Go.World.size_alloc
def aJ:= @Nat.zero_le
def jL:= @Nat.sub_zero
def gr:= @List.getElem?_eq_none
def iI:= @Array.getElem?_eq_some_iff
def oF:= @List.mapM_cons
def dw:= @Bool.false_ne_true
def aQ:= @decide_eq_true
def aX:= @decide_eq_true_eq
def aG:= @Iff.rfl
def aO:= @Go.run_underlying
def bj:= @Bool.false_eq_true
def kp:= @Array.getElem?_modify
def bF:= @of_decide_eq_true
def eD:= @Nat.add_assoc
def az:= @Nat.le_refl
def ci:= @Nat.le_trans
def bJ:= @Nat.lt_of_lt_of_le
def iM:= @Go.World.putObj_size
def fb:= @List.getElem?_take
def fe:= @List.getElem?_drop
def cB:= @List.drop_drop
def dF:= @Nat.min_eq_left
def cx:= @Nat.add_zero
def ng:= @List.zipIdx_cons
def gp:= @Nat.mod_lt
def fT:= @getElem!_pos
def mz:= @Nat.le_mul_of_pos_right
def cF:= @Nat.mul_le_mul_right
def aH:= @List.append_assoc
def mq:= @Nat.sub_mul
def bR:= @List.flatMap_cons
def il:= @List.getElem_cons_succ
def cU:= @List.drop_left
def er:= @Nat.add_mul
def gN:= @Int.mul_le_mul_of_nonneg_right
def aD:= @List.map_cons
def dG:= @List.take_left
def dW:= @congrArg
def lD:= @not_or
def bZ:= @List.Sublist.refl
def jr:= @List.cons.injEq
def gE:= @Option.some.injEq
def js:= @List.eraseIdx_cons_succ
def fg:= @List.cons_append
def cz:= @List.getElem?_map
def jM:= @List.ext_getElem?
def kB:= @List.getElem?_modify
def jX:= @Array.getElem?_toList
def bM:= @List.getElem_of_mem
def ag:= @List.length_append
def nD:= @Nat.succ_mul
def nH:= @Nat.add_comm
def cn:= @List.getElem?_append_left
def bH:= @List.getElem?_append_right
def eE:= @Nat.mul_comm
def lq:= @Nat.div_add_mod
def aN:= @List.take_append_of_le_length
def aC:= @List.take_of_length_le
def mQ:= @List.drop_append
def eX:= @List.nil_append
def cL:= @List.filter_eq_self
def ew:= @List.filter_sublist
def aU:= @List.filter_cons_of_neg
def aR:= @List.mem_map_of_mem
def bI:= @List.filter_cons_of_pos
def gO:= @Array.eq_empty_of_size_eq_zero
def ez:= @Bool.eq_false_iff
def cR:= @List.Perm.refl
def aB:= @List.length_take
def bq:= @List.length_drop
def bU:= @Go.IntKind.wrap_i64
def my:= @Nat.pow_add
def iO:= @Nat.pow_le_pow_right
def fL:= @Nat.mul_le_mul
def iw:= @Nat.mul_assoc
def oD:= @Nat.mul_one
def cM:= @Nat.zero_add
def de:= @List.pairwise_append
def bX:= @List.pairwise_cons
def eA:= @List.pairwise_map
def nj:= @List.perm_middle
def iv:= @List.Perm.of_eq
def dr:= @Bool.eq_iff_iff
def iz:= @List.find?_cons
def mI:= @Prod.mk.injEq
def bi:= @List.length_filter_le
def bC:= @List.sum_cons
def gJ:= @List.length_eraseIdx
def br:= @decide_eq_false
def kA:= @decide_eq_decide
def iR:= @Int.mul_nonneg
def dc:= @List.drop_append_of_le_length
def eT:= @List.drop_zero
def gj:= @Int.tmod_eq_emod_of_nonneg
def fP:= @List.take_add_one
def ek:= @List.all_append
def fS:= @Nat.add_sub_cancel_left
def lB:= @Nat.succ_pos
def cE:= @List.mem_of_mem_take
def gZ:= @List.eq_nil_of_length_eq_zero
def eH:= @Int.natCast_mul
def gV:= @List.take_succ_cons
def iy:= @List.take_length_add_append
def gH:= @Int.toNat_natCast
def jK:= @Nat.zero_mul
def cJ:= @List.flatMap_append
def ke:= @List.length_singleton
def cH:= @List.take_append_drop
def gK:= @List.mem_of_mem_drop
def bp:= @List.findIdx?_eq_some_iff_getElem
def dC:= @List.findIdx?_eq_none_iff
def dJ:= @List.find?_eq_some_iff_getElem
def dU:= @List.find?_eq_none
def mU:= @Nat.lt_succ_self
def dO:= @List.set_append_right
def bP:= @List.setIfInBounds_toArray
def eh:= @List.set_append_left
def bK:= @List.length_set
def eO:= @List.getElem_cons_zero
def ep:= @List.mem_or_eq_of_mem_set
def eY:= @Option.isSome_iff_exists
def ni:= @Nat.div_add_mod'
def bL:= @List.pairwise_iff_getElem
def fj:= @decide_eq_false_iff_not
def ah:= @List.length_map
def jp:= @Int.natCast_add
def cw:= @List.filter_append
def fN:= @List.sum_append
def lm:= @List.takeWhile_cons
def ia:= @Int.add_zero
def aV:= @List.take_length
def fH:= @List.not_mem_nil
def ml:= @or_false
def ed:= @Int.le_refl
def iD:= @List.foldl_append
def bg:= @List.append_nil
def iU:= @Int.shiftRight_eq_div_pow
def cD:= @List.getElem_map
def jI:= @List.set_set
def dY:= @List.getElem_set_self
def g8:= @List.any_eq_true
def dR:= @List.take_zero
def ck:= @List.drop_of_length_le
def ov:= @Nat.mul_add
def gm:= @Nat.div_lt_iff_lt_mul
def fd:= @Nat.lt_of_le_of_lt
def jz:= @Nat.add_sub_cancel
def jh:= @Nat.div_mul_le_self
def kW:= @Nat.two_pow_pos
def lx:= @Nat.div_le_self
def kv:= @Int.natCast_ediv
def gy:= @List.map_set
def pu:= @dif_pos
def lj:= @Nat.mul_le_mul_left
def iH:= @List.getD_eq_getElem?_getD
def di:= @List.length_replicate
def ce:= @List.getElem_cons_drop
def fl:= @Bool.false_and
def kH:= @Bool.true_and
def lu:= @List.range_succ
def eG:= @List.filter_nil
def fw:= @List.map_nil
def jS:= @List.all_eq_false
def lT:= @List.eq_of_mem_replicate
def gw:= @List.set_getElem_self
def du:= @List.nodup_append
def im:= @List.find?_cons_of_pos
def io:= @List.find?_cons_of_neg
def lG:= @Int.lt_of_lt_of_le
def eB:= @List.eraseIdx_sublist
def gf:= @List.filter_eq_nil_iff
def ff:= @List.flatMap_nil
def iG:= @List.length_eraseIdx_of_lt
def gi:= @List.drop_length
def mj:= @Option.isSome_map
def jm:= @Go.IntKind.wrap_u8
def qZ{p:Prop}(h:p:=by omega):p:=h
def df{α:Sort _}(a:α):∃x,x=a:=⟨_,rfl⟩
def dS{α:Sort _}{β:α->Sort _}{p:(a:α)->β a->Prop}(a:α)(b:β a)(h:p a b):p a b:=h
def qie{α:Sort _}{β:α->Sort _}{p:(a:α)->β a->Prop}(a:α)(b:β a)(h:False):p a b:=h.elim
def cy{p:Prop}(h:p:=by kernel_rfl):p:=h
abbrev aY:=Value->World->Prop
variable {K:aY}
abbrev gI(n:Int):Value:=.int .i64 n
abbrev iL:= @Instr.loadAt
abbrev iF:= @Instr.fieldAt
abbrev iS:= @Instr.storeAt
abbrev iA:= @Instr.alloc
abbrev iX:= @Instr.indexAt
abbrev gU(n:Int):Value:=.int .u32 n
abbrev gQ(n:Int):Value:=.int .u64 n
abbrev gB(n:Int):Value:=.int .u8 n
abbrev Wt_:=World
abbrev Vt_:=Value
abbrev NP_:=Nat->Prop
abbrev LV_:=List Value
abbrev bO(b o:Nat):Value:=.pointer (some ⟨b,o,none⟩)
structure Ca(P:Program)(f:FuncId)(args:Array Value)(w:World)(K:aY):Prop where
 out:Calls P f args w λe w' =>∃v,e=.returned v/\K v w'
def Ca.mono{a:Array Value}{c:aY}(h:Ca P f a w K)(d:∀v b,K v b->c v b):Ca P f a w c:=
 ⟨Calls.mono h.out λ_ _ ⟨v,g,e⟩=>⟨v,g,d _ _ e⟩⟩
def Yl(P:Program)(l:Nat)(args:Array Value)(w:World)(K:aY):Prop:=
 ∃fn tmps assign body,(Instr.yield l args).run P w=.ok (.round l fn tmps assign body) w/\
  RoundIn Fence.wide 0 P l fn tmps assign body w λe w' =>∃v,e=.returned v/\K v w'
def Yl.mono{l:Nat}{c:Array Value}{e:aY}(h:Yl P l c w K)(f:∀v d,K v d->e v d):Yl P l c w e:=
 let⟨fn,tmps,a,b,h1,h2⟩:=h
 ⟨fn,tmps,a,b,h1,h2.mono λ_ _ ⟨v,i,g⟩=>⟨v,i,f _ _ g⟩⟩
def UJ(P:Program)(s:Sem Value)(w:World)(K:aY):Prop:=
 match s.run P w with
 | .ok v w' =>K v w'
 | .halt _ _=>False
structure rv(P:Program)(s:Sem Value)(w:World)(K:aY):Prop where
 out:UJ P s w K
def A2:rv P s w K↔UJ P s w K:=⟨rv.out,rv.mk⟩
def Up(P:Program)(s:Sem Unit)(w:World)(K:World->Prop):Prop:=
 match s.run P w with
 | .ok _ w' =>K w'
 | .halt _ _=>False
structure ru(P:Program)(s:Sem Unit)(w:World)(K:World->Prop):Prop where
 out:Up P s w K
def Ax{s:Sem Unit}{K:World->Prop}:ru P s w K↔Up P s w K:=⟨ru.out,ru.mk⟩
structure rx(P:Program)(s:Sem Value)(w:World)(K:aY):Prop where
 out:rv P s w K
structure vD(P:Program)(s:Sem Unit)(w:World)(K:World->Prop):Prop where
 out:ru P s w K
def Nu(P:Program)(s:Sem Next)(w:World)(K:aY):Prop:=
 match s.run P w with
 | .ok (.value v) w' =>K v w'
 | .ok .skip w' =>K undef w'
 | .ok (.enter f args) w' =>Ca P f args w' K
 | .ok (.round l fn tmps assign body) w' =>RoundIn Fence.wide 0 P l fn tmps assign body w' λe w'' =>∃v,e=.returned v/\K v w''
 |_=>False
structure rn(P:Program)(s:Sem Next)(w:World)(K:aY):Prop where
 out:Nu P s w K
def py{s:Sem Next}:rn P s w K↔Nu P s w K:=⟨rn.out,rn.mk⟩
def tP(P:Program):Bool:=P.funcs.all λfn=> !(fn.name== "runtime.NumGoroutine")
def JH(P:Program)(fv:Value)(args:List Value)(w:World)(K:aY):Prop:=
 match fv with
 | .func (.func f) first captured=>Ca P f ⟨first.toList++(args++captured.toList)⟩ w K
 | .func (.yield l) first _=>Yl P l ⟨first.toList++args⟩ w K
 |_=>False
structure mM(P:Program)(fv:Value)(args:List Value)(w:World)(K:aY):Prop where
 out:JH P fv args w K
def kE{fv:Value}{a:List Value}:mM P fv a w K↔JH P fv a w K:=⟨mM.out,mM.mk⟩
def Ep(v:Value)(K:Bool->Prop):Prop:=
 match v with
 | .bool b=>K b
 |_=>False
def bc(b:Bool)(T F:Prop):Prop:=
 match b with
 |true=>T
 |false=>F
def qr(v:Value)(T F:Prop):Prop:=Ep v λb=>bc b T F
def Q9(b:Bool)(x y:Value):Value:=
 match b with
 |true=>x
 |false=>y
def Kx(b:Bool)(x y:Value):Q9 b x y=if b then x else y:=by cases b<;>rfl
structure fi where
 l:List (Nat×Option Value)
 g:Nat->Value
 ds:List Nat
variable {E E' :fi}
def fi.look:List (Nat×Option Value)->Nat->Option (Option Value)
 | [],_=>none
 |(k,v)::r,t=>bif Nat.beq k t then some v else fi.look r t
def fi.get(E:fi)(t:Nat):Value:=
 match fi.look E.l t with
 |some (some v)=>v
 |some none=>undef
 |none=>E.g t
def fi.put(E:fi)(d:Option Nat)(v:Value):fi:=
 match d with
 |some d=>{E with l:=(d,some v)::E.l}
 |none=>E
def fi.skip(E:fi)(d:Option Nat):fi:=
 match d with
 |some d=>{E with l:=(d,none)::E.l}
 |none=>E
def fi.skipped(E:fi)(t:Nat):Bool:=
 match fi.look E.l t with
 |some none=>true
 |_=>false
def ev(E:fi):Operand->Value
 | .tmp t=>E.get t
 | .const v=>v
 | .global g=>.pointer (some ⟨g,0,none⟩)
 | .func f=>.func (.func f) #[] #[]
structure ul(n:Nat)(E:fi)(a:Act):Prop where
 size:a.tmps.size=n
 get:∀t,a.tmps.getD t undef=E.get t
 defs:a.defers=E.ds.map λd=>{target:=.collected d,args:=#[]}
def ul.ev(h:ul n E a):a.eval=ev E:=by
 funext x;cases x with
 |tmp t=>exact h.get t
 |const v=>rfl
 |global g=>rfl
 |func f=>rfl
def fi.get_put(E:fi)(d:Nat)(v:Value)(t:Nat):(E.put (some d) v).get t=if d=t then v else E.get t:=by
 by_cases h:d=t
 ·subst h;simp[fi.get,fi.put,fi.look]
 ·have:Nat.beq d t=false:=by
   cases a:Nat.beq d t with
   |false=>rfl
   |true=>exact absurd (Nat.eq_of_beq_eq_true a) h
  simp[fi.get,fi.put,fi.look,this,h]
def fi.get_skip(E:fi)(d:Nat)(t:Nat):(E.skip (some d)).get t=if d=t then undef else E.get t:=by
 by_cases h:d=t
 ·subst h;simp[fi.get,fi.skip,fi.look]
 ·have:Nat.beq d t=false:=by
   cases a:Nat.beq d t with
   |false=>rfl
   |true=>exact absurd (Nat.eq_of_beq_eq_true a) h
  simp[fi.get,fi.skip,fi.look,this,h]
def u0(n:Nat):Option Nat->Bool
 |some d=>Nat.blt d n
 |none=>true
def Fh(xs:Array Value)(d t:Nat)(v:Value)(h:d<xs.size):(xs.setIfInBounds d v).getD t undef=if d=t then v else xs.getD t undef:=by
 by_cases a:d=t
 ·subst a;simp[h]
 ·simp[a]
def ul.put(h:ul n E a){d:Option Nat}(c:u0 n d=true)(v:Value):ul n (E.put d v) (a.put d v):=by
 cases d with
 |none=>exact h
 |some d=>
  have b:d<a.tmps.size:=by rw[h.size];simpa [u0,Nat.blt_eq]using c
  refine⟨by simp[Act.put,h.size],λt=>?_,h.defs⟩;rw[fi.get_put];simp only[Act.put];rw[Fh _ _ _ _ b,h.get]
def ul.skip(h:ul n E a){d:Option Nat}(c:u0 n d=true):ul n (E.skip d) (a.put d undef):=by
 cases d with
 |none=>exact h
 |some d=>
  have b:d<a.tmps.size:=by rw[h.size];simpa [u0,Nat.blt_eq]using c
  refine⟨by simp[Act.put,h.size],λt=>?_,h.defs⟩;rw[fi.get_skip];simp only[Act.put];rw[Fh _ _ _ _ b,h.get]
def ul.of_get(h:ul n E a)(c:∀t,E'.get t=E.get t)(b:E'.ds=E.ds):ul n E' a:=
 ⟨h.size,λt=>(h.get t).trans (c t).symm,by rw[b];exact h.defs⟩
def Es:Operand->Bool
 | .const _=>true
 |_=>false
def ZM(op:BinOp)(t:TypeId)(c:Bool)(a b:Value):Sem Unit:=do
 if !(op matches .eql| .neq)then return
 match a,b with
 | .nilIface,.nilIface=>
  if c then return
  if<-Op.eqGuardIn Op.maxDepth t a b then unsupported (.noEntry "binop/eql: two nil values of an interface type with methods, neither of them the literal nil")
 | .agg _,.agg _=>
  if !(<-program).eqGuardType (<-program).depth t then return
  if<-Op.eqGuardIn Op.maxDepth t a b then unsupported (.noEntry "binop/eql: two nil values of an interface type with methods, in a part of a struct or an array")
 |_,_=>pure ()
def Wq(c:BinOp)(t:TypeId)(x y:Operand)(a b:Value):eqGuard c t x y a b=ZM c t (Es x||Es y) a b:=by
 unfold eqGuard ZM;cases x<;>cases y<;>rfl
def gx(op:BinOp)(t:TypeId)(c:Bool)(a b:Value):Sem Value:=do ZM op t c a b;binOp op t a b
def oQ(v:Value)(K:Value->Prop):Prop:=
 match v with
 | .pointer (some a)=>K (.pointer (some a))
 |_=>False
def BO(P:Program)(t:TypeId):Bool:=Nat.blt 12 (P.cellsOf t)
def qm(t:TypeId)(x:Value):Sem Value:=Instr.loadAt t x
def oT(t:TypeId)(x y:Value):Sem Unit:=Instr.storeAt t x y
def tW(t:TypeId):Sem Value:=Instr.alloc t true (.tuple #[])
def Bs(t:TypeId)(parts:Array (Nat×Value)):Sem Value:=Instr.build t parts
def eZ(ts:Array TypeId)(t:TypeId)(args:List Value):Sem Value:=Builtin.append_ ts t ⟨args⟩
def JO(ts:Array TypeId)(t:TypeId)(args:List Value):Sem Value:=Builtin.copy_ ts t ⟨args⟩
def sQ(ts:Array TypeId)(t:TypeId)(args:List Value):Sem Value:=Builtin.delete_ ts t ⟨args⟩
def zT(ts:Array TypeId)(t:TypeId)(args:List Value):Sem Value:=Builtin.clear_ ts t ⟨args⟩
def Da(t:TypeId)(l c:Value):Sem Value:=Instr.makeSlice t l c
def pN(t:TypeId)(n:Nat)(parts:List (Nat×Value)):Sem Value:=Instr.buildSlice t n ⟨parts⟩
def rI(s d:TypeId)(x:Value):Sem Value:=convert s d x
def ju(t:TypeId)(m k:Value)(ok:Bool):Sem Value:=Instr.lookup t m k ok
def qw(t:TypeId)(m k v:Value):Sem Unit:=Instr.mapUpdate t m k v
def Ao(t:TypeId)(x:Value):Sem Value:=Instr.range t x
def C7(it:Value)(s:Bool)(t:TypeId):Sem Value:=Instr.next it s t
def Ap(it:Value):Sem Value:=Instr.entry it
def Jp(t:TypeId)(m k:Value):Sem Value:=Instr.mapEntry t m k
def NO(t:TypeId)(m s v:Value):Sem Unit:=Instr.entryStore t m s v
def HB(P:Program)(s d:TypeId):Bool:=
 (match P.underlying s with|some (.slice _)=>true|_=>false)||(match P.underlying d with|some (.slice _)=>true|_=>false)
def WI(P:Program)(f:FuncId):Bool:=match (P.funcs[f]?).bind (·.body)with|none=>true|some _=>false
structure rnx(P:Program)(f:FuncId)(args:List Value)(w:World)(K:aY):Prop where
 out:rn P (callFunc f ⟨args⟩) w K
def kL(ρ:Operand->Value)(xs:Array Operand):List Value:=xs.toList.map ρ
def Rf(P:Program)(ρ:Operand->Value)(o:Oper)(w:World)(K:aY):Prop:=
 match o.op with
 | .move x| .assign x=>K (ρ x) w
 | .pick c x y=>Ep (ρ c) λb=>K (Q9 b (ρ x) (ρ y)) w
 | .alloc elem=>match BO P elem with
  |true=>rx P (tW elem) w K
  |false=>rv P (Instr.alloc elem true (.tuple #[])) w K
 | .box elem x=>rv P (Instr.box elem (ρ x)) w K
 | .build t parts=>match BO P t with
  |true=>rx P (Bs t ⟨parts.toList.map λp=>(p.1,ρ p.2)⟩) w K
  |false=>rv P (Instr.build t ⟨parts.toList.map λp=>(p.1,ρ p.2)⟩) w K
 | .buildSlice t len parts=>rx P (pN t len (parts.toList.map λp=>(p.1,ρ p.2))) w K
 | .load t x=>match BO P t with
  |true=>rx P (qm t (ρ x)) w K
  |false=>rv P (Instr.loadAt t (ρ x)) w K
 | .store t x y=>match BO P t with
  |true=>vD P (oT t (ρ x) (ρ y)) w (K undef)
  |false=>ru P (Instr.storeAt t (ρ x) (ρ y)) w (K undef)
 | .binOp op t x y _=>rv P (gx op t (Es x||Es y) (ρ x) (ρ y)) w K
 | .unOp op _ x=>rv P (Op.unary op (ρ x)) w K
 | .convert s d x=>match HB P s d with
  |true=>rx P (rI s d (ρ x)) w K
  |false=>rv P (convert s d (ρ x)) w K
 | .sliceToArrayPointer t x=>rv P (Instr.arrayAt t (ρ x)) w K
 | .makeInterface t x=>rv P (Instr.makeInterface t (ρ x)) w K
 | .makeFunc fn first captured=>K (.func fn ⟨kL ρ first⟩ ⟨kL ρ captured⟩) w
 | .makeMap t r=>rv P (Instr.makeMap t (r.map ρ)) w K
 | .makeSlice t l c=>rx P (Da t (ρ l) (ρ c)) w K
 | .slice t x lo hi mx=>rv P (Instr.sliceAt t (ρ x) (lo.map ρ) (hi.map ρ) (mx.map ρ)) w K
 | .fieldAddr t x f=>rv P (Instr.fieldAt t (ρ x) f) w K
 | .field t x f=>rv P (Instr.field t (ρ x) f) w K
 | .indexAddr t x i=>rv P (Instr.indexAt t (ρ x) (ρ i)) w K
 | .index t x i=>rv P (Instr.index t (ρ x) (ρ i)) w K
 | .lookup t x i ok=>rx P (ju t (ρ x) (ρ i) ok) w K
 | .mapUpdate t m k x| .insert t m k x=>vD P (qw t (ρ m) (ρ k) (ρ x)) w (K undef)
 | .range t x=>rx P (Ao t (ρ x)) w K
 | .next it s=>rx P (C7 (ρ it) s o.type) w K
 | .entry it=>rx P (Ap (ρ it)) w K
 | .mapEntry t m k=>rx P (Jp t (ρ m) (ρ k)) w K
 | .entryStore t m s x=>vD P (NO t (ρ m) (ρ s) (ρ x)) w (K undef)
 | .typeAssert x t u ok=>rv P (Instr.typeAssert (ρ x) t u ok) w K
 | .extract t i=>rv P (Instr.extract (ρ t) i) w K
 | .call c=>
  match c.callee with
  | .value (.func f)=>match WI P f with
   |true=>rnx P f (kL ρ c.args) w K
   |false=>Ca P f ⟨kL ρ c.args⟩ w K
  | .value f=>mM P (ρ f) (kL ρ c.args) w K
  | .builtin .append=>rx P (eZ c.argTypes o.type (kL ρ c.args)) w K
  | .builtin .copy=>rx P (JO c.argTypes o.type (kL ρ c.args)) w K
  | .builtin .delete=>rx P (sQ c.argTypes o.type (kL ρ c.args)) w K
  | .builtin .clear=>rx P (zT c.argTypes o.type (kL ρ c.args)) w K
  | .builtin b=>rn P (builtin b c.argTypes o.type ⟨c.args.toList.map Es⟩ ⟨kL ρ c.args⟩) w K
  | .invoke _ _=>rn P (execOp ρ o) w K
 | .nilCheck x=>oQ (ρ x) λv=>K v w
 | .defer _| .go _| .select .. | .panic _=>False
 |_=>rn P (execOp ρ o) w K
def lz(h:rv P s w K):rn P (do pure (.value (<-s))) w K:=by
 rw[A2]at h;unfold UJ at h;rw[py];unfold Nu;simp only[Sem.run_bind,Sem.run_pure];cases a:s.run P w with
 |ok v b=>rw[a]at h;simpa [Result.andThen]using h
 |halt x b=>rw[a]at h;exact h.elim
def uB{s:Sem Unit}(h:ru P s w (K undef)):rn P (do s;pure .skip) w K:=by
 rw[Ax]at h;unfold Up at h;rw[py];unfold Nu;simp only[Sem.run_bind,Sem.run_pure];cases a:s.run P w with
 |ok v b=>rw[a]at h;simpa [Result.andThen]using h
 |halt x b=>rw[a]at h;exact h.elim
def Ca.bodied{a:Array Value}(h:Ca P f a w K):∃fn,P.funcs[f]? =some fn/\fn.body.isSome=true:=by
 apply Classical.byContradiction;intro q;obtain⟨e,u,k,⟨v,rfl,_⟩,t,_,o⟩:=h.out []
 have g:((P.funcs[f]?).bind (·.body))=none:=by
  cases l:P.funcs[f]? with
  |none=>rfl
  |some fn=>
   cases j:fn.body with
   |none=>simp[j]
   |some c=>exact absurd ⟨fn,l,by simp[j]⟩ q
 obtain⟨r,p⟩:∃r,step P (lone (Frame.enter P f a .normal) [] w)=.ended r w:=by
  refine⟨?r,step_lone_ended ?h⟩
  case h=>
   simp only[stepG,stepG.exec,Frame.enter,g];exact rfl
 obtain⟨n,d⟩:=(t:Steps P _ _)
 cases n with
 |zero=>
  simp only[runN]at d;injection d with s
  have i:Frame.enter P f a .normal=k:=by
   have:=congrArg (λm=>(m.gs[0]?).map (·.frame)) s;simpa [lone]using this
  have b:=o.1;rw[<-i]at b;simp[Frame.enter]at b
 |succ n=>simp[runN,p]at d
def yG(g:tP P=true){f:FuncId}{a:Array Value}{w:World}{K:aY}(h:Ca P f a w K):rn P (callFunc f a) w K:=by
 obtain⟨fn,e,i⟩:=h.bodied
 have d:(fn.name== "runtime.NumGoroutine")=false:=by
  have:=(Array.all_eq_true'.1 g) fn (Array.mem_of_getElem? e);simpa using this
 rw[py];unfold Nu
 have:(callFunc f a).run P w=.ok (.enter f a) w:=by
  have b:¬fn.name= "runtime.NumGoroutine" :=by simpa using d
  have c:¬fn.body=none:=by grind
  unfold callFunc;simp[Sem.run_bind,Result.andThen,e,b,c]
 rw[this];exact h
def nO(ρ:Operand->Value)(xs:Array Operand):(⟨kL ρ xs⟩:Array Value)=xs.map ρ:=by
 apply Array.ext';simp[kL]
def Q6(m:tP P=true){fv:Value}{b:List Value}{w:World}{K:aY}(h:mM P fv b w K):
  rn P (do let d<-Deferred.ofValue fv ⟨b⟩;invoke d.target d.args) w K:=by
 rw[kE]at h;unfold JH at h;split at h
 ·rename_i f first a
  have e:(do let d<-Deferred.ofValue (.func (.func f) first a) ⟨b⟩;invoke d.target d.args:Sem Next)=callFunc f (first++⟨b⟩++a):=rfl;rw[e]
  have g:(first++⟨b⟩++a:Array Value)=⟨first.toList++(b++a.toList)⟩:=by
   apply Array.ext';simp
  rw[g];exact yG m h
 ·rename_i l first a
  have e:(do let d<-Deferred.ofValue (.func (.yield l) first a) ⟨b⟩;invoke d.target d.args:Sem Next)=Instr.yield l (first++⟨b⟩):=rfl;rw[e]
  have g:(first++⟨b⟩:Array Value)=⟨first.toList++b⟩:=by
   apply Array.ext';simp
  rw[g];obtain⟨fn,j,c,i,h1,k⟩:=h;rw[py];unfold Nu;rw[h1];exact k
 ·exact h.elim
def BS(C:tP P=true){ρ:Operand->Value}(E:∀f,ρ (.func f)=.func (.func f) #[] #[]){o:Oper}{w:World}{K:aY}(h:Rf P ρ o w K):
  rn P (execOp ρ o) w K:=by
 obtain⟨A,B,q,pos,u,guard⟩:=o;unfold Rf at h;cases B<;>simp only at h
 case move x=>exact py.2 h
 case assign x=>exact py.2 h
 case pick c x y=>
  unfold Ep at h;split at h
  ·rename_i b D
   simp only[execOp,D,py,Nu,asBool,Sem.run_bind,Sem.run_pure,Result.andThen];rw[Kx]at h;exact h
  ·exact h.elim
 case alloc t=>
  split at h
  ·exact lz h.out
  ·exact lz h
 case load t x=>
  split at h
  ·exact lz h.out
  ·exact lz h
 case convert s d x=>
  split at h
  ·exact lz h.out
  ·exact lz h
 case build t ps=>
  have h:rv P (Instr.build t ⟨ps.toList.map λp=>(p.1,ρ p.2)⟩) w K:=by
   split at h
   ·exact h.out
   ·exact h
  have e:(⟨ps.toList.map λp=>(p.1,ρ p.2)⟩:Array (Nat×Value))=ps.map λ(i,x)=>(i,ρ x):=by
   apply Array.ext';simp
  rw[e]at h;exact lz h
 case buildSlice t n ps=>
  have h:rv P (Instr.buildSlice t n ⟨ps.toList.map λp=>(p.1,ρ p.2)⟩) w K:=h.out
  have e:(⟨ps.toList.map λp=>(p.1,ρ p.2)⟩:Array (Nat×Value))=ps.map λ(i,x)=>(i,ρ x):=by
   apply Array.ext';simp
  rw[e]at h;exact lz h
 case binOp B t x y yt=>
  have e:(do eqGuard B t x y (ρ x) (ρ y);binOp B t (ρ x) (ρ y):Sem Value)=gx B t (Es x||Es y) (ρ x) (ρ y):=by
   unfold gx;rw[Wq]
  have:=lz h;rw[<-e]at this;exact this
 case makeFunc fn first captured=>
  rw[nO,nO]at h;exact py.2 h
 case store t x y=>
  split at h
  ·exact uB h.out
  ·exact uB h
 case nilCheck x=>
  unfold oQ at h;split at h
  ·rename_i a G
   simp only[execOp,G,py,Nu,Sem.run_pure];exact h
  ·exact h.elim
 case mapUpdate t m k x=>exact uB h.out
 case insert t m k x=>exact uB h.out
 case entryStore t m s x=>exact uB h.out
 case call c=>
  obtain⟨z,j,l⟩:=c;cases z with
  |value f=>
   have key:mM P (ρ f) (kL ρ j) w K->rn P (execOp ρ ⟨A,.call ⟨.value f,j,l⟩,q,pos,u,guard⟩) w K:=by
    intro h;have:=Q6 C h;rw[nO]at this;exact this
   cases f with
   |func g=>
    simp only at h
    have this:rn P (callFunc g ⟨kL ρ j⟩) w K:=by
     split at h
     ·exact h.out
     ·exact yG C h
    rw[nO]at this;have e:(execOp ρ ⟨A,.call ⟨.value (.func g),j,l⟩,q,pos,u,guard⟩:Sem Next)=(do let d<-Deferred.ofValue (ρ (.func g)) (j.map ρ);invoke d.target d.args):=rfl;rw[e,E g];have F:(do let d<-Deferred.ofValue (.func (.func g) #[] #[]) (j.map ρ);invoke d.target d.args:Sem Next)=callFunc g (#[]++j.map ρ++ #[]):=rfl;rw[F];simpa using this
   |tmp t=>exact key h
   |const v=>exact key h
   |global g=>exact key h
  |builtin b=>
   have key:rn P (builtin b l q ⟨j.toList.map Es⟩ ⟨kL ρ j⟩) w K:=by
    cases b<;>first|exact h|exact lz h.out
   have h:=key;rw[nO]at h
   have e:(⟨j.toList.map Es⟩:Array Bool)=j.map λ| .const _=>true|_=>false:=by
    apply Array.ext';simp only[Array.toList_map];apply List.map_congr_left;intro x _;cases x<;>rfl
   rw[e]at h;exact h
  |invoke r m=>exact h
 all_goals first|exact lz h|exact lz h.out|exact h|exact h.elim
def FR:Option Nat->Fence
 |none=>Fence.wide
 |some l=>Fence.wide.inRound l
def FR.fn(ro:Option Nat)(f:FuncId):(FR ro).fn f:=by cases ro<;>exact trivial
def FR.round(ro:Option Nat):(FR ro).round=ro:=by cases ro<;>rfl
def FR.depth(ro:Option Nat):(FR ro).depth=none:=by cases ro<;>rfl
def FR.calls{a:Array Value}{w:Wt_}{R:Ending->World->Prop}(h:Calls P f a w R):CallsIn (FR ro) n P f a w R:=by
 cases ro with
 |none=>exact callsIn_wide.2 h
 |some l=>exact(callsIn_wide (n:=n)).2 h
def FR.roundIn{m:Nat}{l:Nat}{b:Array Value}{a body:Code}{w:Wt_}{R:Ending->World->Prop}
  (h:RoundIn Fence.wide m P l f b a body w R):RoundIn (FR ro) n P l f b a body w R:=by
 cases ro with
 |none=>exact⟨h.1,λc d _=>h.2 c d (room_wide _)⟩
 |some l=>exact⟨h.1,λc d _=>h.2 c d (room_wide _)⟩
def uR:Op->Bool
 | .defer _| .go _| .select .. =>false
 |_=>true
def AT{w:Wt_}{next:Act->World->Prop}{Q:Exit->Act->World->Prop}{ρ:Operand->Value}
  (k:uR o.op=true)(l:execOp a.eval o=execOp ρ o)(h:rn P (execOp ρ o) w K)(i:∀v g,K v g->next (a.put o.dst v) g):o.wpIn (FR ro) 0 P a w next Q:=by
 refine⟨λf _=>FR.fn ro f,?_⟩;rw[FR.round,Oper.semAt_eq ro a.eval o (λc m=>by rw[m]at k;cases k),l];rw[py]at h;unfold Nu at h;split at h
 ·rename_i b;rw[b];exact i _ _ h
 ·rename_i b;rw[b];exact i _ _ h
 ·rename_i b;rw[b]
  refine⟨(λd=>by rw[FR.depth]at d;cases d),FR.calls (jW h.out ?_)⟩;rintro e g ⟨v,rfl,j⟩;exact i _ _ j
 ·rename_i b;rw[b]
  refine⟨(λd=>by rw[FR.depth]at d;cases d),FR.roundIn (h.mono ?_)⟩;rintro e g ⟨v,rfl,j⟩;exact i _ _ j
 ·exact h.elim
def Bb(ops:List Oper)(j:Nat):Option Nat:=
 match ops[j]? with
 |some o=>o.dst
 |none=>none
def Rn(ops:List Oper)(o:Oper)(E:fi)(yes no:fi->Prop):Prop:=
 match o.guard with
 |none=>yes E
 |some (j,want)=>
  match Bb ops j with
  |none=>no E
  |some s=>
   match E.skipped s with
   |true=>no E
   |false=>Ep (E.get s) λb=>bc b
     ((match want with|true=>yes|false=>no) (E.put (some s) (.bool true)))
     ((match want with|true=>no|false=>yes) (E.put (some s) (.bool false)))
def vn:Value->Option Bool
 | .bool b=>some b
 |_=>none
def jT(ops:List Oper)(E:fi)(o:Oper):Bool:=
 Region.wanted o λj=>(Bb ops j).bind λs=>vn (E.get s)
def fi.Same(E E' :fi):Prop:=(∀t,E'.get t=E.get t)/\E'.ds=E.ds
def fi.Same.refl(E:fi):E.Same E:=⟨λ_=>rfl,rfl⟩
def fi.Same.ev(h:E.Same E'):Vc.ev E' =Vc.ev E:=by
 funext x;cases x<;>first|exact h.1 _|rfl
def fi.Same.wanted(h:E.Same E')(ops:List Oper)(o:Oper):jT ops E' o=jT ops E o:=by
 unfold jT;congr 1;funext j;cases Bb ops j<;>simp[h.1]
def fi.same_put{s:Nat}{v:Vt_}(h:E.get s=v):E.Same (E.put (some s) v):=by
 refine⟨λt=>?_,rfl⟩;rw[fi.get_put];split
 ·grind
 ·rfl
def xH{f no:fi->Prop}(h:Rn ops o E f no):
  (jT ops E o=true/\∃e,E.Same e/\f e)\/(jT ops E o=false/\∃e,E.Same e/\no e):=by
 unfold Rn at h;unfold jT Region.wanted;cases i:o.guard with
 |none=>rw[i]at h;exact .inl ⟨rfl,E,.refl E,h⟩
 |some g=>
  obtain⟨j,a⟩:=g;rw[i]at h;simp only at h|-;cases k:Bb ops j with
  |none=>rw[k]at h;exact .inr ⟨rfl,E,.refl E,h⟩
  |some s=>
   rw[k]at h;simp only at h;cases d:E.skipped s with
   |true=>
    rw[d]at h
    have m:E.get s=undef:=by
     unfold fi.skipped at d;unfold fi.get;split at d
     ·rename_i l;rw[l]
     ·cases d
    exact .inr ⟨by simp[m,undef,vn],E,.refl E,h⟩
   |false=>
    rw[d]at h;simp only[Ep]at h;split at h
    ·rename_i b c
     cases b with
     |true=>
      cases a with
      |true=>exact .inl ⟨by simp[c,vn],_,fi.same_put c,h⟩
      |false=>exact .inr ⟨by simp[c,vn],_,fi.same_put c,h⟩
     |false=>
      cases a with
      |true=>exact .inr ⟨by simp[c,vn],_,fi.same_put c,h⟩
      |false=>exact .inl ⟨by simp[c,vn],_,fi.same_put c,h⟩
    ·exact h.elim
def AW(h:∀t,t∈o.looksAt ops.toArray->a.tmps.getD t undef=E.get t):
  Region.wanted o (yielded ops.toArray a.tmps)=jT ops E o:=by
 unfold jT Region.wanted;cases i:o.guard with
 |none=>rfl
 |some g=>
  obtain⟨j,e⟩:=g;simp only;congr 1;unfold yielded Bb;cases c:ops[j]? with
  |none=>simp[c]
  |some k=>
   cases d:k.dst with
   |none=>simp[c,d]
   |some s=>
    have f:s∈o.looksAt ops.toArray:=by
     unfold Oper.looksAt;rw[i];simp[c,d]
    have:=h s f;simp only[cQ,c,Option.bind_some,d];rw[<-this];by_cases b:s<a.tmps.size
    ·simp only[gz b,fV,dt];cases a.tmps[s]<;>rfl
    ·simp[Array.getElem?_eq_none (jg b),undef,vn]
def DT(c:uR o.op=true)(h:∀t,t∈o.looksAt ops.toArray->a.tmps.getD t undef=E.get t):
  execOp a.eval o=execOp (ev E) o:=by
 refine execOp_congr o (λi b e=>by rw[e]at c;cases c) λx d=>?_;cases x with
 |tmp t=>
  apply h t;unfold Oper.looksAt;refine cY _ (lJ.2 ⟨.tmp t,by simpa using d,rfl⟩)
 |const v=>rfl
 |global g=>rfl
 |func f=>rfl
def JS(E:fi)(f:FuncId):ev E (.func f)=.func (.func f) #[] #[]:=rfl
def Fp{ρ:Operand->Value}{w:Wt_}(h:Rf P ρ o w K):uR o.op=true:=by
 unfold Rf at h;cases a:o.op<;>rw[a]at h<;>first|rfl|exact h.elim
def xX(P:Program)(ops:List Oper):List Oper->fi->World->(fi->World->Prop)->Prop
 | [],E,w,K=>K E w
 |o::rest,E,w,K=>
  Rn ops o E (λE=>Rf P (ev E) o w λv w' =>xX P ops rest (E.put o.dst v) w' K)
   (λE=>xX P ops rest (E.skip o.dst) w K)
def Dk(u:tP P=true){ro:Option Nat}{n:Nat}{ops:List Oper}{Q:Exit->Act->World->Prop}{K:fi->World->Prop}
  (q:∀E a w,ul n E a->K E w->Q .normal a w):∀(l:List Oper),(l.all λo=>u0 n o.dst)=true->∀(E:fi) (a:Act) (w:Wt_),ul n E a->
  xX P ops l E w K->wpListIn (FR ro) 0 P ops.toArray Q l a w:=by
 intro l;induction l with
 |nil=>exact λ_ E a w e h=>q E a w e h
 |cons o rest p=>
  intro d E a w e h;simp only[mH,ao]at d;unfold wpListIn;have b:∀t,t∈o.looksAt ops.toArray->a.tmps.getD t undef=E.get t:=λt _=>e.get t;rw[AW b];rcases xH h with⟨j,i,g,m⟩|⟨j,i,g,r⟩
  ·rw[ae j];have c:ul n i a:=e.of_get g.1 g.2;have k:=Fp m;refine AT (ρ:=ev i) k (by rw[c.ev]) (BS u (JS i) m) λv x s=>?_;exact p d.2 _ _ _ (c.put d.1 v) s
  ·rw[aa (by rw[j];simp)];exact⟨λf _=>FR.fn ro f,p d.2 _ _ _ ((e.of_get g.1 g.2).skip d.1) r⟩
def Fe(P:Program)(s:Sem Value)(w:Wt_)(K:Value->Prop):Prop:=
 match s.run P w with
 | .ok v w' =>w' =w/\K v
 | .halt _ _=>False
structure l8(P:Program)(s:Sem Value)(w:Wt_)(K:Value->Prop):Prop where
 out:Fe P s w K
def xd{w:Wt_}{K:Value->Prop}:l8 P s w K↔Fe P s w K:=⟨l8.out,l8.mk⟩
def V1(P:Program)(s:Sem Value)(K:Value->Prop):Prop:=∃v,(∀w,s.run P w=.ok v w)/\K v
structure g9(P:Program)(s:Sem Value)(K:Value->Prop):Prop where
 out:V1 P s K
def Su{K:Value->Prop}:g9 P s K↔V1 P s K:=⟨g9.out,g9.mk⟩
structure BL(P:Program)(s:Sem Value)(w:Wt_)(K:Value->Prop):Prop where
 out:l8 P s w K
structure DI(P:Program)(s:Sem Value)(K:Value->Prop):Prop where
 out:g9 P s K
def xOp(P:Program):Op->Bool
 | .build t _=>BO P t
 | .load t _=>BO P t
 | .lookup .. =>true
 | .convert s d _=>HB P s d
 |_=>false
def wl(P:Program)(ρ:Operand->Value):Op->Option (Sem Value)
 | .binOp op t x y _=>some (gx op t (Es x||Es y) (ρ x) (ρ y))
 | .unOp op _ x=>some (Op.unary op (ρ x))
 | .fieldAddr t x f=>some (iF t (ρ x) f)
 | .field t x f=>some (Instr.field t (ρ x) f)
 | .indexAddr t x i=>some (iX t (ρ x) (ρ i))
 | .index t x i=>some (Instr.index t (ρ x) (ρ i))
 | .slice t x lo hi mx=>some (Instr.sliceAt t (ρ x) (lo.map ρ) (hi.map ρ) (mx.map ρ))
 | .sliceToArrayPointer t x=>some (Instr.arrayAt t (ρ x))
 | .extract t i=>some (Instr.extract (ρ t) i)
 | .build t parts=>match BO P t with
  |true=>some (Bs t ⟨parts.toList.map λp=>(p.1,ρ p.2)⟩)
  |false=>some (Instr.build t ⟨parts.toList.map λp=>(p.1,ρ p.2)⟩)
 | .makeInterface t x=>some (Instr.makeInterface t (ρ x))
 |_=>none
def wt(P:Program)(ρ:Operand->Value)(o:Oper):Option (Sem Value):=
 match o.op with
 | .load t x=>match BO P t with
  |true=>some (qm t (ρ x))
  |false=>some (iL t (ρ x))
 | .lookup t x i ok=>some (ju t (ρ x) (ρ i) ok)
 | .call ⟨.builtin .len,args,ts⟩=>some (Builtin.len_ ts o.type ⟨kL ρ args⟩)
 | .call ⟨.builtin .min,args,ts⟩=>some (Builtin.min_ ts o.type ⟨kL ρ args⟩)
 | .call ⟨.builtin .max,args,ts⟩=>some (Builtin.max_ ts o.type ⟨kL ρ args⟩)
 | .convert s d x=>match P.underlying d with
  |some (.slice _)=>none
  |_=>match HB P s d with
   |true=>some (rI s d (ρ x))
   |false=>some (convert s d (ρ x))
 |_=>none
def Sz:Op->Bool
 | .move _| .pick .. | .nilCheck _| .makeFunc .. =>true
 |_=>false
def xB(ρ:Operand->Value)(op:Op)(K:Value->Prop):Prop:=
 match op with
 | .move x=>K (ρ x)
 | .pick c x y=>Ep (ρ c) λb=>K (Q9 b (ρ x) (ρ y))
 | .nilCheck x=>oQ (ρ x) K
 | .makeFunc fn first captured=>K (.func fn ⟨kL ρ first⟩ ⟨kL ρ captured⟩)
 |_=>False
def Qh(P:Program)(o:Oper):Nat:=
 match Sz o.op with
 |true=>0
 |false=>
  match wl P (λ_=>undef) o.op with
  |some _=>1
  |none=>
   match wt P (λ_=>undef) o with
   |some _=>2
   |none=>3
def D3(o:Oper):List Nat:=(o.after.toList.filter λe=>Region.binds .any e).map (·.on)
def lM(ops:List Oper)(i:Nat):List Nat:=
 match ops[i]? with
 |some o=>D3 o
 |none=>[]
def XN(ops:List Oper):Nat->List Nat->List Nat->List Nat
 |0,_,acc=>acc
 |_+1,[],acc=>acc
 |f+1,x::r,acc=>
  match acc.contains x with
  |true=>XN ops f r acc
  |false=>XN ops f (lM ops x++r) (x::acc)
def BC(ops:List Oper)(j:Nat):List Nat:=XN ops 4000 (lM ops j) []
abbrev uY:=List (Nat×Sem Value×Value)
def Ab(P:Program)(w:Wt_):uY->Prop->Prop
 | [],R=>R
 |(_,s,v)::r,R=>s.run P w=.ok v w/\Ab P w r R
def K3(F:NP_):List Nat->Prop
 | []=>True
 | [j]=>F j
 |j::r=>F j/\K3 F r
def Wf(ops:List Oper)(done:List Nat)(i:Nat):Bool:= !done.contains i&& (lM ops i).all λd=>done.contains d
def Eu(ops:List Oper)(done:List Nat):List Nat:=(List.range ops.length).filter (Wf ops done)
def Sc(P:Program)(ops:List Oper)(i:Nat):Bool:=
 match ops[i]? with
 |some o=>Nat.blt (Qh P o) 3
 |none=>false
def yS(P:Program)(ops:List Oper):Nat->List Nat->uY->fi->World->(fi->World->Prop)->Prop
 |0,_,_,_,_,_=>False
 |fuel+1,done,pend,E,w,K=>
  match (Eu ops done).find? (Sc P ops)with
  |some i=>
   match ops[i]? with
   |none=>False
   |some o=>
    Rn ops o E (λE=>
     match Qh P o with
     |0=>xB (ev E) o.op λv=>yS P ops fuel (i::done) pend (E.put o.dst v) w K
     |1=>match wl P (ev E) o.op with
      |some s=>match xOp P o.op with
       |true=>DI P s λv=>yS P ops fuel (i::done) pend (E.put o.dst v) w K
       |false=>g9 P s λv=>yS P ops fuel (i::done) pend (E.put o.dst v) w K
      |none=>False
     |_=>match wt P (ev E) o with
      |some s=>match xOp P o.op with
       |true=>BL P s w λv=>yS P ops fuel (i::done) ((i,s,v)::pend) (E.put o.dst v) w K
       |false=>l8 P s w λv=>yS P ops fuel (i::done) ((i,s,v)::pend) (E.put o.dst v) w K
      |none=>False)
     (λE=>yS P ops fuel (i::done) pend (E.skip o.dst) w K)
  |none=>
   match Eu ops done with
   | []=>K E w
   |rs=>K3 (λj=>
    match ops[j]? with
    |none=>False
    |some o=>
     Rn ops o E (λE=>Rf P (ev E) o w λv w' =>Ab P w' (pend.filter λp=> !(BC ops j).contains p.1) (yS P ops fuel (j::done) (pend.filter λp=> !(BC ops j).contains p.1) (E.put o.dst v) w' K))
      (λE=>yS P ops fuel (j::done) (pend.filter λp=> !(BC ops j).contains p.1) (E.skip o.dst) w K)) rs
def qY(P:Program)(ops:List Oper):Bool:=
 (List.range ops.length).all λi=>match ops[i]? with
  |none=>false
  |some oi=>uR oi.op&& (!Nat.blt (Qh P oi) 3||((match oi.dst with|none=>true|some d=> !(oi.looksAt ops.toArray).contains d)&& (List.range ops.length).all λj=>Nat.beq i j||match ops[j]? with
   |none=>false
   |some oj=>
    (match oi.dst with
    |none=>true
    |some d=>oj.dst != some d&& (!(oj.looksAt ops.toArray).contains d||(BC ops j).contains i))&&
    (match oj.dst with
    |none=>true
    |some d=> !(oi.looksAt ops.toArray).contains d||(BC ops i).contains j||(BC ops j).contains i)))
def nB(h:qY P ops=true){i:Nat}{o:Oper}(hi:ops[i]? =some o):uR o.op=true:=by
 unfold qY at h;have a:i<ops.length:=(aF.1 hi).1;have:=bf.1 h i (eR.2 a);rw[hi]at this;simp only[ao]at this;exact this.1
def Ba(h:qY P ops=true){i:Nat}{o:Oper}(hi:ops[i]? =some o)(e:Qh P o<3){d:Nat}(b:o.dst=some d):
  d ∉ o.looksAt ops.toArray:=by
 unfold qY at h;have a:i<ops.length:=(aF.1 hi).1;have:=bf.1 h i (eR.2 a);rw[hi]at this;have c:Nat.blt (Qh P o) 3=true:=by simpa [lC]using e
 simp only[c,b,ao,jk,fG]at this;simpa using this.2.1
def qT(h:qY P ops=true){i j:Nat}{e k:Oper}(hi:ops[i]? =some e)(o:ops[j]? =some k)(s:Qh P e<3)(n:i≠j):
  (∀d,e.dst=some d->k.dst≠some d/\(d∈k.looksAt ops.toArray->i∈BC ops j))/\
  (∀d,k.dst=some d->d∈e.looksAt ops.toArray->j∈BC ops i\/i∈BC ops j):=by
 unfold qY at h;have m:i<ops.length:=(aF.1 hi).1;have f:j<ops.length:=(aF.1 o).1;have:=bf.1 h i (eR.2 m);rw[hi]at this;have p:Nat.blt (Qh P e) 3=true:=by simpa [lC]using s
 simp only[p,ao,jk,fG]at this;have g:=bf.1 this.2.2 j (eR.2 f)
 have b:Nat.beq i j=false:=by
  cases q:Nat.beq i j with
  |false=>rfl
  |true=>exact absurd (dN q) n
 rw[o,b]at g;simp only[fG,ao]at g;refine⟨λd l=>?_,λd l r=>?_⟩
 ·have a:=g.1;rw[l]at a;simp only[ao,bne_iff_ne,ne_eq,li]at a;refine⟨a.1,λr=>?_⟩;rcases a.2 with c|c
  ·grind
  ·simpa using c
 ·have a:=g.2;rw[l]at a;simp only[li]at a;rcases a with(c|c)|c
  ·grind
  ·grind
  ·grind
def vU(ops:List Oper)(L:List Nat):Prop:=∀i∈L,∀d∈lM ops i,d∈L
def TN(e:vU ops L):∀(f:Nat) (c acc:List Nat),(∀x∈c,x∈L)->(∀x∈acc,x∈L)->∀x∈XN ops f c acc,x∈L:=by
 intro f;induction f with
 |zero=>intro c acc _ d x b;exact d x b
 |succ f h=>
  intro c acc g d x b;cases c with
  |nil=>exact d x b
  |cons y r=>
   simp only[XN]at b;split at b
   ·grind
   ·refine h _ _ (λz a=>?_) (λz a=>?_) x b
    ·rcases bm.1 a with a|a
     ·exact e y (g y ai) z a
     ·grind
    ·rcases ar.1 a with rfl|a
     ·grind
     ·exact d z a
def zx(b:vU ops L){j:Nat}(a:∀d∈lM ops j,d∈L):∀x∈BC ops j,x∈L:=
 TN b 4000 _ _ a (λ_ h=>by cases h)
def vU.cons(c:vU ops L){j:Nat}(e:∀d∈lM ops j,d∈L):vU ops (j::L):=by
 intro i a d b;rcases ar.1 a with rfl|a
 ·grind
 ·exact af _ (c i a d b)
def PI:Wf ops done i=true↔i ∉ done/\∀d∈lM ops i,d∈done:=by
 simp[Wf]
def qM:i∈Eu ops done↔i<ops.length/\i ∉ done/\∀d∈lM ops i,d∈done:=by
 simp[Eu,aT,PI]
def Cb(P:Program)(s:Sem Value)(w:Wt_)(v:Vt_)(w' :Wt_)(h:s.run P w=.ok v w'):(do pure (.value (<-s)):Sem Next).run P w=.ok (.value v) w' :=by
 simp[dh,h,Result.andThen]
def D8{ρ:Operand->Value}{K:Value->Prop}(h:xB ρ o.op K):
  ∃v,(∀w,(execOp ρ o).run P w=.ok (.value v) w)/\K v:=by
 obtain⟨f,g,e,pos,d,guard⟩:=o;unfold xB at h;cases g<;>simp only at h<;>first|exact h.elim|skip
 case move x=>exact⟨_,λ_=>rfl,h⟩
 case pick c x y=>
  unfold Ep at h;split at h
  ·rename_i b j
   refine⟨_,λw=>?_,h⟩;simp only[execOp,j,asBool,dh,ib,Result.andThen,Kx]
  ·exact h.elim
 case nilCheck x=>
  unfold oQ at h;split at h
  ·rename_i a i
   exact⟨_,λw=>by simp only[execOp,i,ib],h⟩
  ·exact h.elim
 case makeFunc fn first captured=>
  rw[nO,nO]at h;exact⟨_,λ_=>rfl,h⟩
def Ek{ρ:Operand->Value}(h:wl P ρ o.op=some s):execOp ρ o=(do pure (.value (<-s))):=by
 obtain⟨c,d,b,pos,a,guard⟩:=o;unfold wl at h;cases d<;>simp only at h<;>first|(cases h;done)|(cases h;rfl)|skip
 case build t ps=>
  have h:Instr.build t ⟨ps.toList.map λp=>(p.1,ρ p.2)⟩=s:=by
   split at h
   ·exact cS h
   ·exact cS h
  subst h
  have e:(⟨ps.toList.map λp=>(p.1,ρ p.2)⟩:Array (Nat×Value))=ps.map λ(i,x)=>(i,ρ x):=by
   apply kg;simp
  simp only[execOp];rw[e]
def DS{ρ:Operand->Value}(h:wt P ρ o=some s):execOp ρ o=(do pure (.value (<-s))):=by
 obtain⟨j,k,i,pos,e,guard⟩:=o;unfold wt at h;cases k<;>simp only at h<;>first|(cases h;done)|(cases h;rfl)|skip
 case load t x=>
  split at h
  ·cases h;rfl
  ·cases h;rfl
 case convert a b x=>
  split at h
  ·cases h
  ·split at h
   ·cases h;rfl
   ·cases h;rfl
 case call c=>
  obtain⟨d,g,l⟩:=c;cases d with
  |value f=>cases h
  |invoke r m=>cases h
  |builtin b=>
   cases b<;>simp only at h<;>first|(cases h;done)|skip
   all_goals
    rw[nO]at h;cases h;rfl
def UF(P:Program)(ops:List Oper)(E:fi)(w:Wt_)(pend:uY)(i:Nat):Prop:=
 ∃o,ops[i]? =some o/\Qh P o<3/\
  ((jT ops E o=true/\∃v,(∀d,o.dst=some d->E.get d=v)/\(execOp (ev E) o).run P w=.ok (.value v) w/\
    ((∀w',(execOp (ev E) o).run P w' =.ok (.value v) w')\/∃s,(i,s,v)∈pend/\∀w',s.run P w' =.ok v w' ->(execOp (ev E) o).run P w' =.ok (.value v) w'))\/
  (jT ops E o=false/\∀d,o.dst=some d->E.get d=undef))
def yX(ops:List Oper)(L:List Nat):List Nat->Prop
 | []=>True
 |i::A=>(∀d∈lM ops i,d∈L\/d∈A)/\yX ops L A
def yX.mono{b:List Nat}(h:∀x∈L,x∈b):∀{A:List Nat},yX ops L A->yX ops b A
 | [],_=>trivial
 |_::_,a=>⟨λd c=>(a.1 d c).imp (h d) id,yX.mono h a.2⟩
def yX.erase{j:Nat}:∀{A:List Nat},yX ops L A->yX ops (j::L) (A.erase j)
 | [],_=>trivial
 |i::A,b=>by
  by_cases a:i=j
  ·subst a;rw[List.erase_cons_head];exact b.2.mono (λx f=>af _ f)
  ·rw[List.erase_cons_tail (by simpa using a)];refine⟨λd c=>?_,b.2.erase⟩;rcases b.1 d c with h|h
   ·grind
   ·by_cases e:d=j
    ·grind
    ·grind
def yX.first:∀{A:List Nat},yX ops L A->A≠ []->∃i∈A,∀d∈lM ops i,d∈L
 | [],_,h=>absurd rfl h
 | [i],b,_=>⟨i,ai,λd a=>(b.1 d a).resolve_right (by simp)⟩
 |i::k::A,b,_=>by
  obtain⟨j,c,a⟩:=b.2.first (by simp);exact⟨j,af _ c,a⟩
structure CR(P:Program)(ops:List Oper)(n:Nat)(L A:List Nat)(done:List Nat)(pend:uY)(E:fi)(a:Act)(w:Wt_):Prop where
 doneIff:∀i,i∈done↔i∈L\/i∈A
 apart:∀i∈A,i ∉ L
 nodup:A.Nodup
 ord:yX ops L A
 closed:vU ops L
 size:a.tmps.size=n
 defs:a.defers=E.ds.map λd=>{target:=.collected d,args:=#[]}
 frame:∀t,(∀i∈A,∀o,ops[i]? =some o->o.dst≠some t)->a.tmps.getD t undef=E.get t
 val:∀i∈A,UF P ops E w pend i
def CR.closedDone{A:List Nat}{e:uY}{w:Wt_}(h:CR P ops n L A done e E a w):vU ops done:=by
 have g:∀(A:List Nat),yX ops L A->∀i∈A,∀d∈lM ops i,d∈L\/d∈A:=by
  intro A;induction A with
  |nil=>intro _ i b;cases b
  |cons k A j=>
   intro f i b d c;rcases ar.1 b with rfl|b
   ·exact(f.1 d c).imp id (af _)
   ·exact(j f.2 i b d c).imp id (af _)
 intro i b d c;rcases(h.doneIff i).1 b with b|b
 ·exact(h.doneIff d).2 (.inl (h.closed i b d c))
 ·exact(h.doneIff d).2 (g A h.ord i b d c)
def Gj{P:Program}(d:uR o.op=true)(h:∀t∈o.looksAt ops.toArray,E'.get t=E.get t):
  execOp (ev E') o=execOp (ev E) o/\jT ops E' o=jT ops E o:=by
 constructor
 ·refine execOp_congr o (λn b m=>by rw[m]at d;cases d) λx l=>?_;cases x with
  |tmp t=>
   apply h t;unfold Oper.looksAt;exact cY _ (lJ.2 ⟨.tmp t,by simpa using l,rfl⟩)
  |const v=>rfl
  |global g=>rfl
  |func f=>rfl
 ·unfold jT Region.wanted;cases e:o.guard with
  |none=>rfl
  |some g=>
   obtain⟨j,c⟩:=g;simp only;congr 1;unfold Bb;cases k:ops[j]? with
   |none=>rfl
   |some i=>
    cases a:i.dst with
    |none=>simp[a]
    |some s=>
     simp only[a,Option.bind_some];rw[h s (by unfold Oper.looksAt;rw[e];simp[k,a])]
def UF.env(l:qY P ops=true){E E' :fi}{w:Wt_}{c a:uY}{i:Nat}(h:UF P ops E w c i)
  (j:∀o,ops[i]? =some o->∀t,t∈o.looksAt ops.toArray\/o.dst=some t->E'.get t=E.get t)(hp:∀x∈c,x∈a):UF P ops E' w a i:=by
 obtain⟨o,e,r,q⟩:=h;have m:=Gj (P:=P) (ops:=ops) (E:=E) (E' :=E') (nB l e) λt n=>j o e t (.inl n);refine⟨o,e,r,?_⟩;rw[m.1,m.2];rcases q with⟨k,v,g,p,f⟩|⟨k,g⟩
 ·refine .inl ⟨k,v,λd b=>(j o e d (.inr b)).trans (g d b),p,?_⟩;rcases f with f|⟨s,u,f⟩
  ·exact .inl f
  ·grind
 ·exact .inr ⟨k,λd b=>(j o e d (.inr b)).trans (g d b)⟩
def UF.world{w w' :Wt_}{b a:uY}(h:UF P ops E w b i)
  (hp:∀s v,(i,s,v)∈b->(i,s,v)∈a/\(w' =w\/s.run P w' =.ok v w')):UF P ops E w' a i:=by
 obtain⟨o,k,m,d⟩:=h;refine⟨o,k,m,?_⟩;rcases d with⟨j,v,g,l,c⟩|d
 ·rcases c with c|⟨s,f,c⟩
  ·grind
  ·refine .inl ⟨j,v,g,?_,.inr ⟨s,(hp s v f).1,c⟩⟩;rcases(hp s v f).2 with e|e
   ·rw[e];exact l
   ·exact c w' e
 ·exact .inr d
end Go.Vc
