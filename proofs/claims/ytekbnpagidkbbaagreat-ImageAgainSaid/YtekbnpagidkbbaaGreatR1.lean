/- Part of a proof. -/
import Derived.CallsIn
import Derived.OrdersIn
import Derived.RangeFuncIn
import Derived.RangeFuncLeaves
import Derived.KernelRfl
import Derived.Laws.Sem
import Derived.Laws.World
import Derived.RangeFuncRecord
import Derived.TacticsIn
set_option linter.all false
set_option maxRecDepth 100000
set_option maxHeartbeats 4000000
namespace Go.Vc
open Go Go.Vc
variable {a:Act}{f:FuncId}{L done:List Nat}{ops:List Oper}{n i:Nat}{o:Oper}{ro:Option Nat}{P:Program}{s:Sem Value}{w:World}
def jI:= @Go.Calls.mono
def cR:= @List.getElem?_toArray
def gG:= @Array.getElem?_eq_getElem
def gh:= @Array.getD_eq_getD_getElem?
def dC:= @Option.getD_some
def kS:= @Nat.le_of_not_lt
def de:= @List.mem_append_left
def mi:= @List.mem_filterMap
def nm:= @List.all_cons
def ai:= @Bool.and_eq_true
def ae:= @if_pos
def aa:= @if_neg
def aJ:= @List.getElem?_eq_some_iff
def bg:= @List.all_eq_true
def eZ:= @List.mem_range
def l8:= @Nat.blt_eq
def jL:= @Bool.not_true
def fP:= @Bool.false_or
def dS:= @Nat.eq_of_beq_eq_true
def lK:= @Bool.or_eq_true
def bf:= @List.mem_append
def aw:= @List.mem_cons_self
def ax:= @List.mem_cons
def ag:= @List.mem_cons_of_mem
def aU:= @List.mem_filter
def dw:= @Go.Sem.run_bind
def ir:= @Go.Sem.run_pure
def cZ:= @Option.some.inj
def kM:= @Array.ext'
def ce:= @List.nodup_cons
def lR:= @Ne.symm
def dG:= @List.mem_of_find?_eq_some
def lJ:= @List.find?_some
def cm:= @List.mem_singleton
def dv:= @List.size_toArray
def av:= @List.getElem?_eq_getElem
def eQ:= @Option.map_some
def aL:= @List.mem_map
def jV:= @Array.all_eq_true'
def aQ:= @Classical.byContradiction
def fK:= @List.eq_nil_iff_forall_not_mem
def aq:= @List.getElem_mem
def gt:= @List.filter_filter
def dM:= @List.filter_congr
def mg:= @List.contains_cons
def il:= @List.length_filter_lt_length_iff_exists
def dc:= @List.mem_of_getElem?
def pw:= @Bool.and_false
def fN:= @List.mem_append_right
def gT:= @Bool.or_eq_false_iff
def ju:= @List.nodup_nil
def dQ:= @List.map_map
def kX:= @List.map_id
def eh:= @List.map_congr_left
def be:= @List.length_cons
def cD:= @List.drop_eq_getElem_cons
def ff:= @List.foldl_cons
def df:= @if_true
def dg:= @if_false
def aM:= @List.map_append
def cw:= @Go.World.size_alloc
def aH:= @Nat.zero_le
def kq:= @Nat.sub_zero
def gy:= @List.getElem?_eq_none
def ji:= @Array.getElem?_eq_some_iff
def pu:= @List.mapM_cons
def dp:= @Bool.false_ne_true
def aW:= @decide_eq_true
def aS:= @decide_eq_true_eq
def aG:= @Iff.rfl
def aT:= @Go.run_underlying
def bi:= @Bool.false_eq_true
def kN:= @Array.getElem?_modify
def bE:= @of_decide_eq_true
def ey:= @Nat.add_assoc
def aD:= @Nat.le_refl
def ck:= @Nat.le_trans
def bI:= @Nat.lt_of_lt_of_le
def jq:= @Go.World.putObj_size
def fj:= @List.getElem?_take
def fl:= @List.getElem?_drop
def cL:= @List.drop_drop
def dK:= @Nat.min_eq_left
def cB:= @Nat.add_zero
def nM:= @List.zipIdx_cons
def gx:= @Nat.mod_lt
def fI:= @getElem!_pos
def mV:= @Nat.le_mul_of_pos_right
def cH:= @Nat.mul_le_mul_right
def ar:= @List.append_assoc
def mQ:= @Nat.sub_mul
def bm:= @List.flatMap_cons
def iB:= @List.getElem_cons_succ
def da:= @List.drop_left
def ej:= @Nat.add_mul
def ia:= @Int.mul_le_mul_of_nonneg_right
def aI:= @List.map_cons
def dU:= @List.take_left
def ep:= @congrArg
def l9:= @not_or
def cM:= @List.Sublist.refl
def lH:= @List.cons.injEq
def gL:= @Option.some.injEq
def jP:= @List.eraseIdx_cons_succ
def eF:= @List.cons_append
def cz:= @List.getElem?_map
def kr:= @List.ext_getElem?
def kV:= @List.getElem?_modify
def kK:= @Array.getElem?_toList
def bQ:= @List.getElem_of_mem
def af:= @List.length_append
def ot:= @Nat.succ_mul
def ov:= @Nat.add_comm
def cg:= @List.getElem?_append_left
def nP:= @Nat.mod_eq_of_lt
def bp:= @List.getElem?_append_right
def eA:= @Nat.mul_comm
def lO:= @Nat.div_add_mod
def aO:= @List.take_append_of_le_length
def aC:= @List.take_of_length_le
def nH:= @List.drop_append
def dL:= @List.nil_append
def cO:= @List.filter_eq_self
def eI:= @List.filter_sublist
def aV:= @List.filter_cons_of_neg
def aX:= @List.mem_map_of_mem
def bL:= @List.filter_cons_of_pos
def ib:= @Array.eq_empty_of_size_eq_zero
def eJ:= @Bool.eq_false_iff
def cS:= @List.Perm.refl
def az:= @List.length_take
def bC:= @List.length_drop
def bV:= @Go.IntKind.wrap_i64
def dt:= @List.pairwise_append
def bY:= @List.pairwise_cons
def eL:= @List.pairwise_map
def nO:= @List.perm_middle
def iN:= @List.Perm.of_eq
def dh:= @Bool.eq_iff_iff
def iQ:= @List.find?_cons
def nr:= @Prod.mk.injEq
def bh:= @List.length_filter_le
def bH:= @List.sum_cons
def gX:= @List.length_eraseIdx
def bD:= @decide_eq_false
def kU:= @decide_eq_decide
def jw:= @Int.mul_nonneg
def dq:= @List.drop_append_of_le_length
def dW:= @List.drop_zero
def jm:= @Int.tmod_eq_emod_of_nonneg
def fW:= @List.take_add_one
def eB:= @List.all_append
def fZ:= @Nat.add_sub_cancel_left
def lZ:= @Nat.succ_pos
def bF:= @List.mem_of_mem_take
def kG:= @List.eq_nil_of_length_eq_zero
def eO:= @Int.natCast_mul
def ij:= @List.take_succ_cons
def iO:= @List.take_length_add_append
def gV:= @Int.toNat_natCast
def kp:= @Nat.zero_mul
def cX:= @Nat.zero_add
def cE:= @List.flatMap_append
def ee:= @List.length_singleton
def cJ:= @List.take_append_drop
def gY:= @List.mem_of_mem_drop
def bz:= @List.findIdx?_eq_some_iff_getElem
def dH:= @List.findIdx?_eq_none_iff
def dP:= @List.find?_eq_some_iff_getElem
def dZ:= @List.find?_eq_none
def nK:= @Nat.lt_succ_self
def cI:= @List.set_append_right
def ek:= @List.setIfInBounds_toArray
def dX:= @List.set_append_left
def bN:= @List.length_set
def eW:= @List.getElem_cons_zero
def eD:= @List.mem_or_eq_of_mem_set
def fh:= @Option.isSome_iff_exists
def nN:= @Nat.div_add_mod'
def bP:= @List.pairwise_iff_getElem
def fy:= @decide_eq_false_iff_not
def fT:= @Nat.mul_le_mul
def ah:= @List.length_map
def jM:= @Int.natCast_add
def cy:= @List.filter_append
def fU:= @List.sum_append
def lM:= @List.takeWhile_cons
def iq:= @Int.add_zero
def aK:= @List.take_length
def fQ:= @List.not_mem_nil
def mP:= @or_false
def eu:= @Int.le_refl
def iV:= @List.foldl_append
def aN:= @List.append_nil
def jx:= @Int.shiftRight_eq_div_pow
def cG:= @List.getElem_map
def ke:= @List.set_set
def eg:= @List.getElem_set_self
def im:= @List.any_eq_true
def cU:= @List.take_zero
def cn:= @List.drop_of_length_le
def mJ:= @Nat.mul_add
def gR:= @Nat.mul_assoc
def gw:= @Nat.div_lt_iff_lt_mul
def fk:= @Nat.lt_of_le_of_lt
def jT:= @Nat.add_sub_cancel
def jH:= @Nat.div_mul_le_self
def lD:= @Nat.two_pow_pos
def mU:= @Nat.pow_add
def lU:= @Nat.div_le_self
def kQ:= @Int.natCast_ediv
def js:= @Nat.pow_le_pow_right
def gF:= @List.map_set
def pT:= @dif_pos
def pl:= @Nat.mul_one
def lL:= @Nat.mul_le_mul_left
def jg:= @List.getD_eq_getElem?_getD
def ou:= @Nat.sub_self
def dx:= @List.length_replicate
def ci:= @List.getElem_cons_drop
def fE:= @Bool.false_and
def lj:= @Bool.true_and
def lQ:= @List.range_succ
def eN:= @List.filter_nil
def gf:= @List.map_nil
def kz:= @List.all_eq_false
def mB:= @List.eq_of_mem_replicate
def gD:= @List.set_getElem_self
def dD:= @List.nodup_append
def iC:= @List.find?_cons_of_pos
def iD:= @List.find?_cons_of_neg
def mf:= @Int.lt_of_lt_of_le
def fg:= @List.eraseIdx_sublist
def gl:= @List.filter_eq_nil_iff
def mO:= @Option.isSome_map
def cC:= @List.flatMap_nil
def iZ:= @List.length_eraseIdx_of_lt
def eE:= @List.drop_length
def oy:= @Nat.pow_succ
def qZ{p:Prop}(h:p:=by omega):p:=h
def di{α:Sort _}(a:α):∃x,x=a:=⟨_,rfl⟩
def d9{α:Sort _}{β:α->Sort _}{p:(a:α)->β a->Prop}(a:α)(b:β a)(h:p a b):p a b:=h
def qie{α:Sort _}{β:α->Sort _}{p:(a:α)->β a->Prop}(a:α)(b:β a)(h:False):p a b:=h.elim
def cV{p:Prop}(h:p:=by kernel_rfl):p:=h
abbrev aZ:=Value->World->Prop
variable {K:aZ}
abbrev gI(n:Int):Value:=.int .i64 n
abbrev iL:= @Instr.loadAt
abbrev iF:= @Instr.fieldAt
abbrev iS:= @Instr.storeAt
abbrev iA:= @Instr.alloc
abbrev iX:= @Instr.indexAt
abbrev gU(n:Int):Value:=.int .u32 n
abbrev gQ(n:Int):Value:=.int .u64 n
abbrev gB(n:Int):Value:=.int .u8 n
abbrev Wt_:=World
abbrev Vt_:=Value
abbrev NP_:=Nat->Prop
abbrev LV_:=List Value
abbrev bO(b o:Nat):Value:=.pointer (some ⟨b,o,none⟩)
structure Ca(P:Program)(f:FuncId)(args:Array Value)(w:World)(K:aZ):Prop where
 out:Calls P f args w λe w' =>∃v,e=.returned v/\K v w'
def Ca.mono{a:Array Value}{c:aZ}(h:Ca P f a w K)(d:∀v b,K v b->c v b):Ca P f a w c:=
 ⟨Calls.mono h.out λ_ _ ⟨v,g,e⟩=>⟨v,g,d _ _ e⟩⟩
def Yl(P:Program)(l:Nat)(args:Array Value)(w:World)(K:aZ):Prop:=
 ∃fn tmps assign body,(Instr.yield l args).run P w=.ok (.round l fn tmps assign body) w/\
  RoundIn Fence.wide 0 P l fn tmps assign body w λe w' =>∃v,e=.returned v/\K v w'
def Yl.mono{l:Nat}{c:Array Value}{e:aZ}(h:Yl P l c w K)(f:∀v d,K v d->e v d):Yl P l c w e:=
 let⟨fn,tmps,a,b,h1,h2⟩:=h
 ⟨fn,tmps,a,b,h1,h2.mono λ_ _ ⟨v,i,g⟩=>⟨v,i,f _ _ g⟩⟩
def Wn(P:Program)(s:Sem Value)(w:World)(K:aZ):Prop:=
 match s.run P w with
 | .ok v w' =>K v w'
 | .halt _ _=>False
structure rv(P:Program)(s:Sem Value)(w:World)(K:aZ):Prop where
 out:Wn P s w K
def B4:rv P s w K↔Wn P s w K:=⟨rv.out,rv.mk⟩
def V3(P:Program)(s:Sem Unit)(w:World)(K:World->Prop):Prop:=
 match s.run P w with
 | .ok _ w' =>K w'
 | .halt _ _=>False
structure ru(P:Program)(s:Sem Unit)(w:World)(K:World->Prop):Prop where
 out:V3 P s w K
def Bv{s:Sem Unit}{K:World->Prop}:ru P s w K↔V3 P s w K:=⟨ru.out,ru.mk⟩
structure rx(P:Program)(s:Sem Value)(w:World)(K:aZ):Prop where
 out:rv P s w K
structure yS(P:Program)(s:Sem Unit)(w:World)(K:World->Prop):Prop where
 out:ru P s w K
def OZ(P:Program)(s:Sem Next)(w:World)(K:aZ):Prop:=
 match s.run P w with
 | .ok (.value v) w' =>K v w'
 | .ok .skip w' =>K undef w'
 | .ok (.enter f args) w' =>Ca P f args w' K
 | .ok (.round l fn tmps assign body) w' =>RoundIn Fence.wide 0 P l fn tmps assign body w' λe w'' =>∃v,e=.returned v/\K v w''
 |_=>False
structure rn(P:Program)(s:Sem Next)(w:World)(K:aZ):Prop where
 out:OZ P s w K
def pV{s:Sem Next}:rn P s w K↔OZ P s w K:=⟨rn.out,rn.mk⟩
def uD(P:Program):Bool:=P.funcs.all λfn=> !(fn.name== "runtime.NumGoroutine")
def K7(P:Program)(fv:Value)(args:List Value)(w:World)(K:aZ):Prop:=
 match fv with
 | .func (.func f) first captured=>Ca P f ⟨first.toList++(args++captured.toList)⟩ w K
 | .func (.yield l) first _=>Yl P l ⟨first.toList++args⟩ w K
 |_=>False
structure lA(P:Program)(fv:Value)(args:List Value)(w:World)(K:aZ):Prop where
 out:K7 P fv args w K
def kf{fv:Value}{a:List Value}:lA P fv a w K↔K7 P fv a w K:=⟨lA.out,lA.mk⟩
def FH(v:Value)(K:Bool->Prop):Prop:=
 match v with
 | .bool b=>K b
 |_=>False
def bc(b:Bool)(T F:Prop):Prop:=
 match b with
 |true=>T
 |false=>F
def sx(v:Value)(T F:Prop):Prop:=FH v λb=>bc b T F
def SP(b:Bool)(x y:Value):Value:=
 match b with
 |true=>x
 |false=>y
def Mc(b:Bool)(x y:Value):SP b x y=if b then x else y:=by cases b<;>rfl
structure ft where
 l:List (Nat×Option Value)
 g:Nat->Value
 ds:List Nat
variable {E E' :ft}
def ft.look:List (Nat×Option Value)->Nat->Option (Option Value)
 | [],_=>none
 |(k,v)::r,t=>bif Nat.beq k t then some v else ft.look r t
def ft.get(E:ft)(t:Nat):Value:=
 match ft.look E.l t with
 |some (some v)=>v
 |some none=>undef
 |none=>E.g t
def ft.put(E:ft)(d:Option Nat)(v:Value):ft:=
 match d with
 |some d=>{E with l:=(d,some v)::E.l}
 |none=>E
def ft.skip(E:ft)(d:Option Nat):ft:=
 match d with
 |some d=>{E with l:=(d,none)::E.l}
 |none=>E
def ft.skipped(E:ft)(t:Nat):Bool:=
 match ft.look E.l t with
 |some none=>true
 |_=>false
def ev(E:ft):Operand->Value
 | .tmp t=>E.get t
 | .const v=>v
 | .global g=>.pointer (some ⟨g,0,none⟩)
 | .func f=>.func (.func f) #[] #[]
structure vi(n:Nat)(E:ft)(a:Act):Prop where
 size:a.tmps.size=n
 get:∀t,a.tmps.getD t undef=E.get t
 defs:a.defers=E.ds.map λd=>{target:=.collected d,args:=#[]}
def vi.ev(h:vi n E a):a.eval=ev E:=by
 funext x;cases x with
 |tmp t=>exact h.get t
 |const v=>rfl
 |global g=>rfl
 |func f=>rfl
def ft.get_put(E:ft)(d:Nat)(v:Value)(t:Nat):(E.put (some d) v).get t=if d=t then v else E.get t:=by
 by_cases h:d=t
 ·subst h;simp[ft.get,ft.put,ft.look]
 ·have:Nat.beq d t=false:=by
   cases a:Nat.beq d t with
   |false=>rfl
   |true=>exact absurd (Nat.eq_of_beq_eq_true a) h
  simp[ft.get,ft.put,ft.look,this,h]
def ft.get_skip(E:ft)(d:Nat)(t:Nat):(E.skip (some d)).get t=if d=t then undef else E.get t:=by
 by_cases h:d=t
 ·subst h;simp[ft.get,ft.skip,ft.look]
 ·have:Nat.beq d t=false:=by
   cases a:Nat.beq d t with
   |false=>rfl
   |true=>exact absurd (Nat.eq_of_beq_eq_true a) h
  simp[ft.get,ft.skip,ft.look,this,h]
def wk(n:Nat):Option Nat->Bool
 |some d=>Nat.blt d n
 |none=>true
def GZ(xs:Array Value)(d t:Nat)(v:Value)(h:d<xs.size):(xs.setIfInBounds d v).getD t undef=if d=t then v else xs.getD t undef:=by
 by_cases a:d=t
 ·subst a;simp[h]
 ·simp[a]
def vi.put(h:vi n E a){d:Option Nat}(c:wk n d=true)(v:Value):vi n (E.put d v) (a.put d v):=by
 cases d with
 |none=>exact h
 |some d=>
  have b:d<a.tmps.size:=by rw[h.size];simpa [wk,Nat.blt_eq]using c
  refine⟨by simp[Act.put,h.size],λt=>?_,h.defs⟩;rw[ft.get_put];simp only[Act.put];rw[GZ _ _ _ _ b,h.get]
def vi.skip(h:vi n E a){d:Option Nat}(c:wk n d=true):vi n (E.skip d) (a.put d undef):=by
 cases d with
 |none=>exact h
 |some d=>
  have b:d<a.tmps.size:=by rw[h.size];simpa [wk,Nat.blt_eq]using c
  refine⟨by simp[Act.put,h.size],λt=>?_,h.defs⟩;rw[ft.get_skip];simp only[Act.put];rw[GZ _ _ _ _ b,h.get]
def vi.of_get(h:vi n E a)(c:∀t,E'.get t=E.get t)(b:E'.ds=E.ds):vi n E' a:=
 ⟨h.size,λt=>(h.get t).trans (c t).symm,by rw[b];exact h.defs⟩
def FM:Operand->Bool
 | .const _=>true
 |_=>false
def eqG(op:BinOp)(t:TypeId)(c:Bool)(a b:Value):Sem Unit:=do
 if !(op matches .eql| .neq)then return
 match a,b with
 | .nilIface,.nilIface=>
  if c then return
  if<-Op.eqGuardIn Op.maxDepth t a b then unsupported (.noEntry "binop/eql: two nil values of an interface type with methods, neither of them the literal nil")
 | .agg _,.agg _=>
  if !(<-program).eqGuardType (<-program).depth t then return
  if<-Op.eqGuardIn Op.maxDepth t a b then unsupported (.noEntry "binop/eql: two nil values of an interface type with methods, in a part of a struct or an array")
 |_,_=>pure ()
def XX(c:BinOp)(t:TypeId)(x y:Operand)(a b:Value):eqGuard c t x y a b=eqG c t (FM x||FM y) a b:=by
 unfold eqGuard eqG;cases x<;>cases y<;>rfl
def io(op:BinOp)(t:TypeId)(c:Bool)(a b:Value):Sem Value:=do eqG op t c a b;binOp op t a b
def pJ(v:Value)(K:Value->Prop):Prop:=
 match v with
 | .pointer (some a)=>K (.pointer (some a))
 |_=>False
def CS(P:Program)(t:TypeId):Bool:=Nat.blt 12 (P.cellsOf t)
def qE(t:TypeId)(x:Value):Sem Value:=Instr.loadAt t x
def rS(t:TypeId)(x y:Value):Sem Unit:=Instr.storeAt t x y
def uK(t:TypeId):Sem Value:=Instr.alloc t true (.tuple #[])
def CA(t:TypeId)(parts:Array (Nat×Value)):Sem Value:=Instr.build t parts
def fb(ts:Array TypeId)(t:TypeId)(args:List Value):Sem Value:=Builtin.append_ ts t ⟨args⟩
def Lh(ts:Array TypeId)(t:TypeId)(args:List Value):Sem Value:=Builtin.copy_ ts t ⟨args⟩
def tU(ts:Array TypeId)(t:TypeId)(args:List Value):Sem Value:=Builtin.delete_ ts t ⟨args⟩
def A7(ts:Array TypeId)(t:TypeId)(args:List Value):Sem Value:=Builtin.clear_ ts t ⟨args⟩
def Ec(t:TypeId)(l c:Value):Sem Value:=Instr.makeSlice t l c
def rg(t:TypeId)(n:Nat)(parts:List (Nat×Value)):Sem Value:=Instr.buildSlice t n ⟨parts⟩
def xA(s d:TypeId)(x:Value):Sem Value:=convert s d x
def jQ(t:TypeId)(m k:Value)(ok:Bool):Sem Value:=Instr.lookup t m k ok
def qX(t:TypeId)(m k v:Value):Sem Unit:=Instr.mapUpdate t m k v
def Bo(t:TypeId)(x:Value):Sem Value:=Instr.range t x
def Ea(it:Value)(s:Bool)(t:TypeId):Sem Value:=Instr.next it s t
def Bq(it:Value):Sem Value:=Instr.entry it
def KQ(t:TypeId)(m k:Value):Sem Value:=Instr.mapEntry t m k
def Pq(t:TypeId)(m s v:Value):Sem Unit:=Instr.entryStore t m s v
def IS(P:Program)(s d:TypeId):Bool:=
 (match P.underlying s with|some (.slice _)=>true|_=>false)||(match P.underlying d with|some (.slice _)=>true|_=>false)
def Ym(P:Program)(f:FuncId):Bool:=match (P.funcs[f]?).bind (·.body)with|none=>true|some _=>false
structure rnx(P:Program)(f:FuncId)(args:List Value)(w:World)(K:aZ):Prop where
 out:rn P (callFunc f ⟨args⟩) w K
def lr(ρ:Operand->Value)(xs:Array Operand):List Value:=xs.toList.map ρ
def SV(P:Program)(ρ:Operand->Value)(o:Oper)(w:World)(K:aZ):Prop:=
 match o.op with
 | .move x| .assign x=>K (ρ x) w
 | .pick c x y=>FH (ρ c) λb=>K (SP b (ρ x) (ρ y)) w
 | .alloc elem=>match CS P elem with
  |true=>rx P (uK elem) w K
  |false=>rv P (Instr.alloc elem true (.tuple #[])) w K
 | .box elem x=>rv P (Instr.box elem (ρ x)) w K
 | .build t parts=>match CS P t with
  |true=>rx P (CA t ⟨parts.toList.map λp=>(p.1,ρ p.2)⟩) w K
  |false=>rv P (Instr.build t ⟨parts.toList.map λp=>(p.1,ρ p.2)⟩) w K
 | .buildSlice t len parts=>rx P (rg t len (parts.toList.map λp=>(p.1,ρ p.2))) w K
 | .load t x=>match CS P t with
  |true=>rx P (qE t (ρ x)) w K
  |false=>rv P (Instr.loadAt t (ρ x)) w K
 | .store t x y=>match CS P t with
  |true=>yS P (rS t (ρ x) (ρ y)) w (K undef)
  |false=>ru P (Instr.storeAt t (ρ x) (ρ y)) w (K undef)
 | .binOp op t x y _=>rv P (io op t (FM x||FM y) (ρ x) (ρ y)) w K
 | .unOp op _ x=>rv P (Op.unary op (ρ x)) w K
 | .convert s d x=>match IS P s d with
  |true=>rx P (xA s d (ρ x)) w K
  |false=>rv P (convert s d (ρ x)) w K
 | .sliceToArrayPointer t x=>rv P (Instr.arrayAt t (ρ x)) w K
 | .makeInterface t x=>rv P (Instr.makeInterface t (ρ x)) w K
 | .makeFunc fn first captured=>K (.func fn ⟨lr ρ first⟩ ⟨lr ρ captured⟩) w
 | .makeMap t r=>rv P (Instr.makeMap t (r.map ρ)) w K
 | .makeSlice t l c=>rx P (Ec t (ρ l) (ρ c)) w K
 | .slice t x lo hi mx=>rv P (Instr.sliceAt t (ρ x) (lo.map ρ) (hi.map ρ) (mx.map ρ)) w K
 | .fieldAddr t x f=>rv P (Instr.fieldAt t (ρ x) f) w K
 | .field t x f=>rv P (Instr.field t (ρ x) f) w K
 | .indexAddr t x i=>rv P (Instr.indexAt t (ρ x) (ρ i)) w K
 | .index t x i=>rv P (Instr.index t (ρ x) (ρ i)) w K
 | .lookup t x i ok=>rx P (jQ t (ρ x) (ρ i) ok) w K
 | .mapUpdate t m k x| .insert t m k x=>yS P (qX t (ρ m) (ρ k) (ρ x)) w (K undef)
 | .range t x=>rx P (Bo t (ρ x)) w K
 | .next it s=>rx P (Ea (ρ it) s o.type) w K
 | .entry it=>rx P (Bq (ρ it)) w K
 | .mapEntry t m k=>rx P (KQ t (ρ m) (ρ k)) w K
 | .entryStore t m s x=>yS P (Pq t (ρ m) (ρ s) (ρ x)) w (K undef)
 | .typeAssert x t u ok=>rv P (Instr.typeAssert (ρ x) t u ok) w K
 | .extract t i=>rv P (Instr.extract (ρ t) i) w K
 | .call c=>
  match c.callee with
  | .value (.func f)=>match Ym P f with
   |true=>rnx P f (lr ρ c.args) w K
   |false=>Ca P f ⟨lr ρ c.args⟩ w K
  | .value f=>lA P (ρ f) (lr ρ c.args) w K
  | .builtin .append=>rx P (fb c.argTypes o.type (lr ρ c.args)) w K
  | .builtin .copy=>rx P (Lh c.argTypes o.type (lr ρ c.args)) w K
  | .builtin .delete=>rx P (tU c.argTypes o.type (lr ρ c.args)) w K
  | .builtin .clear=>rx P (A7 c.argTypes o.type (lr ρ c.args)) w K
  | .builtin b=>rn P (builtin b c.argTypes o.type ⟨c.args.toList.map FM⟩ ⟨lr ρ c.args⟩) w K
  | .invoke _ _=>rn P (execOp ρ o) w K
 | .nilCheck x=>pJ (ρ x) λv=>K v w
 | .defer _| .go _| .select .. | .panic _=>False
 |_=>rn P (execOp ρ o) w K
def lX(h:rv P s w K):rn P (do pure (.value (<-s))) w K:=by
 rw[B4]at h;unfold Wn at h;rw[pV];unfold OZ;simp only[Sem.run_bind,Sem.run_pure];cases a:s.run P w with
 |ok v b=>rw[a]at h;simpa [Result.andThen]using h
 |halt x b=>rw[a]at h;exact h.elim
def vG{s:Sem Unit}(h:ru P s w (K undef)):rn P (do s;pure .skip) w K:=by
 rw[Bv]at h;unfold V3 at h;rw[pV];unfold OZ;simp only[Sem.run_bind,Sem.run_pure];cases a:s.run P w with
 |ok v b=>rw[a]at h;simpa [Result.andThen]using h
 |halt x b=>rw[a]at h;exact h.elim
def Ca.bodied{a:Array Value}(h:Ca P f a w K):∃fn,P.funcs[f]? =some fn/\fn.body.isSome=true:=by
 apply Classical.byContradiction;intro q;obtain⟨e,u,k,⟨v,rfl,_⟩,t,_,o⟩:=h.out []
 have g:((P.funcs[f]?).bind (·.body))=none:=by
  cases l:P.funcs[f]? with
  |none=>rfl
  |some fn=>
   cases j:fn.body with
   |none=>simp[j]
   |some c=>exact absurd ⟨fn,l,by simp[j]⟩ q
 obtain⟨r,p⟩:∃r,step P (lone (Frame.enter P f a .normal) [] w)=.ended r w:=by
  refine⟨?r,step_lone_ended ?h⟩
  case h=>
   simp only[stepG,stepG.exec,Frame.enter,g];exact rfl
 obtain⟨n,d⟩:=(t:Steps P _ _)
 cases n with
 |zero=>
  simp only[runN]at d;injection d with s
  have i:Frame.enter P f a .normal=k:=by
   have:=congrArg (λm=>(m.gs[0]?).map (·.frame)) s;simpa [lone]using this
  have b:=o.1;rw[<-i]at b;simp[Frame.enter]at b
 |succ n=>simp[runN,p]at d
def zP(g:uD P=true){f:FuncId}{a:Array Value}{w:World}{K:aZ}(h:Ca P f a w K):rn P (callFunc f a) w K:=by
 obtain⟨fn,e,i⟩:=h.bodied
 have d:(fn.name== "runtime.NumGoroutine")=false:=by
  have:=(Array.all_eq_true'.1 g) fn (Array.mem_of_getElem? e);simpa using this
 rw[pV];unfold OZ
 have:(callFunc f a).run P w=.ok (.enter f a) w:=by
  have b:¬fn.name= "runtime.NumGoroutine" :=by simpa using d
  have c:¬fn.body=none:=by grind
  unfold callFunc;simp[Sem.run_bind,Result.andThen,e,b,c]
 rw[this];exact h
def oF(ρ:Operand->Value)(xs:Array Operand):(⟨lr ρ xs⟩:Array Value)=xs.map ρ:=by
 apply Array.ext';simp[lr]
def SL(m:uD P=true){fv:Value}{b:List Value}{w:World}{K:aZ}(h:lA P fv b w K):
  rn P (do let d<-Deferred.ofValue fv ⟨b⟩;invoke d.target d.args) w K:=by
 rw[kf]at h;unfold K7 at h;split at h
 ·rename_i f first a
  have e:(do let d<-Deferred.ofValue (.func (.func f) first a) ⟨b⟩;invoke d.target d.args:Sem Next)=callFunc f (first++⟨b⟩++a):=rfl;rw[e]
  have g:(first++⟨b⟩++a:Array Value)=⟨first.toList++(b++a.toList)⟩:=by
   apply Array.ext';simp
  rw[g];exact zP m h
 ·rename_i l first a
  have e:(do let d<-Deferred.ofValue (.func (.yield l) first a) ⟨b⟩;invoke d.target d.args:Sem Next)=Instr.yield l (first++⟨b⟩):=rfl;rw[e]
  have g:(first++⟨b⟩:Array Value)=⟨first.toList++b⟩:=by
   apply Array.ext';simp
  rw[g];obtain⟨fn,j,c,i,h1,k⟩:=h;rw[pV];unfold OZ;rw[h1];exact k
 ·exact h.elim
def CX(C:uD P=true){ρ:Operand->Value}(E:∀f,ρ (.func f)=.func (.func f) #[] #[]){o:Oper}{w:World}{K:aZ}(h:SV P ρ o w K):
  rn P (execOp ρ o) w K:=by
 obtain⟨A,B,q,pos,u,guard⟩:=o;unfold SV at h;cases B<;>simp only at h
 case move x=>exact pV.2 h
 case assign x=>exact pV.2 h
 case pick c x y=>
  unfold FH at h;split at h
  ·rename_i b D
   simp only[execOp,D,pV,OZ,asBool,Sem.run_bind,Sem.run_pure,Result.andThen];rw[Mc]at h;exact h
  ·exact h.elim
 case alloc t=>
  split at h
  ·exact lX h.out
  ·exact lX h
 case load t x=>
  split at h
  ·exact lX h.out
  ·exact lX h
 case convert s d x=>
  split at h
  ·exact lX h.out
  ·exact lX h
 case build t ps=>
  have h:rv P (Instr.build t ⟨ps.toList.map λp=>(p.1,ρ p.2)⟩) w K:=by
   split at h
   ·exact h.out
   ·exact h
  have e:(⟨ps.toList.map λp=>(p.1,ρ p.2)⟩:Array (Nat×Value))=ps.map λ(i,x)=>(i,ρ x):=by
   apply Array.ext';simp
  rw[e]at h;exact lX h
 case buildSlice t n ps=>
  have h:rv P (Instr.buildSlice t n ⟨ps.toList.map λp=>(p.1,ρ p.2)⟩) w K:=h.out
  have e:(⟨ps.toList.map λp=>(p.1,ρ p.2)⟩:Array (Nat×Value))=ps.map λ(i,x)=>(i,ρ x):=by
   apply Array.ext';simp
  rw[e]at h;exact lX h
 case binOp B t x y yt=>
  have e:(do eqGuard B t x y (ρ x) (ρ y);binOp B t (ρ x) (ρ y):Sem Value)=io B t (FM x||FM y) (ρ x) (ρ y):=by
   unfold io;rw[XX]
  have:=lX h;rw[<-e]at this;exact this
 case makeFunc fn first captured=>
  rw[oF,oF]at h;exact pV.2 h
 case store t x y=>
  split at h
  ·exact vG h.out
  ·exact vG h
 case nilCheck x=>
  unfold pJ at h;split at h
  ·rename_i a G
   simp only[execOp,G,pV,OZ,Sem.run_pure];exact h
  ·exact h.elim
 case mapUpdate t m k x=>exact vG h.out
 case insert t m k x=>exact vG h.out
 case entryStore t m s x=>exact vG h.out
 case call c=>
  obtain⟨z,j,l⟩:=c;cases z with
  |value f=>
   have key:lA P (ρ f) (lr ρ j) w K->rn P (execOp ρ ⟨A,.call ⟨.value f,j,l⟩,q,pos,u,guard⟩) w K:=by
    intro h;have:=SL C h;rw[oF]at this;exact this
   cases f with
   |func g=>
    simp only at h
    have this:rn P (callFunc g ⟨lr ρ j⟩) w K:=by
     split at h
     ·exact h.out
     ·exact zP C h
    rw[oF]at this;have e:(execOp ρ ⟨A,.call ⟨.value (.func g),j,l⟩,q,pos,u,guard⟩:Sem Next)=(do let d<-Deferred.ofValue (ρ (.func g)) (j.map ρ);invoke d.target d.args):=rfl;rw[e,E g];have F:(do let d<-Deferred.ofValue (.func (.func g) #[] #[]) (j.map ρ);invoke d.target d.args:Sem Next)=callFunc g (#[]++j.map ρ++ #[]):=rfl;rw[F];simpa using this
   |tmp t=>exact key h
   |const v=>exact key h
   |global g=>exact key h
  |builtin b=>
   have key:rn P (builtin b l q ⟨j.toList.map FM⟩ ⟨lr ρ j⟩) w K:=by
    cases b<;>first|exact h|exact lX h.out
   have h:=key;rw[oF]at h
   have e:(⟨j.toList.map FM⟩:Array Bool)=j.map λ| .const _=>true|_=>false:=by
    apply Array.ext';simp only[Array.toList_map];apply List.map_congr_left;intro x _;cases x<;>rfl
   rw[e]at h;exact h
  |invoke r m=>exact h
 all_goals first|exact lX h|exact lX h.out|exact h|exact h.elim
def FR:Option Nat->Fence
 |none=>Fence.wide
 |some l=>Fence.wide.inRound l
def FR.fn(ro:Option Nat)(f:FuncId):(FR ro).fn f:=by cases ro<;>exact trivial
def FR.round(ro:Option Nat):(FR ro).round=ro:=by cases ro<;>rfl
def FR.depth(ro:Option Nat):(FR ro).depth=none:=by cases ro<;>rfl
def FR.calls{a:Array Value}{w:Wt_}{R:Ending->World->Prop}(h:Calls P f a w R):CallsIn (FR ro) n P f a w R:=by
 cases ro with
 |none=>exact callsIn_wide.2 h
 |some l=>exact(callsIn_wide (n:=n)).2 h
def FR.roundIn{m:Nat}{l:Nat}{b:Array Value}{a body:Code}{w:Wt_}{R:Ending->World->Prop}
  (h:RoundIn Fence.wide m P l f b a body w R):RoundIn (FR ro) n P l f b a body w R:=by
 cases ro with
 |none=>exact⟨h.1,λc d _=>h.2 c d (room_wide _)⟩
 |some l=>exact⟨h.1,λc d _=>h.2 c d (room_wide _)⟩
def vX:Op->Bool
 | .defer _| .go _| .select .. =>false
 |_=>true
def BU{w:Wt_}{next:Act->World->Prop}{Q:Exit->Act->World->Prop}{ρ:Operand->Value}
  (k:vX o.op=true)(l:execOp a.eval o=execOp ρ o)(h:rn P (execOp ρ o) w K)(i:∀v g,K v g->next (a.put o.dst v) g):o.wpIn (FR ro) 0 P a w next Q:=by
 refine⟨λf _=>FR.fn ro f,?_⟩;rw[FR.round,Oper.semAt_eq ro a.eval o (λc m=>by rw[m]at k;cases k),l];rw[pV]at h;unfold OZ at h;split at h
 ·rename_i b;rw[b];exact i _ _ h
 ·rename_i b;rw[b];exact i _ _ h
 ·rename_i b;rw[b]
  refine⟨(λd=>by rw[FR.depth]at d;cases d),FR.calls (jI h.out ?_)⟩;rintro e g ⟨v,rfl,j⟩;exact i _ _ j
 ·rename_i b;rw[b]
  refine⟨(λd=>by rw[FR.depth]at d;cases d),FR.roundIn (h.mono ?_)⟩;rintro e g ⟨v,rfl,j⟩;exact i _ _ j
 ·exact h.elim
def Cf(ops:List Oper)(j:Nat):Option Nat:=
 match ops[j]? with
 |some o=>o.dst
 |none=>none
def S5(ops:List Oper)(o:Oper)(E:ft)(yes no:ft->Prop):Prop:=
 match o.guard with
 |none=>yes E
 |some (j,want)=>
  match Cf ops j with
  |none=>no E
  |some s=>
   match E.skipped s with
   |true=>no E
   |false=>FH (E.get s) λb=>bc b
     ((match want with|true=>yes|false=>no) (E.put (some s) (.bool true)))
     ((match want with|true=>no|false=>yes) (E.put (some s) (.bool false)))
def wA:Value->Option Bool
 | .bool b=>some b
 |_=>none
def kD(ops:List Oper)(E:ft)(o:Oper):Bool:=
 Region.wanted o λj=>(Cf ops j).bind λs=>wA (E.get s)
def ft.Same(E E' :ft):Prop:=(∀t,E'.get t=E.get t)/\E'.ds=E.ds
def ft.Same.refl(E:ft):E.Same E:=⟨λ_=>rfl,rfl⟩
def ft.Same.ev(h:E.Same E'):Vc.ev E' =Vc.ev E:=by
 funext x;cases x<;>first|exact h.1 _|rfl
def ft.Same.wanted(h:E.Same E')(ops:List Oper)(o:Oper):kD ops E' o=kD ops E o:=by
 unfold kD;congr 1;funext j;cases Cf ops j<;>simp[h.1]
def ft.same_put{s:Nat}{v:Vt_}(h:E.get s=v):E.Same (E.put (some s) v):=by
 refine⟨λt=>?_,rfl⟩;rw[ft.get_put];split
 ·grind
 ·rfl
def yN{f no:ft->Prop}(h:S5 ops o E f no):
  (kD ops E o=true/\∃e,E.Same e/\f e)\/(kD ops E o=false/\∃e,E.Same e/\no e):=by
 unfold S5 at h;unfold kD Region.wanted;cases i:o.guard with
 |none=>rw[i]at h;exact .inl ⟨rfl,E,.refl E,h⟩
 |some g=>
  obtain⟨j,a⟩:=g;rw[i]at h;simp only at h|-;cases k:Cf ops j with
  |none=>rw[k]at h;exact .inr ⟨rfl,E,.refl E,h⟩
  |some s=>
   rw[k]at h;simp only at h;cases d:E.skipped s with
   |true=>
    rw[d]at h
    have m:E.get s=undef:=by
     unfold ft.skipped at d;unfold ft.get;split at d
     ·rename_i l;rw[l]
     ·cases d
    exact .inr ⟨by simp[m,undef,wA],E,.refl E,h⟩
   |false=>
    rw[d]at h;simp only[FH]at h;split at h
    ·rename_i b c
     cases b with
     |true=>
      cases a with
      |true=>exact .inl ⟨by simp[c,wA],_,ft.same_put c,h⟩
      |false=>exact .inr ⟨by simp[c,wA],_,ft.same_put c,h⟩
     |false=>
      cases a with
      |true=>exact .inr ⟨by simp[c,wA],_,ft.same_put c,h⟩
      |false=>exact .inl ⟨by simp[c,wA],_,ft.same_put c,h⟩
    ·exact h.elim
def BX(h:∀t,t∈o.looksAt ops.toArray->a.tmps.getD t undef=E.get t):
  Region.wanted o (yielded ops.toArray a.tmps)=kD ops E o:=by
 unfold kD Region.wanted;cases i:o.guard with
 |none=>rfl
 |some g=>
  obtain⟨j,e⟩:=g;simp only;congr 1;unfold yielded Cf;cases c:ops[j]? with
  |none=>simp[c]
  |some k=>
   cases d:k.dst with
   |none=>simp[c,d]
   |some s=>
    have f:s∈o.looksAt ops.toArray:=by
     unfold Oper.looksAt;rw[i];simp[c,d]
    have:=h s f;simp only[cR,c,Option.bind_some,d];rw[<-this];by_cases b:s<a.tmps.size
    ·simp only[gG b,gh,dC];cases a.tmps[s]<;>rfl
    ·simp[Array.getElem?_eq_none (kS b),undef,wA]
def E5(c:vX o.op=true)(h:∀t,t∈o.looksAt ops.toArray->a.tmps.getD t undef=E.get t):
  execOp a.eval o=execOp (ev E) o:=by
 refine execOp_congr o (λi b e=>by rw[e]at c;cases c) λx d=>?_;cases x with
 |tmp t=>
  apply h t;unfold Oper.looksAt;refine de _ (mi.2 ⟨.tmp t,by simpa using d,rfl⟩)
 |const v=>rfl
 |global g=>rfl
 |func f=>rfl
def Lk(E:ft)(f:FuncId):ev E (.func f)=.func (.func f) #[] #[]:=rfl
def Hb{ρ:Operand->Value}{w:Wt_}(h:SV P ρ o w K):vX o.op=true:=by
 unfold SV at h;cases a:o.op<;>rw[a]at h<;>first|rfl|exact h.elim
def y8(P:Program)(ops:List Oper):List Oper->ft->World->(ft->World->Prop)->Prop
 | [],E,w,K=>K E w
 |o::rest,E,w,K=>
  S5 ops o E (λE=>SV P (ev E) o w λv w' =>y8 P ops rest (E.put o.dst v) w' K)
   (λE=>y8 P ops rest (E.skip o.dst) w K)
def Eu(u:uD P=true){ro:Option Nat}{n:Nat}{ops:List Oper}{Q:Exit->Act->World->Prop}{K:ft->World->Prop}
  (q:∀E a w,vi n E a->K E w->Q .normal a w):∀(l:List Oper),(l.all λo=>wk n o.dst)=true->∀(E:ft) (a:Act) (w:Wt_),vi n E a->
  y8 P ops l E w K->wpListIn (FR ro) 0 P ops.toArray Q l a w:=by
 intro l;induction l with
 |nil=>exact λ_ E a w e h=>q E a w e h
 |cons o rest p=>
  intro d E a w e h;simp only[nm,ai]at d;unfold wpListIn;have b:∀t,t∈o.looksAt ops.toArray->a.tmps.getD t undef=E.get t:=λt _=>e.get t;rw[BX b];rcases yN h with⟨j,i,g,m⟩|⟨j,i,g,r⟩
  ·rw[ae j];have c:vi n i a:=e.of_get g.1 g.2;have k:=Hb m;refine BU (ρ:=ev i) k (by rw[c.ev]) (CX u (Lk i) m) λv x s=>?_;exact p d.2 _ _ _ (c.put d.1 v) s
  ·rw[aa (by rw[j];simp)];exact⟨λf _=>FR.fn ro f,p d.2 _ _ _ ((e.of_get g.1 g.2).skip d.1) r⟩
def GV(P:Program)(s:Sem Value)(w:Wt_)(K:Value->Prop):Prop:=
 match s.run P w with
 | .ok v w' =>w' =w/\K v
 | .halt _ _=>False
structure nV(P:Program)(s:Sem Value)(w:Wt_)(K:Value->Prop):Prop where
 out:GV P s w K
def yn{w:Wt_}{K:Value->Prop}:nV P s w K↔GV P s w K:=⟨nV.out,nV.mk⟩
def XC(P:Program)(s:Sem Value)(K:Value->Prop):Prop:=∃v,(∀w,s.run P w=.ok v w)/\K v
structure jC(P:Program)(s:Sem Value)(K:Value->Prop):Prop where
 out:XC P s K
def T8{K:Value->Prop}:jC P s K↔XC P s K:=⟨jC.out,jC.mk⟩
structure ID(P:Program)(s:Sem Value)(w:Wt_)(K:Value->Prop):Prop where
 out:nV P s w K
structure Hg(P:Program)(s:Sem Value)(K:Value->Prop):Prop where
 out:jC P s K
def xOp(P:Program):Op->Bool
 | .build t _=>CS P t
 | .load t _=>CS P t
 | .lookup .. =>true
 | .convert s d _=>IS P s d
 |_=>false
def xz(P:Program)(ρ:Operand->Value):Op->Option (Sem Value)
 | .binOp op t x y _=>some (io op t (FM x||FM y) (ρ x) (ρ y))
 | .unOp op _ x=>some (Op.unary op (ρ x))
 | .fieldAddr t x f=>some (iF t (ρ x) f)
 | .field t x f=>some (Instr.field t (ρ x) f)
 | .indexAddr t x i=>some (iX t (ρ x) (ρ i))
 | .index t x i=>some (Instr.index t (ρ x) (ρ i))
 | .slice t x lo hi mx=>some (Instr.sliceAt t (ρ x) (lo.map ρ) (hi.map ρ) (mx.map ρ))
 | .sliceToArrayPointer t x=>some (Instr.arrayAt t (ρ x))
 | .extract t i=>some (Instr.extract (ρ t) i)
 | .build t parts=>match CS P t with
  |true=>some (CA t ⟨parts.toList.map λp=>(p.1,ρ p.2)⟩)
  |false=>some (Instr.build t ⟨parts.toList.map λp=>(p.1,ρ p.2)⟩)
 | .makeInterface t x=>some (Instr.makeInterface t (ρ x))
 |_=>none
def xG(P:Program)(ρ:Operand->Value)(o:Oper):Option (Sem Value):=
 match o.op with
 | .load t x=>match CS P t with
  |true=>some (qE t (ρ x))
  |false=>some (iL t (ρ x))
 | .lookup t x i ok=>some (jQ t (ρ x) (ρ i) ok)
 | .call ⟨.builtin .len,args,ts⟩=>some (Builtin.len_ ts o.type ⟨lr ρ args⟩)
 | .call ⟨.builtin .min,args,ts⟩=>some (Builtin.min_ ts o.type ⟨lr ρ args⟩)
 | .call ⟨.builtin .max,args,ts⟩=>some (Builtin.max_ ts o.type ⟨lr ρ args⟩)
 | .convert s d x=>match P.underlying d with
  |some (.slice _)=>none
  |_=>match IS P s d with
   |true=>some (xA s d (ρ x))
   |false=>some (convert s d (ρ x))
 |_=>none
def Uc:Op->Bool
 | .move _| .pick .. | .nilCheck _| .makeFunc .. =>true
 |_=>false
def yI(ρ:Operand->Value)(op:Op)(K:Value->Prop):Prop:=
 match op with
 | .move x=>K (ρ x)
 | .pick c x y=>FH (ρ c) λb=>K (SP b (ρ x) (ρ y))
 | .nilCheck x=>pJ (ρ x) K
 | .makeFunc fn first captured=>K (.func fn ⟨lr ρ first⟩ ⟨lr ρ captured⟩)
 |_=>False
def RN(P:Program)(o:Oper):Nat:=
 match Uc o.op with
 |true=>0
 |false=>
  match xz P (λ_=>undef) o.op with
  |some _=>1
  |none=>
   match xG P (λ_=>undef) o with
   |some _=>2
   |none=>3
def Fi(o:Oper):List Nat:=(o.after.toList.filter λe=>Region.binds .any e).map (·.on)
def ml(ops:List Oper)(i:Nat):List Nat:=
 match ops[i]? with
 |some o=>Fi o
 |none=>[]
def Y7(ops:List Oper):Nat->List Nat->List Nat->List Nat
 |0,_,acc=>acc
 |_+1,[],acc=>acc
 |f+1,x::r,acc=>
  match acc.contains x with
  |true=>Y7 ops f r acc
  |false=>Y7 ops f (ml ops x++r) (x::acc)
def CJ(ops:List Oper)(j:Nat):List Nat:=Y7 ops 4000 (ml ops j) []
abbrev wi:=List (Nat×Sem Value×Value)
def Bf(P:Program)(w:Wt_):wi->Prop->Prop
 | [],R=>R
 |(_,s,v)::r,R=>s.run P w=.ok v w/\Bf P w r R
def MD(F:NP_):List Nat->Prop
 | []=>True
 | [j]=>F j
 |j::r=>F j/\MD F r
def XO(ops:List Oper)(done:List Nat)(i:Nat):Bool:= !done.contains i&& (ml ops i).all λd=>done.contains d
def FP(ops:List Oper)(done:List Nat):List Nat:=(List.range ops.length).filter (XO ops done)
def TS(P:Program)(ops:List Oper)(i:Nat):Bool:=
 match ops[i]? with
 |some o=>Nat.blt (RN P o) 3
 |none=>false
def Aa(P:Program)(ops:List Oper):Nat->List Nat->wi->ft->World->(ft->World->Prop)->Prop
 |0,_,_,_,_,_=>False
 |fuel+1,done,pend,E,w,K=>
  match (FP ops done).find? (TS P ops)with
  |some i=>
   match ops[i]? with
   |none=>False
   |some o=>
    S5 ops o E (λE=>
     match RN P o with
     |0=>yI (ev E) o.op λv=>Aa P ops fuel (i::done) pend (E.put o.dst v) w K
     |1=>match xz P (ev E) o.op with
      |some s=>match xOp P o.op with
       |true=>Hg P s λv=>Aa P ops fuel (i::done) pend (E.put o.dst v) w K
       |false=>jC P s λv=>Aa P ops fuel (i::done) pend (E.put o.dst v) w K
      |none=>False
     |_=>match xG P (ev E) o with
      |some s=>match xOp P o.op with
       |true=>ID P s w λv=>Aa P ops fuel (i::done) ((i,s,v)::pend) (E.put o.dst v) w K
       |false=>nV P s w λv=>Aa P ops fuel (i::done) ((i,s,v)::pend) (E.put o.dst v) w K
      |none=>False)
     (λE=>Aa P ops fuel (i::done) pend (E.skip o.dst) w K)
  |none=>
   match FP ops done with
   | []=>K E w
   |rs=>MD (λj=>
    match ops[j]? with
    |none=>False
    |some o=>
     S5 ops o E (λE=>SV P (ev E) o w λv w' =>Bf P w' (pend.filter λp=> !(CJ ops j).contains p.1) (Aa P ops fuel (j::done) (pend.filter λp=> !(CJ ops j).contains p.1) (E.put o.dst v) w' K))
      (λE=>Aa P ops fuel (j::done) (pend.filter λp=> !(CJ ops j).contains p.1) (E.skip o.dst) w K)) rs
def rO(P:Program)(ops:List Oper):Bool:=
 (List.range ops.length).all λi=>match ops[i]? with
  |none=>false
  |some oi=>vX oi.op&& (!Nat.blt (RN P oi) 3||((match oi.dst with|none=>true|some d=> !(oi.looksAt ops.toArray).contains d)&& (List.range ops.length).all λj=>Nat.beq i j||match ops[j]? with
   |none=>false
   |some oj=>
    (match oi.dst with
    |none=>true
    |some d=>oj.dst != some d&& (!(oj.looksAt ops.toArray).contains d||(CJ ops j).contains i))&&
    (match oj.dst with
    |none=>true
    |some d=> !(oi.looksAt ops.toArray).contains d||(CJ ops i).contains j||(CJ ops j).contains i)))
def oo(h:rO P ops=true){i:Nat}{o:Oper}(hi:ops[i]? =some o):vX o.op=true:=by
 unfold rO at h;have a:i<ops.length:=(aJ.1 hi).1;have:=bg.1 h i (eZ.2 a);rw[hi]at this;simp only[ai]at this;exact this.1
def Cd(h:rO P ops=true){i:Nat}{o:Oper}(hi:ops[i]? =some o)(e:RN P o<3){d:Nat}(b:o.dst=some d):
  d ∉ o.looksAt ops.toArray:=by
 unfold rO at h;have a:i<ops.length:=(aJ.1 hi).1;have:=bg.1 h i (eZ.2 a);rw[hi]at this;have c:Nat.blt (RN P o) 3=true:=by simpa [l8]using e
 simp only[c,b,ai,jL,fP]at this;simpa using this.2.1
def rL(h:rO P ops=true){i j:Nat}{e k:Oper}(hi:ops[i]? =some e)(o:ops[j]? =some k)(s:RN P e<3)(n:i≠j):
  (∀d,e.dst=some d->k.dst≠some d/\(d∈k.looksAt ops.toArray->i∈CJ ops j))/\
  (∀d,k.dst=some d->d∈e.looksAt ops.toArray->j∈CJ ops i\/i∈CJ ops j):=by
 unfold rO at h;have m:i<ops.length:=(aJ.1 hi).1;have f:j<ops.length:=(aJ.1 o).1;have:=bg.1 h i (eZ.2 m);rw[hi]at this;have p:Nat.blt (RN P e) 3=true:=by simpa [l8]using s
 simp only[p,ai,jL,fP]at this;have g:=bg.1 this.2.2 j (eZ.2 f)
 have b:Nat.beq i j=false:=by
  cases q:Nat.beq i j with
  |false=>rfl
  |true=>exact absurd (dS q) n
 rw[o,b]at g;simp only[fP,ai]at g;refine⟨λd l=>?_,λd l r=>?_⟩
 ·have a:=g.1;rw[l]at a;simp only[ai,bne_iff_ne,ne_eq,lK]at a;refine⟨a.1,λr=>?_⟩;rcases a.2 with c|c
  ·grind
  ·simpa using c
 ·have a:=g.2;rw[l]at a;simp only[lK]at a;rcases a with(c|c)|c
  ·grind
  ·grind
  ·grind
def xe(ops:List Oper)(L:List Nat):Prop:=∀i∈L,∀d∈ml ops i,d∈L
def Vy(e:xe ops L):∀(f:Nat) (c acc:List Nat),(∀x∈c,x∈L)->(∀x∈acc,x∈L)->∀x∈Y7 ops f c acc,x∈L:=by
 intro f;induction f with
 |zero=>intro c acc _ d x b;exact d x b
 |succ f h=>
  intro c acc g d x b;cases c with
  |nil=>exact d x b
  |cons y r=>
   simp only[Y7]at b;split at b
   ·grind
   ·refine h _ _ (λz a=>?_) (λz a=>?_) x b
    ·rcases bf.1 a with a|a
     ·exact e y (g y aw) z a
     ·grind
    ·rcases ax.1 a with rfl|a
     ·grind
     ·exact d z a
def AJ(b:xe ops L){j:Nat}(a:∀d∈ml ops j,d∈L):∀x∈CJ ops j,x∈L:=
 Vy b 4000 _ _ a (λ_ h=>by cases h)
def xe.cons(c:xe ops L){j:Nat}(e:∀d∈ml ops j,d∈L):xe ops (j::L):=by
 intro i a d b;rcases ax.1 a with rfl|a
 ·grind
 ·exact ag _ (c i a d b)
def Ra:XO ops done i=true↔i ∉ done/\∀d∈ml ops i,d∈done:=by
 simp[XO]
def rE:i∈FP ops done↔i<ops.length/\i ∉ done/\∀d∈ml ops i,d∈done:=by
 simp[FP,aU,Ra]
def Dg(P:Program)(s:Sem Value)(w:Wt_)(v:Vt_)(w' :Wt_)(h:s.run P w=.ok v w'):(do pure (.value (<-s)):Sem Next).run P w=.ok (.value v) w' :=by
 simp[dw,h,Result.andThen]
def Fp{ρ:Operand->Value}{K:Value->Prop}(h:yI ρ o.op K):
  ∃v,(∀w,(execOp ρ o).run P w=.ok (.value v) w)/\K v:=by
 obtain⟨f,g,e,pos,d,guard⟩:=o;unfold yI at h;cases g<;>simp only at h<;>first|exact h.elim|skip
 case move x=>exact⟨_,λ_=>rfl,h⟩
 case pick c x y=>
  unfold FH at h;split at h
  ·rename_i b j
   refine⟨_,λw=>?_,h⟩;simp only[execOp,j,asBool,dw,ir,Result.andThen,Mc]
  ·exact h.elim
 case nilCheck x=>
  unfold pJ at h;split at h
  ·rename_i a i
   exact⟨_,λw=>by simp only[execOp,i,ir],h⟩
  ·exact h.elim
 case makeFunc fn first captured=>
  rw[oF,oF]at h;exact⟨_,λ_=>rfl,h⟩
def FE{ρ:Operand->Value}(h:xz P ρ o.op=some s):execOp ρ o=(do pure (.value (<-s))):=by
 obtain⟨c,d,b,pos,a,guard⟩:=o;unfold xz at h;cases d<;>simp only at h<;>first|(cases h;done)|(cases h;rfl)|skip
 case build t ps=>
  have h:Instr.build t ⟨ps.toList.map λp=>(p.1,ρ p.2)⟩=s:=by
   split at h
   ·exact cZ h
   ·exact cZ h
  subst h
  have e:(⟨ps.toList.map λp=>(p.1,ρ p.2)⟩:Array (Nat×Value))=ps.map λ(i,x)=>(i,ρ x):=by
   apply kM;simp
  simp only[execOp];rw[e]
def E4{ρ:Operand->Value}(h:xG P ρ o=some s):execOp ρ o=(do pure (.value (<-s))):=by
 obtain⟨j,k,i,pos,e,guard⟩:=o;unfold xG at h;cases k<;>simp only at h<;>first|(cases h;done)|(cases h;rfl)|skip
 case load t x=>
  split at h
  ·cases h;rfl
  ·cases h;rfl
 case convert a b x=>
  split at h
  ·cases h
  ·split at h
   ·cases h;rfl
   ·cases h;rfl
 case call c=>
  obtain⟨d,g,l⟩:=c;cases d with
  |value f=>cases h
  |invoke r m=>cases h
  |builtin b=>
   cases b<;>simp only at h<;>first|(cases h;done)|skip
   all_goals
    rw[oF]at h;cases h;rfl
def Wi(P:Program)(ops:List Oper)(E:ft)(w:Wt_)(pend:wi)(i:Nat):Prop:=
 ∃o,ops[i]? =some o/\RN P o<3/\
  ((kD ops E o=true/\∃v,(∀d,o.dst=some d->E.get d=v)/\(execOp (ev E) o).run P w=.ok (.value v) w/\
    ((∀w',(execOp (ev E) o).run P w' =.ok (.value v) w')\/∃s,(i,s,v)∈pend/\∀w',s.run P w' =.ok v w' ->(execOp (ev E) o).run P w' =.ok (.value v) w'))\/
  (kD ops E o=false/\∀d,o.dst=some d->E.get d=undef))
def Ag(ops:List Oper)(L:List Nat):List Nat->Prop
 | []=>True
 |i::A=>(∀d∈ml ops i,d∈L\/d∈A)/\Ag ops L A
def Ag.mono{b:List Nat}(h:∀x∈L,x∈b):∀{A:List Nat},Ag ops L A->Ag ops b A
 | [],_=>trivial
 |_::_,a=>⟨λd c=>(a.1 d c).imp (h d) id,Ag.mono h a.2⟩
def Ag.erase{j:Nat}:∀{A:List Nat},Ag ops L A->Ag ops (j::L) (A.erase j)
 | [],_=>trivial
 |i::A,b=>by
  by_cases a:i=j
  ·subst a;rw[List.erase_cons_head];exact b.2.mono (λx f=>ag _ f)
  ·rw[List.erase_cons_tail (by simpa using a)];refine⟨λd c=>?_,b.2.erase⟩;rcases b.1 d c with h|h
   ·grind
   ·by_cases e:d=j
    ·grind
    ·grind
def Ag.first:∀{A:List Nat},Ag ops L A->A≠ []->∃i∈A,∀d∈ml ops i,d∈L
 | [],_,h=>absurd rfl h
 | [i],b,_=>⟨i,aw,λd a=>(b.1 d a).resolve_right (by simp)⟩
 |i::k::A,b,_=>by
  obtain⟨j,c,a⟩:=b.2.first (by simp);exact⟨j,ag _ c,a⟩
structure DW(P:Program)(ops:List Oper)(n:Nat)(L A:List Nat)(done:List Nat)(pend:wi)(E:ft)(a:Act)(w:Wt_):Prop where
 doneIff:∀i,i∈done↔i∈L\/i∈A
 apart:∀i∈A,i ∉ L
 nodup:A.Nodup
 ord:Ag ops L A
 closed:xe ops L
 size:a.tmps.size=n
 defs:a.defers=E.ds.map λd=>{target:=.collected d,args:=#[]}
 frame:∀t,(∀i∈A,∀o,ops[i]? =some o->o.dst≠some t)->a.tmps.getD t undef=E.get t
 val:∀i∈A,Wi P ops E w pend i
def DW.closedDone{A:List Nat}{e:wi}{w:Wt_}(h:DW P ops n L A done e E a w):xe ops done:=by
 have g:∀(A:List Nat),Ag ops L A->∀i∈A,∀d∈ml ops i,d∈L\/d∈A:=by
  intro A;induction A with
  |nil=>intro _ i b;cases b
  |cons k A j=>
   intro f i b d c;rcases ax.1 b with rfl|b
   ·exact(f.1 d c).imp id (ag _)
   ·exact(j f.2 i b d c).imp id (ag _)
 intro i b d c;rcases(h.doneIff i).1 b with b|b
 ·exact(h.doneIff d).2 (.inl (h.closed i b d c))
 ·exact(h.doneIff d).2 (g A h.ord i b d c)
def HO{P:Program}(d:vX o.op=true)(h:∀t∈o.looksAt ops.toArray,E'.get t=E.get t):
  execOp (ev E') o=execOp (ev E) o/\kD ops E' o=kD ops E o:=by
 constructor
 ·refine execOp_congr o (λn b m=>by rw[m]at d;cases d) λx l=>?_;cases x with
  |tmp t=>
   apply h t;unfold Oper.looksAt;exact de _ (mi.2 ⟨.tmp t,by simpa using l,rfl⟩)
  |const v=>rfl
  |global g=>rfl
  |func f=>rfl
 ·unfold kD Region.wanted;cases e:o.guard with
  |none=>rfl
  |some g=>
   obtain⟨j,c⟩:=g;simp only;congr 1;unfold Cf;cases k:ops[j]? with
   |none=>rfl
   |some i=>
    cases a:i.dst with
    |none=>simp[a]
    |some s=>
     simp only[a,Option.bind_some];rw[h s (by unfold Oper.looksAt;rw[e];simp[k,a])]
def Wi.env(l:rO P ops=true){E E' :ft}{w:Wt_}{c a:wi}{i:Nat}(h:Wi P ops E w c i)
  (j:∀o,ops[i]? =some o->∀t,t∈o.looksAt ops.toArray\/o.dst=some t->E'.get t=E.get t)(hp:∀x∈c,x∈a):Wi P ops E' w a i:=by
 obtain⟨o,e,r,q⟩:=h;have m:=HO (P:=P) (ops:=ops) (E:=E) (E' :=E') (oo l e) λt n=>j o e t (.inl n);refine⟨o,e,r,?_⟩;rw[m.1,m.2];rcases q with⟨k,v,g,p,f⟩|⟨k,g⟩
 ·refine .inl ⟨k,v,λd b=>(j o e d (.inr b)).trans (g d b),p,?_⟩;rcases f with f|⟨s,u,f⟩
  ·exact .inl f
  ·grind
 ·exact .inr ⟨k,λd b=>(j o e d (.inr b)).trans (g d b)⟩
def Wi.world{w w' :Wt_}{b a:wi}(h:Wi P ops E w b i)
  (hp:∀s v,(i,s,v)∈b->(i,s,v)∈a/\(w' =w\/s.run P w' =.ok v w')):Wi P ops E w' a i:=by
 obtain⟨o,k,m,d⟩:=h;refine⟨o,k,m,?_⟩;rcases d with⟨j,v,g,l,c⟩|d
 ·rcases c with c|⟨s,f,c⟩
  ·grind
  ·refine .inl ⟨j,v,g,?_,.inr ⟨s,(hp s v f).1,c⟩⟩;rcases(hp s v f).2 with e|e
   ·rw[e];exact l
   ·exact c w' e
 ·exact .inr d
end Go.Vc
