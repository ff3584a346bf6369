/- Part of a proof. -/
import Derived.Laws.Externs
import Derived.Shelf.Bits.Mul64
import Derived.Shelf.Small.Bits
import Derived.Shelf.Lay
import Derived.Ground.NamesProg
import Derived.Lib.ItoaNum
import Derived.Laws.Bits64b
import Derived.Test.YtgebhcgmckjbbaaGreatS14
set_option linter.all false
set_option maxRecDepth 100000
namespace Go.Proofs
open Go Go.Vc
def F341(a0 a1:Value)(w:World)(K:Kont):Prop:=
 Ca Tryz.prog 364 #[a0,a1] w λv0 w1=>
 rv Tryz.prog (bin .geq 3 true v0 (.int .i64 0)) w1 λv2 w3=>
 K v2 w3
theorem F341_eq(a0 a1:Value)(w:World)(K:Kont):vcFnJ Tryz.prog Tryz.f341 [a0,a1] w K=F341 a0 a1 w K:=by kernel_rfl
theorem F341_ok:okF Tryz.prog Tryz.f341 2=true:=by kernel_rfl
theorem ca341{a0 a1:Value}{w:World}{K:Kont}(h:F341 a0 a1 w K):Ca Tryz.prog 341 #[a0,a1] w K:=
 ca_of_vcJ Tryz.noNum Tryz.func341 F341_ok (by rw[F341_eq];exact h)
def L364_0(v0:Value)(a0:Value)(a1:Value)(K:Kont)(s2:Value×Value×Unit)(w3:World)(K4:Value×Value×Unit→World→Prop):Prop:=
 ∀_:Nat→Value,
 rv Tryz.prog (bin .lss 3 false s2.2.1 v0) w3 λv5 w6=>
 ifB v5
 (rv Tryz.prog (Instr.indexAt 333 a0 s2.2.1) w6 λv7 w8=>
 rv Tryz.prog (Instr.loadAt 2 v7) w8 λv9 w10=>
 callV Tryz.prog a1 [v9] w10 λv11 w12=>
 ifB v11
 (K s2.2.1 w12)
 (rv Tryz.prog (bin .add 3 true s2.2.1 (.int .i64 1)) w12 λv13 w14=>
 K4 (s2.1,v13,()) w14))
 (K (.int .i64 (-1)) w6)
def F364(a0 a1:Value)(w:World)(K:Kont):Prop:=
 rn Tryz.prog (builtin .len #[333] 3 #[false] #[a0]) w λv0 w1=>
 LoopW (S:=Value×Value×Unit) (L364_0 v0 a0 a1 K) ((.int .i64 0),(.int .i64 0),()) w1
theorem F364_eq(a0 a1:Value)(w:World)(K:Kont):vcFnJ Tryz.prog Tryz.f364 [a0,a1] w K=F364 a0 a1 w K:=by kernel_rfl
theorem F364_ok:okF Tryz.prog Tryz.f364 2=true:=by kernel_rfl
theorem ca364{a0 a1:Value}{w:World}{K:Kont}(h:F364 a0 a1 w K):Ca Tryz.prog 364 #[a0,a1] w K:=
 ca_of_vcJ Tryz.noNum Tryz.func364 F364_ok (by rw[F364_eq];exact h)
def J294_0(K:Kont)(v11:Value)(s2:Value×Value×Value×Unit)(K4:Value×Value×Value×Unit→World→Prop)(s14:Value×Unit)(w15:World):Prop:=
 ∀_:Nat→Value,
 ifB s14.1
 (K (.bool false) w15)
 (rv Tryz.prog (Instr.fieldAt 353 v11 0) w15 λv39 w40=>
 rv Tryz.prog (Instr.loadAt 35 v39) w40 λv41 w42=>
 rv Tryz.prog (bin .add 3 true s2.2.2.1 (.int .i64 1)) w42 λv43 w44=>
 K4 (s2.1,v41,v43,()) w44)
def L294_1(v0:Value)(a1:Value)(K:Kont)(a0:Value)(s2:Value×Value×Value×Unit)(w3:World)(K4:Value×Value×Value×Unit→World→Prop):Prop:=
 ∀_:Nat→Value,
 rv Tryz.prog (bin .lss 3 false s2.2.2.1 v0) w3 λv5 w6=>
 ifB v5
 (rv Tryz.prog (Instr.indexAt 351 a1 s2.2.2.1) w6 λv7 w8=>
 rv Tryz.prog (Instr.loadAt 353 v7) w8 λv9 w10=>
 rv Tryz.prog (Instr.alloc 353 true (.tuple #[])) w10 λv11 w12=>
 ru Tryz.prog (Instr.storeAt 353 v11 v9) w12 λw13=>
 JoinW (S:=Value×Unit) (λJ16=>
 rv Tryz.prog (Instr.fieldAt 353 v11 0) w13 λv17 w18=>
 rv Tryz.prog (Instr.loadAt 35 v17) w18 λv19 w20=>
 rv Tryz.prog (bin .leq 35 false v19 s2.2.1) w20 λv21 w22=>
 ifB v21
 (J16 ((.bool true),()) w22)
 (rv Tryz.prog (Instr.fieldAt 353 v11 1) w22 λv23 w24=>
 rv Tryz.prog (Instr.loadAt 2 v23) w24 λv25 w26=>
 callV Tryz.prog (.func (.func 340) #[] #[]) [v25] w26 λv27 w28=>
 rv Tryz.prog (Op.unary .not v27) w28 λv29 w30=>
 ifB v29
 (J16 ((.bool true),()) w30)
 (rv Tryz.prog (Instr.fieldAt 353 v11 2) w30 λv31 w32=>
 rv Tryz.prog (Instr.loadAt 2 v31) w32 λv33 w34=>
 Ca Tryz.prog 130 #[v33,(.int .i64 100000000000000000)] w34 λv35 w36=>
 rv Tryz.prog (Op.unary .not v35) w36 λv37 w38=>
 J16 (v37,()) w38)))
 (J294_0 K v11 s2 K4))
 (callV Tryz.prog (.func (.func 340) #[] #[]) [a0] w6 λv45 w46=>
 K v45 w46)
def F294(a0 a1:Value)(w:World)(K:Kont):Prop:=
 rn Tryz.prog (builtin .len #[351] 3 #[false] #[a1]) w λv0 w1=>
 LoopW (S:=Value×Value×Value×Unit) (L294_1 v0 a1 K a0) ((.bool false),(.int .u32 0),(.int .i64 0),()) w1
theorem F294_eq(a0 a1:Value)(w:World)(K:Kont):vcFnJ Tryz.prog Tryz.f294 [a0,a1] w K=F294 a0 a1 w K:=by kernel_rfl
theorem F294_ok:okF Tryz.prog Tryz.f294 2=true:=by kernel_rfl
theorem ca294{a0 a1:Value}{w:World}{K:Kont}(h:F294 a0 a1 w K):Ca Tryz.prog 294 #[a0,a1] w K:=
 ca_of_vcJ Tryz.noNum Tryz.func294 F294_ok (by rw[F294_eq];exact h)
def F340(a0:Value)(w:World)(K:Kont):Prop:=
 rv Tryz.prog (bin .geq 2 true a0 (.int .i64 0)) w λv0 w1=>
 ifB v0
 (rv Tryz.prog (bin .leq 2 true a0 (.int .i64 1000000000000000)) w1 λv2 w3=>
 K v2 w3)
 (K (.bool false) w1)
theorem F340_eq(a0:Value)(w:World)(K:Kont):vcFnJ Tryz.prog Tryz.f340 [a0] w K=F340 a0 w K:=by kernel_rfl
theorem F340_ok:okF Tryz.prog Tryz.f340 1=true:=by kernel_rfl
theorem ca340{a0:Value}{w:World}{K:Kont}(h:F340 a0 w K):Ca Tryz.prog 340 #[a0] w K:=
 ca_of_vcJ Tryz.noNum Tryz.func340 F340_ok (by rw[F340_eq];exact h)
def J254_0(v23:Value)(s14:Value×Value×Value×Value×Value×Unit)(K16:Value×Value×Value×Value×Value×Unit→World→Prop)(v32:Value)(s53:Value×Unit)(w54:World):Prop:=
 ∀_:Nat→Value,
 rv Tryz.prog (Instr.fieldAt 353 v23 2) w54 λv82 w83=>
 rv Tryz.prog (Instr.loadAt 2 v82) w83 λv84 w85=>
 rv Tryz.prog (bin .gtr 2 true v84 (.int .i64 0)) w85 λv86 w87=>
 ifB v86
 (rx Tryz.prog (xLit 404 1 [(0,s14.2.2.2.2.1)]) w87 λv88 w89=>
 rx Tryz.prog (xAppend #[404,404] 404 [s14.2.2.1,v88]) w89 λv90 w91=>
 rv Tryz.prog (Instr.fieldAt 353 v23 2) w91 λv92 w93=>
 rv Tryz.prog (Instr.loadAt 2 v92) w93 λv94 w95=>
 rx Tryz.prog (xLit 333 1 [(0,v94)]) w95 λv96 w97=>
 rx Tryz.prog (xAppend #[333,333] 333 [s14.2.1,v96]) w97 λv98 w99=>
 rv Tryz.prog (bin .add 3 true s14.2.2.2.2.1 (.int .i64 1)) w99 λv100 w101=>
 K16 (v32,v98,v90,s53.1,v100,()) w101)
 (rv Tryz.prog (bin .add 3 true s14.2.2.2.2.1 (.int .i64 1)) w87 λv102 w103=>
 K16 (v32,s14.2.1,s14.2.2.1,s53.1,v102,()) w103)
def L254_1(v129:Value)(s14:Value×Value×Value×Value×Value×Unit)(v123:Value)(v10:Value)(a0:Value)(v117:Value)(K:Kont)(s131:Value×Unit)(w132:World)(K133:Value×Unit→World→Prop):Prop:=
 ∀_:Nat→Value,
 rv Tryz.prog (bin .lss 3 false s131.1 v129) w132 λv134 w135=>
 ifB v134
 (rv Tryz.prog (Instr.indexAt 404 s14.2.2.1 s131.1) w135 λv136 w137=>
 rv Tryz.prog (Instr.loadAt 3 v136) w137 λv138 w139=>
 rv Tryz.prog (Instr.indexAt 333 v123 s131.1) w139 λv140 w141=>
 rv Tryz.prog (Instr.loadAt 2 v140) w141 λv142 w143=>
 rv Tryz.prog (Instr.indexAt 354 v10 v138) w143 λv144 w145=>
 rv Tryz.prog (Instr.fieldAt 358 v144 3) w145 λv146 w147=>
 ru Tryz.prog (Instr.storeAt 2 v146 v142) w147 λw148=>
 rdP Tryz.prog (Instr.indexAt 354 v10 v138) λv149=>
 rdP Tryz.prog (Instr.fieldAt 358 v149 1) λv150=>
 rdW Tryz.prog (Instr.loadAt 2 v150) w148.drew λv151=>
 rdP Tryz.prog (Instr.indexAt 333 v123 s131.1) λv152=>
 rdW Tryz.prog (Instr.loadAt 2 v152) w148.drew λv153=>
 rdP Tryz.prog (bin .sub 2 false v151 v153) λv154=>
 rdP Tryz.prog (Instr.indexAt 354 v10 v138) λv155=>
 rdP Tryz.prog (Instr.fieldAt 358 v155 1) λv156=>
 ru Tryz.prog (Instr.storeAt 2 v156 v154) w148.drew λw157=>
 rv Tryz.prog (bin .add 3 true s131.1 (.int .i64 1)) w157 λv158 w159=>
 K133 (v158,()) w159)
 (rv Tryz.prog (bin .sub 2 false a0 v117) w135 λv160 w161=>
 K (.tuple #[v10,v160,(.int .i64 0)]) w161)
def J254_2(K:Kont)(a0:Value)(s14:Value×Value×Value×Value×Value×Unit)(v10:Value)(s110:Value×Unit)(w111:World):Prop:=
 ∀_:Nat→Value,
 ifB s110.1
 (K (.tuple #[(.slice none 0 0),(.int .i64 0),(.int .i64 130)]) w111)
 (rn Tryz.prog (builtin .min #[2,2] 2 #[false,false] #[a0,s14.2.2.2.1]) w111 λv117 w118=>
 rv Tryz.prog (bin .sub 2 false s14.2.2.2.1 v117) w118 λv119 w120=>
 Ca Tryz.prog 295 #[v119,s14.2.1] w120 λv121 w122=>
 rv Tryz.prog (Instr.extract v121 0) w122 λv123 w124=>
 rv Tryz.prog (Instr.extract v121 1) w124 λv125 w126=>
 rv Tryz.prog (bin .neq 26 true v125 (.int .i64 0)) w126 λv127 w128=>
 ifB v127
 (K (.tuple #[(.slice none 0 0),(.int .i64 0),v125]) w128)
 (rn Tryz.prog (builtin .len #[404] 3 #[false] #[s14.2.2.1]) w128 λv129 w130=>
 LoopW (S:=Value×Unit) (L254_1 v129 s14 v123 v10 a0 v117 K) ((.int .i64 0),()) w130))
def L254_3(v12:Value)(a1:Value)(v10:Value)(K:Kont)(a0:Value)(s14:Value×Value×Value×Value×Value×Unit)(w15:World)(K16:Value×Value×Value×Value×Value×Unit→World→Prop):Prop:=
 ∀_:Nat→Value,
 rv Tryz.prog (bin .lss 3 false s14.2.2.2.2.1 v12) w15 λv17 w18=>
 ifB v17
 (rv Tryz.prog (Instr.indexAt 351 a1 s14.2.2.2.2.1) w18 λv19 w20=>
 rv Tryz.prog (Instr.loadAt 353 v19) w20 λv21 w22=>
 rv Tryz.prog (Instr.alloc 353 true (.tuple #[])) w22 λv23 w24=>
 ru Tryz.prog (Instr.storeAt 353 v23 v21) w24 λw25=>
 rv Tryz.prog (Instr.fieldAt 353 v23 2) w25 λv26 w27=>
 rv Tryz.prog (Instr.loadAt 2 v26) w27 λv28 w29=>
 rx Tryz.prog (xLit 333 1 [(0,v28)]) w29 λv30 w31=>
 rx Tryz.prog (xAppend #[333,333] 333 [s14.1,v30]) w31 λv32 w33=>
 rv Tryz.prog (Instr.fieldAt 353 v23 0) w33 λv34 w35=>
 rv Tryz.prog (Instr.loadAt 35 v34) w35 λv36 w37=>
 rv Tryz.prog (Instr.fieldAt 353 v23 1) w37 λv38 w39=>
 rv Tryz.prog (Instr.loadAt 2 v38) w39 λv40 w41=>
 rv Tryz.prog (Instr.fieldAt 353 v23 2) w41 λv42 w43=>
 rv Tryz.prog (Instr.loadAt 2 v42) w43 λv44 w45=>
 rv Tryz.prog (bin .add 2 false v40 v44) w45 λv46 w47=>
 rv Tryz.prog (Instr.build 358 #[(0,v36),(1,v46)]) w47 λv48 w49=>
 rv Tryz.prog (Instr.indexAt 354 v10 s14.2.2.2.2.1) w49 λv50 w51=>
 ru Tryz.prog (Instr.storeAt 358 v50 v48) w51 λw52=>
 JoinW (S:=Value×Unit) (λJ55=>
 rv Tryz.prog (Instr.indexAt 354 v10 s14.2.2.2.2.1) w52 λv56 w57=>
 rv Tryz.prog (Instr.fieldAt 358 v56 1) w57 λv58 w59=>
 rv Tryz.prog (Instr.loadAt 2 v58) w59 λv60 w61=>
 rv Tryz.prog (bin .lss 2 true v60 (.int .i64 0)) w61 λv62 w63=>
 ifB v62
 (rv Tryz.prog (Instr.indexAt 354 v10 s14.2.2.2.2.1) w63 λv64 w65=>
 rv Tryz.prog (Instr.fieldAt 358 v64 1) w65 λv66 w67=>
 rv Tryz.prog (Instr.loadAt 2 v66) w67 λv68 w69=>
 rv Tryz.prog (bin .sub 2 false s14.2.2.2.1 v68) w69 λv70 w71=>
 rv Tryz.prog (Instr.indexAt 354 v10 s14.2.2.2.2.1) w71 λv72 w73=>
 rv Tryz.prog (Instr.fieldAt 358 v72 1) w73 λv74 w75=>
 ru Tryz.prog (Instr.storeAt 2 v74 (.int .i64 0)) w75 λw76=>
 rv Tryz.prog (Instr.indexAt 354 v10 s14.2.2.2.2.1) w76 λv77 w78=>
 rv Tryz.prog (Instr.fieldAt 358 v77 2) w78 λv79 w80=>
 ru Tryz.prog (Instr.storeAt 4 v79 (.bool true)) w80 λw81=>
 J55 (v70,()) w81)
 (J55 (s14.2.2.2.1,()) w63))
 (J254_0 v23 s14 K16 v32))
 (Ca Tryz.prog 291 #[s14.1] w18 λv104 w105=>
 rv Tryz.prog (Instr.extract v104 0) w105 λv106 w107=>
 rv Tryz.prog (Instr.extract v104 1) w107 λv108 w109=>
 JoinW (S:=Value×Unit) (λJ112=>
 rv Tryz.prog (bin .neq 26 true v108 (.int .i64 0)) w109 λv113 w114=>
 ifB v113
 (J112 ((.bool true),()) w114)
 (rv Tryz.prog (bin .neq 2 true v106 (.int .i64 0)) w114 λv115 w116=>
 J112 (v115,()) w116))
 (J254_2 K a0 s14 v10))
def F254(a0 a1:Value)(w:World)(K:Kont):Prop:=
 rn Tryz.prog (builtin .len #[351] 3 #[false] #[a1]) w λv0 w1=>
 rv Tryz.prog (bin .gtr 3 true v0 (.int .i64 64)) w1 λv2 w3=>
 ifB v2
 (K (.tuple #[(.slice none 0 0),(.int .i64 0),(.int .i64 3)]) w3)
 (Ca Tryz.prog 294 #[a0,a1] w3 λv4 w5=>
 rv Tryz.prog (Op.unary .not v4) w5 λv6 w7=>
 ifB v6
 (K (.tuple #[(.slice none 0 0),(.int .i64 0),(.int .i64 2)]) w7)
 (rn Tryz.prog (builtin .len #[351] 3 #[false] #[a1]) w7 λv8 w9=>
 rx Tryz.prog (xMake 354 v8 v8) w9 λv10 w11=>
 rn Tryz.prog (builtin .len #[351] 3 #[false] #[a1]) w11 λv12 w13=>
 LoopW (S:=Value×Value×Value×Value×Value×Unit) (L254_3 v12 a1 v10 K a0) ((.slice none 0 0),(.slice none 0 0),(.slice none 0 0),(.int .i64 0),(.int .i64 0),()) w13))
theorem F254_eq(a0 a1:Value)(w:World)(K:Kont):vcFnJ Tryz.prog Tryz.f254 [a0,a1] w K=F254 a0 a1 w K:=by kernel_rfl
theorem F254_ok:okF Tryz.prog Tryz.f254 2=true:=by kernel_rfl
theorem ca254{a0 a1:Value}{w:World}{K:Kont}(h:F254 a0 a1 w K):Ca Tryz.prog 254 #[a0,a1] w K:=
 ca_of_vcJ Tryz.noNum Tryz.func254 F254_ok (by rw[F254_eq];exact h)
end Go.Proofs











namespace Go.Proofs
open Go Go.Vc
attribute [local congr] Ca_congV
structure Sd where
 acct:Int
 cash:Int
 dfl:Bool
 cut:Int
def sdC(d:Sd):List Value:=[.int .u32 d.acct,.int .i64 d.cash,.bool d.dfl,.int .i64 d.cut]
theorem uSds:Tryz.prog.underlying 354=some (.slice 358):=by kernel_rfl
end Go.Proofs
namespace Go.Proofs
open Go Go.Vc
attribute [local congr] Ca_congV
def sdV(d:Sd):Value:=.agg (sdC d).toArray
def zSd:Sd:=⟨0,0,false,0⟩
end Go.Proofs
namespace Go.Proofs
open Go Go.Vc
attribute [local congr] Ca_congV
theorem eSd:elemOk Tryz.prog 358 4 32=true:=by kernel_rfl
end Go.Proofs




namespace Go.Proofs
open Go Go.Vc
attribute [local congr] Ca_congV
structure Fl where
 num:Int
 acct:Int
 qty:Int
end Go.Proofs



namespace Go.Proofs
open Go Go.Vc
structure Cm where
 kind:Int
 acct:Int
 ct:Int
 num:Int
 amt:Int
 spec:Sp
 on:Bool
 buy:Bool
 ty:Int
 price:Int
 qty:Int
 deriving DecidableEq
def Cm.Fit(c:Cm):Prop:=(0≤c.kind∧c.kind<256)∧U32' c.acct∧U32' c.ct∧U64' c.num∧R64' c.amt∧c.spec.Fit∧(0≤c.ty∧c.ty<256)∧R64' c.price∧R64' c.qty
def zCm:Cm:=⟨0,0,0,0,0,zSp,false,false,0,0,0⟩
def cmC(c:Cm):List Value:=[.int .u8 c.kind,.int .u32 c.acct,.int .u32 c.ct,.int .u64 c.num,.int .i64 c.amt]++(spC c.spec++[.bool c.on,.bool c.buy,.int .u8 c.ty,.int .i64 c.price,.int .i64 c.qty])
def Cm.bare(c:Cm):Cm:=
 let b:Cm:={zCm with kind:=c.kind}
 if c.kind=1∨c.kind=2 then{b with acct:=c.acct,amt:=c.amt}
 else if c.kind=3 then{b with spec:=c.spec}
 else if c.kind=4 then{b with ct:=c.ct,on:=c.on}
 else if c.kind=5 then{c with num:=0,amt:=0,spec:=zSp,on:=false}
 else if c.kind=6 then{b with acct:=c.acct,num:=c.num}
 else if c.kind=7 then{b with acct:=c.acct,num:=c.num,price:=c.price,qty:=c.qty}
 else if c.kind=8 then{b with acct:=c.acct,ct:=c.ct}
 else if c.kind=9 then{b with acct:=c.acct,ct:=c.ct,buy:=c.buy,price:=c.price,qty:=c.qty}
 else if c.kind=10 then{b with acct:=c.acct,on:=c.on}
 else if c.kind=11 then{b with ct:=c.ct,price:=c.price}
 else if c.kind=13 then{b with acct:=c.acct}
 else if c.kind=14 then{b with ct:=c.ct}
 else b
def Cm.may(c:Cm):Bool:=decide (1≤c.kind∧c.kind≤14)&& decide (c=c.bare)&& (decide (c.kind≠3)||c.spec.may)
structure Rp where
 err:Int
 num:Int
 filled:Int
 left:Int
 trades:List Td
 gone:List Int
 accts:List Int
 deriving DecidableEq
def zRp:Rp:=⟨0,0,0,0,[],[],[]⟩
def failR(e:Int):Rp:={zRp with err:=e}
structure Ven where
 cal:Cal
 led:Led
 bk:Int→Bk
 bd:Int→List Od
 next:Int
def Ven.empty:Ven:=⟨⟨0,[]⟩,⟨0,[],[]⟩,λ_=>Bk.empty,λ_=>[],1⟩
def upd{α:Type}(f:Int→α)(n:Int)(x:α):Int→α:=λm=>if m=n then x else f m
theorem upd_self{α:Type}(f:Int→α)(n:Int)(x:α):upd f n x n=x:=if_pos rfl
theorem upd_ne{α:Type}(f:Int→α)(n:Int)(x:α){m:Int}(h:m≠n):upd f n x m=f m:=if_neg h
def Ven.nums(S:Ven):List Int:=S.cal.l.map (·.spec.num)
def Ven.acc(S:Ven)(a:Int):Ac:=(S.led.getO a).getD ⟨0,0,false,false⟩
def maxNum:Int:=4611686018427387904
structure Sta where
 day:Int
 next:Int
 fund:Int
 accts:List Ac
 cts:List Ct
 poss:List Po
 ords:List (Int×Od)
 bids:List (Int×Od)
def Ven.state(S:Ven):Sta:=
 ⟨S.cal.day,S.next,S.led.fund,S.led.all,S.cal.l,S.nums.flatMap S.led.holders,S.nums.flatMap λn=>(S.bk n).all.map λo=>(n,o),S.nums.flatMap λn=>(S.bd n).map λo=>(n,o)⟩
end Go.Proofs
namespace Go.Proofs
open Go Go.Vc
attribute [local congr] Ca_congV
inductive Pt where
 |v
 |cal
 |led
 |mb
 |md
 |bk (n:Int)
 |bd (n:Int)
 deriving DecidableEq
def vptr(v:Nat):Value:=.pointer (some ⟨v,0,none⟩)
def idV(x:Value):Value:=x
abbrev tVen:TypeId:=66
def slOf(D:List (Int×Value))(n:Int):Value:=(lk D n).getD nilV
structure VenW(w:World)(v c l mb md:Nat)(A:List (Int×Nat))(D:List (Int×Value))(fp:Pt→Nat→Prop)(S:Ven):Prop where
 blk:hp w v=some (.cells #[cptr c,lptr l,.map (some mb),.map (some md),.int .u64 S.next] tVen (0,0))
 cal:CalQ w c (fp .cal) S.cal
 led:LedQ w l (fp .led) S.led
 mbk:MapAt encU bptr w mb A
 mbd:MapAt encU idV w md D
 bk:∀n b,lk A n=some b→BookQ w b (fp (.bk n)) (S.bk n)
 nbk:∀n,lk A n=none→S.bk n=Bk.empty∧∀x,¬fp (.bk n) x
 bd:∀n,OdS w (slOf D n) (S.bd n)
 fv:∀x,fp .v x↔x=v
 fmb:∀x,fp .mb x↔x=mb
 fmd:∀x,fp .md x↔x=md
 fbd:∀n x,fp (.bd n) x↔inSl (slOf D n) x
 dj:∀p q x,fp p x→fp q x→p=q
structure VenR(w:World)(v c l mb md:Nat)(A:List (Int×Nat))(D:List (Int×Value))(fp:Pt→Nat→Prop)(S:Ven):Prop extends VenW w v c l mb md A D fp S where
 dom:∀n,(lk A n).isSome=(calGet S.cal.l n).isSome
 dod:∀n,(lk D n).isSome=true→(calGet S.cal.l n).isSome=true
def VenQ(w:World)(v:Nat)(F:Nat→Prop)(S:Ven):Prop:=∃c l mb md A D fp,VenR w v c l mb md A D fp S∧∀x,F x↔∃p,fp p x
def allP(fp:Pt→Nat→Prop):Nat→Prop:=λx=>∃p,fp p x
def updP(fp:Pt→Nat→Prop)(p:Pt)(G:Nat→Prop):Pt→Nat→Prop:=λq=>if q=p then G else fp q
theorem updP_self(fp:Pt→Nat→Prop)(p:Pt)(G:Nat→Prop):updP fp p G p=G:=if_pos rfl
theorem updP_ne{fp:Pt→Nat→Prop}{p q:Pt}{G:Nat→Prop}(h:q≠p):updP fp p G q=fp q:=if_neg h
section
variable{w w' :World}{v c l mb md:Nat}{A:List (Int×Nat)}{D:List (Int×Value)}{fp:Pt→Nat→Prop}{S:Ven}
theorem VenR.q(h:VenR w v c l mb md A D fp S):VenQ w v (allP fp) S:=⟨c,l,mb,md,A,D,fp,h,λ_=>Iff.rfl⟩
theorem VenW.lt(h:VenW w v c l mb md A D fp S){p:Pt}{x:Nat}(hx:fp p x):x<w.heap.size:=by
 cases p with
 |v=>rw[(h.fv x).1 hx];exact lt_of_heap h.blk
 |cal=>exact h.cal.lt hx
 |led=>exact h.led.lt hx
 |mb=>rw[(h.fmb x).1 hx];exact h.mbk.lt
 |md=>rw[(h.fmd x).1 hx];exact h.mbd.lt
 |bk n=>
  cases hl:lk A n with
  |none=>exact absurd hx ((h.nbk n hl).2 x)
  |some b=>exact(h.bk n b hl).lt hx
 |bd n=>exact(h.bd n).lt ((h.fbd n x).1 hx)
theorem VenQ.lt{F:Nat→Prop}(h:VenQ w v F S){x:Nat}(hx:F x):x<w.heap.size:=by
 obtain⟨c,l,mb,md,A,D,fp,hr,hF⟩:=h
 obtain⟨p,hp⟩:=(hF x).1 hx
 exact hr.lt hp
theorem VenW.self(h:VenW w v c l mb md A D fp S):fp .v v:=(h.fv v).2 rfl
theorem VenQ.self{F:Nat→Prop}(h:VenQ w v F S):F v:=by
 obtain⟨c,l,mb,md,A,D,fp,hr,hF⟩:=h
 exact(hF v).2 ⟨.v,hr.self⟩
theorem VenW.mod{G:Nat→Prop}(h:VenW w v c l mb md A D fp S)(hm:Mod G w w')(hd:∀p x,fp p x→¬G x):VenW w' v c l mb md A D fp S where
 blk:=hm.hpk h.blk (hd .v v h.self)
 cal:=h.cal.mod hm (hd .cal)
 led:=h.led.mod hm (hd .led)
 mbk:=h.mbk.mod hm (hd .mb mb ((h.fmb mb).2 rfl))
 mbd:=h.mbd.mod hm (hd .md md ((h.fmd md).2 rfl))
 bk n b hl:=(h.bk n b hl).mod hm (hd (.bk n))
 nbk:=h.nbk
 bd n:=(h.bd n).mod hm λx hx=>hd (.bd n) x ((h.fbd n x).2 hx)
 fv:=h.fv
 fmb:=h.fmb
 fmd:=h.fmd
 fbd:=h.fbd
 dj:=h.dj
theorem VenR.mod{G:Nat→Prop}(h:VenR w v c l mb md A D fp S)(hm:Mod G w w')(hd:∀p x,fp p x→¬G x):VenR w' v c l mb md A D fp S:=⟨h.toVenW.mod hm hd,h.dom,h.dod⟩
theorem VenQ.mod{F G:Nat→Prop}(h:VenQ w v F S)(hm:Mod G w w')(hd:∀x,F x→¬G x):VenQ w' v F S:=by
 obtain⟨c,l,mb,md,A,D,fp,hr,hF⟩:=h
 exact⟨c,l,mb,md,A,D,fp,hr.mod hm λp x hx=>hd x ((hF x).2 ⟨p,hx⟩),hF⟩
theorem VenR.md0(h:VenR w v c l mb md A D fp S)(hm:Mod (λ_=>False) w w'):VenR w' v c l mb md A D fp S:=h.mod hm λ_ _ _ h=>h
theorem VenQ.md0{F:Nat→Prop}(h:VenQ w v F S)(hm:Mod (λ_=>False) w w'):VenQ w' v F S:=h.mod hm λ_ _ h=>h
theorem VenW.djU(h:VenW w v c l mb md A D fp S){p:Pt}{G:Nat→Prop}(hn:∀x,G x→fp p x∨w.heap.size≤x):∀q r x,updP fp p G q x→updP fp p G r x→q=r:=by
 have key:∀q x,q≠p→fp q x→¬G x:=λq x hq hx hG=>by
  rcases hn x hG with h1|h1
  ·exact hq (h.dj _ _ _ hx h1)
  ·have:=h.lt hx;omega
 intro q r x hq hr
 by_cases h1:q=p
 ·by_cases h2:r=p
  ·rw[h1,h2]
  ·subst h1
   rw[updP_self]at hq
   rw[updP_ne h2]at hr
   exact absurd hq (key r x h2 hr)
 ·rw[updP_ne h1]at hq
  by_cases h2:r=p
  ·subst h2
   rw[updP_self]at hr
   exact absurd hr (key q x h1 hq)
  ·rw[updP_ne h2]at hr
   exact h.dj _ _ _ hq hr
theorem VenW.ap(h:VenW w v c l mb md A D fp S){p q:Pt}(hpq:q≠p):∀x,fp q x→¬fp p x:=λx h1 h2=>hpq (h.dj _ _ _ h1 h2)
theorem allP_upd{fp:Pt→Nat→Prop}{p:Pt}{G:Nat→Prop}{n:Nat}(hn:∀x,G x→fp p x∨n≤x):∀x,allP (updP fp p G) x→allP fp x∨n≤x:=by
 rintro x ⟨q,hq⟩
 by_cases h1:q=p
 ·subst h1
  rw[updP_self]at hq
  exact(hn x hq).imp (λh=>⟨_,h⟩) id
 ·rw[updP_ne h1]at hq
  exact .inl ⟨_,hq⟩
theorem VenR.setCal(h:VenR w v c l mb md A D fp S){G:Nat→Prop}{C:Cal}(hm:Mod (fp .cal) w w')(hc:CalQ w' c G C)(hn:∀x,G x→fp .cal x∨w.heap.size≤x)
  (hd:∀n,(calGet C.l n).isSome=(calGet S.cal.l n).isSome):VenR w' v c l mb md A D (updP fp .cal G) {S with cal:=C} where
 blk:=hm.hpk h.blk (h.ap (by simp) _ h.self)
 cal:=by rw[updP_self];exact hc
 led:=by rw[updP_ne (by simp)];exact h.led.mod hm (h.ap (by simp))
 mbk:=h.mbk.mod hm (h.ap (by simp) _ ((h.fmb mb).2 rfl))
 mbd:=h.mbd.mod hm (h.ap (by simp) _ ((h.fmd md).2 rfl))
 dom n:=by rw[h.dom n];exact(hd n).symm
 dod n hn:=by rw[hd n];exact h.dod n hn
 bk n b hl:=by rw[updP_ne (by simp)];exact(h.bk n b hl).mod hm (h.ap (by simp))
 nbk n hl:=by rw[updP_ne (by simp)];exact h.nbk n hl
 bd n:=(h.bd n).mod hm λx hx=>h.ap (by simp) x ((h.fbd n x).2 hx)
 fv:=by rw[updP_ne (by simp)];exact h.fv
 fmb:=by rw[updP_ne (by simp)];exact h.fmb
 fmd:=by rw[updP_ne (by simp)];exact h.fmd
 fbd n:=by rw[updP_ne (by simp)];exact h.fbd n
 dj:=h.djU hn
theorem VenR.setLed(h:VenR w v c l mb md A D fp S){L:Led}(hm:Mod (fp .led) w w')(hc:LedQ w' l (fp .led) L):VenR w' v c l mb md A D fp {S with led:=L} where
 blk:=hm.hpk h.blk (h.ap (by simp) _ h.self)
 cal:=h.cal.mod hm (h.ap (by simp))
 led:=hc
 mbk:=h.mbk.mod hm (h.ap (by simp) _ ((h.fmb mb).2 rfl))
 mbd:=h.mbd.mod hm (h.ap (by simp) _ ((h.fmd md).2 rfl))
 dom:=h.dom
 dod:=h.dod
 bk n b hl:=(h.bk n b hl).mod hm (h.ap (by simp))
 nbk:=h.nbk
 bd n:=(h.bd n).mod hm λx hx=>h.ap (by simp) x ((h.fbd n x).2 hx)
 fv:=h.fv
 fmb:=h.fmb
 fmd:=h.fmd
 fbd:=h.fbd
 dj:=h.dj
theorem slOf_put(D:List (Int×Value))(n m:Int)(x:Value):slOf (put D n x) m=if m=n then x else slOf D m:=by
 unfold slOf
 rw[lk_put]
 by_cases hmn:m=n
 ·subst hmn;simp
 ·rw[if_neg λe=>hmn e.symm,if_neg hmn]
theorem VenW.setBdG(h:VenW w v c l mb md A D fp S){w1:World}{n:Int}{L:List Od}{sl:Value}{E:Nat→Prop}(hm:Mod E w w1)(hE:∀p x,p≠ .bd n→fp p x→¬E x)(hc:OdS w1 sl L)(hn:∀x,inSl sl x→fp (.bd n) x∨w.heap.size≤x)
  (h2:MapAt encU idV w' md (put D n sl))(m2:Mod (λx=>x=md) w1 w'):VenW w' v c l mb md A (put D n sl) (updP fp (.bd n) (inSl sl)) {S with bd:=upd S.bd n L}:=by
 have hmd:=h.lt (p:=.md) ((h.fmd md).2 rfl)
 have hsz:=hm.size
 have hM:Mod (λx=>E x∨x=md) w w' :=(hm.mono λx _ hx=>.inl hx).on m2 λx hx=>.inl (.inr hx)
 have hap:∀p,p≠ .bd n→p≠ .md→∀x,fp p x→¬(E x∨x=md):=λp h1 h2 x hx hc=>by
  rcases hc with hc|hc
  ·exact hE p x h1 hx hc
  ·exact h2 (h.dj _ _ _ hx ((h.fmd x).2 hc))
 exact{
  blk:=hM.hpk h.blk (hap .v (by simp) (by simp) _ h.self)
  cal:=by rw[updP_ne (by simp)];exact h.cal.mod hM (hap .cal (by simp) (by simp))
  led:=by rw[updP_ne (by simp)];exact h.led.mod hM (hap .led (by simp) (by simp))
  mbk:=h.mbk.mod hM (hap .mb (by simp) (by simp) _ ((h.fmb mb).2 rfl))
  mbd:=h2
  bk:=λm b hl=>by rw[updP_ne (by simp)];exact(h.bk m b hl).mod hM (hap (.bk m) (by simp) (by simp))
  nbk:=λm hl=>by rw[updP_ne (by simp)];exact h.nbk m hl
  bd:=λm=>by
   show OdS w' _ (upd S.bd n L m)
   rw[slOf_put]
   by_cases hmn:m=n
   ·subst hmn
    rw[if_pos rfl,upd_self]
    refine hc.mod m2 λx hx he=>?_
    rcases hn x hx with h1|h1
    ·exact absurd (h.dj _ _ _ h1 ((h.fmd x).2 he)) (by simp)
    ·omega
   ·have hne:Pt.bd m≠Pt.bd n:=by simpa using hmn
    rw[if_neg hmn,upd_ne _ _ _ hmn]
    exact(h.bd m).mod hM λx hx=>hap (.bd m) hne (by simp) x ((h.fbd m x).2 hx)
  fv:=by rw[updP_ne (by simp)];exact h.fv
  fmb:=by rw[updP_ne (by simp)];exact h.fmb
  fmd:=by rw[updP_ne (by simp)];exact h.fmd
  fbd:=λm x=>by
   rw[slOf_put]
   by_cases hmn:m=n
   ·subst hmn;rw[if_pos rfl,updP_self]
   ·have hne:Pt.bd m≠Pt.bd n:=by simpa using hmn
    rw[if_neg hmn,updP_ne hne];exact h.fbd m x
  dj:=h.djU hn}
theorem VenW.setBd(h:VenW w v c l mb md A D fp S){w1:World}{n:Int}{L:List Od}{sl:Value}(hm:Mod (fp (.bd n)) w w1)(hc:OdS w1 sl L)(hn:∀x,inSl sl x→fp (.bd n) x∨w.heap.size≤x)
  (h2:MapAt encU idV w' md (put D n sl))(m2:Mod (λx=>x=md) w1 w'):VenW w' v c l mb md A (put D n sl) (updP fp (.bd n) (inSl sl)) {S with bd:=upd S.bd n L}:=
 h.setBdG hm (λp x hp=>h.ap hp x) hc hn h2 m2
theorem VenW.addBk(h:VenW w v c l mb md A D fp S){w1:World}{n:Int}{b:Nat}{G:Nat→Prop}{B:Bk}(hb:lk A n=none)(hm:Mod (λ_=>False) w w1)(hc:BookQ w1 b G B)(hn:∀x,G x→w.heap.size≤x)
  (h2:MapAt encU bptr w' mb (put A n b))(m2:Mod (λx=>x=mb) w1 w'):VenW w' v c l mb md (put A n b) D (updP fp (.bk n) G) {S with bk:=upd S.bk n B}:=by
 have hmb:=h.lt (p:=.mb) ((h.fmb mb).2 rfl)
 have hsz:=hm.size
 have hM:Mod (λx=>x=mb) w w' :=(hm.mono λ_ _ h=>h.elim).trans m2
 have hap:∀p,p≠ .mb→∀x,fp p x→¬x=mb:=λp h2 x hx hc=>h2 (h.dj _ _ _ hx ((h.fmb x).2 hc))
 have hG:∀x,G x→¬x=mb:=λx hx e=>by have:=hn x hx;omega
 exact{
  blk:=hM.hpk h.blk (hap .v (by simp) _ h.self)
  cal:=by rw[updP_ne (by simp)];exact h.cal.mod hM (hap .cal (by simp))
  led:=by rw[updP_ne (by simp)];exact h.led.mod hM (hap .led (by simp))
  mbk:=h2
  mbd:=h.mbd.mod hM (hap .md (by simp) _ ((h.fmd md).2 rfl))
  bk:=λm b' hl=>by
   rw[lk_put]at hl
   show BookQ w' b' _ (upd S.bk n B m)
   by_cases hmn:m=n
   ·subst hmn
    rw[if_pos rfl]at hl
    cases hl
    rw[updP_self,upd_self];exact hc.mod m2 hG
   ·have hne:Pt.bk m≠Pt.bk n:=by simpa using hmn
    rw[if_neg λe=>hmn e.symm]at hl
    rw[updP_ne hne,upd_ne _ _ _ hmn];exact(h.bk m b' hl).mod hM (hap (.bk m) (by simp))
  nbk:=λm hl=>by
   rw[lk_put]at hl
   show upd S.bk n B m=_∧_
   by_cases hmn:m=n
   ·subst hmn;rw[if_pos rfl]at hl;cases hl
   ·have hne:Pt.bk m≠Pt.bk n:=by simpa using hmn
    rw[if_neg λe=>hmn e.symm]at hl
    rw[updP_ne hne,upd_ne _ _ _ hmn];exact h.nbk m hl
  bd:=λm=>(h.bd m).mod hM λx hx=>hap (.bd m) (by simp) x ((h.fbd m x).2 hx)
  fv:=by rw[updP_ne (by simp)];exact h.fv
  fmb:=by rw[updP_ne (by simp)];exact h.fmb
  fmd:=by rw[updP_ne (by simp)];exact h.fmd
  fbd:=λm x=>by rw[updP_ne (by simp)];exact h.fbd m x
  dj:=h.djU (p:=.bk n) λx hx=>.inr (hn x hx)}
end
end Go.Proofs
namespace Go.Proofs
open Go
def Od.key(o:Od):Int×Int×Bool×Int:=(o.num,o.acct,o.buy,o.price)
theorem key_num{o o' :Od}(h:o.key=o'.key):o.num=o'.num:=congrArg (·.1) h
theorem key_acct{o o' :Od}(h:o.key=o'.key):o.acct=o'.acct:=congrArg (·.2.1) h
theorem key_buy{o o' :Od}(h:o.key=o'.key):o.buy=o'.buy:=congrArg (·.2.2.1) h
theorem key_price{o o' :Od}(h:o.key=o'.key):o.price=o'.price:=congrArg (·.2.2.2) h
structure SubL(l' l:List Od):Prop where
 sub:(l'.map Od.key).Sublist (l.map Od.key)
 left:∀o∈l',1≤o.left∧o.left≤1000000
theorem may_left{o:Od}(h:o.may=true):1≤o.left∧o.left≤1000000:=Od.left_bd h
theorem may_key{o o' :Od}(h:o.key=o'.key)(hm:o.may=true)(hl:1≤o'.left∧o'.left≤1000000):o'.may=true:=by
 unfold Od.may at*
 rw[←key_num h,←key_acct h,←key_price h]
 simp only[Bool.and_eq_true]at hm⊢
 exact⟨hm.1,decide_eq_true hl⟩
theorem SubL.refl{l:List Od}(h:∀o∈l,o.may=true):SubL l l:=⟨List.Sublist.refl _,λo ho=>may_left (h o ho)⟩
theorem SubL.mem{l' l:List Od}(h:SubL l' l){o:Od}(ho:o∈l'):∃o0∈l,o0.key=o.key:=by
 have:=h.sub.mem (List.mem_map_of_mem (f:=Od.key) ho)
 obtain⟨o0,h0,he⟩:=List.mem_map.1 this
 exact⟨o0,h0,he⟩
theorem map_num(l:List Od):l.map (·.num)=(l.map Od.key).map (·.1):=by rw[List.map_map];rfl
theorem SubL.nums{l' l:List Od}(h:SubL l' l):(l'.map (·.num)).Sublist (l.map (·.num)):=by
 rw[map_num,map_num];exact h.sub.map _
theorem SubL.len{l' l:List Od}(h:SubL l' l):l'.length≤l.length:=by
 have:=h.sub.length_le
 rwa[List.length_map,List.length_map]at this
def BkMay(B:Bk):Prop:=∀d,∀o∈B d,o.may=true∧o.buy=d
theorem mem_all{B:Bk}{o:Od}:o∈B.all↔∃d,o∈B d:=by
 unfold Bk.all
 rw[List.mem_append]
 constructor
 ·rintro(h|h)
  ·exact⟨true,h⟩
  ·exact⟨false,h⟩
 ·rintro⟨d,h⟩
  cases d
  ·exact .inr h
  ·exact .inl h
end Go.Proofs

namespace Go.Proofs
open Go Go.Vc
def sumF(g:Po→Int)(l:List Po):Int:=(l.map g).sum
def gq(c:Int)(p:Po):Int:=if p.c=c then p.q else 0
def gb(c:Int)(p:Po):Int:=if p.c=c then p.b else 0
def Led.Zero(S:Led):Prop:=∀c,sumF (gq c) S.held=0∧sumF (gb c) S.held=0
theorem split_num{l:List Ac}(hs:SortA l)(n:Int):l.Perm ((l.find? λx=>decide (x.num=n)).toList++l.filter λx=>decide (x.num≠n)):=by
 induction l with
 |nil=>exact List.Perm.refl _
 |cons p l ih=>
  have hs' :SortA l:=(List.pairwise_cons.1 hs).2
  have hp:=(List.pairwise_cons.1 hs).1
  by_cases h:p.num=n
  ·rw[List.find?_cons_of_pos (by simpa using h),List.filter_cons_of_neg (by simpa using h)]
   simp only[Option.toList_some,List.singleton_append]
   refine List.Perm.cons _ (List.Perm.of_eq ?_)
   symm
   refine List.filter_eq_self.2 λx hx=>?_
   have:=hp x hx
   simp;omega
  ·rw[List.find?_cons_of_neg (by simpa using h),List.filter_cons_of_pos (by simpa using h)]
   exact((ih hs').cons p).trans List.perm_middle.symm
theorem Led.funds_putA{S:Led}(hs:SortA S.all)(a:Ac):(S.putA a).funds=S.funds+a.cash - ((S.getO a.num).getD ⟨0,0,false,false⟩).cash:=by
 unfold Led.putA
 by_cases hz:a.num=0
 ·rw[if_pos hz,hz]
  simp[Led.funds,Led.getO,fundAc]
  omega
 ·rw[if_neg hz]
  simp only[Led.funds,Led.getO,if_neg hz,Led.find]
  have h1:=perm_sum ((insA_perm S.all a).map (·.cash))
  have h2:=perm_sum ((split_num hs a.num).map (·.cash))
  rw[List.map_append,List.sum_append]at h2
  simp only[List.map_cons,List.sum_cons]at h1
  have e:((S.all.find? λx=>decide (x.num=a.num)).toList.map (·.cash)).sum=((S.all.find? λx=>decide (x.num=a.num)).getD ⟨0,0,false,false⟩).cash:=by
   cases S.all.find? λx=>decide (x.num=a.num)<;>simp
  omega
theorem Led.deposit_funds{S:Led}(hs:SortA S.all)(n m:Int):(S.deposit n m).2.funds=S.funds+if(S.deposit n m).1=0 then m else 0:=by
 unfold Led.deposit
 split
 ·split
  ·simp
  ·split
   ·simp
   ·rw[if_pos rfl]
    simp only
    rw[Led.funds_putA hs]
    simp only
    omega
 ·simp
theorem Led.putA_held(S:Led)(a:Ac):(S.putA a).held=S.held:=by unfold Led.putA;split<;>rfl
theorem Led.deposit_held(S:Led)(n m:Int):(S.deposit n m).2.held=S.held:=by
 unfold Led.deposit
 split
 ·split
  ·rfl
  ·split
   ·rfl
   ·exact Led.putA_held _ _
 ·rfl
theorem Led.empty_zero:Led.Zero ⟨0,[],[]⟩:=λc=>⟨rfl,rfl⟩
end Go.Proofs
namespace Go.Proofs
open Go
structure Cal.Ok(C:Cal):Prop where
 len:C.l.length≤16
 day:U32' C.day
 ok:∀k∈C.l,k.Ok
 srt:Rising C.l
def Ven.ords(S:Ven)(n:Int):List Od:=(S.bk n).all++S.bd n
def Led.Stands(L:Led)(a:Int):Prop:=∃x,L.find a=some x∧x.kil=false∧x.dfl=false
structure Ven.Std(S:Ven)(o:Od):Prop where
 may:o.may=true
 fit:o.Fit
 num:o.num<S.next
 acc:S.led.Stands o.acct
structure OkO(S:Ven):Prop where
 out:∀n,calAlive S.cal.l n≠0→S.ords n=[]
 side:∀n d,(S.bk n d).length≤100∧∀o∈S.bk n d,o.buy=d
 std:∀n,∀o∈S.ords n,S.Std o
 nd:∀n,((S.ords n).map (·.num)).Nodup
 apart:∀n m o o',o∈S.ords n→o' ∈S.ords m→o.num=o'.num→n=m
 bdl:∀n,(S.bd n).length≤50
structure OkL(C:Cal)(L:Led):Prop where
 led:L.Ok
 held:∀p∈L.held,calAlive C.l p.c=0
 zero:L.Zero
structure Ven.Ok(S:Ven):Prop where
 cal:S.cal.Ok
 led:OkL S.cal S.led
 ord:OkO S
 next:1≤S.next∧S.next≤maxNum+1
 fnd:S.led.funds≤MF
theorem mem_bk{S:Ven}{n:Int}{d:Bool}{o:Od}(h:o∈S.bk n d):o∈S.ords n:=List.mem_append_left _ (mem_all.2 ⟨d,h⟩)
theorem mem_bd{S:Ven}{n:Int}{o:Od}(h:o∈S.bd n):o∈S.ords n:=List.mem_append_right _ h
theorem mem_ords{S:Ven}{n:Int}{o:Od}(h:o∈S.ords n):(∃d,o∈S.bk n d)∨o∈S.bd n:=(List.mem_append.1 h).imp mem_all.1 id
theorem OkO.bkMay{S:Ven}(h:OkO S)(n:Int):BkMay (S.bk n):=λd o ho=>⟨(h.std n o (mem_bk ho)).may,(h.side n d).2 o ho⟩
theorem OkO.bdMay{S:Ven}(h:OkO S)(n:Int):∀o∈S.bd n,o.may=true:=λo ho=>(h.std n o (mem_bd ho)).may
theorem nodup_sub3{a a' b b' c c' :List Int}(ha:a'.Sublist a)(hb:b'.Sublist b)(hc:c'.Sublist c)(h:(a++b++c).Nodup):(a' ++b' ++c').Nodup:=h.sublist ((ha.append hb).append hc)
theorem ords_map(S:Ven)(n:Int):(S.ords n).map (·.num)=(S.bk n true).map (·.num)++(S.bk n false).map (·.num)++(S.bd n).map (·.num):=by
 unfold Ven.ords Bk.all;rw[List.map_append,List.map_append]
theorem fit_key{o o' :Od}(h:o.key=o'.key)(hf:o.Fit)(hl:1≤o'.left∧o'.left≤1000000):o'.Fit:=by
 unfold Od.Fit at*
 rw[←key_num h,←key_acct h,←key_price h]
 exact⟨hf.1,hf.2.1,hf.2.2.1,by constructor<;>omega⟩
theorem ord_back{S S' :Ven}(hk:∀n d,SubL (S'.bk n d) (S.bk n d))(hb:∀n,SubL (S'.bd n) (S.bd n)){n:Int}{o:Od}(ho:o∈S'.ords n):∃o0∈S.ords n,o0.key=o.key∧1≤o.left∧o.left≤1000000:=by
 rcases mem_ords ho with⟨d,h1⟩|h1
 ·obtain⟨o0,h2,h3⟩:=(hk n d).mem h1
  exact⟨o0,mem_bk h2,h3,(hk n d).left o h1⟩
 ·obtain⟨o0,h2,h3⟩:=(hb n).mem h1
  exact⟨o0,mem_bd h2,h3,(hb n).left o h1⟩
theorem OkO.mono{S S' :Ven}(h:OkO S)(h1:∀n,calAlive S'.cal.l n≠0→calAlive S.cal.l n≠0∨S'.ords n=[])(hk:∀n d,SubL (S'.bk n d) (S.bk n d))(hb:∀n,SubL (S'.bd n) (S.bd n))
  (ha:∀n o,o∈S'.ords n→S.led.Stands o.acct→S'.led.Stands o.acct)(hn:S.next≤S'.next):OkO S' where
 out n hn:=by
  rcases h1 n hn with h2|h2
  ·have h3:=h.out n h2
   cases he:S'.ords n with
   |nil=>rfl
   |cons x l=>
    obtain⟨o0,h4,-⟩:=ord_back (S:=S) (S' :=S') hk hb (n:=n) (o:=x) (by rw[he];exact List.mem_cons_self)
    rw[h3]at h4;cases h4
  ·exact h2
 side n d:=⟨Nat.le_trans (hk n d).len (h.side n d).1,λo ho=>by
  obtain⟨o0,h2,h3⟩:=(hk n d).mem ho
  rw[←key_buy h3];exact(h.side n d).2 o0 h2⟩
 std n o ho:=by
  obtain⟨o0,h2,h3,h4⟩:=ord_back hk hb ho
  have hs:=h.std n o0 h2
  exact⟨may_key h3 hs.may h4,fit_key h3 hs.fit h4,by rw[←key_num h3];exact Int.lt_of_lt_of_le hs.num hn,ha n o ho (by rw[←key_acct h3];exact hs.acc)⟩
 nd n:=by
  have:=h.nd n
  rw[ords_map]at this⊢
  exact nodup_sub3 (hk n true).nums (hk n false).nums (hb n).nums this
 apart n m o o' ho ho' he:=by
  obtain⟨a,h2,h3,-⟩:=ord_back hk hb ho
  obtain⟨b,h4,h5,-⟩:=ord_back hk hb ho'
  exact h.apart n m a b h2 h4 (by rw[key_num h3,key_num h5];exact he)
 bdl n:=Nat.le_trans (hb n).len (h.bdl n)
theorem OkO.alive{S:Ven}(h:OkO S){n:Int}{o:Od}(ho:o∈S.ords n):calAlive S.cal.l n=0:=by
 apply Classical.byContradiction
 intro hc
 rw[h.out n hc]at ho;cases ho
end Go.Proofs
namespace Go.Proofs
open Go
theorem find_sortA{l:List Ac}(h:SortA l){a:Ac}(ha:a∈l):l.find? (λx=>decide (x.num=a.num))=some a:=by
 induction l with
 |nil=>cases ha
 |cons x l ih=>
  obtain⟨h1,h2⟩:=List.pairwise_cons.1 h
  rcases List.mem_cons.1 ha with rfl|ha
  ·rw[List.find?_cons_of_pos (by simp)]
  ·have:=h1 a ha
   rw[List.find?_cons_of_neg (by simp;omega)]
   exact ih h2 ha
theorem find_insA{l:List Ac}(h:SortA l)(a:Ac)(n:Int):(insA l a).find? (λx=>decide (x.num=n))=if n=a.num then some a else l.find? λx=>decide (x.num=n):=by
 by_cases hn:n=a.num
 ·subst hn
  rw[if_pos rfl]
  exact find_sortA (insA_sort h a) (mem_insA.2 (.inr rfl))
 ·rw[if_neg hn]
  cases hf:l.find? λx=>decide (x.num=n)with
  |some x=>
   have hx:=List.mem_of_find?_eq_some hf
   have he:x.num=n:=by simpa using List.find?_some hf
   have:=find_sortA (insA_sort h a) (mem_insA.2 (.inl ⟨hx,by omega⟩))
   rw[he]at this;exact this
  |none=>
   rw[List.find?_eq_none]at hf⊢
   intro x hx
   rcases mem_insA.1 hx with⟨h1,-⟩|rfl
   ·exact hf x h1
   ·simp;omega
theorem Led.find_putA{S:Led}(h:SortA S.all){a:Ac}(ha:a.num≠0)(n:Int):(S.putA a).find n=if n=a.num then some a else S.find n:=by
 unfold Led.putA Led.find
 rw[if_neg ha]
 exact find_insA h a n
theorem Led.find_putA0{S:Led}{a:Ac}(ha:a.num=0)(n:Int):(S.putA a).find n=S.find n:=by
 unfold Led.putA Led.find;rw[if_pos ha]
theorem Led.find_ok{S:Led}(h:S.Ok){n:Int}{a:Ac}(hf:S.find n=some a):a∈S.all∧a.num=n∧n≠0:=by
 obtain⟨h1,h2⟩:=Led.find_mem hf
 have:=(h.acc a h1).1
 exact⟨h1,h2,by omega⟩
theorem getO_fnd{S:Led}{n:Int}(h:n≠0):S.getO n=S.find n:=by unfold Led.getO;rw[if_neg h]
theorem Led.deposit_cases{S:Led}{n m:Int}:(S.deposit n m).2=S∧(S.deposit n m).1≠0∨∃a:Ac,S.deposit n m=(0,S.putA a)∧a.num=n∧a={(S.getO n).getD ⟨0,0,false,false⟩with num:=n,cash:=((S.getO n).getD ⟨0,0,false,false⟩).cash+m}∧1≤m∧m≤MF∧S.funds+m≤MF∧¬(S.getO n=none∧64≤S.all.length):=by
 unfold Led.deposit
 split
 ·rename_i h0
  rw[amongB_iff]at h0
  split
  ·exact .inl ⟨rfl,by simp⟩
  ·rename_i h1
   split
   ·exact .inl ⟨rfl,by simp⟩
   ·rename_i h2
    exact .inr ⟨_,rfl,rfl,rfl,h0.1,h0.2,by omega,h1⟩
 ·exact .inl ⟨rfl,by simp⟩
theorem Led.deposit_Ok{S:Led}(h:S.Ok){n m:Int}(hn:U32' n):(S.deposit n m).2.Ok:=by
 rcases Led.deposit_cases (S:=S) (n:=n) (m:=m)with⟨h1,-⟩|⟨a,h1,h2,h3,h4,h5,h6,h7⟩
 ·rw[h1];exact h
 ·rw[h1]
  have hcash:0≤a.cash∧a.cash≤MF:=by
   cases hg:S.getO n with
   |none=>
    rw[hg]at h3
    rw[h3]
    show 0≤0+m∧0+m≤MF
    omega
   |some x=>
    have c1:=h.cash_le hg
    have c2:=(h.getO hg).2.2.2.1
    rw[hg]at h3
    rw[h3]
    show 0≤x.cash+m∧x.cash+m≤MF
    omega
  refine h.putA (by rw[h2];exact hn) hcash ?_
  by_cases h0:n=0
  ·exact .inr (.inr (h2.trans h0))
  ·rw[getO_fnd h0]at h7
   by_cases hf:S.find n=none
   ·refine .inr (.inl ?_)
    have:¬64≤S.all.length:=λhc=>h7 ⟨hf,hc⟩
    omega
   ·exact .inl (by rw[h2];exact hf)
theorem Stands_putA{S:Led}(h:S.Ok){a:Ac}{n:Int}(hs:S.Stands n)(ha:a.num=n→∃x,S.find n=some x∧a.kil=x.kil∧a.dfl=x.dfl):(S.putA a).Stands n:=by
 obtain⟨x,hx,hk,hd⟩:=hs
 by_cases h0:a.num=0
 ·exact⟨x,by rw[Led.find_putA0 h0];exact hx,hk,hd⟩
 ·unfold Led.Stands
  rw[Led.find_putA h.sa h0]
  by_cases hn:n=a.num
  ·rw[if_pos hn]
   obtain⟨y,hy,h1,h2⟩:=ha hn.symm
   rw[hx]at hy;cases hy
   exact⟨a,rfl,h1.trans hk,h2.trans hd⟩
  ·rw[if_neg hn];exact⟨x,hx,hk,hd⟩
theorem Stands_deposit{S:Led}(h:S.Ok){n m k:Int}(hs:S.Stands k):(S.deposit n m).2.Stands k:=by
 rcases Led.deposit_cases (S:=S) (n:=n) (m:=m)with⟨h1,-⟩|⟨a,h1,h2,h3,h4,h5,h6,h7⟩
 ·rw[h1];exact hs
 ·rw[h1]
  refine Stands_putA h hs λhe=>?_
  obtain⟨x,hx,-,-⟩:=hs
  have hk0:=(Led.find_ok h hx).2.2
  have hnk:n=k:=h2.symm.trans he
  have hg:S.getO n=some x:=by rw[hnk,getO_fnd hk0,hx]
  rw[hg]at h3
  exact⟨x,hx,by rw[h3];rfl,by rw[h3];rfl⟩
theorem zero_held{S S' :Led}(h:S'.held=S.held)(hz:S.Zero):S'.Zero:=λc=>by rw[h];exact hz c
end Go.Proofs
namespace Go.Proofs
open Go
theorem Ven.Ok.setLed{S:Ven}(h:S.Ok){L:Led}(hL:L.Ok)(hz:L.Zero)(hs:∀n o,o∈S.ords n→S.led.Stands o.acct→L.Stands o.acct)(hh:∀p∈L.held,calAlive S.cal.l p.c=0)(hf:L.funds≤MF):({S with led:=L}:Ven).Ok:=
 ⟨h.cal,⟨hL,hh,hz⟩,h.ord.mono (λn hn=>.inl hn) (λn d=>SubL.refl λo ho=>(h.ord.bkMay n d o ho).1) (λn=>SubL.refl (h.ord.bdMay n)) (λn o ho=>hs n o ho) (Int.le_refl _),h.next,hf⟩
theorem alive_get{l:List Ct}{n:Int}(h:calAlive l n=0):∃k,calGet l n=some k∧k.st≠3∧k.spec.num=n∧k∈l:=by
 unfold calAlive at h
 cases hg:calGet l n with
 |none=>rw[hg]at h;cases h
 |some k=>
  rw[hg]at h
  refine⟨k,rfl,λh3=>?_,by simpa using List.find?_some hg,calGet_mem hg⟩
  simp only at h
  rw[if_pos h3]at h;cases h
theorem alive_u32{S:Ven}(h:S.cal.Ok){n:Int}(hal:calAlive S.cal.l n=0):U32' n:=by
 obtain⟨k,h1,h2,h3,h4⟩:=alive_get hal
 have:=(h.ok k h4).1.1.1
 rw[h3]at this;exact this
end Go.Proofs
namespace Go.Proofs
open Go
theorem deposit_ok{S:Ven}(h:S.Ok){n m:Int}(hn:U32' n):({S with led:=(S.led.deposit n m).2}:Ven).Ok:=by
 have hO:=h.led.led
 refine h.setLed (Led.deposit_Ok hO hn) (zero_held (Led.deposit_held _ _ _) h.led.zero) (λ_ o _ hs=>Stands_deposit hO hs) (λp hp=>h.led.held p (by rw[Led.deposit_held]at hp;exact hp)) ?_
 rw[Led.deposit_funds hO.sa]
 rcases Led.deposit_cases (S:=S.led) (n:=n) (m:=m)with⟨h1,h2⟩|⟨a,h1,h2,h3,h4,h5,h6,h7⟩
 ·rw[if_neg h2];have:=h.fnd;omega
 ·rw[h1,if_pos rfl];exact h6
theorem calGet_set{l:List Ct}{n:Int}{f:Ct→Ct}(hf:∀k∈l,(f k).spec.num=k.spec.num)(m:Int):calGet (calSet l n f) m=(calGet l m).map λk=>if k.spec.num=n then f k else k:=by
 unfold calGet calSet
 induction l with
 |nil=>rfl
 |cons k l ih=>
  have hk:(if k.spec.num=n then f k else k).spec.num=k.spec.num:=by split;exact hf k List.mem_cons_self;rfl
  rw[List.map_cons,List.find?_cons,List.find?_cons,hk]
  split
  ·rfl
  ·exact ih λx hx=>hf x (List.mem_cons_of_mem _ hx)
theorem Ven.Ok.setCal{S:Ven}(h:S.Ok){C:Cal}(hC:C.Ok)(ha:∀n,calAlive C.l n=calAlive S.cal.l n):({S with cal:=C}:Ven).Ok:=
 ⟨hC,⟨h.led.led,λp hp=>by show calAlive C.l _=0;rw[ha];exact h.led.held p hp,h.led.zero⟩,h.ord.mono (λn hn=>.inl (by rw[←ha];exact hn)) (λn d=>SubL.refl λo ho=>(h.ord.bkMay n d o ho).1) (λn=>SubL.refl (h.ord.bdMay n)) (λ_ _ _ hs=>hs) (Int.le_refl _),h.next,h.fnd⟩
theorem find_split{l:List Ct}{p:Ct→Bool}(i:Nat)(k:Ct)(hn:l.find? p=none∨p k=false):(l.take i++k::l.drop i).find? p=if p k=true then some k else l.find? p:=by
 rw[List.find?_append,List.find?_cons]
 cases hp:p k with
 |true=>
  rcases hn with hn|hn
  ·have:(l.take i).find? p=none:=by
    rw[List.find?_eq_none]at hn⊢
    exact λx hx=>hn x (List.mem_of_mem_take hx)
   rw[this];rfl
  ·rw[hp]at hn;cases hn
 |false=>
  simp only[Bool.false_eq_true,if_false]
  rw[←List.find?_append,List.take_append_drop]
theorem calGet_ins{l:List Ct}{k:Ct}(hg:calGet l k.spec.num=none)(i:Nat)(m:Int):calGet (l.take i++k::l.drop i) m=if k.spec.num=m then some k else calGet l m:=by
 unfold calGet at*
 rw[find_split]
 ·simp
 ·by_cases h:k.spec.num=m
  ·subst h;exact .inl hg
  ·exact .inr (by simpa using h)
theorem list_ok{S:Ven}(h:S.Ok){s:Sp}(hs:s.Fit)(he:(calList S.cal s).1=0):({S with cal:=(calList S.cal s).2,bk:=upd S.bk s.num Bk.empty}:Ven).Ok:=by
 unfold calList at he⊢
 by_cases h1:s.may=false
 ·rw[if_pos h1]at he;cases he
 rw[if_neg h1]at he⊢
 by_cases h2:(calGet S.cal.l s.num).isSome=true
 ·rw[if_pos h2]at he;cases he
 rw[if_neg h2]at he⊢
 by_cases h3:s.last<S.cal.day
 ·rw[if_pos h3]at he;cases he
 rw[if_neg h3]at he⊢
 by_cases h4:16≤S.cal.l.length
 ·rw[if_pos h4]at he;cases he
 rw[if_neg h4]
 have hmay:s.may=true:=by simpa using h1
 have hg:calGet S.cal.l s.num=none:=by
  cases hx:calGet S.cal.l s.num with
  |none=>rfl
  |some k=>rw[hx]at h2;exact absurd rfl h2
 have hk:(newCt s).Ok:=⟨⟨hs,⟨by show(0:Int)≤1;omega,by show(1:Int)<256;omega⟩,hs.2.2.2.2.2.2.2.2.2⟩,hmay,Sp.may_price hmay,by show(1:Int)≤1;omega,by show(1:Int)≤3;omega⟩
 obtain⟨i1,i2,i3⟩:=calIns_ok (k:=newCt s) h.cal.srt h.cal.ok hk hg
 have hget:=calGet_ins (k:=newCt s) hg (calAt S.cal.l s.num)
 have hemp:∀d,S.bk s.num d=[]:=λd=>by
  have:=h.ord.out s.num (by unfold calAlive;rw[hg];simp)
  cases hb:S.bk s.num d with
  |nil=>rfl
  |cons x l=>
   have hm:x∈S.ords s.num:=mem_bk (d:=d) (by rw[hb];exact List.mem_cons_self)
   rw[this]at hm;cases hm
 have hup:upd S.bk s.num Bk.empty=S.bk:=by
  funext m d
  by_cases hm:m=s.num
  ·subst hm;rw[upd_self,hemp d];rfl
  ·rw[upd_ne _ _ _ hm]
 rw[hup]
 have hal:∀m,calAlive S.cal.l m=0→calAlive (S.cal.l.take (calAt S.cal.l s.num)++newCt s::S.cal.l.drop (calAt S.cal.l s.num)) m=0:=λm hm=>by
  unfold calAlive at hm⊢
  rw[hget]
  by_cases he:(newCt s).spec.num=m
  ·rw[if_pos he];rfl
  ·rw[if_neg he];exact hm
 refine⟨⟨?_,h.cal.day,i1,i2⟩,⟨h.led.led,λp hp=>hal _ (h.led.held p hp),h.led.zero⟩,h.ord.mono (λn hn=>.inl λhc=>hn (hal n hc)) (λn d=>SubL.refl λo ho=>(h.ord.bkMay n d o ho).1) (λn=>SubL.refl (h.ord.bdMay n)) (λ_ _ _ hs=>hs) (Int.le_refl _),h.next,h.fnd⟩
 show(List.take _ _++_::List.drop _ _).length≤16
 rw[List.length_append,List.length_cons,List.length_take,List.length_drop]
 omega
end Go.Proofs

namespace Go.Proofs
open Go
theorem next_l(C:Cal):(calNext C).2.l=C.l:=by unfold calNext;split<;>rfl
theorem next_ok{C:Cal}(h:C.Ok):(calNext C).2.Ok:=by
 unfold calNext
 split
 ·exact h
 ·rename_i h1
  have:=h.day
  exact⟨h.len,⟨by show 0≤C.day+1;omega,by show C.day+1<4294967296;omega⟩,h.ok,h.srt⟩
theorem Ven.Ok.day{S:Ven}(h:S.Ok):({S with cal:=(calNext S.cal).2}:Ven).Ok:=
 h.setCal (next_ok h.cal) λn=>by rw[next_l]
end Go.Proofs
namespace Go.Proofs
open Go
theorem empty_ok:Ven.empty.Ok:=by
 refine⟨⟨by show(0:Nat)≤16;omega,⟨by show(0:Int)≤0;omega,by show(0:Int)<4294967296;omega⟩,λk hk=>(by cases hk),List.Pairwise.nil⟩,⟨⟨⟨by show(0:Int)≤0;omega,by show(0:Int)≤MF;unfold MF;omega⟩,List.Pairwise.nil,List.Pairwise.nil,by show(0:Nat)≤64;omega,λa ha=>(by cases ha),λp hp=>(by cases hp)⟩,λp hp=>(by cases hp),Led.empty_zero⟩,
  ⟨λn _=>rfl,λn d=>⟨by show(0:Nat)≤100;omega,λo ho=>(by cases ho)⟩,λn o ho=>(by cases ho),λn=>List.nodup_nil,λn m o o' ho=>(by cases ho),λn=>(by show(0:Nat)≤50;omega)⟩,⟨by show(1:Int)≤1;omega,by show(1:Int)≤maxNum+1;unfold maxNum;omega⟩,by show(0+(0:Int))≤MF;unfold MF;omega⟩
end Go.Proofs

