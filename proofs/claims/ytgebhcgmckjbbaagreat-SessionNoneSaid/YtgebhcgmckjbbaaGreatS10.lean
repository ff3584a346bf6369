/- Part of a proof. -/
import Derived.Lib.Overlaps
import Derived.Shelf.SlSortCmp.NoneTotal
import Derived.Test.YtgebhcgmckjbbaaGreatS9
set_option linter.all false
set_option maxRecDepth 100000
namespace Go.Proofs
open Go Go.Vc
def L291_0(v0:Value)(a0:Value)(K:Kont)(s2:Value×Value×Value×Unit)(w3:World)(K4:Value×Value×Value×Unit→World→Prop):Prop:=
 ∀_:Nat→Value,
 rv Tryz.prog (bin .lss 3 false s2.2.2.1 v0) w3 λv5 w6=>
 ifB v5
 (rv Tryz.prog (Instr.indexAt 333 a0 s2.2.2.1) w6 λv7 w8=>
 rv Tryz.prog (Instr.loadAt 2 v7) w8 λv9 w10=>
 rv Tryz.prog (convert 2 27 v9) w10 λv11 w12=>
 rnx Tryz.prog 338 [s2.1,v11,(.int .u64 0)] w12 λv13 w14=>
 rv Tryz.prog (Instr.extract v13 0) w14 λv15 w16=>
 rv Tryz.prog (Instr.extract v13 1) w16 λv17 w18=>
 rv Tryz.prog (bin .shr 2 true v9 (.int .u64 63)) w18 λv19 w20=>
 rv Tryz.prog (convert 27 2 v17) w20 λv21 w22=>
 rv Tryz.prog (bin .add 2 false v19 v21) w22 λv23 w24=>
 rv Tryz.prog (bin .add 2 false s2.2.1 v23) w24 λv25 w26=>
 rv Tryz.prog (bin .add 3 true s2.2.2.1 (.int .i64 1)) w26 λv27 w28=>
 K4 (v15,v25,v27,()) w28)
 (rv Tryz.prog (convert 27 2 s2.1) w6 λv29 w30=>
 rv Tryz.prog (bin .shr 2 true v29 (.int .u64 63)) w30 λv31 w32=>
 rv Tryz.prog (bin .neq 2 false s2.2.1 v31) w32 λv33 w34=>
 ifB v33
 (K (.tuple #[(.int .i64 0),(.int .i64 6)]) w34)
 (rv Tryz.prog (convert 27 2 s2.1) w34 λv35 w36=>
 K (.tuple #[v35,(.int .i64 0)]) w36))
def F291(a0:Value)(w:World)(K:Kont):Prop:=
 rn Tryz.prog (builtin .len #[333] 3 #[false] #[a0]) w λv0 w1=>
 LoopW (S:=Value×Value×Value×Unit) (L291_0 v0 a0 K) ((.int .u64 0),(.int .i64 0),(.int .i64 0),()) w1
theorem F291_eq(a0:Value)(w:World)(K:Kont):vcFnJ Tryz.prog Tryz.f291 [a0] w K=F291 a0 w K:=by kernel_rfl
theorem F291_ok:okF Tryz.prog Tryz.f291 1=true:=by kernel_rfl
theorem ca291{a0:Value}{w:World}{K:Kont}(h:F291 a0 w K):Ca Tryz.prog 291 #[a0] w K:=
 ca_of_vcJ Tryz.noNum Tryz.func291 F291_ok (by rw[F291_eq];exact h)
def L295_0(v85:Value)(v83:Value)(v21:Value)(K:Kont)(s87:Value×Unit)(w88:World)(K89:Value×Unit→World→Prop):Prop:=
 ∀_:Nat→Value,
 rv Tryz.prog (bin .lss 3 false s87.1 v85) w88 λv90 w91=>
 ifB v90
 (rv Tryz.prog (Instr.indexAt 404 v83 s87.1) w91 λv92 w93=>
 rv Tryz.prog (Instr.loadAt 3 v92) w93 λv94 w95=>
 rv Tryz.prog (Instr.indexAt 333 v21 v94) w95 λv96 w97=>
 rv Tryz.prog (Instr.loadAt 2 v96) w97 λv98 w99=>
 rv Tryz.prog (bin .add 2 true v98 (.int .i64 1)) w99 λv100 w101=>
 rv Tryz.prog (Instr.indexAt 333 v21 v94) w101 λv102 w103=>
 ru Tryz.prog (Instr.storeAt 2 v102 v100) w103 λw104=>
 rv Tryz.prog (bin .add 3 true s87.1 (.int .i64 1)) w104 λv105 w106=>
 K89 (v105,()) w106)
 (K (.tuple #[v21,(.int .i64 0)]) w91)
def L295_1(v40:Value)(a1:Value)(a0:Value)(v13:Value)(v31:Value)(v21:Value)(v38:Value)(K:Kont)(s42:Value×Value×Unit)(w43:World)(K44:Value×Value×Unit→World→Prop):Prop:=
 ∀_:Nat→Value,
 rv Tryz.prog (bin .lss 3 false s42.2.1 v40) w43 λv45 w46=>
 ifB v45
 (rv Tryz.prog (Instr.indexAt 333 a1 s42.2.1) w46 λv47 w48=>
 rv Tryz.prog (Instr.loadAt 2 v47) w48 λv49 w50=>
 rv Tryz.prog (convert 2 27 a0) w50 λv51 w52=>
 rv Tryz.prog (convert 2 27 v49) w52 λv53 w54=>
 Ca Tryz.prog 343 #[v51,v53] w54 λv55 w56=>
 rv Tryz.prog (Instr.extract v55 0) w56 λv57 w58=>
 rv Tryz.prog (Instr.extract v55 1) w58 λv59 w60=>
 rv Tryz.prog (convert 2 27 v13) w60 λv61 w62=>
 Ca Tryz.prog 344 #[v57,v59,v61] w62 λv63 w64=>
 rv Tryz.prog (Instr.extract v63 0) w64 λv65 w66=>
 rv Tryz.prog (Instr.extract v63 1) w66 λv67 w68=>
 rdW Tryz.prog (Instr.loadAt 29 v31) w68.drew λv69=>
 rdW Tryz.prog (convert 27 2 v65) w68.drew λv70=>
 rdP Tryz.prog (Instr.indexAt 333 v21 s42.2.1) λv71=>
 ru Tryz.prog (Instr.storeAt 2 v71 v70) w68.drew λw72=>
 Sem.run Tryz.prog (Instr.loadAt 29 v31) w72=.ok v69 w72∧
 (rdP Tryz.prog (Instr.indexAt 29 v69 s42.2.1) λv73=>
 ru Tryz.prog (Instr.storeAt 27 v73 v67) w72 λw74=>
 rdP Tryz.prog (Instr.indexAt 404 v38 s42.2.1) λv75=>
 ru Tryz.prog (Instr.storeAt 3 v75 s42.2.1) w74 λw76=>
 rv Tryz.prog (bin .sub 27 false s42.1 v65) w76 λv77 w78=>
 rv Tryz.prog (bin .add 3 true s42.2.1 (.int .i64 1)) w78 λv79 w80=>
 K44 (v77,v79,()) w80))
 (Ca Tryz.prog 345 #[v38,(.func (.func 346) #[] #[v31])] w46 λv81 w82=>
 rv Tryz.prog (Instr.sliceAt 404 v38 none (some s42.1) none) w82 λv83 w84=>
 rn Tryz.prog (builtin .len #[404] 3 #[false] #[v83]) w84 λv85 w86=>
 LoopW (S:=Value×Unit) (L295_0 v85 v83 v21 K) ((.int .i64 0),()) w86)
def J295_2(K:Kont)(a1:Value)(a0:Value)(s4:Value×Unit)(w5:World):Prop:=
 ∀_:Nat→Value,
 ifB s4.1
 (K (.tuple #[(.slice none 0 0),(.int .i64 2)]) w5)
 (Ca Tryz.prog 291 #[a1] w5 λv11 w12=>
 rv Tryz.prog (Instr.extract v11 0) w12 λv13 w14=>
 rv Tryz.prog (Instr.extract v11 1) w14 λv15 w16=>
 rv Tryz.prog (bin .neq 26 true v15 (.int .i64 0)) w16 λv17 w18=>
 ifB v17
 (K (.tuple #[(.slice none 0 0),v15]) w18)
 (rn Tryz.prog (builtin .len #[333] 3 #[false] #[a1]) w18 λv19 w20=>
 rx Tryz.prog (xMake 333 v19 v19) w20 λv21 w22=>
 rv Tryz.prog (bin .eql 2 true a0 (.int .i64 0)) w22 λv23 w24=>
 ifB v23
 (K (.tuple #[v21,(.int .i64 0)]) w24)
 (rv Tryz.prog (bin .eql 2 true v13 (.int .i64 0)) w24 λv25 w26=>
 ifB v25
 (K (.tuple #[(.slice none 0 0),(.int .i64 10)]) w26)
 (rn Tryz.prog (builtin .len #[333] 3 #[false] #[a1]) w26 λv27 w28=>
 rx Tryz.prog (xMake 29 v27 v27) w28 λv29 w30=>
 rv Tryz.prog (Instr.alloc 29 true (.tuple #[])) w30 λv31 w32=>
 ru Tryz.prog (Instr.storeAt 29 v31 v29) w32 λw33=>
 rv Tryz.prog (convert 2 27 a0) w33 λv34 w35=>
 rn Tryz.prog (builtin .len #[333] 3 #[false] #[a1]) w35 λv36 w37=>
 rx Tryz.prog (xMake 404 v36 v36) w37 λv38 w39=>
 rn Tryz.prog (builtin .len #[333] 3 #[false] #[a1]) w39 λv40 w41=>
 LoopW (S:=Value×Value×Unit) (L295_1 v40 a1 a0 v13 v31 v21 v38 K) (v34,(.int .i64 0),()) w41))))
def F295(a0 a1:Value)(w:World)(K:Kont):Prop:=
 rn Tryz.prog (builtin .len #[333] 3 #[false] #[a1]) w λv0 w1=>
 rv Tryz.prog (bin .gtr 3 true v0 (.int .i64 1000)) w1 λv2 w3=>
 ifB v2
 (K (.tuple #[(.slice none 0 0),(.int .i64 3)]) w3)
 (JoinW (S:=Value×Unit) (λJ6=>
 rv Tryz.prog (bin .lss 2 true a0 (.int .i64 0)) w3 λv7 w8=>
 ifB v7
 (J6 ((.bool true),()) w8)
 (Ca Tryz.prog 341 #[a1,(.func (.func 342) #[] #[])] w8 λv9 w10=>
 J6 (v9,()) w10))
 (J295_2 K a1 a0))
theorem F295_eq(a0 a1:Value)(w:World)(K:Kont):vcFnJ Tryz.prog Tryz.f295 [a0,a1] w K=F295 a0 a1 w K:=by kernel_rfl
theorem F295_ok:okF Tryz.prog Tryz.f295 2=true:=by kernel_rfl
theorem ca295{a0 a1:Value}{w:World}{K:Kont}(h:F295 a0 a1 w K):Ca Tryz.prog 295 #[a0,a1] w K:=
 ca_of_vcJ Tryz.noNum Tryz.func295 F295_ok (by rw[F295_eq];exact h)
def F191(a0 a1 a2:Value)(w:World)(K:Kont):Prop:=
 rv Tryz.prog (bin .geq 2 false a0 a1) w λv0 w1=>
 ifB v0
 (rv Tryz.prog (bin .leq 2 false a0 a2) w1 λv2 w3=>
 K v2 w3)
 (K (.bool false) w1)
theorem F191_eq(a0 a1 a2:Value)(w:World)(K:Kont):vcFnJ Tryz.prog Tryz.f191 [a0,a1,a2] w K=F191 a0 a1 a2 w K:=by kernel_rfl
theorem F191_ok:okF Tryz.prog Tryz.f191 3=true:=by kernel_rfl
theorem ca191{a0 a1 a2:Value}{w:World}{K:Kont}(h:F191 a0 a1 a2 w K):Ca Tryz.prog 191 #[a0,a1,a2] w K:=
 ca_of_vcJ Tryz.noNum Tryz.func191 F191_ok (by rw[F191_eq];exact h)
def F192(a0 a1:Value)(w:World)(K:Kont):Prop:=
 Ca Tryz.prog 191 #[a1,(.int .i64 1),(.int .i64 10000000)] w λv0 w1=>
 ifB v0
 (rv Tryz.prog (bin .rem 2 false a1 a0) w1 λv2 w3=>
 rv Tryz.prog (bin .eql 2 true v2 (.int .i64 0)) w3 λv4 w5=>
 K v4 w5)
 (K (.bool false) w1)
theorem F192_eq(a0 a1:Value)(w:World)(K:Kont):vcFnJ Tryz.prog Tryz.f192 [a0,a1] w K=F192 a0 a1 w K:=by kernel_rfl
theorem F192_ok:okF Tryz.prog Tryz.f192 2=true:=by kernel_rfl
theorem ca192{a0 a1:Value}{w:World}{K:Kont}(h:F192 a0 a1 w K):Ca Tryz.prog 192 #[a0,a1] w K:=
 ca_of_vcJ Tryz.noNum Tryz.func192 F192_ok (by rw[F192_eq];exact h)
def L107_0(v4:Value)(K:Kont)(v0:Value)(s6:Value×Value×Value×Value×Unit)(w7:World)(K8:Value×Value×Value×Value×Unit→World→Prop):Prop:=
 ∀_:Nat→Value,
 rv Tryz.prog (bin .lss 3 true s6.2.2.2.1 (.int .i64 16)) w7 λv9 w10=>
 ifB v9
 (rv Tryz.prog (Instr.index 36 v4 s6.2.2.2.1) w10 λv11 w12=>
 Ca Tryz.prog 130 #[v11,(.int .i64 10000000)] w12 λv13 w14=>
 rv Tryz.prog (Op.unary .not v13) w14 λv15 w16=>
 ifB v15
 (K (.bool false) w16)
 (ifB s6.2.1
 (ifB s6.2.2.1
 (rv Tryz.prog (bin .add 3 true s6.2.2.2.1 (.int .i64 1)) w16 λv17 w18=>
 K8 (s6.1,(.bool true),(.bool true),v17,()) w18)
 (rv Tryz.prog (bin .lss 2 true v11 (.int .i64 0)) w16 λv19 w20=>
 rv Tryz.prog (bin .add 3 true s6.2.2.2.1 (.int .i64 1)) w20 λv21 w22=>
 K8 (s6.1,(.bool true),v19,v21,()) w22))
 (rv Tryz.prog (bin .gtr 2 true v11 (.int .i64 0)) w16 λv23 w24=>
 ifB s6.2.2.1
 (rv Tryz.prog (bin .add 3 true s6.2.2.2.1 (.int .i64 1)) w24 λv25 w26=>
 K8 (s6.1,v23,(.bool true),v25,()) w26)
 (rv Tryz.prog (bin .lss 2 true v11 (.int .i64 0)) w24 λv27 w28=>
 rv Tryz.prog (bin .add 3 true s6.2.2.2.1 (.int .i64 1)) w28 λv29 w30=>
 K8 (s6.1,v23,v27,v29,()) w30))))
 (ifB s6.2.1
 (ifB s6.2.2.1
 (rv Tryz.prog (Instr.fieldAt 38 v0 0) w10 λv31 w32=>
 rv Tryz.prog (Instr.loadAt 35 v31) w32 λv33 w34=>
 rv Tryz.prog (bin .neq 35 true v33 (.int .u32 0)) w34 λv35 w36=>
 ifB v35
 (rv Tryz.prog (Instr.fieldAt 38 v0 1) w36 λv37 w38=>
 rv Tryz.prog (Instr.loadAt 5 v37) w38 λv39 w40=>
 rv Tryz.prog (convert 5 2 v39) w40 λv41 w42=>
 Ca Tryz.prog 191 #[v41,(.int .i64 1),(.int .i64 8)] w42 λv43 w44=>
 ifB v43
 (rv Tryz.prog (Instr.fieldAt 38 v0 2) w44 λv45 w46=>
 rv Tryz.prog (Instr.loadAt 2 v45) w46 λv47 w48=>
 Ca Tryz.prog 191 #[v47,(.int .i64 1),(.int .i64 10000000)] w48 λv49 w50=>
 ifB v49
 (rv Tryz.prog (Instr.fieldAt 38 v0 3) w50 λv51 w52=>
 rv Tryz.prog (Instr.loadAt 2 v51) w52 λv53 w54=>
 Ca Tryz.prog 191 #[v53,(.int .i64 1),(.int .i64 1000000)] w54 λv55 w56=>
 ifB v55
 (rv Tryz.prog (Instr.fieldAt 38 v0 4) w56 λv57 w58=>
 rv Tryz.prog (Instr.loadAt 2 v57) w58 λv59 w60=>
 Ca Tryz.prog 191 #[v59,(.int .i64 0),(.int .i64 10000000)] w60 λv61 w62=>
 ifB v61
 (rv Tryz.prog (Instr.fieldAt 38 v0 5) w62 λv63 w64=>
 rv Tryz.prog (Instr.loadAt 2 v63) w64 λv65 w66=>
 Ca Tryz.prog 191 #[v65,(.int .i64 1),(.int .i64 10000000)] w66 λv67 w68=>
 ifB v67
 (rv Tryz.prog (Instr.fieldAt 38 v0 7) w68 λv69 w70=>
 rv Tryz.prog (Instr.loadAt 2 v69) w70 λv71 w72=>
 Ca Tryz.prog 191 #[v71,(.int .i64 0),(.int .i64 10000000)] w72 λv73 w74=>
 ifB v73
 (rv Tryz.prog (Instr.fieldAt 38 v0 2) w74 λv75 w76=>
 rv Tryz.prog (Instr.loadAt 2 v75) w76 λv77 w78=>
 rv Tryz.prog (Instr.fieldAt 38 v0 9) w78 λv79 w80=>
 rv Tryz.prog (Instr.loadAt 2 v79) w80 λv81 w82=>
 Ca Tryz.prog 192 #[v77,v81] w82 λv83 w84=>
 K v83 w84)
 (K (.bool false) w74))
 (K (.bool false) w68))
 (K (.bool false) w62))
 (K (.bool false) w56))
 (K (.bool false) w50))
 (K (.bool false) w44))
 (K (.bool false) w36))
 (K (.bool false) w10))
 (K (.bool false) w10))
def F107(a0:Value)(w:World)(K:Kont):Prop:=
 rv Tryz.prog (Instr.box 38 a0) w λv0 w1=>
 rv Tryz.prog (Instr.fieldAt 38 v0 6) w1 λv2 w3=>
 rx Tryz.prog (bigS 36 v2) w3 λv4 w5=>
 LoopW (S:=Value×Value×Value×Value×Unit) (L107_0 v4 K v0) ((.bool false),(.bool false),(.bool false),(.int .i64 0),()) w5
theorem F107_eq(a0:Value)(w:World)(K:Kont):vcFnJ Tryz.prog Tryz.f107 [a0] w K=F107 a0 w K:=by kernel_rfl
theorem F107_ok:okF Tryz.prog Tryz.f107 1=true:=by kernel_rfl
theorem ca107{a0:Value}{w:World}{K:Kont}(h:F107 a0 w K):Ca Tryz.prog 107 #[a0] w K:=
 ca_of_vcJ Tryz.noNum Tryz.func107 F107_ok (by rw[F107_eq];exact h)
def F127(a0 a1:Value)(w:World)(K:Kont):Prop:=
 rv Tryz.prog (Instr.box 38 a0) w λv0 w1=>
 rx Tryz.prog (bigS 38 v0) w1 λv2 w3=>
 Ca Tryz.prog 107 #[v2] w3 λv4 w5=>
 ifB v4
 (rv Tryz.prog (Instr.fieldAt 38 v0 2) w5 λv6 w7=>
 rv Tryz.prog (Instr.loadAt 2 v6) w7 λv8 w9=>
 Ca Tryz.prog 192 #[v8,a1] w9 λv10 w11=>
 K v10 w11)
 (K (.bool false) w5)
theorem F127_eq(a0 a1:Value)(w:World)(K:Kont):vcFnJ Tryz.prog Tryz.f127 [a0,a1] w K=F127 a0 a1 w K:=by kernel_rfl
theorem F127_ok:okF Tryz.prog Tryz.f127 2=true:=by kernel_rfl
theorem ca127{a0 a1:Value}{w:World}{K:Kont}(h:F127 a0 a1 w K):Ca Tryz.prog 127 #[a0,a1] w K:=
 ca_of_vcJ Tryz.noNum Tryz.func127 F127_ok (by rw[F127_eq];exact h)
def F133(a0:Value)(w:World)(K:Kont):Prop:=
 rv Tryz.prog (Instr.build 320 #[(0,(.bool true)),(1,a0)]) w λv0 w1=>
 rv Tryz.prog (Instr.box 320 v0) w1 λv2 w3=>
 K v2 w3
theorem F133_eq(a0:Value)(w:World)(K:Kont):vcFnJ Tryz.prog Tryz.f133 [a0] w K=F133 a0 w K:=by kernel_rfl
theorem F133_ok:okF Tryz.prog Tryz.f133 1=true:=by kernel_rfl
theorem ca133{a0:Value}{w:World}{K:Kont}(h:F133 a0 w K):Ca Tryz.prog 133 #[a0] w K:=
 ca_of_vcJ Tryz.noNum Tryz.func133 F133_ok (by rw[F133_eq];exact h)
def F237(a0:Value)(w:World)(K:Kont):Prop:=
 rv Tryz.prog (bin .neq 228 true a0 (.pointer none)) w λv0 w1=>
 ifB v0
 (nilK a0 λv2=>rv Tryz.prog (Instr.fieldAt 320 v2 0) w1 λv3 w4=>
 rv Tryz.prog (Instr.loadAt 4 v3) w4 λv5 w6=>
 K v5 w6)
 (K (.bool false) w1)
theorem F237_eq(a0:Value)(w:World)(K:Kont):vcFnJ Tryz.prog Tryz.f237 [a0] w K=F237 a0 w K:=by kernel_rfl
theorem F237_ok:okF Tryz.prog Tryz.f237 1=true:=by kernel_rfl
theorem ca237{a0:Value}{w:World}{K:Kont}(h:F237 a0 w K):Ca Tryz.prog 237 #[a0] w K:=
 ca_of_vcJ Tryz.noNum Tryz.func237 F237_ok (by rw[F237_eq];exact h)
def F146(a0:Value)(w:World)(K:Kont):Prop:=
 rv Tryz.prog (Instr.box 228 a0) w λv0 w1=>
 K (.func (.func 236) #[] #[v0]) w1
theorem F146_eq(a0:Value)(w:World)(K:Kont):vcFnJ Tryz.prog Tryz.f146 [a0] w K=F146 a0 w K:=by kernel_rfl
theorem F146_ok:okF Tryz.prog Tryz.f146 1=true:=by kernel_rfl
theorem ca146{a0:Value}{w:World}{K:Kont}(h:F146 a0 w K):Ca Tryz.prog 146 #[a0] w K:=
 ca_of_vcJ Tryz.noNum Tryz.func146 F146_ok (by rw[F146_eq];exact h)
def L236_0(v15:Value)(v13:Value)(a0:Value)(K:Kont)(s17:Value×Unit)(w18:World)(K19:Value×Unit→World→Prop):Prop:=
 ∀_:Nat→Value,
 rv Tryz.prog (bin .lss 3 false s17.1 v15) w18 λv20 w21=>
 ifB v20
 (rv Tryz.prog (Instr.indexAt 133 v13 s17.1) w21 λv22 w23=>
 rv Tryz.prog (Instr.loadAt 117 v22) w23 λv24 w25=>
 rv Tryz.prog (Instr.alloc 117 true (.tuple #[])) w25 λv26 w27=>
 ru Tryz.prog (Instr.storeAt 117 v26 v24) w27 λw28=>
 rv Tryz.prog (Instr.loadAt 117 v26) w28 λv29 w30=>
 callV Tryz.prog a0 [v29] w30 λv31 w32=>
 rv Tryz.prog (Op.unary .not v31) w32 λv33 w34=>
 ifB v33
 (K (.tuple #[]) w34)
 (rv Tryz.prog (bin .add 3 true s17.1 (.int .i64 1)) w34 λv35 w36=>
 K19 (v35,()) w36))
 (K (.tuple #[]) w21)
def F236(a0 a1:Value)(w:World)(K:Kont):Prop:=
 rv Tryz.prog (Instr.loadAt 228 a1) w λv0 w1=>
 Ca Tryz.prog 237 #[v0] w1 λv2 w3=>
 rv Tryz.prog (Op.unary .not v2) w3 λv4 w5=>
 ifB v4
 (K (.tuple #[]) w5)
 (rv Tryz.prog (Instr.loadAt 228 a1) w5 λv6 w7=>
 nilK v6 λv8=>rv Tryz.prog (Instr.fieldAt 320 v8 2) w7 λv9 w10=>
 rv Tryz.prog (Instr.loadAt 133 v9) w10 λv11 w12=>
 Ca Tryz.prog 111 #[v11] w12 λv13 w14=>
 rn Tryz.prog (builtin .len #[133] 3 #[false] #[v13]) w14 λv15 w16=>
 LoopW (S:=Value×Unit) (L236_0 v15 v13 a0 K) ((.int .i64 0),()) w16)
theorem F236_eq(a0 a1:Value)(w:World)(K:Kont):vcFnJ Tryz.prog Tryz.f236 [a0,a1] w K=F236 a0 a1 w K:=by kernel_rfl
theorem F236_ok:okF Tryz.prog Tryz.f236 2=true:=by kernel_rfl
theorem ca236{a0 a1:Value}{w:World}{K:Kont}(h:F236 a0 a1 w K):Ca Tryz.prog 236 #[a0,a1] w K:=
 ca_of_vcJ Tryz.noNum Tryz.func236 F236_ok (by rw[F236_eq];exact h)
def F193(a0:Value)(w:World)(K:Kont):Prop:=
 Ca Tryz.prog 237 #[a0] w λv0 w1=>
 rv Tryz.prog (Op.unary .not v0) w1 λv2 w3=>
 ifB v2
 (K (.pointer none) w3)
 (nilK a0 λv4=>rdP Tryz.prog (Instr.fieldAt 320 v4 1) λv5=>
 rdW Tryz.prog (Instr.loadAt 4 v5) w3.drew λv6=>
 nilK a0 λv7=>rdP Tryz.prog (Instr.fieldAt 320 v7 2) λv8=>
 rdW Tryz.prog (Instr.loadAt 133 v8) w3.drew λv9=>
 Ca Tryz.prog 111 #[v9] w3.drew λv10 w11=>
 Sem.run Tryz.prog (Instr.loadAt 4 v5) w11=.ok v6 w11∧
 (rdP Tryz.prog (Instr.build 320 #[(0,(.bool true)),(1,v6),(2,v10)]) λv12=>
 rv Tryz.prog (Instr.box 320 v12) w11 λv13 w14=>
 K v13 w14))
theorem F193_eq(a0:Value)(w:World)(K:Kont):vcFnJ Tryz.prog Tryz.f193 [a0] w K=F193 a0 w K:=by kernel_rfl
theorem F193_ok:okF Tryz.prog Tryz.f193 1=true:=by kernel_rfl
theorem ca193{a0:Value}{w:World}{K:Kont}(h:F193 a0 w K):Ca Tryz.prog 193 #[a0] w K:=
 ca_of_vcJ Tryz.noNum Tryz.func193 F193_ok (by rw[F193_eq];exact h)
def F111(a0:Value)(w:World)(K:Kont):Prop:=
 rv Tryz.prog (bin .eql 133 true a0 (.slice none 0 0)) w λv0 w1=>
 ifB v0
 (K (.slice none 0 0) w1)
 (rx Tryz.prog (xLit 133 0 []) w1 λv2 w3=>
 rx Tryz.prog (xAppend #[133,133] 133 [v2,a0]) w3 λv4 w5=>
 K v4 w5)
theorem F111_eq(a0:Value)(w:World)(K:Kont):vcFnJ Tryz.prog Tryz.f111 [a0] w K=F111 a0 w K:=by kernel_rfl
theorem F111_ok:okF Tryz.prog Tryz.f111 1=true:=by kernel_rfl
theorem ca111{a0:Value}{w:World}{K:Kont}(h:F111 a0 w K):Ca Tryz.prog 111 #[a0] w K:=
 ca_of_vcJ Tryz.noNum Tryz.func111 F111_ok (by rw[F111_eq];exact h)
end Go.Proofs
namespace Go.Proofs
open Go Go.Vc
attribute [local congr] Ca_congV
abbrev R64' (n:Int):Prop:= -9223372036854775808≤n∧n<9223372036854775808
abbrev U32' (n:Int):Prop:=0≤n∧n<4294967296
abbrev U64' (n:Int):Prop:=0≤n∧n<18446744073709551616
structure Sp where
 num:Int
 route:Int
 tick:Int
 lot:Int
 band:Int
 limit:Int
 shifts:Vector Int 16
 credit:Int
 last:Int
 first:Int
 deriving DecidableEq
def Sp.Fit(s:Sp):Prop:=U32' s.num∧(0≤s.route∧s.route<256)∧R64' s.tick∧R64' s.lot∧R64' s.band∧R64' s.limit∧(∀x∈s.shifts.toList,R64' x)∧R64' s.credit∧U32' s.last∧R64' s.first
def shC(s:Vector Int 16):List Value:=s.toList.map λn=>.int .i64 n
def spC(s:Sp):List Value:=[.int .u32 s.num,.int .u8 s.route,.int .i64 s.tick,.int .i64 s.lot,.int .i64 s.band,.int .i64 s.limit]++(shC s.shifts++[.int .i64 s.credit,.int .u32 s.last,.int .i64 s.first])
theorem shC_len(s:Vector Int 16):(shC s).length=16:=by simp[shC]
theorem spC_len(s:Sp):(spC s).length=25:=by simp[spC,shC_len]
theorem spC_one(s:Sp):(spC s).all (·.oneCell')=true:=by simp[spC,shC,Value.oneCell']
theorem spC_shift(s:Sp):((spC s).drop 6).take 16=shC s.shifts:=by
 simp only[spC]
 rw[List.drop_append_of_le_length (by simp)]
 simp only[List.drop_succ_cons,List.drop_nil,List.drop_zero,List.nil_append]
 rw[List.take_append_of_le_length (by rw[shC_len];omega),List.take_of_length_le (by rw[shC_len];omega)]
theorem spG{s:Sp}{post:List Value}{i:Nat}(hi:i<3):(spC s++post)[22+i]? =([.int .i64 s.credit,.int .u32 s.last,.int .i64 s.first]:List Value)[i]? :=by
 rw[List.getElem?_append_left (by rw[spC_len];omega)]
 simp only[spC]
 rw[List.getElem?_append_right (by simp;omega)]
 rw[List.getElem?_append_right (by rw[shC_len];simp;omega)]
 congr 1
 rw[shC_len];simp;omega
theorem spG0(s:Sp)(post:List Value):(spC s++post)[0]? =some (.int .u32 s.num):=rfl
theorem spG1(s:Sp)(post:List Value):(spC s++post)[1]? =some (.int .u8 s.route):=rfl
theorem spG2(s:Sp)(post:List Value):(spC s++post)[2]? =some (.int .i64 s.tick):=rfl
theorem spG3(s:Sp)(post:List Value):(spC s++post)[3]? =some (.int .i64 s.lot):=rfl
theorem spG4(s:Sp)(post:List Value):(spC s++post)[4]? =some (.int .i64 s.band):=rfl
theorem spG5(s:Sp)(post:List Value):(spC s++post)[5]? =some (.int .i64 s.limit):=rfl
theorem spG22(s:Sp)(post:List Value):(spC s++post)[22]? =some (.int .i64 s.credit):=spG (i:=0) (by omega)
theorem spG23(s:Sp)(post:List Value):(spC s++post)[23]? =some (.int .u32 s.last):=spG (i:=1) (by omega)
theorem spG24(s:Sp)(post:List Value):(spC s++post)[24]? =some (.int .i64 s.first):=spG (i:=2) (by omega)
def priceB(tick n:Int):Bool:=amongB n 1 MP&& decide (n.tmod tick=0)
def shiftsB(l:List Int):Bool:=l.all λx=>amongB x (-MP) MP
def Sp.may(s:Sp):Bool:=
 shiftsB s.shifts.toList&& s.shifts.toList.any (λx=>decide (0<x))&& s.shifts.toList.any (λx=>decide (x<0))&& decide (s.num≠0)&& amongB s.route 1 8&& amongB s.tick 1 MP&& amongB s.lot 1 1000000&& amongB s.band 0 MP&& amongB s.limit 1 MP&& amongB s.credit 0 MP&& priceB s.tick s.first
def Sp.isPrice(s:Sp)(n:Int):Bool:=s.may&& priceB s.tick n
theorem ca_swithin{n lo hi:Int}{w:World}{K:Kont}(hK:K (.bool (amongB n lo hi)) w):Ca Tryz.prog 191 #[.int .i64 n,.int .i64 lo,.int .i64 hi] w K:=by
 apply ca191
 unfold F191
 unfold amongB at hK
 by_cases h:lo≤n
 ·simp[go_sem,h]at hK⊢
  exact hK
 ·simp[go_sem,h]at hK⊢
  exact hK
theorem ca_sprice{tick n:Int}{w:World}{K:Kont}(h0:0<tick)(hK:K (.bool (priceB tick n)) w):Ca Tryz.prog 192 #[.int .i64 tick,.int .i64 n] w K:=by
 apply ca192
 unfold F192
 refine ca_swithin ?_
 unfold priceB MP at hK
 have h0' :¬tick=0:=by omega
 cases h:amongB n 1 10000000 with
 |false=>
  rw[h]at hK
  simpa using hK
 |true=>
  rw[h]at hK
  have hn:=of_decide_eq_true h
  simp[go_sem,h0']at hK⊢
  have e:IntKind.i64.wrap (n.tmod tick)=n.tmod tick:=by
   have h1:=Int.emod_nonneg n h0'
   have h2:=Int.emod_lt_of_pos n h0
   have h3:n.tmod tick=n%tick:=Int.tmod_eq_emod_of_nonneg (by omega)
   have h4:n%tick≤n:=by
    by_cases hl:n<tick
    ·rw[Int.emod_eq_of_lt (by omega) hl];omega
    ·omega
   rw[h3,wrapI (by omega) (by omega)]
  first
   |exact hK
   |(rw[e];exact hK)
   |(simpa [e]using hK)
theorem uSh:Tryz.prog.underlying 36=some (.array 16 2):=by kernel_rfl
theorem aSh:isAggT Tryz.prog 36=true:=by kernel_rfl
theorem nSh:Tryz.prog.cellsOf 36=15+1:=by kernel_rfl
theorem aI64:isAggT Tryz.prog 2=false:=by kernel_rfl
theorem sI64:(Tryz.prog.underlying 2).isSome=true:=by kernel_rfl
theorem nI64:Tryz.prog.cellsOf 2=0+1:=by kernel_rfl
theorem aSp:isAggT Tryz.prog 38=true:=by kernel_rfl
theorem nSp:Tryz.prog.cellsOf 38=24+1:=by kernel_rfl
theorem shC_get(s:Vector Int 16)(i:Nat)(h:i<16):(shC s).toArray[i]? =some (.int .i64 s.toList[i]!):=by
 have hl:s.toList.length=16:=by simp
 simp[shC,List.getElem?_eq_getElem,hl,h]
theorem all_take{l:List Int}{p:Int→Bool}{i:Nat}(h:i<l.length):(l.take (i+1)).all p=((l.take i).all p&& p l[i]!):=by
 rw[List.take_add_one,List.getElem?_eq_getElem h,List.all_append]
 simp[h]
theorem any_take{l:List Int}{p:Int→Bool}{i:Nat}(h:i<l.length):(l.take (i+1)).any p=((l.take i).any p||p l[i]!):=by
 rw[List.take_add_one,List.getElem?_eq_getElem h,List.any_append]
 simp[h]
set_option maxRecDepth 10000 in
theorem ca_smayS{s:Sp}{w:World}{K:Kont}(hf:s.Fit)(hK:∀w',Mod (λ_=>False) w w' →K (.bool s.may) w'):Ca Tryz.prog 107 #[.agg (spC s).toArray] w K:=by
 apply ca107
 unfold F107
 obtain⟨p,hp0⟩:∃p,p=w.heap.size:=⟨_,rfl⟩
 have m1:Mod (λ_=>False) w (w.alloc (.cells (spC s).toArray 38)):=(Mod.refl _ w).alloc _
 refine rvS (v:=.pointer (some ⟨p,0,none⟩)) (w' :=w.alloc (.cells (spC s).toArray 38)) (by rw[hp0];rfl) ?_
 have b1:hp (w.alloc (.cells (spC s).toArray 38)) p=some (.cells (spC s).toArray 38 (0,0)):=by rw[hp0];simp[go_sem]
 generalize w.alloc (.cells (spC s).toArray 38)=w1 at m1 b1⊢
 refine rvS (v:=.pointer (some ⟨p,6,none⟩)) (w' :=w1) (by simp[go_sem]) ?_
 have hA:At w1 p 6 (shC s.shifts):=by
  have hA0:At w1 p 0 (spC s):=⟨_,_,_,b1,by simp,by simp⟩
  have:=hA0.sub 6 16 (by rw[spC_len];omega)
  rw[spC_shift]at this
  simpa using this
 refine rx_bigS (shC s.shifts) 15 aSh nSh (shC_len _) hA ?_
 have hl:s.shifts.toList.length=16:=by simp
 obtain⟨f1,f2,f3,f4,f5,f6,f7,f8,f9,f10⟩:=hf
 have hcell:∀i:Nat,(spC s)[i]? =(spC s++[])[i]? :=λi=>by rw[List.append_nil]
 refine loopV (λst W=>∃(i:Nat) (x:Value),i≤16∧st=(x,.bool ((s.shifts.toList.take i).any λx=>decide (0<x)),.bool ((s.shifts.toList.take i).any λx=>decide (x<0)),.int .i64 i,())∧W=w1∧shiftsB (s.shifts.toList.take i)=true)
  (λst _=>match st.2.2.2.1 with| .int _ i=>16 - i.toNat|_=>0) ⟨0,.bool false,by omega,rfl,rfl,rfl⟩ ?_
 rintro⟨_,_⟩ W ⟨i,x,hi,⟨⟩,rfl,hall⟩ KN hKN
 unfold L107_0
 intro _
 by_cases hlt:i<16
 ·have hlt' :(i:Int)<16:=by omega
  have hil:i<s.shifts.toList.length:=by omega
  have hx:R64' s.shifts.toList[i]! :=by
   rw[getElem!_pos s.shifts.toList i hil]
   exact f7 _ (List.getElem_mem hil)
  refine rvS (v:=.bool true) (by simp[go_sem,hlt']<;>first|exact⟨rfl,rfl⟩|exact rfl) ?_
  rw[ifB_bool,if_pos rfl]
  refine rvS (v:=.int .i64 s.shifts.toList[i]!) (w' :=W) (run_index_one uSh aI64 sI64 nI64 hlt (shC_get _ i hlt)) ?_
  generalize hy:s.shifts.toList[i]! =y at*
  refine ca_Within hx (by omega) ?_
  have hw:IntKind.i64.wrap ((i:Int)+1)=((i+1:Nat):Int):=by rw[wrapI (by omega) (by omega)];omega
  refine rvS (v:=.bool (!amongB y (-10000000) 10000000)) (w' :=W) (by simp[go_sem]) ?_
  cases hb:amongB y (-10000000) 10000000 with
  |false=>
   rw[ifB_bool,if_pos (show(!false)=true from rfl)]
   have:s.may=false:=by
    have h1:shiftsB s.shifts.toList=false:=by
     rw[Bool.eq_false_iff]
     intro hc
     have:=(List.all_eq_true.1 hc) y (by rw[←hy,getElem!_pos s.shifts.toList i hil];exact List.getElem_mem hil)
     unfold MP at this
     rw[hb]at this
     cases this
    unfold Sp.may
    rw[h1];simp
   rw[←this]
   exact hK _ m1
  |true=>
   rw[ifB_bool,if_neg (by simp)]
   have hall' :shiftsB (s.shifts.toList.take (i+1))=true:=by
    unfold shiftsB
    rw[all_take hil,hy]
    show(shiftsB _&& _)=true
    rw[hall]
    simpa [MP]using hb
   have nxt:∀(z:Value),KN (z,.bool ((s.shifts.toList.take (i+1)).any λx=>decide (0<x)),.bool ((s.shifts.toList.take (i+1)).any λx=>decide (x<0)),.int .i64 ((i+1:Nat):Int),()) W:=λz=>
    hKN _ _ ⟨i+1,z,by omega,rfl,rfl,hall'⟩ (by show 16 - (((i+1:Nat):Int)).toNat<16 - ((i:Int)).toNat;omega)
   rw[any_take hil,any_take hil,hy]at nxt
   cases hu:(s.shifts.toList.take i).any λx=>decide (0<x)<;>cases hd:(s.shifts.toList.take i).any λx=>decide (x<0)
   all_goals
    rw[hu,hd]at nxt
    simp only[ifB_bool,Bool.false_eq_true,if_false,if_true]
    simp[-Int.natCast_add,go_sem,hw]
    simpa using nxt _
 ·obtain rfl:i=16:=by omega
  rw[List.take_of_length_le (by omega)]at hall
  rw[List.take_of_length_le (by omega)]
  refine rvS (v:=.bool false) (by simp[go_sem]<;>first|exact⟨rfl,rfl⟩|exact rfl) ?_
  rw[ifB_bool,if_neg Bool.false_ne_true]
  have hm:∀b:Bool,b=s.may→K (.bool b) W:=λb h=>by rw[h];exact hK _ m1
  unfold Sp.may at hm
  rw[hall]at hm
  cases hu:s.shifts.toList.any λx=>decide (0<x)with
  |false=>
   rw[ifB_bool,if_neg Bool.false_ne_true]
   refine hm _ ?_
   rw[hu];simp
  |true=>
   rw[hu]at hm
   rw[ifB_bool,if_pos rfl]
   cases hd:s.shifts.toList.any λx=>decide (x<0)with
   |false=>
    rw[ifB_bool,if_neg Bool.false_ne_true]
    refine hm _ ?_
    rw[hd];simp
   |true=>
    rw[hd]at hm
    rw[ifB_bool,if_pos rfl]
    have g0:(spC s).toArray[0]? =some (.int .u32 s.num):=by rw[List.getElem?_toArray,hcell];exact spG0 s []
    have g1:(spC s).toArray[1]? =some (.int .u8 s.route):=by rw[List.getElem?_toArray,hcell];exact spG1 s []
    have g2:(spC s).toArray[2]? =some (.int .i64 s.tick):=by rw[List.getElem?_toArray,hcell];exact spG2 s []
    have g3:(spC s).toArray[3]? =some (.int .i64 s.lot):=by rw[List.getElem?_toArray,hcell];exact spG3 s []
    have g4:(spC s).toArray[4]? =some (.int .i64 s.band):=by rw[List.getElem?_toArray,hcell];exact spG4 s []
    have g5:(spC s).toArray[5]? =some (.int .i64 s.limit):=by rw[List.getElem?_toArray,hcell];exact spG5 s []
    have g22:(spC s).toArray[22]? =some (.int .i64 s.credit):=by rw[List.getElem?_toArray,hcell];exact spG22 s []
    have g24:(spC s).toArray[24]? =some (.int .i64 s.first):=by rw[List.getElem?_toArray,hcell];exact spG24 s []
    refine rvS (by simp[-Int.natCast_add,go_sem,b1,g0]<;>first|exact⟨rfl,rfl⟩|exact rfl) ?_
    refine rvS (by simp[-Int.natCast_add,go_sem,b1,g0]<;>first|exact⟨rfl,rfl⟩|exact rfl) ?_
    by_cases hn:s.num=0
    ·refine rvS (v:=.bool false) (by simp[go_sem,hn]<;>first|exact⟨rfl,rfl⟩|exact rfl) ?_
     rw[ifB_bool,if_neg Bool.false_ne_true]
     refine hm _ (by simp[hn])
    have hn' :decide (s.num≠0)=true:=by simpa using hn
    rw[hn']at hm
    refine rvS (v:=.bool true) (by simp[go_sem,hn]<;>first|exact⟨rfl,rfl⟩|exact rfl) ?_
    rw[ifB_bool,if_pos rfl]
    refine rvS (by simp[-Int.natCast_add,go_sem,b1,g1]<;>first|exact⟨rfl,rfl⟩|exact rfl) ?_
    refine rvS (by simp[-Int.natCast_add,go_sem,b1,g1]<;>first|exact⟨rfl,rfl⟩|exact rfl) ?_
    refine rvS (v:=.int .i64 s.route) (w' :=W) (by simp[go_sem,wrapI (n:=s.route) (by omega) (by omega)]) ?_
    refine ca_swithin ?_
    cases h1:amongB s.route 1 8 with
    |false=>rw[ifB_bool,if_neg Bool.false_ne_true];exact hm _ (by rw[h1];simp)
    |true=>
    rw[h1]at hm
    rw[ifB_bool,if_pos rfl]
    refine rvS (by simp[-Int.natCast_add,go_sem,b1,g2]<;>first|exact⟨rfl,rfl⟩|exact rfl) ?_
    refine rvS (by simp[-Int.natCast_add,go_sem,b1,g2]<;>first|exact⟨rfl,rfl⟩|exact rfl) ?_
    refine ca_swithin ?_
    unfold MP at hm
    cases h2:amongB s.tick 1 10000000 with
    |false=>rw[ifB_bool,if_neg Bool.false_ne_true];exact hm _ (by rw[h2];simp)
    |true=>
    rw[h2]at hm
    rw[ifB_bool,if_pos rfl]
    refine rvS (by simp[-Int.natCast_add,go_sem,b1,g3]<;>first|exact⟨rfl,rfl⟩|exact rfl) ?_
    refine rvS (by simp[-Int.natCast_add,go_sem,b1,g3]<;>first|exact⟨rfl,rfl⟩|exact rfl) ?_
    refine ca_swithin ?_
    cases h3:amongB s.lot 1 1000000 with
    |false=>rw[ifB_bool,if_neg Bool.false_ne_true];exact hm _ (by rw[h3];simp)
    |true=>
    rw[h3]at hm
    rw[ifB_bool,if_pos rfl]
    refine rvS (by simp[-Int.natCast_add,go_sem,b1,g4]<;>first|exact⟨rfl,rfl⟩|exact rfl) ?_
    refine rvS (by simp[-Int.natCast_add,go_sem,b1,g4]<;>first|exact⟨rfl,rfl⟩|exact rfl) ?_
    refine ca_swithin ?_
    cases h4:amongB s.band 0 10000000 with
    |false=>rw[ifB_bool,if_neg Bool.false_ne_true];exact hm _ (by rw[h4];simp)
    |true=>
    rw[h4]at hm
    rw[ifB_bool,if_pos rfl]
    refine rvS (by simp[-Int.natCast_add,go_sem,b1,g5]<;>first|exact⟨rfl,rfl⟩|exact rfl) ?_
    refine rvS (by simp[-Int.natCast_add,go_sem,b1,g5]<;>first|exact⟨rfl,rfl⟩|exact rfl) ?_
    refine ca_swithin ?_
    cases h5:amongB s.limit 1 10000000 with
    |false=>rw[ifB_bool,if_neg Bool.false_ne_true];exact hm _ (by rw[h5];simp)
    |true=>
    rw[h5]at hm
    rw[ifB_bool,if_pos rfl]
    refine rvS (by simp[-Int.natCast_add,go_sem,b1,g22]<;>first|exact⟨rfl,rfl⟩|exact rfl) ?_
    refine rvS (by simp[-Int.natCast_add,go_sem,b1,g22]<;>first|exact⟨rfl,rfl⟩|exact rfl) ?_
    refine ca_swithin ?_
    cases h6:amongB s.credit 0 10000000 with
    |false=>rw[ifB_bool,if_neg Bool.false_ne_true];exact hm _ (by rw[h6];simp)
    |true=>
    rw[h6]at hm
    rw[ifB_bool,if_pos rfl]
    refine rvS (by simp[-Int.natCast_add,go_sem,b1,g2]<;>first|exact⟨rfl,rfl⟩|exact rfl) ?_
    refine rvS (by simp[-Int.natCast_add,go_sem,b1,g2]<;>first|exact⟨rfl,rfl⟩|exact rfl) ?_
    refine rvS (by simp[-Int.natCast_add,go_sem,b1,g24]<;>first|exact⟨rfl,rfl⟩|exact rfl) ?_
    refine rvS (by simp[-Int.natCast_add,go_sem,b1,g24]<;>first|exact⟨rfl,rfl⟩|exact rfl) ?_
    have ht:=of_decide_eq_true h2
    refine ca_sprice (by omega) ?_
    exact hm _ (by simp)
end Go.Proofs
namespace Go.Proofs
open Go Go.Vc
attribute [local congr] Ca_congV
theorem spT0(s:Sp):(spC s)[0]? =some (.int .u32 s.num):=rfl
theorem spT2(s:Sp):(spC s)[2]? =some (.int .i64 s.tick):=rfl
theorem boxSp(s:Sp)(w:World):∃w1,(Instr.box 38 (.agg (spC s).toArray)).run Tryz.prog w=.ok (.pointer (some ⟨w.heap.size,0,none⟩)) w1∧hp w1 w.heap.size=some (.cells (spC s).toArray 38 (0,0))∧Mod (λ_=>False) w w1:=
 ⟨w.alloc (.cells (spC s).toArray 38),rfl,by simp[go_sem],(Mod.refl _ w).alloc _⟩
theorem At.all{w:World}{b:Nat}{l:List Value}{T:TypeId}{fz:Nat×Nat}(h:hp w b=some (.cells l.toArray T fz)):At w b 0 l:=⟨_,_,_,h,by simp,by simp⟩
theorem Sp.may_tick{s:Sp}(h:s.may=true):1≤s.tick∧1≤s.lot∧0≤s.band∧1≤s.limit∧s.limit≤10000000∧s.band≤10000000∧s.lot≤1000000∧s.tick≤10000000:=by
 unfold Sp.may amongB MP at h
 simp only[Bool.and_eq_true,decide_eq_true_eq]at h
 omega
theorem ca_isPrice{s:Sp}{n:Int}{w:World}{K:Kont}(hf:s.Fit)(hK:∀w',Mod (λ_=>False) w w' →K (.bool (s.isPrice n)) w'):Ca Tryz.prog 127 #[.agg (spC s).toArray,.int .i64 n] w K:=by
 apply ca127
 unfold F127
 obtain⟨w1,e1,b1,m1⟩:=boxSp s w
 refine rvS e1 ?_
 refine rx_bigS (spC s) 24 aSp nSp (spC_len s) (At.all b1) ?_
 refine ca_smayS hf λw2 m2=>?_
 have b2:=m2.hpk b1 id
 unfold Sp.isPrice at hK
 cases hm:s.may with
 |false=>
  rw[hm]at hK
  rw[ifB_bool,if_neg Bool.false_ne_true]
  exact hK _ (m1.trans m2)
 |true=>
  rw[hm]at hK
  rw[ifB_bool,if_pos rfl]
  refine rvS (by simp[-Int.natCast_add,go_sem,b2]<;>first|exact⟨rfl,rfl⟩|exact rfl) ?_
  refine rvS (by simp[-Int.natCast_add,go_sem,b2,spT2]<;>first|exact⟨rfl,rfl⟩|exact rfl) ?_
  refine ca_sprice (by have:=Sp.may_tick hm;omega) ?_
  exact hK _ (m1.trans m2)
structure Ct where
 spec:Sp
 st:Int
 price:Int
 deriving DecidableEq
def Ct.Fit(k:Ct):Prop:=k.spec.Fit∧(0≤k.st∧k.st<256)∧R64' k.price
def ctC(k:Ct):List Value:=spC k.spec++[.int .u8 k.st,.int .i64 k.price]
theorem ctC_len(k:Ct):(ctC k).length=27:=by simp[ctC,spC_len]
theorem ctC_one(k:Ct):(ctC k).all (·.oneCell')=true:=by
 rw[ctC,List.all_append,spC_one];rfl
theorem ctG25(k:Ct)(post:List Value):(ctC k++post)[25]? =some (.int .u8 k.st):=by
 rw[List.getElem?_append_left (by rw[ctC_len];omega),ctC,List.getElem?_append_right (by rw[spC_len];omega),spC_len];rfl
theorem ctG26(k:Ct)(post:List Value):(ctC k++post)[26]? =some (.int .i64 k.price):=by
 rw[List.getElem?_append_left (by rw[ctC_len];omega),ctC,List.getElem?_append_right (by rw[spC_len];omega),spC_len];rfl
end Go.Proofs

namespace Go.Vc
open Go
theorem rx_copyK{P:Program}{dT sT ty e:TypeId}{sz:Nat}{w:World}{K:Kont}{g o dLen dCap sLen k:Nat}{src:Value}{all:List Value}{cur:Array Value}{t:TypeId}
  (hu:P.underlying dT=some (.slice e))(hs:P.cellsOf e=sz+1)(hg:w.heap[g]? =some (.cells cur t (0,0)))(hsrc:Rd w (sz+1) src sLen all)(hk:k=Nat.min sLen dLen)
  (hfit:o+k*(sz+1)≤cur.size)(h1:all.all (·.oneCell')=true)(hK:K (.int .i64 k) (w.setRow g (lay cur.toList o (all.take (k*(sz+1)))).toArray)):
  rx P (xCopy #[dT,sT] ty [.slice (some ⟨g,o,none⟩) dLen dCap,src]) w K:=by
 obtain⟨i,hi,hsz⟩:=info_of_cells (n:=sz) hs
 have hl:all.length=sLen*(sz+1):=hsrc.1
 have hks:k≤sLen:=by rw[hk];exact Nat.min_le_left _ _
 have hkm:k*(sz+1)≤sLen*(sz+1):=Nat.mul_le_mul_right _ hks
 have hkl:(all.take (k*(sz+1))).length=k*(sz+1):=by rw[List.length_take,hl];omega
 have h1' :∀v∈all.take (k*(sz+1)),v.oneCell' =true:=λv hv=>oneAll_mem h1 v (List.mem_of_mem_take hv)
 have hst:=run_storeCells_at P g o t (all.take (k*(sz+1))) 0 cur w hg (by rw[hkl];simpa using hfit) h1'
 simp only[Nat.add_zero]at hst
 have hload:(Builtin.firstCells (sz+1) k src).run P w=.ok (all.take (k*(sz+1))).toArray w:=by
  obtain⟨_,⟨h0,a,c,rfl⟩|⟨b,off,cap,rfl,hc,hh⟩⟩:=hsrc
  ·have hk0:k=0:=by omega
   subst hk0
   cases a<;>simp[Builtin.firstCells,loadCells,loadCellsFrom]
  ·have:=(hh.sub 0 (k*(sz+1)) (by omega)).loads (P:=P)
   simp only[List.drop_zero,Nat.add_zero,hkl]at this
   simpa [Builtin.firstCells]using this
 refine rx_of (v:=goInt (Nat.min sLen dLen)) (w' :=w.setRow g (lay cur.toList o (all.take (k*(sz+1)))).toArray) ?_ (by rw[←hk];exact hK)
 rw[hk]at hload hst⊢
 simp[xCopy,Builtin.copy_,run_underlying hu,hsrc.lenOf,sizeOf,typeInfo,hi,hsz,Result.andThen,hload,hst,lay]
theorem rx_appendZK{P:Program}{t u ty e:TypeId}{ku:IntKind}{sz by_:Nat}{w:World}{K:Kont}{s:Value}{n m:Nat}{cs:List Value}
  (ht:P.underlying t=some (.slice e))(hu:P.underlying u=some (.int ku))(hE:ElemT P e (sz+1) by_)
  (hs:Own w e (sz+1) s n cs)(hb:(n+m)*by_≤140737488355328)
  (hK:∀s' w' z,z.length=m*(sz+1)→z.all (·.oneCell')=true→Own w' e (sz+1) s' (n+m) (cs++z)→Mod (inSl s) w w' →(∀b,inSl s' b→inSl s b∨w.heap.size≤b)→(∀a c,s=.slice a n c→c<n+m→Mod (λ_=>False) w w' ∧∀b,inSl s' b→w.heap.size≤b)→K s' w'):
  rx P (xAppend #[t,u] ty [s,.int .i64 (m:Int)]) w K:=by
 obtain⟨⟨i,z,hi,hz,hsz,hby,hzs,hz1⟩,hpos,hbpos⟩:=hE
 have hneed:n+m≤140737488355328:=Nat.le_trans (Nat.le_mul_of_pos_right _ hbpos) hb
 have hmb:m*by_≤140737488355328:=Nat.le_trans (Nat.mul_le_mul_right _ (by omega)) hb
 have hlen:cs.length=n*(sz+1):=hs.1
 have hl:(Builtin.zeroCells z.cells m).toList.length=m*(sz+1):=by rw[zeroCells_len,hzs]
 have h1:=zeroCells_all hz1 (by rw[hzs];exact hpos) m
 have hwr:IntKind.i64.wrap (m:Int)=(m:Int):=by rw[IntKind.wrap_i64];omega
 have hneg:¬(m:Int)<0:=by omega
 have h48' :¬(281474976710656:Int)<(m:Int)*(i.bytes:Int):=by
  rw[hby,←Int.natCast_mul]
  omega
 obtain⟨base,cap,hsv,hcap,hrow⟩:∃base cap,s=.slice base n cap∧n≤cap∧((base=none∧n=0∧cap=0∧cs=[])∨∃b rest,base=some ⟨b,0,none⟩∧w.heap[b]? =some (.cells (cs++rest).toArray e (0,0))∧rest.length=(cap - n)*(sz+1)∧rest.all (·.oneCell')=true):=by
  rcases hs.2 with⟨rfl,rfl⟩|⟨b,cap,rest,rfl,hc,hh,hr⟩
  ·exact⟨none,0,rfl,Nat.le_refl _,.inl ⟨rfl,rfl,rfl,by simpa using hlen⟩⟩
  ·exact⟨_,cap,rfl,hc,.inr ⟨b,rest,rfl,hh,hr⟩⟩
 subst hsv
 obtain⟨L,hL⟩:∃L:Int,(m:Int)=L:=⟨_,rfl⟩
 rw[hL]
 rw[hL]at hwr
 have hwr:IntKind.i64.wrap L=(m:Int):=hwr.trans hL.symm
 clear hL
 generalize hZ:Builtin.zeroCells z.cells m=Z at hl h1
 by_cases h0:m=0
 ·subst h0
  have hZ0:Z= #[]:=Array.eq_empty_of_size_eq_zero (by rw[←Array.length_toList,hl];simp)
  refine rx_of (v:=.slice base n cap) (w' :=w) ?_ (hK _ _ [] (by simp) rfl (by simpa using hs) (Mod.refl _ _) (λb hb=>.inl hb) λa c he hlt=>by injection he with e1 e2 e3;omega)
  rcases hrow with⟨rfl,rfl,rfl,rfl⟩|⟨b,rest,rfl,hh,hrl,hr1⟩
  ·simp[xAppend,Builtin.append_,run_underlying ht,sizeOf,typeInfo,hi,hsz,run_underlying hu,Result.andThen,asInt,asIntOf,hwr]
  ·have hst:=run_storeCells_at P b (n*(sz+1)) e [] 0 (cs++rest).toArray w hh (by simp[hlen]) (by simp)
   simp only[Nat.add_zero]at hst
   have hself:=setRow_self w b (cs++rest).toArray e (0,0) hh
   have e0:(⟨b,0,none⟩:Addr).add (n*(sz+1))=⟨b,n*(sz+1),none⟩:=by rw[addr_add];simp
   have hnc:¬cap<n:=by omega
   simp at hst
   simp[xAppend,Builtin.append_,run_underlying ht,sizeOf,typeInfo,hi,hsz,run_underlying hu,Result.andThen,asInt,asIntOf,hwr,hcap,e0,hst]
   simpa using hself
 have h0' :¬m*(sz+1)=0:=by
  rw[Nat.mul_eq_zero];omega
 by_cases hroom:n+m≤cap
 ·rcases hrow with⟨rfl,rfl,rfl,rfl⟩|⟨b,rest,rfl,hh,hrl,hr1⟩
  ·omega
  ·have hst:=run_storeCells_at P b (n*(sz+1)) e Z.toList 0 (cs++rest).toArray w hh (by
    simp only[List.size_toArray,List.length_append,hlen,hrl,hl]
    have:=Nat.mul_le_mul_right (sz+1) hroom
    rw[Nat.add_mul]at this
    rw[Nat.sub_mul]
    omega) (oneAll_mem h1)
   simp only[Nat.add_zero]at hst
   have hrow2:(cs++rest).take (n*(sz+1))++Z.toList++(cs++rest).drop (n*(sz+1)+Z.toList.length)=(cs++Z.toList)++rest.drop Z.toList.length:=by
    rw[←hlen]
    simp[List.append_assoc]
   refine rx_of (v:=.slice (some ⟨b,0,none⟩) (n+m) cap) (w' :=w.setRow b ((cs++Z.toList)++rest.drop Z.toList.length).toArray) ?_ (hK _ _ Z.toList hl h1 ⟨?_,.inr ⟨b,cap,rest.drop Z.toList.length,rfl,hroom,?_,?_,?_⟩⟩ ?_ ?_ λa c he hlt=>by injection he with e1 e2 e3;omega)
   ·simp only[hrow2]at hst
    have e0:(⟨b,0,none⟩:Addr).add (n*(sz+1))=⟨b,n*(sz+1),none⟩:=by rw[addr_add];simp
    simp[xAppend,Builtin.append_,run_underlying ht,sizeOf,typeInfo,zeroValue,hz,hi,hsz,run_underlying hu,Result.andThen,asInt,asIntOf,hwr,hroom,e0,hneg,h48',h0,hZ,hst]
    have hst' :=hst
    simp at hst'
    rw[if_neg h0']
    simp only
    rw[hst']
   ·rw[List.length_append,hlen,hl,Nat.add_mul]
   ·rw[heap_setRow,if_pos rfl,hh]
   ·rw[List.length_drop,hrl,hl,←Nat.sub_mul];congr 1;omega
   ·exact List.all_eq_true.2 λv hv=>List.all_eq_true.1 hr1 v (List.mem_of_mem_drop hv)
   ·exact(Mod.refl (inSl (.slice (some ⟨b,0,none⟩) n cap)) w).setRow (.inl (show inSl _ b from rfl)) _
   ·intro b' hb';exact .inl hb'
 ·have hfit:=growslice_fits (old:=cap) (need:=n+m) (bytes:=by_) (by omega) hb
  have h48:¬(281474976710656<Builtin.nextslicecap (n+m) cap*i.bytes):=by rw[hby];omega
  have h63:¬(9223372036854775807<((n:Int)+(m:Int))):=by omega
  have hcapge:n+m≤grownCap w (n+m) cap e:=by simp[grownCap,Question.cut]
  have hrs:Rd w.drew (sz+1) (.slice base n cap) n cs:=hs.rd.keep λ_ _=>rfl
  have hf1:=hrs.first (P:=P) hpos
  refine rx_of (v:=.slice (some ⟨w.heap.size,0,none⟩) (n+m) (grownCap w (n+m) cap e))
   (w' :=w.drew.alloc (.cells (cs.toArray++Z++Builtin.zeroCells z.cells (grownCap w (n+m) cap e - (n+m))) e)) ?_ (hK _ _ Z.toList hl h1 ⟨?_,.inr ⟨w.heap.size,_,(Builtin.zeroCells z.cells (grownCap w (n+m) cap e - (n+m))).toList,rfl,hcapge,?_,?_,?_⟩⟩ ?_ ?_ λa c he hlt=>⟨((Mod.refl _ w).drew).alloc _,λb hb=>by cases hb;exact Nat.le_refl _⟩)
  ·simp[xAppend,Builtin.append_,run_underlying ht,sizeOf,typeInfo,zeroValue,hi,hz,hsz,run_underlying hu,Result.andThen,asInt,asIntOf,hwr,hneg,h48',h0,hroom,h63,h48,Question.forced,hf1,newRow,grownCap,hZ]
   rw[if_neg h0']
   rfl
  ·rw[List.length_append,hlen,hl,Nat.add_mul]
  ·rw[heap_alloc,if_pos (show w.heap.size=w.drew.heap.size from rfl)]
   simp
  ·rw[zeroCells_len,hzs]
  ·exact zeroCells_all hz1 (by rw[hzs];exact hpos) _
  ·exact((Mod.refl _ w).drew).alloc _
  ·rintro b' hb'
   cases hb'
   exact .inr (Nat.le_refl _)
section
variable{α:Type}{f:α→List Value}{S:Nat}
theorem flT(hf:∀x,(f x).length=S):∀(l:List α) (i:Nat),(l.flatMap f).take (i*S)=(l.take i).flatMap f
 | [],i=>by simp
 |x::l,0=>by simp
 |x::l,i+1=>by
  have e:(i+1)*S=(f x).length+i*S:=by rw[hf x,Nat.add_mul];omega
  rw[List.flatMap_cons,List.take_succ_cons,List.flatMap_cons,e,List.take_length_add_append,flT hf l i]
theorem flD(hf:∀x,(f x).length=S):∀(l:List α) (i:Nat),(l.flatMap f).drop (i*S)=(l.drop i).flatMap f
 | [],i=>by simp
 |x::l,0=>by simp
 |x::l,i+1=>by
  have e:(i+1)*S=(f x).length+i*S:=by rw[hf x,Nat.add_mul];omega
  rw[List.flatMap_cons,List.drop_succ_cons,e,←List.drop_drop,List.drop_left,flD hf l i]
theorem flL(hf:∀x,(f x).length=S)(l:List α):(l.flatMap f).length=l.length*S:=flat_len f S l λx _=>hf x
theorem flO(hf:∀x,(f x).all (·.oneCell')=true)(l:List α):(l.flatMap f).all (·.oneCell')=true:=by
 rw[List.all_flatMap,List.all_eq_true]
 exact λx _=>hf x
theorem Rd.item{w:World}{v:Value}{n:Nat}{l:List α}(hf:∀x,(f x).length=S)(h:Rd w S v n (l.flatMap f)){i:Nat}(hi:i<l.length)(hn:n=l.length):
  ∃b off cap,v=.slice (some ⟨b,off,none⟩) n cap∧n≤cap∧At w b (off+i*S) (f l[i]):=by
 obtain⟨hl,⟨h0,_⟩|⟨b,off,cap,rfl,hc,hA⟩⟩:=h
 ·omega
 ·refine⟨b,off,cap,rfl,hc,?_⟩
  have hm:(i+1)*S≤l.length*S:=Nat.mul_le_mul_right S hi
  rw[Nat.add_mul]at hm
  have:=hA.sub (i*S) S (by rw[flL hf];omega)
  rwa[flat_get f S l i (λx _=>hf x) hi]at this
end
theorem Own.pos{w:World}{e:TypeId}{sz:Nat}{v:Value}{n:Nat}{cs:List Value}(h:Own w e sz v n cs)(hn:0<n):
  ∃b cap rest,v=.slice (some ⟨b,0,none⟩) n cap∧n≤cap∧w.heap[b]? =some (.cells (cs++rest).toArray e (0,0))∧rest.length=(cap - n)*sz∧(rest.all (·.oneCell')=true):=by
 obtain⟨hl,⟨rfl,rfl⟩|h⟩:=h
 ·omega
 ·exact h
theorem slHi{P:Program}{t e:TypeId}{b n cap hi:Nat}{sz:Nat}{kh:IntKind}(hu:P.underlying t=some (.slice e))(hc:P.cellsOf e=sz+1)(h:hi≤cap)(h0:0<cap)(W:World):
  (Instr.sliceAt t (.slice (some ⟨b,0,none⟩) n cap) none (some (.int kh (hi:Int))) none).run P W=.ok (.slice (some ⟨b,0,none⟩) hi cap) W:=by
 obtain⟨hE,he⟩:=elem_slice hu
 rw[run_sliceAt_slice W t _ _ _ _ hE,run_slice_h W t _ n cap hE kh hi (by omega) (by omega),he,run_sizeOf hc]
 simp only[Result.andThen,sliced,Int.toNat_natCast,Nat.zero_mul,Nat.sub_zero]
 rw[if_neg (by omega),Option.map_some,addr_add]
theorem slLo{P:Program}{t e:TypeId}{b n cap lo:Nat}{sz:Nat}{kl:IntKind}(hu:P.underlying t=some (.slice e))(hc:P.cellsOf e=sz+1)(h1:lo≤n)(h2:n≤cap)(h3:lo<cap)(W:World):
  (Instr.sliceAt t (.slice (some ⟨b,0,none⟩) n cap) (some (.int kl (lo:Int))) none none).run P W=.ok (.slice (some ⟨b,lo*(sz+1),none⟩) (n - lo) (cap - lo)) W:=by
 obtain⟨hE,he⟩:=elem_slice hu
 rw[run_sliceAt_slice W t _ _ _ _ hE,run_slice_l W t _ n cap hE kl lo (by omega) (by omega),he,run_sizeOf hc]
 simp only[Result.andThen,sliced,Int.toNat_natCast]
 rw[if_neg (by omega),Option.map_some,addr_add,Nat.zero_add]
end Go.Vc
namespace Go.Proofs
open Go Go.Vc
attribute [local congr] Ca_congV
structure Od where
 num:Int
 acct:Int
 buy:Bool
 price:Int
 left:Int
 deriving DecidableEq
def odC(o:Od):List Value:=[.int .u64 o.num,.int .u32 o.acct,.bool o.buy,.int .i64 o.price,.int .i64 o.left]
theorem odC_len(o:Od):(odC o).length=5:=rfl
theorem odC_one(o:Od):(odC o).all (·.oneCell')=true:=rfl
def Od.Fit(o:Od):Prop:=U64' o.num∧U32' o.acct∧R64' o.price∧R64' o.left
abbrev tOd:TypeId:=117
abbrev tOds:TypeId:=133
theorem uOds:Tryz.prog.underlying tOds=some (.slice tOd):=by kernel_rfl
theorem nOd:Tryz.prog.cellsOf tOd=4+1:=by kernel_rfl
theorem eOd:elemOk Tryz.prog tOd 5 32=true:=by kernel_rfl
abbrev OdS(w:World)(s:Value)(l:List Od):Prop:=Own w tOd 5 s l.length (l.flatMap odC)
theorem ca_cloneOd{w:World}{K:Kont}{s:Value}{l:List Od}(h:Rd w 5 s l.length (l.flatMap odC))(hn:l.length≤1000000)
  (hK:∀s' w',OdS w' s' l→Mod (λ_=>False) w w' →(∀b,inSl s' b→w.heap.size≤b)→K s' w'):Ca Tryz.prog 111 #[s] w K:=by
 apply ca111
 unfold F111
 obtain⟨a,c,hs⟩:=h.isSl
 by_cases h0:a=none
 ·subst h0
  refine rvS (v:=.bool true) (w' :=w) (by rw[hs];simp[go_sem]) ?_
  rw[ifB_bool,if_pos rfl]
  have hl:l=[]:=by
   obtain⟨-,⟨hn0,_⟩|⟨b,off,cap,he,_⟩⟩:=h
   ·exact List.eq_nil_of_length_eq_zero hn0
   ·rw[hs]at he;cases he
  subst hl
  exact hK _ _ (Own.nil _ _ _) (Mod.refl _ _) λb hb=>by cases hb
 ·refine rvS (v:=.bool false) (w' :=w) (by rw[hs];cases a;exact absurd rfl h0;simp[go_sem]) ?_
  rw[ifB_bool,if_neg Bool.false_ne_true]
  exact dupV uOds (elemT_of eOd) h (flO odC_one l) (by omega) hK
theorem shp{w:World}{b:Nat}{C:Array Value}{T:TypeId}{fz:Nat×Nat}(h:w.heap[b]? =some (.cells C T fz)):w.shape? b=some (T,C.size):=by simp[World.shape?,h]
theorem notFz{w:World}{b:Nat}{C:Array Value}{T:TypeId}(h:w.heap[b]? =some (.cells C T (0,0)))(i:Nat):w.frozen? ⟨b,i,none⟩=false:=by simp[go_sem,hp_of h]
def idxI{α:Type}(l:List α)(p:α→Bool):Int:=match l.findIdx? p with|some i=>(i:Int)|none=> -1
end Go.Proofs
namespace Go.Proofs
open Go Go.Vc
attribute [local congr] Ca_congV
def Od.may(o:Od):Bool:=decide (o.num≠0)&& decide (o.acct≠0)&& amongB o.price 1 MP&& amongB o.left 1 1000000
def odV(o:Od):Value:=.agg (odC o).toArray
def zOd:Od:=⟨0,0,false,0,0⟩
structure SideQ(w:World)(s:Nat)(F:Nat→Prop)(buy:Bool)(l:List Od):Prop where
 out:∃sl,hp w s=some (.cells #[.bool true,.bool buy,sl] 320 (0,0))∧OdS w sl l∧(∀b,F b↔b=s∨inSl sl b)∧¬inSl sl s
 len:l.length≤100
 may:∀o∈l,o.may=true∧o.buy=buy∧o.Fit
theorem SideQ.mod{F G:Nat→Prop}{w w' :World}{s:Nat}{buy:Bool}{l:List Od}(h:SideQ w s F buy l)(hm:Mod G w w')(hd:∀b,F b→¬G b):SideQ w' s F buy l:=by
 obtain⟨⟨sl,h1,h2,h3,h4⟩,h5,h6⟩:=h
 exact⟨⟨sl,hm.hpk h1 (hd s ((h3 s).2 (.inl rfl))),h2.mod hm λb hb=>hd b ((h3 b).2 (.inr hb)),h3,h4⟩,h5,h6⟩
theorem SideQ.lt{F:Nat→Prop}{w:World}{s:Nat}{buy:Bool}{l:List Od}(h:SideQ w s F buy l){b:Nat}(hb:F b):b<w.heap.size:=by
 obtain⟨⟨sl,h1,h2,h3,h4⟩,h5,h6⟩:=h
 rcases(h3 b).1 hb with rfl|hb
 ·exact lt_of_heap h1
 ·exact h2.lt hb
def sptr(s:Nat):Value:=.pointer (some ⟨s,0,none⟩)
theorem ca_sdnew{w:World}{K:Kont}{buy:Bool}(hK:∀s F w',SideQ w' s F buy []→Mod (λ_=>False) w w' →(∀b,F b→w.heap.size≤b)→K (sptr s) w'):Ca Tryz.prog 133 #[.bool buy] w K:=by
 apply ca133
 unfold F133
 simp[go_sem]
 refine hK _ (λb=>b=w.heap.size) _ ⟨⟨.slice none 0 0,by simp[go_sem],Own.nil _ _ _,λb=>⟨λh=>.inl h,λh=>by rcases h with h|h;exact h;cases h⟩,λh=>by cases h⟩,by simp,λo h=>by cases h⟩ ((Mod.refl _ w).alloc _) λb hb=>by rw[hb];exact Nat.le_refl _
theorem ca_sready{w:World}{K:Kont}{s:Nat}{F:Nat→Prop}{buy:Bool}{l:List Od}(h:SideQ w s F buy l)(hK:K (.bool true) w):Ca Tryz.prog 237 #[sptr s] w K:=by
 obtain⟨⟨sl,h1,h2,h3,h4⟩,h5,h6⟩:=h
 apply ca237
 unfold F237
 unfold sptr
 refine rvS (v:=.bool true) (by simp[go_sem]<;>first|exact⟨rfl,rfl⟩|exact rfl) ?_
 rw[ifB_bool,if_pos rfl]
 simp only[nilK_ptr]
 refine rvS (by simp[-Int.natCast_add,go_sem,h1]<;>first|exact⟨rfl,rfl⟩|exact rfl) ?_
 refine rvS (by simp[-Int.natCast_add,go_sem,h1]<;>first|exact⟨rfl,rfl⟩|exact rfl) ?_
 exact hK
theorem stOd{W:World}{p off:Nat}{C:Array Value}{T:TypeId}{o:Od}(h:hp W p=some (.cells C T (0,0)))(hs:off+5≤C.size):
  (Instr.storeAt tOd (.pointer (some ⟨p,off,none⟩)) (odV o)).run Tryz.prog W=.ok () (W.setRow p (lay C.toList off (odC o)).toArray):=by
 have h1:=run_bigU (P:=Tryz.prog) (t:=tOd) (w:=W) (b:=p) (off:=off) (cs:=odC o) (n:=4) nOd rfl h hs (odC_one o)
 exact h1
theorem ldOd{W:World}{p off:Nat}{o:Od}(h:At W p off (odC o)):(Instr.loadAt tOd (.pointer (some ⟨p,off,none⟩))).run Tryz.prog W=.ok (odV o) W:=
 run_bigS (P:=Tryz.prog) (t:=tOd) (by kernel_rfl) nOd rfl h
theorem newOd(w:World):∃w1,(Instr.alloc tOd true (.tuple #[])).run Tryz.prog w=.ok (.pointer (some ⟨w.heap.size,0,none⟩)) w1∧hp w1 w.heap.size=some (.cells (odC zOd).toArray tOd (0,0))∧Mod (λ_=>False) w w1:=
 ⟨w.alloc (.cells (odC zOd).toArray tOd),by simp[go_sem,odC,zOd],by simp[go_sem],(Mod.refl _ w).alloc _⟩
theorem setOd{W:World}{p:Nat}{o o' :Od}{T:TypeId}(h:hp W p=some (.cells (odC o).toArray T (0,0))):
  ∃W',(Instr.storeAt tOd (.pointer (some ⟨p,0,none⟩)) (odV o')).run Tryz.prog W=.ok () W' ∧hp W' p=some (.cells (odC o').toArray T (0,0))∧Mod (λb=>b=p) W W' :=by
 refine⟨_,stOd h (Nat.le_refl _),?_,(Mod.refl (λb=>b=p) W).setRow (.inl rfl) _⟩
 show(W.setRow p _).heap[p]? =_
 have h' :W.heap[p]? =some (.cells (odC o).toArray T (0,0)):=h
 rw[heap_setRow,if_pos rfl,h',lay_all (by rfl)]
end Go.Proofs
namespace Go.Proofs
open Go Go.Vc
attribute [local congr] Ca_congV
theorem OdS.load{w:World}{sl:Value}{l:List Od}(h:OdS w sl l){i:Nat}(hi:i<l.length):
  ∃b cap,sl=.slice (some ⟨b,0,none⟩) l.length cap∧(∀k:IntKind,(Instr.indexAt tOds sl (.int k (i:Int))).run Tryz.prog w=.ok (.pointer (some ⟨b,i*5,none⟩)) w)∧(Instr.loadAt tOd (.pointer (some ⟨b,i*5,none⟩))).run Tryz.prog w=.ok (odV l[i]) w:=by
 obtain⟨b,cap,rest,rfl,hc,hb,hr⟩:=h.pos (by omega)
 have hA0:At w b 0 (l.flatMap odC++rest):=At.all (hp_of hb)
 have hl:=h.1
 have h1:=hA0.sub (i*5) 5 (by rw[List.length_append,hl];omega)
 rw[List.drop_append_of_le_length (by rw[hl];omega),List.take_append_of_le_length (by rw[List.length_drop,hl];omega),flat_get odC 5 l i (λx _=>odC_len x) hi,Nat.zero_add]at h1
 refine⟨b,cap,rfl,λk=>?_,ldOd h1⟩
 simp[go_sem,hi,addr_add,uOds]
theorem ca_scopy{w:World}{K:Kont}{s:Nat}{F:Nat→Prop}{buy:Bool}{l:List Od}(h:SideQ w s F buy l)
  (hK:∀s' F' w',SideQ w' s' F' buy l→Mod (λ_=>False) w w' →(∀b,F' b→w.heap.size≤b)→K (sptr s') w'):Ca Tryz.prog 193 #[sptr s] w K:=by
 obtain⟨⟨sl,c1,c2,c3,c4⟩,c5,c6⟩:=id h
 apply ca193
 unfold F193
 refine ca_sready h ?_
 refine rvS (v:=.bool false) (by simp[go_sem]<;>first|exact⟨rfl,rfl⟩|exact rfl) ?_
 rw[ifB_bool,if_neg Bool.false_ne_true]
 have md:Mod (λ_=>False) w w.drew:=(Mod.refl _ w).drew
 have d1:=md.hpk c1 id
 simp only[sptr,nilK_ptr]
 refine rdPS (λ_=>by simp[-Int.natCast_add,go_sem]<;>first|exact⟨rfl,rfl⟩|exact rfl) ?_
 refine rdWS (by simp[-Int.natCast_add,go_sem,d1]<;>first|exact⟨rfl,rfl⟩|exact rfl) ?_
 refine rdPS (λ_=>by simp[-Int.natCast_add,go_sem]<;>first|exact⟨rfl,rfl⟩|exact rfl) ?_
 refine rdWS (by simp[-Int.natCast_add,go_sem,d1]<;>first|exact⟨rfl,rfl⟩|exact rfl) ?_
 refine ca_cloneOd (l:=l) (c2.mod md λ_ _ h=>h).rd (by omega) λs2 w2 o2 m2 n2=>?_
 have M2:=md.trans m2
 have d2:=m2.hpk d1 id
 refine⟨by simp[go_sem,d2],?_⟩
 obtain⟨sa,sc,hs2,-⟩:=o2.isSl
 refine rdPS (v:=.agg #[.bool true,.bool buy,s2]) (λW=>by rw[hs2];simp[go_sem]) ?_
 have m3:Mod (λ_=>False) w2 (w2.alloc (.cells #[.bool true,.bool buy,s2] 320)):=(Mod.refl _ w2).alloc _
 refine rvS (v:=sptr w2.heap.size) (w' :=w2.alloc (.cells #[.bool true,.bool buy,s2] 320)) rfl ?_
 have hsz:=M2.size
 refine hK w2.heap.size (λb=>b=w2.heap.size∨inSl s2 b) _ ⟨⟨s2,by simp[go_sem],o2.mod m3 λ_ _ h=>h,λb=>Iff.rfl,λhb=>?_⟩,c5,c6⟩ (M2.trans m3) λb hb=>?_
 ·have:=o2.lt hb
  omega
 ·rcases hb with rfl|hb
  ·exact hsz
  ·exact n2 b hb
end Go.Proofs


namespace Go.Vc
open Go Go.Shelf Go.RowKit Go.Lib Go.Sort Go.Proofs
theorem callFunc_enter{P:Program}(hP:NoNum P=true){g:FuncId}(hb:∃fn,P.funcs[g]? =some fn∧fn.body.isSome=true)(args:Array Value)(w:World):(callFunc g args).run P w=.ok (.enter g args) w:=by
 obtain⟨fn,hf,hb⟩:=hb
 have hname:(fn.name== "runtime.NumGoroutine")=false:=by
  have:=(Array.all_eq_true'.1 hP) fn (Array.mem_of_getElem? hf)
  simpa using this
 have hname' :¬fn.name= "runtime.NumGoroutine" :=by simpa using hname
 have hnone' :¬fn.body=none:=by intro hh;rw[hh]at hb;exact absurd hb (by simp)
 unfold callFunc
 simp[Sem.run_bind,Result.andThen,hf,hname',hnone']
theorem flatK_toList{α:Type} [Inhabited α](enc:α→List Value)(k:Nat)(hk0:0<k)(hk:∀x,(enc x).length=k)(d:Array α):(flatK enc k d).toList=d.toList.flatMap enc:=by
 have hl:(d.toList.flatMap enc).length=d.size*k:=by rw[flat_len enc k _ λx _=>hk x];simp
 apply List.ext_getElem?
 intro t
 by_cases ht:t<d.size*k
 ·have h1:(flatK enc k d).toList[t]? =some (flatK enc k d)[t]! :=by
   rw[Array.getElem?_toList,Array.getElem?_eq_getElem (by simpa using ht),getElem!_pos _ t (by simpa using ht)]
  rw[h1,get_flatK enc k d t ht]
  have hi:t / k<d.size:=Nat.div_lt_of_lt_mul (by rw[Nat.mul_comm];exact ht)
  have hj:t%k<k:=Nat.mod_lt _ hk0
  have h2:=flat_get enc k d.toList (t / k) (λx _=>hk x) (by simpa using hi)
  have h3:(d.toList.flatMap enc)[t]? =((d.toList.flatMap enc).drop (t / k*k) |>.take k)[t%k]? :=by
   rw[List.getElem?_take,if_pos hj,List.getElem?_drop,Nat.div_add_mod']
  rw[h3,h2]
  have h4:d[t / k]! =d.toList[t / k]'(by simpa using hi):=by
   rw[getElem!_pos d _ hi];simp
  rw[h4,getElem!_pos _ _ (by rw[hk];exact hj),List.getElem?_eq_getElem (by rw[hk];exact hj)]
 ·rw[List.getElem?_eq_none (by simp;omega),List.getElem?_eq_none (by omega)]
theorem putCells_row(F rest cs:List Value)(h:F.length=cs.length):putCells id 0 F.toArray (cs++rest).toArray=(F++rest).toArray:=by
 apply Array.ext_getElem?
 intro t
 simp only[putCells,Array.getElem?_mapIdx,List.getElem?_toArray,List.size_toArray,Nat.zero_le,true_and,Nat.zero_add,Nat.sub_zero,id]
 by_cases ht:t<F.length
 ·rw[List.getElem?_append_left (by omega),List.getElem?_append_left ht,List.getElem?_eq_getElem (show t<cs.length by omega),Option.map_some,if_pos ht,List.getElem?_eq_getElem ht]
  rw[getElem!_pos _ t (by simpa using ht)]
  simp
 ·rw[List.getElem?_append_right (by omega),List.getElem?_append_right (by omega),h]
  cases rest[t - cs.length]? with
  |none=>rfl
  |some v=>rw[Option.map_some,if_neg (by omega)]
section
variable{P:Program}{ρ:Ren}{α:Type} [Inhabited α]
theorem ca_sortK(hP:NoNum P=true)(L:SlLaysF0.n6 P ρ)(k:Nat)(aE:isAggT P (ρ.t 24)=true)(zE:P.cellsOf (ρ.t 24)=k+1)(enc:α→List Value)(hk:∀x,(enc x).length=k+1)(h1:∀x,(enc x).all (·.oneCell')=true)
  (cf:α→α→Int)(hO:SWO (ltOf cf))(g:Nat)(hcl:∀(x y:α) (W:World),Ca P g #[.agg (enc x).toArray,.agg (enc y).toArray] W λv w' =>v=.int .i64 (cf x y)∧∃q os,w' =grow (W.drewN q) os)
  {e:TypeId}{w:World}{sl:Value}{n:Nat}{d:List α}{K:Kont}(ho:Own w e (k+1) sl n (d.flatMap enc))(hn:n<4611686018427387904)
  (hK:∀(w' :World) (d' :List α),Own w' e (k+1) sl n (d'.flatMap enc)→d'.Perm d→d'.Pairwise (λx y=>ltOf cf y x=false)→Mod (inSl sl) w w' →K (.tuple #[]) w'):
  Ca P (ρ.f 6) #[sl,.func (.func g) #[] #[]] w K:=by
 have hln:d.length=n:=by
  have:=ho.1
  rw[flat_len enc (k+1) d λx _=>hk x]at this
  exact Nat.eq_of_mul_eq_mul_right (Nat.succ_pos k) this
 obtain⟨hl,⟨rfl,rfl⟩|⟨b,cap,rest,rfl,hc,hh,hr,hr1⟩⟩:=ho
 ·have hd:d=[]:=List.length_eq_zero_iff.1 hln
  subst hd
  have:=AnyF.slices_SortFunc_none L none 0 (.func (.func g) #[] #[]) w
  exact⟨Calls.mono this λe w' ⟨he,hw⟩=>⟨_,he,by subst hw;exact hK _ [] (Own.nil ..) (List.Perm.refl _) List.Pairwise.nil (Mod.refl _ _)⟩⟩
 ·have hb:b<w.heap.size:=lt_of_heap hh
  have heg:=callFunc_enter hP (hcl default default w).bodied
  have hH:HoldsK enc (k+1) w b 0 d.toArray:=by
   intro j hj
   rw[size_flatK]at hj
   have hF:(flatK enc (k+1) d.toArray)[j]! =(d.flatMap enc)[j]'(by rw[hl,←hln];simpa using hj):=by
    rw[getElem!_pos _ j (by rw[size_flatK];exact hj),←Array.getElem_toList]
    congr 1
    exact flatK_toList enc (k+1) (Nat.succ_pos k) hk d.toArray
   have hj' :j<(d.flatMap enc).length:=by rw[hl,←hln];simpa using hj
   constructor
   ·simp only[World.cell?,hh,Nat.zero_add]
    rw[hF]
    simp[List.getElem?_append_left hj']
   ·simp[World.frozen?,hh]
  have hcmp:CmpLays P g #[] enc (k+1) cf b 0 d.toArray.size w:=λm os dk _ x y=>by
   refine Calls.mono (hcl x y _).out ?_
   rintro e w' ⟨v,rfl,rfl,hw⟩
   exact⟨rfl,hw⟩
  have hcon:=AnyQ.slices_SortFunc L (k+1) (run_isAgg aE) (run_sizeOf zE) enc hk (λx v hv=>List.all_eq_true.1 (h1 x) v hv) cf hO g #[] b 0 cap d.toArray w heg hcmp hH hb (by simpa [hln]using hn)
  rw[show d.toArray.size=n by simpa using hln]at hcon
  refine⟨Calls.mono hcon ?_⟩
  rintro e' w' ⟨rfl,d',m,os,hp,hs,rfl⟩
  refine⟨_,rfl,?_⟩
  have hsz:d'.size=n:=by rw[hp.1];simpa using hln
  have hfl:(flatK enc (k+1) d').toList=d'.toList.flatMap enc:=flatK_toList enc (k+1) (Nat.succ_pos k) hk d'
  have hfl2:flatK enc (k+1) d' =(d'.toList.flatMap enc).toArray:=by rw[←hfl]
  have hlen' :(d'.toList.flatMap enc).length=(d.flatMap enc).length:=by
   rw[hl,flat_len enc (k+1) _ λx _=>hk x];simp[hsz]
  have hheap:∀b',b' <w.heap.size→(sortWorldK enc (k+1) w b 0 m d' os).heap[b']? =if b' =b then some (.cells (d'.toList.flatMap enc++rest).toArray e (0,0))else w.heap[b']? :=by
   intro b' hb'
   show((w.heap.modify b (onCells (putCells id 0 (flatK enc (k+1) d'))))++os)[b']? =_
   rw[Array.getElem?_append_left (by simpa using hb'),Array.getElem?_modify]
   by_cases he:b' =b
   ·subst he
    rw[if_pos rfl,if_pos rfl,hh]
    simp only[Option.map_some,onCells]
    rw[hfl2,putCells_row _ _ _ hlen']
   ·rw[if_neg (λe=>he e.symm),if_neg he]
  have hmod:Mod (inSl (.slice (some ⟨b,0,none⟩) n cap)) w (sortWorldK enc (k+1) w b 0 m d' os):=by
   refine⟨?_,rfl,rfl,λb' hb' hf=>?_⟩
   ·show w.heap.size≤((w.heap.modify b _)++os).size
    simp
   ·rw[hheap b' hb',if_neg (λe=>hf (by subst e;rfl))]
  refine hK _ d'.toList ⟨by rw[hlen',hl],.inr ⟨b,cap,rest,rfl,hc,by rw[hheap b hb,if_pos rfl],hr,hr1⟩⟩ ?_ ?_ hmod
  ·have:=hp.2.2
   have e1:d'.extract 0 n=d' :=by rw[←hsz];simp
   have e2:d.toArray.extract 0 n=d.toArray:=by rw[←hln];simp
   rw[e1,e2]at this
   simpa using this
  ·rw[List.pairwise_iff_getElem]
   intro i j hi hj hij
   have:=hs i j (Nat.zero_le _) hij (by rw[←hsz];simpa using hj)
   rw[getElem!_pos d' i (by simpa using hi),getElem!_pos d' j (by simpa using hj)]at this
   simpa using this
end
end Go.Vc
