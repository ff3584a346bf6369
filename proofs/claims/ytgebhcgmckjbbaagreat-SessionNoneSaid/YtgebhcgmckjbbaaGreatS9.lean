/- Part of a proof. -/
import Derived.Test.YtgebhcgmckjbbaaGreatS8
set_option linter.all false
set_option maxRecDepth 100000
namespace Go.Proofs
open Go Go.Vc
def F36(w:World)(K:Kont):Prop:=
 rv Tryz.prog (Instr.makeMap 198 none) w λv0 w1=>
 rv Tryz.prog (Instr.build 92 #[]) w1 λv2 w3=>
 rux Tryz.prog (xMapUp 198 v0 (.int .u32 0) v2) w3 λw4=>
 rv Tryz.prog (Instr.makeMap 199 none) w4 λv5 w6=>
 rv Tryz.prog (Instr.build 201 #[(0,v0),(1,v5)]) w6 λv7 w8=>
 rv Tryz.prog (Instr.box 201 v7) w8 λv9 w10=>
 K v9 w10
theorem F36_eq(w:World)(K:Kont):vcFnJ Tryz.prog Tryz.f36 [] w K=F36 w K:=by kernel_rfl
theorem F36_ok:okF Tryz.prog Tryz.f36 0=true:=by kernel_rfl
theorem ca36{w:World}{K:Kont}(h:F36 w K):Ca Tryz.prog 36 #[] w K:=
 ca_of_vcJ Tryz.noNum Tryz.func36 F36_ok (by rw[F36_eq];exact h)
def F136(a0:Value)(w:World)(K:Kont):Prop:=
 rv Tryz.prog (bin .neq 62 true a0 (.pointer none)) w λv0 w1=>
 ifB v0
 (nilK a0 λv2=>rv Tryz.prog (Instr.fieldAt 201 v2 0) w1 λv3 w4=>
 rv Tryz.prog (Instr.loadAt 198 v3) w4 λv5 w6=>
 rv Tryz.prog (bin .neq 198 true v5 (.map none)) w6 λv7 w8=>
 K v7 w8)
 (K (.bool false) w1)
theorem F136_eq(a0:Value)(w:World)(K:Kont):vcFnJ Tryz.prog Tryz.f136 [a0] w K=F136 a0 w K:=by kernel_rfl
theorem F136_ok:okF Tryz.prog Tryz.f136 1=true:=by kernel_rfl
theorem ca136{a0:Value}{w:World}{K:Kont}(h:F136 a0 w K):Ca Tryz.prog 136 #[a0] w K:=
 ca_of_vcJ Tryz.noNum Tryz.func136 F136_ok (by rw[F136_eq];exact h)
def F194(a0 a1 a2:Value)(w:World)(K:Kont):Prop:=
 rv Tryz.prog (bin .geq 2 false a0 a1) w λv0 w1=>
 ifB v0
 (rv Tryz.prog (bin .leq 2 false a0 a2) w1 λv2 w3=>
 K v2 w3)
 (K (.bool false) w1)
theorem F194_eq(a0 a1 a2:Value)(w:World)(K:Kont):vcFnJ Tryz.prog Tryz.f194 [a0,a1,a2] w K=F194 a0 a1 a2 w K:=by kernel_rfl
theorem F194_ok:okF Tryz.prog Tryz.f194 3=true:=by kernel_rfl
theorem ca194{a0 a1 a2:Value}{w:World}{K:Kont}(h:F194 a0 a1 a2 w K):Ca Tryz.prog 194 #[a0,a1,a2] w K:=
 ca_of_vcJ Tryz.noNum Tryz.func194 F194_ok (by rw[F194_eq];exact h)
def J112_0(K:Kont)(a0:Value)(a2:Value)(v15:Value)(a1:Value)(s22:Value×Unit)(w23:World):Prop:=
 ∀_:Nat→Value,
 ifB s22.1
 (K (.int .i64 9) w23)
 (Ca Tryz.prog 195 #[a0] w23 λv36 w37=>
 rv Tryz.prog (bin .add 2 false v36 a2) w37 λv38 w39=>
 rv Tryz.prog (bin .gtr 2 true v38 (.int .i64 1000000000000000)) w39 λv40 w41=>
 ifB v40
 (K (.int .i64 6) w41)
 (rv Tryz.prog (Instr.fieldAt 92 v15 0) w41 λv42 w43=>
 ru Tryz.prog (Instr.storeAt 35 v42 a1) w43 λw44=>
 rv Tryz.prog (Instr.fieldAt 92 v15 1) w44 λv45 w46=>
 rv Tryz.prog (Instr.loadAt 2 v45) w46 λv47 w48=>
 rv Tryz.prog (bin .add 2 false v47 a2) w48 λv49 w50=>
 rv Tryz.prog (Instr.fieldAt 92 v15 1) w50 λv51 w52=>
 ru Tryz.prog (Instr.storeAt 2 v51 v49) w52 λw53=>
 nilK a0 λv54=>rdP Tryz.prog (Instr.fieldAt 201 v54 0) λv55=>
 rdW Tryz.prog (Instr.loadAt 198 v55) w53.drew λv56=>
 rdW Tryz.prog (Instr.loadAt 92 v15) w53.drew λv57=>
 rux Tryz.prog (xMapUp 198 v56 a1 v57) w53.drew λw58=>
 K (.int .i64 0) w58))
def F112(a0 a1 a2:Value)(w:World)(K:Kont):Prop:=
 Ca Tryz.prog 136 #[a0] w λv0 w1=>
 rv Tryz.prog (Op.unary .not v0) w1 λv2 w3=>
 ifB v2
 (K (.int .i64 1) w3)
 (nilK a0 λv4=>rv Tryz.prog (Instr.fieldAt 201 v4 0) w3 λv5 w6=>
 rv Tryz.prog (Instr.loadAt 198 v5) w6 λv7 w8=>
 rx Tryz.prog (xLook 198 v7 a1 true) w8 λv9 w10=>
 rv Tryz.prog (Instr.extract v9 0) w10 λv11 w12=>
 rv Tryz.prog (Instr.extract v9 1) w12 λv13 w14=>
 rv Tryz.prog (Instr.alloc 92 true (.tuple #[])) w14 λv15 w16=>
 ru Tryz.prog (Instr.storeAt 92 v15 v11) w16 λw17=>
 Ca Tryz.prog 194 #[a2,(.int .i64 1),(.int .i64 1000000000000000)] w17 λv18 w19=>
 rv Tryz.prog (Op.unary .not v18) w19 λv20 w21=>
 ifB v20
 (K (.int .i64 2) w21)
 (JoinW (S:=Value×Unit) (λJ24=>
 rv Tryz.prog (Op.unary .not v13) w21 λv25 w26=>
 ifB v25
 (nilK a0 λv27=>rv Tryz.prog (Instr.fieldAt 201 v27 0) w26 λv28 w29=>
 rv Tryz.prog (Instr.loadAt 198 v28) w29 λv30 w31=>
 rn Tryz.prog (builtin .len #[198] 3 #[false] #[v30]) w31 λv32 w33=>
 rv Tryz.prog (bin .gtr 3 true v32 (.int .i64 64)) w33 λv34 w35=>
 J24 (v34,()) w35)
 (J24 ((.bool false),()) w26))
 (J112_0 K a0 a2 v15 a1)))
theorem F112_eq(a0 a1 a2:Value)(w:World)(K:Kont):vcFnJ Tryz.prog Tryz.f112 [a0,a1,a2] w K=F112 a0 a1 a2 w K:=by kernel_rfl
theorem F112_ok:okF Tryz.prog Tryz.f112 3=true:=by kernel_rfl
theorem ca112{a0 a1 a2:Value}{w:World}{K:Kont}(h:F112 a0 a1 a2 w K):Ca Tryz.prog 112 #[a0,a1,a2] w K:=
 ca_of_vcJ Tryz.noNum Tryz.func112 F112_ok (by rw[F112_eq];exact h)
def J196_0(K:Kont)(v13:Value)(v15:Value)(a2:Value)(a0:Value)(a1:Value)(s18:Value×Unit)(w19:World):Prop:=
 ∀_:Nat→Value,
 ifB s18.1
 (K (.int .i64 2) w19)
 (rv Tryz.prog (Op.unary .not v13) w19 λv27 w28=>
 ifB v27
 (K (.int .i64 7) w28)
 (rv Tryz.prog (Instr.fieldAt 92 v15 1) w28 λv29 w30=>
 rv Tryz.prog (Instr.loadAt 2 v29) w30 λv31 w32=>
 rv Tryz.prog (bin .lss 2 false v31 a2) w32 λv33 w34=>
 ifB v33
 (K (.int .i64 90) w34)
 (rv Tryz.prog (Instr.fieldAt 92 v15 1) w34 λv35 w36=>
 rv Tryz.prog (Instr.loadAt 2 v35) w36 λv37 w38=>
 rv Tryz.prog (bin .sub 2 false v37 a2) w38 λv39 w40=>
 rv Tryz.prog (Instr.fieldAt 92 v15 1) w40 λv41 w42=>
 ru Tryz.prog (Instr.storeAt 2 v41 v39) w42 λw43=>
 nilK a0 λv44=>rdP Tryz.prog (Instr.fieldAt 201 v44 0) λv45=>
 rdW Tryz.prog (Instr.loadAt 198 v45) w43.drew λv46=>
 rdW Tryz.prog (Instr.loadAt 92 v15) w43.drew λv47=>
 rux Tryz.prog (xMapUp 198 v46 a1 v47) w43.drew λw48=>
 K (.int .i64 0) w48)))
def F196(a0 a1 a2:Value)(w:World)(K:Kont):Prop:=
 Ca Tryz.prog 136 #[a0] w λv0 w1=>
 rv Tryz.prog (Op.unary .not v0) w1 λv2 w3=>
 ifB v2
 (K (.int .i64 1) w3)
 (nilK a0 λv4=>rv Tryz.prog (Instr.fieldAt 201 v4 0) w3 λv5 w6=>
 rv Tryz.prog (Instr.loadAt 198 v5) w6 λv7 w8=>
 rx Tryz.prog (xLook 198 v7 a1 true) w8 λv9 w10=>
 rv Tryz.prog (Instr.extract v9 0) w10 λv11 w12=>
 rv Tryz.prog (Instr.extract v9 1) w12 λv13 w14=>
 rv Tryz.prog (Instr.alloc 92 true (.tuple #[])) w14 λv15 w16=>
 ru Tryz.prog (Instr.storeAt 92 v15 v11) w16 λw17=>
 JoinW (S:=Value×Unit) (λJ20=>
 rv Tryz.prog (bin .eql 35 true a1 (.int .u32 0)) w17 λv21 w22=>
 ifB v21
 (J20 ((.bool true),()) w22)
 (Ca Tryz.prog 194 #[a2,(.int .i64 1),(.int .i64 1000000000000000)] w22 λv23 w24=>
 rv Tryz.prog (Op.unary .not v23) w24 λv25 w26=>
 J20 (v25,()) w26))
 (J196_0 K v13 v15 a2 a0 a1))
theorem F196_eq(a0 a1 a2:Value)(w:World)(K:Kont):vcFnJ Tryz.prog Tryz.f196 [a0,a1,a2] w K=F196 a0 a1 a2 w K:=by kernel_rfl
theorem F196_ok:okF Tryz.prog Tryz.f196 3=true:=by kernel_rfl
theorem ca196{a0 a1 a2:Value}{w:World}{K:Kont}(h:F196 a0 a1 a2 w K):Ca Tryz.prog 196 #[a0,a1,a2] w K:=
 ca_of_vcJ Tryz.noNum Tryz.func196 F196_ok (by rw[F196_eq];exact h)
def F52(a0 a1:Value)(w:World)(K:Kont):Prop:=
 rv Tryz.prog (Instr.alloc 92 true (.tuple #[])) w λv0 w1=>
 Ca Tryz.prog 136 #[a0] w1 λv2 w3=>
 rv Tryz.prog (Op.unary .not v2) w3 λv4 w5=>
 ifB v4
 (rv Tryz.prog (Instr.build 92 #[]) w5 λv6 w7=>
 ru Tryz.prog (Instr.storeAt 92 v0 v6) w7 λw8=>
 rdW Tryz.prog (Instr.loadAt 92 v0) w8 λv9=>
 K (.tuple #[v9,(.int .i64 1)]) w8)
 (nilK a0 λv10=>rv Tryz.prog (Instr.fieldAt 201 v10 0) w5 λv11 w12=>
 rv Tryz.prog (Instr.loadAt 198 v11) w12 λv13 w14=>
 rx Tryz.prog (xLook 198 v13 a1 true) w14 λv15 w16=>
 rv Tryz.prog (Instr.extract v15 0) w16 λv17 w18=>
 rv Tryz.prog (Instr.extract v15 1) w18 λv19 w20=>
 rv Tryz.prog (Instr.alloc 92 true (.tuple #[])) w20 λv21 w22=>
 ru Tryz.prog (Instr.storeAt 92 v21 v17) w22 λw23=>
 rv Tryz.prog (Op.unary .not v19) w23 λv24 w25=>
 ifB v24
 (rv Tryz.prog (Instr.build 92 #[]) w25 λv26 w27=>
 ru Tryz.prog (Instr.storeAt 92 v0 v26) w27 λw28=>
 rdW Tryz.prog (Instr.loadAt 92 v0) w28 λv29=>
 K (.tuple #[v29,(.int .i64 7)]) w28)
 (rv Tryz.prog (Instr.loadAt 92 v21) w25 λv30 w31=>
 ru Tryz.prog (Instr.storeAt 92 v0 v30) w31 λw32=>
 rdW Tryz.prog (Instr.loadAt 92 v0) w32 λv33=>
 K (.tuple #[v33,(.int .i64 0)]) w32))
theorem F52_eq(a0 a1:Value)(w:World)(K:Kont):vcFnJ Tryz.prog Tryz.f52 [a0,a1] w K=F52 a0 a1 w K:=by kernel_rfl
theorem F52_ok:okF Tryz.prog Tryz.f52 2=true:=by kernel_rfl
theorem ca52{a0 a1:Value}{w:World}{K:Kont}(h:F52 a0 a1 w K):Ca Tryz.prog 52 #[a0,a1] w K:=
 ca_of_vcJ Tryz.noNum Tryz.func52 F52_ok (by rw[F52_eq];exact h)
def J125_0(K:Kont)(a0:Value)(v0:Value)(s6:Value×Unit)(w7:World):Prop:=
 ∀_:Nat→Value,
 ifB s6.1
 (K (.int .i64 2) w7)
 (nilK a0 λv31=>rdP Tryz.prog (Instr.fieldAt 201 v31 0) λv32=>
 rdW Tryz.prog (Instr.loadAt 198 v32) w7.drew λv33=>
 rdP Tryz.prog (Instr.fieldAt 92 v0 0) λv34=>
 rdW Tryz.prog (Instr.loadAt 35 v34) w7.drew λv35=>
 rdX Tryz.prog (xLook 198 v33 v35 true) w7.drew λv36=>
 rdP Tryz.prog (Instr.extract v36 0) λv37=>
 rdP Tryz.prog (Instr.extract v36 1) λv38=>
 rv Tryz.prog (Instr.alloc 92 true (.tuple #[])) w7.drew λv39 w40=>
 Sem.run Tryz.prog (xLook 198 v33 v35 true) w40=.ok v36 w40∧Sem.run Tryz.prog (Instr.loadAt 35 v34) w40=.ok v35 w40∧Sem.run Tryz.prog (Instr.loadAt 198 v32) w40=.ok v33 w40∧
 (ru Tryz.prog (Instr.storeAt 92 v39 v37) w40 λw41=>
 rv Tryz.prog (Op.unary .not v38) w41 λv42 w43=>
 ifB v42
 (K (.int .i64 7) w43)
 (nilK a0 λv44=>rdP Tryz.prog (Instr.fieldAt 201 v44 0) λv45=>
 rdW Tryz.prog (Instr.loadAt 198 v45) w43.drew λv46=>
 rdP Tryz.prog (Instr.fieldAt 92 v0 0) λv47=>
 rdW Tryz.prog (Instr.loadAt 35 v47) w43.drew λv48=>
 rdW Tryz.prog (Instr.loadAt 92 v0) w43.drew λv49=>
 rux Tryz.prog (xMapUp 198 v46 v48 v49) w43.drew λw50=>
 K (.int .i64 0) w50)))
def F125(a0 a1:Value)(w:World)(K:Kont):Prop:=
 rv Tryz.prog (Instr.box 92 a1) w λv0 w1=>
 Ca Tryz.prog 136 #[a0] w1 λv2 w3=>
 rv Tryz.prog (Op.unary .not v2) w3 λv4 w5=>
 ifB v4
 (K (.int .i64 1) w5)
 (JoinW (S:=Value×Unit) (λJ8=>
 rv Tryz.prog (Instr.fieldAt 92 v0 1) w5 λv9 w10=>
 rv Tryz.prog (Instr.loadAt 2 v9) w10 λv11 w12=>
 Ca Tryz.prog 194 #[v11,(.int .i64 0),(.int .i64 1000000000000000)] w12 λv13 w14=>
 rv Tryz.prog (Op.unary .not v13) w14 λv15 w16=>
 ifB v15
 (J8 ((.bool true),()) w16)
 (rv Tryz.prog (Instr.fieldAt 92 v0 0) w16 λv17 w18=>
 rv Tryz.prog (Instr.loadAt 35 v17) w18 λv19 w20=>
 rv Tryz.prog (bin .eql 35 true v19 (.int .u32 0)) w20 λv21 w22=>
 ifB v21
 (rv Tryz.prog (Instr.fieldAt 92 v0 2) w22 λv23 w24=>
 rv Tryz.prog (Instr.loadAt 4 v23) w24 λv25 w26=>
 ifB v25
 (J8 ((.bool true),()) w26)
 (rv Tryz.prog (Instr.fieldAt 92 v0 3) w26 λv27 w28=>
 rv Tryz.prog (Instr.loadAt 4 v27) w28 λv29 w30=>
 J8 (v29,()) w30))
 (J8 ((.bool false),()) w22)))
 (J125_0 K a0 v0))
theorem F125_eq(a0 a1:Value)(w:World)(K:Kont):vcFnJ Tryz.prog Tryz.f125 [a0,a1] w K=F125 a0 a1 w K:=by kernel_rfl
theorem F125_ok:okF Tryz.prog Tryz.f125 2=true:=by kernel_rfl
theorem ca125{a0 a1:Value}{w:World}{K:Kont}(h:F125 a0 a1 w K):Ca Tryz.prog 125 #[a0,a1] w K:=
 ca_of_vcJ Tryz.noNum Tryz.func125 F125_ok (by rw[F125_eq];exact h)
def F221(a0:Value)(w:World)(K:Kont):Prop:=
 rv Tryz.prog (bin .lss 2 true a0 (.int .i64 0)) w λv0 w1=>
 ifB v0
 (rv Tryz.prog (convert 2 27 a0) w1 λv2 w3=>
 rv Tryz.prog (Op.unary .neg v2) w3 λv4 w5=>
 K (.tuple #[v4,(.bool true)]) w5)
 (rv Tryz.prog (convert 2 27 a0) w1 λv6 w7=>
 K (.tuple #[v6,(.bool false)]) w7)
theorem F221_eq(a0:Value)(w:World)(K:Kont):vcFnJ Tryz.prog Tryz.f221 [a0] w K=F221 a0 w K:=by kernel_rfl
theorem F221_ok:okF Tryz.prog Tryz.f221 1=true:=by kernel_rfl
theorem ca221{a0:Value}{w:World}{K:Kont}(h:F221 a0 w K):Ca Tryz.prog 221 #[a0] w K:=
 ca_of_vcJ Tryz.noNum Tryz.func221 F221_ok (by rw[F221_eq];exact h)
def F130(a0 a1:Value)(w:World)(K:Kont):Prop:=
 Ca Tryz.prog 221 #[a0] w λv0 w1=>
 rv Tryz.prog (Instr.extract v0 0) w1 λv2 w3=>
 rv Tryz.prog (Instr.extract v0 1) w3 λv4 w5=>
 rv Tryz.prog (bin .geq 2 true a1 (.int .i64 0)) w5 λv6 w7=>
 ifB v6
 (rv Tryz.prog (convert 2 27 a1) w7 λv8 w9=>
 rv Tryz.prog (bin .leq 27 false v2 v8) w9 λv10 w11=>
 K v10 w11)
 (K (.bool false) w7)
theorem F130_eq(a0 a1:Value)(w:World)(K:Kont):vcFnJ Tryz.prog Tryz.f130 [a0,a1] w K=F130 a0 a1 w K:=by kernel_rfl
theorem F130_ok:okF Tryz.prog Tryz.f130 2=true:=by kernel_rfl
theorem ca130{a0 a1:Value}{w:World}{K:Kont}(h:F130 a0 a1 w K):Ca Tryz.prog 130 #[a0,a1] w K:=
 ca_of_vcJ Tryz.noNum Tryz.func130 F130_ok (by rw[F130_eq];exact h)
def L195_0(v9:Value)(K:Kont)(s11:Value×Unit)(w12:World)(K13:Value×Unit→World→Prop):Prop:=
 ∀_:Nat→Value,
 rx Tryz.prog (xNext v9 false 0) w12 λv14 w15=>
 rv Tryz.prog (Instr.extract v14 0) w15 λv16 w17=>
 ifB v16
 (rx Tryz.prog (xEntry v9) w17 λv18 w19=>
 rv Tryz.prog (Instr.extract v18 1) w19 λv20 w21=>
 rv Tryz.prog (Instr.alloc 92 true (.tuple #[])) w21 λv22 w23=>
 ru Tryz.prog (Instr.storeAt 92 v22 v20) w23 λw24=>
 rv Tryz.prog (Instr.fieldAt 92 v22 1) w24 λv25 w26=>
 rv Tryz.prog (Instr.loadAt 2 v25) w26 λv27 w28=>
 rv Tryz.prog (bin .add 2 false s11.1 v27) w28 λv29 w30=>
 K13 (v29,()) w30)
 (K s11.1 w17)
def F195(a0:Value)(w:World)(K:Kont):Prop:=
 Ca Tryz.prog 136 #[a0] w λv0 w1=>
 rv Tryz.prog (Op.unary .not v0) w1 λv2 w3=>
 ifB v2
 (K (.int .i64 0) w3)
 (nilK a0 λv4=>rv Tryz.prog (Instr.fieldAt 201 v4 0) w3 λv5 w6=>
 rv Tryz.prog (Instr.loadAt 198 v5) w6 λv7 w8=>
 rx Tryz.prog (xRange 198 v7) w8 λv9 w10=>
 LoopW (S:=Value×Unit) (L195_0 v9 K) ((.int .i64 0),()) w10)
theorem F195_eq(a0:Value)(w:World)(K:Kont):vcFnJ Tryz.prog Tryz.f195 [a0] w K=F195 a0 w K:=by kernel_rfl
theorem F195_ok:okF Tryz.prog Tryz.f195 1=true:=by kernel_rfl
theorem ca195{a0:Value}{w:World}{K:Kont}(h:F195 a0 w K):Ca Tryz.prog 195 #[a0] w K:=
 ca_of_vcJ Tryz.noNum Tryz.func195 F195_ok (by rw[F195_eq];exact h)
def F141(a0:Value)(w:World)(K:Kont):Prop:=
 rv Tryz.prog (Instr.box 44 a0) w λv0 w1=>
 K (.func (.func 231) #[] #[v0]) w1
theorem F141_eq(a0:Value)(w:World)(K:Kont):vcFnJ Tryz.prog Tryz.f141 [a0] w K=F141 a0 w K:=by kernel_rfl
theorem F141_ok:okF Tryz.prog Tryz.f141 1=true:=by kernel_rfl
theorem ca141{a0:Value}{w:World}{K:Kont}(h:F141 a0 w K):Ca Tryz.prog 141 #[a0] w K:=
 ca_of_vcJ Tryz.noNum Tryz.func141 F141_ok (by rw[F141_eq];exact h)
def L231_0(v2:Value)(v0:Value)(a0:Value)(K:Kont)(s4:Value×Unit)(w5:World)(K6:Value×Unit→World→Prop):Prop:=
 ∀_:Nat→Value,
 rv Tryz.prog (bin .lss 3 false s4.1 v2) w5 λv7 w8=>
 ifB v7
 (rv Tryz.prog (Instr.indexAt 44 v0 s4.1) w8 λv9 w10=>
 rv Tryz.prog (Instr.loadAt 92 v9) w10 λv11 w12=>
 rv Tryz.prog (Instr.alloc 92 true (.tuple #[])) w12 λv13 w14=>
 ru Tryz.prog (Instr.storeAt 92 v13 v11) w14 λw15=>
 rv Tryz.prog (Instr.loadAt 92 v13) w15 λv16 w17=>
 callV Tryz.prog a0 [v16] w17 λv18 w19=>
 rv Tryz.prog (Op.unary .not v18) w19 λv20 w21=>
 ifB v20
 (K (.tuple #[]) w21)
 (rv Tryz.prog (bin .add 3 true s4.1 (.int .i64 1)) w21 λv22 w23=>
 K6 (v22,()) w23))
 (K (.tuple #[]) w8)
def F231(a0 a1:Value)(w:World)(K:Kont):Prop:=
 rv Tryz.prog (Instr.loadAt 44 a1) w λv0 w1=>
 rn Tryz.prog (builtin .len #[44] 3 #[false] #[v0]) w1 λv2 w3=>
 LoopW (S:=Value×Unit) (L231_0 v2 v0 a0 K) ((.int .i64 0),()) w3
theorem F231_eq(a0 a1:Value)(w:World)(K:Kont):vcFnJ Tryz.prog Tryz.f231 [a0,a1] w K=F231 a0 a1 w K:=by kernel_rfl
theorem F231_ok:okF Tryz.prog Tryz.f231 2=true:=by kernel_rfl
theorem ca231{a0 a1:Value}{w:World}{K:Kont}(h:F231 a0 a1 w K):Ca Tryz.prog 231 #[a0,a1] w K:=
 ca_of_vcJ Tryz.noNum Tryz.func231 F231_ok (by rw[F231_eq];exact h)
def F235(a0:Value)(w:World)(K:Kont):Prop:=
 rv Tryz.prog (Instr.box 46 a0) w λv0 w1=>
 K (.func (.func 286) #[] #[v0]) w1
theorem F235_eq(a0:Value)(w:World)(K:Kont):vcFnJ Tryz.prog Tryz.f235 [a0] w K=F235 a0 w K:=by kernel_rfl
theorem F235_ok:okF Tryz.prog Tryz.f235 1=true:=by kernel_rfl
theorem ca235{a0:Value}{w:World}{K:Kont}(h:F235 a0 w K):Ca Tryz.prog 235 #[a0] w K:=
 ca_of_vcJ Tryz.noNum Tryz.func235 F235_ok (by rw[F235_eq];exact h)
def L286_0(v2:Value)(v0:Value)(a0:Value)(K:Kont)(s4:Value×Unit)(w5:World)(K6:Value×Unit→World→Prop):Prop:=
 ∀_:Nat→Value,
 rv Tryz.prog (bin .lss 3 false s4.1 v2) w5 λv7 w8=>
 ifB v7
 (rv Tryz.prog (Instr.indexAt 46 v0 s4.1) w8 λv9 w10=>
 rv Tryz.prog (Instr.loadAt 112 v9) w10 λv11 w12=>
 rv Tryz.prog (Instr.alloc 112 true (.tuple #[])) w12 λv13 w14=>
 ru Tryz.prog (Instr.storeAt 112 v13 v11) w14 λw15=>
 rv Tryz.prog (Instr.loadAt 112 v13) w15 λv16 w17=>
 callV Tryz.prog a0 [v16] w17 λv18 w19=>
 rv Tryz.prog (Op.unary .not v18) w19 λv20 w21=>
 ifB v20
 (K (.tuple #[]) w21)
 (rv Tryz.prog (bin .add 3 true s4.1 (.int .i64 1)) w21 λv22 w23=>
 K6 (v22,()) w23))
 (K (.tuple #[]) w8)
def F286(a0 a1:Value)(w:World)(K:Kont):Prop:=
 rv Tryz.prog (Instr.loadAt 46 a1) w λv0 w1=>
 rn Tryz.prog (builtin .len #[46] 3 #[false] #[v0]) w1 λv2 w3=>
 LoopW (S:=Value×Unit) (L286_0 v2 v0 a0 K) ((.int .i64 0),()) w3
theorem F286_eq(a0 a1:Value)(w:World)(K:Kont):vcFnJ Tryz.prog Tryz.f286 [a0,a1] w K=F286 a0 a1 w K:=by kernel_rfl
theorem F286_ok:okF Tryz.prog Tryz.f286 2=true:=by kernel_rfl
theorem ca286{a0 a1:Value}{w:World}{K:Kont}(h:F286 a0 a1 w K):Ca Tryz.prog 286 #[a0,a1] w K:=
 ca_of_vcJ Tryz.noNum Tryz.func286 F286_ok (by rw[F286_eq];exact h)
def F55(a0:Value)(w:World)(K:Kont):Prop:=
 rv Tryz.prog (Instr.box 62 a0) w λv0 w1=>
 K (.func (.func 138) #[] #[v0]) w1
theorem F55_eq(a0:Value)(w:World)(K:Kont):vcFnJ Tryz.prog Tryz.f55 [a0] w K=F55 a0 w K:=by kernel_rfl
theorem F55_ok:okF Tryz.prog Tryz.f55 1=true:=by kernel_rfl
theorem ca55{a0:Value}{w:World}{K:Kont}(h:F55 a0 w K):Ca Tryz.prog 55 #[a0] w K:=
 ca_of_vcJ Tryz.noNum Tryz.func55 F55_ok (by rw[F55_eq];exact h)
def L138_0(v14:Value)(J2:Value×Unit→World→Prop)(s16:Value×Unit)(w17:World)(K18:Value×Unit→World→Prop):Prop:=
 ∀_:Nat→Value,
 rx Tryz.prog (xNext v14 false 0) w17 λv19 w20=>
 rv Tryz.prog (Instr.extract v19 0) w20 λv21 w22=>
 ifB v21
 (rx Tryz.prog (xEntry v14) w22 λv23 w24=>
 rv Tryz.prog (Instr.extract v23 0) w24 λv25 w26=>
 rv Tryz.prog (Instr.extract v23 1) w26 λv27 w28=>
 rv Tryz.prog (Instr.alloc 92 true (.tuple #[])) w28 λv29 w30=>
 ru Tryz.prog (Instr.storeAt 92 v29 v27) w30 λw31=>
 rv Tryz.prog (bin .neq 35 true v25 (.int .u32 0)) w31 λv32 w33=>
 ifB v32
 (rv Tryz.prog (Instr.loadAt 92 v29) w33 λv34 w35=>
 rx Tryz.prog (xLit 44 1 [(0,v34)]) w35 λv36 w37=>
 rx Tryz.prog (xAppend #[44,44] 44 [s16.1,v36]) w37 λv38 w39=>
 K18 (v38,()) w39)
 (K18 (s16.1,()) w33))
 (J2 (s16.1,()) w22)
def J138_1(a0:Value)(K:Kont)(s0:Value×Unit)(w1:World):Prop:=
 ∀_:Nat→Value,
 Ca Tryz.prog 139 #[s0.1,(.func (.func 140) #[] #[])] w1 λv40 w41=>
 Ca Tryz.prog 141 #[s0.1] w41 λv42 w43=>
 callV Tryz.prog v42 [a0] w43 λv44 w45=>
 K (.tuple #[]) w45
def F138(a0 a1:Value)(w:World)(K:Kont):Prop:=
 JoinW (S:=Value×Unit) (λJ2=>
 rv Tryz.prog (Instr.loadAt 62 a1) w λv3 w4=>
 Ca Tryz.prog 136 #[v3] w4 λv5 w6=>
 ifB v5
 (rv Tryz.prog (Instr.loadAt 62 a1) w6 λv7 w8=>
 nilK v7 λv9=>rv Tryz.prog (Instr.fieldAt 201 v9 0) w8 λv10 w11=>
 rv Tryz.prog (Instr.loadAt 198 v10) w11 λv12 w13=>
 rx Tryz.prog (xRange 198 v12) w13 λv14 w15=>
 LoopW (S:=Value×Unit) (L138_0 v14 J2) ((.slice none 0 0),()) w15)
 (J2 ((.slice none 0 0),()) w6))
 (J138_1 a0 K)
theorem F138_eq(a0 a1:Value)(w:World)(K:Kont):vcFnJ Tryz.prog Tryz.f138 [a0,a1] w K=F138 a0 a1 w K:=by kernel_rfl
theorem F138_ok:okF Tryz.prog Tryz.f138 2=true:=by kernel_rfl
theorem ca138{a0 a1:Value}{w:World}{K:Kont}(h:F138 a0 a1 w K):Ca Tryz.prog 138 #[a0,a1] w K:=
 ca_of_vcJ Tryz.noNum Tryz.func138 F138_ok (by rw[F138_eq];exact h)
def F140(a0 a1:Value)(w:World)(K:Kont):Prop:=
 rv Tryz.prog (Instr.box 92 a0) w λv0 w1=>
 rv Tryz.prog (Instr.box 92 a1) w1 λv2 w3=>
 rv Tryz.prog (Instr.fieldAt 92 v0 0) w3 λv4 w5=>
 rv Tryz.prog (Instr.loadAt 35 v4) w5 λv6 w7=>
 rv Tryz.prog (Instr.fieldAt 92 v2 0) w7 λv8 w9=>
 rv Tryz.prog (Instr.loadAt 35 v8) w9 λv10 w11=>
 rv Tryz.prog (bin .lss 35 false v6 v10) w11 λv12 w13=>
 ifB v12
 (K (.int .i64 (-1)) w13)
 (K (.int .i64 1) w13)
theorem F140_eq(a0 a1:Value)(w:World)(K:Kont):vcFnJ Tryz.prog Tryz.f140 [a0,a1] w K=F140 a0 a1 w K:=by kernel_rfl
theorem F140_ok:okF Tryz.prog Tryz.f140 2=true:=by kernel_rfl
theorem ca140{a0 a1:Value}{w:World}{K:Kont}(h:F140 a0 a1 w K):Ca Tryz.prog 140 #[a0,a1] w K:=
 ca_of_vcJ Tryz.noNum Tryz.func140 F140_ok (by rw[F140_eq];exact h)
def F142(a0 a1:Value)(w:World)(K:Kont):Prop:=
 rv Tryz.prog (Instr.box 62 a0) w λv0 w1=>
 rv Tryz.prog (Instr.box 244 a1) w1 λv2 w3=>
 K (.func (.func 232) #[] #[v0,v2]) w3
theorem F142_eq(a0 a1:Value)(w:World)(K:Kont):vcFnJ Tryz.prog Tryz.f142 [a0,a1] w K=F142 a0 a1 w K:=by kernel_rfl
theorem F142_ok:okF Tryz.prog Tryz.f142 2=true:=by kernel_rfl
theorem ca142{a0 a1:Value}{w:World}{K:Kont}(h:F142 a0 a1 w K):Ca Tryz.prog 142 #[a0,a1] w K:=
 ca_of_vcJ Tryz.noNum Tryz.func142 F142_ok (by rw[F142_eq];exact h)
def L232_0(v14:Value)(a2:Value)(J2:Value×Unit→World→Prop)(s16:Value×Unit)(w17:World)(K18:Value×Unit→World→Prop):Prop:=
 ∀_:Nat→Value,
 rx Tryz.prog (xNext v14 false 0) w17 λv19 w20=>
 rv Tryz.prog (Instr.extract v19 0) w20 λv21 w22=>
 ifB v21
 (rx Tryz.prog (xEntry v14) w22 λv23 w24=>
 rv Tryz.prog (Instr.extract v23 1) w24 λv25 w26=>
 rv Tryz.prog (Instr.alloc 112 true (.tuple #[])) w26 λv27 w28=>
 ru Tryz.prog (Instr.storeAt 112 v27 v25) w28 λw29=>
 rv Tryz.prog (Instr.loadAt 244 a2) w29 λv30 w31=>
 rv Tryz.prog (Instr.loadAt 112 v27) w31 λv32 w33=>
 callV Tryz.prog v30 [v32] w33 λv34 w35=>
 ifB v34
 (rv Tryz.prog (Instr.loadAt 112 v27) w35 λv36 w37=>
 rx Tryz.prog (xLit 46 1 [(0,v36)]) w37 λv38 w39=>
 rx Tryz.prog (xAppend #[46,46] 46 [s16.1,v38]) w39 λv40 w41=>
 K18 (v40,()) w41)
 (K18 (s16.1,()) w35))
 (J2 (s16.1,()) w22)
def J232_1(a0:Value)(K:Kont)(s0:Value×Unit)(w1:World):Prop:=
 ∀_:Nat→Value,
 Ca Tryz.prog 233 #[s0.1,(.func (.func 234) #[] #[])] w1 λv42 w43=>
 Ca Tryz.prog 235 #[s0.1] w43 λv44 w45=>
 callV Tryz.prog v44 [a0] w45 λv46 w47=>
 K (.tuple #[]) w47
def F232(a0 a1 a2:Value)(w:World)(K:Kont):Prop:=
 JoinW (S:=Value×Unit) (λJ2=>
 rv Tryz.prog (Instr.loadAt 62 a1) w λv3 w4=>
 Ca Tryz.prog 136 #[v3] w4 λv5 w6=>
 ifB v5
 (rv Tryz.prog (Instr.loadAt 62 a1) w6 λv7 w8=>
 nilK v7 λv9=>rv Tryz.prog (Instr.fieldAt 201 v9 1) w8 λv10 w11=>
 rv Tryz.prog (Instr.loadAt 199 v10) w11 λv12 w13=>
 rx Tryz.prog (xRange 199 v12) w13 λv14 w15=>
 LoopW (S:=Value×Unit) (L232_0 v14 a2 J2) ((.slice none 0 0),()) w15)
 (J2 ((.slice none 0 0),()) w6))
 (J232_1 a0 K)
theorem F232_eq(a0 a1 a2:Value)(w:World)(K:Kont):vcFnJ Tryz.prog Tryz.f232 [a0,a1,a2] w K=F232 a0 a1 a2 w K:=by kernel_rfl
theorem F232_ok:okF Tryz.prog Tryz.f232 3=true:=by kernel_rfl
theorem ca232{a0 a1 a2:Value}{w:World}{K:Kont}(h:F232 a0 a1 a2 w K):Ca Tryz.prog 232 #[a0,a1,a2] w K:=
 ca_of_vcJ Tryz.noNum Tryz.func232 F232_ok (by rw[F232_eq];exact h)
def J234_0(K:Kont)(v0:Value)(v2:Value)(s4:Value×Unit)(w5:World):Prop:=
 ∀_:Nat→Value,
 ifB s4.1
 (K (.int .i64 (-1)) w5)
 (rv Tryz.prog (Instr.loadAt 112 v0) w5 λv37 w38=>
 rv Tryz.prog (Instr.loadAt 112 v2) w38 λv39 w40=>
 rv Tryz.prog (bin .eql 112 false v37 v39) w40 λv41 w42=>
 ifB v41
 (K (.int .i64 0) w42)
 (K (.int .i64 1) w42))
def F234(a0 a1:Value)(w:World)(K:Kont):Prop:=
 rv Tryz.prog (Instr.box 112 a0) w λv0 w1=>
 rv Tryz.prog (Instr.box 112 a1) w1 λv2 w3=>
 JoinW (S:=Value×Unit) (λJ6=>
 rv Tryz.prog (Instr.fieldAt 112 v0 0) w3 λv7 w8=>
 rv Tryz.prog (Instr.loadAt 35 v7) w8 λv9 w10=>
 rv Tryz.prog (Instr.fieldAt 112 v2 0) w10 λv11 w12=>
 rv Tryz.prog (Instr.loadAt 35 v11) w12 λv13 w14=>
 rv Tryz.prog (bin .lss 35 false v9 v13) w14 λv15 w16=>
 ifB v15
 (J6 ((.bool true),()) w16)
 (rv Tryz.prog (Instr.fieldAt 112 v0 0) w16 λv17 w18=>
 rv Tryz.prog (Instr.loadAt 35 v17) w18 λv19 w20=>
 rv Tryz.prog (Instr.fieldAt 112 v2 0) w20 λv21 w22=>
 rv Tryz.prog (Instr.loadAt 35 v21) w22 λv23 w24=>
 rv Tryz.prog (bin .eql 35 false v19 v23) w24 λv25 w26=>
 ifB v25
 (rv Tryz.prog (Instr.fieldAt 112 v0 1) w26 λv27 w28=>
 rv Tryz.prog (Instr.loadAt 35 v27) w28 λv29 w30=>
 rv Tryz.prog (Instr.fieldAt 112 v2 1) w30 λv31 w32=>
 rv Tryz.prog (Instr.loadAt 35 v31) w32 λv33 w34=>
 rv Tryz.prog (bin .lss 35 false v29 v33) w34 λv35 w36=>
 J6 (v35,()) w36)
 (J6 ((.bool false),()) w26)))
 (J234_0 K v0 v2)
theorem F234_eq(a0 a1:Value)(w:World)(K:Kont):vcFnJ Tryz.prog Tryz.f234 [a0,a1] w K=F234 a0 a1 w K:=by kernel_rfl
theorem F234_ok:okF Tryz.prog Tryz.f234 2=true:=by kernel_rfl
theorem ca234{a0 a1:Value}{w:World}{K:Kont}(h:F234 a0 a1 w K):Ca Tryz.prog 234 #[a0,a1] w K:=
 ca_of_vcJ Tryz.noNum Tryz.func234 F234_ok (by rw[F234_eq];exact h)
def F56(a0 a1:Value)(w:World)(K:Kont):Prop:=
 rv Tryz.prog (Instr.box 35 a1) w λv0 w1=>
 Ca Tryz.prog 142 #[a0,(.func (.func 143) #[] #[v0])] w1 λv2 w3=>
 K v2 w3
theorem F56_eq(a0 a1:Value)(w:World)(K:Kont):vcFnJ Tryz.prog Tryz.f56 [a0,a1] w K=F56 a0 a1 w K:=by kernel_rfl
theorem F56_ok:okF Tryz.prog Tryz.f56 2=true:=by kernel_rfl
theorem ca56{a0 a1:Value}{w:World}{K:Kont}(h:F56 a0 a1 w K):Ca Tryz.prog 56 #[a0,a1] w K:=
 ca_of_vcJ Tryz.noNum Tryz.func56 F56_ok (by rw[F56_eq];exact h)
def F143(a0 a1:Value)(w:World)(K:Kont):Prop:=
 rv Tryz.prog (Instr.box 112 a0) w λv0 w1=>
 rv Tryz.prog (Instr.fieldAt 112 v0 0) w1 λv2 w3=>
 rv Tryz.prog (Instr.loadAt 35 v2) w3 λv4 w5=>
 rv Tryz.prog (Instr.loadAt 35 a1) w5 λv6 w7=>
 rv Tryz.prog (bin .eql 35 false v4 v6) w7 λv8 w9=>
 K v8 w9
theorem F143_eq(a0 a1:Value)(w:World)(K:Kont):vcFnJ Tryz.prog Tryz.f143 [a0,a1] w K=F143 a0 a1 w K:=by kernel_rfl
theorem F143_ok:okF Tryz.prog Tryz.f143 2=true:=by kernel_rfl
theorem ca143{a0 a1:Value}{w:World}{K:Kont}(h:F143 a0 a1 w K):Ca Tryz.prog 143 #[a0,a1] w K:=
 ca_of_vcJ Tryz.noNum Tryz.func143 F143_ok (by rw[F143_eq];exact h)
def L109_0(v39:Value)(v4:Value)(K:Kont)(s41:Unit)(w42:World)(K43:Unit→World→Prop):Prop:=
 ∀_:Nat→Value,
 rx Tryz.prog (xNext v39 false 0) w42 λv44 w45=>
 rv Tryz.prog (Instr.extract v44 0) w45 λv46 w47=>
 ifB v46
 (rx Tryz.prog (xEntry v39) w47 λv48 w49=>
 rv Tryz.prog (Instr.extract v48 0) w49 λv50 w51=>
 rv Tryz.prog (Instr.extract v48 1) w51 λv52 w53=>
 rv Tryz.prog (Instr.alloc 224 true (.tuple #[])) w53 λv54 w55=>
 rv Tryz.prog (Instr.alloc 112 true (.tuple #[])) w55 λv56 w57=>
 ru Tryz.prog (Instr.storeAt 224 v54 v50) w57 λw58=>
 ru Tryz.prog (Instr.storeAt 112 v56 v52) w58 λw59=>
 nilK v4 λv60=>rdP Tryz.prog (Instr.fieldAt 201 v60 1) λv61=>
 rdW Tryz.prog (Instr.loadAt 199 v61) w59.drew λv62=>
 rdW Tryz.prog (Instr.loadAt 224 v54) w59.drew λv63=>
 rdW Tryz.prog (Instr.loadAt 112 v56) w59.drew λv64=>
 rux Tryz.prog (xMapUp 199 v62 v63 v64) w59.drew λw65=>
 K43 (()) w65)
 (K v4 w47)
def L109_1(v11:Value)(v4:Value)(a0:Value)(K:Kont)(s13:Unit)(w14:World)(K15:Unit→World→Prop):Prop:=
 ∀_:Nat→Value,
 rx Tryz.prog (xNext v11 false 0) w14 λv16 w17=>
 rv Tryz.prog (Instr.extract v16 0) w17 λv18 w19=>
 ifB v18
 (rx Tryz.prog (xEntry v11) w19 λv20 w21=>
 rv Tryz.prog (Instr.extract v20 0) w21 λv22 w23=>
 rv Tryz.prog (Instr.extract v20 1) w23 λv24 w25=>
 rv Tryz.prog (Instr.alloc 92 true (.tuple #[])) w25 λv26 w27=>
 ru Tryz.prog (Instr.storeAt 92 v26 v24) w27 λw28=>
 nilK v4 λv29=>rdP Tryz.prog (Instr.fieldAt 201 v29 0) λv30=>
 rdW Tryz.prog (Instr.loadAt 198 v30) w28.drew λv31=>
 rdW Tryz.prog (Instr.loadAt 92 v26) w28.drew λv32=>
 rux Tryz.prog (xMapUp 198 v31 v22 v32) w28.drew λw33=>
 K15 (()) w33)
 (nilK a0 λv34=>rv Tryz.prog (Instr.fieldAt 201 v34 1) w19 λv35 w36=>
 rv Tryz.prog (Instr.loadAt 199 v35) w36 λv37 w38=>
 rx Tryz.prog (xRange 199 v37) w38 λv39 w40=>
 LoopW (S:=Unit) (L109_0 v39 v4 K) (()) w40)
def F109(a0:Value)(w:World)(K:Kont):Prop:=
 Ca Tryz.prog 136 #[a0] w λv0 w1=>
 rv Tryz.prog (Op.unary .not v0) w1 λv2 w3=>
 ifB v2
 (K (.pointer none) w3)
 (Ca Tryz.prog 36 #[] w3 λv4 w5=>
 nilK a0 λv6=>rv Tryz.prog (Instr.fieldAt 201 v6 0) w5 λv7 w8=>
 rv Tryz.prog (Instr.loadAt 198 v7) w8 λv9 w10=>
 rx Tryz.prog (xRange 198 v9) w10 λv11 w12=>
 LoopW (S:=Unit) (L109_1 v11 v4 a0 K) (()) w12)
theorem F109_eq(a0:Value)(w:World)(K:Kont):vcFnJ Tryz.prog Tryz.f109 [a0] w K=F109 a0 w K:=by kernel_rfl
theorem F109_ok:okF Tryz.prog Tryz.f109 1=true:=by kernel_rfl
theorem ca109{a0:Value}{w:World}{K:Kont}(h:F109 a0 w K):Ca Tryz.prog 109 #[a0] w K:=
 ca_of_vcJ Tryz.noNum Tryz.func109 F109_ok (by rw[F109_eq];exact h)
end Go.Proofs
namespace Go.Proofs
open Go Go.Vc
theorem loopK{S:Type}{body:S→World→(S→World→Prop)→Prop}{s:S}{w:World}(I:S→World→Prop)(m:S→World→Nat)(h0:I s w)
  (h:∀s w,I s w→∀KN:S→World→Prop,(∀s' w',I s' w' →m s' w' <m s w→KN s' w')→body s w KN):LoopW body s w:=
 ⟨⟨I,m,h0,λs w hi=>h s w hi _ λ_ _ h1 h2=>⟨h1,h2⟩⟩⟩
def lptr(l:Nat):Value:=.pointer (some ⟨l,0,none⟩)
def cellsAc(a:Ac):List Value:=[.int .u32 a.num,.int .i64 a.cash,.bool a.kil,.bool a.dfl]
def acV(a:Ac):Value:=.agg #[.int .u32 a.num,.int .i64 a.cash,.bool a.kil,.bool a.dfl]
def cellsPo(p:Po):List Value:=[.int .u32 p.c,.int .u32 p.a,.int .i64 p.q,.int .i64 p.b]
def poV(p:Po):Value:=.agg #[.int .u32 p.c,.int .u32 p.a,.int .i64 p.q,.int .i64 p.b]
def encU(n:Int):Value:=.int .u32 n
def encKey(k:Int×Int):Value:=.agg #[.int .u32 k.1,.int .u32 k.2]
theorem uU32:Tryz.prog.underlying 35=some (.int .u32):=by kernel_rfl
theorem kU32:KeyT Tryz.prog 35 encU:=KeyT.int uU32
theorem uKey:Tryz.prog.underlying 224=some (.struct (Tryz.prog.fieldsOf 224)):=by kernel_rfl
theorem fKey:Tryz.prog.fieldsOf 224= #[{name:= "contract",type:=35,offset:=0,embedded:=false,tag:= "",pkgPath:= "broadside/ledger",byteOffset:=0},{name:= "account",type:=35,offset:=1,embedded:=false,tag:= "",pkgPath:= "broadside/ledger",byteOffset:=4}]:=by kernel_rfl
theorem ckU32(b:Bool)(n:Nat)(k:IntKind)(f:Int)(w:World):(Instr.checkKey b (n+1) 35 (.int k f)).run Tryz.prog w=.ok () w:=by
 unfold Instr.checkKey
 simp[go_sem]
theorem eqKey(w:World)(x y:Int×Int):(Op.equal 224 (encKey x) (encKey y)).run Tryz.prog w=.ok (decide (x=y)) w:=by
 have h:Tryz.prog.stoodInHeld 224=false:=by kernel_rfl
 obtain⟨f,a⟩:=x
 obtain⟨f',a'⟩:=y
 unfold Op.equal Op.maxDepth encKey
 rw[run_equalIn_struct w 9999 224 _ _ uKey h,fKey]
 have e1:∀(x y:Int) (w:World),(Op.equalIn 9999 35 (.int .u32 x) (.int .u32 y)).run Tryz.prog w=.ok (x==y) w:=λx y w=>run_equalIn_int w 9998 35 .u32 .u32 x y (by kernel_rfl)
 simp[Op.eqFields,part,isAgg,go_sem,e1]
 by_cases h1:f=f' <;>by_cases h2:a=a' <;>simp_all
theorem ckKey(w:World)(b:Bool)(x:Int×Int):(Instr.checkKey b 10000 224 (encKey x)).run Tryz.prog w=.ok () w:=by
 obtain⟨f,a⟩:=x
 unfold Instr.checkKey encKey
 have e1:∀(x:Int) (w:World),(Instr.checkKey b 9999 35 (.int .u32 x)).run Tryz.prog w=.ok () w:=λx w=>ckU32 b 9998 .u32 x w
 simp[go_sem,uKey,fKey,e1]
theorem kKey:KeyT Tryz.prog 224 encKey:=
 KeyT.asking uKey (λx y=>rfl) eqKey ckKey (λx=>by simp[encKey,Instr.sameBits])
theorem uMapA:Tryz.prog.underlying 198=some (.map 35 92):=by kernel_rfl
theorem uMapP:Tryz.prog.underlying 199=some (.map 224 112):=by kernel_rfl
theorem zAc:zeroOfT Tryz.prog 92=some (acV ⟨0,0,false,false⟩):=by kernel_rfl
structure LedQ(w:World)(l:Nat)(F:Nat→Prop)(S:Led):Prop where
 out:∃m1 m2 A B,hp w l=some (.cells #[.map (some m1),.map (some m2)] 201 (0,0))∧MapAt encU acV w m1 A∧MapAt encKey poV w m2 B∧A.Perm S.accs∧B.Perm S.poss∧
  (∀b,F b↔b=l∨b=m1∨b=m2)∧l≠m1∧l≠m2∧m1≠m2
 ok:S.Ok
theorem LedQ.mod{F G:Nat→Prop}{w w' :World}{l:Nat}{S:Led}(h:LedQ w l F S)(hm:Mod G w w')(hd:∀b,F b→¬G b):LedQ w' l F S:=by
 obtain⟨⟨m1,m2,A,B,h1,h2,h3,h4,h5,h6,h7⟩,hok⟩:=h
 exact⟨⟨m1,m2,A,B,hm.keep h1 (hd l ((h6 l).2 (.inl rfl))),h2.mod hm (hd m1 ((h6 m1).2 (.inr (.inl rfl)))),h3.mod hm (hd m2 ((h6 m2).2 (.inr (.inr rfl)))),h4,h5,h6,h7⟩,hok⟩
theorem LedQ.lt{F:Nat→Prop}{w:World}{l:Nat}{S:Led}(h:LedQ w l F S){b:Nat}(hb:F b):b<w.heap.size:=by
 obtain⟨⟨m1,m2,A,B,h1,h2,h3,h4,h5,h6,h7⟩,hok⟩:=h
 rcases(h6 b).1 hb with rfl|rfl|rfl
 ·exact lt_of_heap h1
 ·exact h2.lt
 ·exact h3.lt
theorem ca_within{n lo hi:Int}{w:World}{K:Kont}(hK:K (.bool (amongB n lo hi)) w):Ca Tryz.prog 194 #[.int .i64 n,.int .i64 lo,.int .i64 hi] w K:=by
 apply ca194
 unfold F194
 simp[go_sem]
 unfold amongB at hK
 split
 ·rename_i h
  have e:decide (lo≤n∧n≤hi)=decide (n≤hi):=by rw[decide_eq_decide];omega
  rw[←e];exact hK
 ·rename_i h
  have e:decide (lo≤n∧n≤hi)=false:=by rw[decide_eq_false_iff_not];omega
  rw[e]at hK;exact hK
theorem ca_ready{w:World}{l:Nat}{F:Nat→Prop}{S:Led}{K:Kont}(h:LedQ w l F S)(hK:K (.bool true) w):Ca Tryz.prog 136 #[lptr l] w K:=by
 obtain⟨⟨m1,m2,A,B,h1,h2,h3,h4,h5,h6,h7⟩,hok⟩:=h
 apply ca136
 unfold F136
 simp[go_sem,lptr,h1]
 exact hK
theorem ca_funds{w:World}{l:Nat}{F:Nat→Prop}{S:Led}{K:Kont}(h:LedQ w l F S)(hK:∀w',Mod (λ_=>False) w w' →K (.int .i64 S.funds) w'):Ca Tryz.prog 195 #[lptr l] w K:=by
 have h0:=h
 obtain⟨⟨m1,m2,A,B,h1,h2,h3,h4,h5,h6,h7⟩,hok⟩:=h
 apply ca195
 unfold F195
 refine ca_ready h0 ?_
 simp[go_sem,lptr,h1]
 refine rx_range uMapA h2 λw1 it1 mod1=>?_
 generalize hg:w.heap.size=it at it1
 refine loopK (λs W=>∃(x:Int) (rest:List (Int×Ac)),s=(.int .i64 x,())∧MapIt encU acV W it m1 rest∧Mod (λ_=>False) w W∧x+(rest.map (·.2.cash)).sum=S.funds∧0≤x∧∀p∈rest,0≤p.2.cash)
  (λs W=>itLeft it m1 W) ?_ ?_
 ·refine⟨0,A,rfl,it1,mod1,?_,by omega,λp hp=>?_⟩
  ·rw[perm_sum (h4.map (·.2.cash))]
   simp[Led.accs,fundAc,Led.funds,Function.comp_def]
  ·have:=h4.mem_iff.1 hp
   simp only[Led.accs,List.mem_cons,List.mem_map]at this
   rcases this with rfl|⟨a,ha,rfl⟩
   ·exact hok.fund.1
   ·exact(hok.acc a ha).2.2.1
 ·rintro⟨_,_⟩ W ⟨x,rest,⟨⟩,itW,mW,hs,hx0,hr⟩ KN hKN
  unfold L195_0
  intro _
  refine rx_next itW ?_ ?_
  ·intro h0 w' m' _
   subst h0
   have:x=S.funds:=by simpa using hs
   simp[go_sem]
   rw[this]
   exact hK _ (mW.trans m')
  ·intro i p hi w' it' cur' m' hsz
   simp[go_sem]
   refine rx_entry cur' ?_
   simp[go_sem,acV]
   have hpe:=perm_eraseIdx hi
   have e1:p.2.cash+((rest.eraseIdx i).map (·.2.cash)).sum=(rest.map (·.2.cash)).sum:=by
    rw[perm_sum (hpe.map (·.2.cash))];simp
   have hp0:=hr p (List.mem_of_getElem? hi)
   have hr' :∀q∈rest.eraseIdx i,0≤q.2.cash:=λq hq=>hr q (List.mem_of_mem_eraseIdx hq)
   have hpos:0≤((rest.eraseIdx i).map (·.2.cash)).sum:=by
    clear hpe e1 hi it' hKN
    generalize rest.eraseIdx i=l at hr'
    induction l with
    |nil=>simp
    |cons q l ih=>
     have:=hr' q List.mem_cons_self
     have:=ih λy hy=>hr' y (List.mem_cons_of_mem _ hy)
     simp only[List.map_cons,List.sum_cons];omega
   have hfs:=hok.funds.2
   have hwr:IntKind.i64.wrap (x+p.2.cash)=x+p.2.cash:=by
    rw[IntKind.wrap_i64];simp only[MF]at hfs;omega
   rw[hwr]
   have mA:∀o,Mod (λ_=>False) w (w'.alloc o):=λo=>(mW.on m' λb hb=>.inr (by subst hb;omega)).alloc o
   have itA:∀o,MapIt encU acV (w'.alloc o) it m1 (rest.eraseIdx i):=λo=>it'.mod ((Mod.refl (λ_=>False) w').alloc o) id id
   refine hKN _ _ ⟨_,_,rfl,itA _,mA _,by omega,by omega,hr'⟩ ?_
   rw[(itA _).left,itW.left,List.length_eraseIdx]
   have:i<rest.length:=(List.getElem?_eq_some_iff.1 hi).1
   rw[if_pos this];omega
theorem elim_acV(o:Option Ac):o.elim (acV ⟨0,0,false,false⟩) acV=acV (o.getD ⟨0,0,false,false⟩):=by cases o<;>rfl
theorem LedQ.lkA{A:List (Int×Ac)}{S:Led}{w:World}{m1:Nat}(h2:MapAt encU acV w m1 A)(h4:A.Perm S.accs)(n:Int):lk A n=S.getO n:=by
 rw[lk_perm h2.1 h4,S.lk_accs]
theorem LedQ.lkP{B:List ((Int×Int)×Po)}{S:Led}{w:World}{m2:Nat}(h3:MapAt encKey poV w m2 B)(h5:B.Perm S.poss)(k:Int×Int):lk B k=S.pos? k:=by
 rw[lk_perm h3.1 h5,S.lk_poss]
theorem LedQ.putA{w w' :World}{l m1 m2:Nat}{F:Nat→Prop}{S:Led}{A:List (Int×Ac)}{B:List ((Int×Int)×Po)}(h1:hp w l=some (.cells #[.map (some m1),.map (some m2)] 201 (0,0)))
  (h2:MapAt encU acV w m1 A)(h3:MapAt encKey poV w m2 B)(h4:A.Perm S.accs)(h5:B.Perm S.poss)(h6:∀b,F b↔b=l∨b=m1∨b=m2)(h7:l≠m1∧l≠m2∧m1≠m2)(hok:S.Ok)(a:Ac)
  (ha:a.num=0→a=fundAc a.cash)(hok' :(S.putA a).Ok)(hA:MapAt encU acV w' m1 (put A a.num a))(hm:Mod (λb=>b=m1) w w'):LedQ w' l F (S.putA a):=by
 refine⟨⟨m1,m2,_,B,hm.keep h1 h7.1,hA,h3.mod hm (λe=>h7.2.2 e.symm),hok.put_accs h2.1 h4 a ha,?_,h6,h7⟩,hok'⟩
 rw[show(S.putA a).poss=S.poss by unfold Led.putA;split<;>rfl]
 exact h5
theorem ca_deposit{w:World}{l:Nat}{F:Nat→Prop}{S:Led}{K:Kont}{n m:Int}(h:LedQ w l F S)(hn:0≤n∧n<4294967296)
  (hK:∀w',LedQ w' l F (S.deposit n m).2→Mod F w w' →K (.int .i64 (S.deposit n m).1) w'):Ca Tryz.prog 112 #[lptr l,.int .u32 n,.int .i64 m] w K:=by
 have h0:=h
 obtain⟨⟨m1,m2,A,B,h1,h2,h3,h4,h5,h6,h7⟩,hok⟩:=h
 apply ca112
 unfold F112
 refine ca_ready h0 ?_
 simp[go_sem,lptr,h1]
 refine rx_look2 (enc:=encU) (ev:=acV) (x:=n) (acV ⟨0,0,false,false⟩) uMapA kU32 zAc (.inr ⟨m1,rfl,h2⟩) ?_
 rw[elim_acV,LedQ.lkA h2 h4]
 generalize hb:(S.getO n).getD ⟨0,0,false,false⟩=a
 simp[go_sem,acV]
 refine ca_within ?_
 have hlt:=lt_of_heap h1
 have hM:amongB m 1 1000000000000000=amongB m 1 MF:=rfl
 rw[hM]
 have hMF:MF=1000000000000000:=rfl
 generalize hw1:w.alloc (.cells #[.int .u32 a.num,.int .i64 a.cash,.bool a.kil,.bool a.dfl] 92)=w1
 have m1' :Mod (λ_=>False) w w1:=by subst hw1;exact(Mod.refl _ w).alloc _
 have hloc:hp w1 w.heap.size=some (.cells #[.int .u32 a.num,.int .i64 a.cash,.bool a.kil,.bool a.dfl] 92 (0,0)):=by subst hw1;simp[go_sem]
 have h1w:=m1'.keep h1 id
 have h2w:=h2.mod m1' id
 have q1:=h0.mod m1' λ_ _ h=>h
 simp[go_sem,hp_of h1w,run_lenMap uMapA h2w,(show Tryz.prog.underlying 3=some (.int .i64)from by kernel_rfl)]
 have hlen:A.length=S.all.length+1:=by rw[h4.length_eq];simp[Led.accs]
 unfold Led.deposit at hK
 by_cases hm:amongB m 1 MF=true
 ·have hmr:1≤m∧m≤1000000000000000:=amongB_iff.1 hm
  rw[if_pos hm]at hK⊢
  refine JoinW.at (λs W=>s=(.bool (decide (S.getO n=none∧64≤S.all.length)),())∧W=w1) ?_ ?_
  ·split
   ·rename_i hg
    refine⟨?_,rfl⟩
    congr 2
    rw[decide_eq_decide]
    simp[hg,hlen];omega
   ·rename_i hg
    refine⟨?_,rfl⟩
    simp[hg]
  rintro _ W ⟨rfl,rfl⟩
  unfold J112_0
  intro _
  by_cases hf:S.getO n=none∧64≤S.all.length
  ·rw[if_pos hf]at hK
   simp only[decide_eq_true hf,ifB_bool,if_true]
   exact hK _ q1 (m1'.mono λ_ _ h=>h.elim)
  ·rw[if_neg hf]at hK
   simp only[decide_eq_false hf,ifB_bool,Bool.false_eq_true,if_false]
   refine ca_funds q1 λw2 m2' =>?_
   have hfr:=hok.funds
   have hloc2:=m2'.keep hloc id
   have h1x:=m2'.keep h1w id
   have h2x:=h2w.mod m2' id
   have h3x:=(h3.mod m1' id).mod m2' id
   have m12:=m1'.trans m2'
   have hwr:IntKind.i64.wrap (S.funds+m)=S.funds+m:=by rw[IntKind.wrap_i64];omega
   simp[go_sem,hwr,hp_of hloc2,hp_of h1x]
   by_cases ho:S.funds+m>MF
   ·rw[if_pos ho]at hK
    rw[if_pos (by omega)]
    exact hK _ (q1.mod m2' λ_ _ h=>h) (m12.mono λ_ _ h=>h.elim)
   ·rw[if_neg ho]at hK
    rw[if_neg (by omega)]
    rw[hb]at hK
    have hac:0≤a.cash∧a.cash≤MF∧(n=0→a.kil=false∧a.dfl=false):=by
     cases hg:S.getO n with
     |none=>
      rw[hg]at hb;subst hb
      exact⟨by simp,by simp[MF],λ_=>⟨rfl,rfl⟩⟩
     |some x=>
      rw[hg]at hb
      simp only[Option.getD_some]at hb
      subst hb
      obtain⟨g1,g2,g3,g4,g5,g6⟩:=hok.getO hg
      refine⟨g4,g5,λhn=>?_⟩
      have:=g6 (g1.trans hn)
      rw[this];exact⟨rfl,rfl⟩
    have hwr2:IntKind.i64.wrap (a.cash+m)=a.cash+m:=by rw[IntKind.wrap_i64];omega
    have hne:l≠w.heap.size:=by omega
    simp[go_sem,hwr2,hp_of hloc2,hp_of h1x,hne]
    generalize hw3:(w2.setCell ⟨w.heap.size,0,none⟩ (.int .u32 n)).setCell ⟨w.heap.size,1,none⟩ (.int .i64 (a.cash+m))=w3
    have m3:Mod (λb=>b=w.heap.size) w2 w3:=by subst hw3;exact((Mod.refl _ w2).setCell (by simp) _ _).setCell (by simp) _ _
    have m13:Mod (λ_=>False) w w3:=m12.on m3 λb hb=>.inr (by omega)
    let a' :Ac:={a with num:=n,cash:=a.cash+m}
    refine rux_mapUp (enc:=encU) (ev:=acV) (x:=n) (v:=a') uMapA kU32 ((h2.mod m13 id).mod ((Mod.refl (λ_=>False) w3).drew) id) λw4 hA m4 hs4=>?_
    have m4' :Mod (λb=>b=m1) w3 w4:=((Mod.refl _ w3).drew).trans m4
    have hcash:a.cash≤S.funds:=by
     cases hg:S.getO n with
     |none=>rw[hg]at hb;subst hb;exact hfr.1
     |some x=>
      rw[hg]at hb
      simp only[Option.getD_some]at hb
      subst hb
      exact hok.cash_le hg
    refine hK w4 (LedQ.putA (a:=a') (m13.keep h1 id) (h2.mod m13 id) (h3.mod m13 id) h4 h5 h6 h7 hok ?_ ?_ hA m4') ?_
    ·intro hn0
     have:=hac.2.2 hn0
     simp only[fundAc,a',this,Ac.mk.injEq,and_true,true_and]
     exact hn0
    ·refine hok.putA hn ⟨by simp only[a'];omega,by simp only[a'];omega⟩ ?_
     simp only[a']
     by_cases hn0:n=0
     ·exact .inr (.inr hn0)
     ·by_cases hg:S.getO n=none
      ·exact .inr (.inl (Nat.lt_of_not_le λh=>hf ⟨hg,h⟩))
      ·refine .inl ?_
       unfold Led.getO at hg
       rwa[if_neg hn0]at hg
    ·exact(m13.mono λ_ _ h=>h.elim).on m4' λb hb=>.inl ((h6 b).2 (.inr (.inl hb)))
 ·simp only[Bool.not_eq_true]at hm
  rw[if_neg (by simp[hm])]at hK
  rw[if_neg (by simp[hm])]
  exact hK _ q1 (m1'.mono λ_ _ h=>h.elim)
end Go.Proofs
namespace Go.Proofs
open Go Go.Vc
theorem getO_find{S:Led}{n:Int}(h:n≠0):S.getO n=S.find n:=by unfold Led.getO;rw[if_neg h]
theorem ca_withdraw{w:World}{l:Nat}{F:Nat→Prop}{S:Led}{K:Kont}{n m:Int}(h:LedQ w l F S)(hn:0≤n∧n<4294967296)
  (hK:∀w',LedQ w' l F (S.withdraw n m).2→Mod F w w' →K (.int .i64 (S.withdraw n m).1) w'):Ca Tryz.prog 196 #[lptr l,.int .u32 n,.int .i64 m] w K:=by
 have h0:=h
 obtain⟨⟨m1,m2,A,B,h1,h2,h3,h4,h5,h6,h7⟩,hok⟩:=h
 apply ca196
 unfold F196
 refine ca_ready h0 ?_
 simp[go_sem,lptr,h1]
 refine rx_look2 (enc:=encU) (ev:=acV) (x:=n) (acV ⟨0,0,false,false⟩) uMapA kU32 zAc (.inr ⟨m1,rfl,h2⟩) ?_
 rw[elim_acV,LedQ.lkA h2 h4]
 generalize hb:(S.getO n).getD ⟨0,0,false,false⟩=a
 have hlt:=lt_of_heap h1
 simp[go_sem,acV]
 generalize hw1:w.alloc (.cells #[.int .u32 a.num,.int .i64 a.cash,.bool a.kil,.bool a.dfl] 92)=w1
 have m1' :Mod (λ_=>False) w w1:=by subst hw1;exact(Mod.refl _ w).alloc _
 have hloc:hp w1 w.heap.size=some (.cells #[.int .u32 a.num,.int .i64 a.cash,.bool a.kil,.bool a.dfl] 92 (0,0)):=by subst hw1;simp[go_sem]
 have h1w:=m1'.keep h1 id
 have h2w:=h2.mod m1' id
 have q1:=h0.mod m1' λ_ _ h=>h
 have mF:Mod F w w1:=m1'.mono λ_ _ h=>h.elim
 have hMF:MF=1000000000000000:=rfl
 unfold Led.withdraw at hK
 refine JoinW.at (λs W=>s=(.bool (decide (n=0∨amongB m 1 MF=false)),())∧W=w1) ?_ ?_
 ·by_cases hn0:n=0
  ·simp[go_sem,hn0]
  ·simp[go_sem,hn0]
   refine ca_within ?_
   have hM:amongB m 1 1000000000000000=amongB m 1 MF:=rfl
   simp[go_sem,hM]
 rintro _ W ⟨rfl,rfl⟩
 unfold J196_0
 intro _
 by_cases hc:n=0∨amongB m 1 MF=false
 ·rw[if_pos hc]at hK
  simp only[decide_eq_true hc,ifB_bool,if_true]
  exact hK _ q1 mF
 ·rw[if_neg hc]at hK
  simp only[decide_eq_false hc,ifB_bool,Bool.false_eq_true,if_false]
  obtain⟨hn0,hm0⟩:n≠0∧amongB m 1 MF=true:=⟨λe=>hc (.inl e),by cases h:amongB m 1 MF with|true=>rfl|false=>exact absurd (.inr h) hc⟩
  have hmr:=amongB_iff.1 hm0
  rw[getO_find hn0]at hb
  rw[getO_find hn0]
  cases hg:S.find n with
  |none=>
   rw[hg]at hK
   simp[go_sem]
   exact hK _ q1 mF
  |some x=>
   rw[hg]at hK hb
   simp only[Option.getD_some]at hb
   subst hb
   obtain⟨hx,hxn⟩:=Led.find_mem hg
   obtain⟨g1,g2,g3,g4⟩:=hok.acc x hx
   simp only at hK
   simp[go_sem,hp_of hloc]
   by_cases hcash:x.cash<m
   ·rw[if_pos hcash]at hK⊢
    exact hK _ q1 mF
   ·rw[if_neg hcash]at hK⊢
    have hwr2:IntKind.i64.wrap (x.cash - m)=x.cash - m:=by rw[IntKind.wrap_i64];omega
    have hne:l≠w.heap.size:=by omega
    simp[go_sem,hwr2,hp_of hloc,hp_of h1w,hne]
    generalize hw3:(W.setCell ⟨w.heap.size,1,none⟩ (.int .i64 (x.cash - m)))=w3
    have m3:Mod (λb=>b=w.heap.size) W w3:=by subst hw3;exact((Mod.refl _ W).setCell (by simp) _ _)
    have m13:Mod (λ_=>False) w w3:=m1'.on m3 λb hb=>.inr (by omega)
    let a' :Ac:={x with cash:=x.cash - m}
    have hnum:a'.num=n:=hxn
    have hcell:∀W:World,∀K:World→Prop,rux Tryz.prog (xMapUp 198 (.map (some m1)) (encU a'.num) (acV a')) W K→rux Tryz.prog (xMapUp 198 (.map (some m1)) (.int .u32 n) (.agg #[.int .u32 x.num,.int .i64 (x.cash - m),.bool x.kil,.bool x.dfl])) W K:=by
     intro W K h
     have:encU a'.num=.int .u32 n:=by rw[hnum];rfl
     rw[this]at h
     exact h
    refine hcell _ _ ?_
    refine rux_mapUp (enc:=encU) (ev:=acV) uMapA kU32 ((h2.mod m13 id).mod ((Mod.refl (λ_=>False) w3).drew) id) λw4 hA m4 hs4=>?_
    have m4' :Mod (λb=>b=m1) w3 w4:=((Mod.refl _ w3).drew).trans m4
    refine hK w4 (LedQ.putA (a:=a') (m13.keep h1 id) (h2.mod m13 id) (h3.mod m13 id) h4 h5 h6 h7 hok ?_ ?_ hA m4') ?_
    ·intro hz;exact absurd (hz.symm.trans hnum).symm hn0
    ·refine hok.putA ⟨by rw[hnum];omega,by rw[hnum];omega⟩ ⟨by simp only[a'];omega,by simp only[a'];omega⟩ (.inl ?_)
     rw[hnum,hg]
     simp
    ·exact(m13.mono λ_ _ h=>h.elim).on m4' λb hb=>.inl ((h6 b).2 (.inr (.inl hb)))
def Led.getV(S:Led)(n:Int):Ac×Int:=((S.getO n).getD ⟨0,0,false,false⟩,if S.getO n=none then 7 else 0)
theorem ca_get{w:World}{l:Nat}{F:Nat→Prop}{S:Led}{K:Kont}{n:Int}(h:LedQ w l F S)
  (hK:∀w',Mod (λ_=>False) w w' →K (.tuple #[acV (S.getV n).1,.int .i64 (S.getV n).2]) w'):Ca Tryz.prog 52 #[lptr l,.int .u32 n] w K:=by
 have h0:=h
 obtain⟨⟨m1,m2,A,B,h1,h2,h3,h4,h5,h6,h7⟩,hok⟩:=h
 have hlt:=lt_of_heap h1
 apply ca52
 unfold F52
 simp[go_sem]
 generalize hw1:w.alloc _=w1
 have m1' :Mod (λ_=>False) w w1:=by subst hw1;exact(Mod.refl _ w).alloc _
 have hloc:hp w1 w.heap.size=some (.cells #[.int .u32 0,.int .i64 0,.bool false,.bool false] 92 (0,0)):=by subst hw1;simp[go_sem]
 have q1:=h0.mod m1' λ_ _ h=>h
 refine ca_ready q1 ?_
 have h1w:=m1'.keep h1 id
 have h2w:=h2.mod m1' id
 simp[go_sem,lptr,hp_of h1w]
 refine rx_look2 (enc:=encU) (ev:=acV) (x:=n) (acV ⟨0,0,false,false⟩) uMapA kU32 zAc (.inr ⟨m1,rfl,h2w⟩) ?_
 rw[elim_acV,LedQ.lkA h2 h4]
 have hlt1:=lt_of_heap hloc
 have hne:w.heap.size≠w1.heap.size:=by omega
 unfold Led.getV at hK
 cases hg:S.getO n with
 |none=>
  rw[hg]at hK
  simp[go_sem,acV,hp_of hloc,hne]
  refine hK _ ?_
  exact((((m1'.alloc _).setCell (.inr (Nat.le_refl _)) _ _).setCell (.inr (Nat.le_refl _)) _ _).setCell (.inr (Nat.le_refl _)) _ _).setCell (.inr (Nat.le_refl _)) _ _
 |some x=>
  rw[hg]at hK
  simp[go_sem,acV,hp_of hloc,hne]
  refine hK _ ?_
  exact((((m1'.alloc _).setCell (.inr (Nat.le_refl _)) _ _).setCell (.inr (Nat.le_refl _)) _ _).setCell (.inr (Nat.le_refl _)) _ _).setCell (.inr (Nat.le_refl _)) _ _
end Go.Proofs
namespace Go.Proofs
open Go Go.Vc
theorem ca_size{a:Int}{w:World}{K:Kont}(ha: -9223372036854775808≤a∧a<9223372036854775808)(hK:K (.tuple #[.int .u64 (if a<0 then -a else a),.bool (decide (a<0))]) w):Ca Tryz.prog 221 #[.int .i64 a] w K:=by
 apply ca221
 unfold F221
 simp[go_sem]
 by_cases h:a<0
 ·rw[if_pos h]at hK⊢
  have e1:IntKind.u64.wrap a=a+18446744073709551616:=by
   simp[IntKind.wrap,IntKind.bits,IntKind.signed];omega
  have e2:IntKind.u64.wrap (-(a+18446744073709551616))= -a:=by
   simp[IntKind.wrap,IntKind.bits,IntKind.signed];omega
  simp[e1,e2,h]at hK⊢
  exact hK
 ·rw[if_neg h]at hK⊢
  have e1:IntKind.u64.wrap a=a:=by
   simp[IntKind.wrap,IntKind.bits,IntKind.signed];omega
  simp[e1,h]at hK⊢
  exact hK
theorem ca_Within{a m:Int}{w:World}{K:Kont}(ha: -9223372036854775808≤a∧a<9223372036854775808)(hm:0≤m∧m<9223372036854775808)(hK:K (.bool (amongB a (-m) m)) w):Ca Tryz.prog 130 #[.int .i64 a,.int .i64 m] w K:=by
 apply ca130
 unfold F130
 refine ca_size ha ?_
 have e1:IntKind.u64.wrap m=m:=by
  simp[IntKind.wrap,IntKind.bits,IntKind.signed];omega
 simp[go_sem,e1,hm.1]
 have e:amongB a (-m) m=decide ((if a<0 then -a else a)≤m):=by
  unfold amongB
  rw[decide_eq_decide]
  split<;>omega
 rw[e]at hK
 exact hK
end Go.Proofs
namespace Go.Proofs
open Go Go.Vc
theorem ca_set{w:World}{l:Nat}{F:Nat→Prop}{S:Led}{K:Kont}{a:Ac}(h:LedQ w l F S)(hn:0≤a.num∧a.num<4294967296)
  (hK:∀w',LedQ w' l F (S.set a).2→Mod F w w' →K (.int .i64 (S.set a).1) w'):Ca Tryz.prog 125 #[lptr l,acV a] w K:=by
 have h0:=h
 obtain⟨⟨m1,m2,A,B,h1,h2,h3,h4,h5,h6,h7⟩,hok⟩:=h
 have hlt:=lt_of_heap h1
 have hA1:=h2.lt
 have hB1:=h3.lt
 apply ca125
 unfold F125
 simp[go_sem,acV]
 generalize hw1:World.alloc _ _=w1
 have m1' :Mod (λ_=>False) w w1:=by subst hw1;exact(Mod.refl _ w).alloc _
 have hloc:hp w1 w.heap.size=some (.cells #[.int .u32 a.num,.int .i64 a.cash,.bool a.kil,.bool a.dfl] 92 (0,0)):=by subst hw1;simp[go_sem]
 have h1w:=m1'.keep h1 id
 have q1:=h0.mod m1' λ_ _ h=>h
 have mF:Mod F w w1:=m1'.mono λ_ _ h=>h.elim
 refine ca_ready q1 ?_
 simp[go_sem]
 unfold Led.set at hK
 have hM:amongB a.cash 0 1000000000000000=amongB a.cash 0 MF:=rfl
 refine JoinW.at (λs W=>s=(.bool (decide (amongB a.cash 0 MF=false∨(a.num=0∧(a.kil=true∨a.dfl=true)))),())∧W=w1) ?_ ?_
 ·simp[go_sem,hp_of hloc]
  refine ca_within ?_
  rw[hM]
  cases hc:amongB a.cash 0 MF
  ·simp[go_sem]
  ·simp[go_sem,hp_of hloc]
   by_cases hn0:a.num=0
   ·simp[hn0]
    cases a.kil<;>simp
   ·simp[hn0]
 rintro _ W ⟨rfl,rfl⟩
 unfold J125_0
 intro _
 by_cases hc:amongB a.cash 0 MF=false∨(a.num=0∧(a.kil=true∨a.dfl=true))
 ·rw[if_pos hc]at hK
  simp only[decide_eq_true hc,ifB_bool,if_true]
  exact hK _ q1 mF
 ·rw[if_neg hc]at hK
  simp only[decide_eq_false hc,ifB_bool,Bool.false_eq_true,if_false]
  have hcash:0≤a.cash∧a.cash≤MF:=amongB_iff.1 (by cases h:amongB a.cash 0 MF with|true=>rfl|false=>exact absurd (.inl h) hc)
  have h2d:∀W',Mod (λ_=>False) W W' →MapAt encU acV W' m1 A:=λW' m=>(h2.mod m1' id).mod m id
  simp[go_sem,lptr,hp_of h1w,hp_of hloc]
  refine rdX_look2 (enc:=encU) (ev:=acV) (x:=a.num) (acV ⟨0,0,false,false⟩) uMapA kU32 zAc (.inr ⟨m1,rfl,h2d _ ((Mod.refl _ W).drew)⟩) ?_
  rw[elim_acV,LedQ.lkA h2 h4]
  generalize hb:(S.getO a.num).getD ⟨0,0,false,false⟩=x
  have hsz:=lt_of_heap hloc
  have hne1:w.heap.size≠W.heap.size:=by omega
  have hne2:l≠W.heap.size:=by omega
  simp[go_sem,acV,hp_of hloc,hp_of h1w,hne1,hne2]
  have hl:∀W',Mod (λ_=>False) W W' →(xLook 198 (.map (some m1)) (.int .u32 a.num) true).run Tryz.prog W' =.ok (.tuple #[acV x,.bool (S.getO a.num).isSome]) W' :=λW' m=>by
   have:=run_look2 (P:=Tryz.prog) (enc:=encU) (ev:=acV) (x:=a.num) uMapA kU32 zAc (.inr ⟨m1,rfl,h2d _ m⟩)
   rw[elim_acV,LedQ.lkA h2 h4,hb]at this
   exact this
  refine⟨hl _ (((Mod.refl _ W).alloc _).drew),?_⟩
  generalize hw3:(World.alloc _ _).drew=w3
  have m3:Mod (λ_=>False) W w3:=by subst hw3;exact((Mod.refl _ W).alloc _).drew
  have m13:=m1'.trans m3
  by_cases hg:S.getO a.num=none
  ·rw[if_pos hg]at hK⊢
   exact hK _ (q1.mod m3 λ_ _ h=>h) (m13.mono λ_ _ h=>h.elim)
  ·rw[if_neg hg]at hK⊢
   refine rux_mapUp (enc:=encU) (ev:=acV) (x:=a.num) (v:=a) uMapA kU32 (h2d _ (m3.drew)) λw4 hA m4 hs4=>?_
   have m4' :Mod (λb=>b=m1) w3 w4:=((Mod.refl _ w3).drew).trans m4
   refine hK w4 (LedQ.putA (a:=a) (m13.keep h1 id) (h2.mod m13 id) (h3.mod m13 id) h4 h5 h6 h7 hok ?_ ?_ hA m4') ?_
   ·intro hz
    have hk:¬(a.kil=true∨a.dfl=true):=λh=>hc (.inr ⟨hz,h⟩)
    obtain⟨num,cash,kil,dfl⟩:=a
    simp only[fundAc,Ac.mk.injEq,true_and]at*
    refine⟨hz,?_,?_⟩
    ·cases kil with
     |false=>rfl
     |true=>exact absurd (.inl rfl) hk
    ·cases dfl with
     |false=>rfl
     |true=>exact absurd (.inr rfl) hk
   ·refine hok.putA hn hcash ?_
    by_cases hn0:a.num=0
    ·exact .inr (.inr hn0)
    ·rw[getO_find hn0]at hg
     exact .inl hg
   ·exact(m13.mono λ_ _ h=>h.elim).on m4' λb hb=>.inl ((h6 b).2 (.inr (.inl hb)))
end Go.Proofs
namespace Go.Proofs
open Go Go.Vc
theorem poE1:elemOk Tryz.prog 112 4 24=true:=by kernel_rfl
end Go.Proofs
namespace Go.Proofs
open Go Go.Vc
section
variable{κ ν:Type} [DecidableEq κ]
theorem perm_of_lk{A B:List (κ×ν)}(hA:(A.map (·.1)).Nodup)(hB:(B.map (·.1)).Nodup)(h:∀k,lk A k=lk B k):A.Perm B:=by
 have nd:∀L:List (κ×ν),(L.map (·.1)).Nodup→L.Nodup:=λL hL=>by
  rw[List.Nodup,List.pairwise_map]at hL
  exact hL.imp λhne e=>hne (by rw[e])
 refine(List.perm_ext_iff_of_nodup (nd A hA) (nd B hB)).2 λ⟨k,v⟩=>?_
 rw[←lk_iff hA,←lk_iff hB,h]
theorem lk_eraseIdx{R:List (κ×ν)}(hn:(R.map (·.1)).Nodup){i:Nat}{p:κ×ν}(h:R[i]? =some p):((R.eraseIdx i).map (·.1)).Nodup∧lk R p.1=some p.2∧lk (R.eraseIdx i) p.1=none∧∀k,k≠p.1→lk (R.eraseIdx i) k=lk R k:=by
 have hp:=perm_eraseIdx h
 have hn' :((p::R.eraseIdx i).map (·.1)).Nodup:=(hp.map _).nodup_iff.1 hn
 simp only[List.map_cons,List.nodup_cons]at hn'
 refine⟨hn'.2,by rw[lk_perm hn hp];simp[lk],lk_none_of_notMem hn'.1,λk hk=>?_⟩
 rw[lk_perm hn hp]
 simp[lk,Ne.symm hk]
def CopyInv(A R C:List (κ×ν)):Prop:=(R.map (·.1)).Nodup∧∀k,(lk R k).or (lk C k)=lk A k
theorem CopyInv.step{A R C:List (κ×ν)}(h:CopyInv A R C){i:Nat}{p:κ×ν}(hi:R[i]? =some p):CopyInv A (R.eraseIdx i) (put C p.1 p.2):=by
 obtain⟨hn,hk⟩:=h
 obtain⟨h1,h2,h3,h4⟩:=lk_eraseIdx hn hi
 refine⟨h1,λk=>?_⟩
 rw[lk_put]
 by_cases e:k=p.1
 ·subst e
  rw[h3,if_pos rfl,Option.none_or,←hk,h2,Option.some_or]
 ·rw[h4 k e,if_neg (λh=>e h.symm)]
  exact hk k
theorem CopyInv.done{A C:List (κ×ν)}(h:CopyInv A [] C)(hA:(A.map (·.1)).Nodup)(hC:(C.map (·.1)).Nodup):C.Perm A:=
 perm_of_lk hC hA λk=>by have:=h.2 k;simpa [lk]using this
end
def Led.empty:Led:=⟨0,[],[]⟩
theorem Led.empty_ok:Led.empty.Ok where
 fund:=by simp[Led.empty,MF]
 sa:=List.Pairwise.nil
 sp:=List.Pairwise.nil
 len:=by simp[Led.empty]
 acc:=by simp[Led.empty]
 pos:=by simp[Led.empty]
theorem ca_new{w:World}{K:Kont}(hK:∀w' l F,LedQ w' l F Led.empty→Mod (λ_=>False) w w' →(∀b,F b→w.heap.size≤b)→K (lptr l) w'):Ca Tryz.prog 36 #[] w K:=by
 apply ca36
 unfold F36
 simp[go_sem]
 have hm:=MapAt.new (enc:=encU) (ev:=acV) w
 refine rux_mapUp (enc:=encU) (ev:=acV) (x:=0) (v:=⟨0,0,false,false⟩) uMapA kU32 hm λw2 hA m2 hs2=>?_
 have mA:Mod (λ_=>False) w w2:=((Mod.refl (λ_=>False) w).alloc _).on m2 λb hb=>.inr (by omega)
 have hs:w2.heap.size=w.heap.size+1:=by rw[hs2,World.size_alloc]
 (try simp[go_sem])
 generalize hw3:(w2.alloc (.map #[] 0)).alloc _=w3
 have m3:Mod (λ_=>False) w2 w3:=by subst hw3;exact((Mod.refl _ w2).alloc _).alloc _
 refine hK w3 (w2.heap.size+1) (λb=>b=w2.heap.size+1∨b=w.heap.size∨b=w2.heap.size) ⟨⟨w.heap.size,w2.heap.size,_,[],?_,hA.mod m3 id,?_,?_,List.Perm.refl _,λ_=>Iff.rfl,by omega,by omega,by omega⟩,Led.empty_ok⟩ (mA.trans m3) λb hb=>by omega
 ·subst hw3;simp[go_sem,hs]
 ·subst hw3
  exact(MapAt.new (enc:=encKey) (ev:=poV) w2).mod ((Mod.refl (λ_=>False) _).alloc _) id
 ·exact List.Perm.refl _
theorem ca_copy{w:World}{l:Nat}{F:Nat→Prop}{S:Led}{K:Kont}(h:LedQ w l F S)(hK:∀w' l' F',LedQ w' l' F' S→Mod (λ_=>False) w w' →(∀b,F' b→w.heap.size≤b)→K (lptr l') w'):Ca Tryz.prog 109 #[lptr l] w K:=by
 have h0:=h
 obtain⟨⟨m1,m2,A,B,h1,h2,h3,h4,h5,h6,h7⟩,hok⟩:=h
 apply ca109
 unfold F109
 refine ca_ready h0 ?_
 simp[go_sem]
 refine ca_new λw1 l' F' q1 n1 f1=>?_
 obtain⟨⟨k1,k2,A',B',c1,c2,c3,c4,c5,c6,c7⟩,-⟩:=q1
 have hk1:w.heap.size≤k1:=f1 k1 ((c6 k1).2 (.inr (.inl rfl)))
 have hk2:w.heap.size≤k2:=f1 k2 ((c6 k2).2 (.inr (.inr rfl)))
 have hl' :w.heap.size≤l' :=f1 l' ((c6 l').2 (.inl rfl))
 have e1:=n1.keep h1 id
 have hlm1:=h2.lt
 have hlm2:=h3.lt
 simp[go_sem,lptr,hp_of e1]
 refine rx_range uMapA (h2.mod n1 id) λw2 it2 n2=>?_
 generalize hg:w1.heap.size=it at it2
 have hitl:=lt_of_heap c1
 have hc2l:=c2.lt
 have hc3l:=c3.lt
 refine loopK (λs W=>∃(R C:List (Int×Ac)),s=()∧MapIt encU acV W it m1 R∧MapAt encU acV W k1 C∧CopyInv A R C∧Mod (λb=>b=it∨b=k1) w1 W)
  (λs W=>itLeft it m1 W) ⟨A,A',rfl,it2,c2.mod n2 id,⟨h2.1,λk=>?_⟩,n2.mono λ_ _ h=>h.elim⟩ ?_
 ·have hA' :∀k,lk A' k=Led.empty.getO k:=λk=>LedQ.lkA c2 c4 k
  rw[hA' k,LedQ.lkA h2 h4]
  unfold Led.getO
  by_cases hz:k=0
  ·simp[hz]
  ·simp only[if_neg hz]
   cases S.find k<;>simp[Led.find,Led.empty]
 rintro _ W ⟨R,C,rfl,itW,cW,inv,mW⟩ KN hKN
 unfold L109_1
 intro _
 refine rx_next itW ?_ ?_
 ·intro hz w' m' hh
  subst hz
  have mW' :Mod (λb=>b=it∨b=k1) w1 w' :=mW.trans (m'.mono λ_ _ h=>h.elim)
  have e1' :=mW'.keep e1 (by have:=lt_of_heap h1;omega)
  simp[go_sem,hp_of e1']
  have mF:Mod (λ_=>False) w w' :=n1.on mW' λb hb=>.inr (by have:=n1.size;omega)
  refine rx_range uMapP (h3.mod mF id) λw4 it4 n4=>?_
  generalize hg4:w'.heap.size=jt at it4
  have cA:=((inv.done h2.1 cW.1).trans h4)
  have cW4:=(cW.mod m' id).mod n4 id
  have hjt:it<jt∧k1<jt∧k2<jt∧l' <jt:=by
   have:=mW'.size
   have:=itW.lt.2
   have:=m'.size
   omega
  have c1' :hp w4 l' =some (.cells #[.map (some k1),.map (some k2)] 201 (0,0)):=n4.keep (mW'.keep c1 (by omega)) id
  refine loopK (λs W=>∃(R C:List ((Int×Int)×Po)),s=()∧MapIt encKey poV W jt m2 R∧MapAt encKey poV W k2 C∧CopyInv B R C∧Mod (λb=>b=jt∨b=k2) w4 W)
   (λs W=>itLeft jt m2 W) ⟨B,B',rfl,it4,(c3.mod mW' (by omega)).mod n4 id,⟨h3.1,λk=>?_⟩,Mod.refl _ _⟩ ?_
  ·have hB' :∀k,lk B' k=Led.empty.pos? k:=λk=>LedQ.lkP c3 c5 k
   rw[hB' k]
   cases lk B k<;>simp[Led.pos?,Led.empty]
  rintro _ W5 ⟨R5,C5,rfl,itW5,cW5,inv5,mW5⟩ KN5 hKN5
  unfold L109_0
  intro _
  refine rx_next itW5 ?_ ?_
  ·intro hz w'' m'' hh''
   subst hz
   simp[go_sem]
   have mW5' :Mod (λb=>b=jt∨b=k2) w4 w'' :=mW5.trans (m''.mono λ_ _ h=>h.elim)
   refine hK w'' l' F' ⟨⟨k1,k2,C,C5,mW5'.keep c1' (by omega),cW4.mod mW5' (by omega),cW5.mod m'' id,cA,(inv5.done h3.1 cW5.1).trans h5,c6,c7⟩,hok⟩ (mF.on ((n4.mono (G:=λb=>b=jt∨b=k2) λ_ _ h=>h.elim).trans mW5') λb hb=>.inr (by have:=mF.size;omega)) f1
  ·intro i p hi w'' it' cur' m'' hsz
   simp[go_sem]
   refine rx_entry cur' ?_
   have c1'' :=(mW5.on m'' λb hb=>.inl (.inl hb)).keep c1' (by show¬(_∨_);omega)
   have hlt:=lt_of_heap c1''
   have hne:l' ≠w''.heap.size:=by omega
   have hne2:l' ≠w''.heap.size+1:=by omega
   simp[go_sem,poV,encKey,lptr,hp_of c1'',hne,hne2]
   generalize hw6:World.drew _=w6
   have m6:Mod (λ_=>False) w'' w6:=by subst hw6;exact(((Mod.refl _ w'').alloc _).alloc _).drew
   refine rux_mapUp (enc:=encKey) (ev:=poV) (x:=p.1) (v:=p.2) uMapP kKey ((cW5.mod m'' (by show¬_=_;omega)).mod m6 id) λw7 hA m7 hs7=>?_
   have it7:MapIt encKey poV w7 jt m2 (R5.eraseIdx i):=(it'.mod m6 id id).mod m7 (by omega) (by omega)
   refine hKN5 _ _ ⟨_,_,rfl,it7,hA,inv5.step hi,((mW5.on m'' λb hb=>.inl (.inl hb)).on m6 λ_ h=>h.elim).on m7 λb hb=>.inl (.inr hb)⟩ ?_
   rw[it7.left,itW5.left,List.length_eraseIdx]
   have:i<R5.length:=(List.getElem?_eq_some_iff.1 hi).1
   rw[if_pos this];omega
 ·intro i p hi w' it' cur' m' hsz
  simp[go_sem]
  refine rx_entry cur' ?_
  have c1' :=(mW.on m' λb hb=>.inl (.inl hb)).keep c1 (by show¬(_∨_);omega)
  have hlt:=lt_of_heap c1'
  have hne:l' ≠w'.heap.size:=by omega
  simp[go_sem,acV,encU,lptr,hp_of c1',hne]
  generalize hw6:World.drew _=w6
  have m6:Mod (λ_=>False) w' w6:=by subst hw6;exact((Mod.refl _ w').alloc _).drew
  refine rux_mapUp (enc:=encU) (ev:=acV) (x:=p.1) (v:=p.2) uMapA kU32 ((cW.mod m' (by show¬_=_;omega)).mod m6 id) λw7 hA m7 hs7=>?_
  have it7:MapIt encU acV w7 it m1 (R.eraseIdx i):=(it'.mod m6 id id).mod m7 (by omega) (by omega)
  refine hKN _ _ ⟨_,_,rfl,it7,hA,inv.step hi,((mW.on m' λb hb=>.inl (.inl hb)).on m6 λ_ h=>h.elim).on m7 λb hb=>.inl (.inr hb)⟩ ?_
  rw[it7.left,itW.left,List.length_eraseIdx]
  have:i<R.length:=(List.getElem?_eq_some_iff.1 hi).1
  rw[if_pos this];omega
end Go.Proofs
