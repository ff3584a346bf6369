/- Part of a proof. -/
import Derived.Test.YtgebhcgmckjbbaaGreatS5
set_option linter.all false
set_option maxRecDepth 100000
namespace Go.Proofs
open Go Go.Vc
def F101(a0 a1:Value)(w:World)(K:Kont):Prop:=
 rn Tryz.prog (builtin .len #[54] 3 #[false] #[a1]) w λv0 w1=>
 rv Tryz.prog (convert 3 27 v0) w1 λv2 w3=>
 Ca Tryz.prog 100 #[a0,v2] w3 λv4 w5=>
 rx Tryz.prog (xAppend #[54,54] 54 [v4,a1]) w5 λv6 w7=>
 K v6 w7
theorem F101_eq(a0 a1:Value)(w:World)(K:Kont):vcFnJ Tryz.prog Tryz.f101 [a0,a1] w K=F101 a0 a1 w K:=by kernel_rfl
theorem F101_ok:okF Tryz.prog Tryz.f101 2=true:=by kernel_rfl
theorem ca101{a0 a1:Value}{w:World}{K:Kont}(h:F101 a0 a1 w K):Ca Tryz.prog 101 #[a0,a1] w K:=
 ca_of_vcJ Tryz.noNum Tryz.func101 F101_ok (by rw[F101_eq];exact h)
def J177_0(a0:Value)(K:Kont)(v4:Value)(v6:Value)(s10:Value×Unit)(w11:World):Prop:=
 ∀_:Nat→Value,
 rv Tryz.prog (bin .neq 26 true s10.1 (.int .i64 0)) w11 λv34 w35=>
 ifB v34
 (nilK a0 λv36=>rv Tryz.prog (Instr.fieldAt 248 v36 2) w35 λv37 w38=>
 ru Tryz.prog (Instr.storeAt 26 v37 s10.1) w38 λw39=>
 K (.slice none 0 0) w39)
 (rv Tryz.prog (convert 27 3 v4) w35 λv40 w41=>
 rv Tryz.prog (bin .add 3 false v6 v40) w41 λv42 w43=>
 nilK a0 λv44=>rv Tryz.prog (Instr.fieldAt 248 v44 1) w43 λv45 w46=>
 ru Tryz.prog (Instr.storeAt 3 v45 v42) w46 λw47=>
 nilK a0 λv48=>rdP Tryz.prog (Instr.fieldAt 248 v48 0) λv49=>
 rdW Tryz.prog (Instr.loadAt 54 v49) w47.drew λv50=>
 nilK a0 λv51=>rdP Tryz.prog (Instr.fieldAt 248 v51 1) λv52=>
 rdW Tryz.prog (Instr.loadAt 3 v52) w47.drew λv53=>
 rdP Tryz.prog (Instr.sliceAt 54 v50 (some v6) (some v53) none) λv54=>
 rx Tryz.prog (xLit 54 0 []) w47.drew λv55 w56=>
 Sem.run Tryz.prog (Instr.loadAt 3 v52) w56=.ok v53 w56∧Sem.run Tryz.prog (Instr.loadAt 54 v49) w56=.ok v50 w56∧
 (rx Tryz.prog (xAppend #[54,54] 54 [v55,v54]) w56 λv57 w58=>
 K v57 w58))
def F177(a0 a1:Value)(w:World)(K:Kont):Prop:=
 Ca Tryz.prog 148 #[a0] w λv0 w1=>
 ifB v0
 (K (.slice none 0 0) w1)
 (Ca Tryz.prog 150 #[a0] w1 λv2 w3=>
 rv Tryz.prog (Instr.extract v2 0) w3 λv4 w5=>
 rv Tryz.prog (Instr.extract v2 1) w5 λv6 w7=>
 rv Tryz.prog (Instr.extract v2 2) w7 λv8 w9=>
 JoinW (S:=Value×Unit) (λJ12=>
 rv Tryz.prog (bin .neq 26 true v8 (.int .i64 0)) w9 λv13 w14=>
 ifB v13
 (J12 (v8,()) w14)
 (rn Tryz.prog (builtin .max #[3,3] 3 #[false,true] #[a1,(.int .i64 0)]) w14 λv15 w16=>
 rv Tryz.prog (convert 3 27 v15) w16 λv17 w18=>
 rv Tryz.prog (bin .gtr 27 false v4 v17) w18 λv19 w20=>
 ifB v19
 (J12 ((.int .i64 3),()) w20)
 (nilK a0 λv21=>rv Tryz.prog (Instr.fieldAt 248 v21 0) w20 λv22 w23=>
 rv Tryz.prog (Instr.loadAt 54 v22) w23 λv24 w25=>
 rn Tryz.prog (builtin .len #[54] 3 #[false] #[v24]) w25 λv26 w27=>
 rv Tryz.prog (bin .sub 3 false v26 v6) w27 λv28 w29=>
 rv Tryz.prog (convert 3 27 v28) w29 λv30 w31=>
 rv Tryz.prog (bin .gtr 27 false v4 v30) w31 λv32 w33=>
 ifB v32
 (J12 ((.int .i64 4),()) w33)
 (J12 (v8,()) w33))))
 (J177_0 a0 K v4 v6))
theorem F177_eq(a0 a1:Value)(w:World)(K:Kont):vcFnJ Tryz.prog Tryz.f177 [a0,a1] w K=F177 a0 a1 w K:=by kernel_rfl
theorem F177_ok:okF Tryz.prog Tryz.f177 2=true:=by kernel_rfl
theorem ca177{a0 a1:Value}{w:World}{K:Kont}(h:F177 a0 a1 w K):Ca Tryz.prog 177 #[a0,a1] w K:=
 ca_of_vcJ Tryz.noNum Tryz.func177 F177_ok (by rw[F177_eq];exact h)
def F176(a0:Value)(w:World)(K:Kont):Prop:=
 rv Tryz.prog (Instr.box 186 a0) w λv0 w1=>
 rv Tryz.prog (Instr.fieldAt 186 v0 0) w1 λv2 w3=>
 rv Tryz.prog (Instr.loadAt 27 v2) w3 λv4 w5=>
 rv Tryz.prog (bin .lss 27 true v4 (.int .u64 64)) w5 λv6 w7=>
 ifB v6
 (rv Tryz.prog (Instr.fieldAt 186 v0 1) w7 λv8 w9=>
 rv Tryz.prog (Instr.loadAt 27 v8) w9 λv10 w11=>
 rv Tryz.prog (bin .neq 27 true v10 (.int .u64 0)) w11 λv12 w13=>
 ifB v12
 (rv Tryz.prog (Instr.fieldAt 186 v0 2) w13 λv14 w15=>
 rv Tryz.prog (Instr.loadAt 54 v14) w15 λv16 w17=>
 rn Tryz.prog (builtin .len #[54] 3 #[false] #[v16]) w17 λv18 w19=>
 rv Tryz.prog (bin .leq 3 true v18 (.int .i64 2000)) w19 λv20 w21=>
 K v20 w21)
 (K (.bool false) w13))
 (K (.bool false) w7)
theorem F176_eq(a0:Value)(w:World)(K:Kont):vcFnJ Tryz.prog Tryz.f176 [a0] w K=F176 a0 w K:=by kernel_rfl
theorem F176_ok:okF Tryz.prog Tryz.f176 1=true:=by kernel_rfl
theorem ca176{a0:Value}{w:World}{K:Kont}(h:F176 a0 w K):Ca Tryz.prog 176 #[a0] w K:=
 ca_of_vcJ Tryz.noNum Tryz.func176 F176_ok (by rw[F176_eq];exact h)
def F96(a0:Value)(w:World)(K:Kont):Prop:=
 rv Tryz.prog (Instr.box 186 a0) w λv0 w1=>
 rv Tryz.prog (Instr.loadAt 186 v0) w1 λv2 w3=>
 Ca Tryz.prog 176 #[v2] w3 λv4 w5=>
 rv Tryz.prog (Op.unary .not v4) w5 λv6 w7=>
 ifB v6
 (K (.tuple #[(.slice none 0 0),(.int .i64 2)]) w7)
 (rdP Tryz.prog (Instr.fieldAt 186 v0 0) λv8=>
 rdW Tryz.prog (Instr.loadAt 27 v8) w7.drew λv9=>
 rdP Tryz.prog (Instr.fieldAt 186 v0 1) λv10=>
 rdW Tryz.prog (Instr.loadAt 27 v10) w7.drew λv11=>
 rdP Tryz.prog (Instr.fieldAt 186 v0 2) λv12=>
 rdW Tryz.prog (Instr.loadAt 54 v12) w7.drew λv13=>
 Ca Tryz.prog 100 #[(.slice none 0 0),v9] w7.drew λv14 w15=>
 Sem.run Tryz.prog (Instr.loadAt 54 v12) w15=.ok v13 w15∧Sem.run Tryz.prog (Instr.loadAt 27 v10) w15=.ok v11 w15∧
 (Ca Tryz.prog 100 #[v14,v11] w15 λv16 w17=>
 Sem.run Tryz.prog (Instr.loadAt 54 v12) w17=.ok v13 w17∧
 (Ca Tryz.prog 101 #[v16,v13] w17 λv18 w19=>
 K (.tuple #[v18,(.int .i64 0)]) w19)))
theorem F96_eq(a0:Value)(w:World)(K:Kont):vcFnJ Tryz.prog Tryz.f96 [a0] w K=F96 a0 w K:=by kernel_rfl
theorem F96_ok:okF Tryz.prog Tryz.f96 1=true:=by kernel_rfl
theorem ca96{a0:Value}{w:World}{K:Kont}(h:F96 a0 w K):Ca Tryz.prog 96 #[a0] w K:=
 ca_of_vcJ Tryz.noNum Tryz.func96 F96_ok (by rw[F96_eq];exact h)
def J97_0(v0:Value)(K:Kont)(v12:Value)(s15:Value×Unit)(w16:World):Prop:=
 ∀_:Nat→Value,
 ifB s15.1
 (rv Tryz.prog (Instr.build 186 #[]) w16 λv28 w29=>
 ru Tryz.prog (Instr.storeAt 186 v0 v28) w29 λw30=>
 rdW Tryz.prog (Instr.loadAt 186 v0) w30 λv31=>
 K (.tuple #[v31,(.int .i64 5)]) w30)
 (rv Tryz.prog (Instr.loadAt 186 v12) w16 λv32 w33=>
 ru Tryz.prog (Instr.storeAt 186 v0 v32) w33 λw34=>
 rdW Tryz.prog (Instr.loadAt 186 v0) w34 λv35=>
 K (.tuple #[v35,(.int .i64 0)]) w34)
def F97(a0:Value)(w:World)(K:Kont):Prop:=
 rv Tryz.prog (Instr.alloc 186 true (.tuple #[])) w λv0 w1=>
 Ca Tryz.prog 59 #[a0] w1 λv2 w3=>
 Ca Tryz.prog 61 #[v2] w3 λv4 w5=>
 Ca Tryz.prog 61 #[v2] w5 λv6 w7=>
 Ca Tryz.prog 177 #[v2,(.int .i64 2000)] w7 λv8 w9=>
 rv Tryz.prog (Instr.build 186 #[(0,v4),(1,v6),(2,v8)]) w9 λv10 w11=>
 rv Tryz.prog (Instr.alloc 186 true (.tuple #[])) w11 λv12 w13=>
 ru Tryz.prog (Instr.storeAt 186 v12 v10) w13 λw14=>
 JoinW (S:=Value×Unit) (λJ17=>
 Ca Tryz.prog 74 #[v2] w14 λv18 w19=>
 rv Tryz.prog (bin .neq 26 true v18 (.int .i64 0)) w19 λv20 w21=>
 ifB v20
 (J17 ((.bool true),()) w21)
 (rv Tryz.prog (Instr.loadAt 186 v12) w21 λv22 w23=>
 Ca Tryz.prog 176 #[v22] w23 λv24 w25=>
 rv Tryz.prog (Op.unary .not v24) w25 λv26 w27=>
 J17 (v26,()) w27))
 (J97_0 v0 K v12)
theorem F97_eq(a0:Value)(w:World)(K:Kont):vcFnJ Tryz.prog Tryz.f97 [a0] w K=F97 a0 w K:=by kernel_rfl
theorem F97_ok:okF Tryz.prog Tryz.f97 1=true:=by kernel_rfl
theorem ca97{a0:Value}{w:World}{K:Kont}(h:F97 a0 w K):Ca Tryz.prog 97 #[a0] w K:=
 ca_of_vcJ Tryz.noNum Tryz.func97 F97_ok (by rw[F97_eq];exact h)
def F34(w:World)(K:Kont):Prop:=
 Ca Tryz.prog 10 #[] w λv0 w1=>
 rv Tryz.prog (Instr.makeMap 76 none) w1 λv2 w3=>
 rv Tryz.prog (Instr.build 78 #[(0,v0),(1,v2)]) w3 λv4 w5=>
 rv Tryz.prog (Instr.box 78 v4) w5 λv6 w7=>
 K v6 w7
theorem F34_eq(w:World)(K:Kont):vcFnJ Tryz.prog Tryz.f34 [] w K=F34 w K:=by kernel_rfl
theorem F34_ok:okF Tryz.prog Tryz.f34 0=true:=by kernel_rfl
theorem ca34{w:World}{K:Kont}(h:F34 w K):Ca Tryz.prog 34 #[] w K:=
 ca_of_vcJ Tryz.noNum Tryz.func34 F34_ok (by rw[F34_eq];exact h)
def F98(a0:Value)(w:World)(K:Kont):Prop:=
 rv Tryz.prog (bin .eql 75 true a0 (.pointer none)) w λv0 w1=>
 ifB v0
 (K (.bool false) w1)
 (nilK a0 λv2=>rv Tryz.prog (Instr.fieldAt 78 v2 0) w1 λv3 w4=>
 rv Tryz.prog (Instr.loadAt 23 v3) w4 λv5 w6=>
 rv Tryz.prog (bin .eql 23 true v5 (.pointer none)) w6 λv7 w8=>
 ifB v7
 (Ca Tryz.prog 34 #[] w8 λv9 w10=>
 nilK v9 λv11=>rv Tryz.prog (Instr.loadAt 78 v11) w10 λv12 w13=>
 nilK a0 λv14=>ru Tryz.prog (Instr.storeAt 78 v14 v12) w13 λw15=>
 K (.bool true) w15)
 (K (.bool true) w8))
theorem F98_eq(a0:Value)(w:World)(K:Kont):vcFnJ Tryz.prog Tryz.f98 [a0] w K=F98 a0 w K:=by kernel_rfl
theorem F98_ok:okF Tryz.prog Tryz.f98 1=true:=by kernel_rfl
theorem ca98{a0:Value}{w:World}{K:Kont}(h:F98 a0 w K):Ca Tryz.prog 98 #[a0] w K:=
 ca_of_vcJ Tryz.noNum Tryz.func98 F98_ok (by rw[F98_eq];exact h)
def J28_0(K:Kont)(a0:Value)(v6:Value)(s25:Value×Unit)(w26:World):Prop:=
 ∀_:Nat→Value,
 ifB s25.1
 (K (.tuple #[(.int .u64 0),(.int .u64 0),(.bool false)]) w26)
 (nilK a0 λv38=>rdP Tryz.prog (Instr.fieldAt 78 v38 1) λv39=>
 rdW Tryz.prog (Instr.loadAt 76 v39) w26.drew λv40=>
 rdP Tryz.prog (Instr.fieldAt 186 v6 0) λv41=>
 rdW Tryz.prog (Instr.loadAt 27 v41) w26.drew λv42=>
 rdP Tryz.prog (Instr.fieldAt 186 v6 1) λv43=>
 rdW Tryz.prog (Instr.loadAt 27 v43) w26.drew λv44=>
 nilK a0 λv45=>rdP Tryz.prog (Instr.fieldAt 78 v45 0) λv46=>
 rdW Tryz.prog (Instr.loadAt 23 v46) w26.drew λv47=>
 rdP Tryz.prog (Instr.fieldAt 186 v6 2) λv48=>
 rdW Tryz.prog (Instr.loadAt 54 v48) w26.drew λv49=>
 Ca Tryz.prog 38 #[v47,v49] w26.drew λv50 w51=>
 Sem.run Tryz.prog (Instr.loadAt 27 v43) w51=.ok v44 w51∧Sem.run Tryz.prog (Instr.loadAt 27 v41) w51=.ok v42 w51∧Sem.run Tryz.prog (Instr.loadAt 76 v39) w51=.ok v40 w51∧
 (rdP Tryz.prog (Instr.build 190 #[(0,v44),(1,v50)]) λv52=>
 rux Tryz.prog (xMapUp 76 v40 v42 v52) w51 λw53=>
 rdP Tryz.prog (Instr.fieldAt 186 v6 0) λv54=>
 rdW Tryz.prog (Instr.loadAt 27 v54) w53.drew λv55=>
 rdP Tryz.prog (Instr.fieldAt 186 v6 1) λv56=>
 rdW Tryz.prog (Instr.loadAt 27 v56) w53.drew λv57=>
 Sem.run Tryz.prog (Instr.loadAt 27 v56) w53.drew=.ok v57 w53.drew∧
 (K (.tuple #[v55,v57,(.bool true)]) w53.drew)))
def J28_1(K:Kont)(a0:Value)(v6:Value)(s9:Value×Unit)(w10:World):Prop:=
 ∀_:Nat→Value,
 ifB s9.1
 (K (.tuple #[(.int .u64 0),(.int .u64 0),(.bool false)]) w10)
 (nilK a0 λv18=>rdP Tryz.prog (Instr.fieldAt 78 v18 1) λv19=>
 rdW Tryz.prog (Instr.loadAt 76 v19) w10.drew λv20=>
 rdP Tryz.prog (Instr.fieldAt 186 v6 0) λv21=>
 rdW Tryz.prog (Instr.loadAt 27 v21) w10.drew λv22=>
 rdX Tryz.prog (xLook 76 v20 v22 false) w10.drew λv23=>
 rdP Tryz.prog (Instr.field 190 v23 0) λv24=>
 JoinW (S:=Value×Unit) (λJ27=>
 rv Tryz.prog (bin .eql 27 true v24 (.int .u64 18446744073709551615)) w10.drew λv28 w29=>
 ifB v28
 (J27 ((.bool true),()) w29)
 (rv Tryz.prog (Instr.fieldAt 186 v6 1) w29 λv30 w31=>
 rv Tryz.prog (Instr.loadAt 27 v30) w31 λv32 w33=>
 rv Tryz.prog (bin .add 27 true v24 (.int .u64 1)) w33 λv34 w35=>
 rv Tryz.prog (bin .neq 27 false v32 v34) w35 λv36 w37=>
 J27 (v36,()) w37))
 (J28_0 K a0 v6))
def F28(a0 a1:Value)(w:World)(K:Kont):Prop:=
 Ca Tryz.prog 97 #[a1] w λv0 w1=>
 rv Tryz.prog (Instr.extract v0 0) w1 λv2 w3=>
 rv Tryz.prog (Instr.extract v0 1) w3 λv4 w5=>
 rv Tryz.prog (Instr.alloc 186 true (.tuple #[])) w5 λv6 w7=>
 ru Tryz.prog (Instr.storeAt 186 v6 v2) w7 λw8=>
 JoinW (S:=Value×Unit) (λJ11=>
 Ca Tryz.prog 98 #[a0] w8 λv12 w13=>
 rv Tryz.prog (Op.unary .not v12) w13 λv14 w15=>
 ifB v14
 (J11 ((.bool true),()) w15)
 (rv Tryz.prog (bin .neq 26 true v4 (.int .i64 0)) w15 λv16 w17=>
 J11 (v16,()) w17))
 (J28_1 K a0 v6)
theorem F28_eq(a0 a1:Value)(w:World)(K:Kont):vcFnJ Tryz.prog Tryz.f28 [a0,a1] w K=F28 a0 a1 w K:=by kernel_rfl
theorem F28_ok:okF Tryz.prog Tryz.f28 2=true:=by kernel_rfl
theorem ca28{a0 a1:Value}{w:World}{K:Kont}(h:F28 a0 a1 w K):Ca Tryz.prog 28 #[a0,a1] w K:=
 ca_of_vcJ Tryz.noNum Tryz.func28 F28_ok (by rw[F28_eq];exact h)
def F30(a0 a1:Value)(w:World)(K:Kont):Prop:=
 rv Tryz.prog (bin .eql 75 true a0 (.pointer none)) w λv0 w1=>
 ifB v0
 (K (.int .u64 0) w1)
 (nilK a0 λv2=>rv Tryz.prog (Instr.fieldAt 78 v2 1) w1 λv3 w4=>
 rv Tryz.prog (Instr.loadAt 76 v3) w4 λv5 w6=>
 rx Tryz.prog (xLook 76 v5 a1 false) w6 λv7 w8=>
 rv Tryz.prog (Instr.field 190 v7 0) w8 λv9 w10=>
 K v9 w10)
theorem F30_eq(a0 a1:Value)(w:World)(K:Kont):vcFnJ Tryz.prog Tryz.f30 [a0,a1] w K=F30 a0 a1 w K:=by kernel_rfl
theorem F30_ok:okF Tryz.prog Tryz.f30 2=true:=by kernel_rfl
theorem ca30{a0 a1:Value}{w:World}{K:Kont}(h:F30 a0 a1 w K):Ca Tryz.prog 30 #[a0,a1] w K:=
 ca_of_vcJ Tryz.noNum Tryz.func30 F30_ok (by rw[F30_eq];exact h)
def J29_0(K:Kont)(a0:Value)(a1:Value)(s0:Value×Unit)(w1:World):Prop:=
 ∀_:Nat→Value,
 ifB s0.1
 (K (.tuple #[(.slice none 0 0),(.bool false)]) w1)
 (nilK a0 λv9=>rv Tryz.prog (Instr.fieldAt 78 v9 1) w1 λv10 w11=>
 rv Tryz.prog (Instr.loadAt 76 v10) w11 λv12 w13=>
 rx Tryz.prog (xLook 76 v12 a1 false) w13 λv14 w15=>
 rv Tryz.prog (Instr.field 190 v14 1) w15 λv16 w17=>
 Ca Tryz.prog 99 #[v16] w17 λv18 w19=>
 K (.tuple #[v18,(.bool true)]) w19)
def F29(a0 a1 a2:Value)(w:World)(K:Kont):Prop:=
 JoinW (S:=Value×Unit) (λJ2=>
 rv Tryz.prog (bin .eql 27 true a2 (.int .u64 0)) w λv3 w4=>
 ifB v3
 (J2 ((.bool true),()) w4)
 (Ca Tryz.prog 30 #[a0,a1] w4 λv5 w6=>
 rv Tryz.prog (bin .neq 27 false v5 a2) w6 λv7 w8=>
 J2 (v7,()) w8))
 (J29_0 K a0 a1)
theorem F29_eq(a0 a1 a2:Value)(w:World)(K:Kont):vcFnJ Tryz.prog Tryz.f29 [a0,a1,a2] w K=F29 a0 a1 a2 w K:=by kernel_rfl
theorem F29_ok:okF Tryz.prog Tryz.f29 3=true:=by kernel_rfl
theorem ca29{a0 a1 a2:Value}{w:World}{K:Kont}(h:F29 a0 a1 a2 w K):Ca Tryz.prog 29 #[a0,a1,a2] w K:=
 ca_of_vcJ Tryz.noNum Tryz.func29 F29_ok (by rw[F29_eq];exact h)
def F102(a0:Value)(w:World)(K:Kont):Prop:=
 rv Tryz.prog (Instr.box 75 a0) w λv0 w1=>
 K (.func (.func 178) #[] #[v0]) w1
theorem F102_eq(a0:Value)(w:World)(K:Kont):vcFnJ Tryz.prog Tryz.f102 [a0] w K=F102 a0 w K:=by kernel_rfl
theorem F102_ok:okF Tryz.prog Tryz.f102 1=true:=by kernel_rfl
theorem ca102{a0:Value}{w:World}{K:Kont}(h:F102 a0 w K):Ca Tryz.prog 102 #[a0] w K:=
 ca_of_vcJ Tryz.noNum Tryz.func102 F102_ok (by rw[F102_eq];exact h)
def L178_0(v11:Value)(v9:Value)(a1:Value)(a0:Value)(K:Kont)(s13:Value×Unit)(w14:World)(K15:Value×Unit→World→Prop):Prop:=
 ∀_:Nat→Value,
 rv Tryz.prog (bin .lss 3 false s13.1 v11) w14 λv16 w17=>
 ifB v16
 (rv Tryz.prog (Instr.indexAt 29 v9 s13.1) w17 λv18 w19=>
 rv Tryz.prog (Instr.loadAt 27 v18) w19 λv20 w21=>
 rv Tryz.prog (Instr.loadAt 75 a1) w21 λv22 w23=>
 nilK v22 λv24=>rv Tryz.prog (Instr.fieldAt 78 v24 1) w23 λv25 w26=>
 rv Tryz.prog (Instr.loadAt 76 v25) w26 λv27 w28=>
 rx Tryz.prog (xLook 76 v27 v20 false) w28 λv29 w30=>
 callV Tryz.prog a0 [v20,v29] w30 λv31 w32=>
 rv Tryz.prog (Op.unary .not v31) w32 λv33 w34=>
 ifB v33
 (K (.tuple #[]) w34)
 (rv Tryz.prog (bin .add 3 true s13.1 (.int .i64 1)) w34 λv35 w36=>
 K15 (v35,()) w36))
 (K (.tuple #[]) w17)
def F178(a0 a1:Value)(w:World)(K:Kont):Prop:=
 rv Tryz.prog (Instr.loadAt 75 a1) w λv0 w1=>
 nilK v0 λv2=>rv Tryz.prog (Instr.fieldAt 78 v2 1) w1 λv3 w4=>
 rv Tryz.prog (Instr.loadAt 76 v3) w4 λv5 w6=>
 Ca Tryz.prog 180 #[v5] w6 λv7 w8=>
 Ca Tryz.prog 179 #[v7] w8 λv9 w10=>
 rn Tryz.prog (builtin .len #[29] 3 #[false] #[v9]) w10 λv11 w12=>
 LoopW (S:=Value×Unit) (L178_0 v11 v9 a1 a0 K) ((.int .i64 0),()) w12
theorem F178_eq(a0 a1:Value)(w:World)(K:Kont):vcFnJ Tryz.prog Tryz.f178 [a0,a1] w K=F178 a0 a1 w K:=by kernel_rfl
theorem F178_ok:okF Tryz.prog Tryz.f178 2=true:=by kernel_rfl
theorem ca178{a0 a1:Value}{w:World}{K:Kont}(h:F178 a0 a1 w K):Ca Tryz.prog 178 #[a0,a1] w K:=
 ca_of_vcJ Tryz.noNum Tryz.func178 F178_ok (by rw[F178_eq];exact h)
def R31_0(s15:Value×Unit)(l46:Nat)(x47:List Value)(w48:World)(KN49:World→Prop)(KJ50:Code→World→Prop):Prop:=
 rv Tryz.prog (Instr.alloc 190 true (.tuple #[])) w48 λv51 w52=>
 ru Tryz.prog (Instr.storeAt 190 v51 (x47.getD 1 undef)) w52 λw53=>
 beginK l46 w53 λw54=>
 rdW Tryz.prog (Instr.loadAt 54 s15.1) w54.drew λv55=>
 rdP Tryz.prog (Instr.fieldAt 190 v51 0) λv56=>
 rdW Tryz.prog (Instr.loadAt 27 v56) w54.drew λv57=>
 rdP Tryz.prog (Instr.fieldAt 190 v51 1) λv58=>
 rdW Tryz.prog (Instr.loadAt 54 v58) w54.drew λv59=>
 Ca Tryz.prog 100 #[v55,(x47.getD 0 undef)] w54.drew λv60 w61=>
 Sem.run Tryz.prog (Instr.loadAt 54 v58) w61=.ok v59 w61∧Sem.run Tryz.prog (Instr.loadAt 27 v56) w61=.ok v57 w61∧
 (Ca Tryz.prog 100 #[v60,v57] w61 λv62 w63=>
 Sem.run Tryz.prog (Instr.loadAt 54 v58) w63=.ok v59 w63∧
 (Ca Tryz.prog 101 #[v62,v59] w63 λv64 w65=>
 ru Tryz.prog (Instr.storeAt 54 s15.1 v64) w65 λw66=>
 KN49 w66))
def A31_1(s15:Value×Unit)(K:Kont)(mk67:List Nat)(pd68:Option Code)(w69:World):Prop:=
 afterK
 (λw70=>
 rv Tryz.prog (Instr.loadAt 54 s15.1) w70 λv71 w72=>
 retD (mk67++[]) w72 λw73=>
 K v71 w73)
 (λw74=>
 retD (mk67++[]) w74 λw75=>
 K (.slice none 0 0) w75)
 (λi77 w76=>
 bc (Nat.beq i77 0)
 (rv Tryz.prog (Instr.loadAt 54 s15.1) w76 λv78 w79=>
 retD (mk67++[]) w79 λw80=>
 K v78 w80)
 (False)) pd68 w69
def J31_2(a0:Value)(K:Kont)(s15:Value×Unit)(w16:World):Prop:=
 ∀_:Nat→Value,
 Ca Tryz.prog 102 #[a0] w16 λv44 w45=>
 RFW Tryz.prog none v44 w45 2 (R31_0 s15) (A31_1 s15 K)
def F31(a0:Value)(w:World)(K:Kont):Prop:=
 Ca Tryz.prog 98 #[a0] w λv0 w1=>
 rv Tryz.prog (Op.unary .not v0) w1 λv2 w3=>
 ifB v2
 (K (.slice none 0 0) w3)
 (nilK a0 λv4=>rv Tryz.prog (Instr.fieldAt 78 v4 0) w3 λv5 w6=>
 rv Tryz.prog (Instr.loadAt 23 v5) w6 λv7 w8=>
 Ca Tryz.prog 21 #[v7] w8 λv9 w10=>
 rv Tryz.prog (Instr.extract v9 0) w10 λv11 w12=>
 rv Tryz.prog (Instr.extract v9 1) w12 λv13 w14=>
 JoinW (S:=Value×Unit) (λJ17=>
 nilK a0 λv18=>rdP Tryz.prog (Instr.fieldAt 78 v18 1) λv19=>
 rdW Tryz.prog (Instr.loadAt 76 v19) w14.drew λv20=>
 (Ca Tryz.prog 101 #[(.slice none 0 0),v11] w14.drew λv21 w22=>
 Sem.run Tryz.prog (Instr.loadAt 76 v19) w22=.ok v20 w22∧
 (rdW Tryz.prog (Builtin.len_ #[76] 3 #[v20]) w22 λv23=>
 rdW Tryz.prog (convert 3 27 v23) w22 λv24=>
 (Ca Tryz.prog 100 #[v21,v24] w22 λv25 w26=>
 rv Tryz.prog (Instr.alloc 54 true (.tuple #[])) w26 λv27 w28=>
 ru Tryz.prog (Instr.storeAt 54 v27 v25) w28 λw29=>
 J17 (v27,()) w29)
 ∧(rv Tryz.prog (Instr.alloc 54 true (.tuple #[])) w22 λv30 w31=>
 Sem.run Tryz.prog (convert 3 27 v23) w31=.ok v24 w31∧Sem.run Tryz.prog (Builtin.len_ #[76] 3 #[v20]) w31=.ok v23 w31∧Sem.run Tryz.prog (Instr.loadAt 76 v19) w31=.ok v20 w31∧
 (Ca Tryz.prog 100 #[v21,v24] w31 λv32 w33=>
 ru Tryz.prog (Instr.storeAt 54 v30 v32) w33 λw34=>
 J17 (v30,()) w34))))
 ∧(rv Tryz.prog (Instr.alloc 54 true (.tuple #[])) w14.drew λv35 w36=>
 Sem.run Tryz.prog (Instr.loadAt 76 v19) w36=.ok v20 w36∧
 (Ca Tryz.prog 101 #[(.slice none 0 0),v11] w36 λv37 w38=>
 Sem.run Tryz.prog (Instr.loadAt 76 v19) w38=.ok v20 w38∧
 (rdW Tryz.prog (Builtin.len_ #[76] 3 #[v20]) w38 λv39=>
 rdW Tryz.prog (convert 3 27 v39) w38 λv40=>
 Ca Tryz.prog 100 #[v37,v40] w38 λv41 w42=>
 ru Tryz.prog (Instr.storeAt 54 v35 v41) w42 λw43=>
 J17 (v35,()) w43))))
 (J31_2 a0 K))
theorem F31_eq(a0:Value)(w:World)(K:Kont):vcFnJ Tryz.prog Tryz.f31 [a0] w K=F31 a0 w K:=by kernel_rfl
theorem F31_ok:okF Tryz.prog Tryz.f31 1=true:=by kernel_rfl
theorem ca31{a0:Value}{w:World}{K:Kont}(h:F31 a0 w K):Ca Tryz.prog 31 #[a0] w K:=
 ca_of_vcJ Tryz.noNum Tryz.func31 F31_ok (by rw[F31_eq];exact h)
def L32_0(v22:Value)(v15:Value)(K:Kont)(s24:Unit)(w25:World)(K26:Unit→World→Prop):Prop:=
 ∀_:Nat→Value,
 rx Tryz.prog (xNext v22 false 0) w25 λv27 w28=>
 rv Tryz.prog (Instr.extract v27 0) w28 λv29 w30=>
 ifB v29
 (rx Tryz.prog (xEntry v22) w30 λv31 w32=>
 rv Tryz.prog (Instr.extract v31 0) w32 λv33 w34=>
 rv Tryz.prog (Instr.extract v31 1) w34 λv35 w36=>
 rv Tryz.prog (Instr.alloc 190 true (.tuple #[])) w36 λv37 w38=>
 ru Tryz.prog (Instr.storeAt 190 v37 v35) w38 λw39=>
 nilK v15 λv40=>rdP Tryz.prog (Instr.fieldAt 78 v40 1) λv41=>
 rdW Tryz.prog (Instr.loadAt 76 v41) w39.drew λv42=>
 rdP Tryz.prog (Instr.fieldAt 190 v37 0) λv43=>
 rdW Tryz.prog (Instr.loadAt 27 v43) w39.drew λv44=>
 rdP Tryz.prog (Instr.fieldAt 190 v37 1) λv45=>
 rdW Tryz.prog (Instr.loadAt 54 v45) w39.drew λv46=>
 Ca Tryz.prog 99 #[v46] w39.drew λv47 w48=>
 Sem.run Tryz.prog (Instr.loadAt 27 v43) w48=.ok v44 w48∧Sem.run Tryz.prog (Instr.loadAt 76 v41) w48=.ok v42 w48∧
 (rdP Tryz.prog (Instr.build 190 #[(0,v44),(1,v47)]) λv49=>
 rux Tryz.prog (xMapUp 76 v42 v33 v49) w48 λw50=>
 K26 (()) w50))
 (K v15 w30)
def F32(a0:Value)(w:World)(K:Kont):Prop:=
 Ca Tryz.prog 98 #[a0] w λv0 w1=>
 rv Tryz.prog (Op.unary .not v0) w1 λv2 w3=>
 ifB v2
 (K (.pointer none) w3)
 (nilK a0 λv4=>rv Tryz.prog (Instr.fieldAt 78 v4 0) w3 λv5 w6=>
 rv Tryz.prog (Instr.loadAt 23 v5) w6 λv7 w8=>
 Ca Tryz.prog 43 #[v7] w8 λv9 w10=>
 rv Tryz.prog (Instr.makeMap 76 none) w10 λv11 w12=>
 rv Tryz.prog (Instr.build 78 #[(0,v9),(1,v11)]) w12 λv13 w14=>
 rv Tryz.prog (Instr.box 78 v13) w14 λv15 w16=>
 nilK a0 λv17=>rv Tryz.prog (Instr.fieldAt 78 v17 1) w16 λv18 w19=>
 rv Tryz.prog (Instr.loadAt 76 v18) w19 λv20 w21=>
 rx Tryz.prog (xRange 76 v20) w21 λv22 w23=>
 LoopW (S:=Unit) (L32_0 v22 v15 K) (()) w23)
theorem F32_eq(a0:Value)(w:World)(K:Kont):vcFnJ Tryz.prog Tryz.f32 [a0] w K=F32 a0 w K:=by kernel_rfl
theorem F32_ok:okF Tryz.prog Tryz.f32 1=true:=by kernel_rfl
theorem ca32{a0:Value}{w:World}{K:Kont}(h:F32 a0 w K):Ca Tryz.prog 32 #[a0] w K:=
 ca_of_vcJ Tryz.noNum Tryz.func32 F32_ok (by rw[F32_eq];exact h)
def F33(a0:Value)(w:World)(K:Kont):Prop:=
 Ca Tryz.prog 98 #[a0] w λv0 w1=>
 rv Tryz.prog (Op.unary .not v0) w1 λv2 w3=>
 ifB v2
 (K (.pointer none) w3)
 (nilK a0 λv4=>rv Tryz.prog (Instr.fieldAt 78 v4 0) w3 λv5 w6=>
 rv Tryz.prog (Instr.loadAt 23 v5) w6 λv7 w8=>
 Ca Tryz.prog 43 #[v7] w8 λv9 w10=>
 K v9 w10)
theorem F33_eq(a0:Value)(w:World)(K:Kont):vcFnJ Tryz.prog Tryz.f33 [a0] w K=F33 a0 w K:=by kernel_rfl
theorem F33_ok:okF Tryz.prog Tryz.f33 1=true:=by kernel_rfl
theorem ca33{a0:Value}{w:World}{K:Kont}(h:F33 a0 w K):Ca Tryz.prog 33 #[a0] w K:=
 ca_of_vcJ Tryz.noNum Tryz.func33 F33_ok (by rw[F33_eq];exact h)
def J38_0(v2:Value)(K:Kont)(s5:Unit)(w6:World):Prop:=
 ∀_:Nat→Value,
 rv Tryz.prog (Instr.loadAt 32 v2) w6 λv29 w30=>
 Ca Tryz.prog 105 #[v29] w30 λv31 w32=>
 rv Tryz.prog (Instr.extract v31 0) w32 λv33 w34=>
 rv Tryz.prog (Instr.extract v31 1) w34 λv35 w36=>
 K v33 w36
def F38(a0 a1:Value)(w:World)(K:Kont):Prop:=
 Ca Tryz.prog 41 #[(.int .i64 1)] w λv0 w1=>
 rv Tryz.prog (Instr.alloc 32 true (.tuple #[])) w1 λv2 w3=>
 ru Tryz.prog (Instr.storeAt 32 v2 v0) w3 λw4=>
 JoinW (S:=Unit) (λJ7=>
 Ca Tryz.prog 40 #[a0] w4 λv8 w9=>
 ifB v8
 (Ca Tryz.prog 104 #[a1] w9 λv10 w11=>
 rv Tryz.prog (Instr.extract v10 0) w11 λv12 w13=>
 rv Tryz.prog (Instr.extract v10 1) w13 λv14 w15=>
 rx Tryz.prog (bigA 41) w15 λv16 w17=>
 rux Tryz.prog (bigU 41 v16 v12) w17 λw18=>
 Ca Tryz.prog 41 #[(.int .i64 160)] w18 λv19 w20=>
 ru Tryz.prog (Instr.storeAt 32 v2 v19) w20 λw21=>
 rv Tryz.prog (bin .eql 26 true v14 (.int .i64 0)) w21 λv22 w23=>
 ifB v22
 (rx Tryz.prog (bigS 41 v16) w23 λv24 w25=>
 Ca Tryz.prog 12 #[a0,v24] w25 λv26 w27=>
 ru Tryz.prog (Instr.storeAt 32 v2 v26) w27 λw28=>
 J7 (()) w28)
 (J7 (()) w23))
 (J7 (()) w9))
 (J38_0 v2 K)
theorem F38_eq(a0 a1:Value)(w:World)(K:Kont):vcFnJ Tryz.prog Tryz.f38 [a0,a1] w K=F38 a0 a1 w K:=by kernel_rfl
theorem F38_ok:okF Tryz.prog Tryz.f38 2=true:=by kernel_rfl
theorem ca38{a0 a1:Value}{w:World}{K:Kont}(h:F38 a0 a1 w K):Ca Tryz.prog 38 #[a0,a1] w K:=
 ca_of_vcJ Tryz.noNum Tryz.func38 F38_ok (by rw[F38_eq];exact h)
def J104_0(v4:Value)(v15:Value)(J20:Unit→World→Prop)(v23:Value)(s25:Value×Unit)(w26:World):Prop:=
 ∀_:Nat→Value,
 ifB s25.1
 (callV Tryz.prog (.func (.func 181) #[] #[v4,v15]) [] w26 λv32 w33=>
 rv Tryz.prog (Instr.loadAt 136 v4) w33 λv34 w35=>
 Ca Tryz.prog 62 #[v34] w35 λv36 w37=>
 rv Tryz.prog (Instr.fieldAt 41 v15 4) w37 λv38 w39=>
 ru Tryz.prog (Instr.storeAt 2 v38 v36) w39 λw40=>
 J20 (()) w40)
 (rv Tryz.prog (bin .eql 34 true v23 (.int .u8 3)) w26 λv41 w42=>
 ifB v41
 (rv Tryz.prog (Instr.loadAt 136 v4) w42 λv43 w44=>
 Ca Tryz.prog 68 #[v43] w44 λv45 w46=>
 rv Tryz.prog (Instr.fieldAt 41 v15 5) w46 λv47 w48=>
 rux Tryz.prog (bigU 38 v47 v45) w48 λw49=>
 J20 (()) w49)
 (rv Tryz.prog (bin .eql 34 true v23 (.int .u8 4)) w42 λv50 w51=>
 ifB v50
 (callV Tryz.prog (.func (.func 182) #[] #[v4,v15]) [] w51 λv52 w53=>
 rv Tryz.prog (Instr.loadAt 136 v4) w53 λv54 w55=>
 Ca Tryz.prog 65 #[v54] w55 λv56 w57=>
 rv Tryz.prog (Instr.fieldAt 41 v15 6) w57 λv58 w59=>
 ru Tryz.prog (Instr.storeAt 4 v58 v56) w59 λw60=>
 J20 (()) w60)
 (rv Tryz.prog (bin .eql 34 true v23 (.int .u8 5)) w51 λv61 w62=>
 ifB v61
 (callV Tryz.prog (.func (.func 181) #[] #[v4,v15]) [] w62 λv63 w64=>
 callV Tryz.prog (.func (.func 182) #[] #[v4,v15]) [] w64 λv65 w66=>
 rv Tryz.prog (Instr.loadAt 136 v4) w66 λv67 w68=>
 Ca Tryz.prog 65 #[v67] w68 λv69 w70=>
 rv Tryz.prog (Instr.fieldAt 41 v15 7) w70 λv71 w72=>
 ru Tryz.prog (Instr.storeAt 4 v71 v69) w72 λw73=>
 rv Tryz.prog (Instr.loadAt 136 v4) w73 λv74 w75=>
 Ca Tryz.prog 69 #[v74,(.int .u64 255)] w75 λv76 w77=>
 rv Tryz.prog (convert 27 39 v76) w77 λv78 w79=>
 rv Tryz.prog (Instr.fieldAt 41 v15 8) w79 λv80 w81=>
 ru Tryz.prog (Instr.storeAt 39 v80 v78) w81 λw82=>
 callV Tryz.prog (.func (.func 183) #[] #[v4,v15]) [] w82 λv83 w84=>
 J20 (()) w84)
 (rv Tryz.prog (bin .eql 34 true v23 (.int .u8 6)) w62 λv85 w86=>
 ifB v85
 (callV Tryz.prog (.func (.func 181) #[] #[v4,v15]) [] w86 λv87 w88=>
 rv Tryz.prog (Instr.loadAt 136 v4) w88 λv89 w90=>
 Ca Tryz.prog 61 #[v89] w90 λv91 w92=>
 rv Tryz.prog (Instr.fieldAt 41 v15 3) w92 λv93 w94=>
 ru Tryz.prog (Instr.storeAt 27 v93 v91) w94 λw95=>
 J20 (()) w95)
 (rv Tryz.prog (bin .eql 34 true v23 (.int .u8 7)) w86 λv96 w97=>
 ifB v96
 (callV Tryz.prog (.func (.func 181) #[] #[v4,v15]) [] w97 λv98 w99=>
 rv Tryz.prog (Instr.loadAt 136 v4) w99 λv100 w101=>
 Ca Tryz.prog 61 #[v100] w101 λv102 w103=>
 rv Tryz.prog (Instr.fieldAt 41 v15 3) w103 λv104 w105=>
 ru Tryz.prog (Instr.storeAt 27 v104 v102) w105 λw106=>
 callV Tryz.prog (.func (.func 183) #[] #[v4,v15]) [] w106 λv107 w108=>
 J20 (()) w108)
 (rv Tryz.prog (bin .eql 34 true v23 (.int .u8 8)) w97 λv109 w110=>
 ifB v109
 (callV Tryz.prog (.func (.func 181) #[] #[v4,v15]) [] w110 λv111 w112=>
 callV Tryz.prog (.func (.func 182) #[] #[v4,v15]) [] w112 λv113 w114=>
 J20 (()) w114)
 (rv Tryz.prog (bin .eql 34 true v23 (.int .u8 9)) w110 λv115 w116=>
 ifB v115
 (callV Tryz.prog (.func (.func 181) #[] #[v4,v15]) [] w116 λv117 w118=>
 callV Tryz.prog (.func (.func 182) #[] #[v4,v15]) [] w118 λv119 w120=>
 rv Tryz.prog (Instr.loadAt 136 v4) w120 λv121 w122=>
 Ca Tryz.prog 65 #[v121] w122 λv123 w124=>
 rv Tryz.prog (Instr.fieldAt 41 v15 7) w124 λv125 w126=>
 ru Tryz.prog (Instr.storeAt 4 v125 v123) w126 λw127=>
 callV Tryz.prog (.func (.func 183) #[] #[v4,v15]) [] w127 λv128 w129=>
 J20 (()) w129)
 (rv Tryz.prog (bin .eql 34 true v23 (.int .u8 10)) w116 λv130 w131=>
 ifB v130
 (callV Tryz.prog (.func (.func 181) #[] #[v4,v15]) [] w131 λv132 w133=>
 rv Tryz.prog (Instr.loadAt 136 v4) w133 λv134 w135=>
 Ca Tryz.prog 65 #[v134] w135 λv136 w137=>
 rv Tryz.prog (Instr.fieldAt 41 v15 6) w137 λv138 w139=>
 ru Tryz.prog (Instr.storeAt 4 v138 v136) w139 λw140=>
 J20 (()) w140)
 (rv Tryz.prog (bin .eql 34 true v23 (.int .u8 11)) w131 λv141 w142=>
 ifB v141
 (callV Tryz.prog (.func (.func 182) #[] #[v4,v15]) [] w142 λv143 w144=>
 rv Tryz.prog (Instr.loadAt 136 v4) w144 λv145 w146=>
 Ca Tryz.prog 62 #[v145] w146 λv147 w148=>
 rv Tryz.prog (Instr.fieldAt 41 v15 9) w148 λv149 w150=>
 ru Tryz.prog (Instr.storeAt 2 v149 v147) w150 λw151=>
 J20 (()) w151)
 (rv Tryz.prog (bin .eql 34 true v23 (.int .u8 13)) w142 λv152 w153=>
 ifB v152
 (callV Tryz.prog (.func (.func 181) #[] #[v4,v15]) [] w153 λv154 w155=>
 J20 (()) w155)
 (rv Tryz.prog (bin .eql 34 true v23 (.int .u8 14)) w153 λv156 w157=>
 ifB v156
 (callV Tryz.prog (.func (.func 182) #[] #[v4,v15]) [] w157 λv158 w159=>
 J20 (()) w159)
 (J20 (()) w157))))))))))))
def J104_1(v0:Value)(K:Kont)(v15:Value)(s160:Value×Unit)(w161:World):Prop:=
 ∀_:Nat→Value,
 ifB s160.1
 (rx Tryz.prog (bigB 41 #[]) w161 λv175 w176=>
 rux Tryz.prog (bigU 41 v0 v175) w176 λw177=>
 rdX Tryz.prog (bigS 41 v0) w177 λv178=>
 K (.tuple #[v178,(.int .i64 5)]) w177)
 (rx Tryz.prog (bigS 41 v15) w161 λv179 w180=>
 rux Tryz.prog (bigU 41 v0 v179) w180 λw181=>
 rdX Tryz.prog (bigS 41 v0) w181 λv182=>
 K (.tuple #[v182,(.int .i64 0)]) w181)
def J104_2(v4:Value)(v15:Value)(v0:Value)(K:Kont)(s18:Unit)(w19:World):Prop:=
 ∀_:Nat→Value,
 JoinW (S:=Value×Unit) (λJ162=>
 rv Tryz.prog (Instr.loadAt 136 v4) w19 λv163 w164=>
 Ca Tryz.prog 74 #[v163] w164 λv165 w166=>
 rv Tryz.prog (bin .neq 26 true v165 (.int .i64 0)) w166 λv167 w168=>
 ifB v167
 (J162 ((.bool true),()) w168)
 (rx Tryz.prog (bigS 41 v15) w168 λv169 w170=>
 Ca Tryz.prog 42 #[v169] w170 λv171 w172=>
 rv Tryz.prog (Op.unary .not v171) w172 λv173 w174=>
 J162 (v173,()) w174))
 (J104_1 v0 K v15)
def F104(a0:Value)(w:World)(K:Kont):Prop:=
 rx Tryz.prog (bigA 41) w λv0 w1=>
 Ca Tryz.prog 59 #[a0] w1 λv2 w3=>
 rv Tryz.prog (Instr.alloc 136 true (.tuple #[])) w3 λv4 w5=>
 ru Tryz.prog (Instr.storeAt 136 v4 v2) w5 λw6=>
 rv Tryz.prog (Instr.loadAt 136 v4) w6 λv7 w8=>
 Ca Tryz.prog 69 #[v7,(.int .u64 14)] w8 λv9 w10=>
 rv Tryz.prog (convert 27 34 v9) w10 λv11 w12=>
 rx Tryz.prog (bigB 41 #[(0,v11)]) w12 λv13 w14=>
 rx Tryz.prog (bigA 41) w14 λv15 w16=>
 rux Tryz.prog (bigU 41 v15 v13) w16 λw17=>
 JoinW (S:=Unit) (λJ20=>
 rv Tryz.prog (Instr.fieldAt 41 v15 0) w17 λv21 w22=>
 rv Tryz.prog (Instr.loadAt 34 v21) w22 λv23 w24=>
 JoinW (S:=Value×Unit) (λJ27=>
 rv Tryz.prog (bin .eql 34 true v23 (.int .u8 1)) w24 λv28 w29=>
 ifB v28
 (J27 (v28,()) w29)
 (rv Tryz.prog (bin .eql 34 true v23 (.int .u8 2)) w29 λv30 w31=>
 J27 (v30,()) w31))
 (J104_0 v4 v15 J20 v23))
 (J104_2 v4 v15 v0 K)
theorem F104_eq(a0:Value)(w:World)(K:Kont):vcFnJ Tryz.prog Tryz.f104 [a0] w K=F104 a0 w K:=by kernel_rfl
theorem F104_ok:okF Tryz.prog Tryz.f104 1=true:=by kernel_rfl
theorem ca104{a0:Value}{w:World}{K:Kont}(h:F104 a0 w K):Ca Tryz.prog 104 #[a0] w K:=
 ca_of_vcJ Tryz.noNum Tryz.func104 F104_ok (by rw[F104_eq];exact h)
def F181(a0 a1:Value)(w:World)(K:Kont):Prop:=
 rv Tryz.prog (Instr.loadAt 136 a0) w λv0 w1=>
 Ca Tryz.prog 69 #[v0,(.int .u64 4294967295)] w1 λv2 w3=>
 rv Tryz.prog (convert 27 35 v2) w3 λv4 w5=>
 rv Tryz.prog (Instr.fieldAt 41 a1 1) w5 λv6 w7=>
 ru Tryz.prog (Instr.storeAt 35 v6 v4) w7 λw8=>
 K (.tuple #[]) w8
theorem F181_eq(a0 a1:Value)(w:World)(K:Kont):vcFnJ Tryz.prog Tryz.f181 [a0,a1] w K=F181 a0 a1 w K:=by kernel_rfl
theorem F181_ok:okF Tryz.prog Tryz.f181 2=true:=by kernel_rfl
theorem ca181{a0 a1:Value}{w:World}{K:Kont}(h:F181 a0 a1 w K):Ca Tryz.prog 181 #[a0,a1] w K:=
 ca_of_vcJ Tryz.noNum Tryz.func181 F181_ok (by rw[F181_eq];exact h)
def F182(a0 a1:Value)(w:World)(K:Kont):Prop:=
 rv Tryz.prog (Instr.loadAt 136 a0) w λv0 w1=>
 Ca Tryz.prog 69 #[v0,(.int .u64 4294967295)] w1 λv2 w3=>
 rv Tryz.prog (convert 27 35 v2) w3 λv4 w5=>
 rv Tryz.prog (Instr.fieldAt 41 a1 2) w5 λv6 w7=>
 ru Tryz.prog (Instr.storeAt 35 v6 v4) w7 λw8=>
 K (.tuple #[]) w8
theorem F182_eq(a0 a1:Value)(w:World)(K:Kont):vcFnJ Tryz.prog Tryz.f182 [a0,a1] w K=F182 a0 a1 w K:=by kernel_rfl
theorem F182_ok:okF Tryz.prog Tryz.f182 2=true:=by kernel_rfl
theorem ca182{a0 a1:Value}{w:World}{K:Kont}(h:F182 a0 a1 w K):Ca Tryz.prog 182 #[a0,a1] w K:=
 ca_of_vcJ Tryz.noNum Tryz.func182 F182_ok (by rw[F182_eq];exact h)
def F183(a0 a1:Value)(w:World)(K:Kont):Prop:=
 rdW Tryz.prog (Instr.loadAt 136 a0) w.drew λv0=>
 rdW Tryz.prog (Instr.loadAt 136 a0) w.drew λv1=>
 Ca Tryz.prog 62 #[v0] w.drew λv2 w3=>
 Sem.run Tryz.prog (Instr.loadAt 136 a0) w3=.ok v1 w3∧
 (rdP Tryz.prog (Instr.fieldAt 41 a1 9) λv4=>
 Ca Tryz.prog 62 #[v1] w3 λv5 w6=>
 ru Tryz.prog (Instr.storeAt 2 v4 v2) w6 λw7=>
 rdP Tryz.prog (Instr.fieldAt 41 a1 10) λv8=>
 ru Tryz.prog (Instr.storeAt 2 v8 v5) w7 λw9=>
 K (.tuple #[]) w9)
theorem F183_eq(a0 a1:Value)(w:World)(K:Kont):vcFnJ Tryz.prog Tryz.f183 [a0,a1] w K=F183 a0 a1 w K:=by kernel_rfl
theorem F183_ok:okF Tryz.prog Tryz.f183 2=true:=by kernel_rfl
theorem ca183{a0 a1:Value}{w:World}{K:Kont}(h:F183 a0 a1 w K):Ca Tryz.prog 183 #[a0,a1] w K:=
 ca_of_vcJ Tryz.noNum Tryz.func183 F183_ok (by rw[F183_eq];exact h)
def F105(a0:Value)(w:World)(K:Kont):Prop:=
 rv Tryz.prog (Instr.box 32 a0) w λv0 w1=>
 rv Tryz.prog (Instr.loadAt 32 v0) w1 λv2 w3=>
 Ca Tryz.prog 184 #[v2] w3 λv4 w5=>
 rv Tryz.prog (Op.unary .not v4) w5 λv6 w7=>
 ifB v6
 (K (.tuple #[(.slice none 0 0),(.int .i64 2)]) w7)
 (rv Tryz.prog (Instr.fieldAt 32 v0 0) w7 λv8 w9=>
 rv Tryz.prog (Instr.loadAt 26 v8) w9 λv10 w11=>
 rv Tryz.prog (convert 26 27 v10) w11 λv12 w13=>
 Ca Tryz.prog 100 #[(.slice none 0 0),v12] w13 λv14 w15=>
 rv Tryz.prog (Instr.fieldAt 32 v0 0) w15 λv16 w17=>
 rv Tryz.prog (Instr.loadAt 26 v16) w17 λv18 w19=>
 rv Tryz.prog (bin .neq 26 true v18 (.int .i64 0)) w19 λv20 w21=>
 ifB v20
 (K (.tuple #[v14,(.int .i64 0)]) w21)
 (rdP Tryz.prog (Instr.fieldAt 32 v0 1) λv22=>
 rdW Tryz.prog (Instr.loadAt 27 v22) w21.drew λv23=>
 rdP Tryz.prog (Instr.fieldAt 32 v0 2) λv24=>
 rdW Tryz.prog (Instr.loadAt 2 v24) w21.drew λv25=>
 rdP Tryz.prog (Instr.fieldAt 32 v0 3) λv26=>
 rdW Tryz.prog (Instr.loadAt 2 v26) w21.drew λv27=>
 Ca Tryz.prog 100 #[v14,v23] w21.drew λv28 w29=>
 Sem.run Tryz.prog (Instr.loadAt 2 v26) w29=.ok v27 w29∧Sem.run Tryz.prog (Instr.loadAt 2 v24) w29=.ok v25 w29∧
 (Ca Tryz.prog 185 #[v28,v25,v27] w29 λv30 w31=>
 rv Tryz.prog (Instr.fieldAt 32 v0 4) w31 λv32 w33=>
 rv Tryz.prog (Instr.loadAt 28 v32) w33 λv34 w35=>
 Ca Tryz.prog 186 #[v30,v34,(.func (.func 187) #[] #[])] w35 λv36 w37=>
 rv Tryz.prog (Instr.fieldAt 32 v0 5) w37 λv38 w39=>
 rv Tryz.prog (Instr.loadAt 29 v38) w39 λv40 w41=>
 Ca Tryz.prog 188 #[v36,v40,(.func (.func 100) #[] #[])] w41 λv42 w43=>
 rv Tryz.prog (Instr.fieldAt 32 v0 6) w43 λv44 w45=>
 rv Tryz.prog (Instr.loadAt 30 v44) w45 λv46 w47=>
 Ca Tryz.prog 189 #[v42,v46,(.func (.func 190) #[] #[])] w47 λv48 w49=>
 K (.tuple #[v48,(.int .i64 0)]) w49)))
theorem F105_eq(a0:Value)(w:World)(K:Kont):vcFnJ Tryz.prog Tryz.f105 [a0] w K=F105 a0 w K:=by kernel_rfl
theorem F105_ok:okF Tryz.prog Tryz.f105 1=true:=by kernel_rfl
theorem ca105{a0:Value}{w:World}{K:Kont}(h:F105 a0 w K):Ca Tryz.prog 105 #[a0] w K:=
 ca_of_vcJ Tryz.noNum Tryz.func105 F105_ok (by rw[F105_eq];exact h)
def J184_0(K:Kont)(v0:Value)(s2:Value×Unit)(w3:World):Prop:=
 ∀_:Nat→Value,
 ifB s2.1
 (K (.bool false) w3)
 (rv Tryz.prog (Instr.fieldAt 32 v0 4) w3 λv29 w30=>
 rv Tryz.prog (Instr.loadAt 28 v29) w30 λv31 w32=>
 rn Tryz.prog (builtin .len #[28] 3 #[false] #[v31]) w32 λv33 w34=>
 rv Tryz.prog (bin .leq 3 true v33 (.int .i64 4000)) w34 λv35 w36=>
 ifB v35
 (rv Tryz.prog (Instr.fieldAt 32 v0 5) w36 λv37 w38=>
 rv Tryz.prog (Instr.loadAt 29 v37) w38 λv39 w40=>
 rn Tryz.prog (builtin .len #[29] 3 #[false] #[v39]) w40 λv41 w42=>
 rv Tryz.prog (bin .leq 3 true v41 (.int .i64 4000)) w42 λv43 w44=>
 ifB v43
 (rv Tryz.prog (Instr.fieldAt 32 v0 6) w44 λv45 w46=>
 rv Tryz.prog (Instr.loadAt 30 v45) w46 λv47 w48=>
 rn Tryz.prog (builtin .len #[30] 3 #[false] #[v47]) w48 λv49 w50=>
 rv Tryz.prog (bin .leq 3 true v49 (.int .i64 4000)) w50 λv51 w52=>
 K v51 w52)
 (K (.bool false) w44))
 (K (.bool false) w36))
def F184(a0:Value)(w:World)(K:Kont):Prop:=
 rv Tryz.prog (Instr.box 32 a0) w λv0 w1=>
 JoinW (S:=Value×Unit) (λJ4=>
 rv Tryz.prog (Instr.fieldAt 32 v0 0) w1 λv5 w6=>
 rv Tryz.prog (Instr.loadAt 26 v5) w6 λv7 w8=>
 rv Tryz.prog (bin .lss 26 true v7 (.int .i64 0)) w8 λv9 w10=>
 ifB v9
 (J4 ((.bool true),()) w10)
 (rv Tryz.prog (Instr.fieldAt 32 v0 0) w10 λv11 w12=>
 rv Tryz.prog (Instr.loadAt 26 v11) w12 λv13 w14=>
 rv Tryz.prog (bin .gtr 26 true v13 (.int .i64 999)) w14 λv15 w16=>
 ifB v15
 (J4 ((.bool true),()) w16)
 (rv Tryz.prog (Instr.fieldAt 32 v0 0) w16 λv17 w18=>
 rv Tryz.prog (Instr.loadAt 26 v17) w18 λv19 w20=>
 rv Tryz.prog (bin .neq 26 true v19 (.int .i64 0)) w20 λv21 w22=>
 ifB v21
 (rv Tryz.prog (Instr.loadAt 32 v0) w22 λv23 w24=>
 Ca Tryz.prog 246 #[v23] w24 λv25 w26=>
 rv Tryz.prog (Op.unary .not v25) w26 λv27 w28=>
 J4 (v27,()) w28)
 (J4 ((.bool false),()) w22))))
 (J184_0 K v0)
theorem F184_eq(a0:Value)(w:World)(K:Kont):vcFnJ Tryz.prog Tryz.f184 [a0] w K=F184 a0 w K:=by kernel_rfl
theorem F184_ok:okF Tryz.prog Tryz.f184 1=true:=by kernel_rfl
theorem ca184{a0:Value}{w:World}{K:Kont}(h:F184 a0 w K):Ca Tryz.prog 184 #[a0] w K:=
 ca_of_vcJ Tryz.noNum Tryz.func184 F184_ok (by rw[F184_eq];exact h)
def F246(a0:Value)(w:World)(K:Kont):Prop:=
 rv Tryz.prog (Instr.box 32 a0) w λv0 w1=>
 rv Tryz.prog (Instr.fieldAt 32 v0 1) w1 λv2 w3=>
 rv Tryz.prog (Instr.loadAt 27 v2) w3 λv4 w5=>
 rv Tryz.prog (bin .eql 27 true v4 (.int .u64 0)) w5 λv6 w7=>
 ifB v6
 (rv Tryz.prog (Instr.fieldAt 32 v0 2) w7 λv8 w9=>
 rv Tryz.prog (Instr.loadAt 2 v8) w9 λv10 w11=>
 rv Tryz.prog (bin .eql 2 true v10 (.int .i64 0)) w11 λv12 w13=>
 ifB v12
 (rv Tryz.prog (Instr.fieldAt 32 v0 3) w13 λv14 w15=>
 rv Tryz.prog (Instr.loadAt 2 v14) w15 λv16 w17=>
 rv Tryz.prog (bin .eql 2 true v16 (.int .i64 0)) w17 λv18 w19=>
 ifB v18
 (rv Tryz.prog (Instr.fieldAt 32 v0 4) w19 λv20 w21=>
 rv Tryz.prog (Instr.loadAt 28 v20) w21 λv22 w23=>
 rn Tryz.prog (builtin .len #[28] 3 #[false] #[v22]) w23 λv24 w25=>
 rv Tryz.prog (Instr.fieldAt 32 v0 5) w25 λv26 w27=>
 rv Tryz.prog (Instr.loadAt 29 v26) w27 λv28 w29=>
 rn Tryz.prog (builtin .len #[29] 3 #[false] #[v28]) w29 λv30 w31=>
 rv Tryz.prog (bin .add 3 false v24 v30) w31 λv32 w33=>
 rv Tryz.prog (Instr.fieldAt 32 v0 6) w33 λv34 w35=>
 rv Tryz.prog (Instr.loadAt 30 v34) w35 λv36 w37=>
 rn Tryz.prog (builtin .len #[30] 3 #[false] #[v36]) w37 λv38 w39=>
 rv Tryz.prog (bin .add 3 false v32 v38) w39 λv40 w41=>
 rv Tryz.prog (bin .eql 3 true v40 (.int .i64 0)) w41 λv42 w43=>
 K v42 w43)
 (K (.bool false) w19))
 (K (.bool false) w13))
 (K (.bool false) w7)
theorem F246_eq(a0:Value)(w:World)(K:Kont):vcFnJ Tryz.prog Tryz.f246 [a0] w K=F246 a0 w K:=by kernel_rfl
theorem F246_ok:okF Tryz.prog Tryz.f246 1=true:=by kernel_rfl
theorem ca246{a0:Value}{w:World}{K:Kont}(h:F246 a0 w K):Ca Tryz.prog 246 #[a0] w K:=
 ca_of_vcJ Tryz.noNum Tryz.func246 F246_ok (by rw[F246_eq];exact h)
def F185(a0 a1 a2:Value)(w:World)(K:Kont):Prop:=
 Ca Tryz.prog 154 #[a0,a1] w λv0 w1=>
 Ca Tryz.prog 154 #[v0,a2] w1 λv2 w3=>
 K v2 w3
theorem F185_eq(a0 a1 a2:Value)(w:World)(K:Kont):vcFnJ Tryz.prog Tryz.f185 [a0,a1,a2] w K=F185 a0 a1 a2 w K:=by kernel_rfl
theorem F185_ok:okF Tryz.prog Tryz.f185 3=true:=by kernel_rfl
theorem ca185{a0 a1 a2:Value}{w:World}{K:Kont}(h:F185 a0 a1 a2 w K):Ca Tryz.prog 185 #[a0,a1,a2] w K:=
 ca_of_vcJ Tryz.noNum Tryz.func185 F185_ok (by rw[F185_eq];exact h)
def L186_0(v6:Value)(a1:Value)(a2:Value)(K:Kont)(s8:Value×Value×Unit)(w9:World)(K10:Value×Value×Unit→World→Prop):Prop:=
 ∀_:Nat→Value,
 rv Tryz.prog (bin .lss 3 false s8.2.1 v6) w9 λv11 w12=>
 ifB v11
 (rv Tryz.prog (Instr.indexAt 28 a1 s8.2.1) w12 λv13 w14=>
 rv Tryz.prog (Instr.loadAt 135 v13) w14 λv15 w16=>
 rv Tryz.prog (Instr.alloc 135 true (.tuple #[])) w16 λv17 w18=>
 ru Tryz.prog (Instr.storeAt 135 v17 v15) w18 λw19=>
 rv Tryz.prog (Instr.loadAt 135 v17) w19 λv20 w21=>
 callV Tryz.prog a2 [s8.1,v20] w21 λv22 w23=>
 rv Tryz.prog (bin .add 3 true s8.2.1 (.int .i64 1)) w23 λv24 w25=>
 K10 (v22,v24,()) w25)
 (K s8.1 w12)
def F186(a0 a1 a2:Value)(w:World)(K:Kont):Prop:=
 rn Tryz.prog (builtin .len #[28] 3 #[false] #[a1]) w λv0 w1=>
 rv Tryz.prog (convert 3 27 v0) w1 λv2 w3=>
 Ca Tryz.prog 100 #[a0,v2] w3 λv4 w5=>
 rn Tryz.prog (builtin .len #[28] 3 #[false] #[a1]) w5 λv6 w7=>
 LoopW (S:=Value×Value×Unit) (L186_0 v6 a1 a2 K) (v4,(.int .i64 0),()) w7
theorem F186_eq(a0 a1 a2:Value)(w:World)(K:Kont):vcFnJ Tryz.prog Tryz.f186 [a0,a1,a2] w K=F186 a0 a1 a2 w K:=by kernel_rfl
theorem F186_ok:okF Tryz.prog Tryz.f186 3=true:=by kernel_rfl
theorem ca186{a0 a1 a2:Value}{w:World}{K:Kont}(h:F186 a0 a1 a2 w K):Ca Tryz.prog 186 #[a0,a1,a2] w K:=
 ca_of_vcJ Tryz.noNum Tryz.func186 F186_ok (by rw[F186_eq];exact h)
def L188_0(v6:Value)(a1:Value)(a2:Value)(K:Kont)(s8:Value×Value×Unit)(w9:World)(K10:Value×Value×Unit→World→Prop):Prop:=
 ∀_:Nat→Value,
 rv Tryz.prog (bin .lss 3 false s8.2.1 v6) w9 λv11 w12=>
 ifB v11
 (rv Tryz.prog (Instr.indexAt 29 a1 s8.2.1) w12 λv13 w14=>
 rv Tryz.prog (Instr.loadAt 27 v13) w14 λv15 w16=>
 callV Tryz.prog a2 [s8.1,v15] w16 λv17 w18=>
 rv Tryz.prog (bin .add 3 true s8.2.1 (.int .i64 1)) w18 λv19 w20=>
 K10 (v17,v19,()) w20)
 (K s8.1 w12)
def F188(a0 a1 a2:Value)(w:World)(K:Kont):Prop:=
 rn Tryz.prog (builtin .len #[29] 3 #[false] #[a1]) w λv0 w1=>
 rv Tryz.prog (convert 3 27 v0) w1 λv2 w3=>
 Ca Tryz.prog 100 #[a0,v2] w3 λv4 w5=>
 rn Tryz.prog (builtin .len #[29] 3 #[false] #[a1]) w5 λv6 w7=>
 LoopW (S:=Value×Value×Unit) (L188_0 v6 a1 a2 K) (v4,(.int .i64 0),()) w7
theorem F188_eq(a0 a1 a2:Value)(w:World)(K:Kont):vcFnJ Tryz.prog Tryz.f188 [a0,a1,a2] w K=F188 a0 a1 a2 w K:=by kernel_rfl
theorem F188_ok:okF Tryz.prog Tryz.f188 3=true:=by kernel_rfl
theorem ca188{a0 a1 a2:Value}{w:World}{K:Kont}(h:F188 a0 a1 a2 w K):Ca Tryz.prog 188 #[a0,a1,a2] w K:=
 ca_of_vcJ Tryz.noNum Tryz.func188 F188_ok (by rw[F188_eq];exact h)
def L189_0(v6:Value)(a1:Value)(a2:Value)(K:Kont)(s8:Value×Value×Unit)(w9:World)(K10:Value×Value×Unit→World→Prop):Prop:=
 ∀_:Nat→Value,
 rv Tryz.prog (bin .lss 3 false s8.2.1 v6) w9 λv11 w12=>
 ifB v11
 (rv Tryz.prog (Instr.indexAt 30 a1 s8.2.1) w12 λv13 w14=>
 rv Tryz.prog (Instr.loadAt 35 v13) w14 λv15 w16=>
 callV Tryz.prog a2 [s8.1,v15] w16 λv17 w18=>
 rv Tryz.prog (bin .add 3 true s8.2.1 (.int .i64 1)) w18 λv19 w20=>
 K10 (v17,v19,()) w20)
 (K s8.1 w12)
def F189(a0 a1 a2:Value)(w:World)(K:Kont):Prop:=
 rn Tryz.prog (builtin .len #[30] 3 #[false] #[a1]) w λv0 w1=>
 rv Tryz.prog (convert 3 27 v0) w1 λv2 w3=>
 Ca Tryz.prog 100 #[a0,v2] w3 λv4 w5=>
 rn Tryz.prog (builtin .len #[30] 3 #[false] #[a1]) w5 λv6 w7=>
 LoopW (S:=Value×Value×Unit) (L189_0 v6 a1 a2 K) (v4,(.int .i64 0),()) w7
theorem F189_eq(a0 a1 a2:Value)(w:World)(K:Kont):vcFnJ Tryz.prog Tryz.f189 [a0,a1,a2] w K=F189 a0 a1 a2 w K:=by kernel_rfl
theorem F189_ok:okF Tryz.prog Tryz.f189 3=true:=by kernel_rfl
theorem ca189{a0 a1 a2:Value}{w:World}{K:Kont}(h:F189 a0 a1 a2 w K):Ca Tryz.prog 189 #[a0,a1,a2] w K:=
 ca_of_vcJ Tryz.noNum Tryz.func189 F189_ok (by rw[F189_eq];exact h)
def F180(a0:Value)(w:World)(K:Kont):Prop:=
 rv Tryz.prog (Instr.box 76 a0) w λv0 w1=>
 K (.func (.func 245) #[] #[v0]) w1
theorem F180_eq(a0:Value)(w:World)(K:Kont):vcFnJ Tryz.prog Tryz.f180 [a0] w K=F180 a0 w K:=by kernel_rfl
theorem F180_ok:okF Tryz.prog Tryz.f180 1=true:=by kernel_rfl
theorem ca180{a0:Value}{w:World}{K:Kont}(h:F180 a0 w K):Ca Tryz.prog 180 #[a0] w K:=
 ca_of_vcJ Tryz.noNum Tryz.func180 F180_ok (by rw[F180_eq];exact h)
def L245_0(v2:Value)(a0:Value)(K:Kont)(s4:Unit)(w5:World)(K6:Unit→World→Prop):Prop:=
 ∀_:Nat→Value,
 rx Tryz.prog (xNext v2 false 0) w5 λv7 w8=>
 rv Tryz.prog (Instr.extract v7 0) w8 λv9 w10=>
 ifB v9
 (rx Tryz.prog (xEntry v2) w10 λv11 w12=>
 rv Tryz.prog (Instr.extract v11 0) w12 λv13 w14=>
 callV Tryz.prog a0 [v13] w14 λv15 w16=>
 rv Tryz.prog (Op.unary .not v15) w16 λv17 w18=>
 ifB v17
 (K (.tuple #[]) w18)
 (K6 (()) w18))
 (K (.tuple #[]) w10)
def F245(a0 a1:Value)(w:World)(K:Kont):Prop:=
 rv Tryz.prog (Instr.loadAt 76 a1) w λv0 w1=>
 rx Tryz.prog (xRange 76 v0) w1 λv2 w3=>
 LoopW (S:=Unit) (L245_0 v2 a0 K) (()) w3
theorem F245_eq(a0 a1:Value)(w:World)(K:Kont):vcFnJ Tryz.prog Tryz.f245 [a0,a1] w K=F245 a0 a1 w K:=by kernel_rfl
theorem F245_ok:okF Tryz.prog Tryz.f245 2=true:=by kernel_rfl
theorem ca245{a0 a1:Value}{w:World}{K:Kont}(h:F245 a0 a1 w K):Ca Tryz.prog 245 #[a0,a1] w K:=
 ca_of_vcJ Tryz.noNum Tryz.func245 F245_ok (by rw[F245_eq];exact h)
def F179(a0:Value)(w:World)(K:Kont):Prop:=
 Ca Tryz.prog 243 #[a0] w λv0 w1=>
 Ca Tryz.prog 244 #[v0] w1 λv2 w3=>
 K v0 w3
theorem F179_eq(a0:Value)(w:World)(K:Kont):vcFnJ Tryz.prog Tryz.f179 [a0] w K=F179 a0 w K:=by kernel_rfl
theorem F179_ok:okF Tryz.prog Tryz.f179 1=true:=by kernel_rfl
theorem ca179{a0:Value}{w:World}{K:Kont}(h:F179 a0 w K):Ca Tryz.prog 179 #[a0] w K:=
 ca_of_vcJ Tryz.noNum Tryz.func179 F179_ok (by rw[F179_eq];exact h)
def F243(a0:Value)(w:World)(K:Kont):Prop:=
 Ca Tryz.prog 288 #[(.slice none 0 0),a0] w λv0 w1=>
 K v0 w1
theorem F243_eq(a0:Value)(w:World)(K:Kont):vcFnJ Tryz.prog Tryz.f243 [a0] w K=F243 a0 w K:=by kernel_rfl
theorem F243_ok:okF Tryz.prog Tryz.f243 1=true:=by kernel_rfl
theorem ca243{a0:Value}{w:World}{K:Kont}(h:F243 a0 w K):Ca Tryz.prog 243 #[a0] w K:=
 ca_of_vcJ Tryz.noNum Tryz.func243 F243_ok (by rw[F243_eq];exact h)
def R288_0(v0:Value)(l2:Nat)(x3:List Value)(w4:World)(KN5:World→Prop)(KJ6:Code→World→Prop):Prop:=
 beginK l2 w4 λw7=>
 rv Tryz.prog (Instr.loadAt 29 v0) w7 λv8 w9=>
 rx Tryz.prog (xLit 29 1 [(0,(x3.getD 0 undef))]) w9 λv10 w11=>
 rx Tryz.prog (xAppend #[29,29] 29 [v8,v10]) w11 λv12 w13=>
 ru Tryz.prog (Instr.storeAt 29 v0 v12) w13 λw14=>
 KN5 w14
def A288_1(v0:Value)(K:Kont)(mk15:List Nat)(pd16:Option Code)(w17:World):Prop:=
 afterK
 (λw18=>
 rv Tryz.prog (Instr.loadAt 29 v0) w18 λv19 w20=>
 retD (mk15++[]) w20 λw21=>
 K v19 w21)
 (λw22=>
 retD (mk15++[]) w22 λw23=>
 K (.slice none 0 0) w23)
 (λi25 w24=>
 bc (Nat.beq i25 0)
 (rv Tryz.prog (Instr.loadAt 29 v0) w24 λv26 w27=>
 retD (mk15++[]) w27 λw28=>
 K v26 w28)
 (False)) pd16 w17
def F288(a0 a1:Value)(w:World)(K:Kont):Prop:=
 rv Tryz.prog (Instr.box 29 a0) w λv0 w1=>
 RFW Tryz.prog none a1 w1 1 (R288_0 v0) (A288_1 v0 K)
theorem F288_eq(a0 a1:Value)(w:World)(K:Kont):vcFnJ Tryz.prog Tryz.f288 [a0,a1] w K=F288 a0 a1 w K:=by kernel_rfl
theorem F288_ok:okF Tryz.prog Tryz.f288 2=true:=by kernel_rfl
theorem ca288{a0 a1:Value}{w:World}{K:Kont}(h:F288 a0 a1 w K):Ca Tryz.prog 288 #[a0,a1] w K:=
 ca_of_vcJ Tryz.noNum Tryz.func288 F288_ok (by rw[F288_eq];exact h)
def F244(a0:Value)(w:World)(K:Kont):Prop:=
 rn Tryz.prog (builtin .len #[29] 3 #[false] #[a0]) w λv0 w1=>
 rv Tryz.prog (convert 3 249 v0) w1 λv2 w3=>
 Ca Tryz.prog 230 #[v2] w3 λv4 w5=>
 Ca Tryz.prog 289 #[a0,(.int .i64 0),v0,v4] w5 λv6 w7=>
 K (.tuple #[]) w7
theorem F244_eq(a0:Value)(w:World)(K:Kont):vcFnJ Tryz.prog Tryz.f244 [a0] w K=F244 a0 w K:=by kernel_rfl
theorem F244_ok:okF Tryz.prog Tryz.f244 1=true:=by kernel_rfl
theorem ca244{a0:Value}{w:World}{K:Kont}(h:F244 a0 w K):Ca Tryz.prog 244 #[a0] w K:=
 ca_of_vcJ Tryz.noNum Tryz.func244 F244_ok (by rw[F244_eq];exact h)
def J289_0(a0:Value)(s0:Value×Value×Value×Value×Value×Unit)(K:Kont)(J43:Unit→World→Prop)(s44:Value×Unit)(w45:World):Prop:=
 ∀_:Nat→Value,
 ifB s44.1
 (Ca Tryz.prog 331 #[a0,s0.2.2.1,s0.2.1] w45 λv49 w50=>
 ifB v49
 (K (.tuple #[]) w50)
 (J43 (()) w50))
 (J43 (()) w45)
def J289_1(a0:Value)(s0:Value×Value×Value×Value×Value×Unit)(s28:Value×Value×Unit)(K2:Value×Value×Value×Value×Value×Unit→World→Prop)(s13:Value×Unit)(v3:Value)(s51:Value×Unit)(w52:World):Prop:=
 ∀_:Nat→Value,
 ifB s51.1
 (Ca Tryz.prog 333 #[a0,s0.2.2.1,s0.2.1,s28.1] w52 λv63 w64=>
 K2 (s13.1,s0.2.1,v63,s0.2.2.2.1,s0.2.2.2.2.1,()) w64)
 (Ca Tryz.prog 334 #[a0,s0.2.2.1,s0.2.1,s28.1] w52 λv65 w66=>
 rv Tryz.prog (Instr.extract v65 0) w66 λv67 w68=>
 rv Tryz.prog (Instr.extract v65 1) w68 λv69 w70=>
 rv Tryz.prog (bin .sub 3 false v67 s0.2.2.1) w70 λv71 w72=>
 rv Tryz.prog (bin .sub 3 false s0.2.1 v67) w72 λv73 w74=>
 rv Tryz.prog (bin .quo 3 true v3 (.int .i64 8)) w74 λv75 w76=>
 rv Tryz.prog (bin .lss 3 false v71 v73) w76 λv77 w78=>
 ifB v77
 (rv Tryz.prog (bin .geq 3 false v71 v75) w78 λv79 w80=>
 Ca Tryz.prog 289 #[a0,s0.2.2.1,v67,s13.1] w80 λv81 w82=>
 rv Tryz.prog (bin .add 3 true v67 (.int .i64 1)) w82 λv83 w84=>
 K2 (s13.1,s0.2.1,v83,v79,v69,()) w84)
 (rv Tryz.prog (bin .geq 3 false v73 v75) w78 λv85 w86=>
 rv Tryz.prog (bin .add 3 true v67 (.int .i64 1)) w86 λv87 w88=>
 Ca Tryz.prog 289 #[a0,v87,s0.2.1,s13.1] w88 λv89 w90=>
 K2 (s13.1,v67,s0.2.2.1,v85,v69,()) w90))
def J289_2(s0:Value×Value×Value×Value×Value×Unit)(a0:Value)(s28:Value×Value×Unit)(K2:Value×Value×Value×Value×Value×Unit→World→Prop)(s13:Value×Unit)(v3:Value)(s41:Unit)(w42:World):Prop:=
 ∀_:Nat→Value,
 JoinW (S:=Value×Unit) (λJ53=>
 rdP Tryz.prog (bin .gtr 3 true s0.2.2.1 (.int .i64 0)) λv54=>
 ifB v54
 (rdP Tryz.prog (bin .sub 3 true s0.2.2.1 (.int .i64 1)) λv55=>
 rdP Tryz.prog (Instr.indexAt 29 a0 v55) λv56=>
 rdW Tryz.prog (Instr.loadAt 27 v56) w42.drew λv57=>
 rdP Tryz.prog (Instr.indexAt 29 a0 s28.1) λv58=>
 rdW Tryz.prog (Instr.loadAt 27 v58) w42.drew λv59=>
 Ca Tryz.prog 332 #[v57,v59] w42.drew λv60 w61=>
 rdP Tryz.prog (Op.unary .not v60) λv62=>
 J53 (v62,()) w61)
 (J53 ((.bool false),()) w42.drew))
 (J289_1 a0 s0 s28 K2 s13 v3)
def J289_3(s0:Value×Value×Value×Value×Value×Unit)(a0:Value)(K:Kont)(K2:Value×Value×Value×Value×Value×Unit→World→Prop)(s13:Value×Unit)(v3:Value)(s28:Value×Value×Unit)(w29:World):Prop:=
 ∀_:Nat→Value,
 JoinW (S:=Unit) (λJ43=>
 JoinW (S:=Value×Unit) (λJ46=>
 ifB s0.2.2.2.1
 (ifB s0.2.2.2.2.1
 (rv Tryz.prog (bin .eql 384 true s28.2.1 (.int .i64 1)) w29 λv47 w48=>
 J46 (v47,()) w48)
 (J46 ((.bool false),()) w29))
 (J46 ((.bool false),()) w29))
 (J289_0 a0 s0 K J43))
 (J289_2 s0 a0 s28 K2 s13 v3)
def J289_4(a0:Value)(s0:Value×Value×Value×Value×Value×Unit)(K:Kont)(K2:Value×Value×Value×Value×Value×Unit→World→Prop)(v3:Value)(s13:Value×Unit)(w14:World):Prop:=
 ∀_:Nat→Value,
 Ca Tryz.prog 329 #[a0,s0.2.2.1,s0.2.1] w14 λv22 w23=>
 rv Tryz.prog (Instr.extract v22 0) w23 λv24 w25=>
 rv Tryz.prog (Instr.extract v22 1) w25 λv26 w27=>
 JoinW (S:=Value×Value×Unit) (λJ30=>
 rv Tryz.prog (bin .eql 384 true v26 (.int .i64 2)) w27 λv31 w32=>
 ifB v31
 (Ca Tryz.prog 330 #[a0,s0.2.2.1,s0.2.1] w32 λv33 w34=>
 rv Tryz.prog (bin .sub 3 true s0.2.1 (.int .i64 1)) w34 λv35 w36=>
 rv Tryz.prog (bin .sub 3 false v24 s0.2.2.1) w36 λv37 w38=>
 rv Tryz.prog (bin .sub 3 false v35 v37) w38 λv39 w40=>
 J30 (v39,(.int .i64 1),()) w40)
 (J30 (v24,v26,()) w32))
 (J289_3 s0 a0 K K2 s13 v3)
def L289_5(a0:Value)(K:Kont)(s0:Value×Value×Value×Value×Value×Unit)(w1:World)(K2:Value×Value×Value×Value×Value×Unit→World→Prop):Prop:=
 ∀_:Nat→Value,
 rv Tryz.prog (bin .sub 3 false s0.2.1 s0.2.2.1) w1 λv3 w4=>
 rv Tryz.prog (bin .leq 3 true v3 (.int .i64 12)) w4 λv5 w6=>
 ifB v5
 (Ca Tryz.prog 326 #[a0,s0.2.2.1,s0.2.1] w6 λv7 w8=>
 K (.tuple #[]) w8)
 (rv Tryz.prog (bin .eql 3 true s0.1 (.int .i64 0)) w6 λv9 w10=>
 ifB v9
 (Ca Tryz.prog 327 #[a0,s0.2.2.1,s0.2.1] w10 λv11 w12=>
 K (.tuple #[]) w12)
 (JoinW (S:=Value×Unit) (λJ15=>
 rv Tryz.prog (Op.unary .not s0.2.2.2.1) w10 λv16 w17=>
 ifB v16
 (Ca Tryz.prog 328 #[a0,s0.2.2.1,s0.2.1] w17 λv18 w19=>
 rv Tryz.prog (bin .sub 3 true s0.1 (.int .i64 1)) w19 λv20 w21=>
 J15 (v20,()) w21)
 (J15 (s0.1,()) w17))
 (J289_4 a0 s0 K K2 v3)))
def F289(a0 a1 a2 a3:Value)(w:World)(K:Kont):Prop:=
 LoopW (S:=Value×Value×Value×Value×Value×Unit) (L289_5 a0 K) (a3,a2,a1,(.bool true),(.bool true),()) w
theorem F289_eq(a0 a1 a2 a3:Value)(w:World)(K:Kont):vcFnJ Tryz.prog Tryz.f289 [a0,a1,a2,a3] w K=F289 a0 a1 a2 a3 w K:=by kernel_rfl
theorem F289_ok:okF Tryz.prog Tryz.f289 4=true:=by kernel_rfl
theorem ca289{a0 a1 a2 a3:Value}{w:World}{K:Kont}(h:F289 a0 a1 a2 a3 w K):Ca Tryz.prog 289 #[a0,a1,a2,a3] w K:=
 ca_of_vcJ Tryz.noNum Tryz.func289 F289_ok (by rw[F289_eq];exact h)
def J326_0(s7:Value×Unit)(a0:Value)(K9:Value×Unit→World→Prop)(s2:Value×Unit)(K4:Value×Unit→World→Prop)(s10:Value×Unit)(w11:World):Prop:=
 ∀_:Nat→Value,
 ifB s10.1
 (rdP Tryz.prog (bin .sub 3 true s7.1 (.int .i64 1)) λv21=>
 rdP Tryz.prog (bin .sub 3 true s7.1 (.int .i64 1)) λv22=>
 rdP Tryz.prog (Instr.indexAt 29 a0 v22) λv23=>
 rdW Tryz.prog (Instr.loadAt 27 v23) w11.drew λv24=>
 rdP Tryz.prog (Instr.indexAt 29 a0 s7.1) λv25=>
 rdW Tryz.prog (Instr.loadAt 27 v25) w11.drew λv26=>
 rdP Tryz.prog (Instr.indexAt 29 a0 s7.1) λv27=>
 ru Tryz.prog (Instr.storeAt 27 v27 v24) w11.drew λw28=>
 rdP Tryz.prog (Instr.indexAt 29 a0 v21) λv29=>
 ru Tryz.prog (Instr.storeAt 27 v29 v26) w28 λw30=>
 rv Tryz.prog (bin .sub 3 true s7.1 (.int .i64 1)) w30 λv31 w32=>
 K9 (v31,()) w32)
 (rv Tryz.prog (bin .add 3 true s2.1 (.int .i64 1)) w11 λv33 w34=>
 K4 (v33,()) w34)
def L326_1(a1:Value)(a0:Value)(s2:Value×Unit)(K4:Value×Unit→World→Prop)(s7:Value×Unit)(w8:World)(K9:Value×Unit→World→Prop):Prop:=
 ∀_:Nat→Value,
 JoinW (S:=Value×Unit) (λJ12=>
 rdP Tryz.prog (bin .gtr 3 false s7.1 a1) λv13=>
 ifB v13
 (rdP Tryz.prog (Instr.indexAt 29 a0 s7.1) λv14=>
 rdW Tryz.prog (Instr.loadAt 27 v14) w8.drew λv15=>
 rdP Tryz.prog (bin .sub 3 true s7.1 (.int .i64 1)) λv16=>
 rdP Tryz.prog (Instr.indexAt 29 a0 v16) λv17=>
 rdW Tryz.prog (Instr.loadAt 27 v17) w8.drew λv18=>
 Ca Tryz.prog 332 #[v15,v18] w8.drew λv19 w20=>
 J12 (v19,()) w20)
 (J12 ((.bool false),()) w8.drew))
 (J326_0 s7 a0 K9 s2 K4)
def L326_2(a2:Value)(a1:Value)(a0:Value)(K:Kont)(s2:Value×Unit)(w3:World)(K4:Value×Unit→World→Prop):Prop:=
 ∀_:Nat→Value,
 rv Tryz.prog (bin .lss 3 false s2.1 a2) w3 λv5 w6=>
 ifB v5
 (LoopW (S:=Value×Unit) (L326_1 a1 a0 s2 K4) (s2.1,()) w6)
 (K (.tuple #[]) w6)
def F326(a0 a1 a2:Value)(w:World)(K:Kont):Prop:=
 rv Tryz.prog (bin .add 3 true a1 (.int .i64 1)) w λv0 w1=>
 LoopW (S:=Value×Unit) (L326_2 a2 a1 a0 K) (v0,()) w1
theorem F326_eq(a0 a1 a2:Value)(w:World)(K:Kont):vcFnJ Tryz.prog Tryz.f326 [a0,a1,a2] w K=F326 a0 a1 a2 w K:=by kernel_rfl
theorem F326_ok:okF Tryz.prog Tryz.f326 3=true:=by kernel_rfl
theorem ca326{a0 a1 a2:Value}{w:World}{K:Kont}(h:F326 a0 a1 a2 w K):Ca Tryz.prog 326 #[a0,a1,a2] w K:=
 ca_of_vcJ Tryz.noNum Tryz.func326 F326_ok (by rw[F326_eq];exact h)
def F230(a0:Value)(w:World)(K:Kont):Prop:=
 Ca Tryz.prog 284 #[a0] w λv0 w1=>
 K v0 w1
theorem F230_eq(a0:Value)(w:World)(K:Kont):vcFnJ Tryz.prog Tryz.f230 [a0] w K=F230 a0 w K:=by kernel_rfl
theorem F230_ok:okF Tryz.prog Tryz.f230 1=true:=by kernel_rfl
theorem ca230{a0:Value}{w:World}{K:Kont}(h:F230 a0 w K):Ca Tryz.prog 230 #[a0] w K:=
 ca_of_vcJ Tryz.noNum Tryz.func230 F230_ok (by rw[F230_eq];exact h)
def J284_0(K:Kont)(s16:Value×Value×Unit)(w17:World):Prop:=
 ∀_:Nat→Value,
 rv Tryz.prog (convert 27 5 s16.1) w17 λv25 w26=>
 rv Tryz.prog (Instr.index 9 (.string ⟨#[0,1,2,2,3,3,3,3,4,4,4,4,4,4,4,4,5,5,5,5,5,5,5,5,5,5,5,5,5,5,5,5,6,6,6,6,6,6,6,6,6,6,6,6,6,6,6,6,6,6,6,6,6,6,6,6,6,6,6,6,6,6,6,6,7,7,7,7,7,7,7,7,7,7,7,7,7,7,7,7,7,7,7,7,7,7,7,7,7,7,7,7,7,7,7,7,7,7,7,7,7,7,7,7,7,7,7,7,7,7,7,7,7,7,7,7,7,7,7,7,7,7,7,7,7,7,7,7,8,8,8,8,8,8,8,8,8,8,8,8,8,8,8,8,8,8,8,8,8,8,8,8,8,8,8,8,8,8,8,8,8,8,8,8,8,8,8,8,8,8,8,8,8,8,8,8,8,8,8,8,8,8,8,8,8,8,8,8,8,8,8,8,8,8,8,8,8,8,8,8,8,8,8,8,8,8,8,8,8,8,8,8,8,8,8,8,8,8,8,8,8,8,8,8,8,8,8,8,8,8,8,8,8,8,8,8,8,8,8,8,8,8,8,8,8,8,8,8,8,8,8,8,8,8,8,8]⟩) v25) w26 λv27 w28=>
 rv Tryz.prog (convert 5 3 v27) w28 λv29 w30=>
 rv Tryz.prog (bin .add 3 false s16.2.1 v29) w30 λv31 w32=>
 K v31 w32
def J284_1(K:Kont)(s7:Value×Value×Unit)(w8:World):Prop:=
 ∀_:Nat→Value,
 JoinW (S:=Value×Value×Unit) (λJ18=>
 rv Tryz.prog (bin .geq 27 true s7.2.1 (.int .u64 256)) w8 λv19 w20=>
 ifB v19
 (rv Tryz.prog (bin .shr 27 true s7.2.1 (.int .u64 8)) w20 λv21 w22=>
 rv Tryz.prog (bin .add 3 true s7.1 (.int .i64 8)) w22 λv23 w24=>
 J18 (v21,v23,()) w24)
 (J18 (s7.2.1,s7.1,()) w20))
 (J284_0 K)
def J284_2(K:Kont)(s0:Value×Value×Unit)(w1:World):Prop:=
 ∀_:Nat→Value,
 JoinW (S:=Value×Value×Unit) (λJ9=>
 rv Tryz.prog (bin .geq 27 true s0.1 (.int .u64 65536)) w1 λv10 w11=>
 ifB v10
 (rv Tryz.prog (bin .shr 27 true s0.1 (.int .u64 16)) w11 λv12 w13=>
 rv Tryz.prog (bin .add 3 true s0.2.1 (.int .i64 16)) w13 λv14 w15=>
 J9 (v14,v12,()) w15)
 (J9 (s0.2.1,s0.1,()) w11))
 (J284_1 K)
def F284(a0:Value)(w:World)(K:Kont):Prop:=
 JoinW (S:=Value×Value×Unit) (λJ2=>
 rv Tryz.prog (bin .geq 27 true a0 (.int .u64 4294967296)) w λv3 w4=>
 ifB v3
 (rv Tryz.prog (bin .shr 27 true a0 (.int .u64 32)) w4 λv5 w6=>
 J2 (v5,(.int .i64 32),()) w6)
 (J2 (a0,(.int .i64 0),()) w4))
 (J284_2 K)
theorem F284_eq(a0:Value)(w:World)(K:Kont):vcFnJ Tryz.prog Tryz.f284 [a0] w K=F284 a0 w K:=by kernel_rfl
theorem F284_ok:okF Tryz.prog Tryz.f284 1=true:=by kernel_rfl
theorem ca284{a0:Value}{w:World}{K:Kont}(h:F284 a0 w K):Ca Tryz.prog 284 #[a0] w K:=
 ca_of_vcJ Tryz.noNum Tryz.func284 F284_ok (by rw[F284_eq];exact h)
end Go.Proofs
