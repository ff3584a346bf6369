/- Part of a proof. -/
import Derived.Test.YtgebhcgmckjbbaaGreatS11
set_option linter.all false
set_option maxRecDepth 100000
namespace Go.Proofs
open Go Go.Vc
def F48(w:World)(K:Kont):Prop:=
 Ca Tryz.prog 133 #[(.bool true)] w λv0 w1=>
 Ca Tryz.prog 133 #[(.bool false)] w1 λv2 w3=>
 rv Tryz.prog (Instr.build 231 #[(0,v0),(1,v2)]) w3 λv4 w5=>
 rv Tryz.prog (Instr.box 231 v4) w5 λv6 w7=>
 K v6 w7
theorem F48_eq(w:World)(K:Kont):vcFnJ Tryz.prog Tryz.f48 [] w K=F48 w K:=by kernel_rfl
theorem F48_ok:okF Tryz.prog Tryz.f48 0=true:=by kernel_rfl
theorem ca48{w:World}{K:Kont}(h:F48 w K):Ca Tryz.prog 48 #[] w K:=
 ca_of_vcJ Tryz.noNum Tryz.func48 F48_ok (by rw[F48_eq];exact h)
def F145(a0:Value)(w:World)(K:Kont):Prop:=
 rv Tryz.prog (bin .neq 109 true a0 (.pointer none)) w λv0 w1=>
 ifB v0
 (nilK a0 λv2=>rv Tryz.prog (Instr.fieldAt 231 v2 0) w1 λv3 w4=>
 rv Tryz.prog (Instr.loadAt 228 v3) w4 λv5 w6=>
 rv Tryz.prog (bin .neq 228 true v5 (.pointer none)) w6 λv7 w8=>
 K v7 w8)
 (K (.bool false) w1)
theorem F145_eq(a0:Value)(w:World)(K:Kont):vcFnJ Tryz.prog Tryz.f145 [a0] w K=F145 a0 w K:=by kernel_rfl
theorem F145_ok:okF Tryz.prog Tryz.f145 1=true:=by kernel_rfl
theorem ca145{a0:Value}{w:World}{K:Kont}(h:F145 a0 w K):Ca Tryz.prog 145 #[a0] w K:=
 ca_of_vcJ Tryz.noNum Tryz.func145 F145_ok (by rw[F145_eq];exact h)
def F57(a0:Value)(w:World)(K:Kont):Prop:=
 rv Tryz.prog (Instr.box 109 a0) w λv0 w1=>
 K (.func (.func 144) #[] #[v0]) w1
theorem F57_eq(a0:Value)(w:World)(K:Kont):vcFnJ Tryz.prog Tryz.f57 [a0] w K=F57 a0 w K:=by kernel_rfl
theorem F57_ok:okF Tryz.prog Tryz.f57 1=true:=by kernel_rfl
theorem ca57{a0:Value}{w:World}{K:Kont}(h:F57 a0 w K):Ca Tryz.prog 57 #[a0] w K:=
 ca_of_vcJ Tryz.noNum Tryz.func57 F57_ok (by rw[F57_eq];exact h)
def R144_0(v0:Value)(l32:Nat)(x33:List Value)(w34:World)(KN35:World→Prop)(KJ36:Code→World→Prop):Prop:=
 rv Tryz.prog (Instr.alloc 117 true (.tuple #[])) w34 λv37 w38=>
 ru Tryz.prog (Instr.storeAt 117 v37 (x33.getD 0 undef)) w38 λw39=>
 beginK l32 w39 λw40=>
 rv Tryz.prog (Instr.loadAt 245 v0) w40 λv41 w42=>
 rv Tryz.prog (Instr.loadAt 117 v37) w42 λv43 w44=>
 callV Tryz.prog v41 [v43] w44 λv45 w46=>
 rv Tryz.prog (Op.unary .not v45) w46 λv47 w48=>
 ifB v47
 (KJ36 .ret w48)
 (KN35 w48)
def A144_1(s21:(Value×Unit)×List Nat)(K23:(Value×Unit)×List Nat→World→Prop)(K:Kont)(mk49:List Nat)(pd50:Option Code)(w51:World):Prop:=
 afterK
 (λw52=>
 rv Tryz.prog (bin .add 3 true s21.1.1 (.int .i64 1)) w52 λv53 w54=>
 K23 ((v53,()),(mk49++s21.2)) w54)
 (λw55=>
 retD (mk49++s21.2) w55 λw56=>
 K (.tuple #[]) w56)
 (λi58 w57=>
 bc (Nat.beq i58 2)
 (rv Tryz.prog (bin .add 3 true s21.1.1 (.int .i64 1)) w57 λv59 w60=>
 K23 ((v59,()),(mk49++s21.2)) w60)
 (bc (Nat.beq i58 1)
 (rv Tryz.prog (bin .add 3 true s21.1.1 (.int .i64 1)) w57 λv61 w62=>
 K23 ((v61,()),(mk49++s21.2)) w62)
 (bc (Nat.beq i58 0)
 (retD (mk49++s21.2) w57 λw63=>
 K (.tuple #[]) w63)
 (False)))) pd50 w51
def L144_2(v20:Value)(v18:Value)(v0:Value)(K:Kont)(s21:(Value×Unit)×List Nat)(w22:World)(K23:(Value×Unit)×List Nat→World→Prop):Prop:=
 ∀_:Nat→Value,
 rv Tryz.prog (bin .lss 3 false s21.1.1 v20) w22 λv24 w25=>
 ifB v24
 (rv Tryz.prog (Instr.indexAt 246 v18 s21.1.1) w25 λv26 w27=>
 rv Tryz.prog (Instr.loadAt 228 v26) w27 λv28 w29=>
 Ca Tryz.prog 146 #[v28] w29 λv30 w31=>
 RFW Tryz.prog none v30 w31 1 (R144_0 v0) (A144_1 s21 K23 K))
 (retD s21.2 w25 λw64=>
 K (.tuple #[]) w64)
def F144(a0 a1:Value)(w:World)(K:Kont):Prop:=
 rv Tryz.prog (Instr.box 245 a0) w λv0 w1=>
 rv Tryz.prog (Instr.loadAt 109 a1) w1 λv2 w3=>
 Ca Tryz.prog 145 #[v2] w3 λv4 w5=>
 rv Tryz.prog (Op.unary .not v4) w5 λv6 w7=>
 ifB v6
 (K (.tuple #[]) w7)
 (rv Tryz.prog (Instr.loadAt 109 a1) w7 λv8 w9=>
 Ca Tryz.prog 110 #[v8] w9 λv10 w11=>
 nilK v10 λv12=>rdP Tryz.prog (Instr.fieldAt 231 v12 0) λv13=>
 rdW Tryz.prog (Instr.loadAt 228 v13) w11.drew λv14=>
 nilK v10 λv15=>rdP Tryz.prog (Instr.fieldAt 231 v15 1) λv16=>
 rdW Tryz.prog (Instr.loadAt 228 v16) w11.drew λv17=>
 rx Tryz.prog (xLit 246 2 [(0,v14),(1,v17)]) w11.drew λv18 w19=>
 rdW Tryz.prog (Builtin.len_ #[246] 3 #[v18]) w19 λv20=>
 LoopW (S:=(Value×Unit)×List Nat) (L144_2 v20 v18 v0 K) (((.int .i64 0),()),[]) w19)
theorem F144_eq(a0 a1:Value)(w:World)(K:Kont):vcFnJ Tryz.prog Tryz.f144 [a0,a1] w K=F144 a0 a1 w K:=by kernel_rfl
theorem F144_ok:okF Tryz.prog Tryz.f144 2=true:=by kernel_rfl
theorem ca144{a0 a1:Value}{w:World}{K:Kont}(h:F144 a0 a1 w K):Ca Tryz.prog 144 #[a0,a1] w K:=
 ca_of_vcJ Tryz.noNum Tryz.func144 F144_ok (by rw[F144_eq];exact h)
def F110(a0:Value)(w:World)(K:Kont):Prop:=
 Ca Tryz.prog 145 #[a0] w λv0 w1=>
 rv Tryz.prog (Op.unary .not v0) w1 λv2 w3=>
 ifB v2
 (K (.pointer none) w3)
 (nilK a0 λv4=>rdP Tryz.prog (Instr.fieldAt 231 v4 0) λv5=>
 rdW Tryz.prog (Instr.loadAt 228 v5) w3.drew λv6=>
 nilK a0 λv7=>rdP Tryz.prog (Instr.fieldAt 231 v7 1) λv8=>
 rdW Tryz.prog (Instr.loadAt 228 v8) w3.drew λv9=>
 Ca Tryz.prog 193 #[v6] w3.drew λv10 w11=>
 Sem.run Tryz.prog (Instr.loadAt 228 v8) w11=.ok v9 w11∧
 (Ca Tryz.prog 193 #[v9] w11 λv12 w13=>
 rdP Tryz.prog (Instr.build 231 #[(0,v10),(1,v12)]) λv14=>
 rv Tryz.prog (Instr.box 231 v14) w13 λv15 w16=>
 K v15 w16))
theorem F110_eq(a0:Value)(w:World)(K:Kont):vcFnJ Tryz.prog Tryz.f110 [a0] w K=F110 a0 w K:=by kernel_rfl
theorem F110_ok:okF Tryz.prog Tryz.f110 1=true:=by kernel_rfl
theorem ca110{a0:Value}{w:World}{K:Kont}(h:F110 a0 w K):Ca Tryz.prog 110 #[a0] w K:=
 ca_of_vcJ Tryz.noNum Tryz.func110 F110_ok (by rw[F110_eq];exact h)
def F35(w:World)(K:Kont):Prop:=
 rv Tryz.prog (Instr.build 197 #[(0,(.bool true))]) w λv0 w1=>
 rv Tryz.prog (Instr.box 197 v0) w1 λv2 w3=>
 K v2 w3
theorem F35_eq(w:World)(K:Kont):vcFnJ Tryz.prog Tryz.f35 [] w K=F35 w K:=by kernel_rfl
theorem F35_ok:okF Tryz.prog Tryz.f35 0=true:=by kernel_rfl
theorem ca35{w:World}{K:Kont}(h:F35 w K):Ca Tryz.prog 35 #[] w K:=
 ca_of_vcJ Tryz.noNum Tryz.func35 F35_ok (by rw[F35_eq];exact h)
def F132(a0:Value)(w:World)(K:Kont):Prop:=
 rv Tryz.prog (bin .neq 61 true a0 (.pointer none)) w λv0 w1=>
 ifB v0
 (nilK a0 λv2=>rv Tryz.prog (Instr.fieldAt 197 v2 0) w1 λv3 w4=>
 rv Tryz.prog (Instr.loadAt 4 v3) w4 λv5 w6=>
 K v5 w6)
 (K (.bool false) w1)
theorem F132_eq(a0:Value)(w:World)(K:Kont):vcFnJ Tryz.prog Tryz.f132 [a0] w K=F132 a0 w K:=by kernel_rfl
theorem F132_ok:okF Tryz.prog Tryz.f132 1=true:=by kernel_rfl
theorem ca132{a0:Value}{w:World}{K:Kont}(h:F132 a0 w K):Ca Tryz.prog 132 #[a0] w K:=
 ca_of_vcJ Tryz.noNum Tryz.func132 F132_ok (by rw[F132_eq];exact h)
def F198(a0 a1:Value)(w:World)(K:Kont):Prop:=
 nilK a0 λv0=>rv Tryz.prog (Instr.fieldAt 197 v0 2) w λv1 w2=>
 rv Tryz.prog (Instr.loadAt 45 v1) w2 λv3 w4=>
 Ca Tryz.prog 249 #[v3,a1,(.func (.func 250) #[] #[])] w4 λv5 w6=>
 rv Tryz.prog (Instr.extract v5 0) w6 λv7 w8=>
 rv Tryz.prog (Instr.extract v5 1) w8 λv9 w10=>
 K (.tuple #[v7,v9]) w10
theorem F198_eq(a0 a1:Value)(w:World)(K:Kont):vcFnJ Tryz.prog Tryz.f198 [a0,a1] w K=F198 a0 a1 w K:=by kernel_rfl
theorem F198_ok:okF Tryz.prog Tryz.f198 2=true:=by kernel_rfl
theorem ca198{a0 a1:Value}{w:World}{K:Kont}(h:F198 a0 a1 w K):Ca Tryz.prog 198 #[a0,a1] w K:=
 ca_of_vcJ Tryz.noNum Tryz.func198 F198_ok (by rw[F198_eq];exact h)
def F250(a0 a1:Value)(w:World)(K:Kont):Prop:=
 rv Tryz.prog (Instr.box 108 a0) w λv0 w1=>
 rv Tryz.prog (Instr.fieldAt 108 v0 0) w1 λv2 w3=>
 rv Tryz.prog (Instr.fieldAt 38 v2 0) w3 λv4 w5=>
 rv Tryz.prog (Instr.loadAt 35 v4) w5 λv6 w7=>
 rv Tryz.prog (bin .lss 35 false v6 a1) w7 λv8 w9=>
 ifB v8
 (K (.int .i64 (-1)) w9)
 (rv Tryz.prog (Instr.fieldAt 108 v0 0) w9 λv10 w11=>
 rv Tryz.prog (Instr.fieldAt 38 v10 0) w11 λv12 w13=>
 rv Tryz.prog (Instr.loadAt 35 v12) w13 λv14 w15=>
 rv Tryz.prog (bin .gtr 35 false v14 a1) w15 λv16 w17=>
 ifB v16
 (K (.int .i64 1) w17)
 (K (.int .i64 0) w17))
theorem F250_eq(a0 a1:Value)(w:World)(K:Kont):vcFnJ Tryz.prog Tryz.f250 [a0,a1] w K=F250 a0 a1 w K:=by kernel_rfl
theorem F250_ok:okF Tryz.prog Tryz.f250 2=true:=by kernel_rfl
theorem ca250{a0 a1:Value}{w:World}{K:Kont}(h:F250 a0 a1 w K):Ca Tryz.prog 250 #[a0,a1] w K:=
 ca_of_vcJ Tryz.noNum Tryz.func250 F250_ok (by rw[F250_eq];exact h)
def F200(a0 a1:Value)(w:World)(K:Kont):Prop:=
 Ca Tryz.prog 132 #[a0] w λv0 w1=>
 rv Tryz.prog (Op.unary .not v0) w1 λv2 w3=>
 ifB v2
 (K (.tuple #[(.pointer none),(.int .i64 1)]) w3)
 (Ca Tryz.prog 198 #[a0,a1] w3 λv4 w5=>
 rv Tryz.prog (Instr.extract v4 0) w5 λv6 w7=>
 rv Tryz.prog (Instr.extract v4 1) w7 λv8 w9=>
 rv Tryz.prog (Op.unary .not v8) w9 λv10 w11=>
 ifB v10
 (K (.tuple #[(.pointer none),(.int .i64 7)]) w11)
 (nilK a0 λv12=>rv Tryz.prog (Instr.fieldAt 197 v12 2) w11 λv13 w14=>
 rv Tryz.prog (Instr.loadAt 45 v13) w14 λv15 w16=>
 rv Tryz.prog (Instr.indexAt 45 v15 v6) w16 λv17 w18=>
 rv Tryz.prog (Instr.fieldAt 108 v17 1) w18 λv19 w20=>
 rv Tryz.prog (Instr.loadAt 106 v19) w20 λv21 w22=>
 rv Tryz.prog (bin .eql 106 true v21 (.int .u8 3)) w22 λv23 w24=>
 ifB v23
 (K (.tuple #[(.pointer none),(.int .i64 50)]) w24)
 (nilK a0 λv25=>rv Tryz.prog (Instr.fieldAt 197 v25 2) w24 λv26 w27=>
 rv Tryz.prog (Instr.loadAt 45 v26) w27 λv28 w29=>
 rv Tryz.prog (Instr.indexAt 45 v28 v6) w29 λv30 w31=>
 K (.tuple #[v30,(.int .i64 0)]) w31)))
theorem F200_eq(a0 a1:Value)(w:World)(K:Kont):vcFnJ Tryz.prog Tryz.f200 [a0,a1] w K=F200 a0 a1 w K:=by kernel_rfl
theorem F200_ok:okF Tryz.prog Tryz.f200 2=true:=by kernel_rfl
theorem ca200{a0 a1:Value}{w:World}{K:Kont}(h:F200 a0 a1 w K):Ca Tryz.prog 200 #[a0,a1] w K:=
 ca_of_vcJ Tryz.noNum Tryz.func200 F200_ok (by rw[F200_eq];exact h)
def F53(a0:Value)(w:World)(K:Kont):Prop:=
 Ca Tryz.prog 132 #[a0] w λv0 w1=>
 rv Tryz.prog (Op.unary .not v0) w1 λv2 w3=>
 ifB v2
 (K (.int .u32 0) w3)
 (nilK a0 λv4=>rv Tryz.prog (Instr.fieldAt 197 v4 1) w3 λv5 w6=>
 rv Tryz.prog (Instr.loadAt 35 v5) w6 λv7 w8=>
 K v7 w8)
theorem F53_eq(a0:Value)(w:World)(K:Kont):vcFnJ Tryz.prog Tryz.f53 [a0] w K=F53 a0 w K:=by kernel_rfl
theorem F53_ok:okF Tryz.prog Tryz.f53 1=true:=by kernel_rfl
theorem ca53{a0:Value}{w:World}{K:Kont}(h:F53 a0 w K):Ca Tryz.prog 53 #[a0] w K:=
 ca_of_vcJ Tryz.noNum Tryz.func53 F53_ok (by rw[F53_eq];exact h)
def F201(a0:Value)(w:World)(K:Kont):Prop:=
 Ca Tryz.prog 132 #[a0] w λv0 w1=>
 rv Tryz.prog (Op.unary .not v0) w1 λv2 w3=>
 ifB v2
 (K (.int .i64 1) w3)
 (nilK a0 λv4=>rv Tryz.prog (Instr.fieldAt 197 v4 1) w3 λv5 w6=>
 rv Tryz.prog (Instr.loadAt 35 v5) w6 λv7 w8=>
 rv Tryz.prog (bin .eql 35 true v7 (.int .u32 4294967295)) w8 λv9 w10=>
 ifB v9
 (K (.int .i64 6) w10)
 (nilK a0 λv11=>rv Tryz.prog (Instr.fieldAt 197 v11 1) w10 λv12 w13=>
 rv Tryz.prog (Instr.loadAt 35 v12) w13 λv14 w15=>
 rv Tryz.prog (bin .add 35 true v14 (.int .u32 1)) w15 λv16 w17=>
 nilK a0 λv18=>rv Tryz.prog (Instr.fieldAt 197 v18 1) w17 λv19 w20=>
 ru Tryz.prog (Instr.storeAt 35 v19 v16) w20 λw21=>
 K (.int .i64 0) w21))
theorem F201_eq(a0:Value)(w:World)(K:Kont):vcFnJ Tryz.prog Tryz.f201 [a0] w K=F201 a0 w K:=by kernel_rfl
theorem F201_ok:okF Tryz.prog Tryz.f201 1=true:=by kernel_rfl
theorem ca201{a0:Value}{w:World}{K:Kont}(h:F201 a0 w K):Ca Tryz.prog 201 #[a0] w K:=
 ca_of_vcJ Tryz.noNum Tryz.func201 F201_ok (by rw[F201_eq];exact h)
def F114(a0 a1:Value)(w:World)(K:Kont):Prop:=
 rv Tryz.prog (Instr.box 38 a1) w λv0 w1=>
 Ca Tryz.prog 132 #[a0] w1 λv2 w3=>
 rv Tryz.prog (Op.unary .not v2) w3 λv4 w5=>
 ifB v4
 (K (.int .i64 1) w5)
 (rx Tryz.prog (bigS 38 v0) w5 λv6 w7=>
 Ca Tryz.prog 107 #[v6] w7 λv8 w9=>
 rv Tryz.prog (Op.unary .not v8) w9 λv10 w11=>
 ifB v10
 (K (.int .i64 2) w11)
 (rv Tryz.prog (Instr.fieldAt 38 v0 0) w11 λv12 w13=>
 rv Tryz.prog (Instr.loadAt 35 v12) w13 λv14 w15=>
 Ca Tryz.prog 198 #[a0,v14] w15 λv16 w17=>
 rv Tryz.prog (Instr.extract v16 0) w17 λv18 w19=>
 rv Tryz.prog (Instr.extract v16 1) w19 λv20 w21=>
 ifB v20
 (K (.int .i64 8) w21)
 (rdP Tryz.prog (Instr.fieldAt 38 v0 8) λv22=>
 rdW Tryz.prog (Instr.loadAt 35 v22) w21.drew λv23=>
 nilK a0 λv24=>rdP Tryz.prog (Instr.fieldAt 197 v24 1) λv25=>
 rdW Tryz.prog (Instr.loadAt 35 v25) w21.drew λv26=>
 rdP Tryz.prog (bin .lss 35 false v23 v26) λv27=>
 ifB v27
 (K (.int .i64 51) w21.drew)
 (nilK a0 λv28=>rv Tryz.prog (Instr.fieldAt 197 v28 2) w21.drew λv29 w30=>
 rv Tryz.prog (Instr.loadAt 45 v29) w30 λv31 w32=>
 rn Tryz.prog (builtin .len #[45] 3 #[false] #[v31]) w32 λv33 w34=>
 rv Tryz.prog (bin .geq 3 true v33 (.int .i64 16)) w34 λv35 w36=>
 ifB v35
 (K (.int .i64 9) w36)
 (nilK a0 λv37=>rdP Tryz.prog (Instr.fieldAt 197 v37 2) λv38=>
 rdW Tryz.prog (Instr.loadAt 45 v38) w36.drew λv39=>
 rdX Tryz.prog (bigS 38 v0) w36.drew λv40=>
 rdP Tryz.prog (Instr.fieldAt 38 v0 9) λv41=>
 rdW Tryz.prog (Instr.loadAt 2 v41) w36.drew λv42=>
 rdPX Tryz.prog (bigB 108 #[(0,v40),(1,(.int .u8 1)),(2,v42)]) λv43=>
 rx Tryz.prog (xLit 45 1 [(0,v43)]) w36.drew λv44 w45=>
 Sem.run Tryz.prog (Instr.loadAt 45 v38) w45=.ok v39 w45∧
 (Ca Tryz.prog 199 #[v39,v18,v44] w45 λv46 w47=>
 nilK a0 λv48=>rdP Tryz.prog (Instr.fieldAt 197 v48 2) λv49=>
 ru Tryz.prog (Instr.storeAt 45 v49 v46) w47 λw50=>
 K (.int .i64 0) w50))))))
theorem F114_eq(a0 a1:Value)(w:World)(K:Kont):vcFnJ Tryz.prog Tryz.f114 [a0,a1] w K=F114 a0 a1 w K:=by kernel_rfl
theorem F114_ok:okF Tryz.prog Tryz.f114 2=true:=by kernel_rfl
theorem ca114{a0 a1:Value}{w:World}{K:Kont}(h:F114 a0 a1 w K):Ca Tryz.prog 114 #[a0,a1] w K:=
 ca_of_vcJ Tryz.noNum Tryz.func114 F114_ok (by rw[F114_eq];exact h)
def F115(a0 a1 a2:Value)(w:World)(K:Kont):Prop:=
 Ca Tryz.prog 200 #[a0,a1] w λv0 w1=>
 rv Tryz.prog (Instr.extract v0 0) w1 λv2 w3=>
 rv Tryz.prog (Instr.extract v0 1) w3 λv4 w5=>
 rv Tryz.prog (bin .neq 26 true v4 (.int .i64 0)) w5 λv6 w7=>
 ifB v6
 (K v4 w7)
 (nilK v2 λv8=>rv Tryz.prog (Instr.fieldAt 108 v8 1) w7 λv9 w10=>
 ru Tryz.prog (Instr.storeAt 106 v9 (.int .u8 1)) w10 λw11=>
 ifB a2
 (nilK v2 λv12=>rv Tryz.prog (Instr.fieldAt 108 v12 1) w11 λv13 w14=>
 ru Tryz.prog (Instr.storeAt 106 v13 (.int .u8 2)) w14 λw15=>
 K (.int .i64 0) w15)
 (K (.int .i64 0) w11))
theorem F115_eq(a0 a1 a2:Value)(w:World)(K:Kont):vcFnJ Tryz.prog Tryz.f115 [a0,a1,a2] w K=F115 a0 a1 a2 w K:=by kernel_rfl
theorem F115_ok:okF Tryz.prog Tryz.f115 3=true:=by kernel_rfl
theorem ca115{a0 a1 a2:Value}{w:World}{K:Kont}(h:F115 a0 a1 a2 w K):Ca Tryz.prog 115 #[a0,a1,a2] w K:=
 ca_of_vcJ Tryz.noNum Tryz.func115 F115_ok (by rw[F115_eq];exact h)
def F116(a0 a1 a2:Value)(w:World)(K:Kont):Prop:=
 Ca Tryz.prog 200 #[a0,a1] w λv0 w1=>
 rv Tryz.prog (Instr.extract v0 0) w1 λv2 w3=>
 rv Tryz.prog (Instr.extract v0 1) w3 λv4 w5=>
 rv Tryz.prog (bin .neq 26 true v4 (.int .i64 0)) w5 λv6 w7=>
 ifB v6
 (K v4 w7)
 (nilK v2 λv8=>rv Tryz.prog (Instr.fieldAt 108 v8 0) w7 λv9 w10=>
 rx Tryz.prog (bigS 38 v9) w10 λv11 w12=>
 Ca Tryz.prog 127 #[v11,a2] w12 λv13 w14=>
 rv Tryz.prog (Op.unary .not v13) w14 λv15 w16=>
 ifB v15
 (K (.int .i64 52) w16)
 (nilK v2 λv17=>rv Tryz.prog (Instr.fieldAt 108 v17 2) w16 λv18 w19=>
 ru Tryz.prog (Instr.storeAt 2 v18 a2) w19 λw20=>
 K (.int .i64 0) w20))
theorem F116_eq(a0 a1 a2:Value)(w:World)(K:Kont):vcFnJ Tryz.prog Tryz.f116 [a0,a1,a2] w K=F116 a0 a1 a2 w K:=by kernel_rfl
theorem F116_ok:okF Tryz.prog Tryz.f116 3=true:=by kernel_rfl
theorem ca116{a0 a1 a2:Value}{w:World}{K:Kont}(h:F116 a0 a1 a2 w K):Ca Tryz.prog 116 #[a0,a1,a2] w K:=
 ca_of_vcJ Tryz.noNum Tryz.func116 F116_ok (by rw[F116_eq];exact h)
def F298(a0 a1:Value)(w:World)(K:Kont):Prop:=
 rv Tryz.prog (Instr.box 38 a0) w λv0 w1=>
 rv Tryz.prog (Instr.box 38 a1) w1 λv2 w3=>
 rv Tryz.prog (Instr.fieldAt 38 v0 8) w3 λv4 w5=>
 rv Tryz.prog (Instr.loadAt 35 v4) w5 λv6 w7=>
 rv Tryz.prog (Instr.fieldAt 38 v2 8) w7 λv8 w9=>
 rv Tryz.prog (Instr.loadAt 35 v8) w9 λv10 w11=>
 rv Tryz.prog (bin .lss 35 false v6 v10) w11 λv12 w13=>
 ifB v12
 (K (.bool true) w13)
 (rv Tryz.prog (Instr.fieldAt 38 v0 8) w13 λv14 w15=>
 rv Tryz.prog (Instr.loadAt 35 v14) w15 λv16 w17=>
 rv Tryz.prog (Instr.fieldAt 38 v2 8) w17 λv18 w19=>
 rv Tryz.prog (Instr.loadAt 35 v18) w19 λv20 w21=>
 rv Tryz.prog (bin .eql 35 false v16 v20) w21 λv22 w23=>
 ifB v22
 (rv Tryz.prog (Instr.fieldAt 38 v0 0) w23 λv24 w25=>
 rv Tryz.prog (Instr.loadAt 35 v24) w25 λv26 w27=>
 rv Tryz.prog (Instr.fieldAt 38 v2 0) w27 λv28 w29=>
 rv Tryz.prog (Instr.loadAt 35 v28) w29 λv30 w31=>
 rv Tryz.prog (bin .lss 35 false v26 v30) w31 λv32 w33=>
 K v32 w33)
 (K (.bool false) w23))
theorem F298_eq(a0 a1:Value)(w:World)(K:Kont):vcFnJ Tryz.prog Tryz.f298 [a0,a1] w K=F298 a0 a1 w K:=by kernel_rfl
theorem F298_ok:okF Tryz.prog Tryz.f298 2=true:=by kernel_rfl
theorem ca298{a0 a1:Value}{w:World}{K:Kont}(h:F298 a0 a1 w K):Ca Tryz.prog 298 #[a0,a1] w K:=
 ca_of_vcJ Tryz.noNum Tryz.func298 F298_ok (by rw[F298_eq];exact h)
def J257_0(K:Kont)(s11:Value×Unit)(w12:World):Prop:=
 ∀_:Nat→Value,
 ifB s11.1
 (K (.int .i64 51) w12)
 (K (.int .i64 0) w12)
def F257(a0 a1:Value)(w:World)(K:Kont):Prop:=
 Ca Tryz.prog 200 #[a0,a1] w λv0 w1=>
 rv Tryz.prog (Instr.extract v0 0) w1 λv2 w3=>
 rv Tryz.prog (Instr.extract v0 1) w3 λv4 w5=>
 rv Tryz.prog (Instr.alloc 295 true (.tuple #[])) w5 λv6 w7=>
 ru Tryz.prog (Instr.storeAt 295 v6 v2) w7 λw8=>
 rv Tryz.prog (bin .neq 26 true v4 (.int .i64 0)) w8 λv9 w10=>
 ifB v9
 (K v4 w10)
 (JoinW (S:=Value×Unit) (λJ13=>
 nilK a0 λv14=>rdP Tryz.prog (Instr.fieldAt 197 v14 1) λv15=>
 rdW Tryz.prog (Instr.loadAt 35 v15) w10.drew λv16=>
 rdW Tryz.prog (Instr.loadAt 295 v6) w10.drew λv17=>
 nilK v17 λv18=>rdP Tryz.prog (Instr.fieldAt 108 v18 0) λv19=>
 rdP Tryz.prog (Instr.fieldAt 38 v19 8) λv20=>
 rdW Tryz.prog (Instr.loadAt 35 v20) w10.drew λv21=>
 rdP Tryz.prog (bin .lss 35 false v16 v21) λv22=>
 ifB v22
 (J13 ((.bool true),()) w10.drew)
 (nilK a0 λv23=>rdP Tryz.prog (Instr.fieldAt 197 v23 2) λv24=>
 rdW Tryz.prog (Instr.loadAt 45 v24) w10.drew λv25=>
 Ca Tryz.prog 296 #[v25,(.func (.func 297) #[] #[v6])] w10.drew λv26 w27=>
 J13 (v26,()) w27))
 (J257_0 K))
theorem F257_eq(a0 a1:Value)(w:World)(K:Kont):vcFnJ Tryz.prog Tryz.f257 [a0,a1] w K=F257 a0 a1 w K:=by kernel_rfl
theorem F257_ok:okF Tryz.prog Tryz.f257 2=true:=by kernel_rfl
theorem ca257{a0 a1:Value}{w:World}{K:Kont}(h:F257 a0 a1 w K):Ca Tryz.prog 257 #[a0,a1] w K:=
 ca_of_vcJ Tryz.noNum Tryz.func257 F257_ok (by rw[F257_eq];exact h)
def F297(a0 a1:Value)(w:World)(K:Kont):Prop:=
 rv Tryz.prog (Instr.box 108 a0) w λv0 w1=>
 rdP Tryz.prog (Instr.fieldAt 108 v0 1) λv2=>
 rdW Tryz.prog (Instr.loadAt 106 v2) w1.drew λv3=>
 rdP Tryz.prog (bin .neq 106 true v3 (.int .u8 3)) λv4=>
 ifB v4
 (rdP Tryz.prog (Instr.fieldAt 108 v0 0) λv5=>
 rdX Tryz.prog (bigS 38 v5) w1.drew λv6=>
 rdW Tryz.prog (Instr.loadAt 295 a1) w1.drew λv7=>
 nilK v7 λv8=>rdP Tryz.prog (Instr.fieldAt 108 v8 0) λv9=>
 rdX Tryz.prog (bigS 38 v9) w1.drew λv10=>
 Ca Tryz.prog 298 #[v6,v10] w1.drew λv11 w12=>
 K v11 w12)
 (K (.bool false) w1.drew)
theorem F297_eq(a0 a1:Value)(w:World)(K:Kont):vcFnJ Tryz.prog Tryz.f297 [a0,a1] w K=F297 a0 a1 w K:=by kernel_rfl
theorem F297_ok:okF Tryz.prog Tryz.f297 2=true:=by kernel_rfl
theorem ca297{a0 a1:Value}{w:World}{K:Kont}(h:F297 a0 a1 w K):Ca Tryz.prog 297 #[a0,a1] w K:=
 ca_of_vcJ Tryz.noNum Tryz.func297 F297_ok (by rw[F297_eq];exact h)
def F206(a0 a1:Value)(w:World)(K:Kont):Prop:=
 Ca Tryz.prog 257 #[a0,a1] w λv0 w1=>
 rv Tryz.prog (bin .neq 26 true v0 (.int .i64 0)) w1 λv2 w3=>
 ifB v2
 (K v0 w3)
 (Ca Tryz.prog 200 #[a0,a1] w3 λv4 w5=>
 rv Tryz.prog (Instr.extract v4 0) w5 λv6 w7=>
 rv Tryz.prog (Instr.extract v4 1) w7 λv8 w9=>
 rv Tryz.prog (bin .eql 26 true v8 (.int .i64 0)) w9 λv10 w11=>
 ifB v10
 (nilK v6 λv12=>rv Tryz.prog (Instr.fieldAt 108 v12 1) w11 λv13 w14=>
 ru Tryz.prog (Instr.storeAt 106 v13 (.int .u8 3)) w14 λw15=>
 K v8 w15)
 (K v8 w11))
theorem F206_eq(a0 a1:Value)(w:World)(K:Kont):vcFnJ Tryz.prog Tryz.f206 [a0,a1] w K=F206 a0 a1 w K:=by kernel_rfl
theorem F206_ok:okF Tryz.prog Tryz.f206 2=true:=by kernel_rfl
theorem ca206{a0 a1:Value}{w:World}{K:Kont}(h:F206 a0 a1 w K):Ca Tryz.prog 206 #[a0,a1] w K:=
 ca_of_vcJ Tryz.noNum Tryz.func206 F206_ok (by rw[F206_eq];exact h)
def F123(a0 a1:Value)(w:World)(K:Kont):Prop:=
 rx Tryz.prog (bigA 108) w λv0 w1=>
 Ca Tryz.prog 132 #[a0] w1 λv2 w3=>
 rv Tryz.prog (Op.unary .not v2) w3 λv4 w5=>
 ifB v4
 (rx Tryz.prog (bigB 108 #[]) w5 λv6 w7=>
 rux Tryz.prog (bigU 108 v0 v6) w7 λw8=>
 rdX Tryz.prog (bigS 108 v0) w8 λv9=>
 K (.tuple #[v9,(.int .i64 1)]) w8)
 (Ca Tryz.prog 198 #[a0,a1] w5 λv10 w11=>
 rv Tryz.prog (Instr.extract v10 0) w11 λv12 w13=>
 rv Tryz.prog (Instr.extract v10 1) w13 λv14 w15=>
 rv Tryz.prog (Op.unary .not v14) w15 λv16 w17=>
 ifB v16
 (rx Tryz.prog (bigB 108 #[]) w17 λv18 w19=>
 rux Tryz.prog (bigU 108 v0 v18) w19 λw20=>
 rdX Tryz.prog (bigS 108 v0) w20 λv21=>
 K (.tuple #[v21,(.int .i64 7)]) w20)
 (nilK a0 λv22=>rv Tryz.prog (Instr.fieldAt 197 v22 2) w17 λv23 w24=>
 rv Tryz.prog (Instr.loadAt 45 v23) w24 λv25 w26=>
 rv Tryz.prog (Instr.indexAt 45 v25 v12) w26 λv27 w28=>
 rx Tryz.prog (bigS 108 v27) w28 λv29 w30=>
 rux Tryz.prog (bigU 108 v0 v29) w30 λw31=>
 rdX Tryz.prog (bigS 108 v0) w31 λv32=>
 K (.tuple #[v32,(.int .i64 0)]) w31))
theorem F123_eq(a0 a1:Value)(w:World)(K:Kont):vcFnJ Tryz.prog Tryz.f123 [a0,a1] w K=F123 a0 a1 w K:=by kernel_rfl
theorem F123_ok:okF Tryz.prog Tryz.f123 2=true:=by kernel_rfl
theorem ca123{a0 a1:Value}{w:World}{K:Kont}(h:F123 a0 a1 w K):Ca Tryz.prog 123 #[a0,a1] w K:=
 ca_of_vcJ Tryz.noNum Tryz.func123 F123_ok (by rw[F123_eq];exact h)
def F47(a0:Value)(w:World)(K:Kont):Prop:=
 rv Tryz.prog (Instr.box 61 a0) w λv0 w1=>
 K (.func (.func 131) #[] #[v0]) w1
theorem F47_eq(a0:Value)(w:World)(K:Kont):vcFnJ Tryz.prog Tryz.f47 [a0] w K=F47 a0 w K:=by kernel_rfl
theorem F47_ok:okF Tryz.prog Tryz.f47 1=true:=by kernel_rfl
theorem ca47{a0:Value}{w:World}{K:Kont}(h:F47 a0 w K):Ca Tryz.prog 47 #[a0] w K:=
 ca_of_vcJ Tryz.noNum Tryz.func47 F47_ok (by rw[F47_eq];exact h)
def L131_0(v15:Value)(v13:Value)(a0:Value)(K:Kont)(s17:Value×Unit)(w18:World)(K19:Value×Unit→World→Prop):Prop:=
 ∀_:Nat→Value,
 rv Tryz.prog (bin .lss 3 false s17.1 v15) w18 λv20 w21=>
 ifB v20
 (rv Tryz.prog (Instr.indexAt 45 v13 s17.1) w21 λv22 w23=>
 rx Tryz.prog (bigS 108 v22) w23 λv24 w25=>
 rx Tryz.prog (bigA 108) w25 λv26 w27=>
 rux Tryz.prog (bigU 108 v26 v24) w27 λw28=>
 rx Tryz.prog (bigS 108 v26) w28 λv29 w30=>
 callV Tryz.prog a0 [v29] w30 λv31 w32=>
 rv Tryz.prog (Op.unary .not v31) w32 λv33 w34=>
 ifB v33
 (K (.tuple #[]) w34)
 (rv Tryz.prog (bin .add 3 true s17.1 (.int .i64 1)) w34 λv35 w36=>
 K19 (v35,()) w36))
 (K (.tuple #[]) w21)
def F131(a0 a1:Value)(w:World)(K:Kont):Prop:=
 rv Tryz.prog (Instr.loadAt 61 a1) w λv0 w1=>
 Ca Tryz.prog 132 #[v0] w1 λv2 w3=>
 rv Tryz.prog (Op.unary .not v2) w3 λv4 w5=>
 ifB v4
 (K (.tuple #[]) w5)
 (rv Tryz.prog (Instr.loadAt 61 a1) w5 λv6 w7=>
 nilK v6 λv8=>rv Tryz.prog (Instr.fieldAt 197 v8 2) w7 λv9 w10=>
 rv Tryz.prog (Instr.loadAt 45 v9) w10 λv11 w12=>
 Ca Tryz.prog 128 #[v11] w12 λv13 w14=>
 rn Tryz.prog (builtin .len #[45] 3 #[false] #[v13]) w14 λv15 w16=>
 LoopW (S:=Value×Unit) (L131_0 v15 v13 a0 K) ((.int .i64 0),()) w16)
theorem F131_eq(a0 a1:Value)(w:World)(K:Kont):vcFnJ Tryz.prog Tryz.f131 [a0,a1] w K=F131 a0 a1 w K:=by kernel_rfl
theorem F131_ok:okF Tryz.prog Tryz.f131 2=true:=by kernel_rfl
theorem ca131{a0 a1:Value}{w:World}{K:Kont}(h:F131 a0 a1 w K):Ca Tryz.prog 131 #[a0,a1] w K:=
 ca_of_vcJ Tryz.noNum Tryz.func131 F131_ok (by rw[F131_eq];exact h)
def F108(a0:Value)(w:World)(K:Kont):Prop:=
 Ca Tryz.prog 132 #[a0] w λv0 w1=>
 rv Tryz.prog (Op.unary .not v0) w1 λv2 w3=>
 ifB v2
 (K (.pointer none) w3)
 (nilK a0 λv4=>rv Tryz.prog (Instr.loadAt 197 v4) w3 λv5 w6=>
 rv Tryz.prog (Instr.alloc 197 true (.tuple #[])) w6 λv7 w8=>
 ru Tryz.prog (Instr.storeAt 197 v7 v5) w8 λw9=>
 nilK a0 λv10=>rv Tryz.prog (Instr.fieldAt 197 v10 2) w9 λv11 w12=>
 rv Tryz.prog (Instr.loadAt 45 v11) w12 λv13 w14=>
 Ca Tryz.prog 128 #[v13] w14 λv15 w16=>
 rv Tryz.prog (Instr.fieldAt 197 v7 2) w16 λv17 w18=>
 ru Tryz.prog (Instr.storeAt 45 v17 v15) w18 λw19=>
 K v7 w19)
theorem F108_eq(a0:Value)(w:World)(K:Kont):vcFnJ Tryz.prog Tryz.f108 [a0] w K=F108 a0 w K:=by kernel_rfl
theorem F108_ok:okF Tryz.prog Tryz.f108 1=true:=by kernel_rfl
theorem ca108{a0:Value}{w:World}{K:Kont}(h:F108 a0 w K):Ca Tryz.prog 108 #[a0] w K:=
 ca_of_vcJ Tryz.noNum Tryz.func108 F108_ok (by rw[F108_eq];exact h)
def F128(a0:Value)(w:World)(K:Kont):Prop:=
 rv Tryz.prog (bin .eql 45 true a0 (.slice none 0 0)) w λv0 w1=>
 ifB v0
 (K (.slice none 0 0) w1)
 (rx Tryz.prog (xLit 45 0 []) w1 λv2 w3=>
 rx Tryz.prog (xAppend #[45,45] 45 [v2,a0]) w3 λv4 w5=>
 K v4 w5)
theorem F128_eq(a0:Value)(w:World)(K:Kont):vcFnJ Tryz.prog Tryz.f128 [a0] w K=F128 a0 w K:=by kernel_rfl
theorem F128_ok:okF Tryz.prog Tryz.f128 1=true:=by kernel_rfl
theorem ca128{a0:Value}{w:World}{K:Kont}(h:F128 a0 w K):Ca Tryz.prog 128 #[a0] w K:=
 ca_of_vcJ Tryz.noNum Tryz.func128 F128_ok (by rw[F128_eq];exact h)
def F199(a0 a1 a2:Value)(w:World)(K:Kont):Prop:=
 rv Tryz.prog (Instr.sliceAt 45 a0 (some a1) none none) w λv0 w1=>
 rn Tryz.prog (builtin .len #[45] 3 #[false] #[a2]) w1 λv2 w3=>
 rv Tryz.prog (bin .eql 3 true v2 (.int .i64 0)) w3 λv4 w5=>
 ifB v4
 (K a0 w5)
 (rn Tryz.prog (builtin .len #[45] 3 #[false] #[a0]) w5 λv6 w7=>
 rv Tryz.prog (bin .eql 3 false a1 v6) w7 λv8 w9=>
 ifB v8
 (rx Tryz.prog (xAppend #[45,45] 45 [a0,a2]) w9 λv10 w11=>
 K v10 w11)
 (rv Tryz.prog (bin .add 3 false v6 v2) w9 λv12 w13=>
 rn Tryz.prog (builtin .cap #[45] 3 #[false] #[a0]) w13 λv14 w15=>
 rv Tryz.prog (bin .gtr 3 false v12 v14) w15 λv16 w17=>
 ifB v16
 (rv Tryz.prog (Instr.sliceAt 45 a0 none (some a1) none) w17 λv18 w19=>
 rv Tryz.prog (bin .add 3 false v6 v2) w19 λv20 w21=>
 rv Tryz.prog (bin .sub 3 false v20 a1) w21 λv22 w23=>
 rx Tryz.prog (xAppend #[45,3] 45 [v18,v22]) w23 λv24 w25=>
 rv Tryz.prog (Instr.sliceAt 45 v24 (some a1) none none) w25 λv26 w27=>
 rx Tryz.prog (xCopy #[45,45] 3 [v26,a2]) w27 λv28 w29=>
 rdP Tryz.prog (bin .add 3 false a1 v2) λv30=>
 rdP Tryz.prog (Instr.sliceAt 45 v24 (some v30) none none) λv31=>
 rdP Tryz.prog (Instr.sliceAt 45 a0 (some a1) none none) λv32=>
 rx Tryz.prog (xCopy #[45,45] 3 [v31,v32]) w29.drew λv33 w34=>
 K v24 w34)
 (rv Tryz.prog (bin .add 3 false v6 v2) w17 λv35 w36=>
 rv Tryz.prog (Instr.sliceAt 45 a0 none (some v35) none) w36 λv37 w38=>
 rv Tryz.prog (bin .add 3 false a1 v2) w38 λv39 w40=>
 rv Tryz.prog (Instr.sliceAt 45 v37 (some v39) none none) w40 λv41 w42=>
 rnx Tryz.prog 251 [a2,v41] w42 λv43 w44=>
 rv Tryz.prog (Op.unary .not v43) w44 λv45 w46=>
 ifB v45
 (rdP Tryz.prog (bin .add 3 false a1 v2) λv47=>
 rdP Tryz.prog (Instr.sliceAt 45 v37 (some v47) none none) λv48=>
 rdP Tryz.prog (Instr.sliceAt 45 v37 (some a1) none none) λv49=>
 rx Tryz.prog (xCopy #[45,45] 3 [v48,v49]) w46.drew λv50 w51=>
 rv Tryz.prog (Instr.sliceAt 45 v37 (some a1) none none) w51 λv52 w53=>
 rx Tryz.prog (xCopy #[45,45] 3 [v52,a2]) w53 λv54 w55=>
 K v37 w55)
 (rv Tryz.prog (Instr.sliceAt 45 v37 (some v6) none none) w46 λv56 w57=>
 rx Tryz.prog (xCopy #[45,45] 3 [v56,a2]) w57 λv58 w59=>
 rv Tryz.prog (Instr.sliceAt 45 v37 (some a1) none none) w59 λv60 w61=>
 Ca Tryz.prog 252 #[v60,v2] w61 λv62 w63=>
 K v37 w63))))
theorem F199_eq(a0 a1 a2:Value)(w:World)(K:Kont):vcFnJ Tryz.prog Tryz.f199 [a0,a1,a2] w K=F199 a0 a1 a2 w K:=by kernel_rfl
theorem F199_ok:okF Tryz.prog Tryz.f199 3=true:=by kernel_rfl
theorem ca199{a0 a1 a2:Value}{w:World}{K:Kont}(h:F199 a0 a1 a2 w K):Ca Tryz.prog 199 #[a0,a1,a2] w K:=
 ca_of_vcJ Tryz.noNum Tryz.func199 F199_ok (by rw[F199_eq];exact h)
def L249_0(a0:Value)(a2:Value)(a1:Value)(v0:Value)(K:Kont)(s2:Value×Value×Unit)(w3:World)(K4:Value×Value×Unit→World→Prop):Prop:=
 ∀_:Nat→Value,
 rv Tryz.prog (bin .lss 3 false s2.1 s2.2.1) w3 λv5 w6=>
 ifB v5
 (rv Tryz.prog (bin .add 3 false s2.1 s2.2.1) w6 λv7 w8=>
 rv Tryz.prog (convert 3 249 v7) w8 λv9 w10=>
 rv Tryz.prog (bin .shr 249 true v9 (.int .u64 1)) w10 λv11 w12=>
 rv Tryz.prog (convert 249 3 v11) w12 λv13 w14=>
 rv Tryz.prog (Instr.indexAt 45 a0 v13) w14 λv15 w16=>
 rx Tryz.prog (bigS 108 v15) w16 λv17 w18=>
 callV Tryz.prog a2 [v17,a1] w18 λv19 w20=>
 rv Tryz.prog (bin .lss 3 true v19 (.int .i64 0)) w20 λv21 w22=>
 ifB v21
 (rv Tryz.prog (bin .add 3 true v13 (.int .i64 1)) w22 λv23 w24=>
 K4 (v23,s2.2.1,()) w24)
 (K4 (s2.1,v13,()) w22))
 (rv Tryz.prog (bin .lss 3 false s2.1 v0) w6 λv25 w26=>
 ifB v25
 (rv Tryz.prog (Instr.indexAt 45 a0 s2.1) w26 λv27 w28=>
 rx Tryz.prog (bigS 108 v27) w28 λv29 w30=>
 callV Tryz.prog a2 [v29,a1] w30 λv31 w32=>
 rv Tryz.prog (bin .eql 3 true v31 (.int .i64 0)) w32 λv33 w34=>
 K (.tuple #[s2.1,v33]) w34)
 (K (.tuple #[s2.1,(.bool false)]) w26))
def F249(a0 a1 a2:Value)(w:World)(K:Kont):Prop:=
 rn Tryz.prog (builtin .len #[45] 3 #[false] #[a0]) w λv0 w1=>
 LoopW (S:=Value×Value×Unit) (L249_0 a0 a2 a1 v0 K) ((.int .i64 0),v0,()) w1
theorem F249_eq(a0 a1 a2:Value)(w:World)(K:Kont):vcFnJ Tryz.prog Tryz.f249 [a0,a1,a2] w K=F249 a0 a1 a2 w K:=by kernel_rfl
theorem F249_ok:okF Tryz.prog Tryz.f249 3=true:=by kernel_rfl
theorem ca249{a0 a1 a2:Value}{w:World}{K:Kont}(h:F249 a0 a1 a2 w K):Ca Tryz.prog 249 #[a0,a1,a2] w K:=
 ca_of_vcJ Tryz.noNum Tryz.func249 F249_ok (by rw[F249_eq];exact h)
def F296(a0 a1:Value)(w:World)(K:Kont):Prop:=
 Ca Tryz.prog 347 #[a0,a1] w λv0 w1=>
 rv Tryz.prog (bin .geq 3 true v0 (.int .i64 0)) w1 λv2 w3=>
 K v2 w3
theorem F296_eq(a0 a1:Value)(w:World)(K:Kont):vcFnJ Tryz.prog Tryz.f296 [a0,a1] w K=F296 a0 a1 w K:=by kernel_rfl
theorem F296_ok:okF Tryz.prog Tryz.f296 2=true:=by kernel_rfl
theorem ca296{a0 a1:Value}{w:World}{K:Kont}(h:F296 a0 a1 w K):Ca Tryz.prog 296 #[a0,a1] w K:=
 ca_of_vcJ Tryz.noNum Tryz.func296 F296_ok (by rw[F296_eq];exact h)
def L347_0(v0:Value)(a0:Value)(a1:Value)(K:Kont)(s2:Value×Value×Unit)(w3:World)(K4:Value×Value×Unit→World→Prop):Prop:=
 ∀_:Nat→Value,
 rv Tryz.prog (bin .lss 3 false s2.2.1 v0) w3 λv5 w6=>
 ifB v5
 (rv Tryz.prog (Instr.indexAt 45 a0 s2.2.1) w6 λv7 w8=>
 rx Tryz.prog (bigS 108 v7) w8 λv9 w10=>
 callV Tryz.prog a1 [v9] w10 λv11 w12=>
 ifB v11
 (K s2.2.1 w12)
 (rv Tryz.prog (bin .add 3 true s2.2.1 (.int .i64 1)) w12 λv13 w14=>
 K4 (s2.1,v13,()) w14))
 (K (.int .i64 (-1)) w6)
def F347(a0 a1:Value)(w:World)(K:Kont):Prop:=
 rn Tryz.prog (builtin .len #[45] 3 #[false] #[a0]) w λv0 w1=>
 LoopW (S:=Value×Value×Unit) (L347_0 v0 a0 a1 K) ((.int .i64 0),(.int .i64 0),()) w1
theorem F347_eq(a0 a1:Value)(w:World)(K:Kont):vcFnJ Tryz.prog Tryz.f347 [a0,a1] w K=F347 a0 a1 w K:=by kernel_rfl
theorem F347_ok:okF Tryz.prog Tryz.f347 2=true:=by kernel_rfl
theorem ca347{a0 a1:Value}{w:World}{K:Kont}(h:F347 a0 a1 w K):Ca Tryz.prog 347 #[a0,a1] w K:=
 ca_of_vcJ Tryz.noNum Tryz.func347 F347_ok (by rw[F347_eq];exact h)
end Go.Proofs
namespace Go.Proofs
open Go Go.Vc
attribute [local congr] Ca_congV
abbrev Bk:=Bool→List Od
def Bk.empty:Bk:=λ_=>[]
structure BookQ(w:World)(b:Nat)(F:Nat→Prop)(B:Bk):Prop where
 out:∃(s:Bool→Nat) (G:Bool→Nat→Prop),hp w b=some (.cells #[sptr (s true),sptr (s false)] 231 (0,0))∧(∀d,SideQ w (s d) (G d) d (B d))∧(∀x,F x↔x=b∨G true x∨G false x)∧(∀d,¬G d b)∧∀x,G true x→¬G false x
theorem BookQ.mod{F H:Nat→Prop}{w w' :World}{b:Nat}{B:Bk}(h:BookQ w b F B)(hm:Mod H w w')(hd:∀x,F x→¬H x):BookQ w' b F B:=by
 obtain⟨s,G,h1,h2,h3,h4,h5⟩:=h.out
 exact⟨s,G,hm.hpk h1 (hd b ((h3 b).2 (.inl rfl))),λd=>(h2 d).mod hm λx hx=>hd x ((h3 x).2 (.inr (by cases d;exact .inr hx;exact .inl hx))),h3,h4,h5⟩
theorem BookQ.lt{F:Nat→Prop}{w:World}{b:Nat}{B:Bk}(h:BookQ w b F B){x:Nat}(hx:F x):x<w.heap.size:=by
 obtain⟨s,G,h1,h2,h3,h4,h5⟩:=h.out
 rcases(h3 x).1 hx with rfl|hx|hx
 ·exact lt_of_heap h1
 ·exact(h2 true).lt hx
 ·exact(h2 false).lt hx
def bptr(b:Nat):Value:=.pointer (some ⟨b,0,none⟩)
theorem ca_bknew{w:World}{K:Kont}(hK:∀b F w',BookQ w' b F Bk.empty→Mod (λ_=>False) w w' →(∀x,F x→w.heap.size≤x)→K (bptr b) w'):Ca Tryz.prog 48 #[] w K:=by
 apply ca48
 unfold F48
 refine ca_sdnew λs1 F1 w1 q1 m1 n1=>?_
 refine ca_sdnew λs2 F2 w2 q2 m2 n2=>?_
 refine rvS (v:=.agg #[sptr s1,sptr s2]) (w' :=w2) (by simp[go_sem,sptr]) ?_
 have m3:Mod (λ_=>False) w2 (w2.alloc (.cells #[sptr s1,sptr s2] 231)):=(Mod.refl _ w2).alloc _
 refine rvS (v:=bptr w2.heap.size) (w' :=w2.alloc (.cells #[sptr s1,sptr s2] 231)) rfl ?_
 have hs1:=m1.size
 have hs2:=m2.size
 refine hK w2.heap.size (λx=>x=w2.heap.size∨F1 x∨F2 x) _ ⟨λd=>if d then s1 else s2,λd=>if d then F1 else F2,by simp[go_sem],λd=>?_,λx=>Iff.rfl,λd=>?_,λx h1 h2=>?_⟩ ((m1.trans m2).trans m3) λx hx=>?_
 ·cases d
  ·exact q2.mod m3 λ_ _ h=>h
  ·exact(q1.mod m2 λ_ _ h=>h).mod m3 λ_ _ h=>h
 ·cases d
  ·intro h;have:=q2.lt h;omega
  ·intro h;have:=q1.lt h;omega
 ·have a1:=q1.lt h1
  have a2:=n2 x h2
  omega
 ·rcases hx with rfl|hx|hx
  ·omega
  ·exact n1 x hx
  ·have:=n2 x hx;omega
theorem ca_bkready{w:World}{K:Kont}{b:Nat}{F:Nat→Prop}{B:Bk}(h:BookQ w b F B)(hK:K (.bool true) w):Ca Tryz.prog 145 #[bptr b] w K:=by
 obtain⟨s,G,h1,h2,h3,h4,h5⟩:=h.out
 apply ca145
 unfold F145 bptr
 refine rvS (v:=.bool true) (by simp[go_sem]<;>first|exact⟨rfl,rfl⟩|exact rfl) ?_
 rw[ifB_bool,if_pos rfl]
 simp only[nilK_ptr]
 refine rvS (by simp[-Int.natCast_add,go_sem,h1]<;>first|exact⟨rfl,rfl⟩|exact rfl) ?_
 refine rvS (by simp[-Int.natCast_add,go_sem,h1]<;>first|exact⟨rfl,rfl⟩|exact rfl) ?_
 refine rvS (v:=.bool true) (w' :=w) (by simp[go_sem,sptr]) ?_
 exact hK
theorem psU:Tryz.prog.underlying 246=some (.slice 228):=by kernel_rfl
theorem psE:elemOk Tryz.prog 228 1 8=true:=by kernel_rfl
end Go.Proofs
namespace Go.Proofs
open Go Go.Vc
attribute [local congr] Ca_congV
structure BookR(w:World)(b:Nat)(s:Bool→Nat)(G:Bool→Nat→Prop)(B:Bk):Prop where
 blk:hp w b=some (.cells #[sptr (s true),sptr (s false)] 231 (0,0))
 sd:∀d,SideQ w (s d) (G d) d (B d)
 nb:∀d,¬G d b
 dj:∀x,G true x→¬G false x
theorem BookQ.r{w:World}{b:Nat}{F:Nat→Prop}{B:Bk}(h:BookQ w b F B):∃s G,BookR w b s G B∧∀x,F x↔x=b∨G true x∨G false x:=by
 obtain⟨s,G,h1,h2,h3,h4,h5⟩:=h.out
 exact⟨s,G,⟨h1,h2,h4,h5⟩,h3⟩
theorem BookR.mod{H:Nat→Prop}{w w' :World}{b:Nat}{s:Bool→Nat}{G:Bool→Nat→Prop}{B:Bk}(h:BookR w b s G B)(hm:Mod H w w')(hb:¬H b)(hd:∀d x,G d x→¬H x):BookR w' b s G B:=
 ⟨hm.hpk h.blk hb,λd=>(h.sd d).mod hm (hd d),h.nb,h.dj⟩
theorem BookR.lt{w:World}{b:Nat}{s:Bool→Nat}{G:Bool→Nat→Prop}{B:Bk}(h:BookR w b s G B){d:Bool}{x:Nat}(hx:G d x):x<w.heap.size:=(h.sd d).lt hx
structure Td where
 price:Int
 qty:Int
 num:Int
 acct:Int
 deriving DecidableEq
def tdC(t:Td):List Value:=[.int .i64 t.price,.int .i64 t.qty,.int .u64 t.num,.int .u32 t.acct]
def numC(n:Int):List Value:=[.int .u64 n]
end Go.Proofs

namespace Go.Proofs
open Go Go.Vc
attribute [local congr] Ca_congV
def nilV:Value:=.slice none 0 0
end Go.Proofs
namespace Go.Proofs
open Go Go.Vc
attribute [local congr] Ca_congV
theorem ca_bkcopy{w:World}{K:Kont}{b:Nat}{F:Nat→Prop}{B:Bk}(h:BookQ w b F B)
  (hK:∀b' F' w',BookQ w' b' F' B→Mod (λ_=>False) w w' →(∀x,F' x→w.heap.size≤x)→K (bptr b') w'):Ca Tryz.prog 110 #[bptr b] w K:=by
 apply ca110
 unfold F110
 refine ca_bkready h ?_
 obtain⟨s,G,hr,-⟩:=h.r
 refine rvS (v:=.bool false) (by simp[go_sem]<;>first|exact⟨rfl,rfl⟩|exact rfl) ?_
 rw[ifB_bool,if_neg Bool.false_ne_true]
 have md:Mod (λ_=>False) w w.drew:=(Mod.refl _ w).drew
 have hd:=hr.mod md id λ_ _ _ h=>h
 have c0:=hd.blk
 simp only[bptr,nilK_ptr]
 refine rdPS (λ_=>by simp[-Int.natCast_add,go_sem]<;>first|exact⟨rfl,rfl⟩|exact rfl) ?_
 refine rdWS (v:=sptr (s true)) (by simp[go_sem,c0]) ?_
 refine rdPS (λ_=>by simp[-Int.natCast_add,go_sem]<;>first|exact⟨rfl,rfl⟩|exact rfl) ?_
 refine rdWS (v:=sptr (s false)) (by simp[go_sem,c0]) ?_
 refine ca_scopy (hd.sd true) λs1 F1 w1 q1 m1 n1=>?_
 have c1:=m1.hpk c0 id
 refine⟨by simp[go_sem,c1],?_⟩
 have h1:=hd.mod m1 id λ_ _ _ h=>h
 refine ca_scopy (h1.sd false) λs2 F2 w2 q2 m2 n2=>?_
 refine rdPS (v:=.agg #[sptr s1,sptr s2]) (λ_=>by simp[go_sem,sptr]) ?_
 have m3:Mod (λ_=>False) w2 (w2.alloc (.cells #[sptr s1,sptr s2] 231)):=(Mod.refl _ w2).alloc _
 refine rvS (v:=bptr w2.heap.size) (w' :=w2.alloc (.cells #[sptr s1,sptr s2] 231)) rfl ?_
 have hs0:=md.size
 have hs1:=m1.size
 have hs2:=m2.size
 refine hK w2.heap.size (λx=>x=w2.heap.size∨F1 x∨F2 x) _ ⟨λd=>if d then s1 else s2,λd=>if d then F1 else F2,by simp[go_sem],λd=>?_,λx=>Iff.rfl,λd=>?_,λx h1 h2=>?_⟩ (((md.trans m1).trans m2).trans m3) λx hx=>?_
 ·cases d
  ·exact q2.mod m3 λ_ _ h=>h
  ·exact(q1.mod m2 λ_ _ h=>h).mod m3 λ_ _ h=>h
 ·cases d
  ·intro h;have:=q2.lt h;omega
  ·intro h;have:=q1.lt h;omega
 ·have a1:=q1.lt h1
  have a2:=n2 x h2
  omega
 ·rcases hx with rfl|hx|hx
  ·omega
  ·have:=n1 x hx;omega
  ·have:=n2 x hx;omega
end Go.Proofs

namespace Go.Proofs
open Go Go.Vc
attribute [local congr] Ca_congV
structure IterM(P:Program)(gv:Value)(xs:List (List Value))(Ok:World→Prop):Prop where
 out:∃f first captured,gv=.func (.func f) first captured∧∀(yl:Nat) (J:(Nat→Prop)→Nat→World→Prop) (Js:(Nat→Prop)→World→Prop) (W:World) (K:Kont),Ok W→
  (∀Q W1,Mod (λ_=>False) W W1→(∀b,Q b→W.heap.size≤b∧b<W1.heap.size)→J Q 0 W1)→
  (∀Q Q' i W W',J Q i W→Mod Q W W' →(∀b,Q' b→(Q b∨W.heap.size≤b)∧b<W'.heap.size)→J Q' i W')→
  (∀Q Q' W W',Js Q W→Mod Q W W' →(∀b,Q' b→(Q b∨W.heap.size≤b)∧b<W'.heap.size)→Js Q' W')→
  (∀Q i x W,xs[i]? =some x→J Q i W→∀K' :Kont,(∀W',J Q (i+1) W' →W.heap.size≤W'.heap.size→(∀b,Q b→W'.heap[b]? =W.heap[b]?)→K' (.bool true) W')→(∀W',Js Q W' →W.heap.size≤W'.heap.size→(∀b,Q b→W'.heap[b]? =W.heap[b]?)→K' (.bool false) W')→callV P (.func (.yield yl) #[] #[]) x W K')→
  (∀Q W,J Q xs.length W→K (.tuple #[]) W)→(∀Q W,Js Q W→K (.tuple #[]) W)→Ca P f ⟨first.toList++((.func (.yield yl) #[] #[])::captured.toList)⟩ W K
theorem iterNm{P:Program}{gv:Value}{xs:List (List Value)}{Ok:World→Prop}(h:IterN P gv xs Ok):IterM P gv xs Ok:=by
 obtain⟨f,first,cap,e,hh⟩:=h.out
 refine⟨f,first,cap,e,λyl J Js W K hok h0 hmod hmodx hstep hend hex=>?_⟩
 refine hh _ (λQ i W=>J Q i W∧∀b,Q b→b<W.heap.size) (λW=>∃Q,Js Q W) W K hok (λQ W1 hm hQ=>⟨h0 Q W1 hm hQ,λb hb=>(hQ b hb).2⟩) ?_ ?_ (λQ W h=>hend Q W h.1) λW ⟨Q,h⟩=>hex Q W h
 ·rintro Q i W W' ⟨hJ,hQ⟩ hm
  exact⟨hmod Q Q i W W' hJ (hm.mono λ_ _ h=>h.elim) λb hb=>⟨.inl hb,Nat.lt_of_lt_of_le (hQ b hb) hm.size⟩,λb hb=>Nat.lt_of_lt_of_le (hQ b hb) hm.size⟩
 ·rintro Q i x W hx ⟨hJ,hQ⟩ K' hT hF
  refine hstep Q i x W hx hJ K' (λW' hJ' hs hq=>hT W' ⟨hJ',λb hb=>?_⟩ hq) λW' hJ' hs _=>hF W' ⟨Q,hJ'⟩
  exact Nat.lt_of_lt_of_le (hQ b hb) hs
structure TellsM(gv:Value)(xs:List (List Value))(w:World):Prop where
 out:∃Ok,IterM Tryz.prog gv xs Ok∧∀W,Mod (λ_=>False) w W→Ok W
 fn:∃f cap,gv=.func (.func f) #[] cap
theorem Tells.m{gv:Value}{xs:List (List Value)}{w:World}(h:Tells gv xs w):TellsM gv xs w:=by
 obtain⟨⟨Ok,h1,h2⟩,h3⟩:=h
 exact⟨⟨Ok,iterNm h1,h2⟩,h3⟩
theorem TellsM.mod{gv:Value}{xs:List (List Value)}{w w' :World}(h:TellsM gv xs w)(hm:Mod (λ_=>False) w w'):TellsM gv xs w' :=by
 obtain⟨⟨Ok,h1,h2⟩,h3⟩:=h
 exact⟨⟨Ok,h1,λW m=>h2 W (hm.trans m)⟩,h3⟩
def VarOk(T:TypeId){α:Type}(fv:α→Value)(fc:α→List Value)(xs:List α):Prop:=
 ∀a∈xs,∀W:World,∃w1 w2,(Instr.alloc T true (.tuple #[])).run Tryz.prog W=.ok (.pointer (some ⟨W.heap.size,0,none⟩)) w1∧(Instr.storeAt T (.pointer (some ⟨W.heap.size,0,none⟩)) (fv a)).run Tryz.prog w1=.ok () w2∧
  hp w2 W.heap.size=some (.cells (fc a).toArray T (0,0))∧Mod (λ_=>False) W w2
section
variable{w:World}{gv:Value}{α:Type}{xs:List α}{T:TypeId}{fv:α→Value}{fc:α→List Value}{body:Value→World→(World→Prop)→(Code→World→Prop)→Prop}{after:List Nat→Option Code→World→Prop}{X0:Nat→Prop}
theorem RF_list(ht:TellsM gv (xs.map λa=>[fv a]) w)(hv:VarOk T fv fc xs)
  (I:(Nat→Prop)→Nat→World→Prop)(Ex:Code→(Nat→Prop)→World→Prop)
  (hst:∀X i W W' H,I X i W→Mod H W W' →(∀b,X b→¬H b)→I X i W')
  (hsx:∀c X W W' H,Ex c X W→Mod H W W' →(∀b,X b→¬H b)→Ex c X W')
  (hX0:∀b,X0 b→b<w.heap.size)(h0:I X0 0 w)
  (hstep:∀X i (hi:i<xs.length) W q,I X i W→Mod X0 w W→(∀b,X b→b<q∧(X0 b∨w.heap.size+1<b))→w.heap.size+1<q→q<W.heap.size→hp W q=some (.cells (fc xs[i]).toArray T (0,0))→∀KN KJ,
   (∀X' W',I X' (i+1) W' →Mod X W W' →(∀b,X' b→(X b∨W.heap.size≤b)∧b<W'.heap.size)→KN W')→
   (∀c X' W',Ex c X' W' →Mod X W W' →(∀b,X' b→(X b∨W.heap.size≤b)∧b<W'.heap.size)→KJ c W')→body (.pointer (some ⟨q,0,none⟩)) W KN KJ)
  (hend:∀X W d,d=w.heap.size→I X xs.length W→Mod X0 w W→hp W d=some (.deferred (some []))→(∀b,X b→b<W.heap.size∧(X0 b∨d+1<b))→after [d] none W)
  (hexit:∀c X W d,d=w.heap.size→Ex c X W→Mod X0 w W→hp W d=some (.deferred (some []))→(∀b,X b→b<W.heap.size∧(X0 b∨d+1<b))→after [d] (some c) W):
  RFW Tryz.prog none gv w 1 (λl x W KN KJ=>rv Tryz.prog (Instr.alloc T true (.tuple #[])) W λv w1=>ru Tryz.prog (Instr.storeAt T v (x.getD 0 undef)) w1 λw2=>beginK l w2 λw3=>body v w3 KN KJ) after:=by
 obtain⟨⟨Ok,hit,hok⟩,-⟩:=ht
 obtain⟨f,first,captured,rfl,hit0⟩:=hit.out
 refine RFW_iff.2 ?_
 show∀rec:Loop,_
 intro rec hready hpend hD hY
 obtain⟨d,hd0⟩:∃d,d=w.heap.size:=⟨_,rfl⟩
 have hsz:(w.alloc (.deferred (some []))).heap.size=d+1:=by rw[World.size_alloc,hd0]
 obtain⟨wr,hwr⟩:∃wr,wr=(w.alloc (.deferred (some []))).alloc (.loop rec):=⟨_,rfl⟩
 have hrec0:wr.heap[d+1]? =some (.loop rec):=by rw[hwr,heap_alloc,if_pos hsz.symm]
 have hszr:wr.heap.size=d+2:=by rw[hwr,World.size_alloc,hsz]
 have hdef0:hp wr d=some (.deferred (some [])):=by rw[hwr];simp[go_sem,hd0]
 have hmr:Mod (λ_=>False) w wr:=by rw[hwr];exact((Mod.refl _ w).alloc _).alloc _
 have hput:∀(W:World) (o:Obj),Mod (λb=>b=d+1) W (W.putObj (d+1) o):=λW o=>(Mod.refl (λb=>b=d+1) W).putObj (b:=d+1) (.inl rfl) o
 rw[hsz]at hY⊢
 rw[←hwr]
 let J:(Nat→Prop)→Nat→World→Prop:=λQ i W=>∃X,I X i W∧Mod X0 w W∧hp W d=some (.deferred (some []))∧(∀b,X b→b<W.heap.size∧(X0 b∨d+1<b)∧¬Q b)∧W.heap[d+1]? =some (.loop rec)∧∀b,Q b→d+1<b∧b<W.heap.size
 let Js:(Nat→Prop)→World→Prop:=λQ W=>∃c X r,Ex c X W∧Mod X0 w W∧hp W d=some (.deferred (some []))∧(∀b,X b→b<W.heap.size∧(X0 b∨d+1<b)∧¬Q b)∧W.heap[d+1]? =some (.loop r)∧(∀b,Q b→d+1<b∧b<W.heap.size)∧r.state=.done∧r.pending=some c
 refine hit0 _ J Js _ _ (hok _ hmr) ?_ ?_ ?_ ?_ ?_ ?_
 ·intro Q W1 hm hQ
  refine⟨X0,hst _ _ _ _ _ h0 (hmr.trans hm) λ_ _ h=>h,(hmr.trans hm).mono λ_ _ h=>h.elim,hm.hpk hdef0 id,λb hb=>?_,hm.keep hrec0 id,λb hb=>?_⟩
  ·have h1:=hX0 b hb
   have h2:=hm.size
   exact⟨by omega,.inl hb,λhq=>by have:=(hQ b hq).1;omega⟩
  ·have:=hQ b hb;omega
 ·rintro Q Q' i W W' ⟨X,h1,h2,h3,h4,h5,h6⟩ hm hQ'
  have hl:=lt_of_heap h5
  refine⟨X,hst _ _ _ _ _ h1 hm λb hb=>(h4 b hb).2.2,h2.on hm λb hb=>.inr (by have:=h6 b hb;omega),hm.hpk h3 λhb=>by have:=h6 _ hb;omega,λb hb=>?_,hm.keep h5 λhb=>by have:=h6 _ hb;omega,λb hb=>?_⟩
  ·have ha:=h4 b hb
   refine⟨Nat.lt_of_lt_of_le ha.1 hm.size,ha.2.1,λhq=>?_⟩
   rcases(hQ' b hq).1 with h|h
   ·exact ha.2.2 h
   ·have:=ha.1;omega
  ·have ha:=hQ' b hb
   refine⟨?_,ha.2⟩
   rcases ha.1 with h|h
   ·exact(h6 b h).1
   ·omega
 ·rintro Q Q' W W' ⟨c,X,r,h1,h2,h3,h4,h5,h6,h7⟩ hm hQ'
  have hl:=lt_of_heap h5
  refine⟨c,X,r,hsx _ _ _ _ _ h1 hm λb hb=>(h4 b hb).2.2,h2.on hm λb hb=>.inr (by have:=h6 b hb;omega),hm.hpk h3 λhb=>by have:=h6 _ hb;omega,λb hb=>?_,hm.keep h5 λhb=>by have:=h6 _ hb;omega,λb hb=>?_,h7⟩
  ·have ha:=h4 b hb
   refine⟨Nat.lt_of_lt_of_le ha.1 hm.size,ha.2.1,λhq=>?_⟩
   rcases(hQ' b hq).1 with h|h
   ·exact ha.2.2 h
   ·have:=ha.1;omega
  ·have ha:=hQ' b hb
   refine⟨?_,ha.2⟩
   rcases ha.1 with h|h
   ·exact(h6 b h).1
   ·omega
 ·rintro Q i x W hx ⟨X,h1,h2,h3,h4,h5,h6⟩ K' hT hF
  refine callV_iff.2 ?_
  show Yl Tryz.prog (d+1) ⟨_⟩ W K'
  have e1:(#[]:Array Value).toList++x=x:=rfl
  rw[e1]
  obtain⟨hi,rfl⟩:∃hi:i<xs.length,x=[fv xs[i]]:=by
   rw[List.getElem?_map]at hx
   cases hh:xs[i]? with
   |none=>rw[hh]at hx;cases hx
   |some o=>
    obtain⟨hj,he⟩:=List.getElem?_eq_some_iff.1 hh
    rw[hh]at hx
    exact⟨hj,by rw[he];exact(Option.some.inj hx).symm⟩
  refine hY _ W K' rfl ⟨rec.state,rec.pending,h5⟩ ?_
  obtain⟨w1,w2,v1,v2,v3,v4⟩:=hv xs[i] (List.getElem_mem hi) W
  obtain⟨q,hq0⟩:∃q,q=W.heap.size:=⟨_,rfl⟩
  rw[←hq0]at v1 v2 v3
  refine rvS v1 ?_
  show ru Tryz.prog (Instr.storeAt T (.pointer (some ⟨q,0,none⟩)) (fv xs[i])) w1 _
  refine ruS v2 ?_
  have r2:w2.heap[d+1]? =some (.loop rec):=v4.keep h5 id
  refine beginK_of r2 hready ?_
  have m3:=hput w2 (.loop {rec with state:=.busy})
  have r3:(w2.putObj (d+1) (.loop {rec with state:=.busy})).heap[d+1]? =some (.loop {rec with state:=.busy}):=by rw[heap_putObj,if_pos rfl,r2];rfl
  generalize w2.putObj (d+1) (.loop {rec with state:=.busy})=w3 at m3 r3⊢
  have hdl:d+1<q:=by rw[hq0];exact lt_of_heap h5
  have q3:=m3.hpk v3 (by omega)
  have hql:=lt_of_heap q3
  have hw3:=m3.size
  have hw4:=v4.size
  have M3:Mod (λb=>b=d+1) W w3:=(v4.mono λ_ _ h=>h.elim).trans m3
  have hXq:∀b,X b→b<q∧(X0 b∨d+1<b):=λb hb=>⟨by have:=(h4 b hb).1;omega,(h4 b hb).2.1⟩
  have hXd:∀b,X b→b≠d+1∧b≠d:=λb hb=>by
   rcases(h4 b hb).2.1 with h|h
   ·have:=hX0 b h;omega
   ·omega
  have hKeep:∀(W' :World) (X' :Nat→Prop) (o:Obj),Mod X w3 W' →(∀b,X' b→(X b∨w3.heap.size≤b)∧b<W'.heap.size)→
    Mod X0 w (W'.putObj (d+1) o)∧hp (W'.putObj (d+1) o) d=some (.deferred (some []))∧(∀b,X' b→b<(W'.putObj (d+1) o).heap.size∧(X0 b∨d+1<b)∧¬Q b)∧(∀b,Q b→d+1<b∧b<(W'.putObj (d+1) o).heap.size)∧
    (∀b,Q b→(W'.putObj (d+1) o).heap[b]? =W.heap[b]?)∧W.heap.size≤(W'.putObj (d+1) o).heap.size∧W'.heap[d+1]? =some (.loop {rec with state:=.busy}):=by
   intro W' X' o hm hX'
   have hp1:=hput W' o
   have hsW:=hm.size
   have hsP:=hp1.size
   refine⟨?_,hp1.hpk (hm.hpk (m3.hpk (v4.hpk h3 id) (by omega)) λhb=>(hXd _ hb).2 rfl) (by omega),λb hb=>?_,λb hb=>?_,λb hb=>?_,by omega,hm.keep r3 λhb=>(hXd _ hb).1 rfl⟩
   ·refine(((h2.on M3 λb hb=>.inr (by omega)).on hm λb hb=>?_)).on hp1 λb hb=>.inr (by omega)
    rcases(h4 b hb).2.1 with h|h
    ·exact .inl h
    ·exact .inr (by omega)
   ·have ha:=hX' b hb
    refine⟨by omega,?_,λhq=>?_⟩
    ·rcases ha.1 with h|h
     ·exact(h4 b h).2.1
     ·exact .inr (by omega)
    ·rcases ha.1 with h|h
     ·exact(h4 b h).2.2 hq
     ·have:=(h6 b hq).2;omega
   ·have:=h6 b hb;omega
   ·have hb' :=h6 b hb
    rw[hp1.blk b (by omega) (by omega),hm.blk b (by omega) λhx=>(h4 b hx).2.2 hb,M3.blk b hb'.2 (by omega)]
  refine hstep X i hi w3 q (hst _ _ _ _ _ h1 M3 λb hb=>(hXd b hb).1) (h2.on M3 λb hb=>.inr (by omega)) (by rw[←hd0];exact hXq) (by omega) hql q3 _ _ ?_ ?_
  ·intro X' W' hI' hm hX'
   obtain⟨k1,k2,k3,k4,k5,k6,k7⟩:=hKeep W' X' (.loop {{rec with state:=.busy}with state:=.ready,pending:=none}) hm hX'
   refine⟨_,k7,hT _ ⟨X',?_,k1,k2,k3,?_,k4⟩ k6 k5⟩
   ·refine hst _ _ _ _ _ hI' (hput W' _) λb hb e=>?_
    rcases(hX' b hb).1 with h|h
    ·exact(hXd b h).1 e
    ·omega
   ·rw[heap_putObj,if_pos rfl,k7]
    simp[←hready,←hpend]
  ·intro c X' W' hI' hm hX'
   obtain⟨k1,k2,k3,k4,k5,k6,k7⟩:=hKeep W' X' (.loop {{rec with state:=.busy}with state:=.done,pending:=some c}) hm hX'
   refine⟨_,k7,hF _ ⟨c,X',{rec with state:=.done,pending:=some c},?_,k1,k2,k3,?_,k4,rfl,rfl⟩ k6 k5⟩
   ·refine hsx _ _ _ _ _ hI' (hput W' _) λb hb e=>?_
    rcases(hX' b hb).1 with h|h
    ·exact(hXd b h).1 e
    ·omega
   ·rw[heap_putObj,if_pos rfl,k7]
    rfl
 ·rintro Q W ⟨X,h1,h2,h3,h4,h5,h6⟩
  refine⟨rec,h5,by rw[hready];decide,?_⟩
  rw[←hd0]
  have hm:=hput W (.loop {rec with state:=.exhausted})
  generalize W.putObj (d+1) (.loop {rec with state:=.exhausted})=W8 at hm⊢
  rw[hpend]
  have hXd:∀b,X b→b≠d+1:=λb hb=>by
   rcases(h4 b hb).2.1 with h|h
   ·have:=hX0 b h;omega
   ·omega
  refine hend X _ d hd0 ?_ (h2.on hm λb hb=>.inr (by omega)) (hm.hpk h3 (by omega)) λb hb=>⟨Nat.lt_of_lt_of_le (h4 b hb).1 hm.size,(h4 b hb).2.1⟩
  have hx:I X xs.length W:=by have:=h1;rwa[List.length_map]at this
  exact hst _ _ _ _ _ hx hm λb hb=>hXd b hb
 ·rintro Q W ⟨c,X,r,h1,h2,h3,h4,h5,h6,h7,h8⟩
  refine⟨r,h5,by rw[h7];decide,?_⟩
  rw[←hd0]
  have hm:=hput W (.loop {r with state:=.exhausted})
  generalize W.putObj (d+1) (.loop {r with state:=.exhausted})=W8 at hm⊢
  rw[h8]
  have hXd:∀b,X b→b≠d+1:=λb hb=>by
   rcases(h4 b hb).2.1 with h|h
   ·have:=hX0 b h;omega
   ·omega
  exact hexit c X _ d hd0 (hsx _ _ _ _ _ h1 hm λb hb=>hXd b hb) (h2.on hm λb hb=>.inr (by omega)) (hm.hpk h3 (by omega)) λb hb=>⟨Nat.lt_of_lt_of_le (h4 b hb).1 hm.size,(h4 b hb).2.1⟩
end
theorem retV1{W:World}{d:Nat}{K:World→Prop}(h:hp W d=some (.deferred (some [])))(hK:∀W',Mod (λb=>b=d) W W' →K W'):retD ([d]++[]) W K:=
 retV (by simp) (λx hx=>by rw[List.mem_singleton.1 hx];exact h) λW' m=>hK W' (m.mono λx _ hx=>by simpa using hx)
theorem VarOk.od{xs:List Od}:VarOk tOd odV odC xs:=λa _ W=>by
 obtain⟨w1,e1,b1,m1⟩:=newOd W
 obtain⟨w2,e2,b2,m2⟩:=setOd (o' :=a) b1
 exact⟨w1,w2,e1,e2,b2,m1.on m2 λb hb=>.inr (by omega)⟩
end Go.Proofs
