/- Part of a proof. -/
import Derived.Test.YtgebhcgmckjbbaaGreatO4
set_option linter.all false
set_option maxRecDepth 100000
namespace Go.Proofs
open Go Go.Vc
def F59(a0:Value)(w:World)(K:Kont):Prop:=
 rv Tryz.prog (Instr.build 248 #[(0,a0)]) w λv0 w1=>
 rv Tryz.prog (Instr.box 248 v0) w1 λv2 w3=>
 K v2 w3
theorem F59_eq(a0:Value)(w:World)(K:Kont):vcFnJ Tryz.prog Tryz.f59 [a0] w K=F59 a0 w K:=by kernel_rfl
theorem F59_ok:okF Tryz.prog Tryz.f59 1=true:=by kernel_rfl
theorem ca59{a0:Value}{w:World}{K:Kont}(h:F59 a0 w K):Ca Tryz.prog 59 #[a0] w K:=
 ca_of_vcJ Tryz.noNum Tryz.func59 F59_ok (by rw[F59_eq];exact h)
def F148(a0:Value)(w:World)(K:Kont):Prop:=
 rv Tryz.prog (bin .eql 136 true a0 (.pointer none)) w λv0 w1=>
 ifB v0
 (K (.bool true) w1)
 (nilK a0 λv2=>rv Tryz.prog (Instr.fieldAt 248 v2 2) w1 λv3 w4=>
 rv Tryz.prog (Instr.loadAt 26 v3) w4 λv5 w6=>
 rv Tryz.prog (bin .neq 26 true v5 (.int .i64 0)) w6 λv7 w8=>
 K v7 w8)
theorem F148_eq(a0:Value)(w:World)(K:Kont):vcFnJ Tryz.prog Tryz.f148 [a0] w K=F148 a0 w K:=by kernel_rfl
theorem F148_ok:okF Tryz.prog Tryz.f148 1=true:=by kernel_rfl
theorem ca148{a0:Value}{w:World}{K:Kont}(h:F148 a0 w K):Ca Tryz.prog 148 #[a0] w K:=
 ca_of_vcJ Tryz.noNum Tryz.func148 F148_ok (by rw[F148_eq];exact h)
def J150_0(K:Kont)(a0:Value)(s8:Value×Value×Value×Value×Unit)(v36:Value)(s40:Value×Unit)(w41:World):Prop:=
 ∀_:Nat→Value,
 ifB s40.1
 (K (.tuple #[(.int .u64 0),(.int .i64 0),(.int .i64 5)]) w41)
 (nilK a0 λv47=>rdP Tryz.prog (Instr.fieldAt 248 v47 1) λv48=>
 rdW Tryz.prog (Instr.loadAt 3 v48) w41.drew λv49=>
 rdP Tryz.prog (bin .add 3 false v49 s8.2.2.2.1) λv50=>
 rdP Tryz.prog (bin .add 3 true v50 (.int .i64 1)) λv51=>
 Sem.run Tryz.prog (Instr.loadAt 3 v48) w41.drew=.ok v49 w41.drew∧
 (K (.tuple #[v36,v51,(.int .i64 0)]) w41.drew))
def J150_1(K:Kont)(v15:Value)(s8:Value×Value×Value×Value×Unit)(a0:Value)(K10:Value×Value×Value×Value×Unit→World→Prop)(s17:Value×Unit)(w18:World):Prop:=
 ∀_:Nat→Value,
 ifB s17.1
 (K (.tuple #[(.int .u64 0),(.int .i64 0),(.int .i64 5)]) w18)
 (rv Tryz.prog (bin .and 5 true v15 (.int .u8 127)) w18 λv28 w29=>
 rv Tryz.prog (convert 5 27 v28) w29 λv30 w31=>
 rv Tryz.prog (bin .mul 3 true (.int .i64 7) s8.2.2.2.1) w31 λv32 w33=>
 rv Tryz.prog (bin .shl 27 false v30 v32) w33 λv34 w35=>
 rv Tryz.prog (bin .or 27 false s8.1 v34) w35 λv36 w37=>
 rv Tryz.prog (bin .lss 5 true v15 (.int .u8 128)) w37 λv38 w39=>
 ifB v38
 (JoinW (S:=Value×Unit) (λJ42=>
 rv Tryz.prog (bin .eql 5 true v15 (.int .u8 0)) w39 λv43 w44=>
 ifB v43
 (rv Tryz.prog (bin .gtr 3 true s8.2.2.2.1 (.int .i64 0)) w44 λv45 w46=>
 J42 (v45,()) w46)
 (J42 ((.bool false),()) w44))
 (J150_0 K a0 s8 v36))
 (rv Tryz.prog (bin .add 3 true s8.2.2.2.1 (.int .i64 1)) w39 λv52 w53=>
 K10 (v36,s8.2.1,s8.2.2.1,v52,()) w53))
def L150_2(v7:Value)(v6:Value)(K:Kont)(a0:Value)(s8:Value×Value×Value×Value×Unit)(w9:World)(K10:Value×Value×Value×Value×Unit→World→Prop):Prop:=
 ∀_:Nat→Value,
 rv Tryz.prog (bin .lss 3 false s8.2.2.2.1 v7) w9 λv11 w12=>
 ifB v11
 (rv Tryz.prog (Instr.indexAt 54 v6 s8.2.2.2.1) w12 λv13 w14=>
 rv Tryz.prog (Instr.loadAt 5 v13) w14 λv15 w16=>
 JoinW (S:=Value×Unit) (λJ19=>
 rv Tryz.prog (bin .eql 3 true s8.2.2.2.1 (.int .i64 9)) w16 λv20 w21=>
 ifB v20
 (rv Tryz.prog (bin .gtr 5 true v15 (.int .u8 1)) w21 λv22 w23=>
 ifB v22
 (J19 ((.bool true),()) w23)
 (rv Tryz.prog (bin .gtr 3 true s8.2.2.2.1 (.int .i64 9)) w23 λv24 w25=>
 J19 (v24,()) w25))
 (rv Tryz.prog (bin .gtr 3 true s8.2.2.2.1 (.int .i64 9)) w21 λv26 w27=>
 J19 (v26,()) w27))
 (J150_1 K v15 s8 a0 K10))
 (K (.tuple #[(.int .u64 0),(.int .i64 0),(.int .i64 4)]) w12)
def F150(a0:Value)(w:World)(K:Kont):Prop:=
 nilK a0 λv0=>rdP Tryz.prog (Instr.fieldAt 248 v0 0) λv1=>
 rdW Tryz.prog (Instr.loadAt 54 v1) w.drew λv2=>
 nilK a0 λv3=>rdP Tryz.prog (Instr.fieldAt 248 v3 1) λv4=>
 rdW Tryz.prog (Instr.loadAt 3 v4) w.drew λv5=>
 rdP Tryz.prog (Instr.sliceAt 54 v2 (some v5) none none) λv6=>
 rdW Tryz.prog (Builtin.len_ #[54] 3 #[v6]) w.drew λv7=>
 LoopW (S:=Value×Value×Value×Value×Unit) (L150_2 v7 v6 K a0) ((.int .u64 0),(.int .i64 0),(.int .i64 0),(.int .i64 0),()) w.drew
theorem F150_eq(a0:Value)(w:World)(K:Kont):vcFnJ Tryz.prog Tryz.f150 [a0] w K=F150 a0 w K:=by kernel_rfl
theorem F150_ok:okF Tryz.prog Tryz.f150 1=true:=by kernel_rfl
theorem ca150{a0:Value}{w:World}{K:Kont}(h:F150 a0 w K):Ca Tryz.prog 150 #[a0] w K:=
 ca_of_vcJ Tryz.noNum Tryz.func150 F150_ok (by rw[F150_eq];exact h)
def F61(a0:Value)(w:World)(K:Kont):Prop:=
 Ca Tryz.prog 69 #[a0,(.int .u64 18446744073709551615)] w λv0 w1=>
 K v0 w1
theorem F61_eq(a0:Value)(w:World)(K:Kont):vcFnJ Tryz.prog Tryz.f61 [a0] w K=F61 a0 w K:=by kernel_rfl
theorem F61_ok:okF Tryz.prog Tryz.f61 1=true:=by kernel_rfl
theorem ca61{a0:Value}{w:World}{K:Kont}(h:F61 a0 w K):Ca Tryz.prog 61 #[a0] w K:=
 ca_of_vcJ Tryz.noNum Tryz.func61 F61_ok (by rw[F61_eq];exact h)
def J69_0(J12:Value×Unit→World→Prop)(v8:Value)(s13:Value×Unit)(w14:World):Prop:=
 ∀_:Nat→Value,
 ifB s13.1
 (J12 ((.int .i64 5),()) w14)
 (J12 (v8,()) w14)
def J69_1(a0:Value)(K:Kont)(v6:Value)(v4:Value)(s10:Value×Unit)(w11:World):Prop:=
 ∀_:Nat→Value,
 rv Tryz.prog (bin .neq 26 true s10.1 (.int .i64 0)) w11 λv20 w21=>
 ifB v20
 (nilK a0 λv22=>rv Tryz.prog (Instr.fieldAt 248 v22 2) w21 λv23 w24=>
 ru Tryz.prog (Instr.storeAt 26 v23 s10.1) w24 λw25=>
 K (.int .u64 0) w25)
 (nilK a0 λv26=>rv Tryz.prog (Instr.fieldAt 248 v26 1) w21 λv27 w28=>
 ru Tryz.prog (Instr.storeAt 3 v27 v6) w28 λw29=>
 K v4 w29)
def F69(a0 a1:Value)(w:World)(K:Kont):Prop:=
 Ca Tryz.prog 148 #[a0] w λv0 w1=>
 ifB v0
 (K (.int .u64 0) w1)
 (Ca Tryz.prog 150 #[a0] w1 λv2 w3=>
 rv Tryz.prog (Instr.extract v2 0) w3 λv4 w5=>
 rv Tryz.prog (Instr.extract v2 1) w5 λv6 w7=>
 rv Tryz.prog (Instr.extract v2 2) w7 λv8 w9=>
 JoinW (S:=Value×Unit) (λJ12=>
 JoinW (S:=Value×Unit) (λJ15=>
 rv Tryz.prog (bin .eql 26 true v8 (.int .i64 0)) w9 λv16 w17=>
 ifB v16
 (rv Tryz.prog (bin .gtr 27 false v4 a1) w17 λv18 w19=>
 J15 (v18,()) w19)
 (J15 ((.bool false),()) w17))
 (J69_0 J12 v8))
 (J69_1 a0 K v6 v4))
theorem F69_eq(a0 a1:Value)(w:World)(K:Kont):vcFnJ Tryz.prog Tryz.f69 [a0,a1] w K=F69 a0 a1 w K:=by kernel_rfl
theorem F69_ok:okF Tryz.prog Tryz.f69 2=true:=by kernel_rfl
theorem ca69{a0 a1:Value}{w:World}{K:Kont}(h:F69 a0 a1 w K):Ca Tryz.prog 69 #[a0,a1] w K:=
 ca_of_vcJ Tryz.noNum Tryz.func69 F69_ok (by rw[F69_eq];exact h)
def F62(a0:Value)(w:World)(K:Kont):Prop:=
 Ca Tryz.prog 61 #[a0] w λv0 w1=>
 rv Tryz.prog (bin .shr 27 true v0 (.int .u64 1)) w1 λv2 w3=>
 rv Tryz.prog (convert 27 2 v2) w3 λv4 w5=>
 rv Tryz.prog (bin .and 27 true v0 (.int .u64 1)) w5 λv6 w7=>
 rv Tryz.prog (convert 27 2 v6) w7 λv8 w9=>
 rv Tryz.prog (Op.unary .neg v8) w9 λv10 w11=>
 rv Tryz.prog (bin .xor 2 false v4 v10) w11 λv12 w13=>
 K v12 w13
theorem F62_eq(a0:Value)(w:World)(K:Kont):vcFnJ Tryz.prog Tryz.f62 [a0] w K=F62 a0 w K:=by kernel_rfl
theorem F62_ok:okF Tryz.prog Tryz.f62 1=true:=by kernel_rfl
theorem ca62{a0:Value}{w:World}{K:Kont}(h:F62 a0 w K):Ca Tryz.prog 62 #[a0] w K:=
 ca_of_vcJ Tryz.noNum Tryz.func62 F62_ok (by rw[F62_eq];exact h)
def F65(a0:Value)(w:World)(K:Kont):Prop:=
 Ca Tryz.prog 148 #[a0] w λv0 w1=>
 ifB v0
 (K (.bool false) w1)
 (nilK a0 λv2=>rdP Tryz.prog (Instr.fieldAt 248 v2 1) λv3=>
 rdW Tryz.prog (Instr.loadAt 3 v3) w1.drew λv4=>
 nilK a0 λv5=>rdP Tryz.prog (Instr.fieldAt 248 v5 0) λv6=>
 rdW Tryz.prog (Instr.loadAt 54 v6) w1.drew λv7=>
 rdW Tryz.prog (Builtin.len_ #[54] 3 #[v7]) w1.drew λv8=>
 rdP Tryz.prog (bin .eql 3 false v4 v8) λv9=>
 ifB v9
 (nilK a0 λv10=>rv Tryz.prog (Instr.fieldAt 248 v10 2) w1.drew λv11 w12=>
 ru Tryz.prog (Instr.storeAt 26 v11 (.int .i64 4)) w12 λw13=>
 K (.bool false) w13)
 (nilK a0 λv14=>rdP Tryz.prog (Instr.fieldAt 248 v14 0) λv15=>
 rdW Tryz.prog (Instr.loadAt 54 v15) w1.drew.drew λv16=>
 nilK a0 λv17=>rdP Tryz.prog (Instr.fieldAt 248 v17 1) λv18=>
 rdW Tryz.prog (Instr.loadAt 3 v18) w1.drew.drew λv19=>
 rdP Tryz.prog (Instr.indexAt 54 v16 v19) λv20=>
 rdW Tryz.prog (Instr.loadAt 5 v20) w1.drew.drew λv21=>
 rdP Tryz.prog (bin .gtr 5 true v21 (.int .u8 1)) λv22=>
 ifB v22
 (nilK a0 λv23=>rv Tryz.prog (Instr.fieldAt 248 v23 2) w1.drew.drew λv24 w25=>
 ru Tryz.prog (Instr.storeAt 26 v24 (.int .i64 5)) w25 λw26=>
 K (.bool false) w26)
 (nilK a0 λv27=>rv Tryz.prog (Instr.fieldAt 248 v27 1) w1.drew.drew λv28 w29=>
 rv Tryz.prog (Instr.loadAt 3 v28) w29 λv30 w31=>
 rv Tryz.prog (bin .add 3 true v30 (.int .i64 1)) w31 λv32 w33=>
 nilK a0 λv34=>rv Tryz.prog (Instr.fieldAt 248 v34 1) w33 λv35 w36=>
 ru Tryz.prog (Instr.storeAt 3 v35 v32) w36 λw37=>
 nilK a0 λv38=>rdP Tryz.prog (Instr.fieldAt 248 v38 0) λv39=>
 rdW Tryz.prog (Instr.loadAt 54 v39) w37.drew λv40=>
 nilK a0 λv41=>rdP Tryz.prog (Instr.fieldAt 248 v41 1) λv42=>
 rdW Tryz.prog (Instr.loadAt 3 v42) w37.drew λv43=>
 rdP Tryz.prog (bin .sub 3 true v43 (.int .i64 1)) λv44=>
 rdP Tryz.prog (Instr.indexAt 54 v40 v44) λv45=>
 rdW Tryz.prog (Instr.loadAt 5 v45) w37.drew λv46=>
 rdP Tryz.prog (bin .eql 5 true v46 (.int .u8 1)) λv47=>
 K v47 w37.drew)))
theorem F65_eq(a0:Value)(w:World)(K:Kont):vcFnJ Tryz.prog Tryz.f65 [a0] w K=F65 a0 w K:=by kernel_rfl
theorem F65_ok:okF Tryz.prog Tryz.f65 1=true:=by kernel_rfl
theorem ca65{a0:Value}{w:World}{K:Kont}(h:F65 a0 w K):Ca Tryz.prog 65 #[a0] w K:=
 ca_of_vcJ Tryz.noNum Tryz.func65 F65_ok (by rw[F65_eq];exact h)
def F147(a0:Value)(w:World)(K:Kont):Prop:=
 rv Tryz.prog (bin .eql 136 true a0 (.pointer none)) w λv0 w1=>
 ifB v0
 (K (.int .i64 0) w1)
 (nilK a0 λv2=>rdP Tryz.prog (Instr.fieldAt 248 v2 0) λv3=>
 rdW Tryz.prog (Instr.loadAt 54 v3) w1.drew λv4=>
 rdW Tryz.prog (Builtin.len_ #[54] 3 #[v4]) w1.drew λv5=>
 nilK a0 λv6=>rdP Tryz.prog (Instr.fieldAt 248 v6 1) λv7=>
 rdW Tryz.prog (Instr.loadAt 3 v7) w1.drew λv8=>
 rdP Tryz.prog (bin .sub 3 false v5 v8) λv9=>
 K v9 w1.drew)
theorem F147_eq(a0:Value)(w:World)(K:Kont):vcFnJ Tryz.prog Tryz.f147 [a0] w K=F147 a0 w K:=by kernel_rfl
theorem F147_ok:okF Tryz.prog Tryz.f147 1=true:=by kernel_rfl
theorem ca147{a0:Value}{w:World}{K:Kont}(h:F147 a0 w K):Ca Tryz.prog 147 #[a0] w K:=
 ca_of_vcJ Tryz.noNum Tryz.func147 F147_ok (by rw[F147_eq];exact h)
def F149(a0 a1:Value)(w:World)(K:Kont):Prop:=
 Ca Tryz.prog 148 #[a0] w λv0 w1=>
 rv Tryz.prog (Op.unary .not v0) w1 λv2 w3=>
 ifB v2
 (nilK a0 λv4=>rv Tryz.prog (Instr.fieldAt 248 v4 2) w3 λv5 w6=>
 ru Tryz.prog (Instr.storeAt 26 v5 a1) w6 λw7=>
 K (.tuple #[]) w7)
 (K (.tuple #[]) w3)
theorem F149_eq(a0 a1:Value)(w:World)(K:Kont):vcFnJ Tryz.prog Tryz.f149 [a0,a1] w K=F149 a0 a1 w K:=by kernel_rfl
theorem F149_ok:okF Tryz.prog Tryz.f149 2=true:=by kernel_rfl
theorem ca149{a0 a1:Value}{w:World}{K:Kont}(h:F149 a0 a1 w K):Ca Tryz.prog 149 #[a0,a1] w K:=
 ca_of_vcJ Tryz.noNum Tryz.func149 F149_ok (by rw[F149_eq];exact h)
def J74_0(K:Kont)(a0:Value)(s2:Value×Unit)(w3:World):Prop:=
 ∀_:Nat→Value,
 ifB s2.1
 (K (.int .i64 5) w3)
 (nilK a0 λv17=>rv Tryz.prog (Instr.fieldAt 248 v17 2) w3 λv18 w19=>
 rv Tryz.prog (Instr.loadAt 26 v18) w19 λv20 w21=>
 K v20 w21)
def F74(a0:Value)(w:World)(K:Kont):Prop:=
 rv Tryz.prog (bin .eql 136 true a0 (.pointer none)) w λv0 w1=>
 ifB v0
 (K (.int .i64 1) w1)
 (JoinW (S:=Value×Unit) (λJ4=>
 nilK a0 λv5=>rdP Tryz.prog (Instr.fieldAt 248 v5 2) λv6=>
 rdW Tryz.prog (Instr.loadAt 26 v6) w1.drew λv7=>
 rdP Tryz.prog (bin .eql 26 true v7 (.int .i64 0)) λv8=>
 ifB v8
 (nilK a0 λv9=>rdP Tryz.prog (Instr.fieldAt 248 v9 1) λv10=>
 rdW Tryz.prog (Instr.loadAt 3 v10) w1.drew λv11=>
 nilK a0 λv12=>rdP Tryz.prog (Instr.fieldAt 248 v12 0) λv13=>
 rdW Tryz.prog (Instr.loadAt 54 v13) w1.drew λv14=>
 rdW Tryz.prog (Builtin.len_ #[54] 3 #[v14]) w1.drew λv15=>
 rdP Tryz.prog (bin .lss 3 false v11 v15) λv16=>
 J4 (v16,()) w1.drew)
 (J4 ((.bool false),()) w1.drew))
 (J74_0 K a0))
theorem F74_eq(a0:Value)(w:World)(K:Kont):vcFnJ Tryz.prog Tryz.f74 [a0] w K=F74 a0 w K:=by kernel_rfl
theorem F74_ok:okF Tryz.prog Tryz.f74 1=true:=by kernel_rfl
theorem ca74{a0:Value}{w:World}{K:Kont}(h:F74 a0 w K):Ca Tryz.prog 74 #[a0] w K:=
 ca_of_vcJ Tryz.noNum Tryz.func74 F74_ok (by rw[F74_eq];exact h)
def L100_0(K:Kont)(s0:Value×Value×Unit)(w1:World)(K2:Value×Value×Unit→World→Prop):Prop:=
 ∀_:Nat→Value,
 rv Tryz.prog (bin .geq 27 true s0.1 (.int .u64 128)) w1 λv3 w4=>
 ifB v3
 (rv Tryz.prog (convert 27 5 s0.1) w4 λv5 w6=>
 rv Tryz.prog (bin .or 5 true v5 (.int .u8 128)) w6 λv7 w8=>
 rx Tryz.prog (xLit 54 1 [(0,v7)]) w8 λv9 w10=>
 rx Tryz.prog (xAppend #[54,54] 54 [s0.2.1,v9]) w10 λv11 w12=>
 rv Tryz.prog (bin .shr 27 true s0.1 (.int .u64 7)) w12 λv13 w14=>
 K2 (v13,v11,()) w14)
 (rv Tryz.prog (convert 27 5 s0.1) w4 λv15 w16=>
 rx Tryz.prog (xLit 54 1 [(0,v15)]) w16 λv17 w18=>
 rx Tryz.prog (xAppend #[54,54] 54 [s0.2.1,v17]) w18 λv19 w20=>
 K v19 w20)
def F100(a0 a1:Value)(w:World)(K:Kont):Prop:=
 LoopW (S:=Value×Value×Unit) (L100_0 K) (a1,a0,()) w
theorem F100_eq(a0 a1:Value)(w:World)(K:Kont):vcFnJ Tryz.prog Tryz.f100 [a0,a1] w K=F100 a0 a1 w K:=by kernel_rfl
theorem F100_ok:okF Tryz.prog Tryz.f100 2=true:=by kernel_rfl
theorem ca100{a0 a1:Value}{w:World}{K:Kont}(h:F100 a0 a1 w K):Ca Tryz.prog 100 #[a0,a1] w K:=
 ca_of_vcJ Tryz.noNum Tryz.func100 F100_ok (by rw[F100_eq];exact h)
def F240(a0:Value)(w:World)(K:Kont):Prop:=
 rv Tryz.prog (convert 2 27 a0) w λv0 w1=>
 rv Tryz.prog (bin .shl 27 true v0 (.int .u64 1)) w1 λv2 w3=>
 rv Tryz.prog (bin .shr 2 true a0 (.int .u64 63)) w3 λv4 w5=>
 rv Tryz.prog (convert 2 27 v4) w5 λv6 w7=>
 rv Tryz.prog (bin .xor 27 false v2 v6) w7 λv8 w9=>
 K v8 w9
theorem F240_eq(a0:Value)(w:World)(K:Kont):vcFnJ Tryz.prog Tryz.f240 [a0] w K=F240 a0 w K:=by kernel_rfl
theorem F240_ok:okF Tryz.prog Tryz.f240 1=true:=by kernel_rfl
theorem ca240{a0:Value}{w:World}{K:Kont}(h:F240 a0 w K):Ca Tryz.prog 240 #[a0] w K:=
 ca_of_vcJ Tryz.noNum Tryz.func240 F240_ok (by rw[F240_eq];exact h)
def F154(a0 a1:Value)(w:World)(K:Kont):Prop:=
 Ca Tryz.prog 240 #[a1] w λv0 w1=>
 Ca Tryz.prog 100 #[a0,v0] w1 λv2 w3=>
 K v2 w3
theorem F154_eq(a0 a1:Value)(w:World)(K:Kont):vcFnJ Tryz.prog Tryz.f154 [a0,a1] w K=F154 a0 a1 w K:=by kernel_rfl
theorem F154_ok:okF Tryz.prog Tryz.f154 2=true:=by kernel_rfl
theorem ca154{a0 a1:Value}{w:World}{K:Kont}(h:F154 a0 a1 w K):Ca Tryz.prog 154 #[a0,a1] w K:=
 ca_of_vcJ Tryz.noNum Tryz.func154 F154_ok (by rw[F154_eq];exact h)
def F157(a0 a1:Value)(w:World)(K:Kont):Prop:=
 ifB a1
 (rx Tryz.prog (xLit 54 1 [(0,(.int .u8 1))]) w λv0 w1=>
 rx Tryz.prog (xAppend #[54,54] 54 [a0,v0]) w1 λv2 w3=>
 K v2 w3)
 (rx Tryz.prog (xLit 54 1 [(0,(.int .u8 0))]) w λv4 w5=>
 rx Tryz.prog (xAppend #[54,54] 54 [a0,v4]) w5 λv6 w7=>
 K v6 w7)
theorem F157_eq(a0 a1:Value)(w:World)(K:Kont):vcFnJ Tryz.prog Tryz.f157 [a0,a1] w K=F157 a0 a1 w K:=by kernel_rfl
theorem F157_ok:okF Tryz.prog Tryz.f157 2=true:=by kernel_rfl
theorem ca157{a0 a1:Value}{w:World}{K:Kont}(h:F157 a0 a1 w K):Ca Tryz.prog 157 #[a0,a1] w K:=
 ca_of_vcJ Tryz.noNum Tryz.func157 F157_ok (by rw[F157_eq];exact h)
def L68_0(a0:Value)(v12:Value)(v0:Value)(K:Kont)(s44:Value×Unit)(w45:World)(K46:Value×Unit→World→Prop):Prop:=
 ∀_:Nat→Value,
 rv Tryz.prog (bin .lss 3 true s44.1 (.int .i64 16)) w45 λv47 w48=>
 ifB v47
 (Ca Tryz.prog 62 #[a0] w48 λv49 w50=>
 rv Tryz.prog (Instr.fieldAt 38 v12 6) w50 λv51 w52=>
 rv Tryz.prog (Instr.indexAt 36 v51 s44.1) w52 λv53 w54=>
 ru Tryz.prog (Instr.storeAt 2 v53 v49) w54 λw55=>
 rv Tryz.prog (bin .add 3 true s44.1 (.int .i64 1)) w55 λv56 w57=>
 K46 (v56,()) w57)
 (Ca Tryz.prog 69 #[a0,(.int .u64 9223372036854775807)] w48 λv58 w59=>
 rv Tryz.prog (convert 27 2 v58) w59 λv60 w61=>
 rv Tryz.prog (Instr.fieldAt 38 v12 7) w61 λv62 w63=>
 ru Tryz.prog (Instr.storeAt 2 v62 v60) w63 λw64=>
 Ca Tryz.prog 69 #[a0,(.int .u64 4294967295)] w64 λv65 w66=>
 rv Tryz.prog (convert 27 35 v65) w66 λv67 w68=>
 rv Tryz.prog (Instr.fieldAt 38 v12 8) w68 λv69 w70=>
 ru Tryz.prog (Instr.storeAt 35 v69 v67) w70 λw71=>
 Ca Tryz.prog 69 #[a0,(.int .u64 9223372036854775807)] w71 λv72 w73=>
 rv Tryz.prog (convert 27 2 v72) w73 λv74 w75=>
 rv Tryz.prog (Instr.fieldAt 38 v12 9) w75 λv76 w77=>
 ru Tryz.prog (Instr.storeAt 2 v76 v74) w77 λw78=>
 rx Tryz.prog (bigS 38 v12) w78 λv79 w80=>
 Ca Tryz.prog 107 #[v79] w80 λv81 w82=>
 rv Tryz.prog (Op.unary .not v81) w82 λv83 w84=>
 ifB v83
 (Ca Tryz.prog 149 #[a0,(.int .i64 5)] w84 λv85 w86=>
 rx Tryz.prog (bigB 38 #[]) w86 λv87 w88=>
 rux Tryz.prog (bigU 38 v0 v87) w88 λw89=>
 rdX Tryz.prog (bigS 38 v0) w89 λv90=>
 K v90 w89)
 (rx Tryz.prog (bigS 38 v12) w84 λv91 w92=>
 rux Tryz.prog (bigU 38 v0 v91) w92 λw93=>
 rdX Tryz.prog (bigS 38 v0) w93 λv94=>
 K v94 w93))
def L68_1(v25:Value)(v23:Value)(a0:Value)(v12:Value)(v0:Value)(K:Kont)(s27:Value×Unit)(w28:World)(K29:Value×Unit→World→Prop):Prop:=
 ∀_:Nat→Value,
 rv Tryz.prog (bin .lss 3 false s27.1 v25) w28 λv30 w31=>
 ifB v30
 (rv Tryz.prog (Instr.indexAt 252 v23 s27.1) w31 λv32 w33=>
 rv Tryz.prog (Instr.loadAt 251 v32) w33 λv34 w35=>
 Ca Tryz.prog 69 #[a0,(.int .u64 9223372036854775807)] w35 λv36 w37=>
 rv Tryz.prog (convert 27 2 v36) w37 λv38 w39=>
 nilK v34 λv40=>ru Tryz.prog (Instr.storeAt 2 v40 v38) w39 λw41=>
 rv Tryz.prog (bin .add 3 true s27.1 (.int .i64 1)) w41 λv42 w43=>
 K29 (v42,()) w43)
 (LoopW (S:=Value×Unit) (L68_0 a0 v12 v0 K) ((.int .i64 0),()) w31)
def F68(a0:Value)(w:World)(K:Kont):Prop:=
 rx Tryz.prog (bigA 38) w λv0 w1=>
 Ca Tryz.prog 69 #[a0,(.int .u64 4294967295)] w1 λv2 w3=>
 rv Tryz.prog (convert 27 35 v2) w3 λv4 w5=>
 Ca Tryz.prog 69 #[a0,(.int .u64 255)] w5 λv6 w7=>
 rv Tryz.prog (convert 27 5 v6) w7 λv8 w9=>
 rx Tryz.prog (bigB 38 #[(0,v4),(1,v8)]) w9 λv10 w11=>
 rx Tryz.prog (bigA 38) w11 λv12 w13=>
 rux Tryz.prog (bigU 38 v12 v10) w13 λw14=>
 rv Tryz.prog (Instr.fieldAt 38 v12 2) w14 λv15 w16=>
 rv Tryz.prog (Instr.fieldAt 38 v12 3) w16 λv17 w18=>
 rv Tryz.prog (Instr.fieldAt 38 v12 4) w18 λv19 w20=>
 rv Tryz.prog (Instr.fieldAt 38 v12 5) w20 λv21 w22=>
 rx Tryz.prog (xLit 252 4 [(0,v15),(1,v17),(2,v19),(3,v21)]) w22 λv23 w24=>
 rn Tryz.prog (builtin .len #[252] 3 #[false] #[v23]) w24 λv25 w26=>
 LoopW (S:=Value×Unit) (L68_1 v25 v23 a0 v12 v0 K) ((.int .i64 0),()) w26
theorem F68_eq(a0:Value)(w:World)(K:Kont):vcFnJ Tryz.prog Tryz.f68 [a0] w K=F68 a0 w K:=by kernel_rfl
theorem F68_ok:okF Tryz.prog Tryz.f68 1=true:=by kernel_rfl
theorem ca68{a0:Value}{w:World}{K:Kont}(h:F68 a0 w K):Ca Tryz.prog 68 #[a0] w K:=
 ca_of_vcJ Tryz.noNum Tryz.func68 F68_ok (by rw[F68_eq];exact h)
def L160_0(v57:Value)(v0:Value)(K:Kont)(s59:Value×Value×Unit)(w60:World)(K61:Value×Value×Unit→World→Prop):Prop:=
 ∀_:Nat→Value,
 rv Tryz.prog (bin .lss 3 true s59.2.1 (.int .i64 16)) w60 λv62 w63=>
 ifB v62
 (rv Tryz.prog (Instr.index 36 v57 s59.2.1) w63 λv64 w65=>
 Ca Tryz.prog 154 #[s59.1,v64] w65 λv66 w67=>
 rv Tryz.prog (bin .add 3 true s59.2.1 (.int .i64 1)) w67 λv68 w69=>
 K61 (v66,v68,()) w69)
 (rdP Tryz.prog (Instr.fieldAt 38 v0 7) λv70=>
 rdW Tryz.prog (Instr.loadAt 2 v70) w63.drew λv71=>
 rdW Tryz.prog (convert 2 27 v71) w63.drew λv72=>
 rdP Tryz.prog (Instr.fieldAt 38 v0 8) λv73=>
 rdW Tryz.prog (Instr.loadAt 35 v73) w63.drew λv74=>
 rdW Tryz.prog (convert 35 27 v74) w63.drew λv75=>
 rdP Tryz.prog (Instr.fieldAt 38 v0 9) λv76=>
 rdW Tryz.prog (Instr.loadAt 2 v76) w63.drew λv77=>
 rdW Tryz.prog (convert 2 27 v77) w63.drew λv78=>
 Ca Tryz.prog 100 #[s59.1,v72] w63.drew λv79 w80=>
 Sem.run Tryz.prog (convert 2 27 v77) w80=.ok v78 w80∧Sem.run Tryz.prog (Instr.loadAt 2 v76) w80=.ok v77 w80∧Sem.run Tryz.prog (convert 35 27 v74) w80=.ok v75 w80∧Sem.run Tryz.prog (Instr.loadAt 35 v73) w80=.ok v74 w80∧
 (Ca Tryz.prog 100 #[v79,v75] w80 λv81 w82=>
 Sem.run Tryz.prog (convert 2 27 v77) w82=.ok v78 w82∧Sem.run Tryz.prog (Instr.loadAt 2 v76) w82=.ok v77 w82∧
 (Ca Tryz.prog 100 #[v81,v78] w82 λv83 w84=>
 K v83 w84)))
def L160_1(v38:Value)(v36:Value)(v0:Value)(K:Kont)(s40:Value×Value×Unit)(w41:World)(K42:Value×Value×Unit→World→Prop):Prop:=
 ∀_:Nat→Value,
 rv Tryz.prog (bin .lss 3 false s40.2.1 v38) w41 λv43 w44=>
 ifB v43
 (rv Tryz.prog (Instr.indexAt 333 v36 s40.2.1) w44 λv45 w46=>
 rv Tryz.prog (Instr.loadAt 2 v45) w46 λv47 w48=>
 rv Tryz.prog (convert 2 27 v47) w48 λv49 w50=>
 Ca Tryz.prog 100 #[s40.1,v49] w50 λv51 w52=>
 rv Tryz.prog (bin .add 3 true s40.2.1 (.int .i64 1)) w52 λv53 w54=>
 K42 (v51,v53,()) w54)
 (rv Tryz.prog (Instr.fieldAt 38 v0 6) w44 λv55 w56=>
 rx Tryz.prog (bigS 36 v55) w56 λv57 w58=>
 LoopW (S:=Value×Value×Unit) (L160_0 v57 v0 K) (s40.1,(.int .i64 0),()) w58)
def F160(a0 a1:Value)(w:World)(K:Kont):Prop:=
 rv Tryz.prog (Instr.box 38 a1) w λv0 w1=>
 rx Tryz.prog (bigS 38 v0) w1 λv2 w3=>
 Ca Tryz.prog 107 #[v2] w3 λv4 w5=>
 rv Tryz.prog (Op.unary .not v4) w5 λv6 w7=>
 ifB v6
 (K a0 w7)
 (rv Tryz.prog (Instr.fieldAt 38 v0 0) w7 λv8 w9=>
 rv Tryz.prog (Instr.loadAt 35 v8) w9 λv10 w11=>
 rv Tryz.prog (convert 35 2 v10) w11 λv12 w13=>
 rv Tryz.prog (Instr.fieldAt 38 v0 1) w13 λv14 w15=>
 rv Tryz.prog (Instr.loadAt 5 v14) w15 λv16 w17=>
 rv Tryz.prog (convert 5 2 v16) w17 λv18 w19=>
 rv Tryz.prog (Instr.fieldAt 38 v0 2) w19 λv20 w21=>
 rv Tryz.prog (Instr.loadAt 2 v20) w21 λv22 w23=>
 rv Tryz.prog (Instr.fieldAt 38 v0 3) w23 λv24 w25=>
 rv Tryz.prog (Instr.loadAt 2 v24) w25 λv26 w27=>
 rv Tryz.prog (Instr.fieldAt 38 v0 4) w27 λv28 w29=>
 rv Tryz.prog (Instr.loadAt 2 v28) w29 λv30 w31=>
 rv Tryz.prog (Instr.fieldAt 38 v0 5) w31 λv32 w33=>
 rv Tryz.prog (Instr.loadAt 2 v32) w33 λv34 w35=>
 rx Tryz.prog (xLit 333 6 [(0,v12),(1,v18),(2,v22),(3,v26),(4,v30),(5,v34)]) w35 λv36 w37=>
 rn Tryz.prog (builtin .len #[333] 3 #[false] #[v36]) w37 λv38 w39=>
 LoopW (S:=Value×Value×Unit) (L160_1 v38 v36 v0 K) (a0,(.int .i64 0),()) w39)
theorem F160_eq(a0 a1:Value)(w:World)(K:Kont):vcFnJ Tryz.prog Tryz.f160 [a0,a1] w K=F160 a0 a1 w K:=by kernel_rfl
theorem F160_ok:okF Tryz.prog Tryz.f160 2=true:=by kernel_rfl
theorem ca160{a0 a1:Value}{w:World}{K:Kont}(h:F160 a0 a1 w K):Ca Tryz.prog 160 #[a0,a1] w K:=
 ca_of_vcJ Tryz.noNum Tryz.func160 F160_ok (by rw[F160_eq];exact h)
def F60(a0:Value)(w:World)(K:Kont):Prop:=
 rv Tryz.prog (Instr.box 139 a0) w λv0 w1=>
 rv Tryz.prog (Instr.fieldAt 139 v0 0) w1 λv2 w3=>
 rv Tryz.prog (Instr.loadAt 136 v2) w3 λv4 w5=>
 Ca Tryz.prog 69 #[v4,(.int .u64 4294967295)] w5 λv6 w7=>
 rv Tryz.prog (convert 27 35 v6) w7 λv8 w9=>
 K v8 w9
theorem F60_eq(a0:Value)(w:World)(K:Kont):vcFnJ Tryz.prog Tryz.f60 [a0] w K=F60 a0 w K:=by kernel_rfl
theorem F60_ok:okF Tryz.prog Tryz.f60 1=true:=by kernel_rfl
theorem ca60{a0:Value}{w:World}{K:Kont}(h:F60 a0 w K):Ca Tryz.prog 60 #[a0] w K:=
 ca_of_vcJ Tryz.noNum Tryz.func60 F60_ok (by rw[F60_eq];exact h)
def F73(a0:Value)(w:World)(K:Kont):Prop:=
 rv Tryz.prog (Instr.box 139 a0) w λv0 w1=>
 rv Tryz.prog (Instr.alloc 119 true (.tuple #[])) w1 λv2 w3=>
 rv Tryz.prog (Instr.loadAt 139 v0) w3 λv4 w5=>
 Ca Tryz.prog 60 #[v4] w5 λv6 w7=>
 rv Tryz.prog (Instr.fieldAt 119 v2 0) w7 λv8 w9=>
 ru Tryz.prog (Instr.storeAt 35 v8 v6) w9 λw10=>
 rv Tryz.prog (Instr.fieldAt 139 v0 0) w10 λv11 w12=>
 rv Tryz.prog (Instr.loadAt 136 v11) w12 λv13 w14=>
 Ca Tryz.prog 61 #[v13] w14 λv15 w16=>
 rv Tryz.prog (Instr.fieldAt 119 v2 1) w16 λv17 w18=>
 rv Tryz.prog (Instr.fieldAt 117 v17 0) w18 λv19 w20=>
 ru Tryz.prog (Instr.storeAt 27 v19 v15) w20 λw21=>
 rv Tryz.prog (Instr.loadAt 139 v0) w21 λv22 w23=>
 Ca Tryz.prog 60 #[v22] w23 λv24 w25=>
 rv Tryz.prog (Instr.fieldAt 119 v2 1) w25 λv26 w27=>
 rv Tryz.prog (Instr.fieldAt 117 v26 1) w27 λv28 w29=>
 ru Tryz.prog (Instr.storeAt 35 v28 v24) w29 λw30=>
 rv Tryz.prog (Instr.fieldAt 139 v0 0) w30 λv31 w32=>
 rv Tryz.prog (Instr.loadAt 136 v31) w32 λv33 w34=>
 Ca Tryz.prog 65 #[v33] w34 λv35 w36=>
 rv Tryz.prog (Instr.fieldAt 119 v2 1) w36 λv37 w38=>
 rv Tryz.prog (Instr.fieldAt 117 v37 2) w38 λv39 w40=>
 ru Tryz.prog (Instr.storeAt 4 v39 v35) w40 λw41=>
 rdP Tryz.prog (Instr.fieldAt 139 v0 0) λv42=>
 rdW Tryz.prog (Instr.loadAt 136 v42) w41.drew λv43=>
 rdP Tryz.prog (Instr.fieldAt 139 v0 0) λv44=>
 rdW Tryz.prog (Instr.loadAt 136 v44) w41.drew λv45=>
 Ca Tryz.prog 62 #[v43] w41.drew λv46 w47=>
 Sem.run Tryz.prog (Instr.loadAt 136 v44) w47=.ok v45 w47∧
 (rdP Tryz.prog (Instr.fieldAt 119 v2 1) λv48=>
 rdP Tryz.prog (Instr.fieldAt 117 v48 3) λv49=>
 Ca Tryz.prog 62 #[v45] w47 λv50 w51=>
 ru Tryz.prog (Instr.storeAt 2 v49 v46) w51 λw52=>
 rdP Tryz.prog (Instr.fieldAt 119 v2 1) λv53=>
 rdP Tryz.prog (Instr.fieldAt 117 v53 4) λv54=>
 ru Tryz.prog (Instr.storeAt 2 v54 v50) w52 λw55=>
 rv Tryz.prog (Instr.loadAt 119 v2) w55 λv56 w57=>
 ru Tryz.prog (Instr.storeAt 119 v2 v56) w57 λw58=>
 rdW Tryz.prog (Instr.loadAt 119 v2) w58 λv59=>
 K v59 w58)
theorem F73_eq(a0:Value)(w:World)(K:Kont):vcFnJ Tryz.prog Tryz.f73 [a0] w K=F73 a0 w K:=by kernel_rfl
theorem F73_ok:okF Tryz.prog Tryz.f73 1=true:=by kernel_rfl
theorem ca73{a0:Value}{w:World}{K:Kont}(h:F73 a0 w K):Ca Tryz.prog 73 #[a0] w K:=
 ca_of_vcJ Tryz.noNum Tryz.func73 F73_ok (by rw[F73_eq];exact h)
def J63_0(K:Kont)(v15:Value)(s8:Value×Value×Unit)(K10:Value×Value×Unit→World→Prop)(s18:Value×Unit)(w19:World):Prop:=
 ∀_:Nat→Value,
 ifB s18.1
 (K (.slice none 0 0) w19)
 (rv Tryz.prog (Instr.loadAt 92 v15) w19 λv37 w38=>
 rx Tryz.prog (xLit 44 1 [(0,v37)]) w38 λv39 w40=>
 rx Tryz.prog (xAppend #[44,44] 44 [s8.1,v39]) w40 λv41 w42=>
 rv Tryz.prog (bin .add 27 true s8.2.1 (.int .u64 1)) w42 λv43 w44=>
 K10 (v41,v43,()) w44)
def L63_1(v6:Value)(a2:Value)(v0:Value)(K:Kont)(s8:Value×Value×Unit)(w9:World)(K10:Value×Value×Unit→World→Prop):Prop:=
 ∀_:Nat→Value,
 rv Tryz.prog (bin .lss 27 false s8.2.1 v6) w9 λv11 w12=>
 ifB v11
 (callV Tryz.prog a2 [] w12 λv13 w14=>
 rv Tryz.prog (Instr.alloc 92 true (.tuple #[])) w14 λv15 w16=>
 ru Tryz.prog (Instr.storeAt 92 v15 v13) w16 λw17=>
 JoinW (S:=Value×Unit) (λJ20=>
 rv Tryz.prog (Instr.fieldAt 139 v0 0) w17 λv21 w22=>
 rv Tryz.prog (Instr.loadAt 136 v21) w22 λv23 w24=>
 Ca Tryz.prog 147 #[v23] w24 λv25 w26=>
 rv Tryz.prog (bin .eql 3 true v25 (.int .i64 0)) w26 λv27 w28=>
 ifB v27
 (rv Tryz.prog (Instr.fieldAt 139 v0 0) w28 λv29 w30=>
 rv Tryz.prog (Instr.loadAt 136 v29) w30 λv31 w32=>
 Ca Tryz.prog 74 #[v31] w32 λv33 w34=>
 rv Tryz.prog (bin .neq 26 true v33 (.int .i64 0)) w34 λv35 w36=>
 J20 (v35,()) w36)
 (J20 ((.bool false),()) w28))
 (J63_0 K v15 s8 K10))
 (K s8.1 w12)
def F63(a0 a1 a2:Value)(w:World)(K:Kont):Prop:=
 rv Tryz.prog (Instr.box 139 a0) w λv0 w1=>
 rv Tryz.prog (Instr.fieldAt 139 v0 0) w1 λv2 w3=>
 rv Tryz.prog (Instr.loadAt 136 v2) w3 λv4 w5=>
 Ca Tryz.prog 69 #[v4,a1] w5 λv6 w7=>
 LoopW (S:=Value×Value×Unit) (L63_1 v6 a2 v0 K) ((.slice none 0 0),(.int .u64 0),()) w7
theorem F63_eq(a0 a1 a2:Value)(w:World)(K:Kont):vcFnJ Tryz.prog Tryz.f63 [a0,a1,a2] w K=F63 a0 a1 a2 w K:=by kernel_rfl
theorem F63_ok:okF Tryz.prog Tryz.f63 3=true:=by kernel_rfl
theorem ca63{a0 a1 a2:Value}{w:World}{K:Kont}(h:F63 a0 a1 a2 w K):Ca Tryz.prog 63 #[a0,a1,a2] w K:=
 ca_of_vcJ Tryz.noNum Tryz.func63 F63_ok (by rw[F63_eq];exact h)
def J66_0(K:Kont)(v15:Value)(s8:Value×Value×Unit)(K10:Value×Value×Unit→World→Prop)(s18:Value×Unit)(w19:World):Prop:=
 ∀_:Nat→Value,
 ifB s18.1
 (K (.slice none 0 0) w19)
 (rx Tryz.prog (bigS 108 v15) w19 λv37 w38=>
 rx Tryz.prog (xLit 45 1 [(0,v37)]) w38 λv39 w40=>
 rx Tryz.prog (xAppend #[45,45] 45 [s8.1,v39]) w40 λv41 w42=>
 rv Tryz.prog (bin .add 27 true s8.2.1 (.int .u64 1)) w42 λv43 w44=>
 K10 (v41,v43,()) w44)
def L66_1(v6:Value)(a2:Value)(v0:Value)(K:Kont)(s8:Value×Value×Unit)(w9:World)(K10:Value×Value×Unit→World→Prop):Prop:=
 ∀_:Nat→Value,
 rv Tryz.prog (bin .lss 27 false s8.2.1 v6) w9 λv11 w12=>
 ifB v11
 (callV Tryz.prog a2 [] w12 λv13 w14=>
 rx Tryz.prog (bigA 108) w14 λv15 w16=>
 rux Tryz.prog (bigU 108 v15 v13) w16 λw17=>
 JoinW (S:=Value×Unit) (λJ20=>
 rv Tryz.prog (Instr.fieldAt 139 v0 0) w17 λv21 w22=>
 rv Tryz.prog (Instr.loadAt 136 v21) w22 λv23 w24=>
 Ca Tryz.prog 147 #[v23] w24 λv25 w26=>
 rv Tryz.prog (bin .eql 3 true v25 (.int .i64 0)) w26 λv27 w28=>
 ifB v27
 (rv Tryz.prog (Instr.fieldAt 139 v0 0) w28 λv29 w30=>
 rv Tryz.prog (Instr.loadAt 136 v29) w30 λv31 w32=>
 Ca Tryz.prog 74 #[v31] w32 λv33 w34=>
 rv Tryz.prog (bin .neq 26 true v33 (.int .i64 0)) w34 λv35 w36=>
 J20 (v35,()) w36)
 (J20 ((.bool false),()) w28))
 (J66_0 K v15 s8 K10))
 (K s8.1 w12)
def F66(a0 a1 a2:Value)(w:World)(K:Kont):Prop:=
 rv Tryz.prog (Instr.box 139 a0) w λv0 w1=>
 rv Tryz.prog (Instr.fieldAt 139 v0 0) w1 λv2 w3=>
 rv Tryz.prog (Instr.loadAt 136 v2) w3 λv4 w5=>
 Ca Tryz.prog 69 #[v4,a1] w5 λv6 w7=>
 LoopW (S:=Value×Value×Unit) (L66_1 v6 a2 v0 K) ((.slice none 0 0),(.int .u64 0),()) w7
theorem F66_eq(a0 a1 a2:Value)(w:World)(K:Kont):vcFnJ Tryz.prog Tryz.f66 [a0,a1,a2] w K=F66 a0 a1 a2 w K:=by kernel_rfl
theorem F66_ok:okF Tryz.prog Tryz.f66 3=true:=by kernel_rfl
theorem ca66{a0 a1 a2:Value}{w:World}{K:Kont}(h:F66 a0 a1 a2 w K):Ca Tryz.prog 66 #[a0,a1,a2] w K:=
 ca_of_vcJ Tryz.noNum Tryz.func66 F66_ok (by rw[F66_eq];exact h)
def J70_0(K:Kont)(v15:Value)(s8:Value×Value×Unit)(K10:Value×Value×Unit→World→Prop)(s18:Value×Unit)(w19:World):Prop:=
 ∀_:Nat→Value,
 ifB s18.1
 (K (.slice none 0 0) w19)
 (rv Tryz.prog (Instr.loadAt 112 v15) w19 λv37 w38=>
 rx Tryz.prog (xLit 46 1 [(0,v37)]) w38 λv39 w40=>
 rx Tryz.prog (xAppend #[46,46] 46 [s8.1,v39]) w40 λv41 w42=>
 rv Tryz.prog (bin .add 27 true s8.2.1 (.int .u64 1)) w42 λv43 w44=>
 K10 (v41,v43,()) w44)
def L70_1(v6:Value)(a2:Value)(v0:Value)(K:Kont)(s8:Value×Value×Unit)(w9:World)(K10:Value×Value×Unit→World→Prop):Prop:=
 ∀_:Nat→Value,
 rv Tryz.prog (bin .lss 27 false s8.2.1 v6) w9 λv11 w12=>
 ifB v11
 (callV Tryz.prog a2 [] w12 λv13 w14=>
 rv Tryz.prog (Instr.alloc 112 true (.tuple #[])) w14 λv15 w16=>
 ru Tryz.prog (Instr.storeAt 112 v15 v13) w16 λw17=>
 JoinW (S:=Value×Unit) (λJ20=>
 rv Tryz.prog (Instr.fieldAt 139 v0 0) w17 λv21 w22=>
 rv Tryz.prog (Instr.loadAt 136 v21) w22 λv23 w24=>
 Ca Tryz.prog 147 #[v23] w24 λv25 w26=>
 rv Tryz.prog (bin .eql 3 true v25 (.int .i64 0)) w26 λv27 w28=>
 ifB v27
 (rv Tryz.prog (Instr.fieldAt 139 v0 0) w28 λv29 w30=>
 rv Tryz.prog (Instr.loadAt 136 v29) w30 λv31 w32=>
 Ca Tryz.prog 74 #[v31] w32 λv33 w34=>
 rv Tryz.prog (bin .neq 26 true v33 (.int .i64 0)) w34 λv35 w36=>
 J20 (v35,()) w36)
 (J20 ((.bool false),()) w28))
 (J70_0 K v15 s8 K10))
 (K s8.1 w12)
def F70(a0 a1 a2:Value)(w:World)(K:Kont):Prop:=
 rv Tryz.prog (Instr.box 139 a0) w λv0 w1=>
 rv Tryz.prog (Instr.fieldAt 139 v0 0) w1 λv2 w3=>
 rv Tryz.prog (Instr.loadAt 136 v2) w3 λv4 w5=>
 Ca Tryz.prog 69 #[v4,a1] w5 λv6 w7=>
 LoopW (S:=Value×Value×Unit) (L70_1 v6 a2 v0 K) ((.slice none 0 0),(.int .u64 0),()) w7
theorem F70_eq(a0 a1 a2:Value)(w:World)(K:Kont):vcFnJ Tryz.prog Tryz.f70 [a0,a1,a2] w K=F70 a0 a1 a2 w K:=by kernel_rfl
theorem F70_ok:okF Tryz.prog Tryz.f70 3=true:=by kernel_rfl
theorem ca70{a0 a1 a2:Value}{w:World}{K:Kont}(h:F70 a0 a1 a2 w K):Ca Tryz.prog 70 #[a0,a1,a2] w K:=
 ca_of_vcJ Tryz.noNum Tryz.func70 F70_ok (by rw[F70_eq];exact h)
def J72_0(K:Kont)(v15:Value)(s8:Value×Value×Unit)(K10:Value×Value×Unit→World→Prop)(s18:Value×Unit)(w19:World):Prop:=
 ∀_:Nat→Value,
 ifB s18.1
 (K (.slice none 0 0) w19)
 (rv Tryz.prog (Instr.loadAt 119 v15) w19 λv37 w38=>
 rx Tryz.prog (xLit 47 1 [(0,v37)]) w38 λv39 w40=>
 rx Tryz.prog (xAppend #[47,47] 47 [s8.1,v39]) w40 λv41 w42=>
 rv Tryz.prog (bin .add 27 true s8.2.1 (.int .u64 1)) w42 λv43 w44=>
 K10 (v41,v43,()) w44)
def L72_1(v6:Value)(a2:Value)(v0:Value)(K:Kont)(s8:Value×Value×Unit)(w9:World)(K10:Value×Value×Unit→World→Prop):Prop:=
 ∀_:Nat→Value,
 rv Tryz.prog (bin .lss 27 false s8.2.1 v6) w9 λv11 w12=>
 ifB v11
 (callV Tryz.prog a2 [] w12 λv13 w14=>
 rv Tryz.prog (Instr.alloc 119 true (.tuple #[])) w14 λv15 w16=>
 ru Tryz.prog (Instr.storeAt 119 v15 v13) w16 λw17=>
 JoinW (S:=Value×Unit) (λJ20=>
 rv Tryz.prog (Instr.fieldAt 139 v0 0) w17 λv21 w22=>
 rv Tryz.prog (Instr.loadAt 136 v21) w22 λv23 w24=>
 Ca Tryz.prog 147 #[v23] w24 λv25 w26=>
 rv Tryz.prog (bin .eql 3 true v25 (.int .i64 0)) w26 λv27 w28=>
 ifB v27
 (rv Tryz.prog (Instr.fieldAt 139 v0 0) w28 λv29 w30=>
 rv Tryz.prog (Instr.loadAt 136 v29) w30 λv31 w32=>
 Ca Tryz.prog 74 #[v31] w32 λv33 w34=>
 rv Tryz.prog (bin .neq 26 true v33 (.int .i64 0)) w34 λv35 w36=>
 J20 (v35,()) w36)
 (J20 ((.bool false),()) w28))
 (J72_0 K v15 s8 K10))
 (K s8.1 w12)
def F72(a0 a1 a2:Value)(w:World)(K:Kont):Prop:=
 rv Tryz.prog (Instr.box 139 a0) w λv0 w1=>
 rv Tryz.prog (Instr.fieldAt 139 v0 0) w1 λv2 w3=>
 rv Tryz.prog (Instr.loadAt 136 v2) w3 λv4 w5=>
 Ca Tryz.prog 69 #[v4,a1] w5 λv6 w7=>
 LoopW (S:=Value×Value×Unit) (L72_1 v6 a2 v0 K) ((.slice none 0 0),(.int .u64 0),()) w7
theorem F72_eq(a0 a1 a2:Value)(w:World)(K:Kont):vcFnJ Tryz.prog Tryz.f72 [a0,a1,a2] w K=F72 a0 a1 a2 w K:=by kernel_rfl
theorem F72_ok:okF Tryz.prog Tryz.f72 3=true:=by kernel_rfl
theorem ca72{a0 a1 a2:Value}{w:World}{K:Kont}(h:F72 a0 a1 a2 w K):Ca Tryz.prog 72 #[a0,a1,a2] w K:=
 ca_of_vcJ Tryz.noNum Tryz.func72 F72_ok (by rw[F72_eq];exact h)
def F64(a0:Value)(w:World)(K:Kont):Prop:=
 rv Tryz.prog (Instr.alloc 92 true (.tuple #[])) w λv0 w1=>
 rdW Tryz.prog (Instr.loadAt 139 a0) w1.drew λv2=>
 rdP Tryz.prog (Instr.fieldAt 139 a0 0) λv3=>
 rdW Tryz.prog (Instr.loadAt 136 v3) w1.drew λv4=>
 Ca Tryz.prog 60 #[v2] w1.drew λv5 w6=>
 Sem.run Tryz.prog (Instr.loadAt 136 v3) w6=.ok v4 w6∧
 (rdP Tryz.prog (Instr.fieldAt 92 v0 0) λv7=>
 Ca Tryz.prog 62 #[v4] w6 λv8 w9=>
 ru Tryz.prog (Instr.storeAt 35 v7 v5) w9 λw10=>
 rdP Tryz.prog (Instr.fieldAt 92 v0 1) λv11=>
 ru Tryz.prog (Instr.storeAt 2 v11 v8) w10 λw12=>
 rdP Tryz.prog (Instr.fieldAt 139 a0 0) λv13=>
 rdW Tryz.prog (Instr.loadAt 136 v13) w12.drew λv14=>
 rdP Tryz.prog (Instr.fieldAt 139 a0 0) λv15=>
 rdW Tryz.prog (Instr.loadAt 136 v15) w12.drew λv16=>
 Ca Tryz.prog 65 #[v14] w12.drew λv17 w18=>
 Sem.run Tryz.prog (Instr.loadAt 136 v15) w18=.ok v16 w18∧
 (rdP Tryz.prog (Instr.fieldAt 92 v0 2) λv19=>
 Ca Tryz.prog 65 #[v16] w18 λv20 w21=>
 ru Tryz.prog (Instr.storeAt 4 v19 v17) w21 λw22=>
 rdP Tryz.prog (Instr.fieldAt 92 v0 3) λv23=>
 ru Tryz.prog (Instr.storeAt 4 v23 v20) w22 λw24=>
 rv Tryz.prog (Instr.loadAt 92 v0) w24 λv25 w26=>
 ru Tryz.prog (Instr.storeAt 92 v0 v25) w26 λw27=>
 rdW Tryz.prog (Instr.loadAt 92 v0) w27 λv28=>
 K v28 w27))
theorem F64_eq(a0:Value)(w:World)(K:Kont):vcFnJ Tryz.prog Tryz.f64 [a0] w K=F64 a0 w K:=by kernel_rfl
theorem F64_ok:okF Tryz.prog Tryz.f64 1=true:=by kernel_rfl
theorem ca64{a0:Value}{w:World}{K:Kont}(h:F64 a0 w K):Ca Tryz.prog 64 #[a0] w K:=
 ca_of_vcJ Tryz.noNum Tryz.func64 F64_ok (by rw[F64_eq];exact h)
def F67(a0:Value)(w:World)(K:Kont):Prop:=
 rx Tryz.prog (bigA 108) w λv0 w1=>
 rv Tryz.prog (Instr.fieldAt 139 a0 0) w1 λv2 w3=>
 rv Tryz.prog (Instr.loadAt 136 v2) w3 λv4 w5=>
 Ca Tryz.prog 68 #[v4] w5 λv6 w7=>
 rv Tryz.prog (Instr.fieldAt 108 v0 0) w7 λv8 w9=>
 rux Tryz.prog (bigU 38 v8 v6) w9 λw10=>
 rv Tryz.prog (Instr.fieldAt 139 a0 0) w10 λv11 w12=>
 rv Tryz.prog (Instr.loadAt 136 v11) w12 λv13 w14=>
 Ca Tryz.prog 69 #[v13,(.int .u64 255)] w14 λv15 w16=>
 rv Tryz.prog (convert 27 106 v15) w16 λv17 w18=>
 rv Tryz.prog (Instr.fieldAt 108 v0 1) w18 λv19 w20=>
 ru Tryz.prog (Instr.storeAt 106 v19 v17) w20 λw21=>
 rv Tryz.prog (Instr.fieldAt 139 a0 0) w21 λv22 w23=>
 rv Tryz.prog (Instr.loadAt 136 v22) w23 λv24 w25=>
 Ca Tryz.prog 62 #[v24] w25 λv26 w27=>
 rv Tryz.prog (Instr.fieldAt 108 v0 2) w27 λv28 w29=>
 ru Tryz.prog (Instr.storeAt 2 v28 v26) w29 λw30=>
 rx Tryz.prog (bigS 108 v0) w30 λv31 w32=>
 rux Tryz.prog (bigU 108 v0 v31) w32 λw33=>
 rdX Tryz.prog (bigS 108 v0) w33 λv34=>
 K v34 w33
theorem F67_eq(a0:Value)(w:World)(K:Kont):vcFnJ Tryz.prog Tryz.f67 [a0] w K=F67 a0 w K:=by kernel_rfl
theorem F67_ok:okF Tryz.prog Tryz.f67 1=true:=by kernel_rfl
theorem ca67{a0:Value}{w:World}{K:Kont}(h:F67 a0 w K):Ca Tryz.prog 67 #[a0] w K:=
 ca_of_vcJ Tryz.noNum Tryz.func67 F67_ok (by rw[F67_eq];exact h)
def F71(a0:Value)(w:World)(K:Kont):Prop:=
 rv Tryz.prog (Instr.alloc 112 true (.tuple #[])) w λv0 w1=>
 rdW Tryz.prog (Instr.loadAt 139 a0) w1.drew λv2=>
 rdW Tryz.prog (Instr.loadAt 139 a0) w1.drew λv3=>
 Ca Tryz.prog 60 #[v2] w1.drew λv4 w5=>
 Sem.run Tryz.prog (Instr.loadAt 139 a0) w5=.ok v3 w5∧
 (rdP Tryz.prog (Instr.fieldAt 112 v0 0) λv6=>
 Ca Tryz.prog 60 #[v3] w5 λv7 w8=>
 ru Tryz.prog (Instr.storeAt 35 v6 v4) w8 λw9=>
 rdP Tryz.prog (Instr.fieldAt 112 v0 1) λv10=>
 ru Tryz.prog (Instr.storeAt 35 v10 v7) w9 λw11=>
 rdP Tryz.prog (Instr.fieldAt 139 a0 0) λv12=>
 rdW Tryz.prog (Instr.loadAt 136 v12) w11.drew λv13=>
 rdP Tryz.prog (Instr.fieldAt 139 a0 0) λv14=>
 rdW Tryz.prog (Instr.loadAt 136 v14) w11.drew λv15=>
 Ca Tryz.prog 62 #[v13] w11.drew λv16 w17=>
 Sem.run Tryz.prog (Instr.loadAt 136 v14) w17=.ok v15 w17∧
 (rdP Tryz.prog (Instr.fieldAt 112 v0 2) λv18=>
 Ca Tryz.prog 62 #[v15] w17 λv19 w20=>
 ru Tryz.prog (Instr.storeAt 2 v18 v16) w20 λw21=>
 rdP Tryz.prog (Instr.fieldAt 112 v0 3) λv22=>
 ru Tryz.prog (Instr.storeAt 2 v22 v19) w21 λw23=>
 rv Tryz.prog (Instr.loadAt 112 v0) w23 λv24 w25=>
 ru Tryz.prog (Instr.storeAt 112 v0 v24) w25 λw26=>
 rdW Tryz.prog (Instr.loadAt 112 v0) w26 λv27=>
 K v27 w26))
theorem F71_eq(a0:Value)(w:World)(K:Kont):vcFnJ Tryz.prog Tryz.f71 [a0] w K=F71 a0 w K:=by kernel_rfl
theorem F71_ok:okF Tryz.prog Tryz.f71 1=true:=by kernel_rfl
theorem ca71{a0:Value}{w:World}{K:Kont}(h:F71 a0 w K):Ca Tryz.prog 71 #[a0] w K:=
 ca_of_vcJ Tryz.noNum Tryz.func71 F71_ok (by rw[F71_eq];exact h)
def F18(a0:Value)(w:World)(K:Kont):Prop:=
 rv Tryz.prog (Instr.alloc 49 true (.tuple #[])) w λv0 w1=>
 Ca Tryz.prog 59 #[a0] w1 λv2 w3=>
 rv Tryz.prog (Instr.build 139 #[(0,v2)]) w3 λv4 w5=>
 rv Tryz.prog (Instr.alloc 139 true (.tuple #[])) w5 λv6 w7=>
 ru Tryz.prog (Instr.storeAt 139 v6 v4) w7 λw8=>
 rv Tryz.prog (Instr.alloc 49 true (.tuple #[])) w8 λv9 w10=>
 rdW Tryz.prog (Instr.loadAt 139 v6) w10.drew λv11=>
 rdP Tryz.prog (Instr.fieldAt 139 v6 0) λv12=>
 rdW Tryz.prog (Instr.loadAt 136 v12) w10.drew λv13=>
 rdP Tryz.prog (Instr.fieldAt 139 v6 0) λv14=>
 rdW Tryz.prog (Instr.loadAt 136 v14) w10.drew λv15=>
 Ca Tryz.prog 60 #[v11] w10.drew λv16 w17=>
 Sem.run Tryz.prog (Instr.loadAt 136 v14) w17=.ok v15 w17∧Sem.run Tryz.prog (Instr.loadAt 136 v12) w17=.ok v13 w17∧
 (rdP Tryz.prog (Instr.fieldAt 49 v9 0) λv18=>
 Ca Tryz.prog 61 #[v13] w17 λv19 w20=>
 Sem.run Tryz.prog (Instr.loadAt 136 v14) w20=.ok v15 w20∧
 (Ca Tryz.prog 62 #[v15] w20 λv21 w22=>
 ru Tryz.prog (Instr.storeAt 35 v18 v16) w22 λw23=>
 rdP Tryz.prog (Instr.fieldAt 49 v9 1) λv24=>
 ru Tryz.prog (Instr.storeAt 27 v24 v19) w23 λw25=>
 rdP Tryz.prog (Instr.fieldAt 49 v9 2) λv26=>
 ru Tryz.prog (Instr.storeAt 2 v26 v21) w25 λw27=>
 rv Tryz.prog (Instr.loadAt 139 v6) w27 λv28 w29=>
 Ca Tryz.prog 63 #[v28,(.int .u64 64),(.func (.func 64) #[] #[v6])] w29 λv30 w31=>
 rv Tryz.prog (Instr.fieldAt 49 v9 3) w31 λv32 w33=>
 ru Tryz.prog (Instr.storeAt 44 v32 v30) w33 λw34=>
 rv Tryz.prog (Instr.loadAt 139 v6) w34 λv35 w36=>
 Ca Tryz.prog 66 #[v35,(.int .u64 16),(.func (.func 67) #[] #[v6])] w36 λv37 w38=>
 rv Tryz.prog (Instr.fieldAt 49 v9 4) w38 λv39 w40=>
 ru Tryz.prog (Instr.storeAt 45 v39 v37) w40 λw41=>
 rv Tryz.prog (Instr.loadAt 139 v6) w41 λv42 w43=>
 Ca Tryz.prog 70 #[v42,(.int .u64 1024),(.func (.func 71) #[] #[v6])] w43 λv44 w45=>
 rv Tryz.prog (Instr.fieldAt 49 v9 5) w45 λv46 w47=>
 ru Tryz.prog (Instr.storeAt 46 v46 v44) w47 λw48=>
 rv Tryz.prog (Instr.loadAt 139 v6) w48 λv49 w50=>
 rv Tryz.prog (Instr.loadAt 139 v6) w50 λv51 w52=>
 Ca Tryz.prog 72 #[v49,(.int .u64 3200),(.func (.func 73) #[v51] #[])] w52 λv53 w54=>
 rv Tryz.prog (Instr.fieldAt 49 v9 6) w54 λv55 w56=>
 ru Tryz.prog (Instr.storeAt 47 v55 v53) w56 λw57=>
 rv Tryz.prog (Instr.loadAt 139 v6) w57 λv58 w59=>
 rv Tryz.prog (Instr.loadAt 139 v6) w59 λv60 w61=>
 Ca Tryz.prog 72 #[v58,(.int .u64 800),(.func (.func 73) #[v60] #[])] w61 λv62 w63=>
 rv Tryz.prog (Instr.fieldAt 49 v9 7) w63 λv64 w65=>
 ru Tryz.prog (Instr.storeAt 47 v64 v62) w65 λw66=>
 rv Tryz.prog (Instr.fieldAt 139 v6 0) w66 λv67 w68=>
 rv Tryz.prog (Instr.loadAt 136 v67) w68 λv69 w70=>
 Ca Tryz.prog 74 #[v69] w70 λv71 w72=>
 rv Tryz.prog (bin .neq 26 true v71 (.int .i64 0)) w72 λv73 w74=>
 ifB v73
 (rv Tryz.prog (Instr.build 49 #[]) w74 λv75 w76=>
 ru Tryz.prog (Instr.storeAt 49 v0 v75) w76 λw77=>
 rdW Tryz.prog (Instr.loadAt 49 v0) w77 λv78=>
 K (.tuple #[v78,(.int .i64 5)]) w77)
 (rv Tryz.prog (Instr.loadAt 49 v9) w74 λv79 w80=>
 Ca Tryz.prog 13 #[v79] w80 λv81 w82=>
 rv Tryz.prog (Instr.extract v81 0) w82 λv83 w84=>
 rv Tryz.prog (Instr.extract v81 1) w84 λv85 w86=>
 rv Tryz.prog (bin .neq 26 true v85 (.int .i64 0)) w86 λv87 w88=>
 ifB v87
 (rv Tryz.prog (Instr.build 49 #[]) w88 λv89 w90=>
 ru Tryz.prog (Instr.storeAt 49 v0 v89) w90 λw91=>
 rdW Tryz.prog (Instr.loadAt 49 v0) w91 λv92=>
 K (.tuple #[v92,(.int .i64 5)]) w91)
 (rv Tryz.prog (Instr.loadAt 49 v9) w88 λv93 w94=>
 ru Tryz.prog (Instr.storeAt 49 v0 v93) w94 λw95=>
 rdW Tryz.prog (Instr.loadAt 49 v0) w95 λv96=>
 K (.tuple #[v96,(.int .i64 0)]) w95))))
theorem F18_eq(a0:Value)(w:World)(K:Kont):vcFnJ Tryz.prog Tryz.f18 [a0] w K=F18 a0 w K:=by kernel_rfl
theorem F18_ok:okF Tryz.prog Tryz.f18 1=true:=by kernel_rfl
theorem ca18{a0:Value}{w:World}{K:Kont}(h:F18 a0 w K):Ca Tryz.prog 18 #[a0] w K:=
 ca_of_vcJ Tryz.noNum Tryz.func18 F18_ok (by rw[F18_eq];exact h)
def F20(a0:Value)(w:World)(K:Kont):Prop:=
 Ca Tryz.prog 18 #[a0] w λv0 w1=>
 rv Tryz.prog (Instr.extract v0 0) w1 λv2 w3=>
 rv Tryz.prog (Instr.extract v0 1) w3 λv4 w5=>
 rv Tryz.prog (Instr.alloc 49 true (.tuple #[])) w5 λv6 w7=>
 ru Tryz.prog (Instr.storeAt 49 v6 v2) w7 λw8=>
 rv Tryz.prog (bin .neq 26 true v4 (.int .i64 0)) w8 λv9 w10=>
 ifB v9
 (K (.tuple #[(.pointer none),v4]) w10)
 (rv Tryz.prog (Instr.loadAt 49 v6) w10 λv11 w12=>
 Ca Tryz.prog 13 #[v11] w12 λv13 w14=>
 rv Tryz.prog (Instr.extract v13 0) w14 λv15 w16=>
 rv Tryz.prog (Instr.extract v13 1) w16 λv17 w18=>
 K (.tuple #[v15,v17]) w18)
theorem F20_eq(a0:Value)(w:World)(K:Kont):vcFnJ Tryz.prog Tryz.f20 [a0] w K=F20 a0 w K:=by kernel_rfl
theorem F20_ok:okF Tryz.prog Tryz.f20 1=true:=by kernel_rfl
theorem ca20{a0:Value}{w:World}{K:Kont}(h:F20 a0 w K):Ca Tryz.prog 20 #[a0] w K:=
 ca_of_vcJ Tryz.noNum Tryz.func20 F20_ok (by rw[F20_eq];exact h)
def F21(a0:Value)(w:World)(K:Kont):Prop:=
 Ca Tryz.prog 43 #[a0] w λv0 w1=>
 rv Tryz.prog (bin .eql 23 true v0 (.pointer none)) w1 λv2 w3=>
 ifB v2
 (K (.tuple #[(.slice none 0 0),(.int .i64 1)]) w3)
 (Ca Tryz.prog 14 #[a0] w3 λv4 w5=>
 Ca Tryz.prog 82 #[v4] w5 λv6 w7=>
 K (.tuple #[v6,(.int .i64 0)]) w7)
theorem F21_eq(a0:Value)(w:World)(K:Kont):vcFnJ Tryz.prog Tryz.f21 [a0] w K=F21 a0 w K:=by kernel_rfl
theorem F21_ok:okF Tryz.prog Tryz.f21 1=true:=by kernel_rfl
theorem ca21{a0:Value}{w:World}{K:Kont}(h:F21 a0 w K):Ca Tryz.prog 21 #[a0] w K:=
 ca_of_vcJ Tryz.noNum Tryz.func21 F21_ok (by rw[F21_eq];exact h)
def F24(a0:Value)(w:World)(K:Kont):Prop:=
 rv Tryz.prog (Instr.box 49 a0) w λv0 w1=>
 rv Tryz.prog (Instr.loadAt 49 v0) w1 λv2 w3=>
 Ca Tryz.prog 13 #[v2] w3 λv4 w5=>
 rv Tryz.prog (Instr.extract v4 0) w5 λv6 w7=>
 rv Tryz.prog (Instr.extract v4 1) w7 λv8 w9=>
 rv Tryz.prog (bin .neq 26 true v8 (.int .i64 0)) w9 λv10 w11=>
 ifB v10
 (K (.tuple #[(.slice none 0 0),(.int .i64 2)]) w11)
 (rv Tryz.prog (Instr.loadAt 49 v0) w11 λv12 w13=>
 Ca Tryz.prog 82 #[v12] w13 λv14 w15=>
 K (.tuple #[v14,(.int .i64 0)]) w15)
theorem F24_eq(a0:Value)(w:World)(K:Kont):vcFnJ Tryz.prog Tryz.f24 [a0] w K=F24 a0 w K:=by kernel_rfl
theorem F24_ok:okF Tryz.prog Tryz.f24 1=true:=by kernel_rfl
theorem ca24{a0:Value}{w:World}{K:Kont}(h:F24 a0 w K):Ca Tryz.prog 24 #[a0] w K:=
 ca_of_vcJ Tryz.noNum Tryz.func24 F24_ok (by rw[F24_eq];exact h)
def F82(a0:Value)(w:World)(K:Kont):Prop:=
 rv Tryz.prog (Instr.box 49 a0) w λv0 w1=>
 rdP Tryz.prog (Instr.fieldAt 49 v0 0) λv2=>
 rdW Tryz.prog (Instr.loadAt 35 v2) w1.drew λv3=>
 rdW Tryz.prog (convert 35 27 v3) w1.drew λv4=>
 rdP Tryz.prog (Instr.fieldAt 49 v0 1) λv5=>
 rdW Tryz.prog (Instr.loadAt 27 v5) w1.drew λv6=>
 rdP Tryz.prog (Instr.fieldAt 49 v0 2) λv7=>
 rdW Tryz.prog (Instr.loadAt 2 v7) w1.drew λv8=>
 Ca Tryz.prog 100 #[(.slice none 0 0),v4] w1.drew λv9 w10=>
 Sem.run Tryz.prog (Instr.loadAt 2 v7) w10=.ok v8 w10∧Sem.run Tryz.prog (Instr.loadAt 27 v5) w10=.ok v6 w10∧
 (Ca Tryz.prog 100 #[v9,v6] w10 λv11 w12=>
 Sem.run Tryz.prog (Instr.loadAt 2 v7) w12=.ok v8 w12∧
 (Ca Tryz.prog 154 #[v11,v8] w12 λv13 w14=>
 rv Tryz.prog (Instr.fieldAt 49 v0 3) w14 λv15 w16=>
 rv Tryz.prog (Instr.loadAt 44 v15) w16 λv17 w18=>
 Ca Tryz.prog 155 #[v13,v17,(.func (.func 156) #[] #[])] w18 λv19 w20=>
 rv Tryz.prog (Instr.fieldAt 49 v0 4) w20 λv21 w22=>
 rv Tryz.prog (Instr.loadAt 45 v21) w22 λv23 w24=>
 Ca Tryz.prog 158 #[v19,v23,(.func (.func 159) #[] #[])] w24 λv25 w26=>
 rv Tryz.prog (Instr.fieldAt 49 v0 5) w26 λv27 w28=>
 rv Tryz.prog (Instr.loadAt 46 v27) w28 λv29 w30=>
 Ca Tryz.prog 161 #[v25,v29,(.func (.func 162) #[] #[])] w30 λv31 w32=>
 rdP Tryz.prog (Instr.fieldAt 49 v0 6) λv33=>
 rdW Tryz.prog (Instr.loadAt 47 v33) w32.drew λv34=>
 rdP Tryz.prog (Instr.fieldAt 49 v0 7) λv35=>
 rdW Tryz.prog (Instr.loadAt 47 v35) w32.drew λv36=>
 Ca Tryz.prog 163 #[v31,v34,(.func (.func 164) #[] #[])] w32.drew λv37 w38=>
 Sem.run Tryz.prog (Instr.loadAt 47 v35) w38=.ok v36 w38∧
 (Ca Tryz.prog 163 #[v37,v36,(.func (.func 164) #[] #[])] w38 λv39 w40=>
 K v39 w40)))
theorem F82_eq(a0:Value)(w:World)(K:Kont):vcFnJ Tryz.prog Tryz.f82 [a0] w K=F82 a0 w K:=by kernel_rfl
theorem F82_ok:okF Tryz.prog Tryz.f82 1=true:=by kernel_rfl
theorem ca82{a0:Value}{w:World}{K:Kont}(h:F82 a0 w K):Ca Tryz.prog 82 #[a0] w K:=
 ca_of_vcJ Tryz.noNum Tryz.func82 F82_ok (by rw[F82_eq];exact h)
def F156(a0 a1:Value)(w:World)(K:Kont):Prop:=
 rv Tryz.prog (Instr.box 92 a1) w λv0 w1=>
 rdP Tryz.prog (Instr.fieldAt 92 v0 0) λv2=>
 rdW Tryz.prog (Instr.loadAt 35 v2) w1.drew λv3=>
 rdW Tryz.prog (convert 35 27 v3) w1.drew λv4=>
 rdP Tryz.prog (Instr.fieldAt 92 v0 1) λv5=>
 rdW Tryz.prog (Instr.loadAt 2 v5) w1.drew λv6=>
 rdP Tryz.prog (Instr.fieldAt 92 v0 2) λv7=>
 rdW Tryz.prog (Instr.loadAt 4 v7) w1.drew λv8=>
 rdP Tryz.prog (Instr.fieldAt 92 v0 3) λv9=>
 rdW Tryz.prog (Instr.loadAt 4 v9) w1.drew λv10=>
 Ca Tryz.prog 100 #[a0,v4] w1.drew λv11 w12=>
 Sem.run Tryz.prog (Instr.loadAt 4 v9) w12=.ok v10 w12∧Sem.run Tryz.prog (Instr.loadAt 4 v7) w12=.ok v8 w12∧Sem.run Tryz.prog (Instr.loadAt 2 v5) w12=.ok v6 w12∧
 (Ca Tryz.prog 154 #[v11,v6] w12 λv13 w14=>
 Sem.run Tryz.prog (Instr.loadAt 4 v9) w14=.ok v10 w14∧Sem.run Tryz.prog (Instr.loadAt 4 v7) w14=.ok v8 w14∧
 (Ca Tryz.prog 157 #[v13,v8] w14 λv15 w16=>
 Sem.run Tryz.prog (Instr.loadAt 4 v9) w16=.ok v10 w16∧
 (Ca Tryz.prog 157 #[v15,v10] w16 λv17 w18=>
 K v17 w18)))
theorem F156_eq(a0 a1:Value)(w:World)(K:Kont):vcFnJ Tryz.prog Tryz.f156 [a0,a1] w K=F156 a0 a1 w K:=by kernel_rfl
theorem F156_ok:okF Tryz.prog Tryz.f156 2=true:=by kernel_rfl
theorem ca156{a0 a1:Value}{w:World}{K:Kont}(h:F156 a0 a1 w K):Ca Tryz.prog 156 #[a0,a1] w K:=
 ca_of_vcJ Tryz.noNum Tryz.func156 F156_ok (by rw[F156_eq];exact h)
def F159(a0 a1:Value)(w:World)(K:Kont):Prop:=
 rv Tryz.prog (Instr.box 108 a1) w λv0 w1=>
 rdP Tryz.prog (Instr.fieldAt 108 v0 0) λv2=>
 rdX Tryz.prog (bigS 38 v2) w1.drew λv3=>
 rdP Tryz.prog (Instr.fieldAt 108 v0 1) λv4=>
 rdW Tryz.prog (Instr.loadAt 106 v4) w1.drew λv5=>
 rdW Tryz.prog (convert 106 27 v5) w1.drew λv6=>
 rdP Tryz.prog (Instr.fieldAt 108 v0 2) λv7=>
 rdW Tryz.prog (Instr.loadAt 2 v7) w1.drew λv8=>
 Ca Tryz.prog 160 #[a0,v3] w1.drew λv9 w10=>
 Sem.run Tryz.prog (Instr.loadAt 2 v7) w10=.ok v8 w10∧Sem.run Tryz.prog (convert 106 27 v5) w10=.ok v6 w10∧Sem.run Tryz.prog (Instr.loadAt 106 v4) w10=.ok v5 w10∧
 (Ca Tryz.prog 100 #[v9,v6] w10 λv11 w12=>
 Sem.run Tryz.prog (Instr.loadAt 2 v7) w12=.ok v8 w12∧
 (Ca Tryz.prog 154 #[v11,v8] w12 λv13 w14=>
 K v13 w14))
theorem F159_eq(a0 a1:Value)(w:World)(K:Kont):vcFnJ Tryz.prog Tryz.f159 [a0,a1] w K=F159 a0 a1 w K:=by kernel_rfl
theorem F159_ok:okF Tryz.prog Tryz.f159 2=true:=by kernel_rfl
theorem ca159{a0 a1:Value}{w:World}{K:Kont}(h:F159 a0 a1 w K):Ca Tryz.prog 159 #[a0,a1] w K:=
 ca_of_vcJ Tryz.noNum Tryz.func159 F159_ok (by rw[F159_eq];exact h)
def F162(a0 a1:Value)(w:World)(K:Kont):Prop:=
 rv Tryz.prog (Instr.box 112 a1) w λv0 w1=>
 rdP Tryz.prog (Instr.fieldAt 112 v0 0) λv2=>
 rdW Tryz.prog (Instr.loadAt 35 v2) w1.drew λv3=>
 rdW Tryz.prog (convert 35 27 v3) w1.drew λv4=>
 rdP Tryz.prog (Instr.fieldAt 112 v0 1) λv5=>
 rdW Tryz.prog (Instr.loadAt 35 v5) w1.drew λv6=>
 rdW Tryz.prog (convert 35 27 v6) w1.drew λv7=>
 rdP Tryz.prog (Instr.fieldAt 112 v0 2) λv8=>
 rdW Tryz.prog (Instr.loadAt 2 v8) w1.drew λv9=>
 rdP Tryz.prog (Instr.fieldAt 112 v0 3) λv10=>
 rdW Tryz.prog (Instr.loadAt 2 v10) w1.drew λv11=>
 Ca Tryz.prog 100 #[a0,v4] w1.drew λv12 w13=>
 Sem.run Tryz.prog (Instr.loadAt 2 v10) w13=.ok v11 w13∧Sem.run Tryz.prog (Instr.loadAt 2 v8) w13=.ok v9 w13∧Sem.run Tryz.prog (convert 35 27 v6) w13=.ok v7 w13∧Sem.run Tryz.prog (Instr.loadAt 35 v5) w13=.ok v6 w13∧
 (Ca Tryz.prog 100 #[v12,v7] w13 λv14 w15=>
 Sem.run Tryz.prog (Instr.loadAt 2 v10) w15=.ok v11 w15∧Sem.run Tryz.prog (Instr.loadAt 2 v8) w15=.ok v9 w15∧
 (Ca Tryz.prog 154 #[v14,v9] w15 λv16 w17=>
 Sem.run Tryz.prog (Instr.loadAt 2 v10) w17=.ok v11 w17∧
 (Ca Tryz.prog 154 #[v16,v11] w17 λv18 w19=>
 K v18 w19)))
theorem F162_eq(a0 a1:Value)(w:World)(K:Kont):vcFnJ Tryz.prog Tryz.f162 [a0,a1] w K=F162 a0 a1 w K:=by kernel_rfl
theorem F162_ok:okF Tryz.prog Tryz.f162 2=true:=by kernel_rfl
theorem ca162{a0 a1:Value}{w:World}{K:Kont}(h:F162 a0 a1 w K):Ca Tryz.prog 162 #[a0,a1] w K:=
 ca_of_vcJ Tryz.noNum Tryz.func162 F162_ok (by rw[F162_eq];exact h)
def F164(a0 a1:Value)(w:World)(K:Kont):Prop:=
 rv Tryz.prog (Instr.box 119 a1) w λv0 w1=>
 rdP Tryz.prog (Instr.fieldAt 119 v0 0) λv2=>
 rdW Tryz.prog (Instr.loadAt 35 v2) w1.drew λv3=>
 rdW Tryz.prog (convert 35 27 v3) w1.drew λv4=>
 rdP Tryz.prog (Instr.fieldAt 119 v0 1) λv5=>
 rdP Tryz.prog (Instr.fieldAt 117 v5 0) λv6=>
 rdW Tryz.prog (Instr.loadAt 27 v6) w1.drew λv7=>
 rdP Tryz.prog (Instr.fieldAt 119 v0 1) λv8=>
 rdP Tryz.prog (Instr.fieldAt 117 v8 1) λv9=>
 rdW Tryz.prog (Instr.loadAt 35 v9) w1.drew λv10=>
 rdW Tryz.prog (convert 35 27 v10) w1.drew λv11=>
 Ca Tryz.prog 100 #[a0,v4] w1.drew λv12 w13=>
 Sem.run Tryz.prog (convert 35 27 v10) w13=.ok v11 w13∧Sem.run Tryz.prog (Instr.loadAt 35 v9) w13=.ok v10 w13∧Sem.run Tryz.prog (Instr.loadAt 27 v6) w13=.ok v7 w13∧
 (Ca Tryz.prog 100 #[v12,v7] w13 λv14 w15=>
 Sem.run Tryz.prog (convert 35 27 v10) w15=.ok v11 w15∧Sem.run Tryz.prog (Instr.loadAt 35 v9) w15=.ok v10 w15∧
 (Ca Tryz.prog 100 #[v14,v11] w15 λv16 w17=>
 rdP Tryz.prog (Instr.fieldAt 119 v0 1) λv18=>
 rdP Tryz.prog (Instr.fieldAt 117 v18 2) λv19=>
 rdW Tryz.prog (Instr.loadAt 4 v19) w17.drew λv20=>
 rdP Tryz.prog (Instr.fieldAt 119 v0 1) λv21=>
 rdP Tryz.prog (Instr.fieldAt 117 v21 3) λv22=>
 rdW Tryz.prog (Instr.loadAt 2 v22) w17.drew λv23=>
 rdP Tryz.prog (Instr.fieldAt 119 v0 1) λv24=>
 rdP Tryz.prog (Instr.fieldAt 117 v24 4) λv25=>
 rdW Tryz.prog (Instr.loadAt 2 v25) w17.drew λv26=>
 Ca Tryz.prog 157 #[v16,v20] w17.drew λv27 w28=>
 Sem.run Tryz.prog (Instr.loadAt 2 v25) w28=.ok v26 w28∧Sem.run Tryz.prog (Instr.loadAt 2 v22) w28=.ok v23 w28∧
 (Ca Tryz.prog 154 #[v27,v23] w28 λv29 w30=>
 Sem.run Tryz.prog (Instr.loadAt 2 v25) w30=.ok v26 w30∧
 (Ca Tryz.prog 154 #[v29,v26] w30 λv31 w32=>
 K v31 w32))))
theorem F164_eq(a0 a1:Value)(w:World)(K:Kont):vcFnJ Tryz.prog Tryz.f164 [a0,a1] w K=F164 a0 a1 w K:=by kernel_rfl
theorem F164_ok:okF Tryz.prog Tryz.f164 2=true:=by kernel_rfl
theorem ca164{a0 a1:Value}{w:World}{K:Kont}(h:F164 a0 a1 w K):Ca Tryz.prog 164 #[a0,a1] w K:=
 ca_of_vcJ Tryz.noNum Tryz.func164 F164_ok (by rw[F164_eq];exact h)
def L155_0(v6:Value)(a1:Value)(a2:Value)(K:Kont)(s8:Value×Value×Unit)(w9:World)(K10:Value×Value×Unit→World→Prop):Prop:=
 ∀_:Nat→Value,
 rv Tryz.prog (bin .lss 3 false s8.2.1 v6) w9 λv11 w12=>
 ifB v11
 (rv Tryz.prog (Instr.indexAt 44 a1 s8.2.1) w12 λv13 w14=>
 rv Tryz.prog (Instr.loadAt 92 v13) w14 λv15 w16=>
 rv Tryz.prog (Instr.alloc 92 true (.tuple #[])) w16 λv17 w18=>
 ru Tryz.prog (Instr.storeAt 92 v17 v15) w18 λw19=>
 rv Tryz.prog (Instr.loadAt 92 v17) w19 λv20 w21=>
 callV Tryz.prog a2 [s8.1,v20] w21 λv22 w23=>
 rv Tryz.prog (bin .add 3 true s8.2.1 (.int .i64 1)) w23 λv24 w25=>
 K10 (v22,v24,()) w25)
 (K s8.1 w12)
def F155(a0 a1 a2:Value)(w:World)(K:Kont):Prop:=
 rn Tryz.prog (builtin .len #[44] 3 #[false] #[a1]) w λv0 w1=>
 rv Tryz.prog (convert 3 27 v0) w1 λv2 w3=>
 Ca Tryz.prog 100 #[a0,v2] w3 λv4 w5=>
 rn Tryz.prog (builtin .len #[44] 3 #[false] #[a1]) w5 λv6 w7=>
 LoopW (S:=Value×Value×Unit) (L155_0 v6 a1 a2 K) (v4,(.int .i64 0),()) w7
theorem F155_eq(a0 a1 a2:Value)(w:World)(K:Kont):vcFnJ Tryz.prog Tryz.f155 [a0,a1,a2] w K=F155 a0 a1 a2 w K:=by kernel_rfl
theorem F155_ok:okF Tryz.prog Tryz.f155 3=true:=by kernel_rfl
theorem ca155{a0 a1 a2:Value}{w:World}{K:Kont}(h:F155 a0 a1 a2 w K):Ca Tryz.prog 155 #[a0,a1,a2] w K:=
 ca_of_vcJ Tryz.noNum Tryz.func155 F155_ok (by rw[F155_eq];exact h)
def L158_0(v6:Value)(a1:Value)(a2:Value)(K:Kont)(s8:Value×Value×Unit)(w9:World)(K10:Value×Value×Unit→World→Prop):Prop:=
 ∀_:Nat→Value,
 rv Tryz.prog (bin .lss 3 false s8.2.1 v6) w9 λv11 w12=>
 ifB v11
 (rv Tryz.prog (Instr.indexAt 45 a1 s8.2.1) w12 λv13 w14=>
 rx Tryz.prog (bigS 108 v13) w14 λv15 w16=>
 rx Tryz.prog (bigA 108) w16 λv17 w18=>
 rux Tryz.prog (bigU 108 v17 v15) w18 λw19=>
 rx Tryz.prog (bigS 108 v17) w19 λv20 w21=>
 callV Tryz.prog a2 [s8.1,v20] w21 λv22 w23=>
 rv Tryz.prog (bin .add 3 true s8.2.1 (.int .i64 1)) w23 λv24 w25=>
 K10 (v22,v24,()) w25)
 (K s8.1 w12)
def F158(a0 a1 a2:Value)(w:World)(K:Kont):Prop:=
 rn Tryz.prog (builtin .len #[45] 3 #[false] #[a1]) w λv0 w1=>
 rv Tryz.prog (convert 3 27 v0) w1 λv2 w3=>
 Ca Tryz.prog 100 #[a0,v2] w3 λv4 w5=>
 rn Tryz.prog (builtin .len #[45] 3 #[false] #[a1]) w5 λv6 w7=>
 LoopW (S:=Value×Value×Unit) (L158_0 v6 a1 a2 K) (v4,(.int .i64 0),()) w7
theorem F158_eq(a0 a1 a2:Value)(w:World)(K:Kont):vcFnJ Tryz.prog Tryz.f158 [a0,a1,a2] w K=F158 a0 a1 a2 w K:=by kernel_rfl
theorem F158_ok:okF Tryz.prog Tryz.f158 3=true:=by kernel_rfl
theorem ca158{a0 a1 a2:Value}{w:World}{K:Kont}(h:F158 a0 a1 a2 w K):Ca Tryz.prog 158 #[a0,a1,a2] w K:=
 ca_of_vcJ Tryz.noNum Tryz.func158 F158_ok (by rw[F158_eq];exact h)
def L161_0(v6:Value)(a1:Value)(a2:Value)(K:Kont)(s8:Value×Value×Unit)(w9:World)(K10:Value×Value×Unit→World→Prop):Prop:=
 ∀_:Nat→Value,
 rv Tryz.prog (bin .lss 3 false s8.2.1 v6) w9 λv11 w12=>
 ifB v11
 (rv Tryz.prog (Instr.indexAt 46 a1 s8.2.1) w12 λv13 w14=>
 rv Tryz.prog (Instr.loadAt 112 v13) w14 λv15 w16=>
 rv Tryz.prog (Instr.alloc 112 true (.tuple #[])) w16 λv17 w18=>
 ru Tryz.prog (Instr.storeAt 112 v17 v15) w18 λw19=>
 rv Tryz.prog (Instr.loadAt 112 v17) w19 λv20 w21=>
 callV Tryz.prog a2 [s8.1,v20] w21 λv22 w23=>
 rv Tryz.prog (bin .add 3 true s8.2.1 (.int .i64 1)) w23 λv24 w25=>
 K10 (v22,v24,()) w25)
 (K s8.1 w12)
def F161(a0 a1 a2:Value)(w:World)(K:Kont):Prop:=
 rn Tryz.prog (builtin .len #[46] 3 #[false] #[a1]) w λv0 w1=>
 rv Tryz.prog (convert 3 27 v0) w1 λv2 w3=>
 Ca Tryz.prog 100 #[a0,v2] w3 λv4 w5=>
 rn Tryz.prog (builtin .len #[46] 3 #[false] #[a1]) w5 λv6 w7=>
 LoopW (S:=Value×Value×Unit) (L161_0 v6 a1 a2 K) (v4,(.int .i64 0),()) w7
theorem F161_eq(a0 a1 a2:Value)(w:World)(K:Kont):vcFnJ Tryz.prog Tryz.f161 [a0,a1,a2] w K=F161 a0 a1 a2 w K:=by kernel_rfl
theorem F161_ok:okF Tryz.prog Tryz.f161 3=true:=by kernel_rfl
theorem ca161{a0 a1 a2:Value}{w:World}{K:Kont}(h:F161 a0 a1 a2 w K):Ca Tryz.prog 161 #[a0,a1,a2] w K:=
 ca_of_vcJ Tryz.noNum Tryz.func161 F161_ok (by rw[F161_eq];exact h)
def L163_0(v6:Value)(a1:Value)(a2:Value)(K:Kont)(s8:Value×Value×Unit)(w9:World)(K10:Value×Value×Unit→World→Prop):Prop:=
 ∀_:Nat→Value,
 rv Tryz.prog (bin .lss 3 false s8.2.1 v6) w9 λv11 w12=>
 ifB v11
 (rv Tryz.prog (Instr.indexAt 47 a1 s8.2.1) w12 λv13 w14=>
 rv Tryz.prog (Instr.loadAt 119 v13) w14 λv15 w16=>
 rv Tryz.prog (Instr.alloc 119 true (.tuple #[])) w16 λv17 w18=>
 ru Tryz.prog (Instr.storeAt 119 v17 v15) w18 λw19=>
 rv Tryz.prog (Instr.loadAt 119 v17) w19 λv20 w21=>
 callV Tryz.prog a2 [s8.1,v20] w21 λv22 w23=>
 rv Tryz.prog (bin .add 3 true s8.2.1 (.int .i64 1)) w23 λv24 w25=>
 K10 (v22,v24,()) w25)
 (K s8.1 w12)
def F163(a0 a1 a2:Value)(w:World)(K:Kont):Prop:=
 rn Tryz.prog (builtin .len #[47] 3 #[false] #[a1]) w λv0 w1=>
 rv Tryz.prog (convert 3 27 v0) w1 λv2 w3=>
 Ca Tryz.prog 100 #[a0,v2] w3 λv4 w5=>
 rn Tryz.prog (builtin .len #[47] 3 #[false] #[a1]) w5 λv6 w7=>
 LoopW (S:=Value×Value×Unit) (L163_0 v6 a1 a2 K) (v4,(.int .i64 0),()) w7
theorem F163_eq(a0 a1 a2:Value)(w:World)(K:Kont):vcFnJ Tryz.prog Tryz.f163 [a0,a1,a2] w K=F163 a0 a1 a2 w K:=by kernel_rfl
theorem F163_ok:okF Tryz.prog Tryz.f163 3=true:=by kernel_rfl
theorem ca163{a0 a1 a2:Value}{w:World}{K:Kont}(h:F163 a0 a1 a2 w K):Ca Tryz.prog 163 #[a0,a1,a2] w K:=
 ca_of_vcJ Tryz.noNum Tryz.func163 F163_ok (by rw[F163_eq];exact h)
end Go.Proofs
