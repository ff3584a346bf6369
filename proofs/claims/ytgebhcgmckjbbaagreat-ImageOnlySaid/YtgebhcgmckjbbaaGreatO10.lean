/- Part of a proof. -/
import Derived.Test.YtgebhcgmckjbbaaGreatO9
set_option linter.all false
set_option maxRecDepth 100000
namespace Go.Proofs
open Go Go.Vc
def F48(w:World)(K:Kont):Prop:=
 Ca Tryz.prog 133 #[(.bool true)] w λv0 w1=>
 Ca Tryz.prog 133 #[(.bool false)] w1 λv2 w3=>
 rv Tryz.prog (Instr.build 231 #[(0,v0),(1,v2)]) w3 λv4 w5=>
 rv Tryz.prog (Instr.box 231 v4) w5 λv6 w7=>
 K v6 w7
theorem F48_eq(w:World)(K:Kont):vcFnJ Tryz.prog Tryz.f48 [] w K=F48 w K:=by kernel_rfl
theorem F48_ok:okF Tryz.prog Tryz.f48 0=true:=by kernel_rfl
theorem ca48{w:World}{K:Kont}(h:F48 w K):Ca Tryz.prog 48 #[] w K:=
 ca_of_vcJ Tryz.noNum Tryz.func48 F48_ok (by rw[F48_eq];exact h)
def F145(a0:Value)(w:World)(K:Kont):Prop:=
 rv Tryz.prog (bin .neq 109 true a0 (.pointer none)) w λv0 w1=>
 ifB v0
 (nilK a0 λv2=>rv Tryz.prog (Instr.fieldAt 231 v2 0) w1 λv3 w4=>
 rv Tryz.prog (Instr.loadAt 228 v3) w4 λv5 w6=>
 rv Tryz.prog (bin .neq 228 true v5 (.pointer none)) w6 λv7 w8=>
 K v7 w8)
 (K (.bool false) w1)
theorem F145_eq(a0:Value)(w:World)(K:Kont):vcFnJ Tryz.prog Tryz.f145 [a0] w K=F145 a0 w K:=by kernel_rfl
theorem F145_ok:okF Tryz.prog Tryz.f145 1=true:=by kernel_rfl
theorem ca145{a0:Value}{w:World}{K:Kont}(h:F145 a0 w K):Ca Tryz.prog 145 #[a0] w K:=
 ca_of_vcJ Tryz.noNum Tryz.func145 F145_ok (by rw[F145_eq];exact h)
def F225(a0 a1:Value)(w:World)(K:Kont):Prop:=
 ifB a1
 (nilK a0 λv0=>rdP Tryz.prog (Instr.fieldAt 231 v0 0) λv1=>
 rdW Tryz.prog (Instr.loadAt 228 v1) w.drew λv2=>
 nilK a0 λv3=>rdP Tryz.prog (Instr.fieldAt 231 v3 1) λv4=>
 rdW Tryz.prog (Instr.loadAt 228 v4) w.drew λv5=>
 Sem.run Tryz.prog (Instr.loadAt 228 v4) w.drew=.ok v5 w.drew∧
 (K (.tuple #[v2,v5]) w.drew))
 (nilK a0 λv6=>rdP Tryz.prog (Instr.fieldAt 231 v6 1) λv7=>
 rdW Tryz.prog (Instr.loadAt 228 v7) w.drew λv8=>
 nilK a0 λv9=>rdP Tryz.prog (Instr.fieldAt 231 v9 0) λv10=>
 rdW Tryz.prog (Instr.loadAt 228 v10) w.drew λv11=>
 Sem.run Tryz.prog (Instr.loadAt 228 v10) w.drew=.ok v11 w.drew∧
 (K (.tuple #[v8,v11]) w.drew))
theorem F225_eq(a0 a1:Value)(w:World)(K:Kont):vcFnJ Tryz.prog Tryz.f225 [a0,a1] w K=F225 a0 a1 w K:=by kernel_rfl
theorem F225_ok:okF Tryz.prog Tryz.f225 2=true:=by kernel_rfl
theorem ca225{a0 a1:Value}{w:World}{K:Kont}(h:F225 a0 a1 w K):Ca Tryz.prog 225 #[a0,a1] w K:=
 ca_of_vcJ Tryz.noNum Tryz.func225 F225_ok (by rw[F225_eq];exact h)
def L224_0(v10:Value)(v8:Value)(a1:Value)(v0:Value)(K:Kont)(s11:Value×Value×Unit)(w12:World)(K13:Value×Value×Unit→World→Prop):Prop:=
 ∀_:Nat→Value,
 rv Tryz.prog (bin .lss 3 false s11.2.1 v10) w12 λv14 w15=>
 ifB v14
 (rv Tryz.prog (Instr.indexAt 246 v8 s11.2.1) w15 λv16 w17=>
 rv Tryz.prog (Instr.loadAt 228 v16) w17 λv18 w19=>
 Ca Tryz.prog 269 #[v18,a1] w19 λv20 w21=>
 rv Tryz.prog (Instr.extract v20 0) w21 λv22 w23=>
 rv Tryz.prog (Instr.extract v20 1) w23 λv24 w25=>
 rv Tryz.prog (Instr.alloc 117 true (.tuple #[])) w25 λv26 w27=>
 ru Tryz.prog (Instr.storeAt 117 v26 v22) w27 λw28=>
 rv Tryz.prog (bin .eql 26 true v24 (.int .i64 0)) w28 λv29 w30=>
 ifB v29
 (rv Tryz.prog (Instr.loadAt 117 v26) w30 λv31 w32=>
 ru Tryz.prog (Instr.storeAt 117 v0 v31) w32 λw33=>
 rdW Tryz.prog (Instr.loadAt 117 v0) w33 λv34=>
 K (.tuple #[v34,v18]) w33)
 (rv Tryz.prog (bin .add 3 true s11.2.1 (.int .i64 1)) w30 λv35 w36=>
 K13 (s11.1,v35,()) w36))
 (rv Tryz.prog (Instr.build 117 #[]) w15 λv37 w38=>
 ru Tryz.prog (Instr.storeAt 117 v0 v37) w38 λw39=>
 rdW Tryz.prog (Instr.loadAt 117 v0) w39 λv40=>
 K (.tuple #[v40,(.pointer none)]) w39)
def F224(a0 a1:Value)(w:World)(K:Kont):Prop:=
 rv Tryz.prog (Instr.alloc 117 true (.tuple #[])) w λv0 w1=>
 nilK a0 λv2=>rdP Tryz.prog (Instr.fieldAt 231 v2 0) λv3=>
 rdW Tryz.prog (Instr.loadAt 228 v3) w1.drew λv4=>
 nilK a0 λv5=>rdP Tryz.prog (Instr.fieldAt 231 v5 1) λv6=>
 rdW Tryz.prog (Instr.loadAt 228 v6) w1.drew λv7=>
 rx Tryz.prog (xLit 246 2 [(0,v4),(1,v7)]) w1.drew λv8 w9=>
 rdW Tryz.prog (Builtin.len_ #[246] 3 #[v8]) w9 λv10=>
 LoopW (S:=Value×Value×Unit) (L224_0 v10 v8 a1 v0 K) ((.pointer none),(.int .i64 0),()) w9
theorem F224_eq(a0 a1:Value)(w:World)(K:Kont):vcFnJ Tryz.prog Tryz.f224 [a0,a1] w K=F224 a0 a1 w K:=by kernel_rfl
theorem F224_ok:okF Tryz.prog Tryz.f224 2=true:=by kernel_rfl
theorem ca224{a0 a1:Value}{w:World}{K:Kont}(h:F224 a0 a1 w K):Ca Tryz.prog 224 #[a0,a1] w K:=
 ca_of_vcJ Tryz.noNum Tryz.func224 F224_ok (by rw[F224_eq];exact h)
def F272(a0 a1:Value)(w:World)(K:Kont):Prop:=
 rv Tryz.prog (Instr.box 117 a0) w λv0 w1=>
 rv Tryz.prog (Instr.fieldAt 117 v0 2) w1 λv2 w3=>
 rv Tryz.prog (Instr.loadAt 4 v2) w3 λv4 w5=>
 ifB v4
 (rv Tryz.prog (Instr.fieldAt 117 v0 3) w5 λv6 w7=>
 rv Tryz.prog (Instr.loadAt 2 v6) w7 λv8 w9=>
 rv Tryz.prog (bin .leq 2 false a1 v8) w9 λv10 w11=>
 K v10 w11)
 (rv Tryz.prog (Instr.fieldAt 117 v0 3) w5 λv12 w13=>
 rv Tryz.prog (Instr.loadAt 2 v12) w13 λv14 w15=>
 rv Tryz.prog (bin .geq 2 false a1 v14) w15 λv16 w17=>
 K v16 w17)
theorem F272_eq(a0 a1:Value)(w:World)(K:Kont):vcFnJ Tryz.prog Tryz.f272 [a0,a1] w K=F272 a0 a1 w K:=by kernel_rfl
theorem F272_ok:okF Tryz.prog Tryz.f272 2=true:=by kernel_rfl
theorem ca272{a0 a1:Value}{w:World}{K:Kont}(h:F272 a0 a1 w K):Ca Tryz.prog 272 #[a0,a1] w K:=
 ca_of_vcJ Tryz.noNum Tryz.func272 F272_ok (by rw[F272_eq];exact h)
def J135_0(v2:Value)(K:Kont)(v0:Value)(a0:Value)(s68:Value×Unit)(s101:Value×Unit)(w102:World):Prop:=
 ∀_:Nat→Value,
 ifB s101.1
 (rv Tryz.prog (Instr.build 235 #[]) w102 λv114 w115=>
 ru Tryz.prog (Instr.storeAt 235 v2 v114) w115 λw116=>
 rdW Tryz.prog (Instr.loadAt 235 v2) w116 λv117=>
 K (.tuple #[v117,(.int .i64 9)]) w116)
 (rv Tryz.prog (Instr.loadAt 117 v0) w102 λv118 w119=>
 Ca Tryz.prog 228 #[a0,v118,s68.1] w119 λv120 w121=>
 ru Tryz.prog (Instr.storeAt 235 v2 v120) w121 λw122=>
 rdW Tryz.prog (Instr.loadAt 235 v2) w122 λv123=>
 K (.tuple #[v123,(.int .i64 0)]) w122)
def J135_1(v2:Value)(K:Kont)(s68:Value×Unit)(v0:Value)(v66:Value)(v54:Value)(a0:Value)(s90:Value×Unit)(w91:World):Prop:=
 ∀_:Nat→Value,
 ifB s90.1
 (rv Tryz.prog (Instr.build 235 #[]) w91 λv97 w98=>
 ru Tryz.prog (Instr.storeAt 235 v2 v97) w98 λw99=>
 rdW Tryz.prog (Instr.loadAt 235 v2) w99 λv100=>
 K (.tuple #[v100,(.int .i64 71)]) w99)
 (JoinW (S:=Value×Unit) (λJ103=>
 ifB s68.1
 (rv Tryz.prog (Instr.fieldAt 117 v0 4) w91 λv104 w105=>
 rv Tryz.prog (Instr.loadAt 2 v104) w105 λv106 w107=>
 rv Tryz.prog (bin .lss 2 false v66 v106) w107 λv108 w109=>
 ifB v108
 (Ca Tryz.prog 227 #[v54] w109 λv110 w111=>
 rv Tryz.prog (bin .geq 3 true v110 (.int .i64 100)) w111 λv112 w113=>
 J103 (v112,()) w113)
 (J103 ((.bool false),()) w109))
 (J103 ((.bool false),()) w91))
 (J135_0 v2 K v0 a0 s68))
def J135_2(v2:Value)(K:Kont)(a2:Value)(v66:Value)(s68:Value×Unit)(v0:Value)(v54:Value)(a0:Value)(s75:Value×Unit)(w76:World):Prop:=
 ∀_:Nat→Value,
 ifB s75.1
 (rv Tryz.prog (Instr.build 235 #[]) w76 λv86 w87=>
 ru Tryz.prog (Instr.storeAt 235 v2 v86) w87 λw88=>
 rdW Tryz.prog (Instr.loadAt 235 v2) w88 λv89=>
 K (.tuple #[v89,(.int .i64 70)]) w88)
 (JoinW (S:=Value×Unit) (λJ92=>
 rv Tryz.prog (bin .eql 39 true a2 (.int .u8 4)) w76 λv93 w94=>
 ifB v93
 (rv Tryz.prog (bin .gtr 2 true v66 (.int .i64 0)) w94 λv95 w96=>
 J92 (v95,()) w96)
 (J92 ((.bool false),()) w94))
 (J135_1 v2 K s68 v0 v66 v54 a0))
def J135_3(a2:Value)(v0:Value)(v66:Value)(v2:Value)(K:Kont)(v54:Value)(a0:Value)(s68:Value×Unit)(w69:World):Prop:=
 ∀_:Nat→Value,
 JoinW (S:=Value×Unit) (λJ77=>
 rv Tryz.prog (bin .eql 39 true a2 (.int .u8 3)) w69 λv78 w79=>
 ifB v78
 (rv Tryz.prog (Instr.fieldAt 117 v0 4) w79 λv80 w81=>
 rv Tryz.prog (Instr.loadAt 2 v80) w81 λv82 w83=>
 rv Tryz.prog (bin .lss 2 false v66 v82) w83 λv84 w85=>
 J77 (v84,()) w85)
 (J77 ((.bool false),()) w79))
 (J135_2 v2 K a2 v66 s68 v0 v54 a0)
def J135_4(v2:Value)(K:Kont)(v0:Value)(a0:Value)(a2:Value)(s12:Value×Unit)(w13:World):Prop:=
 ∀_:Nat→Value,
 ifB s12.1
 (rv Tryz.prog (Instr.build 235 #[]) w13 λv25 w26=>
 ru Tryz.prog (Instr.storeAt 235 v2 v25) w26 λw27=>
 rdW Tryz.prog (Instr.loadAt 235 v2) w27 λv28=>
 K (.tuple #[v28,(.int .i64 2)]) w27)
 (rv Tryz.prog (Instr.fieldAt 117 v0 0) w13 λv29 w30=>
 rv Tryz.prog (Instr.loadAt 27 v29) w30 λv31 w32=>
 Ca Tryz.prog 224 #[a0,v31] w32 λv33 w34=>
 rv Tryz.prog (Instr.extract v33 0) w34 λv35 w36=>
 rv Tryz.prog (Instr.extract v33 1) w36 λv37 w38=>
 rv Tryz.prog (Instr.alloc 117 true (.tuple #[])) w38 λv39 w40=>
 ru Tryz.prog (Instr.storeAt 117 v39 v35) w40 λw41=>
 rv Tryz.prog (bin .neq 228 true v37 (.pointer none)) w41 λv42 w43=>
 ifB v42
 (rv Tryz.prog (Instr.build 235 #[]) w43 λv44 w45=>
 ru Tryz.prog (Instr.storeAt 235 v2 v44) w45 λw46=>
 rdW Tryz.prog (Instr.loadAt 235 v2) w46 λv47=>
 K (.tuple #[v47,(.int .i64 8)]) w46)
 (rv Tryz.prog (Instr.fieldAt 117 v0 2) w43 λv48 w49=>
 rv Tryz.prog (Instr.loadAt 4 v48) w49 λv50 w51=>
 Ca Tryz.prog 225 #[a0,v50] w51 λv52 w53=>
 rv Tryz.prog (Instr.extract v52 0) w53 λv54 w55=>
 rv Tryz.prog (Instr.extract v52 1) w55 λv56 w57=>
 rv Tryz.prog (Instr.fieldAt 117 v0 3) w57 λv58 w59=>
 rv Tryz.prog (Instr.loadAt 2 v58) w59 λv60 w61=>
 rv Tryz.prog (Instr.fieldAt 117 v0 1) w61 λv62 w63=>
 rv Tryz.prog (Instr.loadAt 35 v62) w63 λv64 w65=>
 Ca Tryz.prog 226 #[v56,v60,v64] w65 λv66 w67=>
 JoinW (S:=Value×Unit) (λJ70=>
 rv Tryz.prog (bin .eql 39 true a2 (.int .u8 1)) w67 λv71 w72=>
 ifB v71
 (J70 ((.bool true),()) w72)
 (rv Tryz.prog (bin .eql 39 true a2 (.int .u8 4)) w72 λv73 w74=>
 J70 (v73,()) w74))
 (J135_3 a2 v0 v66 v2 K v54 a0)))
def F135(a0 a1 a2:Value)(w:World)(K:Kont):Prop:=
 rv Tryz.prog (Instr.box 117 a1) w λv0 w1=>
 rv Tryz.prog (Instr.alloc 235 true (.tuple #[])) w1 λv2 w3=>
 Ca Tryz.prog 145 #[a0] w3 λv4 w5=>
 rv Tryz.prog (Op.unary .not v4) w5 λv6 w7=>
 ifB v6
 (rv Tryz.prog (Instr.build 235 #[]) w7 λv8 w9=>
 ru Tryz.prog (Instr.storeAt 235 v2 v8) w9 λw10=>
 rdW Tryz.prog (Instr.loadAt 235 v2) w10 λv11=>
 K (.tuple #[v11,(.int .i64 1)]) w10)
 (JoinW (S:=Value×Unit) (λJ14=>
 rv Tryz.prog (Instr.loadAt 117 v0) w7 λv15 w16=>
 Ca Tryz.prog 222 #[v15] w16 λv17 w18=>
 rv Tryz.prog (Op.unary .not v17) w18 λv19 w20=>
 ifB v19
 (J14 ((.bool true),()) w20)
 (rv Tryz.prog (bin .lss 39 true a2 (.int .u8 1)) w20 λv21 w22=>
 ifB v21
 (J14 ((.bool true),()) w22)
 (rv Tryz.prog (bin .gtr 39 true a2 (.int .u8 4)) w22 λv23 w24=>
 J14 (v23,()) w24)))
 (J135_4 v2 K v0 a0 a2))
theorem F135_eq(a0 a1 a2:Value)(w:World)(K:Kont):vcFnJ Tryz.prog Tryz.f135 [a0,a1,a2] w K=F135 a0 a1 a2 w K:=by kernel_rfl
theorem F135_ok:okF Tryz.prog Tryz.f135 3=true:=by kernel_rfl
theorem ca135{a0 a1 a2:Value}{w:World}{K:Kont}(h:F135 a0 a1 a2 w K):Ca Tryz.prog 135 #[a0,a1,a2] w K:=
 ca_of_vcJ Tryz.noNum Tryz.func135 F135_ok (by rw[F135_eq];exact h)
def J228_0(J16:Unit→World→Prop)(v32:Value)(v0:Value)(v12:Value)(v2:Value)(K19:Unit→World→Prop)(s35:Value×Unit)(w36:World):Prop:=
 ∀_:Nat→Value,
 ifB s35.1
 (J16 (()) w36)
 (rv Tryz.prog (Instr.fieldAt 117 v32 1) w36 λv50 w51=>
 rv Tryz.prog (Instr.loadAt 35 v50) w51 λv52 w53=>
 rv Tryz.prog (Instr.fieldAt 117 v0 1) w53 λv54 w55=>
 rv Tryz.prog (Instr.loadAt 35 v54) w55 λv56 w57=>
 rv Tryz.prog (bin .eql 35 false v52 v56) w57 λv58 w59=>
 ifB v58
 (rv Tryz.prog (Instr.fieldAt 117 v32 0) w59 λv60 w61=>
 rv Tryz.prog (Instr.loadAt 27 v60) w61 λv62 w63=>
 Ca Tryz.prog 259 #[v12,v62] w63 λv64 w65=>
 rv Tryz.prog (Instr.fieldAt 235 v2 1) w65 λv66 w67=>
 rv Tryz.prog (Instr.loadAt 29 v66) w67 λv68 w69=>
 rv Tryz.prog (Instr.fieldAt 117 v32 0) w69 λv70 w71=>
 rv Tryz.prog (Instr.loadAt 27 v70) w71 λv72 w73=>
 rx Tryz.prog (xLit 29 1 [(0,v72)]) w73 λv74 w75=>
 rx Tryz.prog (xAppend #[29,29] 29 [v68,v74]) w75 λv76 w77=>
 rv Tryz.prog (Instr.fieldAt 235 v2 1) w77 λv78 w79=>
 ru Tryz.prog (Instr.storeAt 29 v78 v76) w79 λw80=>
 K19 (()) w80)
 (rv Tryz.prog (Instr.fieldAt 117 v0 4) w59 λv81 w82=>
 rv Tryz.prog (Instr.loadAt 2 v81) w82 λv83 w84=>
 rv Tryz.prog (Instr.fieldAt 117 v32 4) w84 λv85 w86=>
 rv Tryz.prog (Instr.loadAt 2 v85) w86 λv87 w88=>
 rn Tryz.prog (builtin .min #[2,2] 2 #[false,false] #[v83,v87]) w88 λv89 w90=>
 Ca Tryz.prog 273 #[v12,v89] w90 λv91 w92=>
 rv Tryz.prog (Instr.fieldAt 117 v0 4) w92 λv93 w94=>
 rv Tryz.prog (Instr.loadAt 2 v93) w94 λv95 w96=>
 rv Tryz.prog (bin .sub 2 false v95 v89) w96 λv97 w98=>
 rv Tryz.prog (Instr.fieldAt 117 v0 4) w98 λv99 w100=>
 ru Tryz.prog (Instr.storeAt 2 v99 v97) w100 λw101=>
 rv Tryz.prog (Instr.fieldAt 235 v2 2) w101 λv102 w103=>
 rv Tryz.prog (Instr.loadAt 2 v102) w103 λv104 w105=>
 rv Tryz.prog (bin .add 2 false v104 v89) w105 λv106 w107=>
 rv Tryz.prog (Instr.fieldAt 235 v2 2) w107 λv108 w109=>
 ru Tryz.prog (Instr.storeAt 2 v108 v106) w109 λw110=>
 rv Tryz.prog (Instr.fieldAt 235 v2 0) w110 λv111 w112=>
 rv Tryz.prog (Instr.loadAt 28 v111) w112 λv113 w114=>
 rv Tryz.prog (Instr.fieldAt 117 v32 3) w114 λv115 w116=>
 rv Tryz.prog (Instr.loadAt 2 v115) w116 λv117 w118=>
 rv Tryz.prog (Instr.fieldAt 117 v32 0) w118 λv119 w120=>
 rv Tryz.prog (Instr.loadAt 27 v119) w120 λv121 w122=>
 rv Tryz.prog (Instr.fieldAt 117 v32 1) w122 λv123 w124=>
 rv Tryz.prog (Instr.loadAt 35 v123) w124 λv125 w126=>
 rv Tryz.prog (Instr.build 135 #[(0,v117),(1,v89),(2,v121),(3,v125)]) w126 λv127 w128=>
 rx Tryz.prog (xLit 28 1 [(0,v127)]) w128 λv129 w130=>
 rx Tryz.prog (xAppend #[28,28] 28 [v113,v129]) w130 λv131 w132=>
 rv Tryz.prog (Instr.fieldAt 235 v2 0) w132 λv133 w134=>
 ru Tryz.prog (Instr.storeAt 28 v133 v131) w134 λw135=>
 K19 (()) w135))
def L228_1(v0:Value)(v12:Value)(J16:Unit→World→Prop)(v2:Value)(s17:Unit)(w18:World)(K19:Unit→World→Prop):Prop:=
 ∀_:Nat→Value,
 rv Tryz.prog (Instr.fieldAt 117 v0 4) w18 λv20 w21=>
 rv Tryz.prog (Instr.loadAt 2 v20) w21 λv22 w23=>
 rv Tryz.prog (bin .gtr 2 true v22 (.int .i64 0)) w23 λv24 w25=>
 ifB v24
 (Ca Tryz.prog 271 #[v12] w25 λv26 w27=>
 rv Tryz.prog (Instr.extract v26 0) w27 λv28 w29=>
 rv Tryz.prog (Instr.extract v26 1) w29 λv30 w31=>
 rv Tryz.prog (Instr.alloc 117 true (.tuple #[])) w31 λv32 w33=>
 ru Tryz.prog (Instr.storeAt 117 v32 v28) w33 λw34=>
 JoinW (S:=Value×Unit) (λJ37=>
 rv Tryz.prog (Op.unary .not v30) w34 λv38 w39=>
 ifB v38
 (J37 ((.bool true),()) w39)
 (rv Tryz.prog (Instr.loadAt 117 v0) w39 λv40 w41=>
 rv Tryz.prog (Instr.fieldAt 117 v32 3) w41 λv42 w43=>
 rv Tryz.prog (Instr.loadAt 2 v42) w43 λv44 w45=>
 Ca Tryz.prog 272 #[v40,v44] w45 λv46 w47=>
 rv Tryz.prog (Op.unary .not v46) w47 λv48 w49=>
 J37 (v48,()) w49))
 (J228_0 J16 v32 v0 v12 v2 K19))
 (J16 (()) w25)
def J228_2(v0:Value)(v10:Value)(v2:Value)(K:Kont)(s136:Value×Unit)(w137:World):Prop:=
 ∀_:Nat→Value,
 ifB s136.1
 (rv Tryz.prog (Instr.loadAt 117 v0) w137 λv145 w146=>
 Ca Tryz.prog 274 #[v10,v145] w146 λv147 w148=>
 rv Tryz.prog (Instr.fieldAt 117 v0 4) w148 λv149 w150=>
 rv Tryz.prog (Instr.loadAt 2 v149) w150 λv151 w152=>
 rv Tryz.prog (Instr.fieldAt 235 v2 3) w152 λv153 w154=>
 ru Tryz.prog (Instr.storeAt 2 v153 v151) w154 λw155=>
 rv Tryz.prog (Instr.loadAt 235 v2) w155 λv156 w157=>
 ru Tryz.prog (Instr.storeAt 235 v2 v156) w157 λw158=>
 rdW Tryz.prog (Instr.loadAt 235 v2) w158 λv159=>
 K v159 w158)
 (rv Tryz.prog (Instr.loadAt 235 v2) w137 λv160 w161=>
 ru Tryz.prog (Instr.storeAt 235 v2 v160) w161 λw162=>
 rdW Tryz.prog (Instr.loadAt 235 v2) w162 λv163=>
 K v163 w162)
def J228_3(a2:Value)(v0:Value)(v10:Value)(v2:Value)(K:Kont)(s14:Unit)(w15:World):Prop:=
 ∀_:Nat→Value,
 JoinW (S:=Value×Unit) (λJ138=>
 ifB a2
 (rv Tryz.prog (Instr.fieldAt 117 v0 4) w15 λv139 w140=>
 rv Tryz.prog (Instr.loadAt 2 v139) w140 λv141 w142=>
 rv Tryz.prog (bin .gtr 2 true v141 (.int .i64 0)) w142 λv143 w144=>
 J138 (v143,()) w144)
 (J138 ((.bool false),()) w15))
 (J228_2 v0 v10 v2 K)
def F228(a0 a1 a2:Value)(w:World)(K:Kont):Prop:=
 rv Tryz.prog (Instr.box 117 a1) w λv0 w1=>
 rv Tryz.prog (Instr.alloc 235 true (.tuple #[])) w1 λv2 w3=>
 rv Tryz.prog (Instr.fieldAt 117 v0 2) w3 λv4 w5=>
 rv Tryz.prog (Instr.loadAt 4 v4) w5 λv6 w7=>
 Ca Tryz.prog 225 #[a0,v6] w7 λv8 w9=>
 rv Tryz.prog (Instr.extract v8 0) w9 λv10 w11=>
 rv Tryz.prog (Instr.extract v8 1) w11 λv12 w13=>
 JoinW (S:=Unit) (λJ16=>
 LoopW (S:=Unit) (L228_1 v0 v12 J16 v2) (()) w13)
 (J228_3 a2 v0 v10 v2 K)
theorem F228_eq(a0 a1 a2:Value)(w:World)(K:Kont):vcFnJ Tryz.prog Tryz.f228 [a0,a1,a2] w K=F228 a0 a1 a2 w K:=by kernel_rfl
theorem F228_ok:okF Tryz.prog Tryz.f228 3=true:=by kernel_rfl
theorem ca228{a0 a1 a2:Value}{w:World}{K:Kont}(h:F228 a0 a1 a2 w K):Ca Tryz.prog 228 #[a0,a1,a2] w K:=
 ca_of_vcJ Tryz.noNum Tryz.func228 F228_ok (by rw[F228_eq];exact h)
def F57(a0:Value)(w:World)(K:Kont):Prop:=
 rv Tryz.prog (Instr.box 109 a0) w λv0 w1=>
 K (.func (.func 144) #[] #[v0]) w1
theorem F57_eq(a0:Value)(w:World)(K:Kont):vcFnJ Tryz.prog Tryz.f57 [a0] w K=F57 a0 w K:=by kernel_rfl
theorem F57_ok:okF Tryz.prog Tryz.f57 1=true:=by kernel_rfl
theorem ca57{a0:Value}{w:World}{K:Kont}(h:F57 a0 w K):Ca Tryz.prog 57 #[a0] w K:=
 ca_of_vcJ Tryz.noNum Tryz.func57 F57_ok (by rw[F57_eq];exact h)
def R144_0(v0:Value)(l32:Nat)(x33:List Value)(w34:World)(KN35:World→Prop)(KJ36:Code→World→Prop):Prop:=
 rv Tryz.prog (Instr.alloc 117 true (.tuple #[])) w34 λv37 w38=>
 ru Tryz.prog (Instr.storeAt 117 v37 (x33.getD 0 undef)) w38 λw39=>
 beginK l32 w39 λw40=>
 rv Tryz.prog (Instr.loadAt 245 v0) w40 λv41 w42=>
 rv Tryz.prog (Instr.loadAt 117 v37) w42 λv43 w44=>
 callV Tryz.prog v41 [v43] w44 λv45 w46=>
 rv Tryz.prog (Op.unary .not v45) w46 λv47 w48=>
 ifB v47
 (KJ36 .ret w48)
 (KN35 w48)
def A144_1(s21:(Value×Unit)×List Nat)(K23:(Value×Unit)×List Nat→World→Prop)(K:Kont)(mk49:List Nat)(pd50:Option Code)(w51:World):Prop:=
 afterK
 (λw52=>
 rv Tryz.prog (bin .add 3 true s21.1.1 (.int .i64 1)) w52 λv53 w54=>
 K23 ((v53,()),(mk49++s21.2)) w54)
 (λw55=>
 retD (mk49++s21.2) w55 λw56=>
 K (.tuple #[]) w56)
 (λi58 w57=>
 bc (Nat.beq i58 2)
 (rv Tryz.prog (bin .add 3 true s21.1.1 (.int .i64 1)) w57 λv59 w60=>
 K23 ((v59,()),(mk49++s21.2)) w60)
 (bc (Nat.beq i58 1)
 (rv Tryz.prog (bin .add 3 true s21.1.1 (.int .i64 1)) w57 λv61 w62=>
 K23 ((v61,()),(mk49++s21.2)) w62)
 (bc (Nat.beq i58 0)
 (retD (mk49++s21.2) w57 λw63=>
 K (.tuple #[]) w63)
 (False)))) pd50 w51
def L144_2(v20:Value)(v18:Value)(v0:Value)(K:Kont)(s21:(Value×Unit)×List Nat)(w22:World)(K23:(Value×Unit)×List Nat→World→Prop):Prop:=
 ∀_:Nat→Value,
 rv Tryz.prog (bin .lss 3 false s21.1.1 v20) w22 λv24 w25=>
 ifB v24
 (rv Tryz.prog (Instr.indexAt 246 v18 s21.1.1) w25 λv26 w27=>
 rv Tryz.prog (Instr.loadAt 228 v26) w27 λv28 w29=>
 Ca Tryz.prog 146 #[v28] w29 λv30 w31=>
 RFW Tryz.prog none v30 w31 1 (R144_0 v0) (A144_1 s21 K23 K))
 (retD s21.2 w25 λw64=>
 K (.tuple #[]) w64)
def F144(a0 a1:Value)(w:World)(K:Kont):Prop:=
 rv Tryz.prog (Instr.box 245 a0) w λv0 w1=>
 rv Tryz.prog (Instr.loadAt 109 a1) w1 λv2 w3=>
 Ca Tryz.prog 145 #[v2] w3 λv4 w5=>
 rv Tryz.prog (Op.unary .not v4) w5 λv6 w7=>
 ifB v6
 (K (.tuple #[]) w7)
 (rv Tryz.prog (Instr.loadAt 109 a1) w7 λv8 w9=>
 Ca Tryz.prog 110 #[v8] w9 λv10 w11=>
 nilK v10 λv12=>rdP Tryz.prog (Instr.fieldAt 231 v12 0) λv13=>
 rdW Tryz.prog (Instr.loadAt 228 v13) w11.drew λv14=>
 nilK v10 λv15=>rdP Tryz.prog (Instr.fieldAt 231 v15 1) λv16=>
 rdW Tryz.prog (Instr.loadAt 228 v16) w11.drew λv17=>
 rx Tryz.prog (xLit 246 2 [(0,v14),(1,v17)]) w11.drew λv18 w19=>
 rdW Tryz.prog (Builtin.len_ #[246] 3 #[v18]) w19 λv20=>
 LoopW (S:=(Value×Unit)×List Nat) (L144_2 v20 v18 v0 K) (((.int .i64 0),()),[]) w19)
theorem F144_eq(a0 a1:Value)(w:World)(K:Kont):vcFnJ Tryz.prog Tryz.f144 [a0,a1] w K=F144 a0 a1 w K:=by kernel_rfl
theorem F144_ok:okF Tryz.prog Tryz.f144 2=true:=by kernel_rfl
theorem ca144{a0 a1:Value}{w:World}{K:Kont}(h:F144 a0 a1 w K):Ca Tryz.prog 144 #[a0,a1] w K:=
 ca_of_vcJ Tryz.noNum Tryz.func144 F144_ok (by rw[F144_eq];exact h)
def F110(a0:Value)(w:World)(K:Kont):Prop:=
 Ca Tryz.prog 145 #[a0] w λv0 w1=>
 rv Tryz.prog (Op.unary .not v0) w1 λv2 w3=>
 ifB v2
 (K (.pointer none) w3)
 (nilK a0 λv4=>rdP Tryz.prog (Instr.fieldAt 231 v4 0) λv5=>
 rdW Tryz.prog (Instr.loadAt 228 v5) w3.drew λv6=>
 nilK a0 λv7=>rdP Tryz.prog (Instr.fieldAt 231 v7 1) λv8=>
 rdW Tryz.prog (Instr.loadAt 228 v8) w3.drew λv9=>
 Ca Tryz.prog 193 #[v6] w3.drew λv10 w11=>
 Sem.run Tryz.prog (Instr.loadAt 228 v8) w11=.ok v9 w11∧
 (Ca Tryz.prog 193 #[v9] w11 λv12 w13=>
 rdP Tryz.prog (Instr.build 231 #[(0,v10),(1,v12)]) λv14=>
 rv Tryz.prog (Instr.box 231 v14) w13 λv15 w16=>
 K v15 w16))
theorem F110_eq(a0:Value)(w:World)(K:Kont):vcFnJ Tryz.prog Tryz.f110 [a0] w K=F110 a0 w K:=by kernel_rfl
theorem F110_ok:okF Tryz.prog Tryz.f110 1=true:=by kernel_rfl
theorem ca110{a0:Value}{w:World}{K:Kont}(h:F110 a0 w K):Ca Tryz.prog 110 #[a0] w K:=
 ca_of_vcJ Tryz.noNum Tryz.func110 F110_ok (by rw[F110_eq];exact h)
def F35(w:World)(K:Kont):Prop:=
 rv Tryz.prog (Instr.build 197 #[(0,(.bool true))]) w λv0 w1=>
 rv Tryz.prog (Instr.box 197 v0) w1 λv2 w3=>
 K v2 w3
theorem F35_eq(w:World)(K:Kont):vcFnJ Tryz.prog Tryz.f35 [] w K=F35 w K:=by kernel_rfl
theorem F35_ok:okF Tryz.prog Tryz.f35 0=true:=by kernel_rfl
theorem ca35{w:World}{K:Kont}(h:F35 w K):Ca Tryz.prog 35 #[] w K:=
 ca_of_vcJ Tryz.noNum Tryz.func35 F35_ok (by rw[F35_eq];exact h)
def F132(a0:Value)(w:World)(K:Kont):Prop:=
 rv Tryz.prog (bin .neq 61 true a0 (.pointer none)) w λv0 w1=>
 ifB v0
 (nilK a0 λv2=>rv Tryz.prog (Instr.fieldAt 197 v2 0) w1 λv3 w4=>
 rv Tryz.prog (Instr.loadAt 4 v3) w4 λv5 w6=>
 K v5 w6)
 (K (.bool false) w1)
theorem F132_eq(a0:Value)(w:World)(K:Kont):vcFnJ Tryz.prog Tryz.f132 [a0] w K=F132 a0 w K:=by kernel_rfl
theorem F132_ok:okF Tryz.prog Tryz.f132 1=true:=by kernel_rfl
theorem ca132{a0:Value}{w:World}{K:Kont}(h:F132 a0 w K):Ca Tryz.prog 132 #[a0] w K:=
 ca_of_vcJ Tryz.noNum Tryz.func132 F132_ok (by rw[F132_eq];exact h)
def F198(a0 a1:Value)(w:World)(K:Kont):Prop:=
 nilK a0 λv0=>rv Tryz.prog (Instr.fieldAt 197 v0 2) w λv1 w2=>
 rv Tryz.prog (Instr.loadAt 45 v1) w2 λv3 w4=>
 Ca Tryz.prog 249 #[v3,a1,(.func (.func 250) #[] #[])] w4 λv5 w6=>
 rv Tryz.prog (Instr.extract v5 0) w6 λv7 w8=>
 rv Tryz.prog (Instr.extract v5 1) w8 λv9 w10=>
 K (.tuple #[v7,v9]) w10
theorem F198_eq(a0 a1:Value)(w:World)(K:Kont):vcFnJ Tryz.prog Tryz.f198 [a0,a1] w K=F198 a0 a1 w K:=by kernel_rfl
theorem F198_ok:okF Tryz.prog Tryz.f198 2=true:=by kernel_rfl
theorem ca198{a0 a1:Value}{w:World}{K:Kont}(h:F198 a0 a1 w K):Ca Tryz.prog 198 #[a0,a1] w K:=
 ca_of_vcJ Tryz.noNum Tryz.func198 F198_ok (by rw[F198_eq];exact h)
def F250(a0 a1:Value)(w:World)(K:Kont):Prop:=
 rv Tryz.prog (Instr.box 108 a0) w λv0 w1=>
 rv Tryz.prog (Instr.fieldAt 108 v0 0) w1 λv2 w3=>
 rv Tryz.prog (Instr.fieldAt 38 v2 0) w3 λv4 w5=>
 rv Tryz.prog (Instr.loadAt 35 v4) w5 λv6 w7=>
 rv Tryz.prog (bin .lss 35 false v6 a1) w7 λv8 w9=>
 ifB v8
 (K (.int .i64 (-1)) w9)
 (rv Tryz.prog (Instr.fieldAt 108 v0 0) w9 λv10 w11=>
 rv Tryz.prog (Instr.fieldAt 38 v10 0) w11 λv12 w13=>
 rv Tryz.prog (Instr.loadAt 35 v12) w13 λv14 w15=>
 rv Tryz.prog (bin .gtr 35 false v14 a1) w15 λv16 w17=>
 ifB v16
 (K (.int .i64 1) w17)
 (K (.int .i64 0) w17))
theorem F250_eq(a0 a1:Value)(w:World)(K:Kont):vcFnJ Tryz.prog Tryz.f250 [a0,a1] w K=F250 a0 a1 w K:=by kernel_rfl
theorem F250_ok:okF Tryz.prog Tryz.f250 2=true:=by kernel_rfl
theorem ca250{a0 a1:Value}{w:World}{K:Kont}(h:F250 a0 a1 w K):Ca Tryz.prog 250 #[a0,a1] w K:=
 ca_of_vcJ Tryz.noNum Tryz.func250 F250_ok (by rw[F250_eq];exact h)
def F53(a0:Value)(w:World)(K:Kont):Prop:=
 Ca Tryz.prog 132 #[a0] w λv0 w1=>
 rv Tryz.prog (Op.unary .not v0) w1 λv2 w3=>
 ifB v2
 (K (.int .u32 0) w3)
 (nilK a0 λv4=>rv Tryz.prog (Instr.fieldAt 197 v4 1) w3 λv5 w6=>
 rv Tryz.prog (Instr.loadAt 35 v5) w6 λv7 w8=>
 K v7 w8)
theorem F53_eq(a0:Value)(w:World)(K:Kont):vcFnJ Tryz.prog Tryz.f53 [a0] w K=F53 a0 w K:=by kernel_rfl
theorem F53_ok:okF Tryz.prog Tryz.f53 1=true:=by kernel_rfl
theorem ca53{a0:Value}{w:World}{K:Kont}(h:F53 a0 w K):Ca Tryz.prog 53 #[a0] w K:=
 ca_of_vcJ Tryz.noNum Tryz.func53 F53_ok (by rw[F53_eq];exact h)
def F123(a0 a1:Value)(w:World)(K:Kont):Prop:=
 rx Tryz.prog (bigA 108) w λv0 w1=>
 Ca Tryz.prog 132 #[a0] w1 λv2 w3=>
 rv Tryz.prog (Op.unary .not v2) w3 λv4 w5=>
 ifB v4
 (rx Tryz.prog (bigB 108 #[]) w5 λv6 w7=>
 rux Tryz.prog (bigU 108 v0 v6) w7 λw8=>
 rdX Tryz.prog (bigS 108 v0) w8 λv9=>
 K (.tuple #[v9,(.int .i64 1)]) w8)
 (Ca Tryz.prog 198 #[a0,a1] w5 λv10 w11=>
 rv Tryz.prog (Instr.extract v10 0) w11 λv12 w13=>
 rv Tryz.prog (Instr.extract v10 1) w13 λv14 w15=>
 rv Tryz.prog (Op.unary .not v14) w15 λv16 w17=>
 ifB v16
 (rx Tryz.prog (bigB 108 #[]) w17 λv18 w19=>
 rux Tryz.prog (bigU 108 v0 v18) w19 λw20=>
 rdX Tryz.prog (bigS 108 v0) w20 λv21=>
 K (.tuple #[v21,(.int .i64 7)]) w20)
 (nilK a0 λv22=>rv Tryz.prog (Instr.fieldAt 197 v22 2) w17 λv23 w24=>
 rv Tryz.prog (Instr.loadAt 45 v23) w24 λv25 w26=>
 rv Tryz.prog (Instr.indexAt 45 v25 v12) w26 λv27 w28=>
 rx Tryz.prog (bigS 108 v27) w28 λv29 w30=>
 rux Tryz.prog (bigU 108 v0 v29) w30 λw31=>
 rdX Tryz.prog (bigS 108 v0) w31 λv32=>
 K (.tuple #[v32,(.int .i64 0)]) w31))
theorem F123_eq(a0 a1:Value)(w:World)(K:Kont):vcFnJ Tryz.prog Tryz.f123 [a0,a1] w K=F123 a0 a1 w K:=by kernel_rfl
theorem F123_ok:okF Tryz.prog Tryz.f123 2=true:=by kernel_rfl
theorem ca123{a0 a1:Value}{w:World}{K:Kont}(h:F123 a0 a1 w K):Ca Tryz.prog 123 #[a0,a1] w K:=
 ca_of_vcJ Tryz.noNum Tryz.func123 F123_ok (by rw[F123_eq];exact h)
def F47(a0:Value)(w:World)(K:Kont):Prop:=
 rv Tryz.prog (Instr.box 61 a0) w λv0 w1=>
 K (.func (.func 131) #[] #[v0]) w1
theorem F47_eq(a0:Value)(w:World)(K:Kont):vcFnJ Tryz.prog Tryz.f47 [a0] w K=F47 a0 w K:=by kernel_rfl
theorem F47_ok:okF Tryz.prog Tryz.f47 1=true:=by kernel_rfl
theorem ca47{a0:Value}{w:World}{K:Kont}(h:F47 a0 w K):Ca Tryz.prog 47 #[a0] w K:=
 ca_of_vcJ Tryz.noNum Tryz.func47 F47_ok (by rw[F47_eq];exact h)
def L131_0(v15:Value)(v13:Value)(a0:Value)(K:Kont)(s17:Value×Unit)(w18:World)(K19:Value×Unit→World→Prop):Prop:=
 ∀_:Nat→Value,
 rv Tryz.prog (bin .lss 3 false s17.1 v15) w18 λv20 w21=>
 ifB v20
 (rv Tryz.prog (Instr.indexAt 45 v13 s17.1) w21 λv22 w23=>
 rx Tryz.prog (bigS 108 v22) w23 λv24 w25=>
 rx Tryz.prog (bigA 108) w25 λv26 w27=>
 rux Tryz.prog (bigU 108 v26 v24) w27 λw28=>
 rx Tryz.prog (bigS 108 v26) w28 λv29 w30=>
 callV Tryz.prog a0 [v29] w30 λv31 w32=>
 rv Tryz.prog (Op.unary .not v31) w32 λv33 w34=>
 ifB v33
 (K (.tuple #[]) w34)
 (rv Tryz.prog (bin .add 3 true s17.1 (.int .i64 1)) w34 λv35 w36=>
 K19 (v35,()) w36))
 (K (.tuple #[]) w21)
def F131(a0 a1:Value)(w:World)(K:Kont):Prop:=
 rv Tryz.prog (Instr.loadAt 61 a1) w λv0 w1=>
 Ca Tryz.prog 132 #[v0] w1 λv2 w3=>
 rv Tryz.prog (Op.unary .not v2) w3 λv4 w5=>
 ifB v4
 (K (.tuple #[]) w5)
 (rv Tryz.prog (Instr.loadAt 61 a1) w5 λv6 w7=>
 nilK v6 λv8=>rv Tryz.prog (Instr.fieldAt 197 v8 2) w7 λv9 w10=>
 rv Tryz.prog (Instr.loadAt 45 v9) w10 λv11 w12=>
 Ca Tryz.prog 128 #[v11] w12 λv13 w14=>
 rn Tryz.prog (builtin .len #[45] 3 #[false] #[v13]) w14 λv15 w16=>
 LoopW (S:=Value×Unit) (L131_0 v15 v13 a0 K) ((.int .i64 0),()) w16)
theorem F131_eq(a0 a1:Value)(w:World)(K:Kont):vcFnJ Tryz.prog Tryz.f131 [a0,a1] w K=F131 a0 a1 w K:=by kernel_rfl
theorem F131_ok:okF Tryz.prog Tryz.f131 2=true:=by kernel_rfl
theorem ca131{a0 a1:Value}{w:World}{K:Kont}(h:F131 a0 a1 w K):Ca Tryz.prog 131 #[a0,a1] w K:=
 ca_of_vcJ Tryz.noNum Tryz.func131 F131_ok (by rw[F131_eq];exact h)
def F108(a0:Value)(w:World)(K:Kont):Prop:=
 Ca Tryz.prog 132 #[a0] w λv0 w1=>
 rv Tryz.prog (Op.unary .not v0) w1 λv2 w3=>
 ifB v2
 (K (.pointer none) w3)
 (nilK a0 λv4=>rv Tryz.prog (Instr.loadAt 197 v4) w3 λv5 w6=>
 rv Tryz.prog (Instr.alloc 197 true (.tuple #[])) w6 λv7 w8=>
 ru Tryz.prog (Instr.storeAt 197 v7 v5) w8 λw9=>
 nilK a0 λv10=>rv Tryz.prog (Instr.fieldAt 197 v10 2) w9 λv11 w12=>
 rv Tryz.prog (Instr.loadAt 45 v11) w12 λv13 w14=>
 Ca Tryz.prog 128 #[v13] w14 λv15 w16=>
 rv Tryz.prog (Instr.fieldAt 197 v7 2) w16 λv17 w18=>
 ru Tryz.prog (Instr.storeAt 45 v17 v15) w18 λw19=>
 K v7 w19)
theorem F108_eq(a0:Value)(w:World)(K:Kont):vcFnJ Tryz.prog Tryz.f108 [a0] w K=F108 a0 w K:=by kernel_rfl
theorem F108_ok:okF Tryz.prog Tryz.f108 1=true:=by kernel_rfl
theorem ca108{a0:Value}{w:World}{K:Kont}(h:F108 a0 w K):Ca Tryz.prog 108 #[a0] w K:=
 ca_of_vcJ Tryz.noNum Tryz.func108 F108_ok (by rw[F108_eq];exact h)
def F128(a0:Value)(w:World)(K:Kont):Prop:=
 rv Tryz.prog (bin .eql 45 true a0 (.slice none 0 0)) w λv0 w1=>
 ifB v0
 (K (.slice none 0 0) w1)
 (rx Tryz.prog (xLit 45 0 []) w1 λv2 w3=>
 rx Tryz.prog (xAppend #[45,45] 45 [v2,a0]) w3 λv4 w5=>
 K v4 w5)
theorem F128_eq(a0:Value)(w:World)(K:Kont):vcFnJ Tryz.prog Tryz.f128 [a0] w K=F128 a0 w K:=by kernel_rfl
theorem F128_ok:okF Tryz.prog Tryz.f128 1=true:=by kernel_rfl
theorem ca128{a0:Value}{w:World}{K:Kont}(h:F128 a0 w K):Ca Tryz.prog 128 #[a0] w K:=
 ca_of_vcJ Tryz.noNum Tryz.func128 F128_ok (by rw[F128_eq];exact h)
def L249_0(a0:Value)(a2:Value)(a1:Value)(v0:Value)(K:Kont)(s2:Value×Value×Unit)(w3:World)(K4:Value×Value×Unit→World→Prop):Prop:=
 ∀_:Nat→Value,
 rv Tryz.prog (bin .lss 3 false s2.1 s2.2.1) w3 λv5 w6=>
 ifB v5
 (rv Tryz.prog (bin .add 3 false s2.1 s2.2.1) w6 λv7 w8=>
 rv Tryz.prog (convert 3 249 v7) w8 λv9 w10=>
 rv Tryz.prog (bin .shr 249 true v9 (.int .u64 1)) w10 λv11 w12=>
 rv Tryz.prog (convert 249 3 v11) w12 λv13 w14=>
 rv Tryz.prog (Instr.indexAt 45 a0 v13) w14 λv15 w16=>
 rx Tryz.prog (bigS 108 v15) w16 λv17 w18=>
 callV Tryz.prog a2 [v17,a1] w18 λv19 w20=>
 rv Tryz.prog (bin .lss 3 true v19 (.int .i64 0)) w20 λv21 w22=>
 ifB v21
 (rv Tryz.prog (bin .add 3 true v13 (.int .i64 1)) w22 λv23 w24=>
 K4 (v23,s2.2.1,()) w24)
 (K4 (s2.1,v13,()) w22))
 (rv Tryz.prog (bin .lss 3 false s2.1 v0) w6 λv25 w26=>
 ifB v25
 (rv Tryz.prog (Instr.indexAt 45 a0 s2.1) w26 λv27 w28=>
 rx Tryz.prog (bigS 108 v27) w28 λv29 w30=>
 callV Tryz.prog a2 [v29,a1] w30 λv31 w32=>
 rv Tryz.prog (bin .eql 3 true v31 (.int .i64 0)) w32 λv33 w34=>
 K (.tuple #[s2.1,v33]) w34)
 (K (.tuple #[s2.1,(.bool false)]) w26))
def F249(a0 a1 a2:Value)(w:World)(K:Kont):Prop:=
 rn Tryz.prog (builtin .len #[45] 3 #[false] #[a0]) w λv0 w1=>
 LoopW (S:=Value×Value×Unit) (L249_0 a0 a2 a1 v0 K) ((.int .i64 0),v0,()) w1
theorem F249_eq(a0 a1 a2:Value)(w:World)(K:Kont):vcFnJ Tryz.prog Tryz.f249 [a0,a1,a2] w K=F249 a0 a1 a2 w K:=by kernel_rfl
theorem F249_ok:okF Tryz.prog Tryz.f249 3=true:=by kernel_rfl
theorem ca249{a0 a1 a2:Value}{w:World}{K:Kont}(h:F249 a0 a1 a2 w K):Ca Tryz.prog 249 #[a0,a1,a2] w K:=
 ca_of_vcJ Tryz.noNum Tryz.func249 F249_ok (by rw[F249_eq];exact h)
end Go.Proofs
namespace Go.Proofs
open Go Go.Vc
attribute [local congr] Ca_congV
abbrev Bk:=Bool→List Od
def Bk.empty:Bk:=λ_=>[]
def Bk.set(B:Bk)(d:Bool)(l:List Od):Bk:=λx=>if x=d then l else B x
theorem Bk.set_self(B:Bk)(d:Bool)(l:List Od):B.set d l d=l:=by simp[Bk.set]
theorem Bk.set_other(B:Bk)(d:Bool)(l:List Od):B.set d l (!d)=B (!d):=by cases d<;>simp[Bk.set]
theorem Bk.set_same(B:Bk)(d:Bool):B.set d (B d)=B:=by
 funext x;unfold Bk.set;by_cases h:x=d<;>simp[h]
def Bk.find(B:Bk)(n:Int):Option (Od×Bool):=
 match sdGet (B true) n with
 |some o=>some (o,true)
 |none=>match sdGet (B false) n with
  |some o=>some (o,false)
  |none=>none
structure BookQ(w:World)(b:Nat)(F:Nat→Prop)(B:Bk):Prop where
 out:∃(s:Bool→Nat) (G:Bool→Nat→Prop),hp w b=some (.cells #[sptr (s true),sptr (s false)] 231 (0,0))∧(∀d,SideQ w (s d) (G d) d (B d))∧(∀x,F x↔x=b∨G true x∨G false x)∧(∀d,¬G d b)∧∀x,G true x→¬G false x
theorem BookQ.mod{F H:Nat→Prop}{w w' :World}{b:Nat}{B:Bk}(h:BookQ w b F B)(hm:Mod H w w')(hd:∀x,F x→¬H x):BookQ w' b F B:=by
 obtain⟨s,G,h1,h2,h3,h4,h5⟩:=h.out
 exact⟨s,G,hm.hpk h1 (hd b ((h3 b).2 (.inl rfl))),λd=>(h2 d).mod hm λx hx=>hd x ((h3 x).2 (.inr (by cases d;exact .inr hx;exact .inl hx))),h3,h4,h5⟩
theorem BookQ.lt{F:Nat→Prop}{w:World}{b:Nat}{B:Bk}(h:BookQ w b F B){x:Nat}(hx:F x):x<w.heap.size:=by
 obtain⟨s,G,h1,h2,h3,h4,h5⟩:=h.out
 rcases(h3 x).1 hx with rfl|hx|hx
 ·exact lt_of_heap h1
 ·exact(h2 true).lt hx
 ·exact(h2 false).lt hx
theorem BookQ.self{F:Nat→Prop}{w:World}{b:Nat}{B:Bk}(h:BookQ w b F B):F b:=by
 obtain⟨s,G,h1,h2,h3,h4,h5⟩:=h.out
 exact(h3 b).2 (.inl rfl)
def bptr(b:Nat):Value:=.pointer (some ⟨b,0,none⟩)
theorem ca_bknew{w:World}{K:Kont}(hK:∀b F w',BookQ w' b F Bk.empty→Mod (λ_=>False) w w' →(∀x,F x→w.heap.size≤x)→K (bptr b) w'):Ca Tryz.prog 48 #[] w K:=by
 apply ca48
 unfold F48
 refine ca_sdnew λs1 F1 w1 q1 m1 n1=>?_
 refine ca_sdnew λs2 F2 w2 q2 m2 n2=>?_
 refine rvS (v:=.agg #[sptr s1,sptr s2]) (w' :=w2) (by simp[go_sem,sptr]) ?_
 have m3:Mod (λ_=>False) w2 (w2.alloc (.cells #[sptr s1,sptr s2] 231)):=(Mod.refl _ w2).alloc _
 refine rvS (v:=bptr w2.heap.size) (w' :=w2.alloc (.cells #[sptr s1,sptr s2] 231)) rfl ?_
 have hs1:=m1.size
 have hs2:=m2.size
 refine hK w2.heap.size (λx=>x=w2.heap.size∨F1 x∨F2 x) _ ⟨λd=>if d then s1 else s2,λd=>if d then F1 else F2,by simp[go_sem],λd=>?_,λx=>Iff.rfl,λd=>?_,λx h1 h2=>?_⟩ ((m1.trans m2).trans m3) λx hx=>?_
 ·cases d
  ·exact q2.mod m3 λ_ _ h=>h
  ·exact(q1.mod m2 λ_ _ h=>h).mod m3 λ_ _ h=>h
 ·cases d
  ·intro h;have:=q2.lt h;omega
  ·intro h;have:=q1.lt h;omega
 ·have a1:=q1.lt h1
  have a2:=n2 x h2
  omega
 ·rcases hx with rfl|hx|hx
  ·omega
  ·exact n1 x hx
  ·have:=n2 x hx;omega
theorem ca_bkready{w:World}{K:Kont}{b:Nat}{F:Nat→Prop}{B:Bk}(h:BookQ w b F B)(hK:K (.bool true) w):Ca Tryz.prog 145 #[bptr b] w K:=by
 obtain⟨s,G,h1,h2,h3,h4,h5⟩:=h.out
 apply ca145
 unfold F145 bptr
 refine rvS (v:=.bool true) (by simp[go_sem]<;>first|exact⟨rfl,rfl⟩|exact rfl) ?_
 rw[ifB_bool,if_pos rfl]
 simp only[nilK_ptr]
 refine rvS (by simp[-Int.natCast_add,go_sem,h1]<;>first|exact⟨rfl,rfl⟩|exact rfl) ?_
 refine rvS (by simp[-Int.natCast_add,go_sem,h1]<;>first|exact⟨rfl,rfl⟩|exact rfl) ?_
 refine rvS (v:=.bool true) (w' :=w) (by simp[go_sem,sptr]) ?_
 exact hK
theorem ca_bksides{w:World}{K:Kont}{b:Nat}{s:Bool→Nat}{d:Bool}(h1:hp w b=some (.cells #[sptr (s true),sptr (s false)] 231 (0,0)))
  (hK:K (.tuple #[sptr (s d),sptr (s !d)]) w.drew):Ca Tryz.prog 225 #[bptr b,.bool d] w K:=by
 apply ca225
 unfold F225 bptr
 have hd:hp w.drew b=some (.cells #[sptr (s true),sptr (s false)] 231 (0,0)):=h1
 simp only[nilK_ptr]
 cases d with
 |true=>
  rw[ifB_bool,if_pos rfl]
  refine rdPS (λ_=>by simp[-Int.natCast_add,go_sem]<;>first|exact⟨rfl,rfl⟩|exact rfl) ?_
  refine rdWS (v:=sptr (s true)) (by simp[go_sem,hd]) ?_
  refine rdPS (λ_=>by simp[-Int.natCast_add,go_sem]<;>first|exact⟨rfl,rfl⟩|exact rfl) ?_
  refine rdWS (v:=sptr (s false)) (by simp[go_sem,hd]) ?_
  exact⟨by simp[go_sem,hd],hK⟩
 |false=>
  rw[ifB_bool,if_neg Bool.false_ne_true]
  refine rdPS (λ_=>by simp[-Int.natCast_add,go_sem]<;>first|exact⟨rfl,rfl⟩|exact rfl) ?_
  refine rdWS (v:=sptr (s false)) (by simp[go_sem,hd]) ?_
  refine rdPS (λ_=>by simp[-Int.natCast_add,go_sem]<;>first|exact⟨rfl,rfl⟩|exact rfl) ?_
  refine rdWS (v:=sptr (s true)) (by simp[go_sem,hd]) ?_
  exact⟨by simp[go_sem,hd],hK⟩
def crossB(o:Od)(price:Int):Bool:=if o.buy then decide (price≤o.price)else decide (o.price≤price)
theorem ca_crosses{o:Od}{price:Int}{w:World}{K:Kont}(hK:∀w',Mod (λ_=>False) w w' →K (.bool (crossB o price)) w'):Ca Tryz.prog 272 #[odV o,.int .i64 price] w K:=by
 apply ca272
 unfold F272
 obtain⟨w1,e1,b1,m1⟩:=boxOd o w
 have hK:=hK _ m1
 unfold crossB at hK
 refine rvS e1 ?_
 unfold odC at b1
 refine rvS (by simp[-Int.natCast_add,go_sem,b1]<;>first|exact⟨rfl,rfl⟩|exact rfl) ?_
 refine rvS (by simp[-Int.natCast_add,go_sem,b1]<;>first|exact⟨rfl,rfl⟩|exact rfl) ?_
 cases hb:o.buy with
 |true=>
  rw[hb]at hK
  rw[ifB_bool,if_pos rfl]
  refine rvS (by simp[-Int.natCast_add,go_sem,b1]<;>first|exact⟨rfl,rfl⟩|exact rfl) ?_
  refine rvS (by simp[-Int.natCast_add,go_sem,b1]<;>first|exact⟨rfl,rfl⟩|exact rfl) ?_
  refine rvS (by simp[-Int.natCast_add,go_sem]<;>first|exact⟨rfl,rfl⟩|exact rfl) ?_
  simpa using hK
 |false=>
  rw[hb]at hK
  rw[ifB_bool,if_neg Bool.false_ne_true]
  refine rvS (by simp[-Int.natCast_add,go_sem,b1]<;>first|exact⟨rfl,rfl⟩|exact rfl) ?_
  refine rvS (by simp[-Int.natCast_add,go_sem,b1]<;>first|exact⟨rfl,rfl⟩|exact rfl) ?_
  refine rvS (by simp[-Int.natCast_add,go_sem]<;>first|exact⟨rfl,rfl⟩|exact rfl) ?_
  simpa using hK
theorem psU:Tryz.prog.underlying 246=some (.slice 228):=by kernel_rfl
theorem psE:elemOk Tryz.prog 228 1 8=true:=by kernel_rfl
set_option maxRecDepth 10000 in
theorem ca_bkfind{w:World}{K:Kont}{b:Nat}{B:Bk}{s:Bool→Nat}{G:Bool→Nat→Prop}{n:Int}(h1:hp w b=some (.cells #[sptr (s true),sptr (s false)] 231 (0,0)))(h2:∀d,SideQ w (s d) (G d) d (B d))
  (hN:B.find n=none→∀w',Mod (λ_=>False) w w' →K (.tuple #[odV zOd,.pointer none]) w')
  (hS:∀o d,B.find n=some (o,d)→sdGet (B d) n=some o→∀w',Mod (λ_=>False) w w' →K (.tuple #[odV o,sptr (s d)]) w'):Ca Tryz.prog 224 #[bptr b,.int .u64 n] w K:=by
 apply ca224
 unfold F224
 obtain⟨w1,e1,b1,m1⟩:=newOd w
 refine rvS e1 ?_
 obtain⟨p,hp0⟩:∃p,p=w.heap.size:=⟨_,rfl⟩
 rw[←hp0]at b1⊢
 have md:=m1.drew
 have c1:=md.hpk h1 id
 simp only[bptr,nilK_ptr]
 refine rdPS (λ_=>by simp[-Int.natCast_add,go_sem]<;>first|exact⟨rfl,rfl⟩|exact rfl) ?_
 refine rdWS (v:=sptr (s true)) (by simp[go_sem,c1]) ?_
 refine rdPS (λ_=>by simp[-Int.natCast_add,go_sem]<;>first|exact⟨rfl,rfl⟩|exact rfl) ?_
 refine rdWS (v:=sptr (s false)) (by simp[go_sem,c1]) ?_
 refine rx_lit [sptr (s true),sptr (s false)] psU (elemT_of psE) rfl rfl (by intro v hv;simp only[List.mem_cons,List.not_mem_nil,or_false]at hv;rcases hv with rfl|rfl<;>rfl) (by omega) ?_
 have e0:(([sptr (s true),sptr (s false)]:List Value).flatMap (·.cells.toList)).toArray= #[sptr (s true),sptr (s false)]:=rfl
 rw[e0]
 obtain⟨q,hq0⟩:∃q,q=w1.drew.heap.size:=⟨_,rfl⟩
 have hpq:p<q:=by rw[hq0,size_drew];exact lt_of_heap b1
 have m2:Mod (λ_=>False) w (w1.drew.alloc (.cells #[sptr (s true),sptr (s false)] 228)):=md.alloc _
 have b2:hp (w1.drew.alloc (.cells #[sptr (s true),sptr (s false)] 228)) q=some (.cells #[sptr (s true),sptr (s false)] 228 (0,0)):=by rw[hq0];simp[go_sem]
 have p2:hp (w1.drew.alloc (.cells #[sptr (s true),sptr (s false)] 228)) p=some (.cells (odC zOd).toArray tOd (0,0)):=by
  rw[hp_alloc,if_neg (by rw[←hq0];omega)]
  exact b1
 rw[←hq0]
 generalize w1.drew.alloc (.cells #[sptr (s true),sptr (s false)] 228)=w2 at m2 b2 p2⊢
 refine rdWS (v:=.int .i64 2) (by simp[go_sem]) ?_
 refine loopV (λst W=>∃(i:Nat) (x:Value),i≤2∧st=(x,.int .i64 i,())∧Mod (λ_=>False) w2 W∧(1≤i→sdGet (B true) n=none)∧(2≤i→sdGet (B false) n=none))
  (λst _=>match st.2.1 with| .int _ i=>2 - i.toNat|_=>0) ⟨0,.pointer none,by omega,rfl,Mod.refl _ _,λh=>by omega,λh=>by omega⟩ ?_
 rintro⟨_,_⟩ W ⟨i,x,hi,⟨⟩,mW,hn1,hn2⟩ KN hKN
 unfold L224_0
 intro _
 have MW:=m2.trans mW
 have bW:=mW.hpk b2 id
 have pW:=mW.hpk p2 id
 by_cases hlt:i<2
 ·have hlt' :(i:Int)<2:=by omega
  refine rvS (v:=.bool true) (by simp[go_sem,hlt']<;>first|exact⟨rfl,rfl⟩|exact rfl) ?_
  rw[ifB_bool,if_pos rfl]
  obtain⟨d,hd⟩:∃d:Bool,(i=0∧d=true)∨(i=1∧d=false):=by
   by_cases h0:i=0
   ·exact⟨true,.inl ⟨h0,rfl⟩⟩
   ·exact⟨false,.inr ⟨by omega,rfl⟩⟩
  have hcell:(#[sptr (s true),sptr (s false)]:Array Value)[i]? =some (sptr (s d)):=by
   rcases hd with⟨rfl,rfl⟩|⟨rfl,rfl⟩<;>rfl
  have hlt2:¬(2:Int)≤(i:Int):=by omega
  refine rvS (v:=.pointer (some ⟨q,i,none⟩)) (w' :=W) (by simp[go_sem,hlt,hlt2,addr_add]) ?_
  refine rvS (v:=sptr (s d)) (w' :=W) (by rcases hd with⟨rfl,rfl⟩|⟨rfl,rfl⟩<;>simp[go_sem,bW]) ?_
  refine ca_sget ((h2 d).mod MW λ_ _ h=>h) λw3 m3=>?_
  have M3:=MW.trans m3
  refine rvS (v:=odV ((sdGet (B d) n).getD zOd)) (w' :=w3) (by simp[go_sem]) ?_
  refine rvS (v:=.int .i64 (if(sdGet (B d) n).isSome then 0 else 7)) (w' :=w3) (by simp[go_sem]) ?_
  obtain⟨w4,e4,b4,m4⟩:=newOd w3
  refine rvS e4 ?_
  obtain⟨r,hr0⟩:∃r,r=w3.heap.size:=⟨_,rfl⟩
  rw[←hr0]at b4⊢
  obtain⟨w5,e5,b5,m5⟩:=setOd (o' :=(sdGet (B d) n).getD zOd) b4
  refine ruS e5 ?_
  have M5' :Mod (λ_=>False) w3 w5:=m4.on m5 λb hb=>.inr (by omega)
  have M5:=M3.trans M5'
  have p5:=M5'.hpk (m3.hpk pW id) id
  cases hg:sdGet (B d) n with
  |some o=>
   rw[hg]at b5
   have hf:B.find n=some (o,d):=by
    unfold Bk.find
    rcases hd with⟨rfl,rfl⟩|⟨rfl,rfl⟩
    ·rw[hg]
    ·rw[hn1 (by omega)]
     simp only
     rw[hg]
   refine rvS (v:=.bool true) (by simp[go_sem]<;>first|exact⟨rfl,rfl⟩|exact rfl) ?_
   rw[ifB_bool,if_pos rfl]
   refine rvS (ldOd (o:=o) (At.all b5)) ?_
   obtain⟨w6,e6,b6,m6⟩:=setOd (o' :=o) p5
   refine ruS e6 ?_
   refine rdWS (ldOd (o:=o) (At.all b6)) ?_
   exact hS o d hf hg _ (M5.on m6 λb hb=>.inr (by omega))
  |none=>
   refine rvS (v:=.bool false) (by simp[go_sem]<;>first|exact⟨rfl,rfl⟩|exact rfl) ?_
   rw[ifB_bool,if_neg Bool.false_ne_true]
   refine rvS (v:=.int .i64 ((i+1:Nat):Int)) (w' :=w5) (by simp[go_sem];rw[wrapI (by omega) (by omega)]) ?_
   refine hKN _ _ ⟨i+1,_,by omega,rfl,(mW.trans m3).trans M5',λh=>?_,λh=>?_⟩ (by show 2 - (((i+1:Nat):Int)).toNat<2 - ((i:Int)).toNat;omega)
   ·rcases hd with⟨rfl,rfl⟩|⟨rfl,rfl⟩
    ·exact hg
    ·exact hn1 (by omega)
   ·rcases hd with⟨rfl,rfl⟩|⟨rfl,rfl⟩
    ·omega
    ·exact hg
 ·obtain rfl:i=2:=by omega
  refine rvS (v:=.bool false) (by simp[go_sem]<;>first|exact⟨rfl,rfl⟩|exact rfl) ?_
  rw[ifB_bool,if_neg Bool.false_ne_true]
  refine rvS (v:=odV zOd) (w' :=W) (by simp[go_sem,odV,odC,zOd]) ?_
  obtain⟨w6,e6,b6,m6⟩:=setOd (o' :=zOd) pW
  refine ruS e6 ?_
  refine rdWS (ldOd (o:=zOd) (At.all b6)) ?_
  refine hN ?_ _ (MW.on m6 λb hb=>.inr (by omega))
  unfold Bk.find
  rw[hn1 (by omega)]
  simp only
  rw[hn2 (by omega)]
end Go.Proofs
namespace Go.Proofs
open Go Go.Vc
attribute [local congr] Ca_congV
structure BookR(w:World)(b:Nat)(s:Bool→Nat)(G:Bool→Nat→Prop)(B:Bk):Prop where
 blk:hp w b=some (.cells #[sptr (s true),sptr (s false)] 231 (0,0))
 sd:∀d,SideQ w (s d) (G d) d (B d)
 nb:∀d,¬G d b
 dj:∀x,G true x→¬G false x
theorem BookQ.r{w:World}{b:Nat}{F:Nat→Prop}{B:Bk}(h:BookQ w b F B):∃s G,BookR w b s G B∧∀x,F x↔x=b∨G true x∨G false x:=by
 obtain⟨s,G,h1,h2,h3,h4,h5⟩:=h.out
 exact⟨s,G,⟨h1,h2,h4,h5⟩,h3⟩
theorem BookR.q{w:World}{b:Nat}{s:Bool→Nat}{G:Bool→Nat→Prop}{B:Bk}(h:BookR w b s G B):BookQ w b (λx=>x=b∨G true x∨G false x) B:=
 ⟨s,G,h.blk,h.sd,λ_=>Iff.rfl,h.nb,h.dj⟩
theorem BookR.mod{H:Nat→Prop}{w w' :World}{b:Nat}{s:Bool→Nat}{G:Bool→Nat→Prop}{B:Bk}(h:BookR w b s G B)(hm:Mod H w w')(hb:¬H b)(hd:∀d x,G d x→¬H x):BookR w' b s G B:=
 ⟨hm.hpk h.blk hb,λd=>(h.sd d).mod hm (hd d),h.nb,h.dj⟩
theorem BookR.lt{w:World}{b:Nat}{s:Bool→Nat}{G:Bool→Nat→Prop}{B:Bk}(h:BookR w b s G B){d:Bool}{x:Nat}(hx:G d x):x<w.heap.size:=(h.sd d).lt hx
theorem BookR.dj' {w:World}{b:Nat}{s:Bool→Nat}{G:Bool→Nat→Prop}{B:Bk}(h:BookR w b s G B){d:Bool}{x:Nat}(hx:G d x):¬G (!d) x:=by
 cases d
 ·exact λh' =>h.dj x h' hx
 ·exact h.dj x hx
def updG(G:Bool→Nat→Prop)(d:Bool)(G' :Nat→Prop):Bool→Nat→Prop:=λx=>if x=d then G' else G x
theorem updG_self(G:Bool→Nat→Prop)(d:Bool)(G' :Nat→Prop):updG G d G' d=G' :=by simp[updG]
theorem updG_other(G:Bool→Nat→Prop)(d:Bool)(G' :Nat→Prop):updG G d G' (!d)=G (!d):=by cases d<;>simp[updG]
theorem BookR.upd{w w' :World}{b:Nat}{s:Bool→Nat}{G:Bool→Nat→Prop}{B:Bk}(h:BookR w b s G B){d:Bool}{G' :Nat→Prop}{l:List Od}(hm:Mod (G d) w w')(hs:SideQ w' (s d) G' d l)(hn:∀x,G' x→G d x∨w.heap.size≤x):
  BookR w' b s (updG G d G') (B.set d l):=by
 have hlt:=lt_of_heap h.blk
 have hx:∀x,G (!d) x→¬G' x:=λx h1 h2=>by
  rcases hn x h2 with h3|h3
  ·exact h.dj' h3 h1
  ·have:=h.lt h1;omega
 refine⟨hm.hpk h.blk (h.nb d),λe=>?_,λe=>?_,λx h1 h2=>?_⟩
 ·by_cases he:e=d
  ·subst he
   rw[updG_self,Bk.set_self];exact hs
  ·obtain rfl:e= !d:=by cases e<;>cases d<;>simp_all
   rw[updG_other,Bk.set_other]
   exact(h.sd _).mod hm λx h1 h2=>h.dj' h2 h1
 ·by_cases he:e=d
  ·subst he
   rw[updG_self]
   intro h1
   rcases hn b h1 with h2|h2
   ·exact h.nb _ h2
   ·omega
  ·obtain rfl:e= !d:=by cases e<;>cases d<;>simp_all
   rw[updG_other];exact h.nb _
 ·cases d
  ·have e1:updG G false G' true=G true:=updG_other G false G'
   rw[e1]at h1
   rw[updG_self]at h2
   exact hx x h1 h2
  ·have e1:updG G true G' false=G false:=updG_other G true G'
   rw[e1]at h2
   rw[updG_self]at h1
   exact hx x h2 h1
structure Td where
 price:Int
 qty:Int
 num:Int
 acct:Int
 deriving DecidableEq
def tdC(t:Td):List Value:=[.int .i64 t.price,.int .i64 t.qty,.int .u64 t.num,.int .u32 t.acct]
structure Pm where
 trades:List Td
 gone:List Int
 filled:Int
 left:Int
def numC(n:Int):List Value:=[.int .u64 n]
def meetL(o:Od):Int→List Od→Int×List Od×List Td×List Int×Int
 |left,[]=>(left,[],[],[],0)
 |left,b::r=>
  if left≤0∨crossB o b.price=false then(left,b::r,[],[],0)
  else if b.acct=o.acct then let x:=meetL o left r;(x.1,x.2.1,x.2.2.1,b.num::x.2.2.2.1,x.2.2.2.2)
  else if left<b.left then(0,{b with left:=b.left - left}::r,[⟨b.price,left,b.num,b.acct⟩],[],left)
  else let x:=meetL o (left - b.left) r;(x.1,x.2.1,⟨b.price,b.left,b.num,b.acct⟩::x.2.2.1,x.2.2.2.1,b.left+x.2.2.2.2)
def comb(t:List Td)(g:List Int)(f:Int)(x:Int×List Od×List Td×List Int×Int):Int×List Od×List Td×List Int×Int:=
 (x.1,x.2.1,t++x.2.2.1,g++x.2.2.2.1,f+x.2.2.2.2)
def bkCome(B:Bk)(o:Od)(rests:Bool):Bk×Pm:=
 let x:=meetL o o.left (B (!o.buy))
 let B1:=B.set (!o.buy) x.2.1
 if rests=true∧0<x.1 then(B1.set o.buy (sdAdd o.buy (B1 o.buy) {o with left:=x.1}).2,⟨x.2.2.1,x.2.2.2.1,x.2.2.2.2,x.1⟩)
 else(B1,⟨x.2.2.1,x.2.2.2.1,x.2.2.2.2,0⟩)
theorem meetL_done{o:Od}{left:Int}{l:List Od}(h:left≤0∨l=[]∨∃b r,l=b::r∧crossB o b.price=false):meetL o left l=(left,l,[],[],0):=by
 cases l with
 |nil=>rfl
 |cons b r=>
  unfold meetL
  rw[if_pos]
  rcases h with h|h|⟨b',r',e,h⟩
  ·exact .inl h
  ·cases h
  ·cases e;exact .inr h
theorem crossB_left(o:Od)(x p:Int):crossB {o with left:=x} p=crossB o p:=rfl
structure PlQ(w:World)(sT sG:Value)(t:List Td)(g:List Int):Prop where
 tr:Own w 135 4 sT t.length (t.flatMap tdC)
 go:Own w 27 1 sG g.length (g.flatMap numC)
 dj:∀x,inSl sT x→¬inSl sG x
theorem PlQ.mod{F:Nat→Prop}{w w' :World}{sT sG:Value}{t:List Td}{g:List Int}(h:PlQ w sT sG t g)(hm:Mod F w w')(h1:∀x,inSl sT x→¬F x)(h2:∀x,inSl sG x→¬F x):PlQ w' sT sG t g:=
 ⟨h.tr.mod hm h1,h.go.mod hm h2,h.dj⟩
theorem uTds:Tryz.prog.underlying 28=some (.slice 135):=by kernel_rfl
theorem eTd:elemOk Tryz.prog 135 4 32=true:=by kernel_rfl
theorem uNums:Tryz.prog.underlying 29=some (.slice 27):=by kernel_rfl
theorem eNum:elemOk Tryz.prog 27 1 8=true:=by kernel_rfl
theorem tdC_one(t:Td):(tdC t).all (·.oneCell')=true:=rfl
theorem numC_one(n:Int):(numC n).all (·.oneCell')=true:=rfl
theorem pushV{α:Type}{P:Program}{t e:TypeId}{k by_:Nat}{w:World}{K:Kont}{s xv:Value}{l:List α}{x:α}{f:α→List Value}(ht:P.underlying t=some (.slice e))(hE:ElemT P e k by_)(hf:∀x,(f x).length=k)(hf1:∀x,(f x).all (·.oneCell')=true)
  (hx:xv.cells.toList=f x)(hs:Own w e k s l.length (l.flatMap f))(hb:(l.length+1)*by_≤140737488355328)(hk:k≤1000)
  (hK:∀s' w',Own w' e k s' (l++[x]).length ((l++[x]).flatMap f)→Mod (inSl s) w w' →(∀b,inSl s' b→inSl s b∨w.heap.size≤b)→K s' w'):
  rx P (xLit t 1 [(0,xv)]) w λv w1=>rx P (xAppend #[t,t] t [s,v]) w1 K:=by
 have hc:xv.cells.size=k:=by rw[←Array.length_toList,hx,hf]
 refine rx_lit [xv] ht hE rfl rfl (by intro v hv;rw[List.mem_singleton.1 hv];exact hc) (by omega) ?_
 have e0:(([xv]:List Value).flatMap (·.cells.toList)).toArray=(f x).toArray:=by simp[hx]
 rw[e0]
 have m1:Mod (λ_=>False) w (w.alloc (.cells (f x).toArray e)):=(Mod.refl _ w).alloc _
 have r1:Rd (w.alloc (.cells (f x).toArray e)) k (.slice (some ⟨w.heap.size,0,none⟩) 1 1) 1 (f x):=
  ⟨by rw[hf];omega,.inr ⟨_,0,1,rfl,Nat.le_refl _,At.all (hp_of (by rw[heap_alloc,if_pos rfl]))⟩⟩
 refine rx_append ht ht hE (hs.mod m1 λ_ _ h=>h) r1 (hf1 x) hb λs' w' o' m' n' =>?_
 refine hK s' w' ?_ ((m1.mono (G:=inSl s) λ_ _ h=>h.elim).trans m') λb hb' =>?_
 ·rw[List.flatMap_append,List.length_append]
  simpa using o'
 ·rcases n' b hb' with h|h
  ·exact .inl h
  ·rw[World.size_alloc]at h;exact .inr (by omega)
end Go.Proofs
