/- Part of a proof. -/
import Derived.Test.YtgebhcgmckjbbaaGreatO19
set_option linter.all false
set_option maxRecDepth 100000
namespace Go.Proofs
open Go Go.Vc
def J129_0(K:Kont)(v22:Value)(s13:Value×Value×Value×Value×Unit)(K15:Value×Value×Value×Value×Unit→World→Prop)(s25:Value×Unit)(w26:World):Prop:=
 ∀_:Nat→Value,
 ifB s25.1
 (K (.bool false) w26)
 (rv Tryz.prog (Instr.fieldAt 92 v22 0) w26 λv42 w43=>
 rv Tryz.prog (Instr.loadAt 35 v42) w43 λv44 w45=>
 rv Tryz.prog (Instr.fieldAt 92 v22 1) w45 λv46 w47=>
 rv Tryz.prog (Instr.loadAt 2 v46) w47 λv48 w49=>
 rv Tryz.prog (bin .add 2 false s13.1 v48) w49 λv50 w51=>
 rv Tryz.prog (bin .add 3 true s13.2.2.2.1 (.int .i64 1)) w51 λv52 w53=>
 K15 (v50,s13.2.1,v44,v52,()) w53)
def L129_1(v11:Value)(a1:Value)(K:Kont)(s13:Value×Value×Value×Value×Unit)(w14:World)(K15:Value×Value×Value×Value×Unit→World→Prop):Prop:=
 ∀_:Nat→Value,
 rv Tryz.prog (bin .lss 3 false s13.2.2.2.1 v11) w14 λv16 w17=>
 ifB v16
 (rv Tryz.prog (Instr.indexAt 44 a1 s13.2.2.2.1) w17 λv18 w19=>
 rv Tryz.prog (Instr.loadAt 92 v18) w19 λv20 w21=>
 rv Tryz.prog (Instr.alloc 92 true (.tuple #[])) w21 λv22 w23=>
 ru Tryz.prog (Instr.storeAt 92 v22 v20) w23 λw24=>
 JoinW (S:=Value×Unit) (λJ27=>
 rv Tryz.prog (Instr.fieldAt 92 v22 0) w24 λv28 w29=>
 rv Tryz.prog (Instr.loadAt 35 v28) w29 λv30 w31=>
 rv Tryz.prog (bin .leq 35 false v30 s13.2.2.1) w31 λv32 w33=>
 ifB v32
 (J27 ((.bool true),()) w33)
 (rv Tryz.prog (Instr.fieldAt 92 v22 1) w33 λv34 w35=>
 rv Tryz.prog (Instr.loadAt 2 v34) w35 λv36 w37=>
 Ca Tryz.prog 194 #[v36,(.int .i64 0),(.int .i64 1000000000000000)] w37 λv38 w39=>
 rv Tryz.prog (Op.unary .not v38) w39 λv40 w41=>
 J27 (v40,()) w41))
 (J129_0 K v22 s13 K15))
 (rv Tryz.prog (bin .leq 2 true s13.1 (.int .i64 1000000000000000)) w17 λv54 w55=>
 K v54 w55)
def J129_2(K:Kont)(a1:Value)(a0:Value)(s0:Value×Unit)(w1:World):Prop:=
 ∀_:Nat→Value,
 ifB s0.1
 (K (.bool false) w1)
 (rn Tryz.prog (builtin .len #[44] 3 #[false] #[a1]) w1 λv11 w12=>
 LoopW (S:=Value×Value×Value×Value×Unit) (L129_1 v11 a1 K) (a0,(.bool false),(.int .u32 0),(.int .i64 0),()) w12)
def F129(a0 a1:Value)(w:World)(K:Kont):Prop:=
 JoinW (S:=Value×Unit) (λJ2=>
 rn Tryz.prog (builtin .len #[44] 3 #[false] #[a1]) w λv3 w4=>
 rv Tryz.prog (bin .gtr 3 true v3 (.int .i64 64)) w4 λv5 w6=>
 ifB v5
 (J2 ((.bool true),()) w6)
 (Ca Tryz.prog 194 #[a0,(.int .i64 0),(.int .i64 1000000000000000)] w6 λv7 w8=>
 rv Tryz.prog (Op.unary .not v7) w8 λv9 w10=>
 J2 (v9,()) w10))
 (J129_2 K a1 a0)
theorem F129_eq(a0 a1:Value)(w:World)(K:Kont):vcFnJ Tryz.prog Tryz.f129 [a0,a1] w K=F129 a0 a1 w K:=by kernel_rfl
theorem F129_ok:okF Tryz.prog Tryz.f129 2=true:=by kernel_rfl
theorem ca129{a0 a1:Value}{w:World}{K:Kont}(h:F129 a0 a1 w K):Ca Tryz.prog 129 #[a0,a1] w K:=
 ca_of_vcJ Tryz.noNum Tryz.func129 F129_ok (by rw[F129_eq];exact h)
def J46_0(K:Kont)(J68:Value×Value×Unit→World→Prop)(s41:Value×Value×Value×Value×Value×Unit)(s79:Value×Unit)(w80:World):Prop:=
 ∀_:Nat→Value,
 ifB s79.1
 (K (.tuple #[(.pointer none),(.int .i64 2)]) w80)
 (J68 (s41.2.1,s41.1,()) w80)
def J46_1(K:Kont)(v63:Value)(v50:Value)(s41:Value×Value×Value×Value×Value×Unit)(v37:Value)(v4:Value)(K43:Value×Value×Value×Value×Value×Unit→World→Prop)(s66:Value×Value×Unit)(s159:Value×Unit)(w160:World):Prop:=
 ∀_:Nat→Value,
 ifB s159.1
 (K (.tuple #[(.pointer none),(.int .i64 2)]) w160)
 (rdW Tryz.prog (Instr.loadAt 224 v63) w160.drew λv178=>
 rdP Tryz.prog (Instr.fieldAt 112 v50 2) λv179=>
 rdW Tryz.prog (Instr.loadAt 2 v179) w160.drew λv180=>
 rdP Tryz.prog (bin .add 2 false s41.2.2.1 v180) λv181=>
 rdP Tryz.prog (Instr.fieldAt 112 v50 3) λv182=>
 rdW Tryz.prog (Instr.loadAt 2 v182) w160.drew λv183=>
 rdP Tryz.prog (bin .add 2 false s41.2.2.2.1 v183) λv184=>
 ru Tryz.prog (Instr.storeAt 224 v37 v178) w160.drew λw185=>
 Sem.run Tryz.prog (Instr.loadAt 2 v182) w185=.ok v183 w185∧Sem.run Tryz.prog (Instr.loadAt 2 v179) w185=.ok v180 w185∧
 (Sem.run Tryz.prog (Instr.loadAt 2 v182) w185=.ok v183 w185∧
 (nilK v4 λv186=>rdP Tryz.prog (Instr.fieldAt 201 v186 1) λv187=>
 rdW Tryz.prog (Instr.loadAt 199 v187) w185.drew λv188=>
 rdW Tryz.prog (Instr.loadAt 224 v63) w185.drew λv189=>
 rdW Tryz.prog (Instr.loadAt 112 v50) w185.drew λv190=>
 rux Tryz.prog (xMapUp 199 v188 v189 v190) w185.drew λw191=>
 rv Tryz.prog (bin .add 3 true s41.2.2.2.2.1 (.int .i64 1)) w191 λv192 w193=>
 K43 (s66.2.1,s66.1,v181,v184,v192,()) w193)))
def J46_2(K:Kont)(v50:Value)(v63:Value)(s41:Value×Value×Value×Value×Value×Unit)(v37:Value)(v4:Value)(K43:Value×Value×Value×Value×Value×Unit→World→Prop)(s66:Value×Value×Unit)(s130:Value×Unit)(w131:World):Prop:=
 ∀_:Nat→Value,
 ifB s130.1
 (K (.tuple #[(.pointer none),(.int .i64 2)]) w131)
 (JoinW (S:=Value×Unit) (λJ161=>
 rv Tryz.prog (Instr.fieldAt 112 v50 2) w131 λv162 w163=>
 rv Tryz.prog (Instr.loadAt 2 v162) w163 λv164 w165=>
 Ca Tryz.prog 130 #[v164,(.int .i64 10000000)] w165 λv166 w167=>
 rv Tryz.prog (Op.unary .not v166) w167 λv168 w169=>
 ifB v168
 (J161 ((.bool true),()) w169)
 (rv Tryz.prog (Instr.fieldAt 112 v50 3) w169 λv170 w171=>
 rv Tryz.prog (Instr.loadAt 2 v170) w171 λv172 w173=>
 Ca Tryz.prog 130 #[v172,(.int .i64 1000000000000000)] w173 λv174 w175=>
 rv Tryz.prog (Op.unary .not v174) w175 λv176 w177=>
 J161 (v176,()) w177))
 (J46_1 K v63 v50 s41 v37 v4 K43 s66))
def J46_3(K:Kont)(v50:Value)(v93:Value)(v63:Value)(s41:Value×Value×Value×Value×Value×Unit)(v37:Value)(v4:Value)(K43:Value×Value×Value×Value×Value×Unit→World→Prop)(s66:Value×Value×Unit)(s97:Value×Unit)(w98:World):Prop:=
 ∀_:Nat→Value,
 ifB s97.1
 (K (.tuple #[(.pointer none),(.int .i64 2)]) w98)
 (JoinW (S:=Value×Unit) (λJ132=>
 rv Tryz.prog (Instr.fieldAt 112 v50 0) w98 λv133 w134=>
 rv Tryz.prog (Instr.loadAt 35 v133) w134 λv135 w136=>
 rv Tryz.prog (bin .eql 35 true v135 (.int .u32 0)) w136 λv137 w138=>
 ifB v137
 (J132 ((.bool true),()) w138)
 (rv Tryz.prog (Instr.fieldAt 112 v50 1) w138 λv139 w140=>
 rv Tryz.prog (Instr.loadAt 35 v139) w140 λv141 w142=>
 rv Tryz.prog (bin .eql 35 true v141 (.int .u32 0)) w142 λv143 w144=>
 ifB v143
 (J132 ((.bool true),()) w144)
 (rv Tryz.prog (Op.unary .not v93) w144 λv145 w146=>
 ifB v145
 (J132 ((.bool true),()) w146)
 (rv Tryz.prog (Instr.fieldAt 112 v50 2) w146 λv147 w148=>
 rv Tryz.prog (Instr.loadAt 2 v147) w148 λv149 w150=>
 rv Tryz.prog (bin .eql 2 true v149 (.int .i64 0)) w150 λv151 w152=>
 ifB v151
 (rv Tryz.prog (Instr.fieldAt 112 v50 3) w152 λv153 w154=>
 rv Tryz.prog (Instr.loadAt 2 v153) w154 λv155 w156=>
 rv Tryz.prog (bin .eql 2 true v155 (.int .i64 0)) w156 λv157 w158=>
 J132 (v157,()) w158)
 (J132 ((.bool false),()) w152)))))
 (J46_2 K v50 v63 s41 v37 v4 K43 s66))
def J46_4(v4:Value)(v50:Value)(v63:Value)(v37:Value)(K:Kont)(s41:Value×Value×Value×Value×Value×Unit)(K43:Value×Value×Value×Value×Value×Unit→World→Prop)(s66:Value×Value×Unit)(w67:World):Prop:=
 ∀_:Nat→Value,
 nilK v4 λv86=>rdP Tryz.prog (Instr.fieldAt 201 v86 0) λv87=>
 rdW Tryz.prog (Instr.loadAt 198 v87) w67.drew λv88=>
 rdP Tryz.prog (Instr.fieldAt 112 v50 1) λv89=>
 rdW Tryz.prog (Instr.loadAt 35 v89) w67.drew λv90=>
 rdX Tryz.prog (xLook 198 v88 v90 true) w67.drew λv91=>
 rdP Tryz.prog (Instr.extract v91 0) λv92=>
 rdP Tryz.prog (Instr.extract v91 1) λv93=>
 rv Tryz.prog (Instr.alloc 92 true (.tuple #[])) w67.drew λv94 w95=>
 Sem.run Tryz.prog (xLook 198 v88 v90 true) w95=.ok v91 w95∧Sem.run Tryz.prog (Instr.loadAt 35 v89) w95=.ok v90 w95∧Sem.run Tryz.prog (Instr.loadAt 198 v87) w95=.ok v88 w95∧
 (ru Tryz.prog (Instr.storeAt 92 v94 v92) w95 λw96=>
 JoinW (S:=Value×Unit) (λJ99=>
 rv Tryz.prog (Instr.fieldAt 224 v63 0) w96 λv100 w101=>
 rv Tryz.prog (Instr.loadAt 35 v100) w101 λv102 w103=>
 rv Tryz.prog (Instr.fieldAt 224 v37 0) w103 λv104 w105=>
 rv Tryz.prog (Instr.loadAt 35 v104) w105 λv106 w107=>
 rv Tryz.prog (bin .lss 35 false v102 v106) w107 λv108 w109=>
 ifB v108
 (J99 ((.bool true),()) w109)
 (rv Tryz.prog (Instr.fieldAt 224 v63 0) w109 λv110 w111=>
 rv Tryz.prog (Instr.loadAt 35 v110) w111 λv112 w113=>
 rv Tryz.prog (Instr.fieldAt 224 v37 0) w113 λv114 w115=>
 rv Tryz.prog (Instr.loadAt 35 v114) w115 λv116 w117=>
 rv Tryz.prog (bin .eql 35 false v112 v116) w117 λv118 w119=>
 ifB v118
 (rv Tryz.prog (Instr.fieldAt 224 v63 1) w119 λv120 w121=>
 rv Tryz.prog (Instr.loadAt 35 v120) w121 λv122 w123=>
 rv Tryz.prog (Instr.fieldAt 224 v37 1) w123 λv124 w125=>
 rv Tryz.prog (Instr.loadAt 35 v124) w125 λv126 w127=>
 rv Tryz.prog (bin .leq 35 false v122 v126) w127 λv128 w129=>
 J99 (v128,()) w129)
 (J99 ((.bool false),()) w119)))
 (J46_3 K v50 v93 v63 s41 v37 v4 K43 s66))
def J46_5(K:Kont)(v4:Value)(s194:Value×Unit)(w195:World):Prop:=
 ∀_:Nat→Value,
 ifB s194.1
 (K (.tuple #[(.pointer none),(.int .i64 2)]) w195)
 (K (.tuple #[v4,(.int .i64 0)]) w195)
def L46_6(v39:Value)(a2:Value)(v37:Value)(K:Kont)(v4:Value)(s41:Value×Value×Value×Value×Value×Unit)(w42:World)(K43:Value×Value×Value×Value×Value×Unit→World→Prop):Prop:=
 ∀_:Nat→Value,
 rv Tryz.prog (bin .lss 3 false s41.2.2.2.2.1 v39) w42 λv44 w45=>
 ifB v44
 (rv Tryz.prog (Instr.indexAt 46 a2 s41.2.2.2.2.1) w45 λv46 w47=>
 rv Tryz.prog (Instr.loadAt 112 v46) w47 λv48 w49=>
 rv Tryz.prog (Instr.alloc 112 true (.tuple #[])) w49 λv50 w51=>
 ru Tryz.prog (Instr.storeAt 112 v50 v48) w51 λw52=>
 rv Tryz.prog (Instr.fieldAt 112 v50 0) w52 λv53 w54=>
 rv Tryz.prog (Instr.loadAt 35 v53) w54 λv55 w56=>
 rv Tryz.prog (Instr.fieldAt 112 v50 1) w56 λv57 w58=>
 rv Tryz.prog (Instr.loadAt 35 v57) w58 λv59 w60=>
 rv Tryz.prog (Instr.build 224 #[(0,v55),(1,v59)]) w60 λv61 w62=>
 rv Tryz.prog (Instr.alloc 224 true (.tuple #[])) w62 λv63 w64=>
 ru Tryz.prog (Instr.storeAt 224 v63 v61) w64 λw65=>
 JoinW (S:=Value×Value×Unit) (λJ68=>
 rv Tryz.prog (Instr.fieldAt 224 v63 0) w65 λv69 w70=>
 rv Tryz.prog (Instr.loadAt 35 v69) w70 λv71 w72=>
 rv Tryz.prog (Instr.fieldAt 224 v37 0) w72 λv73 w74=>
 rv Tryz.prog (Instr.loadAt 35 v73) w74 λv75 w76=>
 rv Tryz.prog (bin .neq 35 false v71 v75) w76 λv77 w78=>
 ifB v77
 (JoinW (S:=Value×Unit) (λJ81=>
 rv Tryz.prog (bin .neq 2 true s41.2.2.1 (.int .i64 0)) w78 λv82 w83=>
 ifB v82
 (J81 ((.bool true),()) w83)
 (rv Tryz.prog (bin .neq 2 true s41.2.2.2.1 (.int .i64 0)) w83 λv84 w85=>
 J81 (v84,()) w85))
 (J46_0 K J68 s41))
 (J68 (s41.2.1,s41.1,()) w78))
 (J46_4 v4 v50 v63 v37 K s41 K43))
 (JoinW (S:=Value×Unit) (λJ196=>
 rv Tryz.prog (bin .neq 2 true s41.2.2.1 (.int .i64 0)) w45 λv197 w198=>
 ifB v197
 (J196 ((.bool true),()) w198)
 (rv Tryz.prog (bin .neq 2 true s41.2.2.2.1 (.int .i64 0)) w198 λv199 w200=>
 J196 (v199,()) w200))
 (J46_5 K v4))
def L46_7(v14:Value)(a1:Value)(v4:Value)(a2:Value)(K:Kont)(s16:Value×Unit)(w17:World)(K18:Value×Unit→World→Prop):Prop:=
 ∀_:Nat→Value,
 rv Tryz.prog (bin .lss 3 false s16.1 v14) w17 λv19 w20=>
 ifB v19
 (rv Tryz.prog (Instr.indexAt 44 a1 s16.1) w20 λv21 w22=>
 rv Tryz.prog (Instr.loadAt 92 v21) w22 λv23 w24=>
 rv Tryz.prog (Instr.alloc 92 true (.tuple #[])) w24 λv25 w26=>
 ru Tryz.prog (Instr.storeAt 92 v25 v23) w26 λw27=>
 nilK v4 λv28=>rdP Tryz.prog (Instr.fieldAt 201 v28 0) λv29=>
 rdW Tryz.prog (Instr.loadAt 198 v29) w27.drew λv30=>
 rdP Tryz.prog (Instr.fieldAt 92 v25 0) λv31=>
 rdW Tryz.prog (Instr.loadAt 35 v31) w27.drew λv32=>
 rdW Tryz.prog (Instr.loadAt 92 v25) w27.drew λv33=>
 rux Tryz.prog (xMapUp 198 v30 v32 v33) w27.drew λw34=>
 rv Tryz.prog (bin .add 3 true s16.1 (.int .i64 1)) w34 λv35 w36=>
 K18 (v35,()) w36)
 (rv Tryz.prog (Instr.alloc 224 true (.tuple #[])) w20 λv37 w38=>
 rn Tryz.prog (builtin .len #[46] 3 #[false] #[a2]) w38 λv39 w40=>
 LoopW (S:=Value×Value×Value×Value×Value×Unit) (L46_6 v39 a2 v37 K v4) ((.pointer none),(.int .i64 0),(.int .i64 0),(.int .i64 0),(.int .i64 0),()) w40)
def F46(a0 a1 a2:Value)(w:World)(K:Kont):Prop:=
 Ca Tryz.prog 129 #[a0,a1] w λv0 w1=>
 rv Tryz.prog (Op.unary .not v0) w1 λv2 w3=>
 ifB v2
 (K (.tuple #[(.pointer none),(.int .i64 2)]) w3)
 (Ca Tryz.prog 36 #[] w3 λv4 w5=>
 nilK v4 λv6=>rv Tryz.prog (Instr.fieldAt 201 v6 0) w5 λv7 w8=>
 rv Tryz.prog (Instr.loadAt 198 v7) w8 λv9 w10=>
 rv Tryz.prog (Instr.build 92 #[(1,a0)]) w10 λv11 w12=>
 rux Tryz.prog (xMapUp 198 v9 (.int .u32 0) v11) w12 λw13=>
 rn Tryz.prog (builtin .len #[44] 3 #[false] #[a1]) w13 λv14 w15=>
 LoopW (S:=Value×Unit) (L46_7 v14 a1 v4 a2 K) ((.int .i64 0),()) w15)
theorem F46_eq(a0 a1 a2:Value)(w:World)(K:Kont):vcFnJ Tryz.prog Tryz.f46 [a0,a1,a2] w K=F46 a0 a1 a2 w K:=by kernel_rfl
theorem F46_ok:okF Tryz.prog Tryz.f46 3=true:=by kernel_rfl
theorem ca46{a0 a1 a2:Value}{w:World}{K:Kont}(h:F46 a0 a1 a2 w K):Ca Tryz.prog 46 #[a0,a1,a2] w K:=
 ca_of_vcJ Tryz.noNum Tryz.func46 F46_ok (by rw[F46_eq];exact h)
def J45_0(K:Kont)(v15:Value)(s6:Value×Value×Value×Value×Unit)(K8:Value×Value×Value×Value×Unit→World→Prop)(s18:Value×Unit)(w19:World):Prop:=
 ∀_:Nat→Value,
 ifB s18.1
 (K (.tuple #[(.pointer none),(.int .i64 2)]) w19)
 (rv Tryz.prog (Instr.fieldAt 108 v15 0) w19 λv53 w54=>
 rv Tryz.prog (Instr.fieldAt 38 v53 0) w54 λv55 w56=>
 rv Tryz.prog (Instr.loadAt 35 v55) w56 λv57 w58=>
 rv Tryz.prog (bin .add 3 true s6.2.2.2.1 (.int .i64 1)) w58 λv59 w60=>
 K8 (s6.1,s6.2.1,v57,v59,()) w60)
def L45_1(v4:Value)(a1:Value)(K:Kont)(a0:Value)(s6:Value×Value×Value×Value×Unit)(w7:World)(K8:Value×Value×Value×Value×Unit→World→Prop):Prop:=
 ∀_:Nat→Value,
 rv Tryz.prog (bin .lss 3 false s6.2.2.2.1 v4) w7 λv9 w10=>
 ifB v9
 (rv Tryz.prog (Instr.indexAt 45 a1 s6.2.2.2.1) w10 λv11 w12=>
 rx Tryz.prog (bigS 108 v11) w12 λv13 w14=>
 rx Tryz.prog (bigA 108) w14 λv15 w16=>
 rux Tryz.prog (bigU 108 v15 v13) w16 λw17=>
 JoinW (S:=Value×Unit) (λJ20=>
 rv Tryz.prog (Instr.fieldAt 108 v15 0) w17 λv21 w22=>
 rv Tryz.prog (Instr.fieldAt 38 v21 0) w22 λv23 w24=>
 rv Tryz.prog (Instr.loadAt 35 v23) w24 λv25 w26=>
 rv Tryz.prog (bin .leq 35 false v25 s6.2.2.1) w26 λv27 w28=>
 ifB v27
 (J20 ((.bool true),()) w28)
 (rv Tryz.prog (Instr.fieldAt 108 v15 1) w28 λv29 w30=>
 rv Tryz.prog (Instr.loadAt 106 v29) w30 λv31 w32=>
 rv Tryz.prog (bin .lss 106 true v31 (.int .u8 1)) w32 λv33 w34=>
 ifB v33
 (J20 ((.bool true),()) w34)
 (rv Tryz.prog (Instr.fieldAt 108 v15 1) w34 λv35 w36=>
 rv Tryz.prog (Instr.loadAt 106 v35) w36 λv37 w38=>
 rv Tryz.prog (bin .gtr 106 true v37 (.int .u8 3)) w38 λv39 w40=>
 ifB v39
 (J20 ((.bool true),()) w40)
 (rv Tryz.prog (Instr.fieldAt 108 v15 0) w40 λv41 w42=>
 rx Tryz.prog (bigS 38 v41) w42 λv43 w44=>
 rv Tryz.prog (Instr.fieldAt 108 v15 2) w44 λv45 w46=>
 rv Tryz.prog (Instr.loadAt 2 v45) w46 λv47 w48=>
 Ca Tryz.prog 127 #[v43,v47] w48 λv49 w50=>
 rv Tryz.prog (Op.unary .not v49) w50 λv51 w52=>
 J20 (v51,()) w52))))
 (J45_0 K v15 s6 K8))
 (Ca Tryz.prog 128 #[a1] w10 λv61 w62=>
 rv Tryz.prog (Instr.build 197 #[(0,(.bool true)),(1,a0),(2,v61)]) w62 λv63 w64=>
 rv Tryz.prog (Instr.box 197 v63) w64 λv65 w66=>
 K (.tuple #[v65,(.int .i64 0)]) w66)
def F45(a0 a1:Value)(w:World)(K:Kont):Prop:=
 rn Tryz.prog (builtin .len #[45] 3 #[false] #[a1]) w λv0 w1=>
 rv Tryz.prog (bin .gtr 3 true v0 (.int .i64 16)) w1 λv2 w3=>
 ifB v2
 (K (.tuple #[(.pointer none),(.int .i64 2)]) w3)
 (rn Tryz.prog (builtin .len #[45] 3 #[false] #[a1]) w3 λv4 w5=>
 LoopW (S:=Value×Value×Value×Value×Unit) (L45_1 v4 a1 K a0) ((.pointer none),(.int .i64 0),(.int .u32 0),(.int .i64 0),()) w5)
theorem F45_eq(a0 a1:Value)(w:World)(K:Kont):vcFnJ Tryz.prog Tryz.f45 [a0,a1] w K=F45 a0 a1 w K:=by kernel_rfl
theorem F45_ok:okF Tryz.prog Tryz.f45 2=true:=by kernel_rfl
theorem ca45{a0 a1:Value}{w:World}{K:Kont}(h:F45 a0 a1 w K):Ca Tryz.prog 45 #[a0,a1] w K:=
 ca_of_vcJ Tryz.noNum Tryz.func45 F45_ok (by rw[F45_eq];exact h)
def F49(a0 a1:Value)(w:World)(K:Kont):Prop:=
 rx Tryz.prog (bigA 108) w λv0 w1=>
 nilK a0 λv2=>rv Tryz.prog (Instr.fieldAt 66 v2 0) w1 λv3 w4=>
 rv Tryz.prog (Instr.loadAt 61 v3) w4 λv5 w6=>
 Ca Tryz.prog 123 #[v5,a1] w6 λv7 w8=>
 rv Tryz.prog (Instr.extract v7 0) w8 λv9 w10=>
 rv Tryz.prog (Instr.extract v7 1) w10 λv11 w12=>
 rx Tryz.prog (bigA 108) w12 λv13 w14=>
 rux Tryz.prog (bigU 108 v13 v9) w14 λw15=>
 rdX Tryz.prog (bigS 108 v13) w15.drew λv16=>
 rdP Tryz.prog (bin .eql 26 true v11 (.int .i64 0)) λv17=>
 ifB v17
 (rdP Tryz.prog (Instr.fieldAt 108 v13 1) λv18=>
 rdW Tryz.prog (Instr.loadAt 106 v18) w15.drew λv19=>
 rdP Tryz.prog (bin .neq 106 true v19 (.int .u8 3)) λv20=>
 rux Tryz.prog (bigU 108 v0 v16) w15.drew λw21=>
 Sem.run Tryz.prog (Instr.loadAt 106 v18) w21=.ok v19 w21∧
 (rdX Tryz.prog (bigS 108 v0) w21 λv22=>
 K (.tuple #[v22,v20]) w21))
 (rux Tryz.prog (bigU 108 v0 v16) w15.drew λw23=>
 rdX Tryz.prog (bigS 108 v0) w23 λv24=>
 K (.tuple #[v24,(.bool false)]) w23)
theorem F49_eq(a0 a1:Value)(w:World)(K:Kont):vcFnJ Tryz.prog Tryz.f49 [a0,a1] w K=F49 a0 a1 w K:=by kernel_rfl
theorem F49_ok:okF Tryz.prog Tryz.f49 2=true:=by kernel_rfl
theorem ca49{a0 a1:Value}{w:World}{K:Kont}(h:F49 a0 a1 w K):Ca Tryz.prog 49 #[a0,a1] w K:=
 ca_of_vcJ Tryz.noNum Tryz.func49 F49_ok (by rw[F49_eq];exact h)
def J134_0(K:Kont)(v6:Value)(a3:Value)(s44:Value×Unit)(w45:World):Prop:=
 ∀_:Nat→Value,
 ifB s44.1
 (K (.bool false) w45)
 (rv Tryz.prog (Instr.fieldAt 117 v6 0) w45 λv91 w92=>
 rv Tryz.prog (Instr.loadAt 27 v91) w92 λv93 w94=>
 rx Tryz.prog (xLook 232 a3 v93 false) w94 λv95 w96=>
 rv Tryz.prog (bin .add 3 true v95 (.int .i64 1)) w96 λv97 w98=>
 rux Tryz.prog (xMapUp 232 a3 v93 v97) w98 λw99=>
 K (.bool true) w99)
def J134_1(v17:Value)(v6:Value)(v19:Value)(a2:Value)(a0:Value)(a3:Value)(K:Kont)(s22:Value×Value×Unit)(w23:World):Prop:=
 ∀_:Nat→Value,
 JoinW (S:=Value×Unit) (λJ46=>
 rdP Tryz.prog (Op.unary .not v17) λv47=>
 ifB v47
 (J46 ((.bool true),()) w23.drew)
 (rdP Tryz.prog (bin .neq 26 true s22.2.1 (.int .i64 0)) λv48=>
 ifB v48
 (J46 ((.bool true),()) w23.drew)
 (rdP Tryz.prog (Instr.fieldAt 92 s22.1 3) λv49=>
 rdW Tryz.prog (Instr.loadAt 4 v49) w23.drew λv50=>
 ifB v50
 (J46 ((.bool true),()) w23.drew)
 (rdP Tryz.prog (Instr.fieldAt 92 s22.1 2) λv51=>
 rdW Tryz.prog (Instr.loadAt 4 v51) w23.drew λv52=>
 ifB v52
 (J46 ((.bool true),()) w23.drew)
 (rdW Tryz.prog (Instr.loadAt 117 v6) w23.drew λv53=>
 Ca Tryz.prog 222 #[v53] w23.drew λv54 w55=>
 rdP Tryz.prog (Op.unary .not v54) λv56=>
 ifB v56
 (J46 ((.bool true),()) w55)
 (rdP Tryz.prog (Instr.fieldAt 108 v19 0) λv57=>
 rdX Tryz.prog (bigS 38 v57) w55 λv58=>
 rdP Tryz.prog (Instr.fieldAt 117 v6 3) λv59=>
 rdW Tryz.prog (Instr.loadAt 2 v59) w55 λv60=>
 Ca Tryz.prog 127 #[v58,v60] w55 λv61 w62=>
 rdP Tryz.prog (Op.unary .not v61) λv63=>
 ifB v63
 (J46 ((.bool true),()) w62)
 (ifB a2
 (rdP Tryz.prog (Instr.fieldAt 108 v19 0) λv64=>
 rdX Tryz.prog (bigS 38 v64) w62 λv65=>
 rdP Tryz.prog (Instr.fieldAt 117 v6 4) λv66=>
 rdW Tryz.prog (Instr.loadAt 2 v66) w62 λv67=>
 Ca Tryz.prog 223 #[v65,v67] w62 λv68 w69=>
 rdP Tryz.prog (Op.unary .not v68) λv70=>
 ifB v70
 (J46 ((.bool true),()) w69)
 (rdP Tryz.prog (Instr.fieldAt 117 v6 0) λv71=>
 rdW Tryz.prog (Instr.loadAt 27 v71) w69 λv72=>
 nilK a0 λv73=>rdP Tryz.prog (Instr.fieldAt 66 v73 4) λv74=>
 rdW Tryz.prog (Instr.loadAt 27 v74) w69 λv75=>
 rdP Tryz.prog (bin .geq 27 false v72 v75) λv76=>
 ifB v76
 (J46 ((.bool true),()) w69)
 (rdP Tryz.prog (Instr.fieldAt 117 v6 0) λv77=>
 rdW Tryz.prog (Instr.loadAt 27 v77) w69 λv78=>
 rdX Tryz.prog (xLook 232 a3 v78 false) w69 λv79=>
 rdP Tryz.prog (bin .gtr 3 true v79 (.int .i64 0)) λv80=>
 J46 (v80,()) w69)))
 (rdP Tryz.prog (Instr.fieldAt 117 v6 0) λv81=>
 rdW Tryz.prog (Instr.loadAt 27 v81) w62 λv82=>
 nilK a0 λv83=>rdP Tryz.prog (Instr.fieldAt 66 v83 4) λv84=>
 rdW Tryz.prog (Instr.loadAt 27 v84) w62 λv85=>
 rdP Tryz.prog (bin .geq 27 false v82 v85) λv86=>
 ifB v86
 (J46 ((.bool true),()) w62)
 (rdP Tryz.prog (Instr.fieldAt 117 v6 0) λv87=>
 rdW Tryz.prog (Instr.loadAt 27 v87) w62 λv88=>
 rdX Tryz.prog (xLook 232 a3 v88 false) w62 λv89=>
 rdP Tryz.prog (bin .gtr 3 true v89 (.int .i64 0)) λv90=>
 J46 (v90,()) w62)))))))))
 (J134_0 K v6 a3)
def F134(a0 a1 a2 a3:Value)(w:World)(K:Kont):Prop:=
 rv Tryz.prog (Instr.box 119 a1) w λv0 w1=>
 rv Tryz.prog (Instr.fieldAt 119 v0 1) w1 λv2 w3=>
 rv Tryz.prog (Instr.loadAt 117 v2) w3 λv4 w5=>
 rv Tryz.prog (Instr.alloc 117 true (.tuple #[])) w5 λv6 w7=>
 ru Tryz.prog (Instr.storeAt 117 v6 v4) w7 λw8=>
 rv Tryz.prog (Instr.fieldAt 119 v0 0) w8 λv9 w10=>
 rv Tryz.prog (Instr.loadAt 35 v9) w10 λv11 w12=>
 Ca Tryz.prog 49 #[a0,v11] w12 λv13 w14=>
 rv Tryz.prog (Instr.extract v13 0) w14 λv15 w16=>
 rv Tryz.prog (Instr.extract v13 1) w16 λv17 w18=>
 rx Tryz.prog (bigA 108) w18 λv19 w20=>
 rux Tryz.prog (bigU 108 v19 v15) w20 λw21=>
 JoinW (S:=Value×Value×Unit) (λJ24=>
 nilK a0 λv25=>rdP Tryz.prog (Instr.fieldAt 66 v25 1) λv26=>
 rdW Tryz.prog (Instr.loadAt 62 v26) w21.drew λv27=>
 rdP Tryz.prog (Instr.fieldAt 117 v6 1) λv28=>
 rdW Tryz.prog (Instr.loadAt 35 v28) w21.drew λv29=>
 (Ca Tryz.prog 52 #[v27,v29] w21.drew λv30 w31=>
 rdP Tryz.prog (Instr.extract v30 0) λv32=>
 rdP Tryz.prog (Instr.extract v30 1) λv33=>
 rv Tryz.prog (Instr.alloc 92 true (.tuple #[])) w31 λv34 w35=>
 ru Tryz.prog (Instr.storeAt 92 v34 v32) w35 λw36=>
 J24 (v34,v33,()) w36)
 ∧(rv Tryz.prog (Instr.alloc 92 true (.tuple #[])) w21.drew λv37 w38=>
 Sem.run Tryz.prog (Instr.loadAt 35 v28) w38=.ok v29 w38∧Sem.run Tryz.prog (Instr.loadAt 62 v26) w38=.ok v27 w38∧
 (Ca Tryz.prog 52 #[v27,v29] w38 λv39 w40=>
 rdP Tryz.prog (Instr.extract v39 0) λv41=>
 rdP Tryz.prog (Instr.extract v39 1) λv42=>
 ru Tryz.prog (Instr.storeAt 92 v37 v41) w40 λw43=>
 J24 (v37,v42,()) w43)))
 (J134_1 v17 v6 v19 a2 a0 a3 K)
theorem F134_eq(a0 a1 a2 a3:Value)(w:World)(K:Kont):vcFnJ Tryz.prog Tryz.f134 [a0,a1,a2,a3] w K=F134 a0 a1 a2 a3 w K:=by kernel_rfl
theorem F134_ok:okF Tryz.prog Tryz.f134 4=true:=by kernel_rfl
theorem ca134{a0 a1 a2 a3:Value}{w:World}{K:Kont}(h:F134 a0 a1 a2 a3 w K):Ca Tryz.prog 134 #[a0,a1,a2,a3] w K:=
 ca_of_vcJ Tryz.noNum Tryz.func134 F134_ok (by rw[F134_eq];exact h)
def J50_0(K:Kont)(s10:Value×Value×Unit)(K12:Value×Value×Unit→World→Prop)(s53:Value×Unit)(w54:World):Prop:=
 ∀_:Nat→Value,
 ifB s53.1
 (K (.bool false) w54)
 (rv Tryz.prog (bin .add 3 true s10.2.1 (.int .i64 1)) w54 λv66 w67=>
 K12 (s10.1,v66,()) w67)
def J50_1(K:Kont)(s10:Value×Value×Unit)(K12:Value×Value×Unit→World→Prop)(s28:Value×Value×Unit)(w29:World):Prop:=
 ∀_:Nat→Value,
 JoinW (S:=Value×Unit) (λJ55=>
 rv Tryz.prog (bin .neq 26 true s28.2.1 (.int .i64 0)) w29 λv56 w57=>
 ifB v56
 (J55 ((.bool true),()) w57)
 (rv Tryz.prog (Instr.fieldAt 235 s28.1 1) w57 λv58 w59=>
 rv Tryz.prog (Instr.loadAt 29 v58) w59 λv60 w61=>
 rn Tryz.prog (builtin .len #[29] 3 #[false] #[v60]) w61 λv62 w63=>
 rv Tryz.prog (bin .gtr 3 true v62 (.int .i64 0)) w63 λv64 w65=>
 J55 (v64,()) w65))
 (J50_0 K s10 K12)
def J50_2(J88:Value×Unit→World→Prop)(s74:Value×Value×Value×Unit)(s89:Value×Unit)(w90:World):Prop:=
 ∀_:Nat→Value,
 ifB s89.1
 (J88 ((.int .u64 0),()) w90)
 (J88 (s74.2.1,()) w90)
def J50_3(K:Kont)(v83:Value)(a0:Value)(s74:Value×Value×Value×Unit)(K76:Value×Value×Value×Unit→World→Prop)(s102:Value×Unit)(w103:World):Prop:=
 ∀_:Nat→Value,
 ifB s102.1
 (K (.bool false) w103)
 (rv Tryz.prog (Instr.fieldAt 119 v83 1) w103 λv121 w122=>
 rv Tryz.prog (Instr.fieldAt 117 v121 0) w122 λv123 w124=>
 rv Tryz.prog (Instr.loadAt 27 v123) w124 λv125 w126=>
 nilK a0 λv127=>rdP Tryz.prog (Instr.fieldAt 66 v127 3) λv128=>
 rdW Tryz.prog (Instr.loadAt 64 v128) w126.drew λv129=>
 rdP Tryz.prog (Instr.fieldAt 119 v83 0) λv130=>
 rdW Tryz.prog (Instr.loadAt 35 v130) w126.drew λv131=>
 nilK a0 λv132=>rdP Tryz.prog (Instr.fieldAt 66 v132 3) λv133=>
 rdW Tryz.prog (Instr.loadAt 64 v133) w126.drew λv134=>
 rdP Tryz.prog (Instr.fieldAt 119 v83 0) λv135=>
 rdW Tryz.prog (Instr.loadAt 35 v135) w126.drew λv136=>
 rdX Tryz.prog (xLook 64 v134 v136 false) w126.drew λv137=>
 rdP Tryz.prog (Instr.fieldAt 119 v83 1) λv138=>
 rdW Tryz.prog (Instr.loadAt 117 v138) w126.drew λv139=>
 rx Tryz.prog (xLit 133 1 [(0,v139)]) w126.drew λv140 w141=>
 Sem.run Tryz.prog (xLook 64 v134 v136 false) w141=.ok v137 w141∧Sem.run Tryz.prog (Instr.loadAt 35 v135) w141=.ok v136 w141∧Sem.run Tryz.prog (Instr.loadAt 64 v133) w141=.ok v134 w141∧Sem.run Tryz.prog (Instr.loadAt 35 v130) w141=.ok v131 w141∧Sem.run Tryz.prog (Instr.loadAt 64 v128) w141=.ok v129 w141∧
 (rx Tryz.prog (xAppend #[133,133] 133 [v137,v140]) w141 λv142 w143=>
 Sem.run Tryz.prog (Instr.loadAt 35 v130) w143=.ok v131 w143∧Sem.run Tryz.prog (Instr.loadAt 64 v128) w143=.ok v129 w143∧
 (rux Tryz.prog (xMapUp 64 v129 v131 v142) w143 λw144=>
 rv Tryz.prog (bin .add 3 true s74.2.2.1 (.int .i64 1)) w144 λv145 w146=>
 K76 (s74.1,v125,v145,()) w146)))
def J50_4(v83:Value)(a0:Value)(v2:Value)(K:Kont)(s74:Value×Value×Value×Unit)(K76:Value×Value×Value×Unit→World→Prop)(s86:Value×Unit)(w87:World):Prop:=
 ∀_:Nat→Value,
 JoinW (S:=Value×Unit) (λJ104=>
 rdW Tryz.prog (Instr.loadAt 119 v83) w87.drew λv105=>
 Ca Tryz.prog 134 #[a0,v105,(.bool false),v2] w87.drew λv106 w107=>
 rdP Tryz.prog (Op.unary .not v106) λv108=>
 ifB v108
 (J104 ((.bool true),()) w107)
 (rdP Tryz.prog (Instr.fieldAt 119 v83 1) λv109=>
 rdP Tryz.prog (Instr.fieldAt 117 v109 0) λv110=>
 rdW Tryz.prog (Instr.loadAt 27 v110) w107 λv111=>
 rdP Tryz.prog (bin .leq 27 false v111 s86.1) λv112=>
 ifB v112
 (J104 ((.bool true),()) w107)
 (nilK a0 λv113=>rdP Tryz.prog (Instr.fieldAt 66 v113 3) λv114=>
 rdW Tryz.prog (Instr.loadAt 64 v114) w107 λv115=>
 rdP Tryz.prog (Instr.fieldAt 119 v83 0) λv116=>
 rdW Tryz.prog (Instr.loadAt 35 v116) w107 λv117=>
 rdX Tryz.prog (xLook 64 v115 v117 false) w107 λv118=>
 rdW Tryz.prog (Builtin.len_ #[133] 3 #[v118]) w107 λv119=>
 rdP Tryz.prog (bin .geq 3 true v119 (.int .i64 50)) λv120=>
 J104 (v120,()) w107)))
 (J50_3 K v83 a0 s74 K76)
def L50_5(v72:Value)(v70:Value)(v0:Value)(a0:Value)(v2:Value)(K:Kont)(s74:Value×Value×Value×Unit)(w75:World)(K76:Value×Value×Value×Unit→World→Prop):Prop:=
 ∀_:Nat→Value,
 rv Tryz.prog (bin .lss 3 false s74.2.2.1 v72) w75 λv77 w78=>
 ifB v77
 (rv Tryz.prog (Instr.indexAt 47 v70 s74.2.2.1) w78 λv79 w80=>
 rv Tryz.prog (Instr.loadAt 119 v79) w80 λv81 w82=>
 rv Tryz.prog (Instr.alloc 119 true (.tuple #[])) w82 λv83 w84=>
 ru Tryz.prog (Instr.storeAt 119 v83 v81) w84 λw85=>
 JoinW (S:=Value×Unit) (λJ88=>
 JoinW (S:=Value×Unit) (λJ91=>
 rdP Tryz.prog (bin .gtr 3 true s74.2.2.1 (.int .i64 0)) λv92=>
 ifB v92
 (rdP Tryz.prog (Instr.fieldAt 119 v83 0) λv93=>
 rdW Tryz.prog (Instr.loadAt 35 v93) w85.drew λv94=>
 rdP Tryz.prog (Instr.fieldAt 49 v0 7) λv95=>
 rdW Tryz.prog (Instr.loadAt 47 v95) w85.drew λv96=>
 rdP Tryz.prog (bin .sub 3 true s74.2.2.1 (.int .i64 1)) λv97=>
 rdP Tryz.prog (Instr.indexAt 47 v96 v97) λv98=>
 rdP Tryz.prog (Instr.fieldAt 119 v98 0) λv99=>
 rdW Tryz.prog (Instr.loadAt 35 v99) w85.drew λv100=>
 rdP Tryz.prog (bin .neq 35 false v94 v100) λv101=>
 J91 (v101,()) w85.drew)
 (J91 ((.bool false),()) w85.drew))
 (J50_2 J88 s74))
 (J50_4 v83 a0 v2 K s74 K76))
 (K (.bool true) w78)
def L50_6(v8:Value)(v6:Value)(a0:Value)(v2:Value)(K:Kont)(v0:Value)(s10:Value×Value×Unit)(w11:World)(K12:Value×Value×Unit→World→Prop):Prop:=
 ∀_:Nat→Value,
 rv Tryz.prog (bin .lss 3 false s10.2.1 v8) w11 λv13 w14=>
 ifB v13
 (rv Tryz.prog (Instr.indexAt 47 v6 s10.2.1) w14 λv15 w16=>
 rv Tryz.prog (Instr.loadAt 119 v15) w16 λv17 w18=>
 rv Tryz.prog (Instr.alloc 119 true (.tuple #[])) w18 λv19 w20=>
 ru Tryz.prog (Instr.storeAt 119 v19 v17) w20 λw21=>
 rv Tryz.prog (Instr.loadAt 119 v19) w21 λv22 w23=>
 Ca Tryz.prog 134 #[a0,v22,(.bool true),v2] w23 λv24 w25=>
 rv Tryz.prog (Op.unary .not v24) w25 λv26 w27=>
 ifB v26
 (K (.bool false) w27)
 (JoinW (S:=Value×Value×Unit) (λJ30=>
 nilK a0 λv31=>rdP Tryz.prog (Instr.fieldAt 66 v31 2) λv32=>
 rdW Tryz.prog (Instr.loadAt 63 v32) w27.drew λv33=>
 rdP Tryz.prog (Instr.fieldAt 119 v19 0) λv34=>
 rdW Tryz.prog (Instr.loadAt 35 v34) w27.drew λv35=>
 rdX Tryz.prog (xLook 63 v33 v35 false) w27.drew λv36=>
 rdP Tryz.prog (Instr.fieldAt 119 v19 1) λv37=>
 rdW Tryz.prog (Instr.loadAt 117 v37) w27.drew λv38=>
 (Ca Tryz.prog 135 #[v36,v38,(.int .u8 4)] w27.drew λv39 w40=>
 rdP Tryz.prog (Instr.extract v39 0) λv41=>
 rdP Tryz.prog (Instr.extract v39 1) λv42=>
 rv Tryz.prog (Instr.alloc 235 true (.tuple #[])) w40 λv43 w44=>
 ru Tryz.prog (Instr.storeAt 235 v43 v41) w44 λw45=>
 J30 (v43,v42,()) w45)
 ∧(rv Tryz.prog (Instr.alloc 235 true (.tuple #[])) w27.drew λv46 w47=>
 Sem.run Tryz.prog (Instr.loadAt 117 v37) w47=.ok v38 w47∧Sem.run Tryz.prog (xLook 63 v33 v35 false) w47=.ok v36 w47∧Sem.run Tryz.prog (Instr.loadAt 35 v34) w47=.ok v35 w47∧Sem.run Tryz.prog (Instr.loadAt 63 v32) w47=.ok v33 w47∧
 (Ca Tryz.prog 135 #[v36,v38,(.int .u8 4)] w47 λv48 w49=>
 rdP Tryz.prog (Instr.extract v48 0) λv50=>
 rdP Tryz.prog (Instr.extract v48 1) λv51=>
 ru Tryz.prog (Instr.storeAt 235 v46 v50) w49 λw52=>
 J30 (v46,v51,()) w52)))
 (J50_1 K s10 K12)))
 (rv Tryz.prog (Instr.fieldAt 49 v0 7) w14 λv68 w69=>
 rv Tryz.prog (Instr.loadAt 47 v68) w69 λv70 w71=>
 rn Tryz.prog (builtin .len #[47] 3 #[false] #[v70]) w71 λv72 w73=>
 LoopW (S:=Value×Value×Value×Unit) (L50_5 v72 v70 v0 a0 v2 K) (s10.1,(.int .u64 0),(.int .i64 0),()) w73)
def F50(a0 a1:Value)(w:World)(K:Kont):Prop:=
 rv Tryz.prog (Instr.box 49 a1) w λv0 w1=>
 rv Tryz.prog (Instr.makeMap 232 none) w1 λv2 w3=>
 rv Tryz.prog (Instr.fieldAt 49 v0 6) w3 λv4 w5=>
 rv Tryz.prog (Instr.loadAt 47 v4) w5 λv6 w7=>
 rn Tryz.prog (builtin .len #[47] 3 #[false] #[v6]) w7 λv8 w9=>
 LoopW (S:=Value×Value×Unit) (L50_6 v8 v6 a0 v2 K v0) ((.bool false),(.int .i64 0),()) w9
theorem F50_eq(a0 a1:Value)(w:World)(K:Kont):vcFnJ Tryz.prog Tryz.f50 [a0,a1] w K=F50 a0 a1 w K:=by kernel_rfl
theorem F50_ok:okF Tryz.prog Tryz.f50 2=true:=by kernel_rfl
theorem ca50{a0 a1:Value}{w:World}{K:Kont}(h:F50 a0 a1 w K):Ca Tryz.prog 50 #[a0,a1] w K:=
 ca_of_vcJ Tryz.noNum Tryz.func50 F50_ok (by rw[F50_eq];exact h)
def J13_0(mk89:List Nat)(K:Kont)(v65:Value)(s147:Value×Unit)(w148:World):Prop:=
 ∀_:Nat→Value,
 ifB s147.1
 (retD (mk89++[]) w148 λw174=>
 K (.tuple #[(.pointer none),(.int .i64 2)]) w174)
 (rv Tryz.prog (Instr.loadAt 23 v65) w148 λv175 w176=>
 retD (mk89++[]) w176 λw177=>
 K (.tuple #[v175,(.int .i64 0)]) w177)
def L13_1(v97:Value)(v95:Value)(v65:Value)(mk89:List Nat)(K:Kont)(v0:Value)(s99:Value×Value×Value×Unit)(w100:World)(K101:Value×Value×Value×Unit→World→Prop):Prop:=
 ∀_:Nat→Value,
 rv Tryz.prog (bin .lss 3 false s99.2.2.1 v97) w100 λv102 w103=>
 ifB v102
 (rv Tryz.prog (Instr.indexAt 46 v95 s99.2.2.1) w103 λv104 w105=>
 rv Tryz.prog (Instr.loadAt 112 v104) w105 λv106 w107=>
 rv Tryz.prog (Instr.alloc 112 true (.tuple #[])) w107 λv108 w109=>
 ru Tryz.prog (Instr.storeAt 112 v108 v106) w109 λw110=>
 rv Tryz.prog (Instr.loadAt 23 v65) w110 λv111 w112=>
 rv Tryz.prog (Instr.fieldAt 112 v108 0) w112 λv113 w114=>
 rv Tryz.prog (Instr.loadAt 35 v113) w114 λv115 w116=>
 Ca Tryz.prog 49 #[v111,v115] w116 λv117 w118=>
 rv Tryz.prog (Instr.extract v117 0) w118 λv119 w120=>
 rv Tryz.prog (Instr.extract v117 1) w120 λv121 w122=>
 rx Tryz.prog (bigA 108) w122 λv123 w124=>
 rux Tryz.prog (bigU 108 v123 v119) w124 λw125=>
 rv Tryz.prog (Op.unary .not v121) w125 λv126 w127=>
 ifB v126
 (retD (mk89++[]) w127 λw128=>
 K (.tuple #[(.pointer none),(.int .i64 2)]) w128)
 (rv Tryz.prog (bin .add 3 true s99.2.2.1 (.int .i64 1)) w127 λv129 w130=>
 K101 (s99.1,s99.2.1,v129,()) w130))
 (rv Tryz.prog (Instr.loadAt 23 v65) w103 λv131 w132=>
 rv Tryz.prog (Instr.loadAt 49 v0) w132 λv133 w134=>
 Ca Tryz.prog 50 #[v131,v133] w134 λv135 w136=>
 rv Tryz.prog (Op.unary .not v135) w136 λv137 w138=>
 ifB v137
 (retD (mk89++[]) w138 λw139=>
 K (.tuple #[(.pointer none),(.int .i64 2)]) w139)
 (rv Tryz.prog (Instr.loadAt 23 v65) w138 λv140 w141=>
 Ca Tryz.prog 14 #[v140] w141 λv142 w143=>
 rv Tryz.prog (Instr.alloc 49 true (.tuple #[])) w143 λv144 w145=>
 ru Tryz.prog (Instr.storeAt 49 v144 v142) w145 λw146=>
 JoinW (S:=Value×Unit) (λJ149=>
 rv Tryz.prog (Instr.fieldAt 49 v144 6) w146 λv150 w151=>
 rv Tryz.prog (Instr.loadAt 47 v150) w151 λv152 w153=>
 rv Tryz.prog (Instr.fieldAt 49 v0 6) w153 λv154 w155=>
 rv Tryz.prog (Instr.loadAt 47 v154) w155 λv156 w157=>
 Ca Tryz.prog 51 #[v152,v156] w157 λv158 w159=>
 rv Tryz.prog (Op.unary .not v158) w159 λv160 w161=>
 ifB v160
 (J149 ((.bool true),()) w161)
 (rv Tryz.prog (Instr.fieldAt 49 v144 7) w161 λv162 w163=>
 rv Tryz.prog (Instr.loadAt 47 v162) w163 λv164 w165=>
 rv Tryz.prog (Instr.fieldAt 49 v0 7) w165 λv166 w167=>
 rv Tryz.prog (Instr.loadAt 47 v166) w167 λv168 w169=>
 Ca Tryz.prog 51 #[v164,v168] w169 λv170 w171=>
 rv Tryz.prog (Op.unary .not v170) w171 λv172 w173=>
 J149 (v172,()) w173))
 (J13_0 mk89 K v65)))
def J13_2(mk89:List Nat)(K:Kont)(v65:Value)(s236:Value×Unit)(w237:World):Prop:=
 ∀_:Nat→Value,
 ifB s236.1
 (retD (mk89++[]) w237 λw263=>
 K (.tuple #[(.pointer none),(.int .i64 2)]) w263)
 (rv Tryz.prog (Instr.loadAt 23 v65) w237 λv264 w265=>
 retD (mk89++[]) w265 λw266=>
 K (.tuple #[v264,(.int .i64 0)]) w266)
def L13_3(v186:Value)(v184:Value)(v65:Value)(mk89:List Nat)(K:Kont)(v0:Value)(s188:Value×Value×Value×Unit)(w189:World)(K190:Value×Value×Value×Unit→World→Prop):Prop:=
 ∀_:Nat→Value,
 rv Tryz.prog (bin .lss 3 false s188.2.2.1 v186) w189 λv191 w192=>
 ifB v191
 (rv Tryz.prog (Instr.indexAt 46 v184 s188.2.2.1) w192 λv193 w194=>
 rv Tryz.prog (Instr.loadAt 112 v193) w194 λv195 w196=>
 rv Tryz.prog (Instr.alloc 112 true (.tuple #[])) w196 λv197 w198=>
 ru Tryz.prog (Instr.storeAt 112 v197 v195) w198 λw199=>
 rv Tryz.prog (Instr.loadAt 23 v65) w199 λv200 w201=>
 rv Tryz.prog (Instr.fieldAt 112 v197 0) w201 λv202 w203=>
 rv Tryz.prog (Instr.loadAt 35 v202) w203 λv204 w205=>
 Ca Tryz.prog 49 #[v200,v204] w205 λv206 w207=>
 rv Tryz.prog (Instr.extract v206 0) w207 λv208 w209=>
 rv Tryz.prog (Instr.extract v206 1) w209 λv210 w211=>
 rx Tryz.prog (bigA 108) w211 λv212 w213=>
 rux Tryz.prog (bigU 108 v212 v208) w213 λw214=>
 rv Tryz.prog (Op.unary .not v210) w214 λv215 w216=>
 ifB v215
 (retD (mk89++[]) w216 λw217=>
 K (.tuple #[(.pointer none),(.int .i64 2)]) w217)
 (rv Tryz.prog (bin .add 3 true s188.2.2.1 (.int .i64 1)) w216 λv218 w219=>
 K190 (s188.1,s188.2.1,v218,()) w219))
 (rv Tryz.prog (Instr.loadAt 23 v65) w192 λv220 w221=>
 rv Tryz.prog (Instr.loadAt 49 v0) w221 λv222 w223=>
 Ca Tryz.prog 50 #[v220,v222] w223 λv224 w225=>
 rv Tryz.prog (Op.unary .not v224) w225 λv226 w227=>
 ifB v226
 (retD (mk89++[]) w227 λw228=>
 K (.tuple #[(.pointer none),(.int .i64 2)]) w228)
 (rv Tryz.prog (Instr.loadAt 23 v65) w227 λv229 w230=>
 Ca Tryz.prog 14 #[v229] w230 λv231 w232=>
 rv Tryz.prog (Instr.alloc 49 true (.tuple #[])) w232 λv233 w234=>
 ru Tryz.prog (Instr.storeAt 49 v233 v231) w234 λw235=>
 JoinW (S:=Value×Unit) (λJ238=>
 rv Tryz.prog (Instr.fieldAt 49 v233 6) w235 λv239 w240=>
 rv Tryz.prog (Instr.loadAt 47 v239) w240 λv241 w242=>
 rv Tryz.prog (Instr.fieldAt 49 v0 6) w242 λv243 w244=>
 rv Tryz.prog (Instr.loadAt 47 v243) w244 λv245 w246=>
 Ca Tryz.prog 51 #[v241,v245] w246 λv247 w248=>
 rv Tryz.prog (Op.unary .not v247) w248 λv249 w250=>
 ifB v249
 (J238 ((.bool true),()) w250)
 (rv Tryz.prog (Instr.fieldAt 49 v233 7) w250 λv251 w252=>
 rv Tryz.prog (Instr.loadAt 47 v251) w252 λv253 w254=>
 rv Tryz.prog (Instr.fieldAt 49 v0 7) w254 λv255 w256=>
 rv Tryz.prog (Instr.loadAt 47 v255) w256 λv257 w258=>
 Ca Tryz.prog 51 #[v253,v257] w258 λv259 w260=>
 rv Tryz.prog (Op.unary .not v259) w260 λv261 w262=>
 J238 (v261,()) w262))
 (J13_2 mk89 K v65)))
def R13_4(v65:Value)(l70:Nat)(x71:List Value)(w72:World)(KN73:World→Prop)(KJ74:Code→World→Prop):Prop:=
 rx Tryz.prog (bigA 108) w72 λv75 w76=>
 rux Tryz.prog (bigU 108 v75 (x71.getD 0 undef)) w76 λw77=>
 beginK l70 w77 λw78=>
 rdW Tryz.prog (Instr.loadAt 23 v65) w78.drew λv79=>
 nilK v79 λv80=>rdP Tryz.prog (Instr.fieldAt 66 v80 2) λv81=>
 rdW Tryz.prog (Instr.loadAt 63 v81) w78.drew λv82=>
 rdP Tryz.prog (Instr.fieldAt 108 v75 0) λv83=>
 rdP Tryz.prog (Instr.fieldAt 38 v83 0) λv84=>
 rdW Tryz.prog (Instr.loadAt 35 v84) w78.drew λv85=>
 Ca Tryz.prog 48 #[] w78.drew λv86 w87=>
 Sem.run Tryz.prog (Instr.loadAt 35 v84) w87=.ok v85 w87∧Sem.run Tryz.prog (Instr.loadAt 63 v81) w87=.ok v82 w87∧Sem.run Tryz.prog (Instr.loadAt 23 v65) w87=.ok v79 w87∧
 (rux Tryz.prog (xMapUp 63 v82 v85 v86) w87 λw88=>
 KN73 w88)
def A13_5(v0:Value)(v65:Value)(K:Kont)(mk89:List Nat)(pd90:Option Code)(w91:World):Prop:=
 afterK
 (λw92=>
 rv Tryz.prog (Instr.fieldAt 49 v0 5) w92 λv93 w94=>
 rv Tryz.prog (Instr.loadAt 46 v93) w94 λv95 w96=>
 rn Tryz.prog (builtin .len #[46] 3 #[false] #[v95]) w96 λv97 w98=>
 LoopW (S:=Value×Value×Value×Unit) (L13_1 v97 v95 v65 mk89 K v0) ((.pointer none),(.int .i64 0),(.int .i64 0),()) w98)
 (λw178=>
 retD (mk89++[]) w178 λw179=>
 K (.tuple #[(.pointer none),(.int .i64 0)]) w179)
 (λi181 w180=>
 bc (Nat.beq i181 0)
 (rv Tryz.prog (Instr.fieldAt 49 v0 5) w180 λv182 w183=>
 rv Tryz.prog (Instr.loadAt 46 v182) w183 λv184 w185=>
 rn Tryz.prog (builtin .len #[46] 3 #[false] #[v184]) w185 λv186 w187=>
 LoopW (S:=Value×Value×Value×Unit) (L13_3 v186 v184 v65 mk89 K v0) ((.pointer none),(.int .i64 0),(.int .i64 0),()) w187)
 (False)) pd90 w91
def J13_6(K:Kont)(v0:Value)(v12:Value)(v32:Value)(s38:Value×Unit)(w39:World):Prop:=
 ∀_:Nat→Value,
 ifB s38.1
 (K (.tuple #[(.pointer none),(.int .i64 2)]) w39)
 (rv Tryz.prog (Instr.makeMap 63 none) w39 λv53 w54=>
 rv Tryz.prog (Instr.makeMap 64 none) w54 λv55 w56=>
 rv Tryz.prog (Instr.fieldAt 49 v0 1) w56 λv57 w58=>
 rv Tryz.prog (Instr.loadAt 27 v57) w58 λv59 w60=>
 rv Tryz.prog (Instr.build 66 #[(0,v12),(1,v32),(2,v53),(3,v55),(4,v59)]) w60 λv61 w62=>
 rv Tryz.prog (Instr.box 66 v61) w62 λv63 w64=>
 rv Tryz.prog (Instr.alloc 23 true (.tuple #[])) w64 λv65 w66=>
 ru Tryz.prog (Instr.storeAt 23 v65 v63) w66 λw67=>
 Ca Tryz.prog 47 #[v12] w67 λv68 w69=>
 RFW Tryz.prog none v68 w69 1 (R13_4 v65) (A13_5 v0 v65 K))
def F13(a0:Value)(w:World)(K:Kont):Prop:=
 rv Tryz.prog (Instr.box 49 a0) w λv0 w1=>
 rv Tryz.prog (Instr.fieldAt 49 v0 0) w1 λv2 w3=>
 rv Tryz.prog (Instr.loadAt 35 v2) w3 λv4 w5=>
 rv Tryz.prog (Instr.fieldAt 49 v0 4) w5 λv6 w7=>
 rv Tryz.prog (Instr.loadAt 45 v6) w7 λv8 w9=>
 Ca Tryz.prog 45 #[v4,v8] w9 λv10 w11=>
 rv Tryz.prog (Instr.extract v10 0) w11 λv12 w13=>
 rv Tryz.prog (Instr.extract v10 1) w13 λv14 w15=>
 rv Tryz.prog (bin .neq 26 true v14 (.int .i64 0)) w15 λv16 w17=>
 ifB v16
 (K (.tuple #[(.pointer none),v14]) w17)
 (rv Tryz.prog (Instr.fieldAt 49 v0 2) w17 λv18 w19=>
 rv Tryz.prog (Instr.loadAt 2 v18) w19 λv20 w21=>
 rv Tryz.prog (Instr.fieldAt 49 v0 3) w21 λv22 w23=>
 rv Tryz.prog (Instr.loadAt 44 v22) w23 λv24 w25=>
 rv Tryz.prog (Instr.fieldAt 49 v0 5) w25 λv26 w27=>
 rv Tryz.prog (Instr.loadAt 46 v26) w27 λv28 w29=>
 Ca Tryz.prog 46 #[v20,v24,v28] w29 λv30 w31=>
 rv Tryz.prog (Instr.extract v30 0) w31 λv32 w33=>
 rv Tryz.prog (Instr.extract v30 1) w33 λv34 w35=>
 rv Tryz.prog (bin .neq 26 true v34 (.int .i64 0)) w35 λv36 w37=>
 ifB v36
 (K (.tuple #[(.pointer none),v34]) w37)
 (JoinW (S:=Value×Unit) (λJ40=>
 rv Tryz.prog (Instr.fieldAt 49 v0 1) w37 λv41 w42=>
 rv Tryz.prog (Instr.loadAt 27 v41) w42 λv43 w44=>
 rv Tryz.prog (bin .lss 27 true v43 (.int .u64 1)) w44 λv45 w46=>
 ifB v45
 (J40 ((.bool true),()) w46)
 (rv Tryz.prog (Instr.fieldAt 49 v0 1) w46 λv47 w48=>
 rv Tryz.prog (Instr.loadAt 27 v47) w48 λv49 w50=>
 rv Tryz.prog (bin .gtr 27 true v49 (.int .u64 4611686018427387905)) w50 λv51 w52=>
 J40 (v51,()) w52))
 (J13_6 K v0 v12 v32)))
theorem F13_eq(a0:Value)(w:World)(K:Kont):vcFnJ Tryz.prog Tryz.f13 [a0] w K=F13 a0 w K:=by kernel_rfl
theorem F13_ok:okF Tryz.prog Tryz.f13 1=true:=by kernel_rfl
theorem ca13{a0:Value}{w:World}{K:Kont}(h:F13 a0 w K):Ca Tryz.prog 13 #[a0] w K:=
 ca_of_vcJ Tryz.noNum Tryz.func13 F13_ok (by rw[F13_eq];exact h)
def L51_0(v6:Value)(a0:Value)(a1:Value)(K:Kont)(s8:Value×Value×Unit)(w9:World)(K10:Value×Value×Unit→World→Prop):Prop:=
 ∀_:Nat→Value,
 rv Tryz.prog (bin .lss 3 false s8.2.1 v6) w9 λv11 w12=>
 ifB v11
 (rdP Tryz.prog (Instr.indexAt 47 a0 s8.2.1) λv13=>
 rdW Tryz.prog (Instr.loadAt 119 v13) w12.drew λv14=>
 rdP Tryz.prog (Instr.indexAt 47 a1 s8.2.1) λv15=>
 rdW Tryz.prog (Instr.loadAt 119 v15) w12.drew λv16=>
 rdP Tryz.prog (bin .neq 119 false v14 v16) λv17=>
 ifB v17
 (K (.bool false) w12.drew)
 (rv Tryz.prog (bin .add 3 true s8.2.1 (.int .i64 1)) w12.drew λv18 w19=>
 K10 (s8.1,v18,()) w19))
 (K (.bool true) w12)
def F51(a0 a1:Value)(w:World)(K:Kont):Prop:=
 rn Tryz.prog (builtin .len #[47] 3 #[false] #[a0]) w λv0 w1=>
 rn Tryz.prog (builtin .len #[47] 3 #[false] #[a1]) w1 λv2 w3=>
 rv Tryz.prog (bin .neq 3 false v0 v2) w3 λv4 w5=>
 ifB v4
 (K (.bool false) w5)
 (rn Tryz.prog (builtin .len #[47] 3 #[false] #[a0]) w5 λv6 w7=>
 LoopW (S:=Value×Value×Unit) (L51_0 v6 a0 a1 K) ((.bool false),(.int .i64 0),()) w7)
theorem F51_eq(a0 a1:Value)(w:World)(K:Kont):vcFnJ Tryz.prog Tryz.f51 [a0,a1] w K=F51 a0 a1 w K:=by kernel_rfl
theorem F51_ok:okF Tryz.prog Tryz.f51 2=true:=by kernel_rfl
theorem ca51{a0 a1:Value}{w:World}{K:Kont}(h:F51 a0 a1 w K):Ca Tryz.prog 51 #[a0,a1] w K:=
 ca_of_vcJ Tryz.noNum Tryz.func51 F51_ok (by rw[F51_eq];exact h)
end Go.Proofs
namespace Go.Proofs
open Go Go.Vc
attribute [local congr] Ca_congV
theorem ctAtSp{W:World}{p off:Nat}{k:Ct}(h:At W p off (ctC k)):At W p off (spC k.spec):=by
 have:=h.sub 0 25 (by rw[ctC_len];omega)
 have e:((ctC k).drop 0).take 25=spC k.spec:=by
  show(spC k.spec++_).take 25=_
  rw[←spC_len k.spec,List.take_left]
 rw[e]at this
 exact this
abbrev CtB(W:World)(p:Nat)(k:Ct):Prop:=hp W p=some (.cells (ctC k).toArray tCt (0,0))
theorem ctBU{W:World}{p:Nat}{k k' :Ct}{K:World→Prop}(h:CtB W p k)(hK:∀W',CtB W' p k' →Mod (λy=>y=p) W W' →K W'):rux Tryz.prog (bigU tCt (.pointer (some ⟨p,0,none⟩)) (.agg (ctC k').toArray)) W K:=by
 have hh:W.heap[p]? =some (.cells (ctC k).toArray tCt (0,0)):=h
 have h1:(ctC k').all (·.oneCell')=true:=by
  unfold ctC
  rw[List.all_append,spC_one]
  rfl
 refine rux_bigU nCt (ctC_len k') hh (by rw[List.size_toArray,ctC_len,ctC_len];omega) h1 (hK _ ?_ ((Mod.refl (λy=>y=p) W).setRow (.inl rfl) _))
 show(W.setRow p _).heap[p]? =_
 rw[heap_setRow,if_pos rfl,hh,lay_all (by rw[ctC_len];simp[ctC_len])]
theorem newCtB{K:Kont}(w:World)(hK:∀w1,CtB w1 w.heap.size zCt0→Mod (λ_=>False) w w1→K (.pointer (some ⟨w.heap.size,0,none⟩)) w1):rx Tryz.prog (bigA tCt) w K:=by
 refine rx_bigA zCt ?_
 rw[zeroCt]
 exact hK _ (by show hp _ _=_;simp[go_sem]) ((Mod.refl _ w).alloc _)
theorem ctB0{W:World}{p:Nat}{k:Ct}(h:CtB W p k):(Instr.loadAt 35 (.pointer (some ⟨p,0,none⟩))).run Tryz.prog W=.ok (.int .u32 k.spec.num) W:=by
 have h' :hp W p=some (.cells (ctC k).toArray tCt (0,0)):=h
 simp[go_sem,h',ctT0]
theorem ctB25{W:World}{p:Nat}{k:Ct}(h:CtB W p k):(Instr.loadAt 106 (.pointer (some ⟨p,25,none⟩))).run Tryz.prog W=.ok (.int .u8 k.st) W:=by
 have h' :hp W p=some (.cells (ctC k).toArray tCt (0,0)):=h
 simp[go_sem,h',ctT25]
theorem ctB26{W:World}{p:Nat}{k:Ct}(h:CtB W p k):(Instr.loadAt 2 (.pointer (some ⟨p,26,none⟩))).run Tryz.prog W=.ok (.int .i64 k.price) W:=by
 have h' :hp W p=some (.cells (ctC k).toArray tCt (0,0)):=h
 simp[go_sem,h',ctT26]
theorem ctBF(p:Nat)(W:World):(Instr.fieldAt tCt (.pointer (some ⟨p,0,none⟩)) 0).run Tryz.prog W=.ok (.pointer (some ⟨p,0,none⟩)) W∧(Instr.fieldAt tCt (.pointer (some ⟨p,0,none⟩)) 1).run Tryz.prog W=.ok (.pointer (some ⟨p,25,none⟩)) W∧(Instr.fieldAt tCt (.pointer (some ⟨p,0,none⟩)) 2).run Tryz.prog W=.ok (.pointer (some ⟨p,26,none⟩)) W∧(Instr.fieldAt 38 (.pointer (some ⟨p,0,none⟩)) 0).run Tryz.prog W=.ok (.pointer (some ⟨p,0,none⟩)) W:=⟨by simp[go_sem],by simp[go_sem],by simp[go_sem],by simp[go_sem]⟩
theorem calUp_cons(n:Int)(k:Ct)(l:List Ct):calUp n (k::l)=(decide (n<k.spec.num)&& (decide (1≤k.st)&& (decide (k.st≤3)&& (k.spec.isPrice k.price&& calUp k.spec.num l)))):=rfl
set_option maxRecDepth 10000 in
set_option maxHeartbeats 1000000 in
theorem ca_calfrom{w:World}{K:Kont}{sl:Value}{day:Int}{l:List Ct}(h:Rd w 27 sl l.length (l.flatMap ctC))(hl:l.length≤100000)(hf:∀k∈l,k.Fit)(hd:U32' day)
  (hok:l.length≤16→calUp 0 l=true→∀c F w',CalQ w' c F ⟨day,l⟩→Mod (λ_=>False) w w' →(∀b,F b→w.heap.size≤b)→K (.tuple #[cptr c,.int .i64 0]) w')
  (hno:¬(l.length≤16∧calUp 0 l=true)→∀w',Mod (λ_=>False) w w' →K (.tuple #[.pointer none,.int .i64 2]) w'):Ca Tryz.prog 45 #[.int .u32 day,sl] w K:=by
 obtain⟨sa,sc,hsl⟩:=h.isSl
 apply ca45
 unfold F45
 have ln:∀W,(builtin .len #[tCts] 3 #[false] #[sl]).run Tryz.prog W=.ok (.value (.int .i64 (l.length:Int))) W:=λW=>by rw[hsl];simp[go_sem]
 refine rnS (ln _) ?_
 refine rvS (v:=.bool (decide (16<l.length))) (w' :=w) (by simp[go_sem];omega) ?_
 by_cases h16:16<l.length
 ·rw[ifB_bool,if_pos (by simpa using h16)]
  exact hno (λhc=>by omega) _ (Mod.refl _ _)
 rw[ifB_bool,if_neg (by simpa using h16)]
 refine rnS (ln _) ?_
 refine loopV (λst W=>∃(i:Nat) (last:Int) (x y:Value),i≤l.length∧st=(x,y,.int .u32 last,.int .i64 i,())∧calUp 0 l=calUp last (l.drop i)∧Mod (λ_=>False) w W)
  (λst _=>match st.2.2.2.1 with| .int _ i=>l.length - i.toNat|_=>0) ⟨0,0,_,_,by omega,rfl,rfl,Mod.refl _ _⟩ ?_
 rintro⟨_,_⟩ W ⟨i,last,x,y,hi,⟨⟩,hup,mW⟩ KN hKN
 unfold L45_1
 intro _
 refine rvS (v:=.bool (decide (i<l.length))) (w' :=W) (by simp[go_sem]) ?_
 by_cases hlt:i<l.length
 ·rw[ifB_bool,if_pos (by simpa using hlt)]
  obtain⟨b,off,cap,hse,hcap,hA⟩:=(h.mod mW λ_ _ h=>h).item ctC_len hlt rfl
  have hkf:=hf l[i] (List.getElem_mem hlt)
  rw[List.drop_eq_getElem_cons hlt]at hup
  generalize l[i]=k at hA hkf hup
  refine rvS (v:=.pointer (some ⟨b,off+i*27,none⟩)) (w' :=W) (by rw[hse];simp[go_sem,hlt,addr_add,uCts]) ?_
  refine rx_bigS (ctC k) 26 aCt nCt (ctC_len k) hA ?_
  refine newCtB _ λw1 b1 m1=>?_
  obtain⟨p,hp0⟩:∃p,p=W.heap.size:=⟨_,rfl⟩
  rw[←hp0]at b1⊢
  refine ctBU (k' :=k) b1 λw2 b2 m2=>?_
  have M2:Mod (λ_=>False) W w2:=m1.on m2 λy hy=>.inr (by omega)
  obtain⟨f0,f1,f2,f3⟩:=ctBF p w2
  rw[calUp_cons]at hup
  refine JoinW.at (λst W' =>st=(.bool (!(decide (last<k.spec.num)&& (decide (1≤k.st)&& (decide (k.st≤3)&& k.spec.isPrice k.price)))),())∧Mod (λ_=>False) w2 W') ?_ ?_
  ·refine rvS f0 (rvS f3 (rvS (ctB0 b2) ?_))
   refine rvS (v:=.bool (decide (k.spec.num≤last))) (w' :=w2) (by simp[go_sem]) ?_
   by_cases c1:k.spec.num≤last
   ·rw[ifB_bool,if_pos (by simpa using c1)]
    have:¬last<k.spec.num:=by omega
    exact⟨by simp[this],Mod.refl _ _⟩
   rw[ifB_bool,if_neg (by simpa using c1)]
   have c1' :last<k.spec.num:=by omega
   refine rvS f1 (rvS (ctB25 b2) ?_)
   refine rvS (v:=.bool (decide (k.st<1))) (w' :=w2) (by simp[go_sem]) ?_
   by_cases c2:k.st<1
   ·rw[ifB_bool,if_pos (by simpa using c2)]
    have:¬1≤k.st:=by omega
    exact⟨by simp[this],Mod.refl _ _⟩
   rw[ifB_bool,if_neg (by simpa using c2)]
   have c2' :1≤k.st:=by omega
   refine rvS f1 (rvS (ctB25 b2) ?_)
   refine rvS (v:=.bool (decide (3<k.st))) (w' :=w2) (by simp[go_sem]) ?_
   by_cases c3:3<k.st
   ·rw[ifB_bool,if_pos (by simpa using c3)]
    have:¬k.st≤3:=by omega
    exact⟨by simp[this],Mod.refl _ _⟩
   rw[ifB_bool,if_neg (by simpa using c3)]
   have c3' :k.st≤3:=by omega
   refine rvS f0 (rx_bigS (spC k.spec) 24 aSp nSp (spC_len _) (ctAtSp (At.all b2)) ?_)
   refine rvS f2 (rvS (ctB26 b2) ?_)
   refine ca_isPrice hkf.1 λw3 m3=>?_
   refine rvS (v:=.bool (!k.spec.isPrice k.price)) (w' :=w3) (by simp[go_sem]) ?_
   exact⟨by simp[c1',c2',c3'],m3⟩
  rintro _ w3 ⟨rfl,m3⟩
  unfold J45_0
  intro _
  have M3:=(mW.trans M2).trans m3
  cases hc:(decide (last<k.spec.num)&& (decide (1≤k.st)&& (decide (k.st≤3)&& k.spec.isPrice k.price)))with
  |false=>
   rw[show(!false)=true from rfl,ifB_bool,if_pos rfl]
   refine hno (λhcc=>?_) _ M3
   rw[hup]at hcc
   have:=hcc.2
   simp only[Bool.and_eq_true,decide_eq_true_eq]at this hc
   simp only[Bool.and_eq_false_iff,decide_eq_false_iff_not]at hc
   obtain⟨a1,a2,a3,a4,-⟩:=this
   rcases hc with hc|hc|hc|hc
   ·exact hc a1
   ·exact hc a2
   ·exact hc a3
   ·rw[a4]at hc;cases hc
  |true=>
   rw[show(!true)=false from rfl,ifB_bool,if_neg Bool.false_ne_true]
   have b3:CtB w3 p k:=m3.hpk b2 id
   obtain⟨g0,g1,g2,g3⟩:=ctBF p w3
   refine rvS g0 (rvS g3 (rvS (ctB0 b3) ?_))
   refine rvS (v:=.int .i64 ((i+1:Nat):Int)) (w' :=w3) (by simp[go_sem];rw[wrapI (by omega) (by omega)]) ?_
   refine hKN _ _ ⟨i+1,k.spec.num,_,_,by omega,rfl,?_,M3⟩ (by show l.length - (((i+1:Nat):Int)).toNat<l.length - ((i:Int)).toNat;omega)
   rw[hup]
   simp only[Bool.and_eq_true,decide_eq_true_eq]at hc
   obtain⟨a1,a2,a3,a4⟩:=hc
   simp[a1,a2,a3,a4]
 ·obtain rfl:i=l.length:=by omega
  rw[ifB_bool,if_neg (by simp)]
  rw[List.drop_length]at hup
  have hup' :calUp 0 l=true:=hup
  refine ca_cloneCt (l:=l) (h.mod mW λ_ _ h=>h) (by omega) λs3 w3 o3 m3 n3=>?_
  obtain⟨ta,tc,hs3,-⟩:=o3.isSl
  refine rvS (v:=.agg #[.bool true,.int .u32 day,s3]) (w' :=w3) (by rw[hs3];simp[go_sem]) ?_
  obtain⟨q,hq⟩:∃q,q=w3.heap.size:=⟨_,rfl⟩
  have m4:Mod (λ_=>False) w3 (w3.alloc (.cells #[.bool true,.int .u32 day,s3] 197)):=(Mod.refl _ _).alloc _
  have b4:hp (w3.alloc (.cells #[.bool true,.int .u32 day,s3] 197)) q=some (.cells #[.bool true,.int .u32 day,s3] 197 (0,0)):=by rw[hq];simp[go_sem]
  refine rvS (v:=cptr q) (w' :=w3.alloc (.cells #[.bool true,.int .u32 day,s3] 197)) (by rw[hq];rfl) ?_
  have hs:=mW.size
  have hs3' :=m3.size
  obtain⟨u1,u2⟩:=calUp_spec hup'
  refine hok (by omega) hup' q (λb=>b=q∨inSl s3 b) _ ⟨⟨s3,b4,o3.mod m4 λ_ _ h=>h,λb=>Iff.rfl,λhc=>by have:=o3.lt hc;omega⟩,by show l.length≤16;omega,hd,λk hk=>?_,u2⟩ ((mW.trans m3).trans m4) λb hb=>?_
  ·obtain⟨a1,a2,a3,a4⟩:=u1 k hk
   have:=a4
   unfold Sp.isPrice at this
   exact⟨hf k hk,(Bool.and_eq_true _ _▸this).1,a4,a2,a3⟩
  ·rcases hb with rfl|hb
   ·omega
   ·have:=n3 b hb;omega
theorem alive_eq(l:List Ct)(n:Int):decide (calAlive l n=0)=(decide ((calGetR l n).2=0)&& decide ((calGetR l n).1.st≠3)):=by
 unfold calAlive calGetR
 cases calGet l n with
 |none=>simp
 |some k=>
  by_cases h:k.st=3
  ·simp[h]
  ·simp[h]
theorem ca_valive{w:World}{K:Kont}{v c l mb md:Nat}{A:List (Int×Nat)}{D:List (Int×Value)}{fp:Pt→Nat→Prop}{S:Ven}{n:Int}(h:VenR w v c l mb md A D fp S)
  (hK:∀w',Mod (λ_=>False) w w' →K (.tuple #[.agg (ctC (calGetR S.cal.l n).1).toArray,.bool (decide (calAlive S.cal.l n=0))]) w'):Ca Tryz.prog 49 #[vptr v,.int .u32 n] w K:=by
 apply ca49
 unfold F49
 rw[alive_eq]at hK
 refine newCtB _ λw1 b1 m1=>?_
 obtain⟨p,hp0⟩:∃p,p=w.heap.size:=⟨_,rfl⟩
 rw[←hp0]at b1⊢
 have h1:=h.md0 m1
 simp only[vptr,nilK_ptr]
 refine rvS (fldV 0 (by omega) _) (rvS (ld0 _ h1.blk) ?_)
 refine ca_cget h1.cal λw2 m2=>?_
 generalize calGetR S.cal.l n=x at hK⊢
 refine rvS (by simp[-Int.natCast_add,go_sem]<;>first|exact⟨rfl,rfl⟩|exact rfl) ?_
 refine rvS (by simp[-Int.natCast_add,go_sem]<;>first|exact⟨rfl,rfl⟩|exact rfl) ?_
 have b2:CtB w2 p zCt0:=m2.hpk b1 id
 refine newCtB _ λw3 b3 m3=>?_
 obtain⟨q,hq0⟩:∃q,q=w2.heap.size:=⟨_,rfl⟩
 rw[←hq0]at b3⊢
 refine ctBU (k' :=x.1) b3 λw4 b4 m4=>?_
 have hpq:p<q:=by have:=lt_of_heap b2;omega
 have md:=(Mod.refl (λ_=>False) w4).drew
 have b4' :CtB w4.drew q x.1:=md.hpk b4 id
 have p4:CtB w4.drew p zCt0:=md.hpk (m4.hpk (m3.hpk b2 id) (by omega)) id
 have M4:Mod (λ_=>False) w w4.drew:=(((m1.trans m2).trans m3).on m4 λy hy=>.inr (by have:=m1.size;have:=m2.size;omega)).trans md
 generalize w4.drew=u at b4' p4 M4⊢
 have hwp:w.heap.size≤p:=by omega
 refine rdX_bigS (ctC x.1) 26 aCt nCt (ctC_len _) (At.all b4') ?_
 refine rdPS (v:=.bool (decide (x.2=0))) (λW=>by simp[go_sem];try rw[Bool.eq_iff_iff];simp) ?_
 by_cases hx:x.2=0
 ·rw[ifB_bool,if_pos (by simpa using hx)]
  refine rdPS (λW=>(ctBF q W).2.1) (rdWS (ctB25 b4') ?_)
  refine rdPS (v:=.bool (decide (x.1.st≠3))) (λW=>by simp[go_sem];try rw[Bool.eq_iff_iff];simp) ?_
  refine ctBU (k' :=x.1) p4 λw5 b5 m5=>?_
  refine⟨ctB25 (m5.hpk b4' (by omega)),?_⟩
  refine rdX_bigS (ctC x.1) 26 aCt nCt (ctC_len _) (At.all b5) ?_
  have:=hK w5 (M4.on m5 λy hy=>.inr (by omega))
  rw[hx]at this
  simpa using this
 ·rw[ifB_bool,if_neg (by simpa using hx)]
  refine ctBU (k' :=x.1) p4 λw5 b5 m5=>?_
  refine rdX_bigS (ctC x.1) 26 aCt nCt (ctC_len _) (At.all b5) ?_
  have:=hK w5 (M4.on m5 λy hy=>.inr (by omega))
  simpa [hx]using this
end Go.Proofs
namespace Go.Proofs
open Go Go.Vc
attribute [local congr] Ca_congV
abbrev tNums:TypeId:=232
theorem zIntF:zeroOfT Tryz.prog 3=some (.int .i64 0):=by kernel_rfl
def NumAt(w:World)(mn:Nat)(U:List Int):Prop:=∃L:List (Int×Int),MapAt encN i64v w mn L∧∀n,(lk L n).getD 0=if n∈U then 1 else 0
theorem NumAt.mod{F:Nat→Prop}{w w' :World}{mn:Nat}{U:List Int}(h:NumAt w mn U)(hm:Mod F w w')(h1:¬F mn):NumAt w' mn U:=by
 obtain⟨L,h2,h3⟩:=h
 exact⟨L,h2.mod hm h1,h3⟩
theorem NumAt.lt{w:World}{mn:Nat}{U:List Int}(h:NumAt w mn U):mn<w.heap.size:=by
 obtain⟨L,h2,h3⟩:=h
 exact h2.lt
theorem NumAt.look{w:World}{mn:Nat}{U:List Int}(h:NumAt w mn U)(n:Int):(xLook tNums (.map (some mn)) (.int .u64 n) false).run Tryz.prog w=.ok (.int .i64 (if n∈U then 1 else 0)) w:=by
 obtain⟨L,h2,h3⟩:=h
 have:=run_lookup (ok:=false) (x:=n) uMapN kU64 zIntF (.inr ⟨mn,rfl,h2⟩:MapV encN i64v w (.map (some mn)) L)
 rw[←h3 n]
 cases hl:lk L n with
 |none=>rw[hl]at this;exact this
 |some x=>rw[hl]at this;exact this
theorem NumAt.add{w:World}{mn:Nat}{U:List Int}{n:Int}{K:World→Prop}(h:NumAt w mn U)(hn:n ∉ U)(hK:∀w',NumAt w' mn (n::U)→Mod (λy=>y=mn) w w' →K w'):rux Tryz.prog (xMapUp tNums (.map (some mn)) (.int .u64 n) (.int .i64 1)) w K:=by
 obtain⟨L,h2,h3⟩:=h
 refine rux_mapUp (enc:=encN) (ev:=i64v) (x:=n) (v:=1) uMapN kU64 h2 λw' h' m' _=>hK w' ⟨_,h',λm=>?_⟩ m'
 rw[lk_put]
 by_cases hm:n=m
 ·rw[if_pos hm];simp[hm]
 ·rw[if_neg hm,h3 m]
  have:m∈n::U↔m∈U:=by simp;omega
  simp[this,Ne.symm hm]
abbrev tSdF:TypeId:=119
def sdVF(x:Int×Od):Value:=.agg (sdOC x).toArray
abbrev SdB(W:World)(p:Nat)(x:Int×Od):Prop:=hp W p=some (.cells (sdOC x).toArray tSdF (0,0))
theorem boxSd(x:Int×Od)(w:World):∃w1,(Instr.box tSdF (sdVF x)).run Tryz.prog w=.ok (.pointer (some ⟨w.heap.size,0,none⟩)) w1∧SdB w1 w.heap.size x∧Mod (λ_=>False) w w1:=
 ⟨w.alloc (.cells (sdOC x).toArray tSdF),rfl,by show hp _ _=_;simp[go_sem],(Mod.refl _ w).alloc _⟩
theorem sdBF(p:Nat)(W:World):(Instr.fieldAt tSdF (.pointer (some ⟨p,0,none⟩)) 0).run Tryz.prog W=.ok (.pointer (some ⟨p,0,none⟩)) W∧(Instr.fieldAt tSdF (.pointer (some ⟨p,0,none⟩)) 1).run Tryz.prog W=.ok (.pointer (some ⟨p,1,none⟩)) W:=⟨by simp[go_sem],by simp[go_sem]⟩
theorem sdB0{W:World}{p:Nat}{x:Int×Od}(h:SdB W p x):(Instr.loadAt 35 (.pointer (some ⟨p,0,none⟩))).run Tryz.prog W=.ok (.int .u32 x.1) W:=by
 have h' :hp W p=some (.cells (sdOC x).toArray tSdF (0,0)):=h
 simp only[sdOC,odC]at h'
 simp[go_sem,h']
theorem sdB1{W:World}{p:Nat}{x:Int×Od}(h:SdB W p x):(Instr.loadAt tOd (.pointer (some ⟨p,1,none⟩))).run Tryz.prog W=.ok (odV x.2) W:=by
 have hA:At W p 0 (sdOC x):=At.all h
 have:=hA.sub 1 5 (by show 1+5≤6;omega)
 have e:((sdOC x).drop 1).take 5=odC x.2:=rfl
 rw[e,Nat.zero_add]at this
 exact ldOd this
theorem odBF(i:Nat)(hi:i<5)(p:Nat)(W:World):(Instr.fieldAt tOd (.pointer (some ⟨p,0,none⟩)) i).run Tryz.prog W=.ok (.pointer (some ⟨p,i,none⟩)) W:=by
 have:i=0∨i=1∨i=2∨i=3∨i=4:=by omega
 rcases this with rfl|rfl|rfl|rfl|rfl<;>simp[go_sem]
abbrev OdB(W:World)(p:Nat)(o:Od):Prop:=hp W p=some (.cells (odC o).toArray tOd (0,0))
theorem odBL{W:World}{p:Nat}{o:Od}(h:OdB W p o):(Instr.loadAt 27 (.pointer (some ⟨p,0,none⟩))).run Tryz.prog W=.ok (.int .u64 o.num) W∧(Instr.loadAt 35 (.pointer (some ⟨p,1,none⟩))).run Tryz.prog W=.ok (.int .u32 o.acct) W∧(Instr.loadAt 2 (.pointer (some ⟨p,3,none⟩))).run Tryz.prog W=.ok (.int .i64 o.price) W∧(Instr.loadAt 2 (.pointer (some ⟨p,4,none⟩))).run Tryz.prog W=.ok (.int .i64 o.left) W:=by
 have h' :hp W p=some (.cells (odC o).toArray tOd (0,0)):=h
 simp only[odC]at h'
 exact⟨by simp[go_sem,h'],by simp[go_sem,h'],by simp[go_sem,h'],by simp[go_sem,h']⟩
abbrev AcB(W:World)(p:Nat)(a:Ac):Prop:=hp W p=some (.cells (cellsAc a).toArray 92 (0,0))
theorem acBF(p:Nat)(W:World):(Instr.fieldAt 92 (.pointer (some ⟨p,0,none⟩)) 2).run Tryz.prog W=.ok (.pointer (some ⟨p,2,none⟩)) W∧(Instr.fieldAt 92 (.pointer (some ⟨p,0,none⟩)) 3).run Tryz.prog W=.ok (.pointer (some ⟨p,3,none⟩)) W:=⟨by simp[go_sem],by simp[go_sem]⟩
theorem acBL{W:World}{p:Nat}{a:Ac}(h:AcB W p a):(Instr.loadAt 4 (.pointer (some ⟨p,2,none⟩))).run Tryz.prog W=.ok (.bool a.kil) W∧(Instr.loadAt 4 (.pointer (some ⟨p,3,none⟩))).run Tryz.prog W=.ok (.bool a.dfl) W:=by
 have h' :hp W p=some (.cells (cellsAc a).toArray 92 (0,0)):=h
 simp only[cellsAc]at h'
 exact⟨by simp[go_sem,h'],by simp[go_sem,h']⟩
theorem newAcF(W:World):∃w1,(Instr.alloc 92 true (.tuple #[])).run Tryz.prog W=.ok (.pointer (some ⟨W.heap.size,0,none⟩)) w1∧AcB w1 W.heap.size ⟨0,0,false,false⟩∧Mod (λ_=>False) W w1:=
 ⟨W.alloc (.cells (cellsAc ⟨0,0,false,false⟩).toArray 92),by simp[go_sem,cellsAc],by show hp _ _=_;simp[go_sem],(Mod.refl _ W).alloc _⟩
theorem setAcF{W:World}{p:Nat}{a:Ac}(b:Ac)(h:AcB W p a):∃W',(Instr.storeAt 92 (.pointer (some ⟨p,0,none⟩)) (acV b)).run Tryz.prog W=.ok () W' ∧AcB W' p b∧Mod (λy=>y=p) W W' :=by
 have h' :hp W p=some (.cells (cellsAc a).toArray 92 (0,0)):=h
 simp only[cellsAc]at h'
 exact⟨(((W.setCell ⟨p,0,none⟩ (.int .u32 b.num)).setCell ⟨p,1,none⟩ (.int .i64 b.cash)).setCell ⟨p,2,none⟩ (.bool b.kil)).setCell ⟨p,3,none⟩ (.bool b.dfl),by simp[go_sem,h',acV],by show hp _ _=_;simp[go_sem,h',cellsAc],((((Mod.refl (λy=>y=p) W).setCell (.inl rfl) _ _).setCell (.inl rfl) _ _).setCell (.inl rfl) _ _).setCell (.inl rfl) _ _⟩
theorem stB_eq(L:Led)(a:Int):L.stB a=(decide ((L.getV a).2=0)&& (!(L.getV a).1.dfl&& !(L.getV a).1.kil)):=by
 unfold Led.stB Led.getV
 cases L.getO a with
 |none=>simp
 |some x=>simp
set_option maxRecDepth 10000 in
set_option maxHeartbeats 4000000 in
theorem ca_vstands{w:World}{K:Kont}{v c l mb md mn:Nat}{A:List (Int×Nat)}{D:List (Int×Value)}{fp:Pt→Nat→Prop}{S:Ven}{lots:Bool}{U:List Int}{x:Int×Od}(h:VenR w v c l mb md A D fp S)(hN:NumAt w mn U)(hmn:¬allP fp mn)
  (hK1:S.stnd lots U x=true→∀w',VenR w' v c l mb md A D fp S→NumAt w' mn (x.2.num::U)→Mod (λy=>y=mn) w w' →K (.bool true) w')
  (hK0:S.stnd lots U x=false→∀w',Mod (λ_=>False) w w' →K (.bool false) w'):Ca Tryz.prog 134 #[vptr v,sdVF x,.bool lots,.map (some mn)] w K:=by
 apply ca134
 unfold F134
 obtain⟨w1,e1,b1,m1⟩:=boxSd x w
 obtain⟨p,hp0⟩:∃p,p=w.heap.size:=⟨_,rfl⟩
 rw[←hp0]at e1 b1
 refine rvS e1 (rvS (sdBF p _).2 (rvS (sdB1 b1) ?_))
 obtain⟨w2,e2,b2,m2⟩:=newOd w1
 obtain⟨q,hq0⟩:∃q,q=w1.heap.size:=⟨_,rfl⟩
 rw[←hq0]at e2 b2
 refine rvS e2 ?_
 obtain⟨w3,e3,b3,m3⟩:=setOd (o' :=x.2) b2
 refine ruS e3 ?_
 have hpq:p<q:=by have:=lt_of_heap b1;omega
 have M3:Mod (λ_=>False) w w3:=(m1.trans m2).on m3 λy hy=>.inr (by omega)
 have b13:SdB w3 p x:=m3.hpk (m2.hpk b1 id) (by omega)
 refine rvS (sdBF p _).1 (rvS (sdB0 b13) ?_)
 refine ca_valive (h.md0 M3) λw4 m4=>?_
 have o4:OdB w4 q x.2:=m4.hpk b3 id
 have h4:=h.md0 (M3.trans m4)
 obtain⟨k,hk⟩:∃k,k=calGetR S.cal.l x.1:=⟨_,rfl⟩
 rw[←hk]
 refine rvS (by simp[-Int.natCast_add,go_sem]<;>first|exact⟨rfl,rfl⟩|exact rfl) ?_
 refine rvS (by simp[-Int.natCast_add,go_sem]<;>first|exact⟨rfl,rfl⟩|exact rfl) ?_
 refine newCtB _ λw5 b5 m5=>?_
 obtain⟨z,hz0⟩:∃z,z=w4.heap.size:=⟨_,rfl⟩
 rw[←hz0]at b5⊢
 have hqz:q<z:=by have:=lt_of_heap o4;omega
 refine ctBU (k' :=k.1) b5 λw6 b6 m6=>?_
 have md:=(Mod.refl (λ_=>False) w6).drew
 have o6:OdB w6.drew q x.2:=md.hpk (m6.hpk (m5.hpk o4 id) (by omega)) id
 have b6' :CtB w6.drew z k.1:=md.hpk b6 id
 have hw0:w.heap.size≤p:=by omega
 have M6:Mod (λ_=>False) w w6.drew:=(((M3.trans m4).trans m5).on m6 λy hy=>.inr (by omega)).trans md
 have h6:=h.md0 M6
 have hN6:=hN.mod M6 id
 generalize w6.drew=u at o6 b6' M6 h6 hN6⊢
 obtain⟨g,hg⟩:∃g,g=S.led.getV x.2.acct:=⟨_,rfl⟩
 refine JoinW.at (λst W=>∃pa,st=(.pointer (some ⟨pa,0,none⟩),.int .i64 g.2,())∧AcB W pa g.1∧Mod (λ_=>False) u W) ?_ ?_
 ·simp only[vptr,nilK_ptr]
  refine rdPS (λW=>fldV 1 (by omega) W) (rdWS (ld1 _ h6.blk) ?_)
  refine rdPS (λW=>odBF 1 (by omega) q W) (rdWS (odBL o6).2.1 ?_)
  refine⟨?_,?_⟩
  ·refine ca_get h6.led λw7 m7=>?_
   rw[←hg]
   refine rdPS (v:=acV g.1) (λW=>by simp[go_sem]) (rdPS (v:=.int .i64 g.2) (λW=>by simp[go_sem]) ?_)
   obtain⟨w8,e8,b8,m8⟩:=newAcF w7
   obtain⟨w9,e9,b9,m9⟩:=setAcF g.1 b8
   refine rvS e8 (ruS e9 ?_)
   exact⟨_,rfl,b9,(m7.trans m8).on m9 λy hy=>.inr (by have:=m7.size;omega)⟩
  ·obtain⟨w8,e8,b8,m8⟩:=newAcF u
   refine rvS e8 ?_
   refine⟨(odBL (m8.hpk o6 id)).2.1,ld1 _ (h6.md0 m8).blk,?_⟩
   refine ca_get (h6.md0 m8).led λw9 m9=>?_
   rw[←hg]
   refine rdPS (v:=acV g.1) (λW=>by simp[go_sem]) (rdPS (v:=.int .i64 g.2) (λW=>by simp[go_sem]) ?_)
   obtain⟨w10,e10,b10,m10⟩:=setAcF g.1 (m9.hpk b8 id)
   refine ruS e10 ?_
   exact⟨_,rfl,b10,(m8.trans m9).on m10 λy hy=>.inr (by omega)⟩
 rintro _ w7 ⟨pa,rfl,a7,m7⟩
 unfold J134_1
 intro _
 have h7:=h6.md0 m7
 have o7:OdB w7 q x.2:=m7.hpk o6 id
 have b7:CtB w7 z k.1:=m7.hpk b6' id
 have N7:=hN6.mod m7 id
 have M7:=M6.trans m7
 have hstn:S.stnd lots U x=(decide (calAlive S.cal.l x.1=0)&& ((decide (g.2=0)&& (!g.1.dfl&& !g.1.kil))&& (x.2.may&& (k.1.spec.isPrice x.2.price&& ((!lots||k.1.spec.isQty x.2.left)&& (decide (x.2.num<S.next)&& !U.contains x.2.num)))))):=by
  unfold Ven.stnd
  rw[stB_eq,←hg,←hk]
 refine JoinW.at (λst W=>st=(.bool (!S.stnd lots U x),())∧Mod (λ_=>False) w7 W) ?_ ?_
 ·refine rdPS (v:=.bool (!decide (calAlive S.cal.l x.1=0))) (λW=>by simp[go_sem]) ?_
  have mD:=(Mod.refl (λ_=>False) w7).drew
  by_cases c1:calAlive S.cal.l x.1=0
  rotate_left
  ·rw[ifB_bool,if_pos (by simpa using c1)]
   exact⟨by rw[hstn];simp[c1],mD⟩
  rw[ifB_bool,if_neg (by simpa using c1)]
  have hkf:k.1.Fit:=by
   obtain⟨k0,a1,-,-,a2⟩:=alive_get c1
   have:k=(k0,0):=by rw[hk];unfold calGetR;rw[a1]
   rw[this]
   exact(h.cal.ok k0 a2).1
  refine rdPS (v:=.bool (decide (g.2≠0))) (λW=>by simp[go_sem];try rw[Bool.eq_iff_iff];simp) ?_
  by_cases c2:g.2=0
  rotate_left
  ·rw[ifB_bool,if_pos (by simpa using c2)]
   exact⟨by rw[hstn];simp[c1,c2],mD⟩
  rw[ifB_bool,if_neg (by simpa using c2)]
  have a8:AcB w7.drew pa g.1:=mD.hpk a7 id
  have o8:OdB w7.drew q x.2:=mD.hpk o7 id
  have b8:CtB w7.drew z k.1:=mD.hpk b7 id
  have h8:=h7.md0 mD
  have N8:=N7.mod mD id
  generalize w7.drew=w8 at mD a8 o8 b8 h8 N8⊢
  refine rdPS (λW=>(acBF pa W).2) (rdWS (acBL a8).2 ?_)
  cases c3:g.1.dfl with
  |true=>
   rw[ifB_bool,if_pos rfl]
   exact⟨by rw[hstn];simp[c1,c2,c3],mD⟩
  |false=>
  rw[ifB_bool,if_neg Bool.false_ne_true]
  refine rdPS (λW=>(acBF pa W).1) (rdWS (acBL a8).1 ?_)
  cases c4:g.1.kil with
  |true=>
   rw[ifB_bool,if_pos rfl]
   exact⟨by rw[hstn];simp[c1,c2,c3,c4],mD⟩
  |false=>
  rw[ifB_bool,if_neg Bool.false_ne_true]
  refine rdWS (ldOd (o:=x.2) (At.all o8)) ?_
  refine ca_omay λw9 m9=>?_
  refine rdPS (v:=.bool (!x.2.may)) (λW=>by simp[go_sem]) ?_
  have M9:=mD.trans m9
  cases c5:x.2.may with
  |false=>
   rw[show(!false)=true from rfl,ifB_bool,if_pos rfl]
   exact⟨by rw[hstn];simp[c1,c2,c3,c4,c5],M9⟩
  |true=>
  rw[show(!true)=false from rfl,ifB_bool,if_neg Bool.false_ne_true]
  have o9:OdB w9 q x.2:=m9.hpk o8 id
  have b9:CtB w9 z k.1:=m9.hpk b8 id
  refine rdPS (λW=>(ctBF z W).1) (rdX_bigS (spC k.1.spec) 24 aSp nSp (spC_len _) (ctAtSp (At.all b9)) ?_)
  refine rdPS (λW=>odBF 3 (by omega) q W) (rdWS (odBL o9).2.2.1 ?_)
  refine ca_isPrice hkf.1 λw10 m10=>?_
  refine rdPS (v:=.bool (!k.1.spec.isPrice x.2.price)) (λW=>by simp[go_sem]) ?_
  have M10:=M9.trans m10
  cases c6:k.1.spec.isPrice x.2.price with
  |false=>
   rw[show(!false)=true from rfl,ifB_bool,if_pos rfl]
   exact⟨by rw[hstn];simp[c1,c2,c3,c4,c5,c6],M10⟩
  |true=>
  rw[show(!true)=false from rfl,ifB_bool,if_neg Bool.false_ne_true]
  have o10:OdB w10 q x.2:=m10.hpk o9 id
  have b10:CtB w10 z k.1:=m10.hpk b9 id
  have fin:∀W,Mod (λ_=>False) w7 W→(!lots||k.1.spec.isQty x.2.left)=true→∀K2:Value×Unit→World→Prop,K2 (.bool (!S.stnd lots U x),()) W→
    rdP Tryz.prog (Instr.fieldAt tOd (.pointer (some ⟨q,0,none⟩)) 0) λv71=>rdW Tryz.prog (Instr.loadAt 27 v71) W λv72=>nilK (.pointer (some ⟨v,0,none⟩)) λv73=>rdP Tryz.prog (Instr.fieldAt tVen v73 4) λv74=>rdW Tryz.prog (Instr.loadAt 27 v74) W λv75=>
     rdP Tryz.prog (bin .geq 27 false v72 v75) λv76=>ifB v76 (K2 (.bool true,()) W) (rdP Tryz.prog (Instr.fieldAt tOd (.pointer (some ⟨q,0,none⟩)) 0) λv77=>rdW Tryz.prog (Instr.loadAt 27 v77) W λv78=>rdX Tryz.prog (xLook tNums (.map (some mn)) v78 false) W λv79=>rdP Tryz.prog (bin .gtr 3 true v79 (.int .i64 0)) λv80=>K2 (v80,()) W):=by
   intro W m c7 K2 hk2
   have oW:OdB W q x.2:=m.hpk o7 id
   refine rdPS (λW=>odBF 0 (by omega) q W) (rdWS (odBL oW).1 ?_)
   rw[nilK_ptr]
   refine rdPS (λW=>fldV 4 (by omega) W) (rdWS (ld4 _ (h7.md0 m).blk) ?_)
   refine rdPS (v:=.bool (decide (S.next≤x.2.num))) (λW=>by simp[go_sem]) ?_
   by_cases c8:S.next≤x.2.num
   ·rw[ifB_bool,if_pos (by simpa using c8)]
    have c8' :¬x.2.num<S.next:=by omega
    have:S.stnd lots U x=false:=by rw[hstn];simp[c8']
    rw[this]at hk2
    exact hk2
   rw[ifB_bool,if_neg (by simpa using c8)]
   have c8' :x.2.num<S.next:=by omega
   refine rdPS (λW=>odBF 0 (by omega) q W) (rdWS (odBL oW).1 ?_)
   refine rdX_of ((N7.mod m id).look x.2.num) ?_
   refine rdPS (v:=.bool (!S.stnd lots U x)) (λW=>?_) hk2
   rw[hstn,c7]
   by_cases c9:x.2.num∈U
   ·simp[go_sem,c1,c2,c3,c4,c5,c6,c8',c9]
   ·simp[go_sem,c1,c2,c3,c4,c5,c6,c8',c9]
  cases lots with
  |true=>
   rw[ifB_bool,if_pos rfl]
   refine rdPS (λW=>(ctBF z W).1) (rdX_bigS (spC k.1.spec) 24 aSp nSp (spC_len _) (ctAtSp (At.all b10)) ?_)
   refine rdPS (λW=>odBF 4 (by omega) q W) (rdWS (odBL o10).2.2.2 ?_)
   refine ca_isQty hkf.1 λw11 m11=>?_
   refine rdPS (v:=.bool (!k.1.spec.isQty x.2.left)) (λW=>by simp[go_sem]) ?_
   have M11:=M10.trans m11
   cases c7:k.1.spec.isQty x.2.left with
   |false=>
    rw[show(!false)=true from rfl,ifB_bool,if_pos rfl]
    exact⟨by rw[hstn];simp[c7],M11⟩
   |true=>
    rw[show(!true)=false from rfl,ifB_bool,if_neg Bool.false_ne_true]
    exact fin w11 M11 (by simp[c7]) (λst W=>st=(.bool (!S.stnd true U x),())∧Mod (λ_=>False) w7 W) ⟨rfl,M11⟩
  |false=>
   rw[ifB_bool,if_neg Bool.false_ne_true]
   exact fin w10 M10 rfl (λst W=>st=(.bool (!S.stnd false U x),())∧Mod (λ_=>False) w7 W) ⟨rfl,M10⟩
 rintro _ W ⟨rfl,mW⟩
 unfold J134_0
 intro _
 have MW:=M7.trans mW
 cases hs:S.stnd lots U x with
 |false=>
  rw[show(!false)=true from rfl,ifB_bool,if_pos rfl]
  exact hK0 hs W MW
 |true=>
  rw[show(!true)=false from rfl,ifB_bool,if_neg Bool.false_ne_true]
  have oW:OdB W q x.2:=mW.hpk o7 id
  have NW:=N7.mod mW id
  have hnew:=(stnd_ok hs).new
  refine rvS (odBF 0 (by omega) q W) (rvS (odBL oW).1 ?_)
  refine rx_of (NW.look x.2.num) ?_
  rw[if_neg hnew]
  refine rvS (v:=.int .i64 1) (w' :=W) (by simp[go_sem];decide) ?_
  refine NW.add hnew λw' N' m' =>?_
  exact hK1 hs w' ((h.md0 MW).mod m' λpt y hy e=>hmn ⟨pt,e▸hy⟩) N' ((MW.mono λ_ _ h=>h.elim).trans m')
end Go.Proofs
