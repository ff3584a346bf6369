/- Part of a proof. -/
import Derived.Test.YtgebhcgmckjbbaaGreatI15
set_option linter.all false
set_option maxRecDepth 100000
namespace Go.Proofs
open Go Go.Vc
def J106_0 (v0 : Value) (v10 : Value) (v2 : Value) (K : Kont) (v15 : Value) (s17 : Value × Unit) (w18 : World) : Prop :=
 ∀ _ : Nat → Value,
 ifB s17.1
 (rdP Tryz.prog (Instr.fieldAt 41 v0 1) fun v24 =>
 rdW Tryz.prog (Instr.loadAt 35 v24) w18.drew fun v25 =>
 rdP Tryz.prog (Instr.fieldAt 41 v0 4) fun v26 =>
 rdW Tryz.prog (Instr.loadAt 2 v26) w18.drew fun v27 =>
 rdP Tryz.prog (Instr.fieldAt 41 v10 1) fun v28 =>
 ru Tryz.prog (Instr.storeAt 35 v28 v25) w18.drew fun w29 =>
 Sem.run Tryz.prog (Instr.loadAt 2 v26) w29 = .ok v27 w29 ∧ 
 (rdP Tryz.prog (Instr.fieldAt 41 v10 4) fun v30 =>
 ru Tryz.prog (Instr.storeAt 2 v30 v27) w29 fun w31 =>
 rx Tryz.prog (bigS 41 v10) w31 fun v32 w33 =>
 rux Tryz.prog (bigU 41 v2 v32) w33 fun w34 =>
 rdX Tryz.prog (bigS 41 v2) w34 fun v35 =>
 K v35 w34))
 (rv Tryz.prog (bin .eql 34 true v15 (.int .u8 3)) w18 fun v36 w37 =>
 ifB v36
 (rv Tryz.prog (Instr.fieldAt 41 v0 5) w37 fun v38 w39 =>
 rx Tryz.prog (bigS 38 v38) w39 fun v40 w41 =>
 rv Tryz.prog (Instr.fieldAt 41 v10 5) w41 fun v42 w43 =>
 rux Tryz.prog (bigU 38 v42 v40) w43 fun w44 =>
 rx Tryz.prog (bigS 41 v10) w44 fun v45 w46 =>
 rux Tryz.prog (bigU 41 v2 v45) w46 fun w47 =>
 rdX Tryz.prog (bigS 41 v2) w47 fun v48 =>
 K v48 w47)
 (rv Tryz.prog (bin .eql 34 true v15 (.int .u8 4)) w37 fun v49 w50 =>
 ifB v49
 (rdP Tryz.prog (Instr.fieldAt 41 v0 2) fun v51 =>
 rdW Tryz.prog (Instr.loadAt 35 v51) w50.drew fun v52 =>
 rdP Tryz.prog (Instr.fieldAt 41 v0 6) fun v53 =>
 rdW Tryz.prog (Instr.loadAt 4 v53) w50.drew fun v54 =>
 rdP Tryz.prog (Instr.fieldAt 41 v10 2) fun v55 =>
 ru Tryz.prog (Instr.storeAt 35 v55 v52) w50.drew fun w56 =>
 Sem.run Tryz.prog (Instr.loadAt 4 v53) w56 = .ok v54 w56 ∧ 
 (rdP Tryz.prog (Instr.fieldAt 41 v10 6) fun v57 =>
 ru Tryz.prog (Instr.storeAt 4 v57 v54) w56 fun w58 =>
 rx Tryz.prog (bigS 41 v10) w58 fun v59 w60 =>
 rux Tryz.prog (bigU 41 v2 v59) w60 fun w61 =>
 rdX Tryz.prog (bigS 41 v2) w61 fun v62 =>
 K v62 w61))
 (rv Tryz.prog (bin .eql 34 true v15 (.int .u8 5)) w50 fun v63 w64 =>
 ifB v63
 (rx Tryz.prog (bigS 41 v0) w64 fun v65 w66 =>
 rux Tryz.prog (bigU 41 v10 v65) w66 fun w67 =>
 rx Tryz.prog (bigB 38 #[]) w67 fun v68 w69 =>
 rv Tryz.prog (Instr.fieldAt 41 v10 3) w69 fun v70 w71 =>
 ru Tryz.prog (Instr.storeAt 27 v70 (.int .u64 0)) w71 fun w72 =>
 rv Tryz.prog (Instr.fieldAt 41 v10 4) w72 fun v73 w74 =>
 ru Tryz.prog (Instr.storeAt 2 v73 (.int .i64 0)) w74 fun w75 =>
 rv Tryz.prog (Instr.fieldAt 41 v10 5) w75 fun v76 w77 =>
 rux Tryz.prog (bigU 38 v76 v68) w77 fun w78 =>
 rv Tryz.prog (Instr.fieldAt 41 v10 6) w78 fun v79 w80 =>
 ru Tryz.prog (Instr.storeAt 4 v79 (.bool false)) w80 fun w81 =>
 rx Tryz.prog (bigS 41 v10) w81 fun v82 w83 =>
 rux Tryz.prog (bigU 41 v2 v82) w83 fun w84 =>
 rdX Tryz.prog (bigS 41 v2) w84 fun v85 =>
 K v85 w84)
 (rv Tryz.prog (bin .eql 34 true v15 (.int .u8 6)) w64 fun v86 w87 =>
 ifB v86
 (rdP Tryz.prog (Instr.fieldAt 41 v0 1) fun v88 =>
 rdW Tryz.prog (Instr.loadAt 35 v88) w87.drew fun v89 =>
 rdP Tryz.prog (Instr.fieldAt 41 v0 3) fun v90 =>
 rdW Tryz.prog (Instr.loadAt 27 v90) w87.drew fun v91 =>
 rdP Tryz.prog (Instr.fieldAt 41 v10 1) fun v92 =>
 ru Tryz.prog (Instr.storeAt 35 v92 v89) w87.drew fun w93 =>
 Sem.run Tryz.prog (Instr.loadAt 27 v90) w93 = .ok v91 w93 ∧ 
 (rdP Tryz.prog (Instr.fieldAt 41 v10 3) fun v94 =>
 ru Tryz.prog (Instr.storeAt 27 v94 v91) w93 fun w95 =>
 rx Tryz.prog (bigS 41 v10) w95 fun v96 w97 =>
 rux Tryz.prog (bigU 41 v2 v96) w97 fun w98 =>
 rdX Tryz.prog (bigS 41 v2) w98 fun v99 =>
 K v99 w98))
 (rv Tryz.prog (bin .eql 34 true v15 (.int .u8 7)) w87 fun v100 w101 =>
 ifB v100
 (rdP Tryz.prog (Instr.fieldAt 41 v0 1) fun v102 =>
 rdW Tryz.prog (Instr.loadAt 35 v102) w101.drew fun v103 =>
 rdP Tryz.prog (Instr.fieldAt 41 v0 3) fun v104 =>
 rdW Tryz.prog (Instr.loadAt 27 v104) w101.drew fun v105 =>
 rdP Tryz.prog (Instr.fieldAt 41 v0 9) fun v106 =>
 rdW Tryz.prog (Instr.loadAt 2 v106) w101.drew fun v107 =>
 rdP Tryz.prog (Instr.fieldAt 41 v0 10) fun v108 =>
 rdW Tryz.prog (Instr.loadAt 2 v108) w101.drew fun v109 =>
 rdP Tryz.prog (Instr.fieldAt 41 v10 1) fun v110 =>
 ru Tryz.prog (Instr.storeAt 35 v110 v103) w101.drew fun w111 =>
 Sem.run Tryz.prog (Instr.loadAt 2 v108) w111 = .ok v109 w111 ∧ Sem.run Tryz.prog (Instr.loadAt 2 v106) w111 = .ok v107 w111 ∧ Sem.run Tryz.prog (Instr.loadAt 27 v104) w111 = .ok v105 w111 ∧ 
 (rdP Tryz.prog (Instr.fieldAt 41 v10 3) fun v112 =>
 ru Tryz.prog (Instr.storeAt 27 v112 v105) w111 fun w113 =>
 Sem.run Tryz.prog (Instr.loadAt 2 v108) w113 = .ok v109 w113 ∧ Sem.run Tryz.prog (Instr.loadAt 2 v106) w113 = .ok v107 w113 ∧ 
 (rdP Tryz.prog (Instr.fieldAt 41 v10 9) fun v114 =>
 ru Tryz.prog (Instr.storeAt 2 v114 v107) w113 fun w115 =>
 Sem.run Tryz.prog (Instr.loadAt 2 v108) w115 = .ok v109 w115 ∧ 
 (rdP Tryz.prog (Instr.fieldAt 41 v10 10) fun v116 =>
 ru Tryz.prog (Instr.storeAt 2 v116 v109) w115 fun w117 =>
 rx Tryz.prog (bigS 41 v10) w117 fun v118 w119 =>
 rux Tryz.prog (bigU 41 v2 v118) w119 fun w120 =>
 rdX Tryz.prog (bigS 41 v2) w120 fun v121 =>
 K v121 w120))))
 (rv Tryz.prog (bin .eql 34 true v15 (.int .u8 8)) w101 fun v122 w123 =>
 ifB v122
 (rdP Tryz.prog (Instr.fieldAt 41 v0 1) fun v124 =>
 rdW Tryz.prog (Instr.loadAt 35 v124) w123.drew fun v125 =>
 rdP Tryz.prog (Instr.fieldAt 41 v0 2) fun v126 =>
 rdW Tryz.prog (Instr.loadAt 35 v126) w123.drew fun v127 =>
 rdP Tryz.prog (Instr.fieldAt 41 v10 1) fun v128 =>
 ru Tryz.prog (Instr.storeAt 35 v128 v125) w123.drew fun w129 =>
 Sem.run Tryz.prog (Instr.loadAt 35 v126) w129 = .ok v127 w129 ∧ 
 (rdP Tryz.prog (Instr.fieldAt 41 v10 2) fun v130 =>
 ru Tryz.prog (Instr.storeAt 35 v130 v127) w129 fun w131 =>
 rx Tryz.prog (bigS 41 v10) w131 fun v132 w133 =>
 rux Tryz.prog (bigU 41 v2 v132) w133 fun w134 =>
 rdX Tryz.prog (bigS 41 v2) w134 fun v135 =>
 K v135 w134))
 (rv Tryz.prog (bin .eql 34 true v15 (.int .u8 9)) w123 fun v136 w137 =>
 ifB v136
 (rdP Tryz.prog (Instr.fieldAt 41 v0 1) fun v138 =>
 rdW Tryz.prog (Instr.loadAt 35 v138) w137.drew fun v139 =>
 rdP Tryz.prog (Instr.fieldAt 41 v0 2) fun v140 =>
 rdW Tryz.prog (Instr.loadAt 35 v140) w137.drew fun v141 =>
 rdP Tryz.prog (Instr.fieldAt 41 v0 7) fun v142 =>
 rdW Tryz.prog (Instr.loadAt 4 v142) w137.drew fun v143 =>
 rdP Tryz.prog (Instr.fieldAt 41 v0 9) fun v144 =>
 rdW Tryz.prog (Instr.loadAt 2 v144) w137.drew fun v145 =>
 rdP Tryz.prog (Instr.fieldAt 41 v0 10) fun v146 =>
 rdW Tryz.prog (Instr.loadAt 2 v146) w137.drew fun v147 =>
 rdP Tryz.prog (Instr.fieldAt 41 v10 1) fun v148 =>
 ru Tryz.prog (Instr.storeAt 35 v148 v139) w137.drew fun w149 =>
 Sem.run Tryz.prog (Instr.loadAt 2 v146) w149 = .ok v147 w149 ∧ Sem.run Tryz.prog (Instr.loadAt 2 v144) w149 = .ok v145 w149 ∧ Sem.run Tryz.prog (Instr.loadAt 4 v142) w149 = .ok v143 w149 ∧ Sem.run Tryz.prog (Instr.loadAt 35 v140) w149 = .ok v141 w149 ∧ 
 (rdP Tryz.prog (Instr.fieldAt 41 v10 2) fun v150 =>
 ru Tryz.prog (Instr.storeAt 35 v150 v141) w149 fun w151 =>
 Sem.run Tryz.prog (Instr.loadAt 2 v146) w151 = .ok v147 w151 ∧ Sem.run Tryz.prog (Instr.loadAt 2 v144) w151 = .ok v145 w151 ∧ Sem.run Tryz.prog (Instr.loadAt 4 v142) w151 = .ok v143 w151 ∧ 
 (rdP Tryz.prog (Instr.fieldAt 41 v10 7) fun v152 =>
 ru Tryz.prog (Instr.storeAt 4 v152 v143) w151 fun w153 =>
 Sem.run Tryz.prog (Instr.loadAt 2 v146) w153 = .ok v147 w153 ∧ Sem.run Tryz.prog (Instr.loadAt 2 v144) w153 = .ok v145 w153 ∧ 
 (rdP Tryz.prog (Instr.fieldAt 41 v10 9) fun v154 =>
 ru Tryz.prog (Instr.storeAt 2 v154 v145) w153 fun w155 =>
 Sem.run Tryz.prog (Instr.loadAt 2 v146) w155 = .ok v147 w155 ∧ 
 (rdP Tryz.prog (Instr.fieldAt 41 v10 10) fun v156 =>
 ru Tryz.prog (Instr.storeAt 2 v156 v147) w155 fun w157 =>
 rx Tryz.prog (bigS 41 v10) w157 fun v158 w159 =>
 rux Tryz.prog (bigU 41 v2 v158) w159 fun w160 =>
 rdX Tryz.prog (bigS 41 v2) w160 fun v161 =>
 K v161 w160)))))
 (rv Tryz.prog (bin .eql 34 true v15 (.int .u8 10)) w137 fun v162 w163 =>
 ifB v162
 (rdP Tryz.prog (Instr.fieldAt 41 v0 1) fun v164 =>
 rdW Tryz.prog (Instr.loadAt 35 v164) w163.drew fun v165 =>
 rdP Tryz.prog (Instr.fieldAt 41 v0 6) fun v166 =>
 rdW Tryz.prog (Instr.loadAt 4 v166) w163.drew fun v167 =>
 rdP Tryz.prog (Instr.fieldAt 41 v10 1) fun v168 =>
 ru Tryz.prog (Instr.storeAt 35 v168 v165) w163.drew fun w169 =>
 Sem.run Tryz.prog (Instr.loadAt 4 v166) w169 = .ok v167 w169 ∧ 
 (rdP Tryz.prog (Instr.fieldAt 41 v10 6) fun v170 =>
 ru Tryz.prog (Instr.storeAt 4 v170 v167) w169 fun w171 =>
 rx Tryz.prog (bigS 41 v10) w171 fun v172 w173 =>
 rux Tryz.prog (bigU 41 v2 v172) w173 fun w174 =>
 rdX Tryz.prog (bigS 41 v2) w174 fun v175 =>
 K v175 w174))
 (rv Tryz.prog (bin .eql 34 true v15 (.int .u8 11)) w163 fun v176 w177 =>
 ifB v176
 (rdP Tryz.prog (Instr.fieldAt 41 v0 2) fun v178 =>
 rdW Tryz.prog (Instr.loadAt 35 v178) w177.drew fun v179 =>
 rdP Tryz.prog (Instr.fieldAt 41 v0 9) fun v180 =>
 rdW Tryz.prog (Instr.loadAt 2 v180) w177.drew fun v181 =>
 rdP Tryz.prog (Instr.fieldAt 41 v10 2) fun v182 =>
 ru Tryz.prog (Instr.storeAt 35 v182 v179) w177.drew fun w183 =>
 Sem.run Tryz.prog (Instr.loadAt 2 v180) w183 = .ok v181 w183 ∧ 
 (rdP Tryz.prog (Instr.fieldAt 41 v10 9) fun v184 =>
 ru Tryz.prog (Instr.storeAt 2 v184 v181) w183 fun w185 =>
 rx Tryz.prog (bigS 41 v10) w185 fun v186 w187 =>
 rux Tryz.prog (bigU 41 v2 v186) w187 fun w188 =>
 rdX Tryz.prog (bigS 41 v2) w188 fun v189 =>
 K v189 w188))
 (rv Tryz.prog (bin .eql 34 true v15 (.int .u8 13)) w177 fun v190 w191 =>
 ifB v190
 (rv Tryz.prog (Instr.fieldAt 41 v0 1) w191 fun v192 w193 =>
 rv Tryz.prog (Instr.loadAt 35 v192) w193 fun v194 w195 =>
 rv Tryz.prog (Instr.fieldAt 41 v10 1) w195 fun v196 w197 =>
 ru Tryz.prog (Instr.storeAt 35 v196 v194) w197 fun w198 =>
 rx Tryz.prog (bigS 41 v10) w198 fun v199 w200 =>
 rux Tryz.prog (bigU 41 v2 v199) w200 fun w201 =>
 rdX Tryz.prog (bigS 41 v2) w201 fun v202 =>
 K v202 w201)
 (rv Tryz.prog (bin .eql 34 true v15 (.int .u8 14)) w191 fun v203 w204 =>
 ifB v203
 (rv Tryz.prog (Instr.fieldAt 41 v0 2) w204 fun v205 w206 =>
 rv Tryz.prog (Instr.loadAt 35 v205) w206 fun v207 w208 =>
 rv Tryz.prog (Instr.fieldAt 41 v10 2) w208 fun v209 w210 =>
 ru Tryz.prog (Instr.storeAt 35 v209 v207) w210 fun w211 =>
 rx Tryz.prog (bigS 41 v10) w211 fun v212 w213 =>
 rux Tryz.prog (bigU 41 v2 v212) w213 fun w214 =>
 rdX Tryz.prog (bigS 41 v2) w214 fun v215 =>
 K v215 w214)
 (rx Tryz.prog (bigS 41 v10) w204 fun v216 w217 =>
 rux Tryz.prog (bigU 41 v2 v216) w217 fun w218 =>
 rdX Tryz.prog (bigS 41 v2) w218 fun v219 =>
 K v219 w218))))))))))))
def F106 (a0 : Value) (w : World) (K : Kont) : Prop :=
 rv Tryz.prog (Instr.box 41 a0) w fun v0 w1 =>
 rx Tryz.prog (bigA 41) w1 fun v2 w3 =>
 rv Tryz.prog (Instr.fieldAt 41 v0 0) w3 fun v4 w5 =>
 rv Tryz.prog (Instr.loadAt 34 v4) w5 fun v6 w7 =>
 rx Tryz.prog (bigB 41 #[(0, v6)]) w7 fun v8 w9 =>
 rx Tryz.prog (bigA 41) w9 fun v10 w11 =>
 rux Tryz.prog (bigU 41 v10 v8) w11 fun w12 =>
 rv Tryz.prog (Instr.fieldAt 41 v0 0) w12 fun v13 w14 =>
 rv Tryz.prog (Instr.loadAt 34 v13) w14 fun v15 w16 =>
 JoinW (S := Value × Unit) (fun J19 =>
 rv Tryz.prog (bin .eql 34 true v15 (.int .u8 1)) w16 fun v20 w21 =>
 ifB v20
 (J19 (v20, ()) w21)
 (rv Tryz.prog (bin .eql 34 true v15 (.int .u8 2)) w21 fun v22 w23 =>
 J19 (v22, ()) w23))
 (J106_0 v0 v10 v2 K v15)
theorem F106_eq (a0 : Value) (w : World) (K : Kont) : vcFnJ Tryz.prog Tryz.f106 [a0] w K = F106 a0 w K := by kernel_rfl
theorem F106_ok : okF Tryz.prog Tryz.f106 1 = true := by kernel_rfl
theorem ca106{a0 : Value} {w : World} {K : Kont} (h : F106 a0 w K) : Ca Tryz.prog 106 #[a0] w K :=
  ca_of_vcJ Tryz.noNum Tryz.func106 F106_ok (by rw [F106_eq]; exact h)
def F42 (a0 : Value) (w : World) (K : Kont) : Prop :=
 rv Tryz.prog (Instr.box 41 a0) w fun v0 w1 =>
 rdP Tryz.prog (Instr.fieldAt 41 v0 0) fun v2 =>
 rdW Tryz.prog (Instr.loadAt 34 v2) w1.drew fun v3 =>
 rdP Tryz.prog (bin .geq 34 true v3 (.int .u8 1)) fun v4 =>
 ifB v4
 (rdP Tryz.prog (Instr.fieldAt 41 v0 0) fun v5 =>
 rdW Tryz.prog (Instr.loadAt 34 v5) w1.drew fun v6 =>
 rdP Tryz.prog (bin .leq 34 true v6 (.int .u8 14)) fun v7 =>
 ifB v7
 (rdX Tryz.prog (bigS 41 v0) w1.drew fun v8 =>
 rdX Tryz.prog (bigS 41 v0) w1.drew fun v9 =>
 Ca Tryz.prog 106 #[v9] w1.drew fun v10 w11 =>
 Sem.run Tryz.prog (bigS 41 v0) w11 = .ok v8 w11 ∧ 
 (rdP Tryz.prog (bin .eql 41 false v8 v10) fun v12 =>
 ifB v12
 (rdP Tryz.prog (Instr.fieldAt 41 v0 0) fun v13 =>
 rdW Tryz.prog (Instr.loadAt 34 v13) w11 fun v14 =>
 rdP Tryz.prog (bin .neq 34 true v14 (.int .u8 3)) fun v15 =>
 ifB v15
 (K (.bool true) w11)
 (rdP Tryz.prog (Instr.fieldAt 41 v0 5) fun v16 =>
 rdX Tryz.prog (bigS 38 v16) w11 fun v17 =>
 Ca Tryz.prog 107 #[v17] w11 fun v18 w19 =>
 K v18 w19))
 (K (.bool false) w11)))
 (K (.bool false) w1.drew))
 (K (.bool false) w1.drew)
theorem F42_eq (a0 : Value) (w : World) (K : Kont) : vcFnJ Tryz.prog Tryz.f42 [a0] w K = F42 a0 w K := by kernel_rfl
theorem F42_ok : okF Tryz.prog Tryz.f42 1 = true := by kernel_rfl
theorem ca42{a0 : Value} {w : World} {K : Kont} (h : F42 a0 w K) : Ca Tryz.prog 42 #[a0] w K :=
  ca_of_vcJ Tryz.noNum Tryz.func42 F42_ok (by rw [F42_eq]; exact h)
def F10 (w : World) (K : Kont) : Prop :=
 Ca Tryz.prog 35 #[] w fun v0 w1 =>
 Ca Tryz.prog 36 #[] w1 fun v2 w3 =>
 rv Tryz.prog (Instr.makeMap 63 none) w3 fun v4 w5 =>
 rv Tryz.prog (Instr.makeMap 64 none) w5 fun v6 w7 =>
 rv Tryz.prog (Instr.build 66 #[(0, v0), (1, v2), (2, v4), (3, v6), (4, (.int .u64 1))]) w7 fun v8 w9 =>
 rv Tryz.prog (Instr.box 66 v8) w9 fun v10 w11 =>
 K v10 w11
theorem F10_eq (w : World) (K : Kont) : vcFnJ Tryz.prog Tryz.f10 [] w K = F10  w K := by kernel_rfl
theorem F10_ok : okF Tryz.prog Tryz.f10 0 = true := by kernel_rfl
theorem ca10 {w : World} {K : Kont} (h : F10  w K) : Ca Tryz.prog 10 #[] w K :=
  ca_of_vcJ Tryz.noNum Tryz.func10 F10_ok (by rw [F10_eq]; exact h)
def F40 (a0 : Value) (w : World) (K : Kont) : Prop :=
 rv Tryz.prog (bin .neq 23 true a0 (.pointer none)) w fun v0 w1 =>
 ifB v0
 (nilK a0 fun v2 => rv Tryz.prog (Instr.fieldAt 66 v2 1) w1 fun v3 w4 =>
 rv Tryz.prog (Instr.loadAt 62 v3) w4 fun v5 w6 =>
 rv Tryz.prog (bin .neq 62 true v5 (.pointer none)) w6 fun v7 w8 =>
 K v7 w8)
 (K (.bool false) w1)
theorem F40_eq (a0 : Value) (w : World) (K : Kont) : vcFnJ Tryz.prog Tryz.f40 [a0] w K = F40 a0 w K := by kernel_rfl
theorem F40_ok : okF Tryz.prog Tryz.f40 1 = true := by kernel_rfl
theorem ca40{a0 : Value} {w : World} {K : Kont} (h : F40 a0 w K) : Ca Tryz.prog 40 #[a0] w K :=
  ca_of_vcJ Tryz.noNum Tryz.func40 F40_ok (by rw [F40_eq]; exact h)
def L43_0 (v151 : Value) (s4 : Value × Unit) (K : Kont) (s153 : Unit) (w154 : World) (K155 : Unit → World → Prop) : Prop :=
 ∀ _ : Nat → Value,
 rx Tryz.prog (xNext v151 false 0) w154 fun v156 w157 =>
 rv Tryz.prog (Instr.extract v156 0) w157 fun v158 w159 =>
 ifB v158
 (rx Tryz.prog (xEntry v151) w159 fun v160 w161 =>
 rv Tryz.prog (Instr.extract v160 0) w161 fun v162 w163 =>
 rv Tryz.prog (Instr.extract v160 1) w163 fun v164 w165 =>
 nilK s4.1 fun v166 => rdP Tryz.prog (Instr.fieldAt 66 v166 3) fun v167 =>
 rdW Tryz.prog (Instr.loadAt 64 v167) w165.drew fun v168 =>
 Ca Tryz.prog 111 #[v164] w165.drew fun v169 w170 =>
 Sem.run Tryz.prog (Instr.loadAt 64 v167) w170 = .ok v168 w170 ∧ 
 (rux Tryz.prog (xMapUp 64 v168 v162 v169) w170 fun w171 =>
 K155 (()) w171))
 (K s4.1 w159)
def L43_1 (v125 : Value) (s4 : Value × Unit) (a0 : Value) (K : Kont) (s127 : Unit) (w128 : World) (K129 : Unit → World → Prop) : Prop :=
 ∀ _ : Nat → Value,
 rx Tryz.prog (xNext v125 false 0) w128 fun v130 w131 =>
 rv Tryz.prog (Instr.extract v130 0) w131 fun v132 w133 =>
 ifB v132
 (rx Tryz.prog (xEntry v125) w133 fun v134 w135 =>
 rv Tryz.prog (Instr.extract v134 0) w135 fun v136 w137 =>
 rv Tryz.prog (Instr.extract v134 1) w137 fun v138 w139 =>
 nilK s4.1 fun v140 => rdP Tryz.prog (Instr.fieldAt 66 v140 2) fun v141 =>
 rdW Tryz.prog (Instr.loadAt 63 v141) w139.drew fun v142 =>
 Ca Tryz.prog 110 #[v138] w139.drew fun v143 w144 =>
 Sem.run Tryz.prog (Instr.loadAt 63 v141) w144 = .ok v142 w144 ∧ 
 (rux Tryz.prog (xMapUp 63 v142 v136 v143) w144 fun w145 =>
 K129 (()) w145))
 (nilK a0 fun v146 => rv Tryz.prog (Instr.fieldAt 66 v146 3) w133 fun v147 w148 =>
 rv Tryz.prog (Instr.loadAt 64 v147) w148 fun v149 w150 =>
 rx Tryz.prog (xRange 64 v149) w150 fun v151 w152 =>
 LoopW (S := Unit) (L43_0 v151 s4 K) (()) w152)
def J43_2 (a0 : Value) (K : Kont) (s4 : Value × Unit) (w5 : World) : Prop :=
 ∀ _ : Nat → Value,
 nilK a0 fun v120 => rv Tryz.prog (Instr.fieldAt 66 v120 2) w5 fun v121 w122 =>
 rv Tryz.prog (Instr.loadAt 63 v121) w122 fun v123 w124 =>
 rx Tryz.prog (xRange 63 v123) w124 fun v125 w126 =>
 LoopW (S := Unit) (L43_1 v125 s4 a0 K) (()) w126
def F43 (a0 : Value) (w : World) (K : Kont) : Prop :=
 Ca Tryz.prog 40 #[a0] w fun v0 w1 =>
 rv Tryz.prog (Op.unary .not v0) w1 fun v2 w3 =>
 ifB v2
 (K (.pointer none) w3)
 (JoinW (S := Value × Unit) (fun J6 =>
 nilK a0 fun v7 => rdP Tryz.prog (Instr.fieldAt 66 v7 0) fun v8 =>
 rdW Tryz.prog (Instr.loadAt 61 v8) w3.drew fun v9 =>
 nilK a0 fun v10 => rdP Tryz.prog (Instr.fieldAt 66 v10 1) fun v11 =>
 rdW Tryz.prog (Instr.loadAt 62 v11) w3.drew fun v12 =>
 nilK a0 fun v13 => rdP Tryz.prog (Instr.fieldAt 66 v13 4) fun v14 =>
 rdW Tryz.prog (Instr.loadAt 27 v14) w3.drew fun v15 =>
 (Ca Tryz.prog 108 #[v9] w3.drew fun v16 w17 =>
 Sem.run Tryz.prog (Instr.loadAt 27 v14) w17 = .ok v15 w17 ∧ Sem.run Tryz.prog (Instr.loadAt 62 v11) w17 = .ok v12 w17 ∧ 
 ((Ca Tryz.prog 109 #[v12] w17 fun v18 w19 =>
 Sem.run Tryz.prog (Instr.loadAt 27 v14) w19 = .ok v15 w19 ∧ 
 ((rv Tryz.prog (Instr.makeMap 63 none) w19 fun v20 w21 =>
 Sem.run Tryz.prog (Instr.loadAt 27 v14) w21 = .ok v15 w21 ∧ 
 (rv Tryz.prog (Instr.makeMap 64 none) w21 fun v22 w23 =>
 Sem.run Tryz.prog (Instr.loadAt 27 v14) w23 = .ok v15 w23 ∧ 
 (rdP Tryz.prog (Instr.build 66 #[(0, v16), (1, v18), (2, v20), (3, v22), (4, v15)]) fun v24 =>
 rv Tryz.prog (Instr.box 66 v24) w23 fun v25 w26 =>
 J6 (v25, ()) w26)))
 ∧ (rv Tryz.prog (Instr.makeMap 64 none) w19 fun v27 w28 =>
 Sem.run Tryz.prog (Instr.loadAt 27 v14) w28 = .ok v15 w28 ∧ 
 (rv Tryz.prog (Instr.makeMap 63 none) w28 fun v29 w30 =>
 Sem.run Tryz.prog (Instr.loadAt 27 v14) w30 = .ok v15 w30 ∧ 
 (rdP Tryz.prog (Instr.build 66 #[(0, v16), (1, v18), (2, v29), (3, v27), (4, v15)]) fun v31 =>
 rv Tryz.prog (Instr.box 66 v31) w30 fun v32 w33 =>
 J6 (v32, ()) w33)))))
 ∧ (rv Tryz.prog (Instr.makeMap 63 none) w17 fun v34 w35 =>
 Sem.run Tryz.prog (Instr.loadAt 27 v14) w35 = .ok v15 w35 ∧ Sem.run Tryz.prog (Instr.loadAt 62 v11) w35 = .ok v12 w35 ∧ 
 ((Ca Tryz.prog 109 #[v12] w35 fun v36 w37 =>
 Sem.run Tryz.prog (Instr.loadAt 27 v14) w37 = .ok v15 w37 ∧ 
 (rv Tryz.prog (Instr.makeMap 64 none) w37 fun v38 w39 =>
 Sem.run Tryz.prog (Instr.loadAt 27 v14) w39 = .ok v15 w39 ∧ 
 (rdP Tryz.prog (Instr.build 66 #[(0, v16), (1, v36), (2, v34), (3, v38), (4, v15)]) fun v40 =>
 rv Tryz.prog (Instr.box 66 v40) w39 fun v41 w42 =>
 J6 (v41, ()) w42)))
 ∧ (rv Tryz.prog (Instr.makeMap 64 none) w35 fun v43 w44 =>
 Sem.run Tryz.prog (Instr.loadAt 27 v14) w44 = .ok v15 w44 ∧ Sem.run Tryz.prog (Instr.loadAt 62 v11) w44 = .ok v12 w44 ∧ 
 (Ca Tryz.prog 109 #[v12] w44 fun v45 w46 =>
 Sem.run Tryz.prog (Instr.loadAt 27 v14) w46 = .ok v15 w46 ∧ 
 (rdP Tryz.prog (Instr.build 66 #[(0, v16), (1, v45), (2, v34), (3, v43), (4, v15)]) fun v47 =>
 rv Tryz.prog (Instr.box 66 v47) w46 fun v48 w49 =>
 J6 (v48, ()) w49)))))
 ∧ (rv Tryz.prog (Instr.makeMap 64 none) w17 fun v50 w51 =>
 Sem.run Tryz.prog (Instr.loadAt 27 v14) w51 = .ok v15 w51 ∧ Sem.run Tryz.prog (Instr.loadAt 62 v11) w51 = .ok v12 w51 ∧ 
 ((Ca Tryz.prog 109 #[v12] w51 fun v52 w53 =>
 Sem.run Tryz.prog (Instr.loadAt 27 v14) w53 = .ok v15 w53 ∧ 
 (rv Tryz.prog (Instr.makeMap 63 none) w53 fun v54 w55 =>
 Sem.run Tryz.prog (Instr.loadAt 27 v14) w55 = .ok v15 w55 ∧ 
 (rdP Tryz.prog (Instr.build 66 #[(0, v16), (1, v52), (2, v54), (3, v50), (4, v15)]) fun v56 =>
 rv Tryz.prog (Instr.box 66 v56) w55 fun v57 w58 =>
 J6 (v57, ()) w58)))
 ∧ (rv Tryz.prog (Instr.makeMap 63 none) w51 fun v59 w60 =>
 Sem.run Tryz.prog (Instr.loadAt 27 v14) w60 = .ok v15 w60 ∧ Sem.run Tryz.prog (Instr.loadAt 62 v11) w60 = .ok v12 w60 ∧ 
 (Ca Tryz.prog 109 #[v12] w60 fun v61 w62 =>
 Sem.run Tryz.prog (Instr.loadAt 27 v14) w62 = .ok v15 w62 ∧ 
 (rdP Tryz.prog (Instr.build 66 #[(0, v16), (1, v61), (2, v59), (3, v50), (4, v15)]) fun v63 =>
 rv Tryz.prog (Instr.box 66 v63) w62 fun v64 w65 =>
 J6 (v64, ()) w65)))))))
 ∧ (rv Tryz.prog (Instr.makeMap 63 none) w3.drew fun v66 w67 =>
 Sem.run Tryz.prog (Instr.loadAt 27 v14) w67 = .ok v15 w67 ∧ Sem.run Tryz.prog (Instr.loadAt 62 v11) w67 = .ok v12 w67 ∧ Sem.run Tryz.prog (Instr.loadAt 61 v8) w67 = .ok v9 w67 ∧ 
 ((Ca Tryz.prog 108 #[v9] w67 fun v68 w69 =>
 Sem.run Tryz.prog (Instr.loadAt 27 v14) w69 = .ok v15 w69 ∧ Sem.run Tryz.prog (Instr.loadAt 62 v11) w69 = .ok v12 w69 ∧ 
 ((Ca Tryz.prog 109 #[v12] w69 fun v70 w71 =>
 Sem.run Tryz.prog (Instr.loadAt 27 v14) w71 = .ok v15 w71 ∧ 
 (rv Tryz.prog (Instr.makeMap 64 none) w71 fun v72 w73 =>
 Sem.run Tryz.prog (Instr.loadAt 27 v14) w73 = .ok v15 w73 ∧ 
 (rdP Tryz.prog (Instr.build 66 #[(0, v68), (1, v70), (2, v66), (3, v72), (4, v15)]) fun v74 =>
 rv Tryz.prog (Instr.box 66 v74) w73 fun v75 w76 =>
 J6 (v75, ()) w76)))
 ∧ (rv Tryz.prog (Instr.makeMap 64 none) w69 fun v77 w78 =>
 Sem.run Tryz.prog (Instr.loadAt 27 v14) w78 = .ok v15 w78 ∧ Sem.run Tryz.prog (Instr.loadAt 62 v11) w78 = .ok v12 w78 ∧ 
 (Ca Tryz.prog 109 #[v12] w78 fun v79 w80 =>
 Sem.run Tryz.prog (Instr.loadAt 27 v14) w80 = .ok v15 w80 ∧ 
 (rdP Tryz.prog (Instr.build 66 #[(0, v68), (1, v79), (2, v66), (3, v77), (4, v15)]) fun v81 =>
 rv Tryz.prog (Instr.box 66 v81) w80 fun v82 w83 =>
 J6 (v82, ()) w83)))))
 ∧ (rv Tryz.prog (Instr.makeMap 64 none) w67 fun v84 w85 =>
 Sem.run Tryz.prog (Instr.loadAt 27 v14) w85 = .ok v15 w85 ∧ Sem.run Tryz.prog (Instr.loadAt 62 v11) w85 = .ok v12 w85 ∧ Sem.run Tryz.prog (Instr.loadAt 61 v8) w85 = .ok v9 w85 ∧ 
 (Ca Tryz.prog 108 #[v9] w85 fun v86 w87 =>
 Sem.run Tryz.prog (Instr.loadAt 27 v14) w87 = .ok v15 w87 ∧ Sem.run Tryz.prog (Instr.loadAt 62 v11) w87 = .ok v12 w87 ∧ 
 (Ca Tryz.prog 109 #[v12] w87 fun v88 w89 =>
 Sem.run Tryz.prog (Instr.loadAt 27 v14) w89 = .ok v15 w89 ∧ 
 (rdP Tryz.prog (Instr.build 66 #[(0, v86), (1, v88), (2, v66), (3, v84), (4, v15)]) fun v90 =>
 rv Tryz.prog (Instr.box 66 v90) w89 fun v91 w92 =>
 J6 (v91, ()) w92))))))
 ∧ (rv Tryz.prog (Instr.makeMap 64 none) w3.drew fun v93 w94 =>
 Sem.run Tryz.prog (Instr.loadAt 27 v14) w94 = .ok v15 w94 ∧ Sem.run Tryz.prog (Instr.loadAt 62 v11) w94 = .ok v12 w94 ∧ Sem.run Tryz.prog (Instr.loadAt 61 v8) w94 = .ok v9 w94 ∧ 
 ((Ca Tryz.prog 108 #[v9] w94 fun v95 w96 =>
 Sem.run Tryz.prog (Instr.loadAt 27 v14) w96 = .ok v15 w96 ∧ Sem.run Tryz.prog (Instr.loadAt 62 v11) w96 = .ok v12 w96 ∧ 
 ((Ca Tryz.prog 109 #[v12] w96 fun v97 w98 =>
 Sem.run Tryz.prog (Instr.loadAt 27 v14) w98 = .ok v15 w98 ∧ 
 (rv Tryz.prog (Instr.makeMap 63 none) w98 fun v99 w100 =>
 Sem.run Tryz.prog (Instr.loadAt 27 v14) w100 = .ok v15 w100 ∧ 
 (rdP Tryz.prog (Instr.build 66 #[(0, v95), (1, v97), (2, v99), (3, v93), (4, v15)]) fun v101 =>
 rv Tryz.prog (Instr.box 66 v101) w100 fun v102 w103 =>
 J6 (v102, ()) w103)))
 ∧ (rv Tryz.prog (Instr.makeMap 63 none) w96 fun v104 w105 =>
 Sem.run Tryz.prog (Instr.loadAt 27 v14) w105 = .ok v15 w105 ∧ Sem.run Tryz.prog (Instr.loadAt 62 v11) w105 = .ok v12 w105 ∧ 
 (Ca Tryz.prog 109 #[v12] w105 fun v106 w107 =>
 Sem.run Tryz.prog (Instr.loadAt 27 v14) w107 = .ok v15 w107 ∧ 
 (rdP Tryz.prog (Instr.build 66 #[(0, v95), (1, v106), (2, v104), (3, v93), (4, v15)]) fun v108 =>
 rv Tryz.prog (Instr.box 66 v108) w107 fun v109 w110 =>
 J6 (v109, ()) w110)))))
 ∧ (rv Tryz.prog (Instr.makeMap 63 none) w94 fun v111 w112 =>
 Sem.run Tryz.prog (Instr.loadAt 27 v14) w112 = .ok v15 w112 ∧ Sem.run Tryz.prog (Instr.loadAt 62 v11) w112 = .ok v12 w112 ∧ Sem.run Tryz.prog (Instr.loadAt 61 v8) w112 = .ok v9 w112 ∧ 
 (Ca Tryz.prog 108 #[v9] w112 fun v113 w114 =>
 Sem.run Tryz.prog (Instr.loadAt 27 v14) w114 = .ok v15 w114 ∧ Sem.run Tryz.prog (Instr.loadAt 62 v11) w114 = .ok v12 w114 ∧ 
 (Ca Tryz.prog 109 #[v12] w114 fun v115 w116 =>
 Sem.run Tryz.prog (Instr.loadAt 27 v14) w116 = .ok v15 w116 ∧ 
 (rdP Tryz.prog (Instr.build 66 #[(0, v113), (1, v115), (2, v111), (3, v93), (4, v15)]) fun v117 =>
 rv Tryz.prog (Instr.box 66 v117) w116 fun v118 w119 =>
 J6 (v118, ()) w119)))))))
 (J43_2 a0 K))
theorem F43_eq (a0 : Value) (w : World) (K : Kont) : vcFnJ Tryz.prog Tryz.f43 [a0] w K = F43 a0 w K := by kernel_rfl
theorem F43_ok : okF Tryz.prog Tryz.f43 1 = true := by kernel_rfl
theorem ca43{a0 : Value} {w : World} {K : Kont} (h : F43 a0 w K) : Ca Tryz.prog 43 #[a0] w K :=
  ca_of_vcJ Tryz.noNum Tryz.func43 F43_ok (by rw [F43_eq]; exact h)
def F41 (a0 : Value) (w : World) (K : Kont) : Prop :=
 rv Tryz.prog (Instr.alloc 32 true (.tuple #[])) w fun v0 w1 =>
 rv Tryz.prog (Instr.build 32 #[(0, a0)]) w1 fun v2 w3 =>
 ru Tryz.prog (Instr.storeAt 32 v0 v2) w3 fun w4 =>
 rdW Tryz.prog (Instr.loadAt 32 v0) w4 fun v5 =>
 K v5 w4
theorem F41_eq (a0 : Value) (w : World) (K : Kont) : vcFnJ Tryz.prog Tryz.f41 [a0] w K = F41 a0 w K := by kernel_rfl
theorem F41_ok : okF Tryz.prog Tryz.f41 1 = true := by kernel_rfl
theorem ca41{a0 : Value} {w : World} {K : Kont} (h : F41 a0 w K) : Ca Tryz.prog 41 #[a0] w K :=
  ca_of_vcJ Tryz.noNum Tryz.func41 F41_ok (by rw [F41_eq]; exact h)
def F12 (a0 a1 : Value) (w : World) (K : Kont) : Prop :=
 rv Tryz.prog (Instr.box 41 a1) w fun v0 w1 =>
 rv Tryz.prog (Instr.alloc 32 true (.tuple #[])) w1 fun v2 w3 =>
 Ca Tryz.prog 40 #[a0] w3 fun v4 w5 =>
 rv Tryz.prog (Op.unary .not v4) w5 fun v6 w7 =>
 ifB v6
 (Ca Tryz.prog 41 #[(.int .i64 1)] w7 fun v8 w9 =>
 ru Tryz.prog (Instr.storeAt 32 v2 v8) w9 fun w10 =>
 rdW Tryz.prog (Instr.loadAt 32 v2) w10 fun v11 =>
 K v11 w10)
 (rx Tryz.prog (bigS 41 v0) w7 fun v12 w13 =>
 Ca Tryz.prog 42 #[v12] w13 fun v14 w15 =>
 rv Tryz.prog (Op.unary .not v14) w15 fun v16 w17 =>
 ifB v16
 (Ca Tryz.prog 41 #[(.int .i64 160)] w17 fun v18 w19 =>
 ru Tryz.prog (Instr.storeAt 32 v2 v18) w19 fun w20 =>
 rdW Tryz.prog (Instr.loadAt 32 v2) w20 fun v21 =>
 K v21 w20)
 (Ca Tryz.prog 43 #[a0] w17 fun v22 w23 =>
 rx Tryz.prog (bigS 41 v0) w23 fun v24 w25 =>
 Ca Tryz.prog 44 #[v22, v24] w25 fun v26 w27 =>
 rv Tryz.prog (Instr.extract v26 0) w27 fun v28 w29 =>
 rv Tryz.prog (Instr.extract v26 1) w29 fun v30 w31 =>
 rv Tryz.prog (Instr.alloc 32 true (.tuple #[])) w31 fun v32 w33 =>
 ru Tryz.prog (Instr.storeAt 32 v32 v28) w33 fun w34 =>
 rv Tryz.prog (bin .neq 26 true v30 (.int .i64 0)) w34 fun v35 w36 =>
 ifB v35
 (Ca Tryz.prog 41 #[v30] w36 fun v37 w38 =>
 ru Tryz.prog (Instr.storeAt 32 v2 v37) w38 fun w39 =>
 rdW Tryz.prog (Instr.loadAt 32 v2) w39 fun v40 =>
 K v40 w39)
 (nilK v22 fun v41 => rv Tryz.prog (Instr.loadAt 66 v41) w36 fun v42 w43 =>
 nilK a0 fun v44 => ru Tryz.prog (Instr.storeAt 66 v44 v42) w43 fun w45 =>
 rv Tryz.prog (Instr.loadAt 32 v32) w45 fun v46 w47 =>
 ru Tryz.prog (Instr.storeAt 32 v2 v46) w47 fun w48 =>
 rdW Tryz.prog (Instr.loadAt 32 v2) w48 fun v49 =>
 K v49 w48)))
theorem F12_eq (a0 a1 : Value) (w : World) (K : Kont) : vcFnJ Tryz.prog Tryz.f12 [a0, a1] w K = F12 a0 a1 w K := by kernel_rfl
theorem F12_ok : okF Tryz.prog Tryz.f12 2 = true := by kernel_rfl
theorem ca12{a0 a1 : Value} {w : World} {K : Kont} (h : F12 a0 a1 w K) : Ca Tryz.prog 12 #[a0, a1] w K :=
  ca_of_vcJ Tryz.noNum Tryz.func12 F12_ok (by rw [F12_eq]; exact h)
def J44_0 (v2 : Value) (K : Kont) (s32 : Value × Unit) (w33 : World) : Prop :=
 ∀ _ : Nat → Value,
 rv Tryz.prog (Instr.loadAt 32 v2) w33 fun v53 w54 =>
 ru Tryz.prog (Instr.storeAt 32 v2 v53) w54 fun w55 =>
 rdW Tryz.prog (Instr.loadAt 32 v2) w55 fun v56 =>
 K (.tuple #[v56, s32.1]) w55
def J44_1 (v2 : Value) (K : Kont) (J210 : Value × Unit → World → Prop) (s147 : Value × Value × Unit) (s217 : Value × Unit) (w218 : World) : Prop :=
 ∀ _ : Nat → Value,
 rv Tryz.prog (bin .neq 26 true s217.1 (.int .i64 0)) w218 fun v239 w240 =>
 ifB v239
 (rv Tryz.prog (Instr.loadAt 32 v2) w240 fun v241 w242 =>
 ru Tryz.prog (Instr.storeAt 32 v2 v241) w242 fun w243 =>
 rdW Tryz.prog (Instr.loadAt 32 v2) w243 fun v244 =>
 K (.tuple #[v244, s217.1]) w243)
 (J210 (s147.2.1, ()) w240)
def J44_2 (v0 : Value) (a0 : Value) (v2 : Value) (J177 : Value × Unit → World → Prop) (s208 : Value × Unit) (w209 : World) : Prop :=
 ∀ _ : Nat → Value,
 rv Tryz.prog (Instr.fieldAt 41 v0 1) w209 fun v245 w246 =>
 rv Tryz.prog (Instr.loadAt 35 v245) w246 fun v247 w248 =>
 rv Tryz.prog (Instr.fieldAt 41 v0 2) w248 fun v249 w250 =>
 rv Tryz.prog (Instr.loadAt 35 v249) w250 fun v251 w252 =>
 Ca Tryz.prog 124 #[a0, v247, v251] w252 fun v253 w254 =>
 rv Tryz.prog (Instr.fieldAt 32 v2 5) w254 fun v255 w256 =>
 ru Tryz.prog (Instr.storeAt 29 v255 v253) w256 fun w257 =>
 J177 (s208.1, ()) w257
def J44_3 (v2 : Value) (a0 : Value) (s147 : Value × Value × Unit) (K : Kont) (s267 : Unit) (w268 : World) : Prop :=
 ∀ _ : Nat → Value,
 rdW Tryz.prog (Instr.loadAt 32 v2) w268.drew fun v283 =>
 nilK a0 fun v284 => rdP Tryz.prog (Instr.fieldAt 66 v284 1) fun v285 =>
 rdW Tryz.prog (Instr.loadAt 62 v285) w268.drew fun v286 =>
 rdW Tryz.prog (Instr.loadAt 92 s147.1) w268.drew fun v287 =>
 Ca Tryz.prog 125 #[v286, v287] w268.drew fun v288 w289 =>
 Sem.run Tryz.prog (Instr.loadAt 32 v2) w289 = .ok v283 w289 ∧ 
 (ru Tryz.prog (Instr.storeAt 32 v2 v283) w289 fun w290 =>
 rdW Tryz.prog (Instr.loadAt 32 v2) w290 fun v291 =>
 K (.tuple #[v291, v288]) w290)
def J44_4 (v2 : Value) (K : Kont) (s175 : Value × Unit) (w176 : World) : Prop :=
 ∀ _ : Nat → Value,
 rv Tryz.prog (Instr.loadAt 32 v2) w176 fun v304 w305 =>
 ru Tryz.prog (Instr.storeAt 32 v2 v304) w305 fun w306 =>
 rdW Tryz.prog (Instr.loadAt 32 v2) w306 fun v307 =>
 K (.tuple #[v307, (.int .i64 0)]) w306
def J44_5 (v2 : Value) (K : Kont) (v0 : Value) (a0 : Value) (s147 : Value × Value × Unit) (w148 : World) : Prop :=
 ∀ _ : Nat → Value,
 rv Tryz.prog (bin .neq 26 true s147.2.1 (.int .i64 0)) w148 fun v169 w170 =>
 ifB v169
 (rv Tryz.prog (Instr.loadAt 32 v2) w170 fun v171 w172 =>
 ru Tryz.prog (Instr.storeAt 32 v2 v171) w172 fun w173 =>
 rdW Tryz.prog (Instr.loadAt 32 v2) w173 fun v174 =>
 K (.tuple #[v174, s147.2.1]) w173)
 (JoinW (S := Value × Unit) (fun J177 =>
 rv Tryz.prog (Instr.fieldAt 41 v0 0) w170 fun v178 w179 =>
 rv Tryz.prog (Instr.loadAt 34 v178) w179 fun v180 w181 =>
 rv Tryz.prog (bin .eql 34 true v180 (.int .u8 5)) w181 fun v182 w183 =>
 ifB v182
 (rx Tryz.prog (bigS 41 v0) w183 fun v184 w185 =>
 Ca Tryz.prog 121 #[a0, v184] w185 fun v186 w187 =>
 rv Tryz.prog (Instr.extract v186 0) w187 fun v188 w189 =>
 rv Tryz.prog (Instr.extract v186 1) w189 fun v190 w191 =>
 ru Tryz.prog (Instr.storeAt 32 v2 v188) w191 fun w192 =>
 rdW Tryz.prog (Instr.loadAt 32 v2) w192 fun v193 =>
 K (.tuple #[v193, v190]) w192)
 (rv Tryz.prog (bin .eql 34 true v180 (.int .u8 9)) w183 fun v194 w195 =>
 ifB v194
 (rx Tryz.prog (bigS 41 v0) w195 fun v196 w197 =>
 Ca Tryz.prog 122 #[a0, v196] w197 fun v198 w199 =>
 rv Tryz.prog (Instr.extract v198 0) w199 fun v200 w201 =>
 rv Tryz.prog (Instr.extract v198 1) w201 fun v202 w203 =>
 ru Tryz.prog (Instr.storeAt 32 v2 v200) w203 fun w204 =>
 rdW Tryz.prog (Instr.loadAt 32 v2) w204 fun v205 =>
 K (.tuple #[v205, v202]) w204)
 (rv Tryz.prog (bin .eql 34 true v180 (.int .u8 8)) w195 fun v206 w207 =>
 ifB v206
 (JoinW (S := Value × Unit) (fun J210 =>
 rv Tryz.prog (Instr.fieldAt 41 v0 2) w207 fun v211 w212 =>
 rv Tryz.prog (Instr.loadAt 35 v211) w212 fun v213 w214 =>
 rv Tryz.prog (bin .neq 35 true v213 (.int .u32 0)) w214 fun v215 w216 =>
 ifB v215
 (JoinW (S := Value × Unit) (fun J219 =>
 nilK a0 fun v220 => rdP Tryz.prog (Instr.fieldAt 66 v220 0) fun v221 =>
 rdW Tryz.prog (Instr.loadAt 61 v221) w216.drew fun v222 =>
 rdP Tryz.prog (Instr.fieldAt 41 v0 2) fun v223 =>
 rdW Tryz.prog (Instr.loadAt 35 v223) w216.drew fun v224 =>
 (Ca Tryz.prog 123 #[v222, v224] w216.drew fun v225 w226 =>
 rdP Tryz.prog (Instr.extract v225 0) fun v227 =>
 rdP Tryz.prog (Instr.extract v225 1) fun v228 =>
 rx Tryz.prog (bigA 108) w226 fun v229 w230 =>
 rux Tryz.prog (bigU 108 v229 v227) w230 fun w231 =>
 J219 (v228, ()) w231)
 ∧ (rx Tryz.prog (bigA 108) w216.drew fun v232 w233 =>
 Sem.run Tryz.prog (Instr.loadAt 35 v223) w233 = .ok v224 w233 ∧ Sem.run Tryz.prog (Instr.loadAt 61 v221) w233 = .ok v222 w233 ∧ 
 (Ca Tryz.prog 123 #[v222, v224] w233 fun v234 w235 =>
 rdP Tryz.prog (Instr.extract v234 0) fun v236 =>
 rdP Tryz.prog (Instr.extract v234 1) fun v237 =>
 rux Tryz.prog (bigU 108 v232 v236) w235 fun w238 =>
 J219 (v237, ()) w238)))
 (J44_1 v2 K J210 s147))
 (J210 (s147.2.1, ()) w216))
 (J44_2 v0 a0 v2 J177))
 (rv Tryz.prog (bin .eql 34 true v180 (.int .u8 10)) w207 fun v258 w259 =>
 ifB v258
 (rv Tryz.prog (Instr.fieldAt 41 v0 6) w259 fun v260 w261 =>
 rv Tryz.prog (Instr.loadAt 4 v260) w261 fun v262 w263 =>
 rv Tryz.prog (Instr.fieldAt 92 s147.1 2) w263 fun v264 w265 =>
 ru Tryz.prog (Instr.storeAt 4 v264 v262) w265 fun w266 =>
 JoinW (S := Unit) (fun J269 =>
 rv Tryz.prog (Instr.fieldAt 41 v0 6) w266 fun v270 w271 =>
 rv Tryz.prog (Instr.loadAt 4 v270) w271 fun v272 w273 =>
 ifB v272
 (rv Tryz.prog (Instr.fieldAt 41 v0 1) w273 fun v274 w275 =>
 rv Tryz.prog (Instr.loadAt 35 v274) w275 fun v276 w277 =>
 Ca Tryz.prog 124 #[a0, v276, (.int .u32 0)] w277 fun v278 w279 =>
 rv Tryz.prog (Instr.fieldAt 32 v2 5) w279 fun v280 w281 =>
 ru Tryz.prog (Instr.storeAt 29 v280 v278) w281 fun w282 =>
 J269 (()) w282)
 (J269 (()) w273))
 (J44_3 v2 a0 s147 K))
 (rv Tryz.prog (bin .eql 34 true v180 (.int .u8 13)) w259 fun v292 w293 =>
 ifB v292
 (rv Tryz.prog (Instr.loadAt 92 s147.1) w293 fun v294 w295 =>
 Ca Tryz.prog 126 #[a0, v294] w295 fun v296 w297 =>
 rv Tryz.prog (Instr.extract v296 0) w297 fun v298 w299 =>
 rv Tryz.prog (Instr.extract v296 1) w299 fun v300 w301 =>
 ru Tryz.prog (Instr.storeAt 32 v2 v298) w301 fun w302 =>
 rdW Tryz.prog (Instr.loadAt 32 v2) w302 fun v303 =>
 K (.tuple #[v303, v300]) w302)
 (J177 (s147.2.1, ()) w293))))))
 (J44_4 v2 K))
def F44 (a0 a1 : Value) (w : World) (K : Kont) : Prop :=
 rv Tryz.prog (Instr.box 41 a1) w fun v0 w1 =>
 rv Tryz.prog (Instr.alloc 32 true (.tuple #[])) w1 fun v2 w3 =>
 rv Tryz.prog (Instr.fieldAt 41 v0 0) w3 fun v4 w5 =>
 rv Tryz.prog (Instr.loadAt 34 v4) w5 fun v6 w7 =>
 rv Tryz.prog (bin .eql 34 true v6 (.int .u8 1)) w7 fun v8 w9 =>
 ifB v8
 (rdW Tryz.prog (Instr.loadAt 32 v2) w9.drew fun v10 =>
 nilK a0 fun v11 => rdP Tryz.prog (Instr.fieldAt 66 v11 1) fun v12 =>
 rdW Tryz.prog (Instr.loadAt 62 v12) w9.drew fun v13 =>
 rdP Tryz.prog (Instr.fieldAt 41 v0 1) fun v14 =>
 rdW Tryz.prog (Instr.loadAt 35 v14) w9.drew fun v15 =>
 rdP Tryz.prog (Instr.fieldAt 41 v0 4) fun v16 =>
 rdW Tryz.prog (Instr.loadAt 2 v16) w9.drew fun v17 =>
 Ca Tryz.prog 112 #[v13, v15, v17] w9.drew fun v18 w19 =>
 Sem.run Tryz.prog (Instr.loadAt 32 v2) w19 = .ok v10 w19 ∧ 
 (ru Tryz.prog (Instr.storeAt 32 v2 v10) w19 fun w20 =>
 rdW Tryz.prog (Instr.loadAt 32 v2) w20 fun v21 =>
 K (.tuple #[v21, v18]) w20))
 (rv Tryz.prog (bin .eql 34 true v6 (.int .u8 2)) w9 fun v22 w23 =>
 ifB v22
 (rdW Tryz.prog (Instr.loadAt 32 v2) w23.drew fun v24 =>
 rdX Tryz.prog (bigS 41 v0) w23.drew fun v25 =>
 Ca Tryz.prog 113 #[a0, v25] w23.drew fun v26 w27 =>
 Sem.run Tryz.prog (Instr.loadAt 32 v2) w27 = .ok v24 w27 ∧ 
 (ru Tryz.prog (Instr.storeAt 32 v2 v24) w27 fun w28 =>
 rdW Tryz.prog (Instr.loadAt 32 v2) w28 fun v29 =>
 K (.tuple #[v29, v26]) w28))
 (rv Tryz.prog (bin .eql 34 true v6 (.int .u8 3)) w23 fun v30 w31 =>
 ifB v30
 (JoinW (S := Value × Unit) (fun J34 =>
 nilK a0 fun v35 => rdP Tryz.prog (Instr.fieldAt 66 v35 0) fun v36 =>
 rdW Tryz.prog (Instr.loadAt 61 v36) w31.drew fun v37 =>
 rdP Tryz.prog (Instr.fieldAt 41 v0 5) fun v38 =>
 rdX Tryz.prog (bigS 38 v38) w31.drew fun v39 =>
 Ca Tryz.prog 114 #[v37, v39] w31.drew fun v40 w41 =>
 rv Tryz.prog (bin .eql 26 true v40 (.int .i64 0)) w41 fun v42 w43 =>
 ifB v42
 (nilK a0 fun v44 => rdP Tryz.prog (Instr.fieldAt 66 v44 2) fun v45 =>
 rdW Tryz.prog (Instr.loadAt 63 v45) w43.drew fun v46 =>
 rdP Tryz.prog (Instr.fieldAt 41 v0 5) fun v47 =>
 rdP Tryz.prog (Instr.fieldAt 38 v47 0) fun v48 =>
 rdW Tryz.prog (Instr.loadAt 35 v48) w43.drew fun v49 =>
 Ca Tryz.prog 48 #[] w43.drew fun v50 w51 =>
 Sem.run Tryz.prog (Instr.loadAt 35 v48) w51 = .ok v49 w51 ∧ Sem.run Tryz.prog (Instr.loadAt 63 v45) w51 = .ok v46 w51 ∧ 
 (rux Tryz.prog (xMapUp 63 v46 v49 v50) w51 fun w52 =>
 J34 (v40, ()) w52))
 (J34 (v40, ()) w43))
 (J44_0 v2 K))
 (rv Tryz.prog (bin .eql 34 true v6 (.int .u8 4)) w31 fun v57 w58 =>
 ifB v57
 (rdW Tryz.prog (Instr.loadAt 32 v2) w58.drew fun v59 =>
 nilK a0 fun v60 => rdP Tryz.prog (Instr.fieldAt 66 v60 0) fun v61 =>
 rdW Tryz.prog (Instr.loadAt 61 v61) w58.drew fun v62 =>
 rdP Tryz.prog (Instr.fieldAt 41 v0 2) fun v63 =>
 rdW Tryz.prog (Instr.loadAt 35 v63) w58.drew fun v64 =>
 rdP Tryz.prog (Instr.fieldAt 41 v0 6) fun v65 =>
 rdW Tryz.prog (Instr.loadAt 4 v65) w58.drew fun v66 =>
 Ca Tryz.prog 115 #[v62, v64, v66] w58.drew fun v67 w68 =>
 Sem.run Tryz.prog (Instr.loadAt 32 v2) w68 = .ok v59 w68 ∧ 
 (ru Tryz.prog (Instr.storeAt 32 v2 v59) w68 fun w69 =>
 rdW Tryz.prog (Instr.loadAt 32 v2) w69 fun v70 =>
 K (.tuple #[v70, v67]) w69))
 (rv Tryz.prog (bin .eql 34 true v6 (.int .u8 11)) w58 fun v71 w72 =>
 ifB v71
 (rdW Tryz.prog (Instr.loadAt 32 v2) w72.drew fun v73 =>
 nilK a0 fun v74 => rdP Tryz.prog (Instr.fieldAt 66 v74 0) fun v75 =>
 rdW Tryz.prog (Instr.loadAt 61 v75) w72.drew fun v76 =>
 rdP Tryz.prog (Instr.fieldAt 41 v0 2) fun v77 =>
 rdW Tryz.prog (Instr.loadAt 35 v77) w72.drew fun v78 =>
 rdP Tryz.prog (Instr.fieldAt 41 v0 9) fun v79 =>
 rdW Tryz.prog (Instr.loadAt 2 v79) w72.drew fun v80 =>
 Ca Tryz.prog 116 #[v76, v78, v80] w72.drew fun v81 w82 =>
 Sem.run Tryz.prog (Instr.loadAt 32 v2) w82 = .ok v73 w82 ∧ 
 (ru Tryz.prog (Instr.storeAt 32 v2 v73) w82 fun w83 =>
 rdW Tryz.prog (Instr.loadAt 32 v2) w83 fun v84 =>
 K (.tuple #[v84, v81]) w83))
 (rv Tryz.prog (bin .eql 34 true v6 (.int .u8 12)) w72 fun v85 w86 =>
 ifB v85
 (Ca Tryz.prog 117 #[a0] w86 fun v87 w88 =>
 rv Tryz.prog (Instr.extract v87 0) w88 fun v89 w90 =>
 rv Tryz.prog (Instr.extract v87 1) w90 fun v91 w92 =>
 ru Tryz.prog (Instr.storeAt 32 v2 v89) w92 fun w93 =>
 rdW Tryz.prog (Instr.loadAt 32 v2) w93 fun v94 =>
 K (.tuple #[v94, v91]) w93)
 (rv Tryz.prog (bin .eql 34 true v6 (.int .u8 14)) w86 fun v95 w96 =>
 ifB v95
 (rv Tryz.prog (Instr.fieldAt 41 v0 2) w96 fun v97 w98 =>
 rv Tryz.prog (Instr.loadAt 35 v97) w98 fun v99 w100 =>
 Ca Tryz.prog 118 #[a0, v99] w100 fun v101 w102 =>
 rv Tryz.prog (Instr.extract v101 0) w102 fun v103 w104 =>
 rv Tryz.prog (Instr.extract v101 1) w104 fun v105 w106 =>
 ru Tryz.prog (Instr.storeAt 32 v2 v103) w106 fun w107 =>
 rdW Tryz.prog (Instr.loadAt 32 v2) w107 fun v108 =>
 K (.tuple #[v108, v105]) w107)
 (rv Tryz.prog (Instr.fieldAt 41 v0 1) w96 fun v109 w110 =>
 rv Tryz.prog (Instr.loadAt 35 v109) w110 fun v111 w112 =>
 rv Tryz.prog (bin .eql 35 true v111 (.int .u32 0)) w112 fun v113 w114 =>
 ifB v113
 (rv Tryz.prog (Instr.loadAt 32 v2) w114 fun v115 w116 =>
 ru Tryz.prog (Instr.storeAt 32 v2 v115) w116 fun w117 =>
 rdW Tryz.prog (Instr.loadAt 32 v2) w117 fun v118 =>
 K (.tuple #[v118, (.int .i64 2)]) w117)
 (rv Tryz.prog (Instr.fieldAt 41 v0 0) w114 fun v119 w120 =>
 rv Tryz.prog (Instr.loadAt 34 v119) w120 fun v121 w122 =>
 rv Tryz.prog (bin .eql 34 true v121 (.int .u8 6)) w122 fun v123 w124 =>
 ifB v123
 (rx Tryz.prog (bigS 41 v0) w124 fun v125 w126 =>
 Ca Tryz.prog 119 #[a0, v125] w126 fun v127 w128 =>
 rv Tryz.prog (Instr.extract v127 0) w128 fun v129 w130 =>
 rv Tryz.prog (Instr.extract v127 1) w130 fun v131 w132 =>
 ru Tryz.prog (Instr.storeAt 32 v2 v129) w132 fun w133 =>
 rdW Tryz.prog (Instr.loadAt 32 v2) w133 fun v134 =>
 K (.tuple #[v134, v131]) w133)
 (rv Tryz.prog (bin .eql 34 true v121 (.int .u8 7)) w124 fun v135 w136 =>
 ifB v135
 (rx Tryz.prog (bigS 41 v0) w136 fun v137 w138 =>
 Ca Tryz.prog 120 #[a0, v137] w138 fun v139 w140 =>
 rv Tryz.prog (Instr.extract v139 0) w140 fun v141 w142 =>
 rv Tryz.prog (Instr.extract v139 1) w142 fun v143 w144 =>
 ru Tryz.prog (Instr.storeAt 32 v2 v141) w144 fun w145 =>
 rdW Tryz.prog (Instr.loadAt 32 v2) w145 fun v146 =>
 K (.tuple #[v146, v143]) w145)
 (JoinW (S := Value × Value × Unit) (fun J149 =>
 nilK a0 fun v150 => rdP Tryz.prog (Instr.fieldAt 66 v150 1) fun v151 =>
 rdW Tryz.prog (Instr.loadAt 62 v151) w136.drew fun v152 =>
 rdP Tryz.prog (Instr.fieldAt 41 v0 1) fun v153 =>
 rdW Tryz.prog (Instr.loadAt 35 v153) w136.drew fun v154 =>
 (Ca Tryz.prog 52 #[v152, v154] w136.drew fun v155 w156 =>
 rdP Tryz.prog (Instr.extract v155 0) fun v157 =>
 rdP Tryz.prog (Instr.extract v155 1) fun v158 =>
 rv Tryz.prog (Instr.alloc 92 true (.tuple #[])) w156 fun v159 w160 =>
 ru Tryz.prog (Instr.storeAt 92 v159 v157) w160 fun w161 =>
 J149 (v159, v158, ()) w161)
 ∧ (rv Tryz.prog (Instr.alloc 92 true (.tuple #[])) w136.drew fun v162 w163 =>
 Sem.run Tryz.prog (Instr.loadAt 35 v153) w163 = .ok v154 w163 ∧ Sem.run Tryz.prog (Instr.loadAt 62 v151) w163 = .ok v152 w163 ∧ 
 (Ca Tryz.prog 52 #[v152, v154] w163 fun v164 w165 =>
 rdP Tryz.prog (Instr.extract v164 0) fun v166 =>
 rdP Tryz.prog (Instr.extract v164 1) fun v167 =>
 ru Tryz.prog (Instr.storeAt 92 v162 v166) w165 fun w168 =>
 J149 (v162, v167, ()) w168)))
 (J44_5 v2 K v0 a0)))))))))))
theorem F44_eq (a0 a1 : Value) (w : World) (K : Kont) : vcFnJ Tryz.prog Tryz.f44 [a0, a1] w K = F44 a0 a1 w K := by kernel_rfl
theorem F44_ok : okF Tryz.prog Tryz.f44 2 = true := by kernel_rfl
theorem ca44{a0 a1 : Value} {w : World} {K : Kont} (h : F44 a0 a1 w K) : Ca Tryz.prog 44 #[a0, a1] w K :=
  ca_of_vcJ Tryz.noNum Tryz.func44 F44_ok (by rw [F44_eq]; exact h)
def L14_0 (v198 : Value) (v197 : Value) (s30 : Value × Unit) (v105 : Value) (KN93 : World → Prop) (s199 : Value × Unit) (w200 : World) (K201 : Value × Unit → World → Prop) : Prop :=
 ∀ _ : Nat → Value,
 rv Tryz.prog (bin .lss 3 false s199.1 v198) w200 fun v202 w203 =>
 ifB v202
 (rv Tryz.prog (Instr.indexAt 133 v197 s199.1) w203 fun v204 w205 =>
 rv Tryz.prog (Instr.loadAt 117 v204) w205 fun v206 w207 =>
 rv Tryz.prog (Instr.alloc 117 true (.tuple #[])) w207 fun v208 w209 =>
 ru Tryz.prog (Instr.storeAt 117 v208 v206) w209 fun w210 =>
 rv Tryz.prog (Instr.fieldAt 49 s30.1 7) w210 fun v211 w212 =>
 rv Tryz.prog (Instr.loadAt 47 v211) w212 fun v213 w214 =>
 rv Tryz.prog (Instr.loadAt 35 v105) w214 fun v215 w216 =>
 rv Tryz.prog (Instr.loadAt 117 v208) w216 fun v217 w218 =>
 rv Tryz.prog (Instr.build 119 #[(0, v215), (1, v217)]) w218 fun v219 w220 =>
 rx Tryz.prog (xLit 47 1 [(0, v219)]) w220 fun v221 w222 =>
 rx Tryz.prog (xAppend #[47, 47] 47 [v213, v221]) w222 fun v223 w224 =>
 rv Tryz.prog (Instr.fieldAt 49 s30.1 7) w224 fun v225 w226 =>
 ru Tryz.prog (Instr.storeAt 47 v225 v223) w226 fun w227 =>
 rv Tryz.prog (bin .add 3 true s199.1 (.int .i64 1)) w227 fun v228 w229 =>
 K201 (v228, ()) w229)
 (KN93 w203)
def L14_1 (v239 : Value) (v238 : Value) (s30 : Value × Unit) (v105 : Value) (KN93 : World → Prop) (s240 : Value × Unit) (w241 : World) (K242 : Value × Unit → World → Prop) : Prop :=
 ∀ _ : Nat → Value,
 rv Tryz.prog (bin .lss 3 false s240.1 v239) w241 fun v243 w244 =>
 ifB v243
 (rv Tryz.prog (Instr.indexAt 133 v238 s240.1) w244 fun v245 w246 =>
 rv Tryz.prog (Instr.loadAt 117 v245) w246 fun v247 w248 =>
 rv Tryz.prog (Instr.alloc 117 true (.tuple #[])) w248 fun v249 w250 =>
 ru Tryz.prog (Instr.storeAt 117 v249 v247) w250 fun w251 =>
 rv Tryz.prog (Instr.fieldAt 49 s30.1 7) w251 fun v252 w253 =>
 rv Tryz.prog (Instr.loadAt 47 v252) w253 fun v254 w255 =>
 rv Tryz.prog (Instr.loadAt 35 v105) w255 fun v256 w257 =>
 rv Tryz.prog (Instr.loadAt 117 v249) w257 fun v258 w259 =>
 rv Tryz.prog (Instr.build 119 #[(0, v256), (1, v258)]) w259 fun v260 w261 =>
 rx Tryz.prog (xLit 47 1 [(0, v260)]) w261 fun v262 w263 =>
 rx Tryz.prog (xAppend #[47, 47] 47 [v254, v262]) w263 fun v264 w265 =>
 rv Tryz.prog (Instr.fieldAt 49 s30.1 7) w265 fun v266 w267 =>
 ru Tryz.prog (Instr.storeAt 47 v266 v264) w267 fun w268 =>
 rv Tryz.prog (bin .add 3 true s240.1 (.int .i64 1)) w268 fun v269 w270 =>
 K242 (v269, ()) w270)
 (KN93 w244)
def R14_2 (s30 : Value × Unit) (v105 : Value) (l162 : Nat) (x163 : List Value) (w164 : World) (KN165 : World → Prop) (KJ166 : Code → World → Prop) : Prop :=
 rv Tryz.prog (Instr.alloc 117 true (.tuple #[])) w164 fun v167 w168 =>
 ru Tryz.prog (Instr.storeAt 117 v167 (x163.getD 0 undef)) w168 fun w169 =>
 beginK l162 w169 fun w170 =>
 rv Tryz.prog (Instr.fieldAt 49 s30.1 6) w170 fun v171 w172 =>
 rv Tryz.prog (Instr.loadAt 47 v171) w172 fun v173 w174 =>
 rv Tryz.prog (Instr.loadAt 35 v105) w174 fun v175 w176 =>
 rv Tryz.prog (Instr.loadAt 117 v167) w176 fun v177 w178 =>
 rv Tryz.prog (Instr.build 119 #[(0, v175), (1, v177)]) w178 fun v179 w180 =>
 rx Tryz.prog (xLit 47 1 [(0, v179)]) w180 fun v181 w182 =>
 rx Tryz.prog (xAppend #[47, 47] 47 [v173, v181]) w182 fun v183 w184 =>
 rv Tryz.prog (Instr.fieldAt 49 s30.1 6) w184 fun v185 w186 =>
 ru Tryz.prog (Instr.storeAt 47 v185 v183) w186 fun w187 =>
 KN165 w187
def A14_3 (v0 : Value) (v105 : Value) (s30 : Value × Unit) (KN93 : World → Prop) (KJ94 : Code → World → Prop) (mk188 : List Nat) (pd189 : Option Code) (w190 : World) : Prop :=
 afterK
 (fun w191 =>
 rdW Tryz.prog (Instr.loadAt 23 v0) w191.drew fun v192 =>
 nilK v192 fun v193 => rdP Tryz.prog (Instr.fieldAt 66 v193 3) fun v194 =>
 rdW Tryz.prog (Instr.loadAt 64 v194) w191.drew fun v195 =>
 rdW Tryz.prog (Instr.loadAt 35 v105) w191.drew fun v196 =>
 rdX Tryz.prog (xLook 64 v195 v196 false) w191.drew fun v197 =>
 rdW Tryz.prog (Builtin.len_ #[133] 3 #[v197]) w191.drew fun v198 =>
 LoopW (S := Value × Unit) (L14_0 v198 v197 s30 v105 KN93) ((.int .i64 0), ()) w191.drew)
 (fun w230 =>
 KJ94 .ret w230)
 (fun i232 w231 =>
 bc (Nat.beq i232 4)
 (rdW Tryz.prog (Instr.loadAt 23 v0) w231.drew fun v233 =>
 nilK v233 fun v234 => rdP Tryz.prog (Instr.fieldAt 66 v234 3) fun v235 =>
 rdW Tryz.prog (Instr.loadAt 64 v235) w231.drew fun v236 =>
 rdW Tryz.prog (Instr.loadAt 35 v105) w231.drew fun v237 =>
 rdX Tryz.prog (xLook 64 v236 v237 false) w231.drew fun v238 =>
 rdW Tryz.prog (Builtin.len_ #[133] 3 #[v238]) w231.drew fun v239 =>
 LoopW (S := Value × Unit) (L14_1 v239 v238 s30 v105 KN93) ((.int .i64 0), ()) w231.drew)
 (bc (Nat.beq i232 1)
 (KN93 w231)
 (KJ94 (.exit i232) w231))) pd189 w190
def L14_4 (v318 : Value) (v317 : Value) (s30 : Value × Unit) (v105 : Value) (KN93 : World → Prop) (s319 : Value × Unit) (w320 : World) (K321 : Value × Unit → World → Prop) : Prop :=
 ∀ _ : Nat → Value,
 rv Tryz.prog (bin .lss 3 false s319.1 v318) w320 fun v322 w323 =>
 ifB v322
 (rv Tryz.prog (Instr.indexAt 133 v317 s319.1) w323 fun v324 w325 =>
 rv Tryz.prog (Instr.loadAt 117 v324) w325 fun v326 w327 =>
 rv Tryz.prog (Instr.alloc 117 true (.tuple #[])) w327 fun v328 w329 =>
 ru Tryz.prog (Instr.storeAt 117 v328 v326) w329 fun w330 =>
 rv Tryz.prog (Instr.fieldAt 49 s30.1 7) w330 fun v331 w332 =>
 rv Tryz.prog (Instr.loadAt 47 v331) w332 fun v333 w334 =>
 rv Tryz.prog (Instr.loadAt 35 v105) w334 fun v335 w336 =>
 rv Tryz.prog (Instr.loadAt 117 v328) w336 fun v337 w338 =>
 rv Tryz.prog (Instr.build 119 #[(0, v335), (1, v337)]) w338 fun v339 w340 =>
 rx Tryz.prog (xLit 47 1 [(0, v339)]) w340 fun v341 w342 =>
 rx Tryz.prog (xAppend #[47, 47] 47 [v333, v341]) w342 fun v343 w344 =>
 rv Tryz.prog (Instr.fieldAt 49 s30.1 7) w344 fun v345 w346 =>
 ru Tryz.prog (Instr.storeAt 47 v345 v343) w346 fun w347 =>
 rv Tryz.prog (bin .add 3 true s319.1 (.int .i64 1)) w347 fun v348 w349 =>
 K321 (v348, ()) w349)
 (KN93 w323)
def L14_5 (v359 : Value) (v358 : Value) (s30 : Value × Unit) (v105 : Value) (KN93 : World → Prop) (s360 : Value × Unit) (w361 : World) (K362 : Value × Unit → World → Prop) : Prop :=
 ∀ _ : Nat → Value,
 rv Tryz.prog (bin .lss 3 false s360.1 v359) w361 fun v363 w364 =>
 ifB v363
 (rv Tryz.prog (Instr.indexAt 133 v358 s360.1) w364 fun v365 w366 =>
 rv Tryz.prog (Instr.loadAt 117 v365) w366 fun v367 w368 =>
 rv Tryz.prog (Instr.alloc 117 true (.tuple #[])) w368 fun v369 w370 =>
 ru Tryz.prog (Instr.storeAt 117 v369 v367) w370 fun w371 =>
 rv Tryz.prog (Instr.fieldAt 49 s30.1 7) w371 fun v372 w373 =>
 rv Tryz.prog (Instr.loadAt 47 v372) w373 fun v374 w375 =>
 rv Tryz.prog (Instr.loadAt 35 v105) w375 fun v376 w377 =>
 rv Tryz.prog (Instr.loadAt 117 v369) w377 fun v378 w379 =>
 rv Tryz.prog (Instr.build 119 #[(0, v376), (1, v378)]) w379 fun v380 w381 =>
 rx Tryz.prog (xLit 47 1 [(0, v380)]) w381 fun v382 w383 =>
 rx Tryz.prog (xAppend #[47, 47] 47 [v374, v382]) w383 fun v384 w385 =>
 rv Tryz.prog (Instr.fieldAt 49 s30.1 7) w385 fun v386 w387 =>
 ru Tryz.prog (Instr.storeAt 47 v386 v384) w387 fun w388 =>
 rv Tryz.prog (bin .add 3 true s360.1 (.int .i64 1)) w388 fun v389 w390 =>
 K362 (v389, ()) w390)
 (KN93 w364)
def R14_6 (s30 : Value × Unit) (v105 : Value) (l282 : Nat) (x283 : List Value) (w284 : World) (KN285 : World → Prop) (KJ286 : Code → World → Prop) : Prop :=
 rv Tryz.prog (Instr.alloc 117 true (.tuple #[])) w284 fun v287 w288 =>
 ru Tryz.prog (Instr.storeAt 117 v287 (x283.getD 0 undef)) w288 fun w289 =>
 beginK l282 w289 fun w290 =>
 rv Tryz.prog (Instr.fieldAt 49 s30.1 6) w290 fun v291 w292 =>
 rv Tryz.prog (Instr.loadAt 47 v291) w292 fun v293 w294 =>
 rv Tryz.prog (Instr.loadAt 35 v105) w294 fun v295 w296 =>
 rv Tryz.prog (Instr.loadAt 117 v287) w296 fun v297 w298 =>
 rv Tryz.prog (Instr.build 119 #[(0, v295), (1, v297)]) w298 fun v299 w300 =>
 rx Tryz.prog (xLit 47 1 [(0, v299)]) w300 fun v301 w302 =>
 rx Tryz.prog (xAppend #[47, 47] 47 [v293, v301]) w302 fun v303 w304 =>
 rv Tryz.prog (Instr.fieldAt 49 s30.1 6) w304 fun v305 w306 =>
 ru Tryz.prog (Instr.storeAt 47 v305 v303) w306 fun w307 =>
 KN285 w307
def A14_7 (v0 : Value) (v105 : Value) (s30 : Value × Unit) (KN93 : World → Prop) (KJ94 : Code → World → Prop) (mk308 : List Nat) (pd309 : Option Code) (w310 : World) : Prop :=
 afterK
 (fun w311 =>
 rdW Tryz.prog (Instr.loadAt 23 v0) w311.drew fun v312 =>
 nilK v312 fun v313 => rdP Tryz.prog (Instr.fieldAt 66 v313 3) fun v314 =>
 rdW Tryz.prog (Instr.loadAt 64 v314) w311.drew fun v315 =>
 rdW Tryz.prog (Instr.loadAt 35 v105) w311.drew fun v316 =>
 rdX Tryz.prog (xLook 64 v315 v316 false) w311.drew fun v317 =>
 rdW Tryz.prog (Builtin.len_ #[133] 3 #[v317]) w311.drew fun v318 =>
 LoopW (S := Value × Unit) (L14_4 v318 v317 s30 v105 KN93) ((.int .i64 0), ()) w311.drew)
 (fun w350 =>
 KJ94 .ret w350)
 (fun i352 w351 =>
 bc (Nat.beq i352 4)
 (rdW Tryz.prog (Instr.loadAt 23 v0) w351.drew fun v353 =>
 nilK v353 fun v354 => rdP Tryz.prog (Instr.fieldAt 66 v354 3) fun v355 =>
 rdW Tryz.prog (Instr.loadAt 64 v355) w351.drew fun v356 =>
 rdW Tryz.prog (Instr.loadAt 35 v105) w351.drew fun v357 =>
 rdX Tryz.prog (xLook 64 v356 v357 false) w351.drew fun v358 =>
 rdW Tryz.prog (Builtin.len_ #[133] 3 #[v358]) w351.drew fun v359 =>
 LoopW (S := Value × Unit) (L14_5 v359 v358 s30 v105 KN93) ((.int .i64 0), ()) w351.drew)
 (bc (Nat.beq i352 1)
 (KN93 w351)
 (KJ94 (.exit i352) w351))) pd309 w310
def R14_8 (s30 : Value × Unit) (l128 : Nat) (x129 : List Value) (w130 : World) (KN131 : World → Prop) (KJ132 : Code → World → Prop) : Prop :=
 rv Tryz.prog (Instr.alloc 112 true (.tuple #[])) w130 fun v133 w134 =>
 ru Tryz.prog (Instr.storeAt 112 v133 (x129.getD 0 undef)) w134 fun w135 =>
 beginK l128 w135 fun w136 =>
 rv Tryz.prog (Instr.fieldAt 49 s30.1 5) w136 fun v137 w138 =>
 rv Tryz.prog (Instr.loadAt 46 v137) w138 fun v139 w140 =>
 rv Tryz.prog (Instr.loadAt 112 v133) w140 fun v141 w142 =>
 rx Tryz.prog (xLit 46 1 [(0, v141)]) w142 fun v143 w144 =>
 rx Tryz.prog (xAppend #[46, 46] 46 [v139, v143]) w144 fun v145 w146 =>
 rv Tryz.prog (Instr.fieldAt 49 s30.1 5) w146 fun v147 w148 =>
 ru Tryz.prog (Instr.storeAt 46 v147 v145) w148 fun w149 =>
 KN131 w149
def A14_9 (v0 : Value) (v105 : Value) (l90 : Nat) (s30 : Value × Unit) (KN93 : World → Prop) (KJ94 : Code → World → Prop) (mk150 : List Nat) (pd151 : Option Code) (w152 : World) : Prop :=
 afterK
 (fun w153 =>
 rdW Tryz.prog (Instr.loadAt 23 v0) w153.drew fun v154 =>
 nilK v154 fun v155 => rdP Tryz.prog (Instr.fieldAt 66 v155 2) fun v156 =>
 rdW Tryz.prog (Instr.loadAt 63 v156) w153.drew fun v157 =>
 rdW Tryz.prog (Instr.loadAt 35 v105) w153.drew fun v158 =>
 rdX Tryz.prog (xLook 63 v157 v158 false) w153.drew fun v159 =>
 Ca Tryz.prog 57 #[v159] w153.drew fun v160 w161 =>
 RFW Tryz.prog (some l90) v160 w161 1 (R14_2 s30 v105) (A14_3 v0 v105 s30 KN93 KJ94))
 (fun w271 =>
 KJ94 .ret w271)
 (fun i273 w272 =>
 bc (Nat.beq i273 2)
 (rdW Tryz.prog (Instr.loadAt 23 v0) w272.drew fun v274 =>
 nilK v274 fun v275 => rdP Tryz.prog (Instr.fieldAt 66 v275 2) fun v276 =>
 rdW Tryz.prog (Instr.loadAt 63 v276) w272.drew fun v277 =>
 rdW Tryz.prog (Instr.loadAt 35 v105) w272.drew fun v278 =>
 rdX Tryz.prog (xLook 63 v277 v278 false) w272.drew fun v279 =>
 Ca Tryz.prog 57 #[v279] w272.drew fun v280 w281 =>
 RFW Tryz.prog (some l90) v280 w281 1 (R14_6 s30 v105) (A14_7 v0 v105 s30 KN93 KJ94))
 (bc (Nat.beq i273 1)
 (KN93 w272)
 (KJ94 (.exit i273) w272))) pd151 w152
def R14_10 (s30 : Value × Unit) (v0 : Value) (l90 : Nat) (x91 : List Value) (w92 : World) (KN93 : World → Prop) (KJ94 : Code → World → Prop) : Prop :=
 rx Tryz.prog (bigA 108) w92 fun v95 w96 =>
 rux Tryz.prog (bigU 108 v95 (x91.getD 0 undef)) w96 fun w97 =>
 beginK l90 w97 fun w98 =>
 rv Tryz.prog (Instr.fieldAt 108 v95 0) w98 fun v99 w100 =>
 rv Tryz.prog (Instr.fieldAt 38 v99 0) w100 fun v101 w102 =>
 rv Tryz.prog (Instr.loadAt 35 v101) w102 fun v103 w104 =>
 rv Tryz.prog (Instr.alloc 35 true (.tuple #[])) w104 fun v105 w106 =>
 ru Tryz.prog (Instr.storeAt 35 v105 v103) w106 fun w107 =>
 rv Tryz.prog (Instr.fieldAt 49 s30.1 4) w107 fun v108 w109 =>
 rv Tryz.prog (Instr.loadAt 45 v108) w109 fun v110 w111 =>
 rx Tryz.prog (bigS 108 v95) w111 fun v112 w113 =>
 rx Tryz.prog (xLit 45 1 [(0, v112)]) w113 fun v114 w115 =>
 rx Tryz.prog (xAppend #[45, 45] 45 [v110, v114]) w115 fun v116 w117 =>
 rv Tryz.prog (Instr.fieldAt 49 s30.1 4) w117 fun v118 w119 =>
 ru Tryz.prog (Instr.storeAt 45 v118 v116) w119 fun w120 =>
 rdW Tryz.prog (Instr.loadAt 23 v0) w120.drew fun v121 =>
 nilK v121 fun v122 => rdP Tryz.prog (Instr.fieldAt 66 v122 1) fun v123 =>
 rdW Tryz.prog (Instr.loadAt 62 v123) w120.drew fun v124 =>
 rdW Tryz.prog (Instr.loadAt 35 v105) w120.drew fun v125 =>
 Ca Tryz.prog 56 #[v124, v125] w120.drew fun v126 w127 =>
 RFW Tryz.prog (some l90) v126 w127 1 (R14_8 s30) (A14_9 v0 v105 l90 s30 KN93 KJ94)
def A14_11 (s30 : Value × Unit) (v2 : Value) (K : Kont) (mk391 : List Nat) (pd392 : Option Code) (w393 : World) : Prop :=
 afterK
 (fun w394 =>
 rv Tryz.prog (Instr.loadAt 49 s30.1) w394 fun v395 w396 =>
 ru Tryz.prog (Instr.storeAt 49 v2 v395) w396 fun w397 =>
 retD (mk391 ++ []) w397 fun w398 =>
 rdW Tryz.prog (Instr.loadAt 49 v2) w398 fun v399 =>
 K v399 w398)
 (fun w400 =>
 retD (mk391 ++ []) w400 fun w401 =>
 rdW Tryz.prog (Instr.loadAt 49 v2) w401 fun v402 =>
 K v402 w401)
 (fun i404 w403 =>
 bc (Nat.beq i404 0)
 (rv Tryz.prog (Instr.loadAt 49 s30.1) w403 fun v405 w406 =>
 ru Tryz.prog (Instr.storeAt 49 v2 v405) w406 fun w407 =>
 retD (mk391 ++ []) w407 fun w408 =>
 rdW Tryz.prog (Instr.loadAt 49 v2) w408 fun v409 =>
 K v409 w408)
 (False)) pd392 w393
def J14_12 (v0 : Value) (v2 : Value) (K : Kont) (s30 : Value × Unit) (w31 : World) : Prop :=
 ∀ _ : Nat → Value,
 rv Tryz.prog (Instr.loadAt 23 v0) w31 fun v81 w82 =>
 nilK v81 fun v83 => rv Tryz.prog (Instr.fieldAt 66 v83 0) w82 fun v84 w85 =>
 rv Tryz.prog (Instr.loadAt 61 v84) w85 fun v86 w87 =>
 Ca Tryz.prog 47 #[v86] w87 fun v88 w89 =>
 RFW Tryz.prog none v88 w89 1 (R14_10 s30 v0) (A14_11 s30 v2 K)
def F14 (a0 : Value) (w : World) (K : Kont) : Prop :=
 rv Tryz.prog (Instr.box 23 a0) w fun v0 w1 =>
 rv Tryz.prog (Instr.alloc 49 true (.tuple #[])) w1 fun v2 w3 =>
 rv Tryz.prog (Instr.loadAt 23 v0) w3 fun v4 w5 =>
 Ca Tryz.prog 40 #[v4] w5 fun v6 w7 =>
 rv Tryz.prog (Op.unary .not v6) w7 fun v8 w9 =>
 ifB v8
 (rv Tryz.prog (Instr.build 49 #[]) w9 fun v10 w11 =>
 ru Tryz.prog (Instr.storeAt 49 v2 v10) w11 fun w12 =>
 rdW Tryz.prog (Instr.loadAt 49 v2) w12 fun v13 =>
 K v13 w12)
 (rv Tryz.prog (Instr.loadAt 23 v0) w9 fun v14 w15 =>
 nilK v14 fun v16 => rv Tryz.prog (Instr.fieldAt 66 v16 1) w15 fun v17 w18 =>
 rv Tryz.prog (Instr.loadAt 62 v17) w18 fun v19 w20 =>
 Ca Tryz.prog 52 #[v19, (.int .u32 0)] w20 fun v21 w22 =>
 rv Tryz.prog (Instr.extract v21 0) w22 fun v23 w24 =>
 rv Tryz.prog (Instr.extract v21 1) w24 fun v25 w26 =>
 rv Tryz.prog (Instr.alloc 92 true (.tuple #[])) w26 fun v27 w28 =>
 ru Tryz.prog (Instr.storeAt 92 v27 v23) w28 fun w29 =>
 JoinW (S := Value × Unit) (fun J32 =>
 rdW Tryz.prog (Instr.loadAt 23 v0) w29.drew fun v33 =>
 nilK v33 fun v34 => rdP Tryz.prog (Instr.fieldAt 66 v34 0) fun v35 =>
 rdW Tryz.prog (Instr.loadAt 61 v35) w29.drew fun v36 =>
 rdW Tryz.prog (Instr.loadAt 23 v0) w29.drew fun v37 =>
 nilK v37 fun v38 => rdP Tryz.prog (Instr.fieldAt 66 v38 4) fun v39 =>
 rdW Tryz.prog (Instr.loadAt 27 v39) w29.drew fun v40 =>
 rdP Tryz.prog (Instr.fieldAt 92 v27 1) fun v41 =>
 rdW Tryz.prog (Instr.loadAt 2 v41) w29.drew fun v42 =>
 rdW Tryz.prog (Instr.loadAt 23 v0) w29.drew fun v43 =>
 nilK v43 fun v44 => rdP Tryz.prog (Instr.fieldAt 66 v44 1) fun v45 =>
 rdW Tryz.prog (Instr.loadAt 62 v45) w29.drew fun v46 =>
 (Ca Tryz.prog 53 #[v36] w29.drew fun v47 w48 =>
 Sem.run Tryz.prog (Instr.loadAt 62 v45) w48 = .ok v46 w48 ∧ Sem.run Tryz.prog (Instr.loadAt 23 v0) w48 = .ok v43 w48 ∧ Sem.run Tryz.prog (Instr.loadAt 2 v41) w48 = .ok v42 w48 ∧ Sem.run Tryz.prog (Instr.loadAt 27 v39) w48 = .ok v40 w48 ∧ Sem.run Tryz.prog (Instr.loadAt 23 v0) w48 = .ok v37 w48 ∧ 
 ((Ca Tryz.prog 55 #[v46] w48 fun v49 w50 =>
 Sem.run Tryz.prog (Instr.loadAt 2 v41) w50 = .ok v42 w50 ∧ Sem.run Tryz.prog (Instr.loadAt 27 v39) w50 = .ok v40 w50 ∧ Sem.run Tryz.prog (Instr.loadAt 23 v0) w50 = .ok v37 w50 ∧ 
 ((Ca Tryz.prog 54 #[v49] w50 fun v51 w52 =>
 Sem.run Tryz.prog (Instr.loadAt 2 v41) w52 = .ok v42 w52 ∧ Sem.run Tryz.prog (Instr.loadAt 27 v39) w52 = .ok v40 w52 ∧ Sem.run Tryz.prog (Instr.loadAt 23 v0) w52 = .ok v37 w52 ∧ 
 (rdP Tryz.prog (Instr.build 49 #[(0, v47), (1, v40), (2, v42), (3, v51)]) fun v53 =>
 rv Tryz.prog (Instr.alloc 49 true (.tuple #[])) w52 fun v54 w55 =>
 Sem.run Tryz.prog (Instr.loadAt 2 v41) w55 = .ok v42 w55 ∧ Sem.run Tryz.prog (Instr.loadAt 27 v39) w55 = .ok v40 w55 ∧ Sem.run Tryz.prog (Instr.loadAt 23 v0) w55 = .ok v37 w55 ∧ 
 (ru Tryz.prog (Instr.storeAt 49 v54 v53) w55 fun w56 =>
 J32 (v54, ()) w56)))
 ∧ (rv Tryz.prog (Instr.alloc 49 true (.tuple #[])) w50 fun v57 w58 =>
 Sem.run Tryz.prog (Instr.loadAt 2 v41) w58 = .ok v42 w58 ∧ Sem.run Tryz.prog (Instr.loadAt 27 v39) w58 = .ok v40 w58 ∧ Sem.run Tryz.prog (Instr.loadAt 23 v0) w58 = .ok v37 w58 ∧ 
 (Ca Tryz.prog 54 #[v49] w58 fun v59 w60 =>
 Sem.run Tryz.prog (Instr.loadAt 2 v41) w60 = .ok v42 w60 ∧ Sem.run Tryz.prog (Instr.loadAt 27 v39) w60 = .ok v40 w60 ∧ Sem.run Tryz.prog (Instr.loadAt 23 v0) w60 = .ok v37 w60 ∧ 
 (rdP Tryz.prog (Instr.build 49 #[(0, v47), (1, v40), (2, v42), (3, v59)]) fun v61 =>
 ru Tryz.prog (Instr.storeAt 49 v57 v61) w60 fun w62 =>
 J32 (v57, ()) w62)))))
 ∧ (rv Tryz.prog (Instr.alloc 49 true (.tuple #[])) w48 fun v63 w64 =>
 Sem.run Tryz.prog (Instr.loadAt 62 v45) w64 = .ok v46 w64 ∧ Sem.run Tryz.prog (Instr.loadAt 23 v0) w64 = .ok v43 w64 ∧ Sem.run Tryz.prog (Instr.loadAt 2 v41) w64 = .ok v42 w64 ∧ Sem.run Tryz.prog (Instr.loadAt 27 v39) w64 = .ok v40 w64 ∧ Sem.run Tryz.prog (Instr.loadAt 23 v0) w64 = .ok v37 w64 ∧ 
 (Ca Tryz.prog 55 #[v46] w64 fun v65 w66 =>
 Sem.run Tryz.prog (Instr.loadAt 2 v41) w66 = .ok v42 w66 ∧ Sem.run Tryz.prog (Instr.loadAt 27 v39) w66 = .ok v40 w66 ∧ Sem.run Tryz.prog (Instr.loadAt 23 v0) w66 = .ok v37 w66 ∧ 
 (Ca Tryz.prog 54 #[v65] w66 fun v67 w68 =>
 Sem.run Tryz.prog (Instr.loadAt 2 v41) w68 = .ok v42 w68 ∧ Sem.run Tryz.prog (Instr.loadAt 27 v39) w68 = .ok v40 w68 ∧ Sem.run Tryz.prog (Instr.loadAt 23 v0) w68 = .ok v37 w68 ∧ 
 (rdP Tryz.prog (Instr.build 49 #[(0, v47), (1, v40), (2, v42), (3, v67)]) fun v69 =>
 ru Tryz.prog (Instr.storeAt 49 v63 v69) w68 fun w70 =>
 J32 (v63, ()) w70))))))
 ∧ (rv Tryz.prog (Instr.alloc 49 true (.tuple #[])) w29.drew fun v71 w72 =>
 Sem.run Tryz.prog (Instr.loadAt 62 v45) w72 = .ok v46 w72 ∧ Sem.run Tryz.prog (Instr.loadAt 23 v0) w72 = .ok v43 w72 ∧ Sem.run Tryz.prog (Instr.loadAt 2 v41) w72 = .ok v42 w72 ∧ Sem.run Tryz.prog (Instr.loadAt 27 v39) w72 = .ok v40 w72 ∧ Sem.run Tryz.prog (Instr.loadAt 23 v0) w72 = .ok v37 w72 ∧ Sem.run Tryz.prog (Instr.loadAt 61 v35) w72 = .ok v36 w72 ∧ Sem.run Tryz.prog (Instr.loadAt 23 v0) w72 = .ok v33 w72 ∧ 
 (Ca Tryz.prog 53 #[v36] w72 fun v73 w74 =>
 Sem.run Tryz.prog (Instr.loadAt 62 v45) w74 = .ok v46 w74 ∧ Sem.run Tryz.prog (Instr.loadAt 23 v0) w74 = .ok v43 w74 ∧ Sem.run Tryz.prog (Instr.loadAt 2 v41) w74 = .ok v42 w74 ∧ Sem.run Tryz.prog (Instr.loadAt 27 v39) w74 = .ok v40 w74 ∧ Sem.run Tryz.prog (Instr.loadAt 23 v0) w74 = .ok v37 w74 ∧ 
 (Ca Tryz.prog 55 #[v46] w74 fun v75 w76 =>
 Sem.run Tryz.prog (Instr.loadAt 2 v41) w76 = .ok v42 w76 ∧ Sem.run Tryz.prog (Instr.loadAt 27 v39) w76 = .ok v40 w76 ∧ Sem.run Tryz.prog (Instr.loadAt 23 v0) w76 = .ok v37 w76 ∧ 
 (Ca Tryz.prog 54 #[v75] w76 fun v77 w78 =>
 Sem.run Tryz.prog (Instr.loadAt 2 v41) w78 = .ok v42 w78 ∧ Sem.run Tryz.prog (Instr.loadAt 27 v39) w78 = .ok v40 w78 ∧ Sem.run Tryz.prog (Instr.loadAt 23 v0) w78 = .ok v37 w78 ∧ 
 (rdP Tryz.prog (Instr.build 49 #[(0, v73), (1, v40), (2, v42), (3, v77)]) fun v79 =>
 ru Tryz.prog (Instr.storeAt 49 v71 v79) w78 fun w80 =>
 J32 (v71, ()) w80))))))
 (J14_12 v0 v2 K))
theorem F14_eq (a0 : Value) (w : World) (K : Kont) : vcFnJ Tryz.prog Tryz.f14 [a0] w K = F14 a0 w K := by kernel_rfl
theorem F14_ok : okF Tryz.prog Tryz.f14 1 = true := by kernel_rfl
theorem ca14{a0 : Value} {w : World} {K : Kont} (h : F14 a0 w K) : Ca Tryz.prog 14 #[a0] w K :=
  ca_of_vcJ Tryz.noNum Tryz.func14 F14_ok (by rw [F14_eq]; exact h)
def F54 (a0 : Value) (w : World) (K : Kont) : Prop :=
 Ca Tryz.prog 137 #[(.slice none 0 0), a0] w fun v0 w1 =>
 K v0 w1
theorem F54_eq (a0 : Value) (w : World) (K : Kont) : vcFnJ Tryz.prog Tryz.f54 [a0] w K = F54 a0 w K := by kernel_rfl
theorem F54_ok : okF Tryz.prog Tryz.f54 1 = true := by kernel_rfl
theorem ca54{a0 : Value} {w : World} {K : Kont} (h : F54 a0 w K) : Ca Tryz.prog 54 #[a0] w K :=
  ca_of_vcJ Tryz.noNum Tryz.func54 F54_ok (by rw [F54_eq]; exact h)
def R137_0 (v0 : Value) (l2 : Nat) (x3 : List Value) (w4 : World) (KN5 : World → Prop) (KJ6 : Code → World → Prop) : Prop :=
 rv Tryz.prog (Instr.alloc 92 true (.tuple #[])) w4 fun v7 w8 =>
 ru Tryz.prog (Instr.storeAt 92 v7 (x3.getD 0 undef)) w8 fun w9 =>
 beginK l2 w9 fun w10 =>
 rv Tryz.prog (Instr.loadAt 44 v0) w10 fun v11 w12 =>
 rv Tryz.prog (Instr.loadAt 92 v7) w12 fun v13 w14 =>
 rx Tryz.prog (xLit 44 1 [(0, v13)]) w14 fun v15 w16 =>
 rx Tryz.prog (xAppend #[44, 44] 44 [v11, v15]) w16 fun v17 w18 =>
 ru Tryz.prog (Instr.storeAt 44 v0 v17) w18 fun w19 =>
 KN5 w19
def A137_1 (v0 : Value) (K : Kont) (mk20 : List Nat) (pd21 : Option Code) (w22 : World) : Prop :=
 afterK
 (fun w23 =>
 rv Tryz.prog (Instr.loadAt 44 v0) w23 fun v24 w25 =>
 retD (mk20 ++ []) w25 fun w26 =>
 K v24 w26)
 (fun w27 =>
 retD (mk20 ++ []) w27 fun w28 =>
 K (.slice none 0 0) w28)
 (fun i30 w29 =>
 bc (Nat.beq i30 0)
 (rv Tryz.prog (Instr.loadAt 44 v0) w29 fun v31 w32 =>
 retD (mk20 ++ []) w32 fun w33 =>
 K v31 w33)
 (False)) pd21 w22
def F137 (a0 a1 : Value) (w : World) (K : Kont) : Prop :=
 rv Tryz.prog (Instr.box 44 a0) w fun v0 w1 =>
 RFW Tryz.prog none a1 w1 1 (R137_0 v0) (A137_1 v0 K)
theorem F137_eq (a0 a1 : Value) (w : World) (K : Kont) : vcFnJ Tryz.prog Tryz.f137 [a0, a1] w K = F137 a0 a1 w K := by kernel_rfl
theorem F137_ok : okF Tryz.prog Tryz.f137 2 = true := by kernel_rfl
theorem ca137{a0 a1 : Value} {w : World} {K : Kont} (h : F137 a0 a1 w K) : Ca Tryz.prog 137 #[a0, a1] w K :=
  ca_of_vcJ Tryz.noNum Tryz.func137 F137_ok (by rw [F137_eq]; exact h)
end Go.Proofs
