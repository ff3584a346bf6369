/- Part of a proof. -/
import Derived.Test.YtgebhcgmckjbbaaGreatS5
set_option linter.all false
set_option maxRecDepth 100000
namespace Go.Proofs
open Go Go.Vc
def J106_0(v0:Value)(v10:Value)(v2:Value)(K:Kont)(v15:Value)(s17:Value×Unit)(w18:World):Prop:=
 ∀_:Nat→Value,
 ifB s17.1
 (rdP Tryz.prog (Instr.fieldAt 41 v0 1) λv24=>
 rdW Tryz.prog (Instr.loadAt 35 v24) w18.drew λv25=>
 rdP Tryz.prog (Instr.fieldAt 41 v0 4) λv26=>
 rdW Tryz.prog (Instr.loadAt 2 v26) w18.drew λv27=>
 rdP Tryz.prog (Instr.fieldAt 41 v10 1) λv28=>
 ru Tryz.prog (Instr.storeAt 35 v28 v25) w18.drew λw29=>
 Sem.run Tryz.prog (Instr.loadAt 2 v26) w29=.ok v27 w29∧
 (rdP Tryz.prog (Instr.fieldAt 41 v10 4) λv30=>
 ru Tryz.prog (Instr.storeAt 2 v30 v27) w29 λw31=>
 rx Tryz.prog (bigS 41 v10) w31 λv32 w33=>
 rux Tryz.prog (bigU 41 v2 v32) w33 λw34=>
 rdX Tryz.prog (bigS 41 v2) w34 λv35=>
 K v35 w34))
 (rv Tryz.prog (bin .eql 34 true v15 (.int .u8 3)) w18 λv36 w37=>
 ifB v36
 (rv Tryz.prog (Instr.fieldAt 41 v0 5) w37 λv38 w39=>
 rx Tryz.prog (bigS 38 v38) w39 λv40 w41=>
 rv Tryz.prog (Instr.fieldAt 41 v10 5) w41 λv42 w43=>
 rux Tryz.prog (bigU 38 v42 v40) w43 λw44=>
 rx Tryz.prog (bigS 41 v10) w44 λv45 w46=>
 rux Tryz.prog (bigU 41 v2 v45) w46 λw47=>
 rdX Tryz.prog (bigS 41 v2) w47 λv48=>
 K v48 w47)
 (rv Tryz.prog (bin .eql 34 true v15 (.int .u8 4)) w37 λv49 w50=>
 ifB v49
 (rdP Tryz.prog (Instr.fieldAt 41 v0 2) λv51=>
 rdW Tryz.prog (Instr.loadAt 35 v51) w50.drew λv52=>
 rdP Tryz.prog (Instr.fieldAt 41 v0 6) λv53=>
 rdW Tryz.prog (Instr.loadAt 4 v53) w50.drew λv54=>
 rdP Tryz.prog (Instr.fieldAt 41 v10 2) λv55=>
 ru Tryz.prog (Instr.storeAt 35 v55 v52) w50.drew λw56=>
 Sem.run Tryz.prog (Instr.loadAt 4 v53) w56=.ok v54 w56∧
 (rdP Tryz.prog (Instr.fieldAt 41 v10 6) λv57=>
 ru Tryz.prog (Instr.storeAt 4 v57 v54) w56 λw58=>
 rx Tryz.prog (bigS 41 v10) w58 λv59 w60=>
 rux Tryz.prog (bigU 41 v2 v59) w60 λw61=>
 rdX Tryz.prog (bigS 41 v2) w61 λv62=>
 K v62 w61))
 (rv Tryz.prog (bin .eql 34 true v15 (.int .u8 5)) w50 λv63 w64=>
 ifB v63
 (rx Tryz.prog (bigS 41 v0) w64 λv65 w66=>
 rux Tryz.prog (bigU 41 v10 v65) w66 λw67=>
 rx Tryz.prog (bigB 38 #[]) w67 λv68 w69=>
 rv Tryz.prog (Instr.fieldAt 41 v10 3) w69 λv70 w71=>
 ru Tryz.prog (Instr.storeAt 27 v70 (.int .u64 0)) w71 λw72=>
 rv Tryz.prog (Instr.fieldAt 41 v10 4) w72 λv73 w74=>
 ru Tryz.prog (Instr.storeAt 2 v73 (.int .i64 0)) w74 λw75=>
 rv Tryz.prog (Instr.fieldAt 41 v10 5) w75 λv76 w77=>
 rux Tryz.prog (bigU 38 v76 v68) w77 λw78=>
 rv Tryz.prog (Instr.fieldAt 41 v10 6) w78 λv79 w80=>
 ru Tryz.prog (Instr.storeAt 4 v79 (.bool false)) w80 λw81=>
 rx Tryz.prog (bigS 41 v10) w81 λv82 w83=>
 rux Tryz.prog (bigU 41 v2 v82) w83 λw84=>
 rdX Tryz.prog (bigS 41 v2) w84 λv85=>
 K v85 w84)
 (rv Tryz.prog (bin .eql 34 true v15 (.int .u8 6)) w64 λv86 w87=>
 ifB v86
 (rdP Tryz.prog (Instr.fieldAt 41 v0 1) λv88=>
 rdW Tryz.prog (Instr.loadAt 35 v88) w87.drew λv89=>
 rdP Tryz.prog (Instr.fieldAt 41 v0 3) λv90=>
 rdW Tryz.prog (Instr.loadAt 27 v90) w87.drew λv91=>
 rdP Tryz.prog (Instr.fieldAt 41 v10 1) λv92=>
 ru Tryz.prog (Instr.storeAt 35 v92 v89) w87.drew λw93=>
 Sem.run Tryz.prog (Instr.loadAt 27 v90) w93=.ok v91 w93∧
 (rdP Tryz.prog (Instr.fieldAt 41 v10 3) λv94=>
 ru Tryz.prog (Instr.storeAt 27 v94 v91) w93 λw95=>
 rx Tryz.prog (bigS 41 v10) w95 λv96 w97=>
 rux Tryz.prog (bigU 41 v2 v96) w97 λw98=>
 rdX Tryz.prog (bigS 41 v2) w98 λv99=>
 K v99 w98))
 (rv Tryz.prog (bin .eql 34 true v15 (.int .u8 7)) w87 λv100 w101=>
 ifB v100
 (rdP Tryz.prog (Instr.fieldAt 41 v0 1) λv102=>
 rdW Tryz.prog (Instr.loadAt 35 v102) w101.drew λv103=>
 rdP Tryz.prog (Instr.fieldAt 41 v0 3) λv104=>
 rdW Tryz.prog (Instr.loadAt 27 v104) w101.drew λv105=>
 rdP Tryz.prog (Instr.fieldAt 41 v0 9) λv106=>
 rdW Tryz.prog (Instr.loadAt 2 v106) w101.drew λv107=>
 rdP Tryz.prog (Instr.fieldAt 41 v0 10) λv108=>
 rdW Tryz.prog (Instr.loadAt 2 v108) w101.drew λv109=>
 rdP Tryz.prog (Instr.fieldAt 41 v10 1) λv110=>
 ru Tryz.prog (Instr.storeAt 35 v110 v103) w101.drew λw111=>
 Sem.run Tryz.prog (Instr.loadAt 2 v108) w111=.ok v109 w111∧Sem.run Tryz.prog (Instr.loadAt 2 v106) w111=.ok v107 w111∧Sem.run Tryz.prog (Instr.loadAt 27 v104) w111=.ok v105 w111∧
 (rdP Tryz.prog (Instr.fieldAt 41 v10 3) λv112=>
 ru Tryz.prog (Instr.storeAt 27 v112 v105) w111 λw113=>
 Sem.run Tryz.prog (Instr.loadAt 2 v108) w113=.ok v109 w113∧Sem.run Tryz.prog (Instr.loadAt 2 v106) w113=.ok v107 w113∧
 (rdP Tryz.prog (Instr.fieldAt 41 v10 9) λv114=>
 ru Tryz.prog (Instr.storeAt 2 v114 v107) w113 λw115=>
 Sem.run Tryz.prog (Instr.loadAt 2 v108) w115=.ok v109 w115∧
 (rdP Tryz.prog (Instr.fieldAt 41 v10 10) λv116=>
 ru Tryz.prog (Instr.storeAt 2 v116 v109) w115 λw117=>
 rx Tryz.prog (bigS 41 v10) w117 λv118 w119=>
 rux Tryz.prog (bigU 41 v2 v118) w119 λw120=>
 rdX Tryz.prog (bigS 41 v2) w120 λv121=>
 K v121 w120))))
 (rv Tryz.prog (bin .eql 34 true v15 (.int .u8 8)) w101 λv122 w123=>
 ifB v122
 (rdP Tryz.prog (Instr.fieldAt 41 v0 1) λv124=>
 rdW Tryz.prog (Instr.loadAt 35 v124) w123.drew λv125=>
 rdP Tryz.prog (Instr.fieldAt 41 v0 2) λv126=>
 rdW Tryz.prog (Instr.loadAt 35 v126) w123.drew λv127=>
 rdP Tryz.prog (Instr.fieldAt 41 v10 1) λv128=>
 ru Tryz.prog (Instr.storeAt 35 v128 v125) w123.drew λw129=>
 Sem.run Tryz.prog (Instr.loadAt 35 v126) w129=.ok v127 w129∧
 (rdP Tryz.prog (Instr.fieldAt 41 v10 2) λv130=>
 ru Tryz.prog (Instr.storeAt 35 v130 v127) w129 λw131=>
 rx Tryz.prog (bigS 41 v10) w131 λv132 w133=>
 rux Tryz.prog (bigU 41 v2 v132) w133 λw134=>
 rdX Tryz.prog (bigS 41 v2) w134 λv135=>
 K v135 w134))
 (rv Tryz.prog (bin .eql 34 true v15 (.int .u8 9)) w123 λv136 w137=>
 ifB v136
 (rdP Tryz.prog (Instr.fieldAt 41 v0 1) λv138=>
 rdW Tryz.prog (Instr.loadAt 35 v138) w137.drew λv139=>
 rdP Tryz.prog (Instr.fieldAt 41 v0 2) λv140=>
 rdW Tryz.prog (Instr.loadAt 35 v140) w137.drew λv141=>
 rdP Tryz.prog (Instr.fieldAt 41 v0 7) λv142=>
 rdW Tryz.prog (Instr.loadAt 4 v142) w137.drew λv143=>
 rdP Tryz.prog (Instr.fieldAt 41 v0 9) λv144=>
 rdW Tryz.prog (Instr.loadAt 2 v144) w137.drew λv145=>
 rdP Tryz.prog (Instr.fieldAt 41 v0 10) λv146=>
 rdW Tryz.prog (Instr.loadAt 2 v146) w137.drew λv147=>
 rdP Tryz.prog (Instr.fieldAt 41 v10 1) λv148=>
 ru Tryz.prog (Instr.storeAt 35 v148 v139) w137.drew λw149=>
 Sem.run Tryz.prog (Instr.loadAt 2 v146) w149=.ok v147 w149∧Sem.run Tryz.prog (Instr.loadAt 2 v144) w149=.ok v145 w149∧Sem.run Tryz.prog (Instr.loadAt 4 v142) w149=.ok v143 w149∧Sem.run Tryz.prog (Instr.loadAt 35 v140) w149=.ok v141 w149∧
 (rdP Tryz.prog (Instr.fieldAt 41 v10 2) λv150=>
 ru Tryz.prog (Instr.storeAt 35 v150 v141) w149 λw151=>
 Sem.run Tryz.prog (Instr.loadAt 2 v146) w151=.ok v147 w151∧Sem.run Tryz.prog (Instr.loadAt 2 v144) w151=.ok v145 w151∧Sem.run Tryz.prog (Instr.loadAt 4 v142) w151=.ok v143 w151∧
 (rdP Tryz.prog (Instr.fieldAt 41 v10 7) λv152=>
 ru Tryz.prog (Instr.storeAt 4 v152 v143) w151 λw153=>
 Sem.run Tryz.prog (Instr.loadAt 2 v146) w153=.ok v147 w153∧Sem.run Tryz.prog (Instr.loadAt 2 v144) w153=.ok v145 w153∧
 (rdP Tryz.prog (Instr.fieldAt 41 v10 9) λv154=>
 ru Tryz.prog (Instr.storeAt 2 v154 v145) w153 λw155=>
 Sem.run Tryz.prog (Instr.loadAt 2 v146) w155=.ok v147 w155∧
 (rdP Tryz.prog (Instr.fieldAt 41 v10 10) λv156=>
 ru Tryz.prog (Instr.storeAt 2 v156 v147) w155 λw157=>
 rx Tryz.prog (bigS 41 v10) w157 λv158 w159=>
 rux Tryz.prog (bigU 41 v2 v158) w159 λw160=>
 rdX Tryz.prog (bigS 41 v2) w160 λv161=>
 K v161 w160)))))
 (rv Tryz.prog (bin .eql 34 true v15 (.int .u8 10)) w137 λv162 w163=>
 ifB v162
 (rdP Tryz.prog (Instr.fieldAt 41 v0 1) λv164=>
 rdW Tryz.prog (Instr.loadAt 35 v164) w163.drew λv165=>
 rdP Tryz.prog (Instr.fieldAt 41 v0 6) λv166=>
 rdW Tryz.prog (Instr.loadAt 4 v166) w163.drew λv167=>
 rdP Tryz.prog (Instr.fieldAt 41 v10 1) λv168=>
 ru Tryz.prog (Instr.storeAt 35 v168 v165) w163.drew λw169=>
 Sem.run Tryz.prog (Instr.loadAt 4 v166) w169=.ok v167 w169∧
 (rdP Tryz.prog (Instr.fieldAt 41 v10 6) λv170=>
 ru Tryz.prog (Instr.storeAt 4 v170 v167) w169 λw171=>
 rx Tryz.prog (bigS 41 v10) w171 λv172 w173=>
 rux Tryz.prog (bigU 41 v2 v172) w173 λw174=>
 rdX Tryz.prog (bigS 41 v2) w174 λv175=>
 K v175 w174))
 (rv Tryz.prog (bin .eql 34 true v15 (.int .u8 11)) w163 λv176 w177=>
 ifB v176
 (rdP Tryz.prog (Instr.fieldAt 41 v0 2) λv178=>
 rdW Tryz.prog (Instr.loadAt 35 v178) w177.drew λv179=>
 rdP Tryz.prog (Instr.fieldAt 41 v0 9) λv180=>
 rdW Tryz.prog (Instr.loadAt 2 v180) w177.drew λv181=>
 rdP Tryz.prog (Instr.fieldAt 41 v10 2) λv182=>
 ru Tryz.prog (Instr.storeAt 35 v182 v179) w177.drew λw183=>
 Sem.run Tryz.prog (Instr.loadAt 2 v180) w183=.ok v181 w183∧
 (rdP Tryz.prog (Instr.fieldAt 41 v10 9) λv184=>
 ru Tryz.prog (Instr.storeAt 2 v184 v181) w183 λw185=>
 rx Tryz.prog (bigS 41 v10) w185 λv186 w187=>
 rux Tryz.prog (bigU 41 v2 v186) w187 λw188=>
 rdX Tryz.prog (bigS 41 v2) w188 λv189=>
 K v189 w188))
 (rv Tryz.prog (bin .eql 34 true v15 (.int .u8 13)) w177 λv190 w191=>
 ifB v190
 (rv Tryz.prog (Instr.fieldAt 41 v0 1) w191 λv192 w193=>
 rv Tryz.prog (Instr.loadAt 35 v192) w193 λv194 w195=>
 rv Tryz.prog (Instr.fieldAt 41 v10 1) w195 λv196 w197=>
 ru Tryz.prog (Instr.storeAt 35 v196 v194) w197 λw198=>
 rx Tryz.prog (bigS 41 v10) w198 λv199 w200=>
 rux Tryz.prog (bigU 41 v2 v199) w200 λw201=>
 rdX Tryz.prog (bigS 41 v2) w201 λv202=>
 K v202 w201)
 (rv Tryz.prog (bin .eql 34 true v15 (.int .u8 14)) w191 λv203 w204=>
 ifB v203
 (rv Tryz.prog (Instr.fieldAt 41 v0 2) w204 λv205 w206=>
 rv Tryz.prog (Instr.loadAt 35 v205) w206 λv207 w208=>
 rv Tryz.prog (Instr.fieldAt 41 v10 2) w208 λv209 w210=>
 ru Tryz.prog (Instr.storeAt 35 v209 v207) w210 λw211=>
 rx Tryz.prog (bigS 41 v10) w211 λv212 w213=>
 rux Tryz.prog (bigU 41 v2 v212) w213 λw214=>
 rdX Tryz.prog (bigS 41 v2) w214 λv215=>
 K v215 w214)
 (rx Tryz.prog (bigS 41 v10) w204 λv216 w217=>
 rux Tryz.prog (bigU 41 v2 v216) w217 λw218=>
 rdX Tryz.prog (bigS 41 v2) w218 λv219=>
 K v219 w218))))))))))))
def F106(a0:Value)(w:World)(K:Kont):Prop:=
 rv Tryz.prog (Instr.box 41 a0) w λv0 w1=>
 rx Tryz.prog (bigA 41) w1 λv2 w3=>
 rv Tryz.prog (Instr.fieldAt 41 v0 0) w3 λv4 w5=>
 rv Tryz.prog (Instr.loadAt 34 v4) w5 λv6 w7=>
 rx Tryz.prog (bigB 41 #[(0,v6)]) w7 λv8 w9=>
 rx Tryz.prog (bigA 41) w9 λv10 w11=>
 rux Tryz.prog (bigU 41 v10 v8) w11 λw12=>
 rv Tryz.prog (Instr.fieldAt 41 v0 0) w12 λv13 w14=>
 rv Tryz.prog (Instr.loadAt 34 v13) w14 λv15 w16=>
 JoinW (S:=Value×Unit) (λJ19=>
 rv Tryz.prog (bin .eql 34 true v15 (.int .u8 1)) w16 λv20 w21=>
 ifB v20
 (J19 (v20,()) w21)
 (rv Tryz.prog (bin .eql 34 true v15 (.int .u8 2)) w21 λv22 w23=>
 J19 (v22,()) w23))
 (J106_0 v0 v10 v2 K v15)
theorem F106_eq(a0:Value)(w:World)(K:Kont):vcFnJ Tryz.prog Tryz.f106 [a0] w K=F106 a0 w K:=by kernel_rfl
theorem F106_ok:okF Tryz.prog Tryz.f106 1=true:=by kernel_rfl
theorem ca106{a0:Value}{w:World}{K:Kont}(h:F106 a0 w K):Ca Tryz.prog 106 #[a0] w K:=
 ca_of_vcJ Tryz.noNum Tryz.func106 F106_ok (by rw[F106_eq];exact h)
def F42(a0:Value)(w:World)(K:Kont):Prop:=
 rv Tryz.prog (Instr.box 41 a0) w λv0 w1=>
 rdP Tryz.prog (Instr.fieldAt 41 v0 0) λv2=>
 rdW Tryz.prog (Instr.loadAt 34 v2) w1.drew λv3=>
 rdP Tryz.prog (bin .geq 34 true v3 (.int .u8 1)) λv4=>
 ifB v4
 (rdP Tryz.prog (Instr.fieldAt 41 v0 0) λv5=>
 rdW Tryz.prog (Instr.loadAt 34 v5) w1.drew λv6=>
 rdP Tryz.prog (bin .leq 34 true v6 (.int .u8 14)) λv7=>
 ifB v7
 (rdX Tryz.prog (bigS 41 v0) w1.drew λv8=>
 rdX Tryz.prog (bigS 41 v0) w1.drew λv9=>
 Ca Tryz.prog 106 #[v9] w1.drew λv10 w11=>
 Sem.run Tryz.prog (bigS 41 v0) w11=.ok v8 w11∧
 (rdP Tryz.prog (bin .eql 41 false v8 v10) λv12=>
 ifB v12
 (rdP Tryz.prog (Instr.fieldAt 41 v0 0) λv13=>
 rdW Tryz.prog (Instr.loadAt 34 v13) w11 λv14=>
 rdP Tryz.prog (bin .neq 34 true v14 (.int .u8 3)) λv15=>
 ifB v15
 (K (.bool true) w11)
 (rdP Tryz.prog (Instr.fieldAt 41 v0 5) λv16=>
 rdX Tryz.prog (bigS 38 v16) w11 λv17=>
 Ca Tryz.prog 107 #[v17] w11 λv18 w19=>
 K v18 w19))
 (K (.bool false) w11)))
 (K (.bool false) w1.drew))
 (K (.bool false) w1.drew)
theorem F42_eq(a0:Value)(w:World)(K:Kont):vcFnJ Tryz.prog Tryz.f42 [a0] w K=F42 a0 w K:=by kernel_rfl
theorem F42_ok:okF Tryz.prog Tryz.f42 1=true:=by kernel_rfl
theorem ca42{a0:Value}{w:World}{K:Kont}(h:F42 a0 w K):Ca Tryz.prog 42 #[a0] w K:=
 ca_of_vcJ Tryz.noNum Tryz.func42 F42_ok (by rw[F42_eq];exact h)
def F10(w:World)(K:Kont):Prop:=
 Ca Tryz.prog 35 #[] w λv0 w1=>
 Ca Tryz.prog 36 #[] w1 λv2 w3=>
 rv Tryz.prog (Instr.makeMap 63 none) w3 λv4 w5=>
 rv Tryz.prog (Instr.makeMap 64 none) w5 λv6 w7=>
 rv Tryz.prog (Instr.build 66 #[(0,v0),(1,v2),(2,v4),(3,v6),(4,(.int .u64 1))]) w7 λv8 w9=>
 rv Tryz.prog (Instr.box 66 v8) w9 λv10 w11=>
 K v10 w11
theorem F10_eq(w:World)(K:Kont):vcFnJ Tryz.prog Tryz.f10 [] w K=F10 w K:=by kernel_rfl
theorem F10_ok:okF Tryz.prog Tryz.f10 0=true:=by kernel_rfl
theorem ca10{w:World}{K:Kont}(h:F10 w K):Ca Tryz.prog 10 #[] w K:=
 ca_of_vcJ Tryz.noNum Tryz.func10 F10_ok (by rw[F10_eq];exact h)
def F40(a0:Value)(w:World)(K:Kont):Prop:=
 rv Tryz.prog (bin .neq 23 true a0 (.pointer none)) w λv0 w1=>
 ifB v0
 (nilK a0 λv2=>rv Tryz.prog (Instr.fieldAt 66 v2 1) w1 λv3 w4=>
 rv Tryz.prog (Instr.loadAt 62 v3) w4 λv5 w6=>
 rv Tryz.prog (bin .neq 62 true v5 (.pointer none)) w6 λv7 w8=>
 K v7 w8)
 (K (.bool false) w1)
theorem F40_eq(a0:Value)(w:World)(K:Kont):vcFnJ Tryz.prog Tryz.f40 [a0] w K=F40 a0 w K:=by kernel_rfl
theorem F40_ok:okF Tryz.prog Tryz.f40 1=true:=by kernel_rfl
theorem ca40{a0:Value}{w:World}{K:Kont}(h:F40 a0 w K):Ca Tryz.prog 40 #[a0] w K:=
 ca_of_vcJ Tryz.noNum Tryz.func40 F40_ok (by rw[F40_eq];exact h)
def L43_0(v151:Value)(s4:Value×Unit)(K:Kont)(s153:Unit)(w154:World)(K155:Unit→World→Prop):Prop:=
 ∀_:Nat→Value,
 rx Tryz.prog (xNext v151 false 0) w154 λv156 w157=>
 rv Tryz.prog (Instr.extract v156 0) w157 λv158 w159=>
 ifB v158
 (rx Tryz.prog (xEntry v151) w159 λv160 w161=>
 rv Tryz.prog (Instr.extract v160 0) w161 λv162 w163=>
 rv Tryz.prog (Instr.extract v160 1) w163 λv164 w165=>
 nilK s4.1 λv166=>rdP Tryz.prog (Instr.fieldAt 66 v166 3) λv167=>
 rdW Tryz.prog (Instr.loadAt 64 v167) w165.drew λv168=>
 Ca Tryz.prog 111 #[v164] w165.drew λv169 w170=>
 Sem.run Tryz.prog (Instr.loadAt 64 v167) w170=.ok v168 w170∧
 (rux Tryz.prog (xMapUp 64 v168 v162 v169) w170 λw171=>
 K155 (()) w171))
 (K s4.1 w159)
def L43_1(v125:Value)(s4:Value×Unit)(a0:Value)(K:Kont)(s127:Unit)(w128:World)(K129:Unit→World→Prop):Prop:=
 ∀_:Nat→Value,
 rx Tryz.prog (xNext v125 false 0) w128 λv130 w131=>
 rv Tryz.prog (Instr.extract v130 0) w131 λv132 w133=>
 ifB v132
 (rx Tryz.prog (xEntry v125) w133 λv134 w135=>
 rv Tryz.prog (Instr.extract v134 0) w135 λv136 w137=>
 rv Tryz.prog (Instr.extract v134 1) w137 λv138 w139=>
 nilK s4.1 λv140=>rdP Tryz.prog (Instr.fieldAt 66 v140 2) λv141=>
 rdW Tryz.prog (Instr.loadAt 63 v141) w139.drew λv142=>
 Ca Tryz.prog 110 #[v138] w139.drew λv143 w144=>
 Sem.run Tryz.prog (Instr.loadAt 63 v141) w144=.ok v142 w144∧
 (rux Tryz.prog (xMapUp 63 v142 v136 v143) w144 λw145=>
 K129 (()) w145))
 (nilK a0 λv146=>rv Tryz.prog (Instr.fieldAt 66 v146 3) w133 λv147 w148=>
 rv Tryz.prog (Instr.loadAt 64 v147) w148 λv149 w150=>
 rx Tryz.prog (xRange 64 v149) w150 λv151 w152=>
 LoopW (S:=Unit) (L43_0 v151 s4 K) (()) w152)
def J43_2(a0:Value)(K:Kont)(s4:Value×Unit)(w5:World):Prop:=
 ∀_:Nat→Value,
 nilK a0 λv120=>rv Tryz.prog (Instr.fieldAt 66 v120 2) w5 λv121 w122=>
 rv Tryz.prog (Instr.loadAt 63 v121) w122 λv123 w124=>
 rx Tryz.prog (xRange 63 v123) w124 λv125 w126=>
 LoopW (S:=Unit) (L43_1 v125 s4 a0 K) (()) w126
def F43(a0:Value)(w:World)(K:Kont):Prop:=
 Ca Tryz.prog 40 #[a0] w λv0 w1=>
 rv Tryz.prog (Op.unary .not v0) w1 λv2 w3=>
 ifB v2
 (K (.pointer none) w3)
 (JoinW (S:=Value×Unit) (λJ6=>
 nilK a0 λv7=>rdP Tryz.prog (Instr.fieldAt 66 v7 0) λv8=>
 rdW Tryz.prog (Instr.loadAt 61 v8) w3.drew λv9=>
 nilK a0 λv10=>rdP Tryz.prog (Instr.fieldAt 66 v10 1) λv11=>
 rdW Tryz.prog (Instr.loadAt 62 v11) w3.drew λv12=>
 nilK a0 λv13=>rdP Tryz.prog (Instr.fieldAt 66 v13 4) λv14=>
 rdW Tryz.prog (Instr.loadAt 27 v14) w3.drew λv15=>
 (Ca Tryz.prog 108 #[v9] w3.drew λv16 w17=>
 Sem.run Tryz.prog (Instr.loadAt 27 v14) w17=.ok v15 w17∧Sem.run Tryz.prog (Instr.loadAt 62 v11) w17=.ok v12 w17∧
 ((Ca Tryz.prog 109 #[v12] w17 λv18 w19=>
 Sem.run Tryz.prog (Instr.loadAt 27 v14) w19=.ok v15 w19∧
 ((rv Tryz.prog (Instr.makeMap 63 none) w19 λv20 w21=>
 Sem.run Tryz.prog (Instr.loadAt 27 v14) w21=.ok v15 w21∧
 (rv Tryz.prog (Instr.makeMap 64 none) w21 λv22 w23=>
 Sem.run Tryz.prog (Instr.loadAt 27 v14) w23=.ok v15 w23∧
 (rdP Tryz.prog (Instr.build 66 #[(0,v16),(1,v18),(2,v20),(3,v22),(4,v15)]) λv24=>
 rv Tryz.prog (Instr.box 66 v24) w23 λv25 w26=>
 J6 (v25,()) w26)))
 ∧(rv Tryz.prog (Instr.makeMap 64 none) w19 λv27 w28=>
 Sem.run Tryz.prog (Instr.loadAt 27 v14) w28=.ok v15 w28∧
 (rv Tryz.prog (Instr.makeMap 63 none) w28 λv29 w30=>
 Sem.run Tryz.prog (Instr.loadAt 27 v14) w30=.ok v15 w30∧
 (rdP Tryz.prog (Instr.build 66 #[(0,v16),(1,v18),(2,v29),(3,v27),(4,v15)]) λv31=>
 rv Tryz.prog (Instr.box 66 v31) w30 λv32 w33=>
 J6 (v32,()) w33)))))
 ∧(rv Tryz.prog (Instr.makeMap 63 none) w17 λv34 w35=>
 Sem.run Tryz.prog (Instr.loadAt 27 v14) w35=.ok v15 w35∧Sem.run Tryz.prog (Instr.loadAt 62 v11) w35=.ok v12 w35∧
 ((Ca Tryz.prog 109 #[v12] w35 λv36 w37=>
 Sem.run Tryz.prog (Instr.loadAt 27 v14) w37=.ok v15 w37∧
 (rv Tryz.prog (Instr.makeMap 64 none) w37 λv38 w39=>
 Sem.run Tryz.prog (Instr.loadAt 27 v14) w39=.ok v15 w39∧
 (rdP Tryz.prog (Instr.build 66 #[(0,v16),(1,v36),(2,v34),(3,v38),(4,v15)]) λv40=>
 rv Tryz.prog (Instr.box 66 v40) w39 λv41 w42=>
 J6 (v41,()) w42)))
 ∧(rv Tryz.prog (Instr.makeMap 64 none) w35 λv43 w44=>
 Sem.run Tryz.prog (Instr.loadAt 27 v14) w44=.ok v15 w44∧Sem.run Tryz.prog (Instr.loadAt 62 v11) w44=.ok v12 w44∧
 (Ca Tryz.prog 109 #[v12] w44 λv45 w46=>
 Sem.run Tryz.prog (Instr.loadAt 27 v14) w46=.ok v15 w46∧
 (rdP Tryz.prog (Instr.build 66 #[(0,v16),(1,v45),(2,v34),(3,v43),(4,v15)]) λv47=>
 rv Tryz.prog (Instr.box 66 v47) w46 λv48 w49=>
 J6 (v48,()) w49)))))
 ∧(rv Tryz.prog (Instr.makeMap 64 none) w17 λv50 w51=>
 Sem.run Tryz.prog (Instr.loadAt 27 v14) w51=.ok v15 w51∧Sem.run Tryz.prog (Instr.loadAt 62 v11) w51=.ok v12 w51∧
 ((Ca Tryz.prog 109 #[v12] w51 λv52 w53=>
 Sem.run Tryz.prog (Instr.loadAt 27 v14) w53=.ok v15 w53∧
 (rv Tryz.prog (Instr.makeMap 63 none) w53 λv54 w55=>
 Sem.run Tryz.prog (Instr.loadAt 27 v14) w55=.ok v15 w55∧
 (rdP Tryz.prog (Instr.build 66 #[(0,v16),(1,v52),(2,v54),(3,v50),(4,v15)]) λv56=>
 rv Tryz.prog (Instr.box 66 v56) w55 λv57 w58=>
 J6 (v57,()) w58)))
 ∧(rv Tryz.prog (Instr.makeMap 63 none) w51 λv59 w60=>
 Sem.run Tryz.prog (Instr.loadAt 27 v14) w60=.ok v15 w60∧Sem.run Tryz.prog (Instr.loadAt 62 v11) w60=.ok v12 w60∧
 (Ca Tryz.prog 109 #[v12] w60 λv61 w62=>
 Sem.run Tryz.prog (Instr.loadAt 27 v14) w62=.ok v15 w62∧
 (rdP Tryz.prog (Instr.build 66 #[(0,v16),(1,v61),(2,v59),(3,v50),(4,v15)]) λv63=>
 rv Tryz.prog (Instr.box 66 v63) w62 λv64 w65=>
 J6 (v64,()) w65)))))))
 ∧(rv Tryz.prog (Instr.makeMap 63 none) w3.drew λv66 w67=>
 Sem.run Tryz.prog (Instr.loadAt 27 v14) w67=.ok v15 w67∧Sem.run Tryz.prog (Instr.loadAt 62 v11) w67=.ok v12 w67∧Sem.run Tryz.prog (Instr.loadAt 61 v8) w67=.ok v9 w67∧
 ((Ca Tryz.prog 108 #[v9] w67 λv68 w69=>
 Sem.run Tryz.prog (Instr.loadAt 27 v14) w69=.ok v15 w69∧Sem.run Tryz.prog (Instr.loadAt 62 v11) w69=.ok v12 w69∧
 ((Ca Tryz.prog 109 #[v12] w69 λv70 w71=>
 Sem.run Tryz.prog (Instr.loadAt 27 v14) w71=.ok v15 w71∧
 (rv Tryz.prog (Instr.makeMap 64 none) w71 λv72 w73=>
 Sem.run Tryz.prog (Instr.loadAt 27 v14) w73=.ok v15 w73∧
 (rdP Tryz.prog (Instr.build 66 #[(0,v68),(1,v70),(2,v66),(3,v72),(4,v15)]) λv74=>
 rv Tryz.prog (Instr.box 66 v74) w73 λv75 w76=>
 J6 (v75,()) w76)))
 ∧(rv Tryz.prog (Instr.makeMap 64 none) w69 λv77 w78=>
 Sem.run Tryz.prog (Instr.loadAt 27 v14) w78=.ok v15 w78∧Sem.run Tryz.prog (Instr.loadAt 62 v11) w78=.ok v12 w78∧
 (Ca Tryz.prog 109 #[v12] w78 λv79 w80=>
 Sem.run Tryz.prog (Instr.loadAt 27 v14) w80=.ok v15 w80∧
 (rdP Tryz.prog (Instr.build 66 #[(0,v68),(1,v79),(2,v66),(3,v77),(4,v15)]) λv81=>
 rv Tryz.prog (Instr.box 66 v81) w80 λv82 w83=>
 J6 (v82,()) w83)))))
 ∧(rv Tryz.prog (Instr.makeMap 64 none) w67 λv84 w85=>
 Sem.run Tryz.prog (Instr.loadAt 27 v14) w85=.ok v15 w85∧Sem.run Tryz.prog (Instr.loadAt 62 v11) w85=.ok v12 w85∧Sem.run Tryz.prog (Instr.loadAt 61 v8) w85=.ok v9 w85∧
 (Ca Tryz.prog 108 #[v9] w85 λv86 w87=>
 Sem.run Tryz.prog (Instr.loadAt 27 v14) w87=.ok v15 w87∧Sem.run Tryz.prog (Instr.loadAt 62 v11) w87=.ok v12 w87∧
 (Ca Tryz.prog 109 #[v12] w87 λv88 w89=>
 Sem.run Tryz.prog (Instr.loadAt 27 v14) w89=.ok v15 w89∧
 (rdP Tryz.prog (Instr.build 66 #[(0,v86),(1,v88),(2,v66),(3,v84),(4,v15)]) λv90=>
 rv Tryz.prog (Instr.box 66 v90) w89 λv91 w92=>
 J6 (v91,()) w92))))))
 ∧(rv Tryz.prog (Instr.makeMap 64 none) w3.drew λv93 w94=>
 Sem.run Tryz.prog (Instr.loadAt 27 v14) w94=.ok v15 w94∧Sem.run Tryz.prog (Instr.loadAt 62 v11) w94=.ok v12 w94∧Sem.run Tryz.prog (Instr.loadAt 61 v8) w94=.ok v9 w94∧
 ((Ca Tryz.prog 108 #[v9] w94 λv95 w96=>
 Sem.run Tryz.prog (Instr.loadAt 27 v14) w96=.ok v15 w96∧Sem.run Tryz.prog (Instr.loadAt 62 v11) w96=.ok v12 w96∧
 ((Ca Tryz.prog 109 #[v12] w96 λv97 w98=>
 Sem.run Tryz.prog (Instr.loadAt 27 v14) w98=.ok v15 w98∧
 (rv Tryz.prog (Instr.makeMap 63 none) w98 λv99 w100=>
 Sem.run Tryz.prog (Instr.loadAt 27 v14) w100=.ok v15 w100∧
 (rdP Tryz.prog (Instr.build 66 #[(0,v95),(1,v97),(2,v99),(3,v93),(4,v15)]) λv101=>
 rv Tryz.prog (Instr.box 66 v101) w100 λv102 w103=>
 J6 (v102,()) w103)))
 ∧(rv Tryz.prog (Instr.makeMap 63 none) w96 λv104 w105=>
 Sem.run Tryz.prog (Instr.loadAt 27 v14) w105=.ok v15 w105∧Sem.run Tryz.prog (Instr.loadAt 62 v11) w105=.ok v12 w105∧
 (Ca Tryz.prog 109 #[v12] w105 λv106 w107=>
 Sem.run Tryz.prog (Instr.loadAt 27 v14) w107=.ok v15 w107∧
 (rdP Tryz.prog (Instr.build 66 #[(0,v95),(1,v106),(2,v104),(3,v93),(4,v15)]) λv108=>
 rv Tryz.prog (Instr.box 66 v108) w107 λv109 w110=>
 J6 (v109,()) w110)))))
 ∧(rv Tryz.prog (Instr.makeMap 63 none) w94 λv111 w112=>
 Sem.run Tryz.prog (Instr.loadAt 27 v14) w112=.ok v15 w112∧Sem.run Tryz.prog (Instr.loadAt 62 v11) w112=.ok v12 w112∧Sem.run Tryz.prog (Instr.loadAt 61 v8) w112=.ok v9 w112∧
 (Ca Tryz.prog 108 #[v9] w112 λv113 w114=>
 Sem.run Tryz.prog (Instr.loadAt 27 v14) w114=.ok v15 w114∧Sem.run Tryz.prog (Instr.loadAt 62 v11) w114=.ok v12 w114∧
 (Ca Tryz.prog 109 #[v12] w114 λv115 w116=>
 Sem.run Tryz.prog (Instr.loadAt 27 v14) w116=.ok v15 w116∧
 (rdP Tryz.prog (Instr.build 66 #[(0,v113),(1,v115),(2,v111),(3,v93),(4,v15)]) λv117=>
 rv Tryz.prog (Instr.box 66 v117) w116 λv118 w119=>
 J6 (v118,()) w119)))))))
 (J43_2 a0 K))
theorem F43_eq(a0:Value)(w:World)(K:Kont):vcFnJ Tryz.prog Tryz.f43 [a0] w K=F43 a0 w K:=by kernel_rfl
theorem F43_ok:okF Tryz.prog Tryz.f43 1=true:=by kernel_rfl
theorem ca43{a0:Value}{w:World}{K:Kont}(h:F43 a0 w K):Ca Tryz.prog 43 #[a0] w K:=
 ca_of_vcJ Tryz.noNum Tryz.func43 F43_ok (by rw[F43_eq];exact h)
def F41(a0:Value)(w:World)(K:Kont):Prop:=
 rv Tryz.prog (Instr.alloc 32 true (.tuple #[])) w λv0 w1=>
 rv Tryz.prog (Instr.build 32 #[(0,a0)]) w1 λv2 w3=>
 ru Tryz.prog (Instr.storeAt 32 v0 v2) w3 λw4=>
 rdW Tryz.prog (Instr.loadAt 32 v0) w4 λv5=>
 K v5 w4
theorem F41_eq(a0:Value)(w:World)(K:Kont):vcFnJ Tryz.prog Tryz.f41 [a0] w K=F41 a0 w K:=by kernel_rfl
theorem F41_ok:okF Tryz.prog Tryz.f41 1=true:=by kernel_rfl
theorem ca41{a0:Value}{w:World}{K:Kont}(h:F41 a0 w K):Ca Tryz.prog 41 #[a0] w K:=
 ca_of_vcJ Tryz.noNum Tryz.func41 F41_ok (by rw[F41_eq];exact h)
def F12(a0 a1:Value)(w:World)(K:Kont):Prop:=
 rv Tryz.prog (Instr.box 41 a1) w λv0 w1=>
 rv Tryz.prog (Instr.alloc 32 true (.tuple #[])) w1 λv2 w3=>
 Ca Tryz.prog 40 #[a0] w3 λv4 w5=>
 rv Tryz.prog (Op.unary .not v4) w5 λv6 w7=>
 ifB v6
 (Ca Tryz.prog 41 #[(.int .i64 1)] w7 λv8 w9=>
 ru Tryz.prog (Instr.storeAt 32 v2 v8) w9 λw10=>
 rdW Tryz.prog (Instr.loadAt 32 v2) w10 λv11=>
 K v11 w10)
 (rx Tryz.prog (bigS 41 v0) w7 λv12 w13=>
 Ca Tryz.prog 42 #[v12] w13 λv14 w15=>
 rv Tryz.prog (Op.unary .not v14) w15 λv16 w17=>
 ifB v16
 (Ca Tryz.prog 41 #[(.int .i64 160)] w17 λv18 w19=>
 ru Tryz.prog (Instr.storeAt 32 v2 v18) w19 λw20=>
 rdW Tryz.prog (Instr.loadAt 32 v2) w20 λv21=>
 K v21 w20)
 (Ca Tryz.prog 43 #[a0] w17 λv22 w23=>
 rx Tryz.prog (bigS 41 v0) w23 λv24 w25=>
 Ca Tryz.prog 44 #[v22,v24] w25 λv26 w27=>
 rv Tryz.prog (Instr.extract v26 0) w27 λv28 w29=>
 rv Tryz.prog (Instr.extract v26 1) w29 λv30 w31=>
 rv Tryz.prog (Instr.alloc 32 true (.tuple #[])) w31 λv32 w33=>
 ru Tryz.prog (Instr.storeAt 32 v32 v28) w33 λw34=>
 rv Tryz.prog (bin .neq 26 true v30 (.int .i64 0)) w34 λv35 w36=>
 ifB v35
 (Ca Tryz.prog 41 #[v30] w36 λv37 w38=>
 ru Tryz.prog (Instr.storeAt 32 v2 v37) w38 λw39=>
 rdW Tryz.prog (Instr.loadAt 32 v2) w39 λv40=>
 K v40 w39)
 (nilK v22 λv41=>rv Tryz.prog (Instr.loadAt 66 v41) w36 λv42 w43=>
 nilK a0 λv44=>ru Tryz.prog (Instr.storeAt 66 v44 v42) w43 λw45=>
 rv Tryz.prog (Instr.loadAt 32 v32) w45 λv46 w47=>
 ru Tryz.prog (Instr.storeAt 32 v2 v46) w47 λw48=>
 rdW Tryz.prog (Instr.loadAt 32 v2) w48 λv49=>
 K v49 w48)))
theorem F12_eq(a0 a1:Value)(w:World)(K:Kont):vcFnJ Tryz.prog Tryz.f12 [a0,a1] w K=F12 a0 a1 w K:=by kernel_rfl
theorem F12_ok:okF Tryz.prog Tryz.f12 2=true:=by kernel_rfl
theorem ca12{a0 a1:Value}{w:World}{K:Kont}(h:F12 a0 a1 w K):Ca Tryz.prog 12 #[a0,a1] w K:=
 ca_of_vcJ Tryz.noNum Tryz.func12 F12_ok (by rw[F12_eq];exact h)
def J44_0(v2:Value)(K:Kont)(s32:Value×Unit)(w33:World):Prop:=
 ∀_:Nat→Value,
 rv Tryz.prog (Instr.loadAt 32 v2) w33 λv53 w54=>
 ru Tryz.prog (Instr.storeAt 32 v2 v53) w54 λw55=>
 rdW Tryz.prog (Instr.loadAt 32 v2) w55 λv56=>
 K (.tuple #[v56,s32.1]) w55
def J44_1(v2:Value)(K:Kont)(J210:Value×Unit→World→Prop)(s147:Value×Value×Unit)(s217:Value×Unit)(w218:World):Prop:=
 ∀_:Nat→Value,
 rv Tryz.prog (bin .neq 26 true s217.1 (.int .i64 0)) w218 λv239 w240=>
 ifB v239
 (rv Tryz.prog (Instr.loadAt 32 v2) w240 λv241 w242=>
 ru Tryz.prog (Instr.storeAt 32 v2 v241) w242 λw243=>
 rdW Tryz.prog (Instr.loadAt 32 v2) w243 λv244=>
 K (.tuple #[v244,s217.1]) w243)
 (J210 (s147.2.1,()) w240)
def J44_2(v0:Value)(a0:Value)(v2:Value)(J177:Value×Unit→World→Prop)(s208:Value×Unit)(w209:World):Prop:=
 ∀_:Nat→Value,
 rv Tryz.prog (Instr.fieldAt 41 v0 1) w209 λv245 w246=>
 rv Tryz.prog (Instr.loadAt 35 v245) w246 λv247 w248=>
 rv Tryz.prog (Instr.fieldAt 41 v0 2) w248 λv249 w250=>
 rv Tryz.prog (Instr.loadAt 35 v249) w250 λv251 w252=>
 Ca Tryz.prog 124 #[a0,v247,v251] w252 λv253 w254=>
 rv Tryz.prog (Instr.fieldAt 32 v2 5) w254 λv255 w256=>
 ru Tryz.prog (Instr.storeAt 29 v255 v253) w256 λw257=>
 J177 (s208.1,()) w257
def J44_3(v2:Value)(a0:Value)(s147:Value×Value×Unit)(K:Kont)(s267:Unit)(w268:World):Prop:=
 ∀_:Nat→Value,
 rdW Tryz.prog (Instr.loadAt 32 v2) w268.drew λv283=>
 nilK a0 λv284=>rdP Tryz.prog (Instr.fieldAt 66 v284 1) λv285=>
 rdW Tryz.prog (Instr.loadAt 62 v285) w268.drew λv286=>
 rdW Tryz.prog (Instr.loadAt 92 s147.1) w268.drew λv287=>
 Ca Tryz.prog 125 #[v286,v287] w268.drew λv288 w289=>
 Sem.run Tryz.prog (Instr.loadAt 32 v2) w289=.ok v283 w289∧
 (ru Tryz.prog (Instr.storeAt 32 v2 v283) w289 λw290=>
 rdW Tryz.prog (Instr.loadAt 32 v2) w290 λv291=>
 K (.tuple #[v291,v288]) w290)
def J44_4(v2:Value)(K:Kont)(s175:Value×Unit)(w176:World):Prop:=
 ∀_:Nat→Value,
 rv Tryz.prog (Instr.loadAt 32 v2) w176 λv304 w305=>
 ru Tryz.prog (Instr.storeAt 32 v2 v304) w305 λw306=>
 rdW Tryz.prog (Instr.loadAt 32 v2) w306 λv307=>
 K (.tuple #[v307,(.int .i64 0)]) w306
def J44_5(v2:Value)(K:Kont)(v0:Value)(a0:Value)(s147:Value×Value×Unit)(w148:World):Prop:=
 ∀_:Nat→Value,
 rv Tryz.prog (bin .neq 26 true s147.2.1 (.int .i64 0)) w148 λv169 w170=>
 ifB v169
 (rv Tryz.prog (Instr.loadAt 32 v2) w170 λv171 w172=>
 ru Tryz.prog (Instr.storeAt 32 v2 v171) w172 λw173=>
 rdW Tryz.prog (Instr.loadAt 32 v2) w173 λv174=>
 K (.tuple #[v174,s147.2.1]) w173)
 (JoinW (S:=Value×Unit) (λJ177=>
 rv Tryz.prog (Instr.fieldAt 41 v0 0) w170 λv178 w179=>
 rv Tryz.prog (Instr.loadAt 34 v178) w179 λv180 w181=>
 rv Tryz.prog (bin .eql 34 true v180 (.int .u8 5)) w181 λv182 w183=>
 ifB v182
 (rx Tryz.prog (bigS 41 v0) w183 λv184 w185=>
 Ca Tryz.prog 121 #[a0,v184] w185 λv186 w187=>
 rv Tryz.prog (Instr.extract v186 0) w187 λv188 w189=>
 rv Tryz.prog (Instr.extract v186 1) w189 λv190 w191=>
 ru Tryz.prog (Instr.storeAt 32 v2 v188) w191 λw192=>
 rdW Tryz.prog (Instr.loadAt 32 v2) w192 λv193=>
 K (.tuple #[v193,v190]) w192)
 (rv Tryz.prog (bin .eql 34 true v180 (.int .u8 9)) w183 λv194 w195=>
 ifB v194
 (rx Tryz.prog (bigS 41 v0) w195 λv196 w197=>
 Ca Tryz.prog 122 #[a0,v196] w197 λv198 w199=>
 rv Tryz.prog (Instr.extract v198 0) w199 λv200 w201=>
 rv Tryz.prog (Instr.extract v198 1) w201 λv202 w203=>
 ru Tryz.prog (Instr.storeAt 32 v2 v200) w203 λw204=>
 rdW Tryz.prog (Instr.loadAt 32 v2) w204 λv205=>
 K (.tuple #[v205,v202]) w204)
 (rv Tryz.prog (bin .eql 34 true v180 (.int .u8 8)) w195 λv206 w207=>
 ifB v206
 (JoinW (S:=Value×Unit) (λJ210=>
 rv Tryz.prog (Instr.fieldAt 41 v0 2) w207 λv211 w212=>
 rv Tryz.prog (Instr.loadAt 35 v211) w212 λv213 w214=>
 rv Tryz.prog (bin .neq 35 true v213 (.int .u32 0)) w214 λv215 w216=>
 ifB v215
 (JoinW (S:=Value×Unit) (λJ219=>
 nilK a0 λv220=>rdP Tryz.prog (Instr.fieldAt 66 v220 0) λv221=>
 rdW Tryz.prog (Instr.loadAt 61 v221) w216.drew λv222=>
 rdP Tryz.prog (Instr.fieldAt 41 v0 2) λv223=>
 rdW Tryz.prog (Instr.loadAt 35 v223) w216.drew λv224=>
 (Ca Tryz.prog 123 #[v222,v224] w216.drew λv225 w226=>
 rdP Tryz.prog (Instr.extract v225 0) λv227=>
 rdP Tryz.prog (Instr.extract v225 1) λv228=>
 rx Tryz.prog (bigA 108) w226 λv229 w230=>
 rux Tryz.prog (bigU 108 v229 v227) w230 λw231=>
 J219 (v228,()) w231)
 ∧(rx Tryz.prog (bigA 108) w216.drew λv232 w233=>
 Sem.run Tryz.prog (Instr.loadAt 35 v223) w233=.ok v224 w233∧Sem.run Tryz.prog (Instr.loadAt 61 v221) w233=.ok v222 w233∧
 (Ca Tryz.prog 123 #[v222,v224] w233 λv234 w235=>
 rdP Tryz.prog (Instr.extract v234 0) λv236=>
 rdP Tryz.prog (Instr.extract v234 1) λv237=>
 rux Tryz.prog (bigU 108 v232 v236) w235 λw238=>
 J219 (v237,()) w238)))
 (J44_1 v2 K J210 s147))
 (J210 (s147.2.1,()) w216))
 (J44_2 v0 a0 v2 J177))
 (rv Tryz.prog (bin .eql 34 true v180 (.int .u8 10)) w207 λv258 w259=>
 ifB v258
 (rv Tryz.prog (Instr.fieldAt 41 v0 6) w259 λv260 w261=>
 rv Tryz.prog (Instr.loadAt 4 v260) w261 λv262 w263=>
 rv Tryz.prog (Instr.fieldAt 92 s147.1 2) w263 λv264 w265=>
 ru Tryz.prog (Instr.storeAt 4 v264 v262) w265 λw266=>
 JoinW (S:=Unit) (λJ269=>
 rv Tryz.prog (Instr.fieldAt 41 v0 6) w266 λv270 w271=>
 rv Tryz.prog (Instr.loadAt 4 v270) w271 λv272 w273=>
 ifB v272
 (rv Tryz.prog (Instr.fieldAt 41 v0 1) w273 λv274 w275=>
 rv Tryz.prog (Instr.loadAt 35 v274) w275 λv276 w277=>
 Ca Tryz.prog 124 #[a0,v276,(.int .u32 0)] w277 λv278 w279=>
 rv Tryz.prog (Instr.fieldAt 32 v2 5) w279 λv280 w281=>
 ru Tryz.prog (Instr.storeAt 29 v280 v278) w281 λw282=>
 J269 (()) w282)
 (J269 (()) w273))
 (J44_3 v2 a0 s147 K))
 (rv Tryz.prog (bin .eql 34 true v180 (.int .u8 13)) w259 λv292 w293=>
 ifB v292
 (rv Tryz.prog (Instr.loadAt 92 s147.1) w293 λv294 w295=>
 Ca Tryz.prog 126 #[a0,v294] w295 λv296 w297=>
 rv Tryz.prog (Instr.extract v296 0) w297 λv298 w299=>
 rv Tryz.prog (Instr.extract v296 1) w299 λv300 w301=>
 ru Tryz.prog (Instr.storeAt 32 v2 v298) w301 λw302=>
 rdW Tryz.prog (Instr.loadAt 32 v2) w302 λv303=>
 K (.tuple #[v303,v300]) w302)
 (J177 (s147.2.1,()) w293))))))
 (J44_4 v2 K))
def F44(a0 a1:Value)(w:World)(K:Kont):Prop:=
 rv Tryz.prog (Instr.box 41 a1) w λv0 w1=>
 rv Tryz.prog (Instr.alloc 32 true (.tuple #[])) w1 λv2 w3=>
 rv Tryz.prog (Instr.fieldAt 41 v0 0) w3 λv4 w5=>
 rv Tryz.prog (Instr.loadAt 34 v4) w5 λv6 w7=>
 rv Tryz.prog (bin .eql 34 true v6 (.int .u8 1)) w7 λv8 w9=>
 ifB v8
 (rdW Tryz.prog (Instr.loadAt 32 v2) w9.drew λv10=>
 nilK a0 λv11=>rdP Tryz.prog (Instr.fieldAt 66 v11 1) λv12=>
 rdW Tryz.prog (Instr.loadAt 62 v12) w9.drew λv13=>
 rdP Tryz.prog (Instr.fieldAt 41 v0 1) λv14=>
 rdW Tryz.prog (Instr.loadAt 35 v14) w9.drew λv15=>
 rdP Tryz.prog (Instr.fieldAt 41 v0 4) λv16=>
 rdW Tryz.prog (Instr.loadAt 2 v16) w9.drew λv17=>
 Ca Tryz.prog 112 #[v13,v15,v17] w9.drew λv18 w19=>
 Sem.run Tryz.prog (Instr.loadAt 32 v2) w19=.ok v10 w19∧
 (ru Tryz.prog (Instr.storeAt 32 v2 v10) w19 λw20=>
 rdW Tryz.prog (Instr.loadAt 32 v2) w20 λv21=>
 K (.tuple #[v21,v18]) w20))
 (rv Tryz.prog (bin .eql 34 true v6 (.int .u8 2)) w9 λv22 w23=>
 ifB v22
 (rdW Tryz.prog (Instr.loadAt 32 v2) w23.drew λv24=>
 rdX Tryz.prog (bigS 41 v0) w23.drew λv25=>
 Ca Tryz.prog 113 #[a0,v25] w23.drew λv26 w27=>
 Sem.run Tryz.prog (Instr.loadAt 32 v2) w27=.ok v24 w27∧
 (ru Tryz.prog (Instr.storeAt 32 v2 v24) w27 λw28=>
 rdW Tryz.prog (Instr.loadAt 32 v2) w28 λv29=>
 K (.tuple #[v29,v26]) w28))
 (rv Tryz.prog (bin .eql 34 true v6 (.int .u8 3)) w23 λv30 w31=>
 ifB v30
 (JoinW (S:=Value×Unit) (λJ34=>
 nilK a0 λv35=>rdP Tryz.prog (Instr.fieldAt 66 v35 0) λv36=>
 rdW Tryz.prog (Instr.loadAt 61 v36) w31.drew λv37=>
 rdP Tryz.prog (Instr.fieldAt 41 v0 5) λv38=>
 rdX Tryz.prog (bigS 38 v38) w31.drew λv39=>
 Ca Tryz.prog 114 #[v37,v39] w31.drew λv40 w41=>
 rv Tryz.prog (bin .eql 26 true v40 (.int .i64 0)) w41 λv42 w43=>
 ifB v42
 (nilK a0 λv44=>rdP Tryz.prog (Instr.fieldAt 66 v44 2) λv45=>
 rdW Tryz.prog (Instr.loadAt 63 v45) w43.drew λv46=>
 rdP Tryz.prog (Instr.fieldAt 41 v0 5) λv47=>
 rdP Tryz.prog (Instr.fieldAt 38 v47 0) λv48=>
 rdW Tryz.prog (Instr.loadAt 35 v48) w43.drew λv49=>
 Ca Tryz.prog 48 #[] w43.drew λv50 w51=>
 Sem.run Tryz.prog (Instr.loadAt 35 v48) w51=.ok v49 w51∧Sem.run Tryz.prog (Instr.loadAt 63 v45) w51=.ok v46 w51∧
 (rux Tryz.prog (xMapUp 63 v46 v49 v50) w51 λw52=>
 J34 (v40,()) w52))
 (J34 (v40,()) w43))
 (J44_0 v2 K))
 (rv Tryz.prog (bin .eql 34 true v6 (.int .u8 4)) w31 λv57 w58=>
 ifB v57
 (rdW Tryz.prog (Instr.loadAt 32 v2) w58.drew λv59=>
 nilK a0 λv60=>rdP Tryz.prog (Instr.fieldAt 66 v60 0) λv61=>
 rdW Tryz.prog (Instr.loadAt 61 v61) w58.drew λv62=>
 rdP Tryz.prog (Instr.fieldAt 41 v0 2) λv63=>
 rdW Tryz.prog (Instr.loadAt 35 v63) w58.drew λv64=>
 rdP Tryz.prog (Instr.fieldAt 41 v0 6) λv65=>
 rdW Tryz.prog (Instr.loadAt 4 v65) w58.drew λv66=>
 Ca Tryz.prog 115 #[v62,v64,v66] w58.drew λv67 w68=>
 Sem.run Tryz.prog (Instr.loadAt 32 v2) w68=.ok v59 w68∧
 (ru Tryz.prog (Instr.storeAt 32 v2 v59) w68 λw69=>
 rdW Tryz.prog (Instr.loadAt 32 v2) w69 λv70=>
 K (.tuple #[v70,v67]) w69))
 (rv Tryz.prog (bin .eql 34 true v6 (.int .u8 11)) w58 λv71 w72=>
 ifB v71
 (rdW Tryz.prog (Instr.loadAt 32 v2) w72.drew λv73=>
 nilK a0 λv74=>rdP Tryz.prog (Instr.fieldAt 66 v74 0) λv75=>
 rdW Tryz.prog (Instr.loadAt 61 v75) w72.drew λv76=>
 rdP Tryz.prog (Instr.fieldAt 41 v0 2) λv77=>
 rdW Tryz.prog (Instr.loadAt 35 v77) w72.drew λv78=>
 rdP Tryz.prog (Instr.fieldAt 41 v0 9) λv79=>
 rdW Tryz.prog (Instr.loadAt 2 v79) w72.drew λv80=>
 Ca Tryz.prog 116 #[v76,v78,v80] w72.drew λv81 w82=>
 Sem.run Tryz.prog (Instr.loadAt 32 v2) w82=.ok v73 w82∧
 (ru Tryz.prog (Instr.storeAt 32 v2 v73) w82 λw83=>
 rdW Tryz.prog (Instr.loadAt 32 v2) w83 λv84=>
 K (.tuple #[v84,v81]) w83))
 (rv Tryz.prog (bin .eql 34 true v6 (.int .u8 12)) w72 λv85 w86=>
 ifB v85
 (Ca Tryz.prog 117 #[a0] w86 λv87 w88=>
 rv Tryz.prog (Instr.extract v87 0) w88 λv89 w90=>
 rv Tryz.prog (Instr.extract v87 1) w90 λv91 w92=>
 ru Tryz.prog (Instr.storeAt 32 v2 v89) w92 λw93=>
 rdW Tryz.prog (Instr.loadAt 32 v2) w93 λv94=>
 K (.tuple #[v94,v91]) w93)
 (rv Tryz.prog (bin .eql 34 true v6 (.int .u8 14)) w86 λv95 w96=>
 ifB v95
 (rv Tryz.prog (Instr.fieldAt 41 v0 2) w96 λv97 w98=>
 rv Tryz.prog (Instr.loadAt 35 v97) w98 λv99 w100=>
 Ca Tryz.prog 118 #[a0,v99] w100 λv101 w102=>
 rv Tryz.prog (Instr.extract v101 0) w102 λv103 w104=>
 rv Tryz.prog (Instr.extract v101 1) w104 λv105 w106=>
 ru Tryz.prog (Instr.storeAt 32 v2 v103) w106 λw107=>
 rdW Tryz.prog (Instr.loadAt 32 v2) w107 λv108=>
 K (.tuple #[v108,v105]) w107)
 (rv Tryz.prog (Instr.fieldAt 41 v0 1) w96 λv109 w110=>
 rv Tryz.prog (Instr.loadAt 35 v109) w110 λv111 w112=>
 rv Tryz.prog (bin .eql 35 true v111 (.int .u32 0)) w112 λv113 w114=>
 ifB v113
 (rv Tryz.prog (Instr.loadAt 32 v2) w114 λv115 w116=>
 ru Tryz.prog (Instr.storeAt 32 v2 v115) w116 λw117=>
 rdW Tryz.prog (Instr.loadAt 32 v2) w117 λv118=>
 K (.tuple #[v118,(.int .i64 2)]) w117)
 (rv Tryz.prog (Instr.fieldAt 41 v0 0) w114 λv119 w120=>
 rv Tryz.prog (Instr.loadAt 34 v119) w120 λv121 w122=>
 rv Tryz.prog (bin .eql 34 true v121 (.int .u8 6)) w122 λv123 w124=>
 ifB v123
 (rx Tryz.prog (bigS 41 v0) w124 λv125 w126=>
 Ca Tryz.prog 119 #[a0,v125] w126 λv127 w128=>
 rv Tryz.prog (Instr.extract v127 0) w128 λv129 w130=>
 rv Tryz.prog (Instr.extract v127 1) w130 λv131 w132=>
 ru Tryz.prog (Instr.storeAt 32 v2 v129) w132 λw133=>
 rdW Tryz.prog (Instr.loadAt 32 v2) w133 λv134=>
 K (.tuple #[v134,v131]) w133)
 (rv Tryz.prog (bin .eql 34 true v121 (.int .u8 7)) w124 λv135 w136=>
 ifB v135
 (rx Tryz.prog (bigS 41 v0) w136 λv137 w138=>
 Ca Tryz.prog 120 #[a0,v137] w138 λv139 w140=>
 rv Tryz.prog (Instr.extract v139 0) w140 λv141 w142=>
 rv Tryz.prog (Instr.extract v139 1) w142 λv143 w144=>
 ru Tryz.prog (Instr.storeAt 32 v2 v141) w144 λw145=>
 rdW Tryz.prog (Instr.loadAt 32 v2) w145 λv146=>
 K (.tuple #[v146,v143]) w145)
 (JoinW (S:=Value×Value×Unit) (λJ149=>
 nilK a0 λv150=>rdP Tryz.prog (Instr.fieldAt 66 v150 1) λv151=>
 rdW Tryz.prog (Instr.loadAt 62 v151) w136.drew λv152=>
 rdP Tryz.prog (Instr.fieldAt 41 v0 1) λv153=>
 rdW Tryz.prog (Instr.loadAt 35 v153) w136.drew λv154=>
 (Ca Tryz.prog 52 #[v152,v154] w136.drew λv155 w156=>
 rdP Tryz.prog (Instr.extract v155 0) λv157=>
 rdP Tryz.prog (Instr.extract v155 1) λv158=>
 rv Tryz.prog (Instr.alloc 92 true (.tuple #[])) w156 λv159 w160=>
 ru Tryz.prog (Instr.storeAt 92 v159 v157) w160 λw161=>
 J149 (v159,v158,()) w161)
 ∧(rv Tryz.prog (Instr.alloc 92 true (.tuple #[])) w136.drew λv162 w163=>
 Sem.run Tryz.prog (Instr.loadAt 35 v153) w163=.ok v154 w163∧Sem.run Tryz.prog (Instr.loadAt 62 v151) w163=.ok v152 w163∧
 (Ca Tryz.prog 52 #[v152,v154] w163 λv164 w165=>
 rdP Tryz.prog (Instr.extract v164 0) λv166=>
 rdP Tryz.prog (Instr.extract v164 1) λv167=>
 ru Tryz.prog (Instr.storeAt 92 v162 v166) w165 λw168=>
 J149 (v162,v167,()) w168)))
 (J44_5 v2 K v0 a0)))))))))))
theorem F44_eq(a0 a1:Value)(w:World)(K:Kont):vcFnJ Tryz.prog Tryz.f44 [a0,a1] w K=F44 a0 a1 w K:=by kernel_rfl
theorem F44_ok:okF Tryz.prog Tryz.f44 2=true:=by kernel_rfl
theorem ca44{a0 a1:Value}{w:World}{K:Kont}(h:F44 a0 a1 w K):Ca Tryz.prog 44 #[a0,a1] w K:=
 ca_of_vcJ Tryz.noNum Tryz.func44 F44_ok (by rw[F44_eq];exact h)
def J113_0(K:Kont)(v0:Value)(a0:Value)(s13:Value×Unit)(w14:World):Prop:=
 ∀_:Nat→Value,
 rv Tryz.prog (Instr.fieldAt 92 s13.1 3) w14 λv35 w36=>
 rv Tryz.prog (Instr.loadAt 4 v35) w36 λv37 w38=>
 ifB v37
 (K (.int .i64 120) w38)
 (rv Tryz.prog (Instr.fieldAt 41 v0 1) w38 λv39 w40=>
 rv Tryz.prog (Instr.loadAt 35 v39) w40 λv41 w42=>
 Ca Tryz.prog 197 #[a0,v41] w42 λv43 w44=>
 K v43 w44)
def F113(a0 a1:Value)(w:World)(K:Kont):Prop:=
 rv Tryz.prog (Instr.box 41 a1) w λv0 w1=>
 nilK a0 λv2=>rdP Tryz.prog (Instr.fieldAt 66 v2 1) λv3=>
 rdW Tryz.prog (Instr.loadAt 62 v3) w1.drew λv4=>
 rdP Tryz.prog (Instr.fieldAt 41 v0 1) λv5=>
 rdW Tryz.prog (Instr.loadAt 35 v5) w1.drew λv6=>
 rdP Tryz.prog (Instr.fieldAt 41 v0 4) λv7=>
 rdW Tryz.prog (Instr.loadAt 2 v7) w1.drew λv8=>
 Ca Tryz.prog 196 #[v4,v6,v8] w1.drew λv9 w10=>
 rv Tryz.prog (bin .neq 26 true v9 (.int .i64 0)) w10 λv11 w12=>
 ifB v11
 (K v9 w12)
 (JoinW (S:=Value×Unit) (λJ15=>
 nilK a0 λv16=>rdP Tryz.prog (Instr.fieldAt 66 v16 1) λv17=>
 rdW Tryz.prog (Instr.loadAt 62 v17) w12.drew λv18=>
 rdP Tryz.prog (Instr.fieldAt 41 v0 1) λv19=>
 rdW Tryz.prog (Instr.loadAt 35 v19) w12.drew λv20=>
 (Ca Tryz.prog 52 #[v18,v20] w12.drew λv21 w22=>
 rdP Tryz.prog (Instr.extract v21 0) λv23=>
 rdP Tryz.prog (Instr.extract v21 1) λv24=>
 rv Tryz.prog (Instr.alloc 92 true (.tuple #[])) w22 λv25 w26=>
 ru Tryz.prog (Instr.storeAt 92 v25 v23) w26 λw27=>
 J15 (v25,()) w27)
 ∧(rv Tryz.prog (Instr.alloc 92 true (.tuple #[])) w12.drew λv28 w29=>
 Sem.run Tryz.prog (Instr.loadAt 35 v19) w29=.ok v20 w29∧Sem.run Tryz.prog (Instr.loadAt 62 v17) w29=.ok v18 w29∧
 (Ca Tryz.prog 52 #[v18,v20] w29 λv30 w31=>
 rdP Tryz.prog (Instr.extract v30 0) λv32=>
 rdP Tryz.prog (Instr.extract v30 1) λv33=>
 ru Tryz.prog (Instr.storeAt 92 v28 v32) w31 λw34=>
 J15 (v28,()) w34)))
 (J113_0 K v0 a0))
theorem F113_eq(a0 a1:Value)(w:World)(K:Kont):vcFnJ Tryz.prog Tryz.f113 [a0,a1] w K=F113 a0 a1 w K:=by kernel_rfl
theorem F113_ok:okF Tryz.prog Tryz.f113 2=true:=by kernel_rfl
theorem ca113{a0 a1:Value}{w:World}{K:Kont}(h:F113 a0 a1 w K):Ca Tryz.prog 113 #[a0,a1] w K:=
 ca_of_vcJ Tryz.noNum Tryz.func113 F113_ok (by rw[F113_eq];exact h)
def J208_0(v28:Value)(v0:Value)(K:Kont)(v18:Value)(K11:Value×Unit→World→Prop)(s9:Value×Unit)(s31:Value×Unit)(w32:World):Prop:=
 ∀_:Nat→Value,
 ifB s31.1
 (rv Tryz.prog (Instr.loadAt 117 v28) w32 λv42 w43=>
 ru Tryz.prog (Instr.storeAt 117 v0 v42) w43 λw44=>
 rdW Tryz.prog (Instr.loadAt 117 v0) w44 λv45=>
 K (.tuple #[v45,v18]) w44)
 (K11 (s9.1,()) w32)
def L208_1(v7:Value)(a2:Value)(a1:Value)(v0:Value)(K:Kont)(s9:Value×Unit)(w10:World)(K11:Value×Unit→World→Prop):Prop:=
 ∀_:Nat→Value,
 rx Tryz.prog (xNext v7 false 0) w10 λv12 w13=>
 rv Tryz.prog (Instr.extract v12 0) w13 λv14 w15=>
 ifB v14
 (rx Tryz.prog (xEntry v7) w15 λv16 w17=>
 rv Tryz.prog (Instr.extract v16 0) w17 λv18 w19=>
 rv Tryz.prog (Instr.extract v16 1) w19 λv20 w21=>
 Ca Tryz.prog 258 #[v20,a2] w21 λv22 w23=>
 rv Tryz.prog (Instr.extract v22 0) w23 λv24 w25=>
 rv Tryz.prog (Instr.extract v22 1) w25 λv26 w27=>
 rv Tryz.prog (Instr.alloc 117 true (.tuple #[])) w27 λv28 w29=>
 ru Tryz.prog (Instr.storeAt 117 v28 v24) w29 λw30=>
 JoinW (S:=Value×Unit) (λJ33=>
 rv Tryz.prog (bin .eql 26 true v26 (.int .i64 0)) w30 λv34 w35=>
 ifB v34
 (rv Tryz.prog (Instr.fieldAt 117 v28 1) w35 λv36 w37=>
 rv Tryz.prog (Instr.loadAt 35 v36) w37 λv38 w39=>
 rv Tryz.prog (bin .eql 35 false v38 a1) w39 λv40 w41=>
 J33 (v40,()) w41)
 (J33 ((.bool false),()) w35))
 (J208_0 v28 v0 K v18 K11 s9))
 (rv Tryz.prog (Instr.build 117 #[]) w15 λv46 w47=>
 ru Tryz.prog (Instr.storeAt 117 v0 v46) w47 λw48=>
 rdW Tryz.prog (Instr.loadAt 117 v0) w48 λv49=>
 K (.tuple #[v49,(.int .u32 0)]) w48)
def F208(a0 a1 a2:Value)(w:World)(K:Kont):Prop:=
 rv Tryz.prog (Instr.alloc 117 true (.tuple #[])) w λv0 w1=>
 nilK a0 λv2=>rv Tryz.prog (Instr.fieldAt 66 v2 2) w1 λv3 w4=>
 rv Tryz.prog (Instr.loadAt 63 v3) w4 λv5 w6=>
 rx Tryz.prog (xRange 63 v5) w6 λv7 w8=>
 LoopW (S:=Value×Unit) (L208_1 v7 a2 a1 v0 K) ((.int .u32 0),()) w8
theorem F208_eq(a0 a1 a2:Value)(w:World)(K:Kont):vcFnJ Tryz.prog Tryz.f208 [a0,a1,a2] w K=F208 a0 a1 a2 w K:=by kernel_rfl
theorem F208_ok:okF Tryz.prog Tryz.f208 3=true:=by kernel_rfl
theorem ca208{a0 a1 a2:Value}{w:World}{K:Kont}(h:F208 a0 a1 a2 w K):Ca Tryz.prog 208 #[a0,a1,a2] w K:=
 ca_of_vcJ Tryz.noNum Tryz.func208 F208_ok (by rw[F208_eq];exact h)
def L119_0(v50:Value)(v0:Value)(v2:Value)(a0:Value)(K:Kont)(s52:Value×Unit)(w53:World)(K54:Value×Unit→World→Prop):Prop:=
 ∀_:Nat→Value,
 rx Tryz.prog (xNext v50 false 0) w53 λv55 w56=>
 rv Tryz.prog (Instr.extract v55 0) w56 λv57 w58=>
 ifB v57
 (rx Tryz.prog (xEntry v50) w58 λv59 w60=>
 rv Tryz.prog (Instr.extract v59 0) w60 λv61 w62=>
 rv Tryz.prog (Instr.extract v59 1) w62 λv63 w64=>
 Ca Tryz.prog 210 #[v63,(.func (.func 211) #[] #[v0])] w64 λv65 w66=>
 rv Tryz.prog (bin .geq 3 true v65 (.int .i64 0)) w66 λv67 w68=>
 ifB v67
 (rdP Tryz.prog (Instr.fieldAt 41 v0 3) λv69=>
 rdW Tryz.prog (Instr.loadAt 27 v69) w68.drew λv70=>
 rdP Tryz.prog (Instr.indexAt 133 v63 v65) λv71=>
 rdP Tryz.prog (Instr.fieldAt 117 v71 4) λv72=>
 rdW Tryz.prog (Instr.loadAt 2 v72) w68.drew λv73=>
 rdP Tryz.prog (Instr.build 32 #[(1,v70),(3,v73)]) λv74=>
 ru Tryz.prog (Instr.storeAt 32 v2 v74) w68.drew λw75=>
 nilK a0 λv76=>rdP Tryz.prog (Instr.fieldAt 66 v76 3) λv77=>
 rdW Tryz.prog (Instr.loadAt 64 v77) w75.drew λv78=>
 rdP Tryz.prog (bin .add 3 true v65 (.int .i64 1)) λv79=>
 Ca Tryz.prog 212 #[v63,v65,v79] w75.drew λv80 w81=>
 Sem.run Tryz.prog (Instr.loadAt 64 v77) w81=.ok v78 w81∧
 (rux Tryz.prog (xMapUp 64 v78 v61 v80) w81 λw82=>
 rv Tryz.prog (Instr.loadAt 32 v2) w82 λv83 w84=>
 ru Tryz.prog (Instr.storeAt 32 v2 v83) w84 λw85=>
 rdW Tryz.prog (Instr.loadAt 32 v2) w85 λv86=>
 K (.tuple #[v86,(.int .i64 0)]) w85))
 (K54 (s52.1,()) w68))
 (rv Tryz.prog (Instr.loadAt 32 v2) w58 λv87 w88=>
 ru Tryz.prog (Instr.storeAt 32 v2 v87) w88 λw89=>
 rdW Tryz.prog (Instr.loadAt 32 v2) w89 λv90=>
 K (.tuple #[v90,(.int .i64 7)]) w89)
def F119(a0 a1:Value)(w:World)(K:Kont):Prop:=
 rv Tryz.prog (Instr.box 41 a1) w λv0 w1=>
 rv Tryz.prog (Instr.alloc 32 true (.tuple #[])) w1 λv2 w3=>
 rv Tryz.prog (Instr.fieldAt 41 v0 1) w3 λv4 w5=>
 rv Tryz.prog (Instr.loadAt 35 v4) w5 λv6 w7=>
 rv Tryz.prog (Instr.fieldAt 41 v0 3) w7 λv8 w9=>
 rv Tryz.prog (Instr.loadAt 27 v8) w9 λv10 w11=>
 Ca Tryz.prog 208 #[a0,v6,v10] w11 λv12 w13=>
 rv Tryz.prog (Instr.extract v12 0) w13 λv14 w15=>
 rv Tryz.prog (Instr.extract v12 1) w15 λv16 w17=>
 rv Tryz.prog (Instr.alloc 117 true (.tuple #[])) w17 λv18 w19=>
 ru Tryz.prog (Instr.storeAt 117 v18 v14) w19 λw20=>
 rv Tryz.prog (bin .neq 35 true v16 (.int .u32 0)) w20 λv21 w22=>
 ifB v21
 (nilK a0 λv23=>rdP Tryz.prog (Instr.fieldAt 66 v23 2) λv24=>
 rdW Tryz.prog (Instr.loadAt 63 v24) w22.drew λv25=>
 rdX Tryz.prog (xLook 63 v25 v16 false) w22.drew λv26=>
 rdP Tryz.prog (Instr.fieldAt 41 v0 3) λv27=>
 rdW Tryz.prog (Instr.loadAt 27 v27) w22.drew λv28=>
 Ca Tryz.prog 209 #[v26,v28] w22.drew λv29 w30=>
 rdP Tryz.prog (Instr.extract v29 0) λv31=>
 rdP Tryz.prog (Instr.extract v29 1) λv32=>
 rv Tryz.prog (Instr.fieldAt 41 v0 3) w30 λv33 w34=>
 rv Tryz.prog (Instr.loadAt 27 v33) w34 λv35 w36=>
 rv Tryz.prog (Instr.fieldAt 117 v18 4) w36 λv37 w38=>
 rv Tryz.prog (Instr.loadAt 2 v37) w38 λv39 w40=>
 rv Tryz.prog (Instr.build 32 #[(1,v35),(3,v39)]) w40 λv41 w42=>
 ru Tryz.prog (Instr.storeAt 32 v2 v41) w42 λw43=>
 rdW Tryz.prog (Instr.loadAt 32 v2) w43 λv44=>
 K (.tuple #[v44,v32]) w43)
 (nilK a0 λv45=>rv Tryz.prog (Instr.fieldAt 66 v45 3) w22 λv46 w47=>
 rv Tryz.prog (Instr.loadAt 64 v46) w47 λv48 w49=>
 rx Tryz.prog (xRange 64 v48) w49 λv50 w51=>
 LoopW (S:=Value×Unit) (L119_0 v50 v0 v2 a0 K) ((.int .i64 0),()) w51)
theorem F119_eq(a0 a1:Value)(w:World)(K:Kont):vcFnJ Tryz.prog Tryz.f119 [a0,a1] w K=F119 a0 a1 w K:=by kernel_rfl
theorem F119_ok:okF Tryz.prog Tryz.f119 2=true:=by kernel_rfl
theorem ca119{a0 a1:Value}{w:World}{K:Kont}(h:F119 a0 a1 w K):Ca Tryz.prog 119 #[a0,a1] w K:=
 ca_of_vcJ Tryz.noNum Tryz.func119 F119_ok (by rw[F119_eq];exact h)
def J120_0(v2:Value)(K:Kont)(v18:Value)(a0:Value)(v16:Value)(s53:Value×Value×Unit)(w54:World):Prop:=
 ∀_:Nat→Value,
 rv Tryz.prog (bin .neq 26 true s53.2.1 (.int .i64 0)) w54 λv80 w81=>
 ifB v80
 (rv Tryz.prog (Instr.loadAt 32 v2) w81 λv82 w83=>
 ru Tryz.prog (Instr.storeAt 32 v2 v82) w83 λw84=>
 rdW Tryz.prog (Instr.loadAt 32 v2) w84 λv85=>
 K (.tuple #[v85,s53.2.1]) w84)
 (rv Tryz.prog (Instr.loadAt 117 v18) w81 λv86 w87=>
 rv Tryz.prog (Instr.loadAt 235 s53.1) w87 λv88 w89=>
 Ca Tryz.prog 215 #[a0,v16,v86,v88] w89 λv90 w91=>
 rv Tryz.prog (Instr.extract v90 0) w91 λv92 w93=>
 rv Tryz.prog (Instr.extract v90 1) w93 λv94 w95=>
 ru Tryz.prog (Instr.storeAt 32 v2 v92) w95 λw96=>
 rdW Tryz.prog (Instr.loadAt 32 v2) w96 λv97=>
 K (.tuple #[v97,v94]) w96)
def F120(a0 a1:Value)(w:World)(K:Kont):Prop:=
 rv Tryz.prog (Instr.box 41 a1) w λv0 w1=>
 rv Tryz.prog (Instr.alloc 32 true (.tuple #[])) w1 λv2 w3=>
 rv Tryz.prog (Instr.fieldAt 41 v0 1) w3 λv4 w5=>
 rv Tryz.prog (Instr.loadAt 35 v4) w5 λv6 w7=>
 rv Tryz.prog (Instr.fieldAt 41 v0 3) w7 λv8 w9=>
 rv Tryz.prog (Instr.loadAt 27 v8) w9 λv10 w11=>
 Ca Tryz.prog 208 #[a0,v6,v10] w11 λv12 w13=>
 rv Tryz.prog (Instr.extract v12 0) w13 λv14 w15=>
 rv Tryz.prog (Instr.extract v12 1) w15 λv16 w17=>
 rv Tryz.prog (Instr.alloc 117 true (.tuple #[])) w17 λv18 w19=>
 ru Tryz.prog (Instr.storeAt 117 v18 v14) w19 λw20=>
 rv Tryz.prog (bin .eql 35 true v16 (.int .u32 0)) w20 λv21 w22=>
 ifB v21
 (rv Tryz.prog (Instr.loadAt 32 v2) w22 λv23 w24=>
 ru Tryz.prog (Instr.storeAt 32 v2 v23) w24 λw25=>
 rdW Tryz.prog (Instr.loadAt 32 v2) w25 λv26=>
 K (.tuple #[v26,(.int .i64 7)]) w25)
 (rv Tryz.prog (Instr.fieldAt 41 v0 1) w22 λv27 w28=>
 rv Tryz.prog (Instr.loadAt 35 v27) w28 λv29 w30=>
 rv Tryz.prog (Instr.fieldAt 117 v18 2) w30 λv31 w32=>
 rv Tryz.prog (Instr.loadAt 4 v31) w32 λv33 w34=>
 rv Tryz.prog (Instr.fieldAt 41 v0 9) w34 λv35 w36=>
 rv Tryz.prog (Instr.loadAt 2 v35) w36 λv37 w38=>
 rv Tryz.prog (Instr.fieldAt 41 v0 10) w38 λv39 w40=>
 rv Tryz.prog (Instr.loadAt 2 v39) w40 λv41 w42=>
 rv Tryz.prog (Instr.loadAt 117 v18) w42 λv43 w44=>
 Ca Tryz.prog 213 #[a0,v29,v16,v33,v37,v41,v43] w44 λv45 w46=>
 rv Tryz.prog (bin .neq 26 true v45 (.int .i64 0)) w46 λv47 w48=>
 ifB v47
 (rv Tryz.prog (Instr.loadAt 32 v2) w48 λv49 w50=>
 ru Tryz.prog (Instr.storeAt 32 v2 v49) w50 λw51=>
 rdW Tryz.prog (Instr.loadAt 32 v2) w51 λv52=>
 K (.tuple #[v52,v45]) w51)
 (JoinW (S:=Value×Value×Unit) (λJ55=>
 nilK a0 λv56=>rdP Tryz.prog (Instr.fieldAt 66 v56 2) λv57=>
 rdW Tryz.prog (Instr.loadAt 63 v57) w48.drew λv58=>
 rdX Tryz.prog (xLook 63 v58 v16 false) w48.drew λv59=>
 rdP Tryz.prog (Instr.fieldAt 41 v0 3) λv60=>
 rdW Tryz.prog (Instr.loadAt 27 v60) w48.drew λv61=>
 rdP Tryz.prog (Instr.fieldAt 41 v0 9) λv62=>
 rdW Tryz.prog (Instr.loadAt 2 v62) w48.drew λv63=>
 rdP Tryz.prog (Instr.fieldAt 41 v0 10) λv64=>
 rdW Tryz.prog (Instr.loadAt 2 v64) w48.drew λv65=>
 (Ca Tryz.prog 214 #[v59,v61,v63,v65] w48.drew λv66 w67=>
 rdP Tryz.prog (Instr.extract v66 0) λv68=>
 rdP Tryz.prog (Instr.extract v66 1) λv69=>
 rv Tryz.prog (Instr.alloc 235 true (.tuple #[])) w67 λv70 w71=>
 ru Tryz.prog (Instr.storeAt 235 v70 v68) w71 λw72=>
 J55 (v70,v69,()) w72)
 ∧(rv Tryz.prog (Instr.alloc 235 true (.tuple #[])) w48.drew λv73 w74=>
 Sem.run Tryz.prog (Instr.loadAt 2 v64) w74=.ok v65 w74∧Sem.run Tryz.prog (Instr.loadAt 2 v62) w74=.ok v63 w74∧Sem.run Tryz.prog (Instr.loadAt 27 v60) w74=.ok v61 w74∧Sem.run Tryz.prog (xLook 63 v58 v16 false) w74=.ok v59 w74∧Sem.run Tryz.prog (Instr.loadAt 63 v57) w74=.ok v58 w74∧
 (Ca Tryz.prog 214 #[v59,v61,v63,v65] w74 λv75 w76=>
 rdP Tryz.prog (Instr.extract v75 0) λv77=>
 rdP Tryz.prog (Instr.extract v75 1) λv78=>
 ru Tryz.prog (Instr.storeAt 235 v73 v77) w76 λw79=>
 J55 (v73,v78,()) w79)))
 (J120_0 v2 K v18 a0 v16)))
theorem F120_eq(a0 a1:Value)(w:World)(K:Kont):vcFnJ Tryz.prog Tryz.f120 [a0,a1] w K=F120 a0 a1 w K:=by kernel_rfl
theorem F120_ok:okF Tryz.prog Tryz.f120 2=true:=by kernel_rfl
theorem ca120{a0 a1:Value}{w:World}{K:Kont}(h:F120 a0 a1 w K):Ca Tryz.prog 120 #[a0,a1] w K:=
 ca_of_vcJ Tryz.noNum Tryz.func120 F120_ok (by rw[F120_eq];exact h)
def J203_0(a0:Value)(s100:Value×Unit)(v2:Value)(mk47:List Nat)(K:Kont)(s88:Value×Value×Unit)(K90:Value×Value×Unit→World→Prop)(s129:Unit)(w130:World):Prop:=
 ∀_:Nat→Value,
 nilK a0 λv164=>rdP Tryz.prog (Instr.fieldAt 66 v164 1) λv165=>
 rdW Tryz.prog (Instr.loadAt 62 v165) w130.drew λv166=>
 rdW Tryz.prog (Instr.loadAt 92 s100.1) w130.drew λv167=>
 Ca Tryz.prog 125 #[v166,v167] w130.drew λv168 w169=>
 rv Tryz.prog (bin .neq 26 true v168 (.int .i64 0)) w169 λv170 w171=>
 ifB v170
 (rv Tryz.prog (Instr.loadAt 32 v2) w171 λv172 w173=>
 ru Tryz.prog (Instr.storeAt 32 v2 v172) w173 λw174=>
 retD (mk47++[]) w174 λw175=>
 rdW Tryz.prog (Instr.loadAt 32 v2) w175 λv176=>
 K (.tuple #[v176,v168]) w175)
 (rv Tryz.prog (bin .add 3 true s88.2.1 (.int .i64 1)) w171 λv177 w178=>
 K90 (v168,v177,()) w178)
def J203_1(v97:Value)(v2:Value)(a0:Value)(mk47:List Nat)(K:Kont)(s88:Value×Value×Unit)(K90:Value×Value×Unit→World→Prop)(s100:Value×Unit)(w101:World):Prop:=
 ∀_:Nat→Value,
 rv Tryz.prog (Instr.fieldAt 358 v97 1) w101 λv122 w123=>
 rv Tryz.prog (Instr.loadAt 2 v122) w123 λv124 w125=>
 rv Tryz.prog (Instr.fieldAt 92 s100.1 1) w125 λv126 w127=>
 ru Tryz.prog (Instr.storeAt 2 v126 v124) w127 λw128=>
 JoinW (S:=Unit) (λJ131=>
 rv Tryz.prog (Instr.fieldAt 358 v97 2) w128 λv132 w133=>
 rv Tryz.prog (Instr.loadAt 4 v132) w133 λv134 w135=>
 ifB v134
 (rv Tryz.prog (Instr.fieldAt 92 s100.1 3) w135 λv136 w137=>
 ru Tryz.prog (Instr.storeAt 4 v136 (.bool true)) w137 λw138=>
 rv Tryz.prog (Instr.fieldAt 32 v2 6) w138 λv139 w140=>
 rv Tryz.prog (Instr.loadAt 30 v139) w140 λv141 w142=>
 rv Tryz.prog (Instr.fieldAt 358 v97 0) w142 λv143 w144=>
 rv Tryz.prog (Instr.loadAt 35 v143) w144 λv145 w146=>
 rx Tryz.prog (xLit 30 1 [(0,v145)]) w146 λv147 w148=>
 rx Tryz.prog (xAppend #[30,30] 30 [v141,v147]) w148 λv149 w150=>
 rv Tryz.prog (Instr.fieldAt 32 v2 6) w150 λv151 w152=>
 ru Tryz.prog (Instr.storeAt 30 v151 v149) w152 λw153=>
 rdP Tryz.prog (Instr.fieldAt 32 v2 5) λv154=>
 rdW Tryz.prog (Instr.loadAt 29 v154) w153.drew λv155=>
 rdP Tryz.prog (Instr.fieldAt 358 v97 0) λv156=>
 rdW Tryz.prog (Instr.loadAt 35 v156) w153.drew λv157=>
 Ca Tryz.prog 124 #[a0,v157,(.int .u32 0)] w153.drew λv158 w159=>
 Sem.run Tryz.prog (Instr.loadAt 29 v154) w159=.ok v155 w159∧
 (rx Tryz.prog (xAppend #[29,29] 29 [v155,v158]) w159 λv160 w161=>
 rdP Tryz.prog (Instr.fieldAt 32 v2 5) λv162=>
 ru Tryz.prog (Instr.storeAt 29 v162 v160) w161 λw163=>
 J131 (()) w163))
 (J131 (()) w135))
 (J203_0 a0 s100 v2 mk47 K s88 K90)
def L203_2(v86:Value)(v73:Value)(a0:Value)(v2:Value)(mk47:List Nat)(K:Kont)(v75:Value)(s88:Value×Value×Unit)(w89:World)(K90:Value×Value×Unit→World→Prop):Prop:=
 ∀_:Nat→Value,
 rv Tryz.prog (bin .lss 3 false s88.2.1 v86) w89 λv91 w92=>
 ifB v91
 (rv Tryz.prog (Instr.indexAt 354 v73 s88.2.1) w92 λv93 w94=>
 rv Tryz.prog (Instr.loadAt 358 v93) w94 λv95 w96=>
 rv Tryz.prog (Instr.alloc 358 true (.tuple #[])) w96 λv97 w98=>
 ru Tryz.prog (Instr.storeAt 358 v97 v95) w98 λw99=>
 JoinW (S:=Value×Unit) (λJ102=>
 nilK a0 λv103=>rdP Tryz.prog (Instr.fieldAt 66 v103 1) λv104=>
 rdW Tryz.prog (Instr.loadAt 62 v104) w99.drew λv105=>
 rdP Tryz.prog (Instr.fieldAt 358 v97 0) λv106=>
 rdW Tryz.prog (Instr.loadAt 35 v106) w99.drew λv107=>
 (Ca Tryz.prog 52 #[v105,v107] w99.drew λv108 w109=>
 rdP Tryz.prog (Instr.extract v108 0) λv110=>
 rdP Tryz.prog (Instr.extract v108 1) λv111=>
 rv Tryz.prog (Instr.alloc 92 true (.tuple #[])) w109 λv112 w113=>
 ru Tryz.prog (Instr.storeAt 92 v112 v110) w113 λw114=>
 J102 (v112,()) w114)
 ∧(rv Tryz.prog (Instr.alloc 92 true (.tuple #[])) w99.drew λv115 w116=>
 Sem.run Tryz.prog (Instr.loadAt 35 v106) w116=.ok v107 w116∧Sem.run Tryz.prog (Instr.loadAt 62 v104) w116=.ok v105 w116∧
 (Ca Tryz.prog 52 #[v105,v107] w116 λv117 w118=>
 rdP Tryz.prog (Instr.extract v117 0) λv119=>
 rdP Tryz.prog (Instr.extract v117 1) λv120=>
 ru Tryz.prog (Instr.storeAt 92 v115 v119) w118 λw121=>
 J102 (v115,()) w121)))
 (J203_1 v97 v2 a0 mk47 K s88 K90))
 (rdW Tryz.prog (Instr.loadAt 32 v2) w92.drew λv179=>
 nilK a0 λv180=>rdP Tryz.prog (Instr.fieldAt 66 v180 1) λv181=>
 rdW Tryz.prog (Instr.loadAt 62 v181) w92.drew λv182=>
 rdP Tryz.prog (Instr.build 92 #[(1,v75)]) λv183=>
 Ca Tryz.prog 125 #[v182,v183] w92.drew λv184 w185=>
 Sem.run Tryz.prog (Instr.loadAt 32 v2) w185=.ok v179 w185∧
 (ru Tryz.prog (Instr.storeAt 32 v2 v179) w185 λw186=>
 retD (mk47++[]) w186 λw187=>
 rdW Tryz.prog (Instr.loadAt 32 v2) w187 λv188=>
 K (.tuple #[v188,v184]) w187))
def J203_3(a0:Value)(s243:Value×Unit)(v2:Value)(mk47:List Nat)(K:Kont)(s231:Value×Value×Unit)(K233:Value×Value×Unit→World→Prop)(s272:Unit)(w273:World):Prop:=
 ∀_:Nat→Value,
 nilK a0 λv307=>rdP Tryz.prog (Instr.fieldAt 66 v307 1) λv308=>
 rdW Tryz.prog (Instr.loadAt 62 v308) w273.drew λv309=>
 rdW Tryz.prog (Instr.loadAt 92 s243.1) w273.drew λv310=>
 Ca Tryz.prog 125 #[v309,v310] w273.drew λv311 w312=>
 rv Tryz.prog (bin .neq 26 true v311 (.int .i64 0)) w312 λv313 w314=>
 ifB v313
 (rv Tryz.prog (Instr.loadAt 32 v2) w314 λv315 w316=>
 ru Tryz.prog (Instr.storeAt 32 v2 v315) w316 λw317=>
 retD (mk47++[]) w317 λw318=>
 rdW Tryz.prog (Instr.loadAt 32 v2) w318 λv319=>
 K (.tuple #[v319,v311]) w318)
 (rv Tryz.prog (bin .add 3 true s231.2.1 (.int .i64 1)) w314 λv320 w321=>
 K233 (v311,v320,()) w321)
def J203_4(v240:Value)(v2:Value)(a0:Value)(mk47:List Nat)(K:Kont)(s231:Value×Value×Unit)(K233:Value×Value×Unit→World→Prop)(s243:Value×Unit)(w244:World):Prop:=
 ∀_:Nat→Value,
 rv Tryz.prog (Instr.fieldAt 358 v240 1) w244 λv265 w266=>
 rv Tryz.prog (Instr.loadAt 2 v265) w266 λv267 w268=>
 rv Tryz.prog (Instr.fieldAt 92 s243.1 1) w268 λv269 w270=>
 ru Tryz.prog (Instr.storeAt 2 v269 v267) w270 λw271=>
 JoinW (S:=Unit) (λJ274=>
 rv Tryz.prog (Instr.fieldAt 358 v240 2) w271 λv275 w276=>
 rv Tryz.prog (Instr.loadAt 4 v275) w276 λv277 w278=>
 ifB v277
 (rv Tryz.prog (Instr.fieldAt 92 s243.1 3) w278 λv279 w280=>
 ru Tryz.prog (Instr.storeAt 4 v279 (.bool true)) w280 λw281=>
 rv Tryz.prog (Instr.fieldAt 32 v2 6) w281 λv282 w283=>
 rv Tryz.prog (Instr.loadAt 30 v282) w283 λv284 w285=>
 rv Tryz.prog (Instr.fieldAt 358 v240 0) w285 λv286 w287=>
 rv Tryz.prog (Instr.loadAt 35 v286) w287 λv288 w289=>
 rx Tryz.prog (xLit 30 1 [(0,v288)]) w289 λv290 w291=>
 rx Tryz.prog (xAppend #[30,30] 30 [v284,v290]) w291 λv292 w293=>
 rv Tryz.prog (Instr.fieldAt 32 v2 6) w293 λv294 w295=>
 ru Tryz.prog (Instr.storeAt 30 v294 v292) w295 λw296=>
 rdP Tryz.prog (Instr.fieldAt 32 v2 5) λv297=>
 rdW Tryz.prog (Instr.loadAt 29 v297) w296.drew λv298=>
 rdP Tryz.prog (Instr.fieldAt 358 v240 0) λv299=>
 rdW Tryz.prog (Instr.loadAt 35 v299) w296.drew λv300=>
 Ca Tryz.prog 124 #[a0,v300,(.int .u32 0)] w296.drew λv301 w302=>
 Sem.run Tryz.prog (Instr.loadAt 29 v297) w302=.ok v298 w302∧
 (rx Tryz.prog (xAppend #[29,29] 29 [v298,v301]) w302 λv303 w304=>
 rdP Tryz.prog (Instr.fieldAt 32 v2 5) λv305=>
 ru Tryz.prog (Instr.storeAt 29 v305 v303) w304 λw306=>
 J274 (()) w306))
 (J274 (()) w278))
 (J203_3 a0 s243 v2 mk47 K s231 K233)
def L203_5(v229:Value)(v216:Value)(a0:Value)(v2:Value)(mk47:List Nat)(K:Kont)(v218:Value)(s231:Value×Value×Unit)(w232:World)(K233:Value×Value×Unit→World→Prop):Prop:=
 ∀_:Nat→Value,
 rv Tryz.prog (bin .lss 3 false s231.2.1 v229) w232 λv234 w235=>
 ifB v234
 (rv Tryz.prog (Instr.indexAt 354 v216 s231.2.1) w235 λv236 w237=>
 rv Tryz.prog (Instr.loadAt 358 v236) w237 λv238 w239=>
 rv Tryz.prog (Instr.alloc 358 true (.tuple #[])) w239 λv240 w241=>
 ru Tryz.prog (Instr.storeAt 358 v240 v238) w241 λw242=>
 JoinW (S:=Value×Unit) (λJ245=>
 nilK a0 λv246=>rdP Tryz.prog (Instr.fieldAt 66 v246 1) λv247=>
 rdW Tryz.prog (Instr.loadAt 62 v247) w242.drew λv248=>
 rdP Tryz.prog (Instr.fieldAt 358 v240 0) λv249=>
 rdW Tryz.prog (Instr.loadAt 35 v249) w242.drew λv250=>
 (Ca Tryz.prog 52 #[v248,v250] w242.drew λv251 w252=>
 rdP Tryz.prog (Instr.extract v251 0) λv253=>
 rdP Tryz.prog (Instr.extract v251 1) λv254=>
 rv Tryz.prog (Instr.alloc 92 true (.tuple #[])) w252 λv255 w256=>
 ru Tryz.prog (Instr.storeAt 92 v255 v253) w256 λw257=>
 J245 (v255,()) w257)
 ∧(rv Tryz.prog (Instr.alloc 92 true (.tuple #[])) w242.drew λv258 w259=>
 Sem.run Tryz.prog (Instr.loadAt 35 v249) w259=.ok v250 w259∧Sem.run Tryz.prog (Instr.loadAt 62 v247) w259=.ok v248 w259∧
 (Ca Tryz.prog 52 #[v248,v250] w259 λv260 w261=>
 rdP Tryz.prog (Instr.extract v260 0) λv262=>
 rdP Tryz.prog (Instr.extract v260 1) λv263=>
 ru Tryz.prog (Instr.storeAt 92 v258 v262) w261 λw264=>
 J245 (v258,()) w264)))
 (J203_4 v240 v2 a0 mk47 K s231 K233))
 (rdW Tryz.prog (Instr.loadAt 32 v2) w235.drew λv322=>
 nilK a0 λv323=>rdP Tryz.prog (Instr.fieldAt 66 v323 1) λv324=>
 rdW Tryz.prog (Instr.loadAt 62 v324) w235.drew λv325=>
 rdP Tryz.prog (Instr.build 92 #[(1,v218)]) λv326=>
 Ca Tryz.prog 125 #[v325,v326] w235.drew λv327 w328=>
 Sem.run Tryz.prog (Instr.loadAt 32 v2) w328=.ok v322 w328∧
 (ru Tryz.prog (Instr.storeAt 32 v2 v322) w328 λw329=>
 retD (mk47++[]) w329 λw330=>
 rdW Tryz.prog (Instr.loadAt 32 v2) w330 λv331=>
 K (.tuple #[v331,v327]) w330))
def R203_6(v4:Value)(v0:Value)(l13:Nat)(x14:List Value)(w15:World)(KN16:World→Prop)(KJ17:Code→World→Prop):Prop:=
 rv Tryz.prog (Instr.alloc 92 true (.tuple #[])) w15 λv18 w19=>
 ru Tryz.prog (Instr.storeAt 92 v18 (x14.getD 0 undef)) w19 λw20=>
 beginK l13 w20 λw21=>
 rv Tryz.prog (Instr.loadAt 351 v4) w21 λv22 w23=>
 rv Tryz.prog (Instr.fieldAt 92 v18 0) w23 λv24 w25=>
 rv Tryz.prog (Instr.loadAt 35 v24) w25 λv26 w27=>
 rv Tryz.prog (Instr.fieldAt 92 v18 1) w27 λv28 w29=>
 rv Tryz.prog (Instr.loadAt 2 v28) w29 λv30 w31=>
 rv Tryz.prog (Instr.loadAt 298 v0) w31 λv32 w33=>
 rv Tryz.prog (Instr.fieldAt 92 v18 0) w33 λv34 w35=>
 rv Tryz.prog (Instr.loadAt 35 v34) w35 λv36 w37=>
 rx Tryz.prog (xLook 298 v32 v36 false) w37 λv38 w39=>
 rv Tryz.prog (Instr.build 353 #[(0,v26),(1,v30),(2,v38)]) w39 λv40 w41=>
 rx Tryz.prog (xLit 351 1 [(0,v40)]) w41 λv42 w43=>
 rx Tryz.prog (xAppend #[351,351] 351 [v22,v42]) w43 λv44 w45=>
 ru Tryz.prog (Instr.storeAt 351 v4 v44) w45 λw46=>
 KN16 w46
def A203_7(a0:Value)(v4:Value)(v2:Value)(K:Kont)(mk47:List Nat)(pd48:Option Code)(w49:World):Prop:=
 afterK
 (λw50=>
 nilK a0 λv51=>rv Tryz.prog (Instr.fieldAt 66 v51 1) w50 λv52 w53=>
 rv Tryz.prog (Instr.loadAt 62 v52) w53 λv54 w55=>
 Ca Tryz.prog 52 #[v54,(.int .u32 0)] w55 λv56 w57=>
 rv Tryz.prog (Instr.extract v56 0) w57 λv58 w59=>
 rv Tryz.prog (Instr.extract v56 1) w59 λv60 w61=>
 rv Tryz.prog (Instr.alloc 92 true (.tuple #[])) w61 λv62 w63=>
 ru Tryz.prog (Instr.storeAt 92 v62 v58) w63 λw64=>
 rv Tryz.prog (Instr.fieldAt 92 v62 1) w64 λv65 w66=>
 rv Tryz.prog (Instr.loadAt 2 v65) w66 λv67 w68=>
 rv Tryz.prog (Instr.loadAt 351 v4) w68 λv69 w70=>
 Ca Tryz.prog 254 #[v67,v69] w70 λv71 w72=>
 rv Tryz.prog (Instr.extract v71 0) w72 λv73 w74=>
 rv Tryz.prog (Instr.extract v71 1) w74 λv75 w76=>
 rv Tryz.prog (Instr.extract v71 2) w76 λv77 w78=>
 rv Tryz.prog (bin .neq 26 true v77 (.int .i64 0)) w78 λv79 w80=>
 ifB v79
 (rv Tryz.prog (Instr.loadAt 32 v2) w80 λv81 w82=>
 ru Tryz.prog (Instr.storeAt 32 v2 v81) w82 λw83=>
 retD (mk47++[]) w83 λw84=>
 rdW Tryz.prog (Instr.loadAt 32 v2) w84 λv85=>
 K (.tuple #[v85,v77]) w84)
 (rn Tryz.prog (builtin .len #[354] 3 #[false] #[v73]) w80 λv86 w87=>
 LoopW (S:=Value×Value×Unit) (L203_2 v86 v73 a0 v2 mk47 K v75) (v77,(.int .i64 0),()) w87))
 (λw189=>
 retD (mk47++[]) w189 λw190=>
 rdW Tryz.prog (Instr.loadAt 32 v2) w190 λv191=>
 K (.tuple #[v191,(.int .i64 0)]) w190)
 (λi193 w192=>
 bc (Nat.beq i193 0)
 (nilK a0 λv194=>rv Tryz.prog (Instr.fieldAt 66 v194 1) w192 λv195 w196=>
 rv Tryz.prog (Instr.loadAt 62 v195) w196 λv197 w198=>
 Ca Tryz.prog 52 #[v197,(.int .u32 0)] w198 λv199 w200=>
 rv Tryz.prog (Instr.extract v199 0) w200 λv201 w202=>
 rv Tryz.prog (Instr.extract v199 1) w202 λv203 w204=>
 rv Tryz.prog (Instr.alloc 92 true (.tuple #[])) w204 λv205 w206=>
 ru Tryz.prog (Instr.storeAt 92 v205 v201) w206 λw207=>
 rv Tryz.prog (Instr.fieldAt 92 v205 1) w207 λv208 w209=>
 rv Tryz.prog (Instr.loadAt 2 v208) w209 λv210 w211=>
 rv Tryz.prog (Instr.loadAt 351 v4) w211 λv212 w213=>
 Ca Tryz.prog 254 #[v210,v212] w213 λv214 w215=>
 rv Tryz.prog (Instr.extract v214 0) w215 λv216 w217=>
 rv Tryz.prog (Instr.extract v214 1) w217 λv218 w219=>
 rv Tryz.prog (Instr.extract v214 2) w219 λv220 w221=>
 rv Tryz.prog (bin .neq 26 true v220 (.int .i64 0)) w221 λv222 w223=>
 ifB v222
 (rv Tryz.prog (Instr.loadAt 32 v2) w223 λv224 w225=>
 ru Tryz.prog (Instr.storeAt 32 v2 v224) w225 λw226=>
 retD (mk47++[]) w226 λw227=>
 rdW Tryz.prog (Instr.loadAt 32 v2) w227 λv228=>
 K (.tuple #[v228,v220]) w227)
 (rn Tryz.prog (builtin .len #[354] 3 #[false] #[v216]) w223 λv229 w230=>
 LoopW (S:=Value×Value×Unit) (L203_5 v229 v216 a0 v2 mk47 K v218) (v220,(.int .i64 0),()) w230))
 (False)) pd48 w49
def F203(a0 a1:Value)(w:World)(K:Kont):Prop:=
 rv Tryz.prog (Instr.box 298 a1) w λv0 w1=>
 rv Tryz.prog (Instr.alloc 32 true (.tuple #[])) w1 λv2 w3=>
 rv Tryz.prog (Instr.alloc 351 true (.tuple #[])) w3 λv4 w5=>
 nilK a0 λv6=>rv Tryz.prog (Instr.fieldAt 66 v6 1) w5 λv7 w8=>
 rv Tryz.prog (Instr.loadAt 62 v7) w8 λv9 w10=>
 Ca Tryz.prog 55 #[v9] w10 λv11 w12=>
 RFW Tryz.prog none v11 w12 1 (R203_6 v4 v0) (A203_7 a0 v4 v2 K)
theorem F203_eq(a0 a1:Value)(w:World)(K:Kont):vcFnJ Tryz.prog Tryz.f203 [a0,a1] w K=F203 a0 a1 w K:=by kernel_rfl
theorem F203_ok:okF Tryz.prog Tryz.f203 2=true:=by kernel_rfl
theorem ca203{a0 a1:Value}{w:World}{K:Kont}(h:F203 a0 a1 w K):Ca Tryz.prog 203 #[a0,a1] w K:=
 ca_of_vcJ Tryz.noNum Tryz.func203 F203_ok (by rw[F203_eq];exact h)
def J117_0(v113:Value)(v0:Value)(v4:Value)(KN111:World→Prop)(s139:Value×Unit)(w140:World):Prop:=
 ∀_:Nat→Value,
 ifB s139.1
 (rv Tryz.prog (Instr.fieldAt 92 v113 3) w140 λv162 w163=>
 ru Tryz.prog (Instr.storeAt 4 v162 (.bool false)) w163 λw164=>
 rdW Tryz.prog (Instr.loadAt 23 v0) w164.drew λv165=>
 nilK v165 λv166=>rdP Tryz.prog (Instr.fieldAt 66 v166 1) λv167=>
 rdW Tryz.prog (Instr.loadAt 62 v167) w164.drew λv168=>
 rdW Tryz.prog (Instr.loadAt 92 v113) w164.drew λv169=>
 Ca Tryz.prog 125 #[v168,v169] w164.drew λv170 w171=>
 ru Tryz.prog (Instr.storeAt 26 v4 v170) w171 λw172=>
 KN111 w172)
 (KN111 w140)
def J117_1(v113:Value)(v0:Value)(v4:Value)(KN111:World→Prop)(s176:Value×Unit)(w177:World):Prop:=
 ∀_:Nat→Value,
 ifB s176.1
 (rv Tryz.prog (Instr.fieldAt 92 v113 3) w177 λv199 w200=>
 ru Tryz.prog (Instr.storeAt 4 v199 (.bool false)) w200 λw201=>
 rdW Tryz.prog (Instr.loadAt 23 v0) w201.drew λv202=>
 nilK v202 λv203=>rdP Tryz.prog (Instr.fieldAt 66 v203 1) λv204=>
 rdW Tryz.prog (Instr.loadAt 62 v204) w201.drew λv205=>
 rdW Tryz.prog (Instr.loadAt 92 v113) w201.drew λv206=>
 Ca Tryz.prog 125 #[v205,v206] w201.drew λv207 w208=>
 ru Tryz.prog (Instr.storeAt 26 v4 v207) w208 λw209=>
 KN111 w209)
 (KN111 w177)
def R117_2(v117:Value)(l128:Nat)(x129:List Value)(w130:World)(KN131:World→Prop)(KJ132:Code→World→Prop):Prop:=
 beginK l128 w130 λw133=>
 ru Tryz.prog (Instr.storeAt 4 v117 (.bool true)) w133 λw134=>
 KN131 w134
def A117_3(v113:Value)(v117:Value)(v2:Value)(v0:Value)(v4:Value)(KN111:World→Prop)(KJ112:Code→World→Prop)(mk135:List Nat)(pd136:Option Code)(w137:World):Prop:=
 afterK
 (λw138=>
 JoinW (S:=Value×Unit) (λJ141=>
 rv Tryz.prog (Instr.fieldAt 92 v113 3) w138 λv142 w143=>
 rv Tryz.prog (Instr.loadAt 4 v142) w143 λv144 w145=>
 ifB v144
 (rv Tryz.prog (Instr.loadAt 4 v117) w145 λv146 w147=>
 rv Tryz.prog (Op.unary .not v146) w147 λv148 w149=>
 ifB v148
 (rv Tryz.prog (Instr.fieldAt 32 v2 6) w149 λv150 w151=>
 rv Tryz.prog (Instr.loadAt 30 v150) w151 λv152 w153=>
 rv Tryz.prog (Instr.fieldAt 92 v113 0) w153 λv154 w155=>
 rv Tryz.prog (Instr.loadAt 35 v154) w155 λv156 w157=>
 Ca Tryz.prog 205 #[v152,v156] w157 λv158 w159=>
 rv Tryz.prog (Op.unary .not v158) w159 λv160 w161=>
 J141 (v160,()) w161)
 (J141 ((.bool false),()) w149))
 (J141 ((.bool false),()) w145))
 (J117_0 v113 v0 v4 KN111))
 (λw173=>
 KJ112 .ret w173)
 (λi175 w174=>
 bc (Nat.beq i175 4)
 (JoinW (S:=Value×Unit) (λJ178=>
 rv Tryz.prog (Instr.fieldAt 92 v113 3) w174 λv179 w180=>
 rv Tryz.prog (Instr.loadAt 4 v179) w180 λv181 w182=>
 ifB v181
 (rv Tryz.prog (Instr.loadAt 4 v117) w182 λv183 w184=>
 rv Tryz.prog (Op.unary .not v183) w184 λv185 w186=>
 ifB v185
 (rv Tryz.prog (Instr.fieldAt 32 v2 6) w186 λv187 w188=>
 rv Tryz.prog (Instr.loadAt 30 v187) w188 λv189 w190=>
 rv Tryz.prog (Instr.fieldAt 92 v113 0) w190 λv191 w192=>
 rv Tryz.prog (Instr.loadAt 35 v191) w192 λv193 w194=>
 Ca Tryz.prog 205 #[v189,v193] w194 λv195 w196=>
 rv Tryz.prog (Op.unary .not v195) w196 λv197 w198=>
 J178 (v197,()) w198)
 (J178 ((.bool false),()) w186))
 (J178 ((.bool false),()) w182))
 (J117_1 v113 v0 v4 KN111))
 (bc (Nat.beq i175 3)
 (KN111 w174)
 (KJ112 (.exit i175) w174))) pd136 w137
def R117_4(v0:Value)(v2:Value)(v4:Value)(l108:Nat)(x109:List Value)(w110:World)(KN111:World→Prop)(KJ112:Code→World→Prop):Prop:=
 rv Tryz.prog (Instr.alloc 92 true (.tuple #[])) w110 λv113 w114=>
 ru Tryz.prog (Instr.storeAt 92 v113 (x109.getD 0 undef)) w114 λw115=>
 beginK l108 w115 λw116=>
 rv Tryz.prog (Instr.alloc 4 true (.tuple #[])) w116 λv117 w118=>
 ru Tryz.prog (Instr.storeAt 4 v117 (.bool false)) w118 λw119=>
 rdW Tryz.prog (Instr.loadAt 23 v0) w119.drew λv120=>
 nilK v120 λv121=>rdP Tryz.prog (Instr.fieldAt 66 v121 1) λv122=>
 rdW Tryz.prog (Instr.loadAt 62 v122) w119.drew λv123=>
 rdP Tryz.prog (Instr.fieldAt 92 v113 0) λv124=>
 rdW Tryz.prog (Instr.loadAt 35 v124) w119.drew λv125=>
 Ca Tryz.prog 204 #[v123,v125] w119.drew λv126 w127=>
 RFW Tryz.prog (some l108) v126 w127 1 (R117_2 v117) (A117_3 v113 v117 v2 v0 v4 KN111 KJ112)
def A117_5(v2:Value)(v4:Value)(mk72:List Nat)(K:Kont)(mk210:List Nat)(pd211:Option Code)(w212:World):Prop:=
 afterK
 (λw213=>
 rdW Tryz.prog (Instr.loadAt 32 v2) w213.drew λv214=>
 rdW Tryz.prog (Instr.loadAt 26 v4) w213.drew λv215=>
 ru Tryz.prog (Instr.storeAt 32 v2 v214) w213.drew λw216=>
 Sem.run Tryz.prog (Instr.loadAt 26 v4) w216=.ok v215 w216∧
 (ru Tryz.prog (Instr.storeAt 26 v4 v215) w216 λw217=>
 retD (mk210++(mk72++[])) w217 λw218=>
 rdW Tryz.prog (Instr.loadAt 32 v2) w218 λv219=>
 rdW Tryz.prog (Instr.loadAt 26 v4) w218 λv220=>
 K (.tuple #[v219,v220]) w218))
 (λw221=>
 retD (mk210++(mk72++[])) w221 λw222=>
 rdW Tryz.prog (Instr.loadAt 32 v2) w222 λv223=>
 rdW Tryz.prog (Instr.loadAt 26 v4) w222 λv224=>
 K (.tuple #[v223,v224]) w222)
 (λi226 w225=>
 bc (Nat.beq i226 2)
 (rdW Tryz.prog (Instr.loadAt 32 v2) w225.drew λv227=>
 rdW Tryz.prog (Instr.loadAt 26 v4) w225.drew λv228=>
 ru Tryz.prog (Instr.storeAt 32 v2 v227) w225.drew λw229=>
 Sem.run Tryz.prog (Instr.loadAt 26 v4) w229=.ok v228 w229∧
 (ru Tryz.prog (Instr.storeAt 26 v4 v228) w229 λw230=>
 retD (mk210++(mk72++[])) w230 λw231=>
 rdW Tryz.prog (Instr.loadAt 32 v2) w231 λv232=>
 rdW Tryz.prog (Instr.loadAt 26 v4) w231 λv233=>
 K (.tuple #[v232,v233]) w231))
 (False)) pd211 w212
def J117_6(v277:Value)(v0:Value)(v4:Value)(KN275:World→Prop)(s303:Value×Unit)(w304:World):Prop:=
 ∀_:Nat→Value,
 ifB s303.1
 (rv Tryz.prog (Instr.fieldAt 92 v277 3) w304 λv326 w327=>
 ru Tryz.prog (Instr.storeAt 4 v326 (.bool false)) w327 λw328=>
 rdW Tryz.prog (Instr.loadAt 23 v0) w328.drew λv329=>
 nilK v329 λv330=>rdP Tryz.prog (Instr.fieldAt 66 v330 1) λv331=>
 rdW Tryz.prog (Instr.loadAt 62 v331) w328.drew λv332=>
 rdW Tryz.prog (Instr.loadAt 92 v277) w328.drew λv333=>
 Ca Tryz.prog 125 #[v332,v333] w328.drew λv334 w335=>
 ru Tryz.prog (Instr.storeAt 26 v4 v334) w335 λw336=>
 KN275 w336)
 (KN275 w304)
def J117_7(v277:Value)(v0:Value)(v4:Value)(KN275:World→Prop)(s340:Value×Unit)(w341:World):Prop:=
 ∀_:Nat→Value,
 ifB s340.1
 (rv Tryz.prog (Instr.fieldAt 92 v277 3) w341 λv363 w364=>
 ru Tryz.prog (Instr.storeAt 4 v363 (.bool false)) w364 λw365=>
 rdW Tryz.prog (Instr.loadAt 23 v0) w365.drew λv366=>
 nilK v366 λv367=>rdP Tryz.prog (Instr.fieldAt 66 v367 1) λv368=>
 rdW Tryz.prog (Instr.loadAt 62 v368) w365.drew λv369=>
 rdW Tryz.prog (Instr.loadAt 92 v277) w365.drew λv370=>
 Ca Tryz.prog 125 #[v369,v370] w365.drew λv371 w372=>
 ru Tryz.prog (Instr.storeAt 26 v4 v371) w372 λw373=>
 KN275 w373)
 (KN275 w341)
def R117_8(v281:Value)(l292:Nat)(x293:List Value)(w294:World)(KN295:World→Prop)(KJ296:Code→World→Prop):Prop:=
 beginK l292 w294 λw297=>
 ru Tryz.prog (Instr.storeAt 4 v281 (.bool true)) w297 λw298=>
 KN295 w298
def A117_9(v277:Value)(v281:Value)(v2:Value)(v0:Value)(v4:Value)(KN275:World→Prop)(KJ276:Code→World→Prop)(mk299:List Nat)(pd300:Option Code)(w301:World):Prop:=
 afterK
 (λw302=>
 JoinW (S:=Value×Unit) (λJ305=>
 rv Tryz.prog (Instr.fieldAt 92 v277 3) w302 λv306 w307=>
 rv Tryz.prog (Instr.loadAt 4 v306) w307 λv308 w309=>
 ifB v308
 (rv Tryz.prog (Instr.loadAt 4 v281) w309 λv310 w311=>
 rv Tryz.prog (Op.unary .not v310) w311 λv312 w313=>
 ifB v312
 (rv Tryz.prog (Instr.fieldAt 32 v2 6) w313 λv314 w315=>
 rv Tryz.prog (Instr.loadAt 30 v314) w315 λv316 w317=>
 rv Tryz.prog (Instr.fieldAt 92 v277 0) w317 λv318 w319=>
 rv Tryz.prog (Instr.loadAt 35 v318) w319 λv320 w321=>
 Ca Tryz.prog 205 #[v316,v320] w321 λv322 w323=>
 rv Tryz.prog (Op.unary .not v322) w323 λv324 w325=>
 J305 (v324,()) w325)
 (J305 ((.bool false),()) w313))
 (J305 ((.bool false),()) w309))
 (J117_6 v277 v0 v4 KN275))
 (λw337=>
 KJ276 .ret w337)
 (λi339 w338=>
 bc (Nat.beq i339 4)
 (JoinW (S:=Value×Unit) (λJ342=>
 rv Tryz.prog (Instr.fieldAt 92 v277 3) w338 λv343 w344=>
 rv Tryz.prog (Instr.loadAt 4 v343) w344 λv345 w346=>
 ifB v345
 (rv Tryz.prog (Instr.loadAt 4 v281) w346 λv347 w348=>
 rv Tryz.prog (Op.unary .not v347) w348 λv349 w350=>
 ifB v349
 (rv Tryz.prog (Instr.fieldAt 32 v2 6) w350 λv351 w352=>
 rv Tryz.prog (Instr.loadAt 30 v351) w352 λv353 w354=>
 rv Tryz.prog (Instr.fieldAt 92 v277 0) w354 λv355 w356=>
 rv Tryz.prog (Instr.loadAt 35 v355) w356 λv357 w358=>
 Ca Tryz.prog 205 #[v353,v357] w358 λv359 w360=>
 rv Tryz.prog (Op.unary .not v359) w360 λv361 w362=>
 J342 (v361,()) w362)
 (J342 ((.bool false),()) w350))
 (J342 ((.bool false),()) w346))
 (J117_7 v277 v0 v4 KN275))
 (bc (Nat.beq i339 3)
 (KN275 w338)
 (KJ276 (.exit i339) w338))) pd300 w301
def R117_10(v0:Value)(v2:Value)(v4:Value)(l272:Nat)(x273:List Value)(w274:World)(KN275:World→Prop)(KJ276:Code→World→Prop):Prop:=
 rv Tryz.prog (Instr.alloc 92 true (.tuple #[])) w274 λv277 w278=>
 ru Tryz.prog (Instr.storeAt 92 v277 (x273.getD 0 undef)) w278 λw279=>
 beginK l272 w279 λw280=>
 rv Tryz.prog (Instr.alloc 4 true (.tuple #[])) w280 λv281 w282=>
 ru Tryz.prog (Instr.storeAt 4 v281 (.bool false)) w282 λw283=>
 rdW Tryz.prog (Instr.loadAt 23 v0) w283.drew λv284=>
 nilK v284 λv285=>rdP Tryz.prog (Instr.fieldAt 66 v285 1) λv286=>
 rdW Tryz.prog (Instr.loadAt 62 v286) w283.drew λv287=>
 rdP Tryz.prog (Instr.fieldAt 92 v277 0) λv288=>
 rdW Tryz.prog (Instr.loadAt 35 v288) w283.drew λv289=>
 Ca Tryz.prog 204 #[v287,v289] w283.drew λv290 w291=>
 RFW Tryz.prog (some l272) v290 w291 1 (R117_8 v281) (A117_9 v277 v281 v2 v0 v4 KN275 KJ276)
def A117_11(v2:Value)(v4:Value)(mk72:List Nat)(K:Kont)(mk374:List Nat)(pd375:Option Code)(w376:World):Prop:=
 afterK
 (λw377=>
 rdW Tryz.prog (Instr.loadAt 32 v2) w377.drew λv378=>
 rdW Tryz.prog (Instr.loadAt 26 v4) w377.drew λv379=>
 ru Tryz.prog (Instr.storeAt 32 v2 v378) w377.drew λw380=>
 Sem.run Tryz.prog (Instr.loadAt 26 v4) w380=.ok v379 w380∧
 (ru Tryz.prog (Instr.storeAt 26 v4 v379) w380 λw381=>
 retD (mk374++(mk72++[])) w381 λw382=>
 rdW Tryz.prog (Instr.loadAt 32 v2) w382 λv383=>
 rdW Tryz.prog (Instr.loadAt 26 v4) w382 λv384=>
 K (.tuple #[v383,v384]) w382))
 (λw385=>
 retD (mk374++(mk72++[])) w385 λw386=>
 rdW Tryz.prog (Instr.loadAt 32 v2) w386 λv387=>
 rdW Tryz.prog (Instr.loadAt 26 v4) w386 λv388=>
 K (.tuple #[v387,v388]) w386)
 (λi390 w389=>
 bc (Nat.beq i390 2)
 (rdW Tryz.prog (Instr.loadAt 32 v2) w389.drew λv391=>
 rdW Tryz.prog (Instr.loadAt 26 v4) w389.drew λv392=>
 ru Tryz.prog (Instr.storeAt 32 v2 v391) w389.drew λw393=>
 Sem.run Tryz.prog (Instr.loadAt 26 v4) w393=.ok v392 w393∧
 (ru Tryz.prog (Instr.storeAt 26 v4 v392) w393 λw394=>
 retD (mk374++(mk72++[])) w394 λw395=>
 rdW Tryz.prog (Instr.loadAt 32 v2) w395 λv396=>
 rdW Tryz.prog (Instr.loadAt 26 v4) w395 λv397=>
 K (.tuple #[v396,v397]) w395))
 (False)) pd375 w376
def R117_12(v0:Value)(v28:Value)(v4:Value)(v2:Value)(l40:Nat)(x41:List Value)(w42:World)(KN43:World→Prop)(KJ44:Code→World→Prop):Prop:=
 rx Tryz.prog (bigA 108) w42 λv45 w46=>
 rux Tryz.prog (bigU 108 v45 (x41.getD 0 undef)) w46 λw47=>
 beginK l40 w47 λw48=>
 rv Tryz.prog (Instr.fieldAt 108 v45 1) w48 λv49 w50=>
 rv Tryz.prog (Instr.loadAt 106 v49) w50 λv51 w52=>
 rv Tryz.prog (bin .neq 106 true v51 (.int .u8 3)) w52 λv53 w54=>
 ifB v53
 (rv Tryz.prog (Instr.loadAt 23 v0) w54 λv55 w56=>
 rx Tryz.prog (bigS 108 v45) w56 λv57 w58=>
 rv Tryz.prog (Instr.loadAt 298 v28) w58 λv59 w60=>
 Ca Tryz.prog 202 #[v55,v57,(.bool false),v59] w60 λv61 w62=>
 ru Tryz.prog (Instr.storeAt 26 v4 v61) w62 λw63=>
 rv Tryz.prog (Instr.loadAt 26 v4) w63 λv64 w65=>
 rv Tryz.prog (bin .neq 26 true v64 (.int .i64 0)) w65 λv66 w67=>
 ifB v66
 (rdW Tryz.prog (Instr.loadAt 32 v2) w67.drew λv68=>
 rdW Tryz.prog (Instr.loadAt 26 v4) w67.drew λv69=>
 ru Tryz.prog (Instr.storeAt 32 v2 v68) w67.drew λw70=>
 Sem.run Tryz.prog (Instr.loadAt 26 v4) w70=.ok v69 w70∧
 (ru Tryz.prog (Instr.storeAt 26 v4 v69) w70 λw71=>
 KJ44 .ret w71))
 (KN43 w67))
 (KN43 w54)
def A117_13(v0:Value)(v28:Value)(v2:Value)(v4:Value)(K:Kont)(mk72:List Nat)(pd73:Option Code)(w74:World):Prop:=
 afterK
 (λw75=>
 rv Tryz.prog (Instr.loadAt 23 v0) w75 λv76 w77=>
 rv Tryz.prog (Instr.loadAt 298 v28) w77 λv78 w79=>
 Ca Tryz.prog 203 #[v76,v78] w79 λv80 w81=>
 rv Tryz.prog (Instr.extract v80 0) w81 λv82 w83=>
 rv Tryz.prog (Instr.extract v80 1) w83 λv84 w85=>
 ru Tryz.prog (Instr.storeAt 32 v2 v82) w85 λw86=>
 ru Tryz.prog (Instr.storeAt 26 v4 v84) w86 λw87=>
 rv Tryz.prog (Instr.loadAt 26 v4) w87 λv88 w89=>
 rv Tryz.prog (bin .neq 26 true v88 (.int .i64 0)) w89 λv90 w91=>
 ifB v90
 (rdW Tryz.prog (Instr.loadAt 32 v2) w91.drew λv92=>
 rdW Tryz.prog (Instr.loadAt 26 v4) w91.drew λv93=>
 ru Tryz.prog (Instr.storeAt 32 v2 v92) w91.drew λw94=>
 Sem.run Tryz.prog (Instr.loadAt 26 v4) w94=.ok v93 w94∧
 (ru Tryz.prog (Instr.storeAt 26 v4 v93) w94 λw95=>
 retD (mk72++[]) w95 λw96=>
 rdW Tryz.prog (Instr.loadAt 32 v2) w96 λv97=>
 rdW Tryz.prog (Instr.loadAt 26 v4) w96 λv98=>
 K (.tuple #[v97,v98]) w96))
 (rv Tryz.prog (Instr.loadAt 23 v0) w91 λv99 w100=>
 nilK v99 λv101=>rv Tryz.prog (Instr.fieldAt 66 v101 1) w100 λv102 w103=>
 rv Tryz.prog (Instr.loadAt 62 v102) w103 λv104 w105=>
 Ca Tryz.prog 55 #[v104] w105 λv106 w107=>
 RFW Tryz.prog none v106 w107 1 (R117_4 v0 v2 v4) (A117_5 v2 v4 mk72 K)))
 (λw234=>
 retD (mk72++[]) w234 λw235=>
 rdW Tryz.prog (Instr.loadAt 32 v2) w235 λv236=>
 rdW Tryz.prog (Instr.loadAt 26 v4) w235 λv237=>
 K (.tuple #[v236,v237]) w235)
 (λi239 w238=>
 bc (Nat.beq i239 0)
 (rv Tryz.prog (Instr.loadAt 23 v0) w238 λv240 w241=>
 rv Tryz.prog (Instr.loadAt 298 v28) w241 λv242 w243=>
 Ca Tryz.prog 203 #[v240,v242] w243 λv244 w245=>
 rv Tryz.prog (Instr.extract v244 0) w245 λv246 w247=>
 rv Tryz.prog (Instr.extract v244 1) w247 λv248 w249=>
 ru Tryz.prog (Instr.storeAt 32 v2 v246) w249 λw250=>
 ru Tryz.prog (Instr.storeAt 26 v4 v248) w250 λw251=>
 rv Tryz.prog (Instr.loadAt 26 v4) w251 λv252 w253=>
 rv Tryz.prog (bin .neq 26 true v252 (.int .i64 0)) w253 λv254 w255=>
 ifB v254
 (rdW Tryz.prog (Instr.loadAt 32 v2) w255.drew λv256=>
 rdW Tryz.prog (Instr.loadAt 26 v4) w255.drew λv257=>
 ru Tryz.prog (Instr.storeAt 32 v2 v256) w255.drew λw258=>
 Sem.run Tryz.prog (Instr.loadAt 26 v4) w258=.ok v257 w258∧
 (ru Tryz.prog (Instr.storeAt 26 v4 v257) w258 λw259=>
 retD (mk72++[]) w259 λw260=>
 rdW Tryz.prog (Instr.loadAt 32 v2) w260 λv261=>
 rdW Tryz.prog (Instr.loadAt 26 v4) w260 λv262=>
 K (.tuple #[v261,v262]) w260))
 (rv Tryz.prog (Instr.loadAt 23 v0) w255 λv263 w264=>
 nilK v263 λv265=>rv Tryz.prog (Instr.fieldAt 66 v265 1) w264 λv266 w267=>
 rv Tryz.prog (Instr.loadAt 62 v266) w267 λv268 w269=>
 Ca Tryz.prog 55 #[v268] w269 λv270 w271=>
 RFW Tryz.prog none v270 w271 1 (R117_10 v0 v2 v4) (A117_11 v2 v4 mk72 K)))
 (False)) pd73 w74
def F117(a0:Value)(w:World)(K:Kont):Prop:=
 rv Tryz.prog (Instr.box 23 a0) w λv0 w1=>
 rv Tryz.prog (Instr.alloc 32 true (.tuple #[])) w1 λv2 w3=>
 rv Tryz.prog (Instr.alloc 26 true (.tuple #[])) w3 λv4 w5=>
 rv Tryz.prog (Instr.loadAt 23 v0) w5 λv6 w7=>
 nilK v6 λv8=>rv Tryz.prog (Instr.fieldAt 66 v8 0) w7 λv9 w10=>
 rv Tryz.prog (Instr.loadAt 61 v9) w10 λv11 w12=>
 Ca Tryz.prog 201 #[v11] w12 λv13 w14=>
 ru Tryz.prog (Instr.storeAt 26 v4 v13) w14 λw15=>
 rv Tryz.prog (Instr.loadAt 26 v4) w15 λv16 w17=>
 rv Tryz.prog (bin .neq 26 true v16 (.int .i64 0)) w17 λv18 w19=>
 ifB v18
 (rdW Tryz.prog (Instr.loadAt 32 v2) w19.drew λv20=>
 rdW Tryz.prog (Instr.loadAt 26 v4) w19.drew λv21=>
 ru Tryz.prog (Instr.storeAt 32 v2 v20) w19.drew λw22=>
 Sem.run Tryz.prog (Instr.loadAt 26 v4) w22=.ok v21 w22∧
 (ru Tryz.prog (Instr.storeAt 26 v4 v21) w22 λw23=>
 rdW Tryz.prog (Instr.loadAt 32 v2) w23 λv24=>
 rdW Tryz.prog (Instr.loadAt 26 v4) w23 λv25=>
 K (.tuple #[v24,v25]) w23))
 (rv Tryz.prog (Instr.makeMap 298 none) w19 λv26 w27=>
 rv Tryz.prog (Instr.alloc 298 true (.tuple #[])) w27 λv28 w29=>
 ru Tryz.prog (Instr.storeAt 298 v28 v26) w29 λw30=>
 rv Tryz.prog (Instr.loadAt 23 v0) w30 λv31 w32=>
 nilK v31 λv33=>rv Tryz.prog (Instr.fieldAt 66 v33 0) w32 λv34 w35=>
 rv Tryz.prog (Instr.loadAt 61 v34) w35 λv36 w37=>
 Ca Tryz.prog 47 #[v36] w37 λv38 w39=>
 RFW Tryz.prog none v38 w39 1 (R117_12 v0 v28 v4 v2) (A117_13 v0 v28 v2 v4 K))
theorem F117_eq(a0:Value)(w:World)(K:Kont):vcFnJ Tryz.prog Tryz.f117 [a0] w K=F117 a0 w K:=by kernel_rfl
theorem F117_ok:okF Tryz.prog Tryz.f117 1=true:=by kernel_rfl
theorem ca117{a0:Value}{w:World}{K:Kont}(h:F117 a0 w K):Ca Tryz.prog 117 #[a0] w K:=
 ca_of_vcJ Tryz.noNum Tryz.func117 F117_ok (by rw[F117_eq];exact h)
def L118_0(v101:Value)(v99:Value)(v0:Value)(a0:Value)(a1:Value)(K:Kont)(s103:Value×Unit)(w104:World)(K105:Value×Unit→World→Prop):Prop:=
 ∀_:Nat→Value,
 rv Tryz.prog (bin .lss 3 false s103.1 v101) w104 λv106 w107=>
 ifB v106
 (rv Tryz.prog (Instr.indexAt 133 v99 s103.1) w107 λv108 w109=>
 rv Tryz.prog (Instr.loadAt 117 v108) w109 λv110 w111=>
 rv Tryz.prog (Instr.alloc 117 true (.tuple #[])) w111 λv112 w113=>
 ru Tryz.prog (Instr.storeAt 117 v112 v110) w113 λw114=>
 rv Tryz.prog (Instr.fieldAt 32 v0 5) w114 λv115 w116=>
 rv Tryz.prog (Instr.loadAt 29 v115) w116 λv117 w118=>
 rv Tryz.prog (Instr.fieldAt 117 v112 0) w118 λv119 w120=>
 rv Tryz.prog (Instr.loadAt 27 v119) w120 λv121 w122=>
 rx Tryz.prog (xLit 29 1 [(0,v121)]) w122 λv123 w124=>
 rx Tryz.prog (xAppend #[29,29] 29 [v117,v123]) w124 λv125 w126=>
 rv Tryz.prog (Instr.fieldAt 32 v0 5) w126 λv127 w128=>
 ru Tryz.prog (Instr.storeAt 29 v127 v125) w128 λw129=>
 rv Tryz.prog (bin .add 3 true s103.1 (.int .i64 1)) w129 λv130 w131=>
 K105 (v130,()) w131)
 (nilK a0 λv132=>rv Tryz.prog (Instr.fieldAt 66 v132 3) w107 λv133 w134=>
 rv Tryz.prog (Instr.loadAt 64 v133) w134 λv135 w136=>
 rx Tryz.prog (xDelete #[64,35] 0 [v135,a1]) w136 λv137 w138=>
 rv Tryz.prog (Instr.loadAt 32 v0) w138 λv139 w140=>
 ru Tryz.prog (Instr.storeAt 32 v0 v139) w140 λw141=>
 rdW Tryz.prog (Instr.loadAt 32 v0) w141 λv142=>
 K (.tuple #[v142,(.int .i64 0)]) w141)
def L118_1(v63:Value)(v61:Value)(v0:Value)(a0:Value)(a1:Value)(K:Kont)(s65:Value×Unit)(w66:World)(K67:Value×Unit→World→Prop):Prop:=
 ∀_:Nat→Value,
 rv Tryz.prog (bin .lss 3 false s65.1 v63) w66 λv68 w69=>
 ifB v68
 (rv Tryz.prog (Instr.indexAt 133 v61 s65.1) w69 λv70 w71=>
 rv Tryz.prog (Instr.loadAt 117 v70) w71 λv72 w73=>
 rv Tryz.prog (Instr.alloc 117 true (.tuple #[])) w73 λv74 w75=>
 ru Tryz.prog (Instr.storeAt 117 v74 v72) w75 λw76=>
 rv Tryz.prog (Instr.fieldAt 32 v0 5) w76 λv77 w78=>
 rv Tryz.prog (Instr.loadAt 29 v77) w78 λv79 w80=>
 rv Tryz.prog (Instr.fieldAt 117 v74 0) w80 λv81 w82=>
 rv Tryz.prog (Instr.loadAt 27 v81) w82 λv83 w84=>
 rx Tryz.prog (xLit 29 1 [(0,v83)]) w84 λv85 w86=>
 rx Tryz.prog (xAppend #[29,29] 29 [v79,v85]) w86 λv87 w88=>
 rv Tryz.prog (Instr.fieldAt 32 v0 5) w88 λv89 w90=>
 ru Tryz.prog (Instr.storeAt 29 v89 v87) w90 λw91=>
 rv Tryz.prog (bin .add 3 true s65.1 (.int .i64 1)) w91 λv92 w93=>
 K67 (v92,()) w93)
 (nilK a0 λv94=>rv Tryz.prog (Instr.fieldAt 66 v94 3) w69 λv95 w96=>
 rv Tryz.prog (Instr.loadAt 64 v95) w96 λv97 w98=>
 rx Tryz.prog (xLook 64 v97 a1 false) w98 λv99 w100=>
 rn Tryz.prog (builtin .len #[133] 3 #[false] #[v99]) w100 λv101 w102=>
 LoopW (S:=Value×Unit) (L118_0 v101 v99 v0 a0 a1 K) ((.int .i64 0),()) w102)
def F118(a0 a1:Value)(w:World)(K:Kont):Prop:=
 rv Tryz.prog (Instr.alloc 32 true (.tuple #[])) w λv0 w1=>
 nilK a0 λv2=>rv Tryz.prog (Instr.fieldAt 66 v2 0) w1 λv3 w4=>
 rv Tryz.prog (Instr.loadAt 61 v3) w4 λv5 w6=>
 Ca Tryz.prog 123 #[v5,a1] w6 λv7 w8=>
 rv Tryz.prog (Instr.extract v7 0) w8 λv9 w10=>
 rv Tryz.prog (Instr.extract v7 1) w10 λv11 w12=>
 rx Tryz.prog (bigA 108) w12 λv13 w14=>
 rux Tryz.prog (bigU 108 v13 v9) w14 λw15=>
 nilK a0 λv16=>rv Tryz.prog (Instr.fieldAt 66 v16 0) w15 λv17 w18=>
 rv Tryz.prog (Instr.loadAt 61 v17) w18 λv19 w20=>
 Ca Tryz.prog 206 #[v19,a1] w20 λv21 w22=>
 rv Tryz.prog (bin .neq 26 true v21 (.int .i64 0)) w22 λv23 w24=>
 ifB v23
 (rv Tryz.prog (Instr.loadAt 32 v0) w24 λv25 w26=>
 ru Tryz.prog (Instr.storeAt 32 v0 v25) w26 λw27=>
 rdW Tryz.prog (Instr.loadAt 32 v0) w27 λv28=>
 K (.tuple #[v28,v21]) w27)
 (rv Tryz.prog (Instr.makeMap 298 none) w24 λv29 w30=>
 rx Tryz.prog (bigS 108 v13) w30 λv31 w32=>
 Ca Tryz.prog 202 #[a0,v31,(.bool true),v29] w32 λv33 w34=>
 rv Tryz.prog (bin .neq 26 true v33 (.int .i64 0)) w34 λv35 w36=>
 ifB v35
 (rv Tryz.prog (Instr.loadAt 32 v0) w36 λv37 w38=>
 ru Tryz.prog (Instr.storeAt 32 v0 v37) w38 λw39=>
 rdW Tryz.prog (Instr.loadAt 32 v0) w39 λv40=>
 K (.tuple #[v40,v33]) w39)
 (Ca Tryz.prog 203 #[a0,v29] w36 λv41 w42=>
 rv Tryz.prog (Instr.extract v41 0) w42 λv43 w44=>
 rv Tryz.prog (Instr.extract v41 1) w44 λv45 w46=>
 ru Tryz.prog (Instr.storeAt 32 v0 v43) w46 λw47=>
 rv Tryz.prog (bin .neq 26 true v45 (.int .i64 0)) w47 λv48 w49=>
 ifB v48
 (rv Tryz.prog (Instr.loadAt 32 v0) w49 λv50 w51=>
 ru Tryz.prog (Instr.storeAt 32 v0 v50) w51 λw52=>
 rdW Tryz.prog (Instr.loadAt 32 v0) w52 λv53=>
 K (.tuple #[v53,v45]) w52)
 (nilK a0 λv54=>rv Tryz.prog (Instr.fieldAt 66 v54 2) w49 λv55 w56=>
 rv Tryz.prog (Instr.loadAt 63 v55) w56 λv57 w58=>
 rx Tryz.prog (xLook 63 v57 a1 false) w58 λv59 w60=>
 Ca Tryz.prog 207 #[v59,(.int .u32 0)] w60 λv61 w62=>
 rn Tryz.prog (builtin .len #[133] 3 #[false] #[v61]) w62 λv63 w64=>
 LoopW (S:=Value×Unit) (L118_1 v63 v61 v0 a0 a1 K) ((.int .i64 0),()) w64)))
theorem F118_eq(a0 a1:Value)(w:World)(K:Kont):vcFnJ Tryz.prog Tryz.f118 [a0,a1] w K=F118 a0 a1 w K:=by kernel_rfl
theorem F118_ok:okF Tryz.prog Tryz.f118 2=true:=by kernel_rfl
theorem ca118{a0 a1:Value}{w:World}{K:Kont}(h:F118 a0 a1 w K):Ca Tryz.prog 118 #[a0,a1] w K:=
 ca_of_vcJ Tryz.noNum Tryz.func118 F118_ok (by rw[F118_eq];exact h)
def L14_0(v198:Value)(v197:Value)(s30:Value×Unit)(v105:Value)(KN93:World→Prop)(s199:Value×Unit)(w200:World)(K201:Value×Unit→World→Prop):Prop:=
 ∀_:Nat→Value,
 rv Tryz.prog (bin .lss 3 false s199.1 v198) w200 λv202 w203=>
 ifB v202
 (rv Tryz.prog (Instr.indexAt 133 v197 s199.1) w203 λv204 w205=>
 rv Tryz.prog (Instr.loadAt 117 v204) w205 λv206 w207=>
 rv Tryz.prog (Instr.alloc 117 true (.tuple #[])) w207 λv208 w209=>
 ru Tryz.prog (Instr.storeAt 117 v208 v206) w209 λw210=>
 rv Tryz.prog (Instr.fieldAt 49 s30.1 7) w210 λv211 w212=>
 rv Tryz.prog (Instr.loadAt 47 v211) w212 λv213 w214=>
 rv Tryz.prog (Instr.loadAt 35 v105) w214 λv215 w216=>
 rv Tryz.prog (Instr.loadAt 117 v208) w216 λv217 w218=>
 rv Tryz.prog (Instr.build 119 #[(0,v215),(1,v217)]) w218 λv219 w220=>
 rx Tryz.prog (xLit 47 1 [(0,v219)]) w220 λv221 w222=>
 rx Tryz.prog (xAppend #[47,47] 47 [v213,v221]) w222 λv223 w224=>
 rv Tryz.prog (Instr.fieldAt 49 s30.1 7) w224 λv225 w226=>
 ru Tryz.prog (Instr.storeAt 47 v225 v223) w226 λw227=>
 rv Tryz.prog (bin .add 3 true s199.1 (.int .i64 1)) w227 λv228 w229=>
 K201 (v228,()) w229)
 (KN93 w203)
def L14_1(v239:Value)(v238:Value)(s30:Value×Unit)(v105:Value)(KN93:World→Prop)(s240:Value×Unit)(w241:World)(K242:Value×Unit→World→Prop):Prop:=
 ∀_:Nat→Value,
 rv Tryz.prog (bin .lss 3 false s240.1 v239) w241 λv243 w244=>
 ifB v243
 (rv Tryz.prog (Instr.indexAt 133 v238 s240.1) w244 λv245 w246=>
 rv Tryz.prog (Instr.loadAt 117 v245) w246 λv247 w248=>
 rv Tryz.prog (Instr.alloc 117 true (.tuple #[])) w248 λv249 w250=>
 ru Tryz.prog (Instr.storeAt 117 v249 v247) w250 λw251=>
 rv Tryz.prog (Instr.fieldAt 49 s30.1 7) w251 λv252 w253=>
 rv Tryz.prog (Instr.loadAt 47 v252) w253 λv254 w255=>
 rv Tryz.prog (Instr.loadAt 35 v105) w255 λv256 w257=>
 rv Tryz.prog (Instr.loadAt 117 v249) w257 λv258 w259=>
 rv Tryz.prog (Instr.build 119 #[(0,v256),(1,v258)]) w259 λv260 w261=>
 rx Tryz.prog (xLit 47 1 [(0,v260)]) w261 λv262 w263=>
 rx Tryz.prog (xAppend #[47,47] 47 [v254,v262]) w263 λv264 w265=>
 rv Tryz.prog (Instr.fieldAt 49 s30.1 7) w265 λv266 w267=>
 ru Tryz.prog (Instr.storeAt 47 v266 v264) w267 λw268=>
 rv Tryz.prog (bin .add 3 true s240.1 (.int .i64 1)) w268 λv269 w270=>
 K242 (v269,()) w270)
 (KN93 w244)
def R14_2(s30:Value×Unit)(v105:Value)(l162:Nat)(x163:List Value)(w164:World)(KN165:World→Prop)(KJ166:Code→World→Prop):Prop:=
 rv Tryz.prog (Instr.alloc 117 true (.tuple #[])) w164 λv167 w168=>
 ru Tryz.prog (Instr.storeAt 117 v167 (x163.getD 0 undef)) w168 λw169=>
 beginK l162 w169 λw170=>
 rv Tryz.prog (Instr.fieldAt 49 s30.1 6) w170 λv171 w172=>
 rv Tryz.prog (Instr.loadAt 47 v171) w172 λv173 w174=>
 rv Tryz.prog (Instr.loadAt 35 v105) w174 λv175 w176=>
 rv Tryz.prog (Instr.loadAt 117 v167) w176 λv177 w178=>
 rv Tryz.prog (Instr.build 119 #[(0,v175),(1,v177)]) w178 λv179 w180=>
 rx Tryz.prog (xLit 47 1 [(0,v179)]) w180 λv181 w182=>
 rx Tryz.prog (xAppend #[47,47] 47 [v173,v181]) w182 λv183 w184=>
 rv Tryz.prog (Instr.fieldAt 49 s30.1 6) w184 λv185 w186=>
 ru Tryz.prog (Instr.storeAt 47 v185 v183) w186 λw187=>
 KN165 w187
def A14_3(v0:Value)(v105:Value)(s30:Value×Unit)(KN93:World→Prop)(KJ94:Code→World→Prop)(mk188:List Nat)(pd189:Option Code)(w190:World):Prop:=
 afterK
 (λw191=>
 rdW Tryz.prog (Instr.loadAt 23 v0) w191.drew λv192=>
 nilK v192 λv193=>rdP Tryz.prog (Instr.fieldAt 66 v193 3) λv194=>
 rdW Tryz.prog (Instr.loadAt 64 v194) w191.drew λv195=>
 rdW Tryz.prog (Instr.loadAt 35 v105) w191.drew λv196=>
 rdX Tryz.prog (xLook 64 v195 v196 false) w191.drew λv197=>
 rdW Tryz.prog (Builtin.len_ #[133] 3 #[v197]) w191.drew λv198=>
 LoopW (S:=Value×Unit) (L14_0 v198 v197 s30 v105 KN93) ((.int .i64 0),()) w191.drew)
 (λw230=>
 KJ94 .ret w230)
 (λi232 w231=>
 bc (Nat.beq i232 4)
 (rdW Tryz.prog (Instr.loadAt 23 v0) w231.drew λv233=>
 nilK v233 λv234=>rdP Tryz.prog (Instr.fieldAt 66 v234 3) λv235=>
 rdW Tryz.prog (Instr.loadAt 64 v235) w231.drew λv236=>
 rdW Tryz.prog (Instr.loadAt 35 v105) w231.drew λv237=>
 rdX Tryz.prog (xLook 64 v236 v237 false) w231.drew λv238=>
 rdW Tryz.prog (Builtin.len_ #[133] 3 #[v238]) w231.drew λv239=>
 LoopW (S:=Value×Unit) (L14_1 v239 v238 s30 v105 KN93) ((.int .i64 0),()) w231.drew)
 (bc (Nat.beq i232 1)
 (KN93 w231)
 (KJ94 (.exit i232) w231))) pd189 w190
def L14_4(v318:Value)(v317:Value)(s30:Value×Unit)(v105:Value)(KN93:World→Prop)(s319:Value×Unit)(w320:World)(K321:Value×Unit→World→Prop):Prop:=
 ∀_:Nat→Value,
 rv Tryz.prog (bin .lss 3 false s319.1 v318) w320 λv322 w323=>
 ifB v322
 (rv Tryz.prog (Instr.indexAt 133 v317 s319.1) w323 λv324 w325=>
 rv Tryz.prog (Instr.loadAt 117 v324) w325 λv326 w327=>
 rv Tryz.prog (Instr.alloc 117 true (.tuple #[])) w327 λv328 w329=>
 ru Tryz.prog (Instr.storeAt 117 v328 v326) w329 λw330=>
 rv Tryz.prog (Instr.fieldAt 49 s30.1 7) w330 λv331 w332=>
 rv Tryz.prog (Instr.loadAt 47 v331) w332 λv333 w334=>
 rv Tryz.prog (Instr.loadAt 35 v105) w334 λv335 w336=>
 rv Tryz.prog (Instr.loadAt 117 v328) w336 λv337 w338=>
 rv Tryz.prog (Instr.build 119 #[(0,v335),(1,v337)]) w338 λv339 w340=>
 rx Tryz.prog (xLit 47 1 [(0,v339)]) w340 λv341 w342=>
 rx Tryz.prog (xAppend #[47,47] 47 [v333,v341]) w342 λv343 w344=>
 rv Tryz.prog (Instr.fieldAt 49 s30.1 7) w344 λv345 w346=>
 ru Tryz.prog (Instr.storeAt 47 v345 v343) w346 λw347=>
 rv Tryz.prog (bin .add 3 true s319.1 (.int .i64 1)) w347 λv348 w349=>
 K321 (v348,()) w349)
 (KN93 w323)
def L14_5(v359:Value)(v358:Value)(s30:Value×Unit)(v105:Value)(KN93:World→Prop)(s360:Value×Unit)(w361:World)(K362:Value×Unit→World→Prop):Prop:=
 ∀_:Nat→Value,
 rv Tryz.prog (bin .lss 3 false s360.1 v359) w361 λv363 w364=>
 ifB v363
 (rv Tryz.prog (Instr.indexAt 133 v358 s360.1) w364 λv365 w366=>
 rv Tryz.prog (Instr.loadAt 117 v365) w366 λv367 w368=>
 rv Tryz.prog (Instr.alloc 117 true (.tuple #[])) w368 λv369 w370=>
 ru Tryz.prog (Instr.storeAt 117 v369 v367) w370 λw371=>
 rv Tryz.prog (Instr.fieldAt 49 s30.1 7) w371 λv372 w373=>
 rv Tryz.prog (Instr.loadAt 47 v372) w373 λv374 w375=>
 rv Tryz.prog (Instr.loadAt 35 v105) w375 λv376 w377=>
 rv Tryz.prog (Instr.loadAt 117 v369) w377 λv378 w379=>
 rv Tryz.prog (Instr.build 119 #[(0,v376),(1,v378)]) w379 λv380 w381=>
 rx Tryz.prog (xLit 47 1 [(0,v380)]) w381 λv382 w383=>
 rx Tryz.prog (xAppend #[47,47] 47 [v374,v382]) w383 λv384 w385=>
 rv Tryz.prog (Instr.fieldAt 49 s30.1 7) w385 λv386 w387=>
 ru Tryz.prog (Instr.storeAt 47 v386 v384) w387 λw388=>
 rv Tryz.prog (bin .add 3 true s360.1 (.int .i64 1)) w388 λv389 w390=>
 K362 (v389,()) w390)
 (KN93 w364)
def R14_6(s30:Value×Unit)(v105:Value)(l282:Nat)(x283:List Value)(w284:World)(KN285:World→Prop)(KJ286:Code→World→Prop):Prop:=
 rv Tryz.prog (Instr.alloc 117 true (.tuple #[])) w284 λv287 w288=>
 ru Tryz.prog (Instr.storeAt 117 v287 (x283.getD 0 undef)) w288 λw289=>
 beginK l282 w289 λw290=>
 rv Tryz.prog (Instr.fieldAt 49 s30.1 6) w290 λv291 w292=>
 rv Tryz.prog (Instr.loadAt 47 v291) w292 λv293 w294=>
 rv Tryz.prog (Instr.loadAt 35 v105) w294 λv295 w296=>
 rv Tryz.prog (Instr.loadAt 117 v287) w296 λv297 w298=>
 rv Tryz.prog (Instr.build 119 #[(0,v295),(1,v297)]) w298 λv299 w300=>
 rx Tryz.prog (xLit 47 1 [(0,v299)]) w300 λv301 w302=>
 rx Tryz.prog (xAppend #[47,47] 47 [v293,v301]) w302 λv303 w304=>
 rv Tryz.prog (Instr.fieldAt 49 s30.1 6) w304 λv305 w306=>
 ru Tryz.prog (Instr.storeAt 47 v305 v303) w306 λw307=>
 KN285 w307
def A14_7(v0:Value)(v105:Value)(s30:Value×Unit)(KN93:World→Prop)(KJ94:Code→World→Prop)(mk308:List Nat)(pd309:Option Code)(w310:World):Prop:=
 afterK
 (λw311=>
 rdW Tryz.prog (Instr.loadAt 23 v0) w311.drew λv312=>
 nilK v312 λv313=>rdP Tryz.prog (Instr.fieldAt 66 v313 3) λv314=>
 rdW Tryz.prog (Instr.loadAt 64 v314) w311.drew λv315=>
 rdW Tryz.prog (Instr.loadAt 35 v105) w311.drew λv316=>
 rdX Tryz.prog (xLook 64 v315 v316 false) w311.drew λv317=>
 rdW Tryz.prog (Builtin.len_ #[133] 3 #[v317]) w311.drew λv318=>
 LoopW (S:=Value×Unit) (L14_4 v318 v317 s30 v105 KN93) ((.int .i64 0),()) w311.drew)
 (λw350=>
 KJ94 .ret w350)
 (λi352 w351=>
 bc (Nat.beq i352 4)
 (rdW Tryz.prog (Instr.loadAt 23 v0) w351.drew λv353=>
 nilK v353 λv354=>rdP Tryz.prog (Instr.fieldAt 66 v354 3) λv355=>
 rdW Tryz.prog (Instr.loadAt 64 v355) w351.drew λv356=>
 rdW Tryz.prog (Instr.loadAt 35 v105) w351.drew λv357=>
 rdX Tryz.prog (xLook 64 v356 v357 false) w351.drew λv358=>
 rdW Tryz.prog (Builtin.len_ #[133] 3 #[v358]) w351.drew λv359=>
 LoopW (S:=Value×Unit) (L14_5 v359 v358 s30 v105 KN93) ((.int .i64 0),()) w351.drew)
 (bc (Nat.beq i352 1)
 (KN93 w351)
 (KJ94 (.exit i352) w351))) pd309 w310
def R14_8(s30:Value×Unit)(l128:Nat)(x129:List Value)(w130:World)(KN131:World→Prop)(KJ132:Code→World→Prop):Prop:=
 rv Tryz.prog (Instr.alloc 112 true (.tuple #[])) w130 λv133 w134=>
 ru Tryz.prog (Instr.storeAt 112 v133 (x129.getD 0 undef)) w134 λw135=>
 beginK l128 w135 λw136=>
 rv Tryz.prog (Instr.fieldAt 49 s30.1 5) w136 λv137 w138=>
 rv Tryz.prog (Instr.loadAt 46 v137) w138 λv139 w140=>
 rv Tryz.prog (Instr.loadAt 112 v133) w140 λv141 w142=>
 rx Tryz.prog (xLit 46 1 [(0,v141)]) w142 λv143 w144=>
 rx Tryz.prog (xAppend #[46,46] 46 [v139,v143]) w144 λv145 w146=>
 rv Tryz.prog (Instr.fieldAt 49 s30.1 5) w146 λv147 w148=>
 ru Tryz.prog (Instr.storeAt 46 v147 v145) w148 λw149=>
 KN131 w149
def A14_9(v0:Value)(v105:Value)(l90:Nat)(s30:Value×Unit)(KN93:World→Prop)(KJ94:Code→World→Prop)(mk150:List Nat)(pd151:Option Code)(w152:World):Prop:=
 afterK
 (λw153=>
 rdW Tryz.prog (Instr.loadAt 23 v0) w153.drew λv154=>
 nilK v154 λv155=>rdP Tryz.prog (Instr.fieldAt 66 v155 2) λv156=>
 rdW Tryz.prog (Instr.loadAt 63 v156) w153.drew λv157=>
 rdW Tryz.prog (Instr.loadAt 35 v105) w153.drew λv158=>
 rdX Tryz.prog (xLook 63 v157 v158 false) w153.drew λv159=>
 Ca Tryz.prog 57 #[v159] w153.drew λv160 w161=>
 RFW Tryz.prog (some l90) v160 w161 1 (R14_2 s30 v105) (A14_3 v0 v105 s30 KN93 KJ94))
 (λw271=>
 KJ94 .ret w271)
 (λi273 w272=>
 bc (Nat.beq i273 2)
 (rdW Tryz.prog (Instr.loadAt 23 v0) w272.drew λv274=>
 nilK v274 λv275=>rdP Tryz.prog (Instr.fieldAt 66 v275 2) λv276=>
 rdW Tryz.prog (Instr.loadAt 63 v276) w272.drew λv277=>
 rdW Tryz.prog (Instr.loadAt 35 v105) w272.drew λv278=>
 rdX Tryz.prog (xLook 63 v277 v278 false) w272.drew λv279=>
 Ca Tryz.prog 57 #[v279] w272.drew λv280 w281=>
 RFW Tryz.prog (some l90) v280 w281 1 (R14_6 s30 v105) (A14_7 v0 v105 s30 KN93 KJ94))
 (bc (Nat.beq i273 1)
 (KN93 w272)
 (KJ94 (.exit i273) w272))) pd151 w152
def R14_10(s30:Value×Unit)(v0:Value)(l90:Nat)(x91:List Value)(w92:World)(KN93:World→Prop)(KJ94:Code→World→Prop):Prop:=
 rx Tryz.prog (bigA 108) w92 λv95 w96=>
 rux Tryz.prog (bigU 108 v95 (x91.getD 0 undef)) w96 λw97=>
 beginK l90 w97 λw98=>
 rv Tryz.prog (Instr.fieldAt 108 v95 0) w98 λv99 w100=>
 rv Tryz.prog (Instr.fieldAt 38 v99 0) w100 λv101 w102=>
 rv Tryz.prog (Instr.loadAt 35 v101) w102 λv103 w104=>
 rv Tryz.prog (Instr.alloc 35 true (.tuple #[])) w104 λv105 w106=>
 ru Tryz.prog (Instr.storeAt 35 v105 v103) w106 λw107=>
 rv Tryz.prog (Instr.fieldAt 49 s30.1 4) w107 λv108 w109=>
 rv Tryz.prog (Instr.loadAt 45 v108) w109 λv110 w111=>
 rx Tryz.prog (bigS 108 v95) w111 λv112 w113=>
 rx Tryz.prog (xLit 45 1 [(0,v112)]) w113 λv114 w115=>
 rx Tryz.prog (xAppend #[45,45] 45 [v110,v114]) w115 λv116 w117=>
 rv Tryz.prog (Instr.fieldAt 49 s30.1 4) w117 λv118 w119=>
 ru Tryz.prog (Instr.storeAt 45 v118 v116) w119 λw120=>
 rdW Tryz.prog (Instr.loadAt 23 v0) w120.drew λv121=>
 nilK v121 λv122=>rdP Tryz.prog (Instr.fieldAt 66 v122 1) λv123=>
 rdW Tryz.prog (Instr.loadAt 62 v123) w120.drew λv124=>
 rdW Tryz.prog (Instr.loadAt 35 v105) w120.drew λv125=>
 Ca Tryz.prog 56 #[v124,v125] w120.drew λv126 w127=>
 RFW Tryz.prog (some l90) v126 w127 1 (R14_8 s30) (A14_9 v0 v105 l90 s30 KN93 KJ94)
def A14_11(s30:Value×Unit)(v2:Value)(K:Kont)(mk391:List Nat)(pd392:Option Code)(w393:World):Prop:=
 afterK
 (λw394=>
 rv Tryz.prog (Instr.loadAt 49 s30.1) w394 λv395 w396=>
 ru Tryz.prog (Instr.storeAt 49 v2 v395) w396 λw397=>
 retD (mk391++[]) w397 λw398=>
 rdW Tryz.prog (Instr.loadAt 49 v2) w398 λv399=>
 K v399 w398)
 (λw400=>
 retD (mk391++[]) w400 λw401=>
 rdW Tryz.prog (Instr.loadAt 49 v2) w401 λv402=>
 K v402 w401)
 (λi404 w403=>
 bc (Nat.beq i404 0)
 (rv Tryz.prog (Instr.loadAt 49 s30.1) w403 λv405 w406=>
 ru Tryz.prog (Instr.storeAt 49 v2 v405) w406 λw407=>
 retD (mk391++[]) w407 λw408=>
 rdW Tryz.prog (Instr.loadAt 49 v2) w408 λv409=>
 K v409 w408)
 (False)) pd392 w393
def J14_12(v0:Value)(v2:Value)(K:Kont)(s30:Value×Unit)(w31:World):Prop:=
 ∀_:Nat→Value,
 rv Tryz.prog (Instr.loadAt 23 v0) w31 λv81 w82=>
 nilK v81 λv83=>rv Tryz.prog (Instr.fieldAt 66 v83 0) w82 λv84 w85=>
 rv Tryz.prog (Instr.loadAt 61 v84) w85 λv86 w87=>
 Ca Tryz.prog 47 #[v86] w87 λv88 w89=>
 RFW Tryz.prog none v88 w89 1 (R14_10 s30 v0) (A14_11 s30 v2 K)
def F14(a0:Value)(w:World)(K:Kont):Prop:=
 rv Tryz.prog (Instr.box 23 a0) w λv0 w1=>
 rv Tryz.prog (Instr.alloc 49 true (.tuple #[])) w1 λv2 w3=>
 rv Tryz.prog (Instr.loadAt 23 v0) w3 λv4 w5=>
 Ca Tryz.prog 40 #[v4] w5 λv6 w7=>
 rv Tryz.prog (Op.unary .not v6) w7 λv8 w9=>
 ifB v8
 (rv Tryz.prog (Instr.build 49 #[]) w9 λv10 w11=>
 ru Tryz.prog (Instr.storeAt 49 v2 v10) w11 λw12=>
 rdW Tryz.prog (Instr.loadAt 49 v2) w12 λv13=>
 K v13 w12)
 (rv Tryz.prog (Instr.loadAt 23 v0) w9 λv14 w15=>
 nilK v14 λv16=>rv Tryz.prog (Instr.fieldAt 66 v16 1) w15 λv17 w18=>
 rv Tryz.prog (Instr.loadAt 62 v17) w18 λv19 w20=>
 Ca Tryz.prog 52 #[v19,(.int .u32 0)] w20 λv21 w22=>
 rv Tryz.prog (Instr.extract v21 0) w22 λv23 w24=>
 rv Tryz.prog (Instr.extract v21 1) w24 λv25 w26=>
 rv Tryz.prog (Instr.alloc 92 true (.tuple #[])) w26 λv27 w28=>
 ru Tryz.prog (Instr.storeAt 92 v27 v23) w28 λw29=>
 JoinW (S:=Value×Unit) (λJ32=>
 rdW Tryz.prog (Instr.loadAt 23 v0) w29.drew λv33=>
 nilK v33 λv34=>rdP Tryz.prog (Instr.fieldAt 66 v34 0) λv35=>
 rdW Tryz.prog (Instr.loadAt 61 v35) w29.drew λv36=>
 rdW Tryz.prog (Instr.loadAt 23 v0) w29.drew λv37=>
 nilK v37 λv38=>rdP Tryz.prog (Instr.fieldAt 66 v38 4) λv39=>
 rdW Tryz.prog (Instr.loadAt 27 v39) w29.drew λv40=>
 rdP Tryz.prog (Instr.fieldAt 92 v27 1) λv41=>
 rdW Tryz.prog (Instr.loadAt 2 v41) w29.drew λv42=>
 rdW Tryz.prog (Instr.loadAt 23 v0) w29.drew λv43=>
 nilK v43 λv44=>rdP Tryz.prog (Instr.fieldAt 66 v44 1) λv45=>
 rdW Tryz.prog (Instr.loadAt 62 v45) w29.drew λv46=>
 (Ca Tryz.prog 53 #[v36] w29.drew λv47 w48=>
 Sem.run Tryz.prog (Instr.loadAt 62 v45) w48=.ok v46 w48∧Sem.run Tryz.prog (Instr.loadAt 23 v0) w48=.ok v43 w48∧Sem.run Tryz.prog (Instr.loadAt 2 v41) w48=.ok v42 w48∧Sem.run Tryz.prog (Instr.loadAt 27 v39) w48=.ok v40 w48∧Sem.run Tryz.prog (Instr.loadAt 23 v0) w48=.ok v37 w48∧
 ((Ca Tryz.prog 55 #[v46] w48 λv49 w50=>
 Sem.run Tryz.prog (Instr.loadAt 2 v41) w50=.ok v42 w50∧Sem.run Tryz.prog (Instr.loadAt 27 v39) w50=.ok v40 w50∧Sem.run Tryz.prog (Instr.loadAt 23 v0) w50=.ok v37 w50∧
 ((Ca Tryz.prog 54 #[v49] w50 λv51 w52=>
 Sem.run Tryz.prog (Instr.loadAt 2 v41) w52=.ok v42 w52∧Sem.run Tryz.prog (Instr.loadAt 27 v39) w52=.ok v40 w52∧Sem.run Tryz.prog (Instr.loadAt 23 v0) w52=.ok v37 w52∧
 (rdP Tryz.prog (Instr.build 49 #[(0,v47),(1,v40),(2,v42),(3,v51)]) λv53=>
 rv Tryz.prog (Instr.alloc 49 true (.tuple #[])) w52 λv54 w55=>
 Sem.run Tryz.prog (Instr.loadAt 2 v41) w55=.ok v42 w55∧Sem.run Tryz.prog (Instr.loadAt 27 v39) w55=.ok v40 w55∧Sem.run Tryz.prog (Instr.loadAt 23 v0) w55=.ok v37 w55∧
 (ru Tryz.prog (Instr.storeAt 49 v54 v53) w55 λw56=>
 J32 (v54,()) w56)))
 ∧(rv Tryz.prog (Instr.alloc 49 true (.tuple #[])) w50 λv57 w58=>
 Sem.run Tryz.prog (Instr.loadAt 2 v41) w58=.ok v42 w58∧Sem.run Tryz.prog (Instr.loadAt 27 v39) w58=.ok v40 w58∧Sem.run Tryz.prog (Instr.loadAt 23 v0) w58=.ok v37 w58∧
 (Ca Tryz.prog 54 #[v49] w58 λv59 w60=>
 Sem.run Tryz.prog (Instr.loadAt 2 v41) w60=.ok v42 w60∧Sem.run Tryz.prog (Instr.loadAt 27 v39) w60=.ok v40 w60∧Sem.run Tryz.prog (Instr.loadAt 23 v0) w60=.ok v37 w60∧
 (rdP Tryz.prog (Instr.build 49 #[(0,v47),(1,v40),(2,v42),(3,v59)]) λv61=>
 ru Tryz.prog (Instr.storeAt 49 v57 v61) w60 λw62=>
 J32 (v57,()) w62)))))
 ∧(rv Tryz.prog (Instr.alloc 49 true (.tuple #[])) w48 λv63 w64=>
 Sem.run Tryz.prog (Instr.loadAt 62 v45) w64=.ok v46 w64∧Sem.run Tryz.prog (Instr.loadAt 23 v0) w64=.ok v43 w64∧Sem.run Tryz.prog (Instr.loadAt 2 v41) w64=.ok v42 w64∧Sem.run Tryz.prog (Instr.loadAt 27 v39) w64=.ok v40 w64∧Sem.run Tryz.prog (Instr.loadAt 23 v0) w64=.ok v37 w64∧
 (Ca Tryz.prog 55 #[v46] w64 λv65 w66=>
 Sem.run Tryz.prog (Instr.loadAt 2 v41) w66=.ok v42 w66∧Sem.run Tryz.prog (Instr.loadAt 27 v39) w66=.ok v40 w66∧Sem.run Tryz.prog (Instr.loadAt 23 v0) w66=.ok v37 w66∧
 (Ca Tryz.prog 54 #[v65] w66 λv67 w68=>
 Sem.run Tryz.prog (Instr.loadAt 2 v41) w68=.ok v42 w68∧Sem.run Tryz.prog (Instr.loadAt 27 v39) w68=.ok v40 w68∧Sem.run Tryz.prog (Instr.loadAt 23 v0) w68=.ok v37 w68∧
 (rdP Tryz.prog (Instr.build 49 #[(0,v47),(1,v40),(2,v42),(3,v67)]) λv69=>
 ru Tryz.prog (Instr.storeAt 49 v63 v69) w68 λw70=>
 J32 (v63,()) w70))))))
 ∧(rv Tryz.prog (Instr.alloc 49 true (.tuple #[])) w29.drew λv71 w72=>
 Sem.run Tryz.prog (Instr.loadAt 62 v45) w72=.ok v46 w72∧Sem.run Tryz.prog (Instr.loadAt 23 v0) w72=.ok v43 w72∧Sem.run Tryz.prog (Instr.loadAt 2 v41) w72=.ok v42 w72∧Sem.run Tryz.prog (Instr.loadAt 27 v39) w72=.ok v40 w72∧Sem.run Tryz.prog (Instr.loadAt 23 v0) w72=.ok v37 w72∧Sem.run Tryz.prog (Instr.loadAt 61 v35) w72=.ok v36 w72∧Sem.run Tryz.prog (Instr.loadAt 23 v0) w72=.ok v33 w72∧
 (Ca Tryz.prog 53 #[v36] w72 λv73 w74=>
 Sem.run Tryz.prog (Instr.loadAt 62 v45) w74=.ok v46 w74∧Sem.run Tryz.prog (Instr.loadAt 23 v0) w74=.ok v43 w74∧Sem.run Tryz.prog (Instr.loadAt 2 v41) w74=.ok v42 w74∧Sem.run Tryz.prog (Instr.loadAt 27 v39) w74=.ok v40 w74∧Sem.run Tryz.prog (Instr.loadAt 23 v0) w74=.ok v37 w74∧
 (Ca Tryz.prog 55 #[v46] w74 λv75 w76=>
 Sem.run Tryz.prog (Instr.loadAt 2 v41) w76=.ok v42 w76∧Sem.run Tryz.prog (Instr.loadAt 27 v39) w76=.ok v40 w76∧Sem.run Tryz.prog (Instr.loadAt 23 v0) w76=.ok v37 w76∧
 (Ca Tryz.prog 54 #[v75] w76 λv77 w78=>
 Sem.run Tryz.prog (Instr.loadAt 2 v41) w78=.ok v42 w78∧Sem.run Tryz.prog (Instr.loadAt 27 v39) w78=.ok v40 w78∧Sem.run Tryz.prog (Instr.loadAt 23 v0) w78=.ok v37 w78∧
 (rdP Tryz.prog (Instr.build 49 #[(0,v73),(1,v40),(2,v42),(3,v77)]) λv79=>
 ru Tryz.prog (Instr.storeAt 49 v71 v79) w78 λw80=>
 J32 (v71,()) w80))))))
 (J14_12 v0 v2 K))
theorem F14_eq(a0:Value)(w:World)(K:Kont):vcFnJ Tryz.prog Tryz.f14 [a0] w K=F14 a0 w K:=by kernel_rfl
theorem F14_ok:okF Tryz.prog Tryz.f14 1=true:=by kernel_rfl
theorem ca14{a0:Value}{w:World}{K:Kont}(h:F14 a0 w K):Ca Tryz.prog 14 #[a0] w K:=
 ca_of_vcJ Tryz.noNum Tryz.func14 F14_ok (by rw[F14_eq];exact h)
def F54(a0:Value)(w:World)(K:Kont):Prop:=
 Ca Tryz.prog 137 #[(.slice none 0 0),a0] w λv0 w1=>
 K v0 w1
theorem F54_eq(a0:Value)(w:World)(K:Kont):vcFnJ Tryz.prog Tryz.f54 [a0] w K=F54 a0 w K:=by kernel_rfl
theorem F54_ok:okF Tryz.prog Tryz.f54 1=true:=by kernel_rfl
theorem ca54{a0:Value}{w:World}{K:Kont}(h:F54 a0 w K):Ca Tryz.prog 54 #[a0] w K:=
 ca_of_vcJ Tryz.noNum Tryz.func54 F54_ok (by rw[F54_eq];exact h)
def R137_0(v0:Value)(l2:Nat)(x3:List Value)(w4:World)(KN5:World→Prop)(KJ6:Code→World→Prop):Prop:=
 rv Tryz.prog (Instr.alloc 92 true (.tuple #[])) w4 λv7 w8=>
 ru Tryz.prog (Instr.storeAt 92 v7 (x3.getD 0 undef)) w8 λw9=>
 beginK l2 w9 λw10=>
 rv Tryz.prog (Instr.loadAt 44 v0) w10 λv11 w12=>
 rv Tryz.prog (Instr.loadAt 92 v7) w12 λv13 w14=>
 rx Tryz.prog (xLit 44 1 [(0,v13)]) w14 λv15 w16=>
 rx Tryz.prog (xAppend #[44,44] 44 [v11,v15]) w16 λv17 w18=>
 ru Tryz.prog (Instr.storeAt 44 v0 v17) w18 λw19=>
 KN5 w19
def A137_1(v0:Value)(K:Kont)(mk20:List Nat)(pd21:Option Code)(w22:World):Prop:=
 afterK
 (λw23=>
 rv Tryz.prog (Instr.loadAt 44 v0) w23 λv24 w25=>
 retD (mk20++[]) w25 λw26=>
 K v24 w26)
 (λw27=>
 retD (mk20++[]) w27 λw28=>
 K (.slice none 0 0) w28)
 (λi30 w29=>
 bc (Nat.beq i30 0)
 (rv Tryz.prog (Instr.loadAt 44 v0) w29 λv31 w32=>
 retD (mk20++[]) w32 λw33=>
 K v31 w33)
 (False)) pd21 w22
def F137(a0 a1:Value)(w:World)(K:Kont):Prop:=
 rv Tryz.prog (Instr.box 44 a0) w λv0 w1=>
 RFW Tryz.prog none a1 w1 1 (R137_0 v0) (A137_1 v0 K)
theorem F137_eq(a0 a1:Value)(w:World)(K:Kont):vcFnJ Tryz.prog Tryz.f137 [a0,a1] w K=F137 a0 a1 w K:=by kernel_rfl
theorem F137_ok:okF Tryz.prog Tryz.f137 2=true:=by kernel_rfl
theorem ca137{a0 a1:Value}{w:World}{K:Kont}(h:F137 a0 a1 w K):Ca Tryz.prog 137 #[a0,a1] w K:=
 ca_of_vcJ Tryz.noNum Tryz.func137 F137_ok (by rw[F137_eq];exact h)
end Go.Proofs
