/-
  Formulas of the program's functions, printed by a program of mine: each is what the computed precondition of the function's body comes to.
  Conditions: none.
-/
import Derived.Test.YteldcaeicgobfaaG0
import Derived.Test.YteldcaeicgobfaaVcFn
set_option linter.unusedSimpArgs false
set_option maxRecDepth 100000
set_option linter.unusedVariables false
namespace Go.Proofs
open Go Go.Vc


def J5_0 (v23 : Value) (s12 : Value × Value × Value × Unit) (v10 : Value) (K : Kont) (J61 : Value × Value × Value × Value × Unit → World → Prop) (s124 : Value × Unit) (w125 : World) : Prop :=
 ∀ _ : Nat → Value,
 ifB s124.1
 (rv Try.prog (Instr.fieldAt 48 v23 1) w125 fun v139 w140 =>
 rv Try.prog (Instr.loadAt 3 v139) w140 fun v141 w142 =>
 rv Try.prog (Instr.fieldAt 48 v23 2) w142 fun v143 w144 =>
 rv Try.prog (Instr.loadAt 3 v143) w144 fun v145 w146 =>
 rv Try.prog (Instr.fieldAt 48 v23 3) w146 fun v147 w148 =>
 rv Try.prog (Instr.loadAt 3 v147) w148 fun v149 w150 =>
 Ca Try.prog 29 #[s12.2.1, v10, v141, v145, v149] w150 fun v151 w152 =>
 rv Try.prog (Op.unary .not v151) w152 fun v153 w154 =>
 ifB v153
 (K (.bool false) w154)
 (J61 (s12.2.1, s12.1, (.int .i64 0), (.int .i64 0), ()) w154))
 (J61 (s12.2.1, s12.1, (.int .i64 0), (.int .i64 0), ()) w125)

def J5_1 (K : Kont) (s12 : Value × Value × Value × Unit) (K14 : Value × Value × Value × Unit → World → Prop) (s59 : Value × Value × Value × Value × Unit) (s208 : Value × Unit) (w209 : World) : Prop :=
 ∀ _ : Nat → Value,
 ifB s208.1
 (K (.bool false) w209)
 (rv Try.prog (bin .add 3 true s12.2.2.1 (.int .i64 1)) w209 fun v234 w235 =>
 K14 (s59.2.1, s59.1, v234, ()) w235)

def L5_2 (s26 : Value × Unit) (v23 : Value) (s59 : Value × Value × Value × Value × Unit) (v10 : Value) (K : Kont) (s12 : Value × Value × Value × Unit) (K14 : Value × Value × Value × Unit → World → Prop) (s182 : Value × Unit) (w183 : World) (K184 : Value × Unit → World → Prop) : Prop :=
 ∀ _ : Nat → Value,
 rn Try.prog (builtin .len #[23] 3 #[false] #[s26.1]) w183 fun v185 w186 =>
 rv Try.prog (bin .lss 3 false s182.1 v185) w186 fun v187 w188 =>
 ifB v187
 (rv Try.prog (Instr.indexAt 23 s26.1 s182.1) w188 fun v189 w190 =>
 rv Try.prog (Instr.loadAt 5 v189) w190 fun v191 w192 =>
 rv Try.prog (bin .add 5 true v191 (.int .u8 1)) w192 fun v193 w194 =>
 rv Try.prog (Instr.indexAt 23 s26.1 s182.1) w194 fun v195 w196 =>
 ru Try.prog (Instr.storeAt 5 v195 v193) w196 fun w197 =>
 rv Try.prog (bin .add 3 true s182.1 (.int .i64 1)) w197 fun v198 w199 =>
 K184 (v198, ()) w199)
 (rv Try.prog (Instr.fieldAt 48 v23 4) w188 fun v200 w201 =>
 rv Try.prog (Instr.loadAt 23 v200) w201 fun v202 w203 =>
 rn Try.prog (builtin .len #[23] 3 #[false] #[v202]) w203 fun v204 w205 =>
 rv Try.prog (bin .quo 3 true v204 (.int .i64 128)) w205 fun v206 w207 =>
 JoinW (S := Value × Unit) (fun J210 =>
 rdP Try.prog (bin .neq 28 false s59.2.2.1 s59.2.2.2.1) fun v211 =>
 ifB v211
 (J210 ((.bool true), ()) w207.drew)
 (nilK v10 fun v212 => rdP Try.prog (Instr.fieldAt 46 v212 4) fun v213 =>
 rdW Try.prog (Instr.loadAt 4 v213) w207.drew fun v214 =>
 Ca Try.prog 30 #[s59.1] w207.drew fun v215 w216 =>
 Sem.run Try.prog (Instr.loadAt 4 v213) w216 = .ok v214 w216 ∧ 
 (rdP Try.prog (bin .neq 4 false v215 v214) fun v217 =>
 ifB v217
 (J210 ((.bool true), ()) w216)
 (nilK v10 fun v218 => rdP Try.prog (Instr.fieldAt 46 v218 1) fun v219 =>
 rdW Try.prog (Instr.loadAt 44 v219) w216 fun v220 =>
 rdW Try.prog (Builtin.len_ #[44] 3 #[v220]) w216 fun v221 =>
 Ca Try.prog 21 #[s59.1] w216 fun v222 w223 =>
 Sem.run Try.prog (Builtin.len_ #[44] 3 #[v220]) w223 = .ok v221 w223 ∧ Sem.run Try.prog (Instr.loadAt 44 v219) w223 = .ok v220 w223 ∧ 
 (rdP Try.prog (bin .neq 3 false v222 v221) fun v224 =>
 ifB v224
 (J210 ((.bool true), ()) w223)
 (rdP Try.prog (bin .gtr 3 true v206 (.int .i64 0)) fun v225 =>
 ifB v225
 (rdP Try.prog (bin .leq 3 true v206 (.int .i64 40)) fun v226 =>
 ifB v226
 (rdP Try.prog (Instr.fieldAt 48 v23 1) fun v227 =>
 rdW Try.prog (Instr.loadAt 3 v227) w223 fun v228 =>
 rdP Try.prog (Instr.fieldAt 48 v23 2) fun v229 =>
 rdW Try.prog (Instr.loadAt 3 v229) w223 fun v230 =>
 Ca Try.prog 29 #[s59.1, v10, v228, v230, v206] w223 fun v231 w232 =>
 rdP Try.prog (Op.unary .not v231) fun v233 =>
 J210 (v233, ()) w232)
 (J210 ((.bool false), ()) w223))
 (J210 ((.bool false), ()) w223)))))))
 (J5_1 K s12 K14 s59))

def J5_3 (K : Kont) (s26 : Value × Unit) (v23 : Value) (s59 : Value × Value × Value × Value × Unit) (v10 : Value) (s12 : Value × Value × Value × Unit) (K14 : Value × Value × Value × Unit → World → Prop) (s155 : Value × Unit) (w156 : World) : Prop :=
 ∀ _ : Nat → Value,
 ifB s155.1
 (K (.bool false) w156)
 (LoopW (S := Value × Unit) (L5_2 s26 v23 s59 v10 K s12 K14) ((.int .i64 0), ()) w156)

def J5_4 (s26 : Value × Unit) (v23 : Value) (K : Kont) (v10 : Value) (s12 : Value × Value × Value × Unit) (K14 : Value × Value × Value × Unit → World → Prop) (s59 : Value × Value × Value × Value × Unit) (w60 : World) : Prop :=
 ∀ _ : Nat → Value,
 JoinW (S := Value × Unit) (fun J157 =>
 rx Try.prog (xConv 23 9 s26.1) w60 fun v158 w159 =>
 rv Try.prog (Instr.fieldAt 48 v23 4) w159 fun v160 w161 =>
 rv Try.prog (Instr.loadAt 23 v160) w161 fun v162 w163 =>
 rx Try.prog (xConv 23 9 v162) w163 fun v164 w165 =>
 rv Try.prog (bin .neq 9 false v158 v164) w165 fun v166 w167 =>
 ifB v166
 (J157 ((.bool true), ()) w167)
 (rn Try.prog (builtin .len #[23] 3 #[false] #[s26.1]) w167 fun v168 w169 =>
 rv Try.prog (bin .add 3 true v168 (.int .i64 1)) w169 fun v170 w171 =>
 rv Try.prog (Instr.sliceAt 23 s26.1 none (some v170) none) w171 fun v172 w173 =>
 rn Try.prog (builtin .len #[23] 3 #[false] #[s26.1]) w173 fun v174 w175 =>
 rv Try.prog (Instr.indexAt 23 v172 v174) w175 fun v176 w177 =>
 rv Try.prog (Instr.loadAt 5 v176) w177 fun v178 w179 =>
 rv Try.prog (bin .neq 5 true v178 (.int .u8 77)) w179 fun v180 w181 =>
 J157 (v180, ()) w181))
 (J5_3 K s26 v23 s59 v10 s12 K14)

def J5_5 (v23 : Value) (s12 : Value × Value × Value × Unit) (v10 : Value) (K : Kont) (K14 : Value × Value × Value × Unit → World → Prop) (s26 : Value × Unit) (w27 : World) : Prop :=
 ∀ _ : Nat → Value,
 JoinW (S := Value × Value × Value × Value × Unit) (fun J61 =>
 rv Try.prog (Instr.fieldAt 48 v23 0) w27 fun v62 w63 =>
 rv Try.prog (Instr.loadAt 3 v62) w63 fun v64 w65 =>
 rv Try.prog (bin .eql 3 true v64 (.int .i64 0)) w65 fun v66 w67 =>
 ifB v66
 (rdP Try.prog (Instr.fieldAt 48 v23 1) fun v68 =>
 rdW Try.prog (Instr.loadAt 3 v68) w67.drew fun v69 =>
 rdP Try.prog (Instr.fieldAt 48 v23 2) fun v70 =>
 rdW Try.prog (Instr.loadAt 3 v70) w67.drew fun v71 =>
 rdP Try.prog (Instr.fieldAt 48 v23 1) fun v72 =>
 rdW Try.prog (Instr.loadAt 3 v72) w67.drew fun v73 =>
 rdP Try.prog (Instr.fieldAt 48 v23 2) fun v74 =>
 rdW Try.prog (Instr.loadAt 3 v74) w67.drew fun v75 =>
 rdP Try.prog (Instr.fieldAt 48 v23 4) fun v76 =>
 rdW Try.prog (Instr.loadAt 23 v76) w67.drew fun v77 =>
 Ca Try.prog 17 #[s12.2.1, v69, v71, s26.1] w67.drew fun v78 w79 =>
 Sem.run Try.prog (Instr.loadAt 23 v76) w79 = .ok v77 w79 ∧ Sem.run Try.prog (Instr.loadAt 3 v74) w79 = .ok v75 w79 ∧ Sem.run Try.prog (Instr.loadAt 3 v72) w79 = .ok v73 w79 ∧ 
 (Ca Try.prog 23 #[v10, v73, v75, v77] w79 fun v80 w81 =>
 J61 (s12.2.1, s12.1, v78, v80, ()) w81))
 (rv Try.prog (bin .eql 3 true v64 (.int .i64 1)) w67 fun v82 w83 =>
 ifB v82
 (Ca Try.prog 16 #[s12.2.1] w83 fun v84 w85 =>
 Ca Try.prog 24 #[v10] w85 fun v86 w87 =>
 J61 (s12.2.1, s12.1, v84, v86, ()) w87)
 (rv Try.prog (bin .eql 3 true v64 (.int .i64 2)) w83 fun v88 w89 =>
 ifB v88
 (rdP Try.prog (Instr.fieldAt 48 v23 3) fun v90 =>
 rdW Try.prog (Instr.loadAt 3 v90) w89.drew fun v91 =>
 rdP Try.prog (Instr.fieldAt 48 v23 3) fun v92 =>
 rdW Try.prog (Instr.loadAt 3 v92) w89.drew fun v93 =>
 Ca Try.prog 25 #[s12.2.1, v91] w89.drew fun v94 w95 =>
 Sem.run Try.prog (Instr.loadAt 3 v92) w95 = .ok v93 w95 ∧ 
 (Ca Try.prog 26 #[v10, v93] w95 fun v96 w97 =>
 J61 (s12.2.1, s12.1, v94, v96, ()) w97))
 (rv Try.prog (bin .eql 3 true v64 (.int .i64 3)) w89 fun v98 w99 =>
 ifB v98
 (rdP Try.prog (Instr.fieldAt 48 v23 3) fun v100 =>
 rdW Try.prog (Instr.loadAt 3 v100) w99.drew fun v101 =>
 rdP Try.prog (Instr.fieldAt 48 v23 3) fun v102 =>
 rdW Try.prog (Instr.loadAt 3 v102) w99.drew fun v103 =>
 rdP Try.prog (Instr.fieldAt 48 v23 4) fun v104 =>
 rdW Try.prog (Instr.loadAt 23 v104) w99.drew fun v105 =>
 Ca Try.prog 19 #[s12.2.1, v101, s26.1] w99.drew fun v106 w107 =>
 Sem.run Try.prog (Instr.loadAt 23 v104) w107 = .ok v105 w107 ∧ Sem.run Try.prog (Instr.loadAt 3 v102) w107 = .ok v103 w107 ∧ 
 (Ca Try.prog 27 #[v10, v103, v105] w107 fun v108 w109 =>
 J61 (s12.2.1, s12.1, v106, v108, ()) w109))
 (rv Try.prog (bin .eql 3 true v64 (.int .i64 4)) w99 fun v110 w111 =>
 ifB v110
 (Ca Try.prog 28 #[s12.2.1] w111 fun v112 w113 =>
 Ca Try.prog 19 #[s12.2.1, (.int .i64 0), (.slice none 0 0)] w113 fun v114 w115 =>
 Ca Try.prog 18 #[(.int .u8 120)] w115 fun v116 w117 =>
 Ca Try.prog 17 #[s12.2.1, (.int .i64 0), (.int .i64 0), v116] w117 fun v118 w119 =>
 Ca Try.prog 16 #[s12.2.1] w119 fun v120 w121 =>
 J61 (v112, s12.1, (.int .i64 0), (.int .i64 0), ()) w121)
 (rv Try.prog (bin .eql 3 true v64 (.int .i64 5)) w111 fun v122 w123 =>
 ifB v122
 (JoinW (S := Value × Unit) (fun J126 =>
 rv Try.prog (Instr.fieldAt 48 v23 3) w123 fun v127 w128 =>
 rv Try.prog (Instr.loadAt 3 v127) w128 fun v129 w130 =>
 rv Try.prog (bin .leq 3 true v129 (.int .i64 40)) w130 fun v131 w132 =>
 ifB v131
 (J126 ((.bool true), ()) w132)
 (rv Try.prog (Instr.fieldAt 48 v23 3) w132 fun v133 w134 =>
 rv Try.prog (Instr.loadAt 3 v133) w134 fun v135 w136 =>
 rv Try.prog (bin .gtr 3 true v135 (.int .i64 8192)) w136 fun v137 w138 =>
 J126 (v137, ()) w138))
 (J5_0 v23 s12 v10 K J61))
 (J61 (s12.2.1, s12.1, (.int .i64 0), (.int .i64 0), ()) w123)))))))
 (J5_4 s26 v23 K v10 s12 K14)

def L5_6 (a0 : Value) (v10 : Value) (K : Kont) (s12 : Value × Value × Value × Unit) (w13 : World) (K14 : Value × Value × Value × Unit → World → Prop) : Prop :=
 ∀ _ : Nat → Value,
 rn Try.prog (builtin .len #[41] 3 #[false] #[a0]) w13 fun v15 w16 =>
 rv Try.prog (bin .lss 3 false s12.2.2.1 v15) w16 fun v17 w18 =>
 ifB v17
 (rv Try.prog (Instr.indexAt 41 a0 s12.2.2.1) w18 fun v19 w20 =>
 rv Try.prog (Instr.loadAt 48 v19) w20 fun v21 w22 =>
 rv Try.prog (Instr.alloc 48 true (.tuple #[])) w22 fun v23 w24 =>
 ru Try.prog (Instr.storeAt 48 v23 v21) w24 fun w25 =>
 JoinW (S := Value × Unit) (fun J28 =>
 rdP Try.prog (Instr.fieldAt 48 v23 4) fun v29 =>
 rdW Try.prog (Instr.loadAt 23 v29) w25.drew fun v30 =>
 rdP Try.prog (Instr.fieldAt 48 v23 4) fun v31 =>
 rdW Try.prog (Instr.loadAt 23 v31) w25.drew fun v32 =>
 rdW Try.prog (Builtin.len_ #[23] 3 #[v32]) w25.drew fun v33 =>
 (rx Try.prog (xLit 23 0 []) w25.drew fun v34 w35 =>
 Sem.run Try.prog (Builtin.len_ #[23] 3 #[v32]) w35 = .ok v33 w35 ∧ Sem.run Try.prog (Instr.loadAt 23 v31) w35 = .ok v32 w35 ∧ Sem.run Try.prog (Instr.loadAt 23 v29) w35 = .ok v30 w35 ∧ 
 ((rx Try.prog (xAppend #[23, 23] 23 [v34, v30]) w35 fun v36 w37 =>
 Sem.run Try.prog (Builtin.len_ #[23] 3 #[v32]) w37 = .ok v33 w37 ∧ Sem.run Try.prog (Instr.loadAt 23 v31) w37 = .ok v32 w37 ∧ 
 (rx Try.prog (xLit 23 1 [(0, (.int .u8 77))]) w37 fun v38 w39 =>
 Sem.run Try.prog (Builtin.len_ #[23] 3 #[v32]) w39 = .ok v33 w39 ∧ Sem.run Try.prog (Instr.loadAt 23 v31) w39 = .ok v32 w39 ∧ 
 (rx Try.prog (xAppend #[23, 23] 23 [v36, v38]) w39 fun v40 w41 =>
 Sem.run Try.prog (Builtin.len_ #[23] 3 #[v32]) w41 = .ok v33 w41 ∧ Sem.run Try.prog (Instr.loadAt 23 v31) w41 = .ok v32 w41 ∧ 
 (rdP Try.prog (Instr.sliceAt 23 v40 none (some v33) none) fun v42 =>
 J28 (v42, ()) w41))))
 ∧ (rx Try.prog (xLit 23 1 [(0, (.int .u8 77))]) w35 fun v43 w44 =>
 Sem.run Try.prog (Builtin.len_ #[23] 3 #[v32]) w44 = .ok v33 w44 ∧ Sem.run Try.prog (Instr.loadAt 23 v31) w44 = .ok v32 w44 ∧ Sem.run Try.prog (Instr.loadAt 23 v29) w44 = .ok v30 w44 ∧ 
 (rx Try.prog (xAppend #[23, 23] 23 [v34, v30]) w44 fun v45 w46 =>
 Sem.run Try.prog (Builtin.len_ #[23] 3 #[v32]) w46 = .ok v33 w46 ∧ Sem.run Try.prog (Instr.loadAt 23 v31) w46 = .ok v32 w46 ∧ 
 (rx Try.prog (xAppend #[23, 23] 23 [v45, v43]) w46 fun v47 w48 =>
 Sem.run Try.prog (Builtin.len_ #[23] 3 #[v32]) w48 = .ok v33 w48 ∧ Sem.run Try.prog (Instr.loadAt 23 v31) w48 = .ok v32 w48 ∧ 
 (rdP Try.prog (Instr.sliceAt 23 v47 none (some v33) none) fun v49 =>
 J28 (v49, ()) w48))))))
 ∧ (rx Try.prog (xLit 23 1 [(0, (.int .u8 77))]) w25.drew fun v50 w51 =>
 Sem.run Try.prog (Builtin.len_ #[23] 3 #[v32]) w51 = .ok v33 w51 ∧ Sem.run Try.prog (Instr.loadAt 23 v31) w51 = .ok v32 w51 ∧ Sem.run Try.prog (Instr.loadAt 23 v29) w51 = .ok v30 w51 ∧ 
 (rx Try.prog (xLit 23 0 []) w51 fun v52 w53 =>
 Sem.run Try.prog (Builtin.len_ #[23] 3 #[v32]) w53 = .ok v33 w53 ∧ Sem.run Try.prog (Instr.loadAt 23 v31) w53 = .ok v32 w53 ∧ Sem.run Try.prog (Instr.loadAt 23 v29) w53 = .ok v30 w53 ∧ 
 (rx Try.prog (xAppend #[23, 23] 23 [v52, v30]) w53 fun v54 w55 =>
 Sem.run Try.prog (Builtin.len_ #[23] 3 #[v32]) w55 = .ok v33 w55 ∧ Sem.run Try.prog (Instr.loadAt 23 v31) w55 = .ok v32 w55 ∧ 
 (rx Try.prog (xAppend #[23, 23] 23 [v54, v50]) w55 fun v56 w57 =>
 Sem.run Try.prog (Builtin.len_ #[23] 3 #[v32]) w57 = .ok v33 w57 ∧ Sem.run Try.prog (Instr.loadAt 23 v31) w57 = .ok v32 w57 ∧ 
 (rdP Try.prog (Instr.sliceAt 23 v56 none (some v33) none) fun v58 =>
 J28 (v58, ()) w57))))))
 (J5_5 v23 s12 v10 K K14))
 (Ca Try.prog 14 #[] w18 fun v236 w237 =>
 K v236 w237)

/-- broadside/broadsidelaw18.DiskPlays -/
def F5 (a0 : Value) (w : World) (K : Kont) : Prop :=
 Ca Try.prog 22 #[a0, (.int .i64 100)] w fun v0 w1 =>
 rv Try.prog (Op.unary .not v0) w1 fun v2 w3 =>
 ifB v2
 (Ca Try.prog 14 #[] w3 fun v4 w5 =>
 K v4 w5)
 (Ca Try.prog 15 #[] w3 fun v6 w7 =>
 rv Try.prog (Instr.build 46 #[]) w7 fun v8 w9 =>
 rv Try.prog (Instr.box 46 v8) w9 fun v10 w11 =>
 LoopW (S := Value × Value × Value × Unit) (L5_6 a0 v10 K) ((.bool false), v6, (.int .i64 0), ()) w11)
theorem F5_eq (a0 : Value) (w : World) (K : Kont) : vcFnJ Try.prog Try.f5 [a0] w K = F5 a0 w K := by kernel_rfl
theorem F5_ok : okF Try.prog Try.f5 1 = true := by kernel_rfl
theorem ca5{a0 : Value} {w : World} {K : Kont} (h : F5 a0 w K) : Ca Try.prog 5 #[a0] w K :=
  ca_of_vcJ Try.noNum Try.func5 F5_ok (by rw [F5_eq]; exact h)


def L22_0 (a0 : Value) (K : Kont) (s4 : Value × Value × Unit) (w5 : World) (K6 : Value × Value × Unit → World → Prop) : Prop :=
 ∀ _ : Nat → Value,
 rn Try.prog (builtin .len #[41] 3 #[false] #[a0]) w5 fun v7 w8 =>
 rv Try.prog (bin .lss 3 false s4.2.1 v7) w8 fun v9 w10 =>
 ifB v9
 (rv Try.prog (Instr.indexAt 41 a0 s4.2.1) w10 fun v11 w12 =>
 rv Try.prog (Instr.fieldAt 48 v11 4) w12 fun v13 w14 =>
 rv Try.prog (Instr.loadAt 23 v13) w14 fun v15 w16 =>
 rn Try.prog (builtin .len #[23] 3 #[false] #[v15]) w16 fun v17 w18 =>
 rv Try.prog (bin .add 3 false s4.1 v17) w18 fun v19 w20 =>
 rv Try.prog (bin .add 3 true s4.2.1 (.int .i64 1)) w20 fun v21 w22 =>
 K6 (v19, v21, ()) w22)
 (rv Try.prog (bin .leq 3 true s4.1 (.int .i64 131072)) w10 fun v23 w24 =>
 K v23 w24)

/-- broadside/broadsidelaw18.tame -/
def F22 (a0 a1 : Value) (w : World) (K : Kont) : Prop :=
 rn Try.prog (builtin .len #[41] 3 #[false] #[a0]) w fun v0 w1 =>
 rv Try.prog (bin .gtr 3 false v0 a1) w1 fun v2 w3 =>
 ifB v2
 (K (.bool false) w3)
 (LoopW (S := Value × Value × Unit) (L22_0 a0 K) ((.int .i64 0), (.int .i64 0), ()) w3)
theorem F22_eq (a0 a1 : Value) (w : World) (K : Kont) : vcFnJ Try.prog Try.f22 [a0, a1] w K = F22 a0 a1 w K := by kernel_rfl
theorem F22_ok : okF Try.prog Try.f22 2 = true := by kernel_rfl
theorem ca22{a0 a1 : Value} {w : World} {K : Kont} (h : F22 a0 a1 w K) : Ca Try.prog 22 #[a0, a1] w K :=
  ca_of_vcJ Try.noNum Try.func22 F22_ok (by rw [F22_eq]; exact h)


def L29_0 (v2 : Value) (K : Kont) (s12 : Value × Unit) (s23 : Value × Unit) (w24 : World) (K25 : Value × Unit → World → Prop) : Prop :=
 ∀ _ : Nat → Value,
 rn Try.prog (builtin .len #[23] 3 #[false] #[v2]) w24 fun v26 w27 =>
 rv Try.prog (bin .lss 3 false s23.1 v26) w27 fun v28 w29 =>
 ifB v28
 (rv Try.prog (Instr.indexAt 23 v2 s23.1) w29 fun v30 w31 =>
 rv Try.prog (Instr.loadAt 5 v30) w31 fun v32 w33 =>
 rv Try.prog (bin .add 5 true v32 (.int .u8 1)) w33 fun v34 w35 =>
 rv Try.prog (Instr.indexAt 23 v2 s23.1) w35 fun v36 w37 =>
 ru Try.prog (Instr.storeAt 5 v36 v34) w37 fun w38 =>
 rv Try.prog (bin .add 3 true s23.1 (.int .i64 1)) w38 fun v39 w40 =>
 K25 (v39, ()) w40)
 (K s12.1 w29)

def J29_1 (v2 : Value) (K : Kont) (s12 : Value × Unit) (w13 : World) : Prop :=
 ∀ _ : Nat → Value,
 LoopW (S := Value × Unit) (L29_0 v2 K s12) ((.int .i64 0), ()) w13

/-- broadside/broadsidelaw18.same -/
def F29 (a0 a1 a2 a3 a4 : Value) (w : World) (K : Kont) : Prop :=
 Ca Try.prog 20 #[a0, a2, a3, a4] w fun v0 w1 =>
 rv Try.prog (Instr.extract v0 0) w1 fun v2 w3 =>
 rv Try.prog (Instr.extract v0 1) w3 fun v4 w5 =>
 Ca Try.prog 63 #[a1, a2, a3, a4] w5 fun v6 w7 =>
 rv Try.prog (Instr.extract v6 0) w7 fun v8 w9 =>
 rv Try.prog (Instr.extract v6 1) w9 fun v10 w11 =>
 JoinW (S := Value × Unit) (fun J14 =>
 rv Try.prog (bin .eql 28 false v4 v10) w11 fun v15 w16 =>
 ifB v15
 (rx Try.prog (xConv 23 9 v2) w16 fun v17 w18 =>
 rx Try.prog (xConv 23 9 v8) w18 fun v19 w20 =>
 rv Try.prog (bin .eql 9 false v17 v19) w20 fun v21 w22 =>
 J14 (v21, ()) w22)
 (J14 ((.bool false), ()) w16))
 (J29_1 v2 K)
theorem F29_eq (a0 a1 a2 a3 a4 : Value) (w : World) (K : Kont) : vcFnJ Try.prog Try.f29 [a0, a1, a2, a3, a4] w K = F29 a0 a1 a2 a3 a4 w K := by kernel_rfl
theorem F29_ok : okF Try.prog Try.f29 5 = true := by kernel_rfl
theorem ca29{a0 a1 a2 a3 a4 : Value} {w : World} {K : Kont} (h : F29 a0 a1 a2 a3 a4 w K) : Ca Try.prog 29 #[a0, a1, a2, a3, a4] w K :=
  ca_of_vcJ Try.noNum Try.func29 F29_ok (by rw [F29_eq]; exact h)


def L23_0 (a3 : Value) (a0 : Value) (K : Kont) (a2 : Value) (a1 : Value) (s22 : Value × Value × Unit) (w23 : World) (K24 : Value × Value × Unit → World → Prop) : Prop :=
 ∀ _ : Nat → Value,
 rn Try.prog (builtin .len #[23] 3 #[false] #[a3]) w23 fun v25 w26 =>
 rv Try.prog (bin .quo 3 true v25 (.int .i64 128)) w26 fun v27 w28 =>
 rv Try.prog (bin .lss 3 false s22.2.1 v27) w28 fun v29 w30 =>
 ifB v29
 (Ca Try.prog 60 #[a0] w30 fun v31 w32 =>
 rv Try.prog (Op.unary .not v31) w32 fun v33 w34 =>
 ifB v33
 (K (.int .i64 180) w34)
 (nilK a0 fun v35 => rdP Try.prog (Instr.fieldAt 46 v35 1) fun v36 =>
 rdW Try.prog (Instr.loadAt 44 v36) w34.drew fun v37 =>
 rdP Try.prog (bin .add 3 false a2 s22.2.1) fun v38 =>
 rdP Try.prog (bin .mul 3 true s22.2.1 (.int .i64 128)) fun v39 =>
 rdP Try.prog (bin .add 3 true s22.2.1 (.int .i64 1)) fun v40 =>
 rdP Try.prog (bin .mul 3 true v40 (.int .i64 128)) fun v41 =>
 rdP Try.prog (Instr.sliceAt 23 a3 (some v39) (some v41) none) fun v42 =>
 rdX Try.prog (xConv 23 9 v42) w34.drew fun v43 =>
 rdP Try.prog (Instr.build 122 #[(0, a1), (1, v38), (2, v43)]) fun v44 =>
 rx Try.prog (xLit 44 1 [(0, v44)]) w34.drew fun v45 w46 =>
 Sem.run Try.prog (Instr.loadAt 44 v36) w46 = .ok v37 w46 ∧ 
 (rx Try.prog (xAppend #[44, 44] 44 [v37, v45]) w46 fun v47 w48 =>
 nilK a0 fun v49 => rdP Try.prog (Instr.fieldAt 46 v49 1) fun v50 =>
 ru Try.prog (Instr.storeAt 44 v50 v47) w48 fun w51 =>
 rv Try.prog (bin .add 3 true s22.2.1 (.int .i64 1)) w51 fun v52 w53 =>
 K24 (s22.1, v52, ()) w53)))
 (K (.int .i64 0) w30)

def J23_1 (K : Kont) (a3 : Value) (a0 : Value) (a2 : Value) (a1 : Value) (s5 : Value × Unit) (w6 : World) : Prop :=
 ∀ _ : Nat → Value,
 ifB s5.1
 (K (.int .i64 2) w6)
 (LoopW (S := Value × Value × Unit) (L23_0 a3 a0 K a2 a1) ((.int .i64 0), (.int .i64 0), ()) w6)

/-- (*broadside/broadsideref18.Disk).Write -/
def F23 (a0 a1 a2 a3 : Value) (w : World) (K : Kont) : Prop :=
 nilK a0 fun v0 => rv Try.prog (Instr.fieldAt 46 v0 4) w fun v1 w2 =>
 rv Try.prog (Instr.loadAt 4 v1) w2 fun v3 w4 =>
 ifB v3
 (K (.int .i64 180) w4)
 (JoinW (S := Value × Unit) (fun J7 =>
 rn Try.prog (builtin .len #[23] 3 #[false] #[a3]) w4 fun v8 w9 =>
 rv Try.prog (bin .rem 3 true v8 (.int .i64 128)) w9 fun v10 w11 =>
 rv Try.prog (bin .neq 3 true v10 (.int .i64 0)) w11 fun v12 w13 =>
 ifB v12
 (J7 ((.bool true), ()) w13)
 (rn Try.prog (builtin .len #[23] 3 #[false] #[a3]) w13 fun v14 w15 =>
 rv Try.prog (bin .quo 3 true v14 (.int .i64 128)) w15 fun v16 w17 =>
 Ca Try.prog 59 #[a1, a2, v16] w17 fun v18 w19 =>
 rv Try.prog (Op.unary .not v18) w19 fun v20 w21 =>
 J7 (v20, ()) w21))
 (J23_1 K a3 a0 a2 a1))
theorem F23_eq (a0 a1 a2 a3 : Value) (w : World) (K : Kont) : vcFnJ Try.prog Try.f23 [a0, a1, a2, a3] w K = F23 a0 a1 a2 a3 w K := by kernel_rfl
theorem F23_ok : okF Try.prog Try.f23 4 = true := by kernel_rfl
theorem ca23{a0 a1 a2 a3 : Value} {w : World} {K : Kont} (h : F23 a0 a1 a2 a3 w K) : Ca Try.prog 23 #[a0, a1, a2, a3] w K :=
  ca_of_vcJ Try.noNum Try.func23 F23_ok (by rw [F23_eq]; exact h)


def J24_0 (K : Kont) (a0 : Value) (s0 : Value × Unit) (w1 : World) : Prop :=
 ∀ _ : Nat → Value,
 ifB s0.1
 (K (.int .i64 180) w1)
 (nilK a0 fun v12 => rdP Try.prog (Instr.fieldAt 46 v12 0) fun v13 =>
 rdW Try.prog (Instr.loadAt 44 v13) w1.drew fun v14 =>
 nilK a0 fun v15 => rdP Try.prog (Instr.fieldAt 46 v15 1) fun v16 =>
 rdW Try.prog (Instr.loadAt 44 v16) w1.drew fun v17 =>
 rx Try.prog (xAppend #[44, 44] 44 [v14, v17]) w1.drew fun v18 w19 =>
 nilK a0 fun v20 => rdP Try.prog (Instr.fieldAt 46 v20 0) fun v21 =>
 ru Try.prog (Instr.storeAt 44 v21 v18) w19 fun w22 =>
 nilK a0 fun v23 => rv Try.prog (Instr.fieldAt 46 v23 1) w22 fun v24 w25 =>
 ru Try.prog (Instr.storeAt 44 v24 (.slice none 0 0)) w25 fun w26 =>
 K (.int .i64 0) w26)

/-- (*broadside/broadsideref18.Disk).Sync -/
def F24 (a0 : Value) (w : World) (K : Kont) : Prop :=
 JoinW (S := Value × Unit) (fun J2 =>
 nilK a0 fun v3 => rv Try.prog (Instr.fieldAt 46 v3 4) w fun v4 w5 =>
 rv Try.prog (Instr.loadAt 4 v4) w5 fun v6 w7 =>
 ifB v6
 (J2 ((.bool true), ()) w7)
 (Ca Try.prog 60 #[a0] w7 fun v8 w9 =>
 rv Try.prog (Op.unary .not v8) w9 fun v10 w11 =>
 J2 (v10, ()) w11))
 (J24_0 K a0)
theorem F24_eq (a0 : Value) (w : World) (K : Kont) : vcFnJ Try.prog Try.f24 [a0] w K = F24 a0 w K := by kernel_rfl
theorem F24_ok : okF Try.prog Try.f24 1 = true := by kernel_rfl
theorem ca24{a0 : Value} {w : World} {K : Kont} (h : F24 a0 w K) : Ca Try.prog 24 #[a0] w K :=
  ca_of_vcJ Try.noNum Try.func24 F24_ok (by rw [F24_eq]; exact h)



/-- (*broadside/broadsideref18.Disk).Arm -/
def F26 (a0 a1 : Value) (w : World) (K : Kont) : Prop :=
 nilK a0 fun v0 => rv Try.prog (Instr.fieldAt 46 v0 4) w fun v1 w2 =>
 rv Try.prog (Instr.loadAt 4 v1) w2 fun v3 w4 =>
 ifB v3
 (K (.int .i64 180) w4)
 (rv Try.prog (bin .lss 3 true a1 (.int .i64 (-1))) w4 fun v5 w6 =>
 ifB v5
 (K (.int .i64 2) w6)
 (rv Try.prog (bin .geq 3 true a1 (.int .i64 0)) w6 fun v7 w8 =>
 nilK a0 fun v9 => rv Try.prog (Instr.fieldAt 46 v9 3) w8 fun v10 w11 =>
 ru Try.prog (Instr.storeAt 4 v10 v7) w11 fun w12 =>
 nilK a0 fun v13 => rv Try.prog (Instr.fieldAt 46 v13 2) w12 fun v14 w15 =>
 ru Try.prog (Instr.storeAt 3 v14 a1) w15 fun w16 =>
 K (.int .i64 0) w16))
theorem F26_eq (a0 a1 : Value) (w : World) (K : Kont) : vcFnJ Try.prog Try.f26 [a0, a1] w K = F26 a0 a1 w K := by kernel_rfl
theorem F26_ok : okF Try.prog Try.f26 2 = true := by kernel_rfl
theorem ca26{a0 a1 : Value} {w : World} {K : Kont} (h : F26 a0 a1 w K) : Ca Try.prog 26 #[a0, a1] w K :=
  ca_of_vcJ Try.noNum Try.func26 F26_ok (by rw [F26_eq]; exact h)


def J27_0 (a2 : Value) (s54 : Value × Unit) (v52 : Value) (K56 : Value × Unit → World → Prop) (a0 : Value) (s2 : Value × Unit) (J35 : Unit → World → Prop) (s57 : Value × Unit) (w58 : World) : Prop :=
 ∀ _ : Nat → Value,
 ifB s57.1
 (rv Try.prog (Instr.indexAt 23 a2 s54.1) w58 fun v66 w67 =>
 rv Try.prog (Instr.loadAt 5 v66) w67 fun v68 w69 =>
 rv Try.prog (Instr.indexAt 23 v52 s54.1) w69 fun v70 w71 =>
 ru Try.prog (Instr.storeAt 5 v70 v68) w71 fun w72 =>
 rv Try.prog (bin .add 3 true s54.1 (.int .i64 1)) w72 fun v73 w74 =>
 K56 (v73, ()) w74)
 (nilK a0 fun v75 => rdP Try.prog (Instr.fieldAt 46 v75 0) fun v76 =>
 rdW Try.prog (Instr.loadAt 44 v76) w58.drew fun v77 =>
 nilK a0 fun v78 => rdP Try.prog (Instr.fieldAt 46 v78 1) fun v79 =>
 rdW Try.prog (Instr.loadAt 44 v79) w58.drew fun v80 =>
 rdP Try.prog (Instr.indexAt 44 v80 s2.1) fun v81 =>
 rdP Try.prog (Instr.fieldAt 122 v81 0) fun v82 =>
 rdW Try.prog (Instr.loadAt 3 v82) w58.drew fun v83 =>
 nilK a0 fun v84 => rdP Try.prog (Instr.fieldAt 46 v84 1) fun v85 =>
 rdW Try.prog (Instr.loadAt 44 v85) w58.drew fun v86 =>
 rdP Try.prog (Instr.indexAt 44 v86 s2.1) fun v87 =>
 rdP Try.prog (Instr.fieldAt 122 v87 1) fun v88 =>
 rdW Try.prog (Instr.loadAt 3 v88) w58.drew fun v89 =>
 rdX Try.prog (xConv 23 9 v52) w58.drew fun v90 =>
 rdP Try.prog (Instr.build 122 #[(0, v83), (1, v89), (2, v90)]) fun v91 =>
 rx Try.prog (xLit 44 1 [(0, v91)]) w58.drew fun v92 w93 =>
 Sem.run Try.prog (Instr.loadAt 44 v76) w93 = .ok v77 w93 ∧ 
 (rx Try.prog (xAppend #[44, 44] 44 [v77, v92]) w93 fun v94 w95 =>
 nilK a0 fun v96 => rdP Try.prog (Instr.fieldAt 46 v96 0) fun v97 =>
 ru Try.prog (Instr.storeAt 44 v97 v94) w95 fun w98 =>
 J35 (()) w98))

def L27_1 (a2 : Value) (v52 : Value) (a0 : Value) (s2 : Value × Unit) (J35 : Unit → World → Prop) (s54 : Value × Unit) (w55 : World) (K56 : Value × Unit → World → Prop) : Prop :=
 ∀ _ : Nat → Value,
 JoinW (S := Value × Unit) (fun J59 =>
 rv Try.prog (bin .lss 3 true s54.1 (.int .i64 128)) w55 fun v60 w61 =>
 ifB v60
 (rn Try.prog (builtin .len #[23] 3 #[false] #[a2]) w61 fun v62 w63 =>
 rv Try.prog (bin .lss 3 false s54.1 v62) w63 fun v64 w65 =>
 J59 (v64, ()) w65)
 (J59 ((.bool false), ()) w61))
 (J27_0 a2 s54 v52 K56 a0 s2 J35)

def J27_2 (a2 : Value) (a0 : Value) (s2 : Value × Unit) (J35 : Unit → World → Prop) (s36 : Value × Unit) (w37 : World) : Prop :=
 ∀ _ : Nat → Value,
 ifB s36.1
 (rx Try.prog (xMake 23 (.int .i64 128) (.int .i64 128)) w37 fun v52 w53 =>
 LoopW (S := Value × Unit) (L27_1 a2 v52 a0 s2 J35) ((.int .i64 0), ()) w53)
 (J35 (()) w37)

def J27_3 (a0 : Value) (K : Kont) (s33 : Unit) (w34 : World) : Prop :=
 ∀ _ : Nat → Value,
 nilK a0 fun v99 => rv Try.prog (Instr.fieldAt 46 v99 1) w34 fun v100 w101 =>
 ru Try.prog (Instr.storeAt 44 v100 (.slice none 0 0)) w101 fun w102 =>
 nilK a0 fun v103 => rv Try.prog (Instr.fieldAt 46 v103 4) w102 fun v104 w105 =>
 ru Try.prog (Instr.storeAt 4 v104 (.bool false)) w105 fun w106 =>
 nilK a0 fun v107 => rv Try.prog (Instr.fieldAt 46 v107 3) w106 fun v108 w109 =>
 ru Try.prog (Instr.storeAt 4 v108 (.bool false)) w109 fun w110 =>
 K (.int .i64 0) w110

def J27_4 (a0 : Value) (a2 : Value) (K : Kont) (s2 : Value × Unit) (w3 : World) : Prop :=
 ∀ _ : Nat → Value,
 nilK a0 fun v21 => rdP Try.prog (Instr.fieldAt 46 v21 0) fun v22 =>
 rdW Try.prog (Instr.loadAt 44 v22) w3.drew fun v23 =>
 nilK a0 fun v24 => rdP Try.prog (Instr.fieldAt 46 v24 1) fun v25 =>
 rdW Try.prog (Instr.loadAt 44 v25) w3.drew fun v26 =>
 rdP Try.prog (Instr.sliceAt 44 v26 none (some s2.1) none) fun v27 =>
 rx Try.prog (xAppend #[44, 44] 44 [v23, v27]) w3.drew fun v28 w29 =>
 nilK a0 fun v30 => rdP Try.prog (Instr.fieldAt 46 v30 0) fun v31 =>
 ru Try.prog (Instr.storeAt 44 v31 v28) w29 fun w32 =>
 JoinW (S := Unit) (fun J35 =>
 JoinW (S := Value × Unit) (fun J38 =>
 nilK a0 fun v39 => rv Try.prog (Instr.fieldAt 46 v39 1) w32 fun v40 w41 =>
 rv Try.prog (Instr.loadAt 44 v40) w41 fun v42 w43 =>
 rn Try.prog (builtin .len #[44] 3 #[false] #[v42]) w43 fun v44 w45 =>
 rv Try.prog (bin .lss 3 false s2.1 v44) w45 fun v46 w47 =>
 ifB v46
 (rn Try.prog (builtin .len #[23] 3 #[false] #[a2]) w47 fun v48 w49 =>
 rv Try.prog (bin .gtr 3 true v48 (.int .i64 0)) w49 fun v50 w51 =>
 J38 (v50, ()) w51)
 (J38 ((.bool false), ()) w47))
 (J27_2 a2 a0 s2 J35))
 (J27_3 a0 K)

/-- (*broadside/broadsideref18.Disk).Crash -/
def F27 (a0 a1 a2 : Value) (w : World) (K : Kont) : Prop :=
 rv Try.prog (bin .lss 3 true a1 (.int .i64 0)) w fun v0 w1 =>
 ifB v0
 (K (.int .i64 2) w1)
 (JoinW (S := Value × Unit) (fun J4 =>
 nilK a0 fun v5 => rv Try.prog (Instr.fieldAt 46 v5 1) w1 fun v6 w7 =>
 rv Try.prog (Instr.loadAt 44 v6) w7 fun v8 w9 =>
 rn Try.prog (builtin .len #[44] 3 #[false] #[v8]) w9 fun v10 w11 =>
 rv Try.prog (bin .gtr 3 false a1 v10) w11 fun v12 w13 =>
 ifB v12
 (nilK a0 fun v14 => rv Try.prog (Instr.fieldAt 46 v14 1) w13 fun v15 w16 =>
 rv Try.prog (Instr.loadAt 44 v15) w16 fun v17 w18 =>
 rn Try.prog (builtin .len #[44] 3 #[false] #[v17]) w18 fun v19 w20 =>
 J4 (v19, ()) w20)
 (J4 (a1, ()) w13))
 (J27_4 a0 a2 K))
theorem F27_eq (a0 a1 a2 : Value) (w : World) (K : Kont) : vcFnJ Try.prog Try.f27 [a0, a1, a2] w K = F27 a0 a1 a2 w K := by kernel_rfl
theorem F27_ok : okF Try.prog Try.f27 3 = true := by kernel_rfl
theorem ca27{a0 a1 a2 : Value} {w : World} {K : Kont} (h : F27 a0 a1 a2 w K) : Ca Try.prog 27 #[a0, a1, a2] w K :=
  ca_of_vcJ Try.noNum Try.func27 F27_ok (by rw [F27_eq]; exact h)


def J63_0 (s9 : Value × Value × Unit) (K11 : Value × Value × Unit → World → Prop) (s45 : Value × Unit) (w46 : World) : Prop :=
 ∀ _ : Nat → Value,
 rx Try.prog (xConv 9 23 s45.1) w46 fun v54 w55 =>
 rx Try.prog (xAppend #[23, 23] 23 [s9.1, v54]) w55 fun v56 w57 =>
 rv Try.prog (bin .add 3 true s9.2.1 (.int .i64 1)) w57 fun v58 w59 =>
 K11 (v56, v58, ()) w59

def J63_1 (s9 : Value × Value × Unit) (K11 : Value × Value × Unit → World → Prop) (s27 : Value × Value × Unit) (w28 : World) : Prop :=
 ∀ _ : Nat → Value,
 JoinW (S := Value × Unit) (fun J47 =>
 rv Try.prog (Op.unary .not s27.2.1) w28 fun v48 w49 =>
 ifB v48
 (rx Try.prog (xMake 23 (.int .i64 128) (.int .i64 128)) w49 fun v50 w51 =>
 rx Try.prog (xConv 23 9 v50) w51 fun v52 w53 =>
 J47 (v52, ()) w53)
 (J47 (s27.1, ()) w49))
 (J63_0 s9 K11)

def L63_2 (a3 : Value) (a0 : Value) (a2 : Value) (a1 : Value) (K : Kont) (s9 : Value × Value × Unit) (w10 : World) (K11 : Value × Value × Unit → World → Prop) : Prop :=
 ∀ _ : Nat → Value,
 rv Try.prog (bin .lss 3 false s9.2.1 a3) w10 fun v12 w13 =>
 ifB v12
 (nilK a0 fun v14 => rv Try.prog (Instr.fieldAt 46 v14 1) w13 fun v15 w16 =>
 rv Try.prog (Instr.loadAt 44 v15) w16 fun v17 w18 =>
 rv Try.prog (bin .add 3 false a2 s9.2.1) w18 fun v19 w20 =>
 Ca Try.prog 83 #[v17, a1, v19] w20 fun v21 w22 =>
 rv Try.prog (Instr.extract v21 0) w22 fun v23 w24 =>
 rv Try.prog (Instr.extract v21 1) w24 fun v25 w26 =>
 JoinW (S := Value × Value × Unit) (fun J29 =>
 rv Try.prog (Op.unary .not v25) w26 fun v30 w31 =>
 ifB v30
 (nilK a0 fun v32 => rv Try.prog (Instr.fieldAt 46 v32 0) w31 fun v33 w34 =>
 rv Try.prog (Instr.loadAt 44 v33) w34 fun v35 w36 =>
 rv Try.prog (bin .add 3 false a2 s9.2.1) w36 fun v37 w38 =>
 Ca Try.prog 83 #[v35, a1, v37] w38 fun v39 w40 =>
 rv Try.prog (Instr.extract v39 0) w40 fun v41 w42 =>
 rv Try.prog (Instr.extract v39 1) w42 fun v43 w44 =>
 J29 (v41, v43, ()) w44)
 (J29 (v23, v25, ()) w31))
 (J63_1 s9 K11))
 (K (.tuple #[s9.1, (.int .i64 0)]) w13)

/-- (*broadside/broadsideref18.Disk).Read -/
def F63 (a0 a1 a2 a3 : Value) (w : World) (K : Kont) : Prop :=
 nilK a0 fun v0 => rv Try.prog (Instr.fieldAt 46 v0 4) w fun v1 w2 =>
 rv Try.prog (Instr.loadAt 4 v1) w2 fun v3 w4 =>
 ifB v3
 (K (.tuple #[(.slice none 0 0), (.int .i64 180)]) w4)
 (Ca Try.prog 59 #[a1, a2, a3] w4 fun v5 w6 =>
 rv Try.prog (Op.unary .not v5) w6 fun v7 w8 =>
 ifB v7
 (K (.tuple #[(.slice none 0 0), (.int .i64 2)]) w8)
 (LoopW (S := Value × Value × Unit) (L63_2 a3 a0 a2 a1 K) ((.slice none 0 0), (.int .i64 0), ()) w8))
theorem F63_eq (a0 a1 a2 a3 : Value) (w : World) (K : Kont) : vcFnJ Try.prog Try.f63 [a0, a1, a2, a3] w K = F63 a0 a1 a2 a3 w K := by kernel_rfl
theorem F63_ok : okF Try.prog Try.f63 4 = true := by kernel_rfl
theorem ca63{a0 a1 a2 a3 : Value} {w : World} {K : Kont} (h : F63 a0 a1 a2 a3 w K) : Ca Try.prog 63 #[a0, a1, a2, a3] w K :=
  ca_of_vcJ Try.noNum Try.func63 F63_ok (by rw [F63_eq]; exact h)


def J83_0 (a0 : Value) (s4 : Value × Value × Value × Unit) (K : Kont) (K6 : Value × Value × Value × Unit → World → Prop) (s9 : Value × Unit) (w10 : World) : Prop :=
 ∀ _ : Nat → Value,
 ifB s9.1
 (rv Try.prog (Instr.indexAt 44 a0 s4.2.2.1) w10 fun v28 w29 =>
 rv Try.prog (Instr.fieldAt 122 v28 2) w29 fun v30 w31 =>
 rv Try.prog (Instr.loadAt 9 v30) w31 fun v32 w33 =>
 K (.tuple #[v32, (.bool true)]) w33)
 (rv Try.prog (bin .sub 3 true s4.2.2.1 (.int .i64 1)) w10 fun v34 w35 =>
 K6 (s4.1, s4.2.1, v34, ()) w35)

def L83_1 (a0 : Value) (a1 : Value) (a2 : Value) (K : Kont) (s4 : Value × Value × Value × Unit) (w5 : World) (K6 : Value × Value × Value × Unit → World → Prop) : Prop :=
 ∀ _ : Nat → Value,
 rv Try.prog (bin .geq 3 true s4.2.2.1 (.int .i64 0)) w5 fun v7 w8 =>
 ifB v7
 (JoinW (S := Value × Unit) (fun J11 =>
 rv Try.prog (Instr.indexAt 44 a0 s4.2.2.1) w8 fun v12 w13 =>
 rv Try.prog (Instr.fieldAt 122 v12 0) w13 fun v14 w15 =>
 rv Try.prog (Instr.loadAt 3 v14) w15 fun v16 w17 =>
 rv Try.prog (bin .eql 3 false v16 a1) w17 fun v18 w19 =>
 ifB v18
 (rv Try.prog (Instr.indexAt 44 a0 s4.2.2.1) w19 fun v20 w21 =>
 rv Try.prog (Instr.fieldAt 122 v20 1) w21 fun v22 w23 =>
 rv Try.prog (Instr.loadAt 3 v22) w23 fun v24 w25 =>
 rv Try.prog (bin .eql 3 false v24 a2) w25 fun v26 w27 =>
 J11 (v26, ()) w27)
 (J11 ((.bool false), ()) w19))
 (J83_0 a0 s4 K K6))
 (K (.tuple #[(.string ⟨#[]⟩), (.bool false)]) w8)

/-- broadside/broadsideref18.find -/
def F83 (a0 a1 a2 : Value) (w : World) (K : Kont) : Prop :=
 rn Try.prog (builtin .len #[44] 3 #[false] #[a0]) w fun v0 w1 =>
 rv Try.prog (bin .sub 3 true v0 (.int .i64 1)) w1 fun v2 w3 =>
 LoopW (S := Value × Value × Value × Unit) (L83_1 a0 a1 a2 K) ((.string ⟨#[]⟩), (.bool false), v2, ()) w3
theorem F83_eq (a0 a1 a2 : Value) (w : World) (K : Kont) : vcFnJ Try.prog Try.f83 [a0, a1, a2] w K = F83 a0 a1 a2 w K := by kernel_rfl
theorem F83_ok : okF Try.prog Try.f83 3 = true := by kernel_rfl
theorem ca83{a0 a1 a2 : Value} {w : World} {K : Kont} (h : F83 a0 a1 a2 w K) : Ca Try.prog 83 #[a0, a1, a2] w K :=
  ca_of_vcJ Try.noNum Try.func83 F83_ok (by rw [F83_eq]; exact h)



/-- broadside/broadsideref18.may -/
def F59 (a0 a1 a2 : Value) (w : World) (K : Kont) : Prop :=
 rv Try.prog (bin .geq 3 true a0 (.int .i64 0)) w fun v0 w1 =>
 ifB v0
 (rv Try.prog (bin .lss 3 true a0 (.int .i64 5)) w1 fun v2 w3 =>
 ifB v2
 (rv Try.prog (bin .geq 3 true a1 (.int .i64 0)) w3 fun v4 w5 =>
 ifB v4
 (rv Try.prog (bin .geq 3 true a2 (.int .i64 1)) w5 fun v6 w7 =>
 ifB v6
 (rv Try.prog (bin .leq 3 true a2 (.int .i64 8192)) w7 fun v8 w9 =>
 ifB v8
 (rv Try.prog (bin .sub 3 true (.int .i64 8192) a2) w9 fun v10 w11 =>
 rv Try.prog (bin .leq 3 false a1 v10) w11 fun v12 w13 =>
 K v12 w13)
 (K (.bool false) w9))
 (K (.bool false) w7))
 (K (.bool false) w5))
 (K (.bool false) w3))
 (K (.bool false) w1)
theorem F59_eq (a0 a1 a2 : Value) (w : World) (K : Kont) : vcFnJ Try.prog Try.f59 [a0, a1, a2] w K = F59 a0 a1 a2 w K := by kernel_rfl
theorem F59_ok : okF Try.prog Try.f59 3 = true := by kernel_rfl
theorem ca59{a0 a1 a2 : Value} {w : World} {K : Kont} (h : F59 a0 a1 a2 w K) : Ca Try.prog 59 #[a0, a1, a2] w K :=
  ca_of_vcJ Try.noNum Try.func59 F59_ok (by rw [F59_eq]; exact h)


def J60_0 (a0 : Value) (K : Kont) (s0 : Value × Unit) (w1 : World) : Prop :=
 ∀ _ : Nat → Value,
 ifB s0.1
 (nilK a0 fun v15 => rv Try.prog (Instr.fieldAt 46 v15 3) w1 fun v16 w17 =>
 ru Try.prog (Instr.storeAt 4 v16 (.bool false)) w17 fun w18 =>
 nilK a0 fun v19 => rv Try.prog (Instr.fieldAt 46 v19 4) w18 fun v20 w21 =>
 ru Try.prog (Instr.storeAt 4 v20 (.bool true)) w21 fun w22 =>
 K (.bool false) w22)
 (nilK a0 fun v23 => rv Try.prog (Instr.fieldAt 46 v23 3) w1 fun v24 w25 =>
 rv Try.prog (Instr.loadAt 4 v24) w25 fun v26 w27 =>
 ifB v26
 (nilK a0 fun v28 => rv Try.prog (Instr.fieldAt 46 v28 2) w27 fun v29 w30 =>
 rv Try.prog (Instr.loadAt 3 v29) w30 fun v31 w32 =>
 rv Try.prog (bin .sub 3 true v31 (.int .i64 1)) w32 fun v33 w34 =>
 nilK a0 fun v35 => rv Try.prog (Instr.fieldAt 46 v35 2) w34 fun v36 w37 =>
 ru Try.prog (Instr.storeAt 3 v36 v33) w37 fun w38 =>
 K (.bool true) w38)
 (K (.bool true) w27))

/-- (*broadside/broadsideref18.Disk).step -/
def F60 (a0 : Value) (w : World) (K : Kont) : Prop :=
 JoinW (S := Value × Unit) (fun J2 =>
 nilK a0 fun v3 => rv Try.prog (Instr.fieldAt 46 v3 3) w fun v4 w5 =>
 rv Try.prog (Instr.loadAt 4 v4) w5 fun v6 w7 =>
 ifB v6
 (nilK a0 fun v8 => rv Try.prog (Instr.fieldAt 46 v8 2) w7 fun v9 w10 =>
 rv Try.prog (Instr.loadAt 3 v9) w10 fun v11 w12 =>
 rv Try.prog (bin .eql 3 true v11 (.int .i64 0)) w12 fun v13 w14 =>
 J2 (v13, ()) w14)
 (J2 ((.bool false), ()) w7))
 (J60_0 a0 K)
theorem F60_eq (a0 : Value) (w : World) (K : Kont) : vcFnJ Try.prog Try.f60 [a0] w K = F60 a0 w K := by kernel_rfl
theorem F60_ok : okF Try.prog Try.f60 1 = true := by kernel_rfl
theorem ca60{a0 : Value} {w : World} {K : Kont} (h : F60 a0 w K) : Ca Try.prog 60 #[a0] w K :=
  ca_of_vcJ Try.noNum Try.func60 F60_ok (by rw [F60_eq]; exact h)



/-- maps.Clone[map[broadside/disk.place][128]byte,broadside/disk.place,[128]byte] -/
def F61 (a0 : Value) (w : World) (K : Kont) : Prop :=
 rv Try.prog (bin .eql 52 true a0 (.map none)) w fun v0 w1 =>
 ifB v0
 (K (.map none) w1)
 (rv Try.prog (Instr.makeInterface 52 a0) w1 fun v2 w3 =>
 rnx Try.prog 82 [v2] w3 fun v4 w5 =>
 rv Try.prog (Instr.typeAssert v4 20 52 false) w5 fun v6 w7 =>
 K v6 w7)
theorem F61_eq (a0 : Value) (w : World) (K : Kont) : vcFnJ Try.prog Try.f61 [a0] w K = F61 a0 w K := by kernel_rfl
theorem F61_ok : okF Try.prog Try.f61 1 = true := by kernel_rfl
theorem ca61{a0 : Value} {w : World} {K : Kont} (h : F61 a0 w K) : Ca Try.prog 61 #[a0] w K :=
  ca_of_vcJ Try.noNum Try.func61 F61_ok (by rw [F61_eq]; exact h)



/-- slices.Clone[[]broadside/disk.put,broadside/disk.put] -/
def F62 (a0 : Value) (w : World) (K : Kont) : Prop :=
 rv Try.prog (bin .eql 53 true a0 (.slice none 0 0)) w fun v0 w1 =>
 ifB v0
 (K (.slice none 0 0) w1)
 (rx Try.prog (xLit 53 0 []) w1 fun v2 w3 =>
 rx Try.prog (xAppend #[53, 53] 53 [v2, a0]) w3 fun v4 w5 =>
 K v4 w5)
theorem F62_eq (a0 : Value) (w : World) (K : Kont) : vcFnJ Try.prog Try.f62 [a0] w K = F62 a0 w K := by kernel_rfl
theorem F62_ok : okF Try.prog Try.f62 1 = true := by kernel_rfl
theorem ca62{a0 : Value} {w : World} {K : Kont} (h : F62 a0 w K) : Ca Try.prog 62 #[a0] w K :=
  ca_of_vcJ Try.noNum Try.func62 F62_ok (by rw [F62_eq]; exact h)


end Go.Proofs
