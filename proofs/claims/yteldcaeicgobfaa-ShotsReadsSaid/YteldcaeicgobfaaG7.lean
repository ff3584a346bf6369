/-
  Formulas of the program's functions, printed by a program of mine: each is what the computed precondition of the function's body comes to.
  Conditions: none.
-/
import Derived.Test.YteldcaeicgobfaaG0
import Derived.Test.YteldcaeicgobfaaVcFn
set_option linter.unusedSimpArgs false
set_option maxRecDepth 100000
set_option linter.unusedVariables false
namespace Go.Proofs
open Go Go.Vc



/-- broadside/shots.may -/
def F76 (a0 : Value) (w : World) (K : Kont) : Prop :=
 rv Try.prog (Instr.box 83 a0) w fun v0 w1 =>
 rv Try.prog (Instr.fieldAt 83 v0 0) w1 fun v2 w3 =>
 rv Try.prog (Instr.loadAt 27 v2) w3 fun v4 w5 =>
 rv Try.prog (bin .neq 27 true v4 (.int .u64 0)) w5 fun v6 w7 =>
 ifB v6
 (rv Try.prog (Instr.fieldAt 83 v0 2) w7 fun v8 w9 =>
 rv Try.prog (Instr.loadAt 23 v8) w9 fun v10 w11 =>
 rn Try.prog (builtin .len #[23] 3 #[false] #[v10]) w11 fun v12 w13 =>
 rv Try.prog (bin .leq 3 true v12 (.int .i64 524288)) w13 fun v14 w15 =>
 K v14 w15)
 (K (.bool false) w7)
theorem F76_eq (a0 : Value) (w : World) (K : Kont) : vcFnJ Try.prog Try.f76 [a0] w K = F76 a0 w K := by kernel_rfl
theorem F76_ok : okF Try.prog Try.f76 1 = true := by kernel_rfl
theorem ca76{a0 : Value} {w : World} {K : Kont} (h : F76 a0 w K) : Ca Try.prog 76 #[a0] w K :=
  ca_of_vcJ Try.noNum Try.func76 F76_ok (by rw [F76_eq]; exact h)



/-- broadside/shots.mark -/
def F78 (a0 a1 : Value) (w : World) (K : Kont) : Prop :=
 rv Try.prog (Instr.box 83 a1) w fun v0 w1 =>
 rx Try.prog (xMake 23 (.int .i64 0) (.int .i64 128)) w1 fun v2 w3 =>
 rv Try.prog (bin .add 3 true a0 (.int .i64 1)) w3 fun v4 w5 =>
 rv Try.prog (convert 3 5 v4) w5 fun v6 w7 =>
 rx Try.prog (xLit 23 1 [(0, v6)]) w7 fun v8 w9 =>
 rx Try.prog (xAppend #[23, 23] 23 [v2, v8]) w9 fun v10 w11 =>
 rv Try.prog (Instr.fieldAt 83 v0 0) w11 fun v12 w13 =>
 rv Try.prog (Instr.loadAt 27 v12) w13 fun v14 w15 =>
 Ca Try.prog 94 #[v10, v14] w15 fun v16 w17 =>
 rv Try.prog (Instr.fieldAt 83 v0 1) w17 fun v18 w19 =>
 rv Try.prog (Instr.loadAt 27 v18) w19 fun v20 w21 =>
 Ca Try.prog 94 #[v16, v20] w21 fun v22 w23 =>
 rv Try.prog (Instr.fieldAt 83 v0 2) w23 fun v24 w25 =>
 rv Try.prog (Instr.loadAt 23 v24) w25 fun v26 w27 =>
 rn Try.prog (builtin .len #[23] 3 #[false] #[v26]) w27 fun v28 w29 =>
 rv Try.prog (convert 3 27 v28) w29 fun v30 w31 =>
 Ca Try.prog 94 #[v22, v30] w31 fun v32 w33 =>
 rv Try.prog (Instr.fieldAt 83 v0 2) w33 fun v34 w35 =>
 rv Try.prog (Instr.loadAt 23 v34) w35 fun v36 w37 =>
 rx Try.prog (xLit 108 1 [(0, v36)]) w37 fun v38 w39 =>
 Ca Try.prog 87 #[v38] w39 fun v40 w41 =>
 Ca Try.prog 95 #[v32, v40] w41 fun v42 w43 =>
 rv Try.prog (Instr.sliceAt 23 v42 none (some (.int .i64 128)) none) w43 fun v44 w45 =>
 K v44 w45
theorem F78_eq (a0 a1 : Value) (w : World) (K : Kont) : vcFnJ Try.prog Try.f78 [a0, a1] w K = F78 a0 a1 w K := by kernel_rfl
theorem F78_ok : okF Try.prog Try.f78 2 = true := by kernel_rfl
theorem ca78{a0 a1 : Value} {w : World} {K : Kont} (h : F78 a0 a1 w K) : Ca Try.prog 78 #[a0, a1] w K :=
  ca_of_vcJ Try.noNum Try.func78 F78_ok (by rw [F78_eq]; exact h)



/-- broadside/shots.parts -/
def F77 (a0 : Value) (w : World) (K : Kont) : Prop :=
 rv Try.prog (Instr.box 23 a0) w fun v0 w1 =>
 K (.func (.func 93) #[] #[v0]) w1
theorem F77_eq (a0 : Value) (w : World) (K : Kont) : vcFnJ Try.prog Try.f77 [a0] w K = F77 a0 w K := by kernel_rfl
theorem F77_ok : okF Try.prog Try.f77 1 = true := by kernel_rfl
theorem ca77{a0 : Value} {w : World} {K : Kont} (h : F77 a0 w K) : Ca Try.prog 77 #[a0] w K :=
  ca_of_vcJ Try.noNum Try.func77 F77_ok (by rw [F77_eq]; exact h)


def L93_0 (a1 : Value) (a0 : Value) (K : Kont) (s0 : Unit) (w1 : World) (K2 : Unit → World → Prop) : Prop :=
 ∀ _ : Nat → Value,
 rv Try.prog (Instr.loadAt 23 a1) w1 fun v3 w4 =>
 rn Try.prog (builtin .len #[23] 3 #[false] #[v3]) w4 fun v5 w6 =>
 rv Try.prog (bin .gtr 3 true v5 (.int .i64 0)) w6 fun v7 w8 =>
 ifB v7
 (rv Try.prog (Instr.loadAt 23 a1) w8 fun v9 w10 =>
 rn Try.prog (builtin .len #[23] 3 #[false] #[v9]) w10 fun v11 w12 =>
 rn Try.prog (builtin .min #[3, 3] 3 #[false, true] #[v11, (.int .i64 127)]) w12 fun v13 w14 =>
 rx Try.prog (xMake 23 (.int .i64 128) (.int .i64 128)) w14 fun v15 w16 =>
 rv Try.prog (Instr.indexAt 23 v15 (.int .i64 0)) w16 fun v17 w18 =>
 ru Try.prog (Instr.storeAt 5 v17 (.int .u8 9)) w18 fun w19 =>
 rdP Try.prog (Instr.sliceAt 23 v15 (some (.int .i64 1)) none none) fun v20 =>
 rdW Try.prog (Instr.loadAt 23 a1) w19.drew fun v21 =>
 rdP Try.prog (Instr.sliceAt 23 v21 none (some v13) none) fun v22 =>
 rx Try.prog (xCopy #[23, 23] 3 [v20, v22]) w19.drew fun v23 w24 =>
 callV Try.prog a0 [v15] w24 fun v25 w26 =>
 rv Try.prog (Op.unary .not v25) w26 fun v27 w28 =>
 ifB v27
 (K (.tuple #[]) w28)
 (rv Try.prog (Instr.loadAt 23 a1) w28 fun v29 w30 =>
 rv Try.prog (Instr.sliceAt 23 v29 (some v13) none none) w30 fun v31 w32 =>
 ru Try.prog (Instr.storeAt 23 a1 v31) w32 fun w33 =>
 K2 (()) w33))
 (K (.tuple #[]) w8)

/-- broadside/shots.parts$1 -/
def F93 (a0 a1 : Value) (w : World) (K : Kont) : Prop :=
 LoopW (S := Unit) (L93_0 a1 a0 K) (()) w
theorem F93_eq (a0 a1 : Value) (w : World) (K : Kont) : vcFnJ Try.prog Try.f93 [a0, a1] w K = F93 a0 a1 w K := by kernel_rfl
theorem F93_ok : okF Try.prog Try.f93 2 = true := by kernel_rfl
theorem ca93{a0 a1 : Value} {w : World} {K : Kont} (h : F93 a0 a1 w K) : Ca Try.prog 93 #[a0, a1] w K :=
  ca_of_vcJ Try.noNum Try.func93 F93_ok (by rw [F93_eq]; exact h)



/-- broadside/shots.sectors -/
def F102 (a0 : Value) (w : World) (K : Kont) : Prop :=
 rv Try.prog (bin .add 3 true a0 (.int .i64 127)) w fun v0 w1 =>
 rv Try.prog (bin .sub 3 true v0 (.int .i64 1)) w1 fun v2 w3 =>
 rv Try.prog (bin .quo 3 true v2 (.int .i64 127)) w3 fun v4 w5 =>
 K v4 w5
theorem F102_eq (a0 : Value) (w : World) (K : Kont) : vcFnJ Try.prog Try.f102 [a0] w K = F102 a0 w K := by kernel_rfl
theorem F102_ok : okF Try.prog Try.f102 1 = true := by kernel_rfl
theorem ca102{a0 : Value} {w : World} {K : Kont} (h : F102 a0 w K) : Ca Try.prog 102 #[a0] w K :=
  ca_of_vcJ Try.noNum Try.func102 F102_ok (by rw [F102_eq]; exact h)



/-- broadside/shots.read -/
def F71 (a0 a1 : Value) (w : World) (K : Kont) : Prop :=
 rv Try.prog (Instr.alloc 83 true (.tuple #[])) w fun v0 w1 =>
 Ca Try.prog 20 #[a0, a1, (.int .i64 0), (.int .i64 3)] w1 fun v2 w3 =>
 rv Try.prog (Instr.extract v2 0) w3 fun v4 w5 =>
 rv Try.prog (Instr.extract v2 1) w5 fun v6 w7 =>
 rv Try.prog (bin .neq 28 true v6 (.int .i64 0)) w7 fun v8 w9 =>
 ifB v8
 (rv Try.prog (Instr.build 83 #[]) w9 fun v10 w11 =>
 ru Try.prog (Instr.storeAt 83 v0 v10) w11 fun w12 =>
 rdW Try.prog (Instr.loadAt 83 v0) w12 fun v13 =>
 K (.tuple #[v13, (.slice none 0 0), v6]) w12)
 (Ca Try.prog 90 #[a0, a1, v4] w9 fun v14 w15 =>
 rv Try.prog (Instr.extract v14 0) w15 fun v16 w17 =>
 rv Try.prog (Instr.extract v14 1) w17 fun v18 w19 =>
 rv Try.prog (Instr.alloc 83 true (.tuple #[])) w19 fun v20 w21 =>
 ru Try.prog (Instr.storeAt 83 v20 v16) w21 fun w22 =>
 rv Try.prog (Instr.loadAt 83 v20) w22 fun v23 w24 =>
 ru Try.prog (Instr.storeAt 83 v0 v23) w24 fun w25 =>
 rdW Try.prog (Instr.loadAt 83 v0) w25 fun v26 =>
 K (.tuple #[v26, v4, v18]) w25)
theorem F71_eq (a0 a1 : Value) (w : World) (K : Kont) : vcFnJ Try.prog Try.f71 [a0, a1] w K = F71 a0 a1 w K := by kernel_rfl
theorem F71_ok : okF Try.prog Try.f71 2 = true := by kernel_rfl
theorem ca71{a0 a1 : Value} {w : World} {K : Kont} (h : F71 a0 a1 w K) : Ca Try.prog 71 #[a0, a1] w K :=
  ca_of_vcJ Try.noNum Try.func71 F71_ok (by rw [F71_eq]; exact h)



/-- broadside/shots.noughts -/
def F72 (a0 : Value) (w : World) (K : Kont) : Prop :=
 rn Try.prog (builtin .len #[23] 3 #[false] #[a0]) w fun v0 w1 =>
 rx Try.prog (xMake 23 v0 v0) w1 fun v2 w3 =>
 Ca Try.prog 91 #[a0, v2] w3 fun v4 w5 =>
 K v4 w5
theorem F72_eq (a0 : Value) (w : World) (K : Kont) : vcFnJ Try.prog Try.f72 [a0] w K = F72 a0 w K := by kernel_rfl
theorem F72_ok : okF Try.prog Try.f72 1 = true := by kernel_rfl
theorem ca72{a0 : Value} {w : World} {K : Kont} (h : F72 a0 w K) : Ca Try.prog 72 #[a0] w K :=
  ca_of_vcJ Try.noNum Try.func72 F72_ok (by rw [F72_eq]; exact h)


def L90_0 (a2 : Value) (s4 : Value × Unit) (v0 : Value) (v2 : Value) (mk127 : List Nat) (K : Kont) (s144 : Value × Unit) (w145 : World) (K146 : Value × Unit → World → Prop) : Prop :=
 ∀ _ : Nat → Value,
 rv Try.prog (bin .lss 3 true s144.1 (.int .i64 3)) w145 fun v147 w148 =>
 ifB v147
 (rdP Try.prog (bin .mul 3 true s144.1 (.int .i64 128)) fun v149 =>
 rdP Try.prog (bin .add 3 true s144.1 (.int .i64 1)) fun v150 =>
 rdP Try.prog (bin .mul 3 true v150 (.int .i64 128)) fun v151 =>
 rdP Try.prog (Instr.sliceAt 23 a2 (some v149) (some v151) none) fun v152 =>
 rdW Try.prog (Instr.loadAt 83 s4.1) w148.drew fun v153 =>
 Ca Try.prog 78 #[s144.1, v153] w148.drew fun v154 w155 =>
 Ca Try.prog 91 #[v152, v154] w155 fun v156 w157 =>
 rdP Try.prog (Op.unary .not v156) fun v158 =>
 ifB v158
 (rv Try.prog (Instr.build 83 #[]) w157 fun v159 w160 =>
 ru Try.prog (Instr.storeAt 83 v0 v159) w160 fun w161 =>
 ru Try.prog (Instr.storeAt 28 v2 (.int .i64 0)) w161 fun w162 =>
 retD (mk127 ++ []) w162 fun w163 =>
 rdW Try.prog (Instr.loadAt 83 v0) w163 fun v164 =>
 rdW Try.prog (Instr.loadAt 28 v2) w163 fun v165 =>
 K (.tuple #[v164, v165]) w163)
 (rv Try.prog (bin .add 3 true s144.1 (.int .i64 1)) w157 fun v166 w167 =>
 K146 (v166, ()) w167))
 (rv Try.prog (Instr.loadAt 83 s4.1) w148 fun v168 w169 =>
 ru Try.prog (Instr.storeAt 83 v0 v168) w169 fun w170 =>
 ru Try.prog (Instr.storeAt 28 v2 (.int .i64 0)) w170 fun w171 =>
 retD (mk127 ++ []) w171 fun w172 =>
 rdW Try.prog (Instr.loadAt 83 v0) w172 fun v173 =>
 rdW Try.prog (Instr.loadAt 28 v2) w172 fun v174 =>
 K (.tuple #[v173, v174]) w172)

def L90_1 (a2 : Value) (s4 : Value × Unit) (v0 : Value) (v2 : Value) (mk127 : List Nat) (K : Kont) (s194 : Value × Unit) (w195 : World) (K196 : Value × Unit → World → Prop) : Prop :=
 ∀ _ : Nat → Value,
 rv Try.prog (bin .lss 3 true s194.1 (.int .i64 3)) w195 fun v197 w198 =>
 ifB v197
 (rdP Try.prog (bin .mul 3 true s194.1 (.int .i64 128)) fun v199 =>
 rdP Try.prog (bin .add 3 true s194.1 (.int .i64 1)) fun v200 =>
 rdP Try.prog (bin .mul 3 true v200 (.int .i64 128)) fun v201 =>
 rdP Try.prog (Instr.sliceAt 23 a2 (some v199) (some v201) none) fun v202 =>
 rdW Try.prog (Instr.loadAt 83 s4.1) w198.drew fun v203 =>
 Ca Try.prog 78 #[s194.1, v203] w198.drew fun v204 w205 =>
 Ca Try.prog 91 #[v202, v204] w205 fun v206 w207 =>
 rdP Try.prog (Op.unary .not v206) fun v208 =>
 ifB v208
 (rv Try.prog (Instr.build 83 #[]) w207 fun v209 w210 =>
 ru Try.prog (Instr.storeAt 83 v0 v209) w210 fun w211 =>
 ru Try.prog (Instr.storeAt 28 v2 (.int .i64 0)) w211 fun w212 =>
 retD (mk127 ++ []) w212 fun w213 =>
 rdW Try.prog (Instr.loadAt 83 v0) w213 fun v214 =>
 rdW Try.prog (Instr.loadAt 28 v2) w213 fun v215 =>
 K (.tuple #[v214, v215]) w213)
 (rv Try.prog (bin .add 3 true s194.1 (.int .i64 1)) w207 fun v216 w217 =>
 K196 (v216, ()) w217))
 (rv Try.prog (Instr.loadAt 83 s4.1) w198 fun v218 w219 =>
 ru Try.prog (Instr.storeAt 83 v0 v218) w219 fun w220 =>
 ru Try.prog (Instr.storeAt 28 v2 (.int .i64 0)) w220 fun w221 =>
 retD (mk127 ++ []) w221 fun w222 =>
 rdW Try.prog (Instr.loadAt 83 v0) w222 fun v223 =>
 rdW Try.prog (Instr.loadAt 28 v2) w222 fun v224 =>
 K (.tuple #[v223, v224]) w222)

def R90_2 (v55 : Value) (v0 : Value) (v2 : Value) (l104 : Nat) (x105 : List Value) (w106 : World) (KN107 : World → Prop) (KJ108 : Code → World → Prop) : Prop :=
 beginK l104 w106 fun w109 =>
 rv Try.prog (Instr.loadAt 23 v55) w109 fun v110 w111 =>
 rv Try.prog (Instr.sliceAt 23 v110 none (some (.int .i64 128)) none) w111 fun v112 w113 =>
 Ca Try.prog 91 #[(x105.getD 0 undef), v112] w113 fun v114 w115 =>
 rv Try.prog (Op.unary .not v114) w115 fun v116 w117 =>
 ifB v116
 (rv Try.prog (Instr.build 83 #[]) w117 fun v118 w119 =>
 ru Try.prog (Instr.storeAt 83 v0 v118) w119 fun w120 =>
 ru Try.prog (Instr.storeAt 28 v2 (.int .i64 0)) w120 fun w121 =>
 KJ108 .ret w121)
 (rv Try.prog (Instr.loadAt 23 v55) w117 fun v122 w123 =>
 rv Try.prog (Instr.sliceAt 23 v122 (some (.int .i64 128)) none none) w123 fun v124 w125 =>
 ru Try.prog (Instr.storeAt 23 v55 v124) w125 fun w126 =>
 KN107 w126)

def A90_3 (s4 : Value × Unit) (v0 : Value) (v2 : Value) (K : Kont) (a2 : Value) (mk127 : List Nat) (pd128 : Option Code) (w129 : World) : Prop :=
 afterK
 (fun w130 =>
 rv Try.prog (Instr.loadAt 83 s4.1) w130 fun v131 w132 =>
 Ca Try.prog 76 #[v131] w132 fun v133 w134 =>
 rv Try.prog (Op.unary .not v133) w134 fun v135 w136 =>
 ifB v135
 (rv Try.prog (Instr.build 83 #[]) w136 fun v137 w138 =>
 ru Try.prog (Instr.storeAt 83 v0 v137) w138 fun w139 =>
 ru Try.prog (Instr.storeAt 28 v2 (.int .i64 0)) w139 fun w140 =>
 retD (mk127 ++ []) w140 fun w141 =>
 rdW Try.prog (Instr.loadAt 83 v0) w141 fun v142 =>
 rdW Try.prog (Instr.loadAt 28 v2) w141 fun v143 =>
 K (.tuple #[v142, v143]) w141)
 (LoopW (S := Value × Unit) (L90_0 a2 s4 v0 v2 mk127 K) ((.int .i64 0), ()) w136))
 (fun w175 =>
 retD (mk127 ++ []) w175 fun w176 =>
 rdW Try.prog (Instr.loadAt 83 v0) w176 fun v177 =>
 rdW Try.prog (Instr.loadAt 28 v2) w176 fun v178 =>
 K (.tuple #[v177, v178]) w176)
 (fun i180 w179 =>
 bc (Nat.beq i180 2)
 (rv Try.prog (Instr.loadAt 83 s4.1) w179 fun v181 w182 =>
 Ca Try.prog 76 #[v181] w182 fun v183 w184 =>
 rv Try.prog (Op.unary .not v183) w184 fun v185 w186 =>
 ifB v185
 (rv Try.prog (Instr.build 83 #[]) w186 fun v187 w188 =>
 ru Try.prog (Instr.storeAt 83 v0 v187) w188 fun w189 =>
 ru Try.prog (Instr.storeAt 28 v2 (.int .i64 0)) w189 fun w190 =>
 retD (mk127 ++ []) w190 fun w191 =>
 rdW Try.prog (Instr.loadAt 83 v0) w191 fun v192 =>
 rdW Try.prog (Instr.loadAt 28 v2) w191 fun v193 =>
 K (.tuple #[v192, v193]) w191)
 (LoopW (S := Value × Unit) (L90_1 a2 s4 v0 v2 mk127 K) ((.int .i64 0), ()) w186))
 (False)) pd128 w129

def L90_4 (v68 : Value) (s4 : Value × Unit) (v55 : Value) (v33 : Value) (v0 : Value) (v2 : Value) (K : Kont) (a2 : Value) (s70 : Value × Unit) (w71 : World) (K72 : Value × Unit → World → Prop) : Prop :=
 ∀ _ : Nat → Value,
 rv Try.prog (bin .lss 3 false s70.1 v68) w71 fun v73 w74 =>
 ifB v73
 (rdP Try.prog (Instr.fieldAt 83 s4.1 2) fun v75 =>
 rdW Try.prog (Instr.loadAt 23 v75) w74.drew fun v76 =>
 rdW Try.prog (Instr.loadAt 23 v55) w74.drew fun v77 =>
 rdP Try.prog (bin .mul 3 true s70.1 (.int .i64 128)) fun v78 =>
 rdP Try.prog (bin .add 3 true v78 (.int .i64 1)) fun v79 =>
 rdP Try.prog (bin .add 3 true s70.1 (.int .i64 1)) fun v80 =>
 rdP Try.prog (bin .mul 3 true v80 (.int .i64 128)) fun v81 =>
 rdP Try.prog (Instr.sliceAt 23 v77 (some v79) (some v81) none) fun v82 =>
 rx Try.prog (xAppend #[23, 23] 23 [v76, v82]) w74.drew fun v83 w84 =>
 rdP Try.prog (Instr.fieldAt 83 s4.1 2) fun v85 =>
 ru Try.prog (Instr.storeAt 23 v85 v83) w84 fun w86 =>
 rv Try.prog (bin .add 3 true s70.1 (.int .i64 1)) w86 fun v87 w88 =>
 K72 (v87, ()) w88)
 (rv Try.prog (Instr.fieldAt 83 s4.1 2) w74 fun v89 w90 =>
 rv Try.prog (Instr.loadAt 23 v89) w90 fun v91 w92 =>
 rv Try.prog (Instr.sliceAt 23 v91 none (some v33) none) w92 fun v93 w94 =>
 rv Try.prog (Instr.fieldAt 83 s4.1 2) w94 fun v95 w96 =>
 ru Try.prog (Instr.storeAt 23 v95 v93) w96 fun w97 =>
 rv Try.prog (Instr.fieldAt 83 s4.1 2) w97 fun v98 w99 =>
 rv Try.prog (Instr.loadAt 23 v98) w99 fun v100 w101 =>
 Ca Try.prog 77 #[v100] w101 fun v102 w103 =>
 RFW Try.prog none v102 w103 1 (R90_2 v55 v0 v2) (A90_3 s4 v0 v2 K a2))

def L90_5 (a2 : Value) (s4 : Value × Unit) (v0 : Value) (v2 : Value) (K : Kont) (s237 : Value × Unit) (w238 : World) (K239 : Value × Unit → World → Prop) : Prop :=
 ∀ _ : Nat → Value,
 rv Try.prog (bin .lss 3 true s237.1 (.int .i64 3)) w238 fun v240 w241 =>
 ifB v240
 (rdP Try.prog (bin .mul 3 true s237.1 (.int .i64 128)) fun v242 =>
 rdP Try.prog (bin .add 3 true s237.1 (.int .i64 1)) fun v243 =>
 rdP Try.prog (bin .mul 3 true v243 (.int .i64 128)) fun v244 =>
 rdP Try.prog (Instr.sliceAt 23 a2 (some v242) (some v244) none) fun v245 =>
 rdW Try.prog (Instr.loadAt 83 s4.1) w241.drew fun v246 =>
 Ca Try.prog 78 #[s237.1, v246] w241.drew fun v247 w248 =>
 Ca Try.prog 91 #[v245, v247] w248 fun v249 w250 =>
 rdP Try.prog (Op.unary .not v249) fun v251 =>
 ifB v251
 (rv Try.prog (Instr.build 83 #[]) w250 fun v252 w253 =>
 ru Try.prog (Instr.storeAt 83 v0 v252) w253 fun w254 =>
 ru Try.prog (Instr.storeAt 28 v2 (.int .i64 0)) w254 fun w255 =>
 rdW Try.prog (Instr.loadAt 83 v0) w255 fun v256 =>
 rdW Try.prog (Instr.loadAt 28 v2) w255 fun v257 =>
 K (.tuple #[v256, v257]) w255)
 (rv Try.prog (bin .add 3 true s237.1 (.int .i64 1)) w250 fun v258 w259 =>
 K239 (v258, ()) w259))
 (rv Try.prog (Instr.loadAt 83 s4.1) w241 fun v260 w261 =>
 ru Try.prog (Instr.storeAt 83 v0 v260) w261 fun w262 =>
 ru Try.prog (Instr.storeAt 28 v2 (.int .i64 0)) w262 fun w263 =>
 rdW Try.prog (Instr.loadAt 83 v0) w263 fun v264 =>
 rdW Try.prog (Instr.loadAt 28 v2) w263 fun v265 =>
 K (.tuple #[v264, v265]) w263)

def J90_6 (a2 : Value) (v0 : Value) (v2 : Value) (K : Kont) (a0 : Value) (a1 : Value) (s4 : Value × Unit) (w5 : World) : Prop :=
 ∀ _ : Nat → Value,
 rv Try.prog (Instr.sliceAt 23 a2 (some (.int .i64 17)) none none) w5 fun v31 w32 =>
 Ca Try.prog 101 #[v31] w32 fun v33 w34 =>
 rv Try.prog (bin .gtr 27 true v33 (.int .u64 524288)) w34 fun v35 w36 =>
 ifB v35
 (rv Try.prog (Instr.build 83 #[]) w36 fun v37 w38 =>
 ru Try.prog (Instr.storeAt 83 v0 v37) w38 fun w39 =>
 ru Try.prog (Instr.storeAt 28 v2 (.int .i64 0)) w39 fun w40 =>
 rdW Try.prog (Instr.loadAt 83 v0) w40 fun v41 =>
 rdW Try.prog (Instr.loadAt 28 v2) w40 fun v42 =>
 K (.tuple #[v41, v42]) w40)
 (rv Try.prog (bin .gtr 27 true v33 (.int .u64 0)) w36 fun v43 w44 =>
 ifB v43
 (rv Try.prog (convert 27 3 v33) w44 fun v45 w46 =>
 Ca Try.prog 102 #[v45] w46 fun v47 w48 =>
 Ca Try.prog 20 #[a0, a1, (.int .i64 3), v47] w48 fun v49 w50 =>
 rv Try.prog (Instr.extract v49 0) w50 fun v51 w52 =>
 rv Try.prog (Instr.extract v49 1) w52 fun v53 w54 =>
 rv Try.prog (Instr.alloc 23 true (.tuple #[])) w54 fun v55 w56 =>
 ru Try.prog (Instr.storeAt 23 v55 v51) w56 fun w57 =>
 rv Try.prog (bin .neq 28 true v53 (.int .i64 0)) w57 fun v58 w59 =>
 ifB v58
 (rv Try.prog (Instr.build 83 #[]) w59 fun v60 w61 =>
 ru Try.prog (Instr.storeAt 83 v0 v60) w61 fun w62 =>
 ru Try.prog (Instr.storeAt 28 v2 v53) w62 fun w63 =>
 rdW Try.prog (Instr.loadAt 83 v0) w63 fun v64 =>
 rdW Try.prog (Instr.loadAt 28 v2) w63 fun v65 =>
 K (.tuple #[v64, v65]) w63)
 (rv Try.prog (convert 27 3 v33) w59 fun v66 w67 =>
 Ca Try.prog 102 #[v66] w67 fun v68 w69 =>
 LoopW (S := Value × Unit) (L90_4 v68 s4 v55 v33 v0 v2 K a2) ((.int .i64 0), ()) w69))
 (rv Try.prog (Instr.loadAt 83 s4.1) w44 fun v225 w226 =>
 Ca Try.prog 76 #[v225] w226 fun v227 w228 =>
 rv Try.prog (Op.unary .not v227) w228 fun v229 w230 =>
 ifB v229
 (rv Try.prog (Instr.build 83 #[]) w230 fun v231 w232 =>
 ru Try.prog (Instr.storeAt 83 v0 v231) w232 fun w233 =>
 ru Try.prog (Instr.storeAt 28 v2 (.int .i64 0)) w233 fun w234 =>
 rdW Try.prog (Instr.loadAt 83 v0) w234 fun v235 =>
 rdW Try.prog (Instr.loadAt 28 v2) w234 fun v236 =>
 K (.tuple #[v235, v236]) w234)
 (LoopW (S := Value × Unit) (L90_5 a2 s4 v0 v2 K) ((.int .i64 0), ()) w230)))

/-- broadside/shots.counted -/
def F90 (a0 a1 a2 : Value) (w : World) (K : Kont) : Prop :=
 rv Try.prog (Instr.alloc 83 true (.tuple #[])) w fun v0 w1 =>
 rv Try.prog (Instr.alloc 28 true (.tuple #[])) w1 fun v2 w3 =>
 JoinW (S := Value × Unit) (fun J6 =>
 rdP Try.prog (Instr.sliceAt 23 a2 (some (.int .i64 1)) none none) fun v7 =>
 rdP Try.prog (Instr.sliceAt 23 a2 (some (.int .i64 9)) none none) fun v8 =>
 (Ca Try.prog 101 #[v7] w3.drew fun v9 w10 =>
 (Ca Try.prog 101 #[v8] w10 fun v11 w12 =>
 rdP Try.prog (Instr.build 83 #[(0, v9), (1, v11)]) fun v13 =>
 rv Try.prog (Instr.alloc 83 true (.tuple #[])) w12 fun v14 w15 =>
 ru Try.prog (Instr.storeAt 83 v14 v13) w15 fun w16 =>
 J6 (v14, ()) w16)
 ∧ (rv Try.prog (Instr.alloc 83 true (.tuple #[])) w10 fun v17 w18 =>
 Ca Try.prog 101 #[v8] w18 fun v19 w20 =>
 rdP Try.prog (Instr.build 83 #[(0, v9), (1, v19)]) fun v21 =>
 ru Try.prog (Instr.storeAt 83 v17 v21) w20 fun w22 =>
 J6 (v17, ()) w22))
 ∧ (rv Try.prog (Instr.alloc 83 true (.tuple #[])) w3.drew fun v23 w24 =>
 Ca Try.prog 101 #[v7] w24 fun v25 w26 =>
 Ca Try.prog 101 #[v8] w26 fun v27 w28 =>
 rdP Try.prog (Instr.build 83 #[(0, v25), (1, v27)]) fun v29 =>
 ru Try.prog (Instr.storeAt 83 v23 v29) w28 fun w30 =>
 J6 (v23, ()) w30))
 (J90_6 a2 v0 v2 K a0 a1)
theorem F90_eq (a0 a1 a2 : Value) (w : World) (K : Kont) : vcFnJ Try.prog Try.f90 [a0, a1, a2] w K = F90 a0 a1 a2 w K := by kernel_rfl
theorem F90_ok : okF Try.prog Try.f90 3 = true := by kernel_rfl
theorem ca90{a0 a1 a2 : Value} {w : World} {K : Kont} (h : F90 a0 a1 a2 w K) : Ca Try.prog 90 #[a0, a1, a2] w K :=
  ca_of_vcJ Try.noNum Try.func90 F90_ok (by rw [F90_eq]; exact h)


def J42_0 (v4 : Value) (s39 : Value × Value × Value × Value × Unit) (K : Kont) (K41 : Value × Value × Value × Value × Unit → World → Prop) (s68 : Value × Unit) (w69 : World) : Prop :=
 ∀ _ : Nat → Value,
 ifB s68.1
 (Ca Try.prog 73 #[v4, s39.2.2.2.1] w69 fun v88 w89 =>
 rv Try.prog (bin .neq 28 true v88 (.int .i64 0)) w89 fun v90 w91 =>
 ifB v90
 (K (.tuple #[(.pointer none), v88]) w91)
 (rv Try.prog (bin .add 3 true s39.2.2.2.1 (.int .i64 1)) w91 fun v92 w93 =>
 K41 (s39.1, s39.2.1, (.bool true), v92, ()) w93))
 (rv Try.prog (bin .add 3 true s39.2.2.2.1 (.int .i64 1)) w69 fun v94 w95 =>
 K41 (s39.1, s39.2.1, s39.2.2.1, v94, ()) w95)

def J42_1 (K : Kont) (v4 : Value) (s96 : Value × Value × Unit) (w97 : World) : Prop :=
 ∀ _ : Nat → Value,
 K (.tuple #[v4, (.int .i64 0)]) w97

def L42_2 (v37 : Value) (v4 : Value) (K : Kont) (a0 : Value) (s39 : Value × Value × Value × Value × Unit) (w40 : World) (K41 : Value × Value × Value × Value × Unit → World → Prop) : Prop :=
 ∀ _ : Nat → Value,
 rv Try.prog (bin .lss 3 true s39.2.2.2.1 (.int .i64 2)) w40 fun v42 w43 =>
 ifB v42
 (rv Try.prog (Instr.index 133 v37 s39.2.2.2.1) w43 fun v44 w45 =>
 rv Try.prog (Instr.alloc 83 true (.tuple #[])) w45 fun v46 w47 =>
 ru Try.prog (Instr.storeAt 83 v46 v44) w47 fun w48 =>
 rdP Try.prog (Instr.fieldAt 83 v46 0) fun v49 =>
 rdW Try.prog (Instr.loadAt 27 v49) w48.drew fun v50 =>
 nilK v4 fun v51 => rdP Try.prog (Instr.fieldAt 90 v51 3) fun v52 =>
 rdP Try.prog (Instr.fieldAt 83 v52 0) fun v53 =>
 rdW Try.prog (Instr.loadAt 27 v53) w48.drew fun v54 =>
 rdP Try.prog (bin .gtr 27 false v50 v54) fun v55 =>
 ifB v55
 (rv Try.prog (Instr.loadAt 83 v46) w48.drew fun v56 w57 =>
 nilK v4 fun v58 => rv Try.prog (Instr.fieldAt 90 v58 3) w57 fun v59 w60 =>
 ru Try.prog (Instr.storeAt 83 v59 v56) w60 fun w61 =>
 nilK v4 fun v62 => rv Try.prog (Instr.fieldAt 90 v62 2) w61 fun v63 w64 =>
 ru Try.prog (Instr.storeAt 3 v63 s39.2.2.2.1) w64 fun w65 =>
 rv Try.prog (bin .add 3 true s39.2.2.2.1 (.int .i64 1)) w65 fun v66 w67 =>
 K41 (s39.1, s39.2.1, s39.2.2.1, v66, ()) w67)
 (JoinW (S := Value × Unit) (fun J70 =>
 rv Try.prog (Instr.fieldAt 83 v46 0) w48.drew fun v71 w72 =>
 rv Try.prog (Instr.loadAt 27 v71) w72 fun v73 w74 =>
 rv Try.prog (bin .eql 27 true v73 (.int .u64 0)) w74 fun v75 w76 =>
 ifB v75
 (nilK v4 fun v77 => rv Try.prog (Instr.fieldAt 90 v77 4) w76 fun v78 w79 =>
 rv Try.prog (Instr.indexAt 88 v78 s39.2.2.2.1) w79 fun v80 w81 =>
 rv Try.prog (Instr.loadAt 23 v80) w81 fun v82 w83 =>
 Ca Try.prog 72 #[v82] w83 fun v84 w85 =>
 rv Try.prog (Op.unary .not v84) w85 fun v86 w87 =>
 J70 (v86, ()) w87)
 (J70 ((.bool false), ()) w76))
 (J42_0 v4 s39 K K41)))
 (JoinW (S := Value × Value × Unit) (fun J98 =>
 ifB s39.2.2.1
 (Ca Try.prog 16 #[a0] w43 fun v99 w100 =>
 rv Try.prog (bin .neq 28 true v99 (.int .i64 0)) w100 fun v101 w102 =>
 ifB v101
 (K (.tuple #[(.pointer none), v99]) w102)
 (J98 (s39.2.1, s39.1, ()) w102))
 (J98 (s39.2.1, s39.1, ()) w43))
 (J42_1 K v4))

def L42_3 (v11 : Value) (v4 : Value) (a0 : Value) (v6 : Value) (K : Kont) (a1 : Value) (a2 : Value) (s13 : Value × Value × Value × Unit) (w14 : World) (K15 : Value × Value × Value × Unit → World → Prop) : Prop :=
 ∀ _ : Nat → Value,
 rv Try.prog (bin .lss 3 true s13.2.2.1 (.int .i64 2)) w14 fun v16 w17 =>
 ifB v16
 (rv Try.prog (Instr.index 87 v11 s13.2.2.1) w17 fun v18 w19 =>
 nilK v4 fun v20 => rdP Try.prog (Instr.fieldAt 90 v20 4) fun v21 =>
 Ca Try.prog 71 #[a0, v18] w19.drew fun v22 w23 =>
 rdP Try.prog (Instr.extract v22 0) fun v24 =>
 rdP Try.prog (Instr.extract v22 1) fun v25 =>
 rdP Try.prog (Instr.extract v22 2) fun v26 =>
 rdP Try.prog (Instr.indexAt 133 v6 s13.2.2.1) fun v27 =>
 ru Try.prog (Instr.storeAt 83 v27 v24) w23 fun w28 =>
 rdP Try.prog (Instr.indexAt 88 v21 s13.2.2.1) fun v29 =>
 ru Try.prog (Instr.storeAt 23 v29 v25) w28 fun w30 =>
 rv Try.prog (bin .neq 28 true v26 (.int .i64 0)) w30 fun v31 w32 =>
 ifB v31
 (K (.tuple #[(.pointer none), v26]) w32)
 (rv Try.prog (bin .add 3 true s13.2.2.1 (.int .i64 1)) w32 fun v33 w34 =>
 K15 (s13.1, s13.2.1, v33, ()) w34))
 (rv Try.prog (bin .eql 3 false a1 a2) w17 fun v35 w36 =>
 ifB v35
 (K (.tuple #[(.pointer none), (.int .i64 2)]) w36)
 (rv Try.prog (Instr.loadAt 133 v6) w36 fun v37 w38 =>
 LoopW (S := Value × Value × Value × Value × Unit) (L42_2 v37 v4 K a0) (s13.2.1, s13.1, (.bool false), (.int .i64 0), ()) w38))

/-- broadside/shots.Open -/
def F42 (a0 a1 a2 : Value) (w : World) (K : Kont) : Prop :=
 rv Try.prog (Instr.build 87 #[(0, a1), (1, a2)]) w fun v0 w1 =>
 rv Try.prog (Instr.build 90 #[(0, a0), (1, v0), (2, (.int .i64 1))]) w1 fun v2 w3 =>
 rv Try.prog (Instr.box 90 v2) w3 fun v4 w5 =>
 rv Try.prog (Instr.alloc 133 true (.tuple #[])) w5 fun v6 w7 =>
 nilK v4 fun v8 => rv Try.prog (Instr.fieldAt 90 v8 1) w7 fun v9 w10 =>
 rv Try.prog (Instr.loadAt 87 v9) w10 fun v11 w12 =>
 LoopW (S := Value × Value × Value × Unit) (L42_3 v11 v4 a0 v6 K a1 a2) ((.pointer none), (.int .i64 0), (.int .i64 0), ()) w12
theorem F42_eq (a0 a1 a2 : Value) (w : World) (K : Kont) : vcFnJ Try.prog Try.f42 [a0, a1, a2] w K = F42 a0 a1 a2 w K := by kernel_rfl
theorem F42_ok : okF Try.prog Try.f42 3 = true := by kernel_rfl
theorem ca42{a0 a1 a2 : Value} {w : World} {K : Kont} (h : F42 a0 a1 a2 w K) : Ca Try.prog 42 #[a0, a1, a2] w K :=
  ca_of_vcJ Try.noNum Try.func42 F42_ok (by rw [F42_eq]; exact h)


def L73_0 (a0 : Value) (a1 : Value) (K : Kont) (s0 : Value × Value × Unit) (w1 : World) (K2 : Value × Value × Unit → World → Prop) : Prop :=
 ∀ _ : Nat → Value,
 rv Try.prog (bin .lss 3 true s0.2.1 (.int .i64 3)) w1 fun v3 w4 =>
 ifB v3
 (nilK a0 fun v5 => rv Try.prog (Instr.fieldAt 90 v5 4) w4 fun v6 w7 =>
 rv Try.prog (Instr.indexAt 88 v6 a1) w7 fun v8 w9 =>
 rv Try.prog (Instr.loadAt 23 v8) w9 fun v10 w11 =>
 rv Try.prog (bin .mul 3 true s0.2.1 (.int .i64 128)) w11 fun v12 w13 =>
 rv Try.prog (bin .add 3 true s0.2.1 (.int .i64 1)) w13 fun v14 w15 =>
 rv Try.prog (bin .mul 3 true v14 (.int .i64 128)) w15 fun v16 w17 =>
 rv Try.prog (Instr.sliceAt 23 v10 (some v12) (some v16) none) w17 fun v18 w19 =>
 Ca Try.prog 72 #[v18] w19 fun v20 w21 =>
 ifB v20
 (rv Try.prog (bin .add 3 true s0.2.1 (.int .i64 1)) w21 fun v22 w23 =>
 K2 (s0.1, v22, ()) w23)
 (rx Try.prog (xClear #[23] 0 [v18]) w21 fun v24 w25 =>
 nilK a0 fun v26 => rdP Try.prog (Instr.fieldAt 90 v26 0) fun v27 =>
 rdW Try.prog (Instr.loadAt 25 v27) w25.drew fun v28 =>
 nilK a0 fun v29 => rdP Try.prog (Instr.fieldAt 90 v29 1) fun v30 =>
 rdP Try.prog (Instr.indexAt 87 v30 a1) fun v31 =>
 rdW Try.prog (Instr.loadAt 3 v31) w25.drew fun v32 =>
 Ca Try.prog 17 #[v28, v32, s0.2.1, v18] w25.drew fun v33 w34 =>
 rv Try.prog (bin .neq 28 true v33 (.int .i64 0)) w34 fun v35 w36 =>
 ifB v35
 (K v33 w36)
 (rv Try.prog (bin .add 3 true s0.2.1 (.int .i64 1)) w36 fun v37 w38 =>
 K2 (s0.1, v37, ()) w38)))
 (K (.int .i64 0) w4)

/-- (*broadside/shots.Shots).blank -/
def F73 (a0 a1 : Value) (w : World) (K : Kont) : Prop :=
 LoopW (S := Value × Value × Unit) (L73_0 a0 a1 K) ((.int .i64 0), (.int .i64 0), ()) w
theorem F73_eq (a0 a1 : Value) (w : World) (K : Kont) : vcFnJ Try.prog Try.f73 [a0, a1] w K = F73 a0 a1 w K := by kernel_rfl
theorem F73_ok : okF Try.prog Try.f73 2 = true := by kernel_rfl
theorem ca73{a0 a1 : Value} {w : World} {K : Kont} (h : F73 a0 a1 w K) : Ca Try.prog 73 #[a0, a1] w K :=
  ca_of_vcJ Try.noNum Try.func73 F73_ok (by rw [F73_eq]; exact h)



/-- (*broadside/shots.Shots).none -/
def F74 (a0 : Value) (w : World) (K : Kont) : Prop :=
 rv Try.prog (bin .eql 84 true a0 (.pointer none)) w fun v0 w1 =>
 ifB v0
 (K (.bool true) w1)
 (nilK a0 fun v2 => rv Try.prog (Instr.fieldAt 90 v2 0) w1 fun v3 w4 =>
 rv Try.prog (Instr.loadAt 25 v3) w4 fun v5 w6 =>
 rv Try.prog (bin .eql 25 true v5 (.pointer none)) w6 fun v7 w8 =>
 K v7 w8)
theorem F74_eq (a0 : Value) (w : World) (K : Kont) : vcFnJ Try.prog Try.f74 [a0] w K = F74 a0 w K := by kernel_rfl
theorem F74_ok : okF Try.prog Try.f74 1 = true := by kernel_rfl
theorem ca74{a0 : Value} {w : World} {K : Kont} (h : F74 a0 w K) : Ca Try.prog 74 #[a0] w K :=
  ca_of_vcJ Try.noNum Try.func74 F74_ok (by rw [F74_eq]; exact h)



/-- broadside/shots.copied -/
def F75 (a0 : Value) (w : World) (K : Kont) : Prop :=
 rv Try.prog (Instr.box 83 a0) w fun v0 w1 =>
 rv Try.prog (Instr.alloc 83 true (.tuple #[])) w1 fun v2 w3 =>
 rv Try.prog (Instr.fieldAt 83 v0 2) w3 fun v4 w5 =>
 rv Try.prog (Instr.loadAt 23 v4) w5 fun v6 w7 =>
 Ca Try.prog 92 #[v6] w7 fun v8 w9 =>
 rv Try.prog (Instr.fieldAt 83 v0 2) w9 fun v10 w11 =>
 ru Try.prog (Instr.storeAt 23 v10 v8) w11 fun w12 =>
 rv Try.prog (Instr.loadAt 83 v0) w12 fun v13 w14 =>
 ru Try.prog (Instr.storeAt 83 v2 v13) w14 fun w15 =>
 rdW Try.prog (Instr.loadAt 83 v2) w15 fun v16 =>
 K v16 w15
theorem F75_eq (a0 : Value) (w : World) (K : Kont) : vcFnJ Try.prog Try.f75 [a0] w K = F75 a0 w K := by kernel_rfl
theorem F75_ok : okF Try.prog Try.f75 1 = true := by kernel_rfl
theorem ca75{a0 : Value} {w : World} {K : Kont} (h : F75 a0 w K) : Ca Try.prog 75 #[a0] w K :=
  ca_of_vcJ Try.noNum Try.func75 F75_ok (by rw [F75_eq]; exact h)



/-- (*broadside/shots.Shots).Last -/
def F43 (a0 : Value) (w : World) (K : Kont) : Prop :=
 rv Try.prog (Instr.alloc 83 true (.tuple #[])) w fun v0 w1 =>
 Ca Try.prog 74 #[a0] w1 fun v2 w3 =>
 ifB v2
 (rv Try.prog (Instr.build 83 #[]) w3 fun v4 w5 =>
 ru Try.prog (Instr.storeAt 83 v0 v4) w5 fun w6 =>
 rdW Try.prog (Instr.loadAt 83 v0) w6 fun v7 =>
 K (.tuple #[v7, (.int .i64 1)]) w6)
 (nilK a0 fun v8 => rv Try.prog (Instr.fieldAt 90 v8 3) w3 fun v9 w10 =>
 rv Try.prog (Instr.fieldAt 83 v9 0) w10 fun v11 w12 =>
 rv Try.prog (Instr.loadAt 27 v11) w12 fun v13 w14 =>
 rv Try.prog (bin .eql 27 true v13 (.int .u64 0)) w14 fun v15 w16 =>
 ifB v15
 (rv Try.prog (Instr.build 83 #[]) w16 fun v17 w18 =>
 ru Try.prog (Instr.storeAt 83 v0 v17) w18 fun w19 =>
 rdW Try.prog (Instr.loadAt 83 v0) w19 fun v20 =>
 K (.tuple #[v20, (.int .i64 7)]) w19)
 (nilK a0 fun v21 => rv Try.prog (Instr.fieldAt 90 v21 3) w16 fun v22 w23 =>
 rv Try.prog (Instr.loadAt 83 v22) w23 fun v24 w25 =>
 Ca Try.prog 75 #[v24] w25 fun v26 w27 =>
 ru Try.prog (Instr.storeAt 83 v0 v26) w27 fun w28 =>
 rdW Try.prog (Instr.loadAt 83 v0) w28 fun v29 =>
 K (.tuple #[v29, (.int .i64 0)]) w28))
theorem F43_eq (a0 : Value) (w : World) (K : Kont) : vcFnJ Try.prog Try.f43 [a0] w K = F43 a0 w K := by kernel_rfl
theorem F43_ok : okF Try.prog Try.f43 1 = true := by kernel_rfl
theorem ca43{a0 : Value} {w : World} {K : Kont} (h : F43 a0 w K) : Ca Try.prog 43 #[a0] w K :=
  ca_of_vcJ Try.noNum Try.func43 F43_ok (by rw [F43_eq]; exact h)


def L44_0 (a0 : Value) (v0 : Value) (v34 : Value) (mk58 : List Nat) (K : Kont) (v26 : Value) (s80 : Value × Value × Unit) (w81 : World) (K82 : Value × Value × Unit → World → Prop) : Prop :=
 ∀ _ : Nat → Value,
 rv Try.prog (bin .lss 3 true s80.2.1 (.int .i64 3)) w81 fun v83 w84 =>
 ifB v83
 (nilK a0 fun v85 => rdP Try.prog (Instr.fieldAt 90 v85 0) fun v86 =>
 rdW Try.prog (Instr.loadAt 25 v86) w84.drew fun v87 =>
 rdW Try.prog (Instr.loadAt 83 v0) w84.drew fun v88 =>
 Ca Try.prog 78 #[s80.2.1, v88] w84.drew fun v89 w90 =>
 Sem.run Try.prog (Instr.loadAt 25 v86) w90 = .ok v87 w90 ∧ 
 (Ca Try.prog 17 #[v87, v34, s80.2.1, v89] w90 fun v91 w92 =>
 rv Try.prog (bin .neq 28 true v91 (.int .i64 0)) w92 fun v93 w94 =>
 ifB v93
 (retD (mk58 ++ []) w94 fun w95 =>
 K v91 w95)
 (nilK a0 fun v96 => rdP Try.prog (Instr.fieldAt 90 v96 4) fun v97 =>
 rdP Try.prog (Instr.indexAt 88 v97 v26) fun v98 =>
 rdW Try.prog (Instr.loadAt 23 v98) w94.drew fun v99 =>
 rdP Try.prog (bin .mul 3 true s80.2.1 (.int .i64 128)) fun v100 =>
 rdP Try.prog (Instr.sliceAt 23 v99 (some v100) none none) fun v101 =>
 rdW Try.prog (Instr.loadAt 83 v0) w94.drew fun v102 =>
 Ca Try.prog 78 #[s80.2.1, v102] w94.drew fun v103 w104 =>
 Sem.run Try.prog (Instr.loadAt 23 v98) w104 = .ok v99 w104 ∧ 
 (rx Try.prog (xCopy #[23, 23] 3 [v101, v103]) w104 fun v105 w106 =>
 rv Try.prog (bin .add 3 true s80.2.1 (.int .i64 1)) w106 fun v107 w108 =>
 K82 (s80.1, v107, ()) w108))))
 (nilK a0 fun v109 => rv Try.prog (Instr.fieldAt 90 v109 0) w84 fun v110 w111 =>
 rv Try.prog (Instr.loadAt 25 v110) w111 fun v112 w113 =>
 Ca Try.prog 16 #[v112] w113 fun v114 w115 =>
 rv Try.prog (bin .neq 28 true v114 (.int .i64 0)) w115 fun v116 w117 =>
 ifB v116
 (retD (mk58 ++ []) w117 fun w118 =>
 K v114 w118)
 (rv Try.prog (Instr.loadAt 83 v0) w117 fun v119 w120 =>
 nilK a0 fun v121 => rv Try.prog (Instr.fieldAt 90 v121 3) w120 fun v122 w123 =>
 ru Try.prog (Instr.storeAt 83 v122 v119) w123 fun w124 =>
 nilK a0 fun v125 => rv Try.prog (Instr.fieldAt 90 v125 2) w124 fun v126 w127 =>
 ru Try.prog (Instr.storeAt 3 v126 v26) w127 fun w128 =>
 retD (mk58 ++ []) w128 fun w129 =>
 K (.int .i64 0) w129))

def J44_1 (a0 : Value) (v0 : Value) (v34 : Value) (mk58 : List Nat) (K : Kont) (v26 : Value) (s62 : Value × Unit) (w63 : World) : Prop :=
 ∀ _ : Nat → Value,
 LoopW (S := Value × Value × Unit) (L44_0 a0 v0 v34 mk58 K v26) (s62.1, (.int .i64 0), ()) w63

def L44_2 (a0 : Value) (v0 : Value) (v34 : Value) (mk58 : List Nat) (K : Kont) (v26 : Value) (s152 : Value × Value × Unit) (w153 : World) (K154 : Value × Value × Unit → World → Prop) : Prop :=
 ∀ _ : Nat → Value,
 rv Try.prog (bin .lss 3 true s152.2.1 (.int .i64 3)) w153 fun v155 w156 =>
 ifB v155
 (nilK a0 fun v157 => rdP Try.prog (Instr.fieldAt 90 v157 0) fun v158 =>
 rdW Try.prog (Instr.loadAt 25 v158) w156.drew fun v159 =>
 rdW Try.prog (Instr.loadAt 83 v0) w156.drew fun v160 =>
 Ca Try.prog 78 #[s152.2.1, v160] w156.drew fun v161 w162 =>
 Sem.run Try.prog (Instr.loadAt 25 v158) w162 = .ok v159 w162 ∧ 
 (Ca Try.prog 17 #[v159, v34, s152.2.1, v161] w162 fun v163 w164 =>
 rv Try.prog (bin .neq 28 true v163 (.int .i64 0)) w164 fun v165 w166 =>
 ifB v165
 (retD (mk58 ++ []) w166 fun w167 =>
 K v163 w167)
 (nilK a0 fun v168 => rdP Try.prog (Instr.fieldAt 90 v168 4) fun v169 =>
 rdP Try.prog (Instr.indexAt 88 v169 v26) fun v170 =>
 rdW Try.prog (Instr.loadAt 23 v170) w166.drew fun v171 =>
 rdP Try.prog (bin .mul 3 true s152.2.1 (.int .i64 128)) fun v172 =>
 rdP Try.prog (Instr.sliceAt 23 v171 (some v172) none none) fun v173 =>
 rdW Try.prog (Instr.loadAt 83 v0) w166.drew fun v174 =>
 Ca Try.prog 78 #[s152.2.1, v174] w166.drew fun v175 w176 =>
 Sem.run Try.prog (Instr.loadAt 23 v170) w176 = .ok v171 w176 ∧ 
 (rx Try.prog (xCopy #[23, 23] 3 [v173, v175]) w176 fun v177 w178 =>
 rv Try.prog (bin .add 3 true s152.2.1 (.int .i64 1)) w178 fun v179 w180 =>
 K154 (s152.1, v179, ()) w180))))
 (nilK a0 fun v181 => rv Try.prog (Instr.fieldAt 90 v181 0) w156 fun v182 w183 =>
 rv Try.prog (Instr.loadAt 25 v182) w183 fun v184 w185 =>
 Ca Try.prog 16 #[v184] w185 fun v186 w187 =>
 rv Try.prog (bin .neq 28 true v186 (.int .i64 0)) w187 fun v188 w189 =>
 ifB v188
 (retD (mk58 ++ []) w189 fun w190 =>
 K v186 w190)
 (rv Try.prog (Instr.loadAt 83 v0) w189 fun v191 w192 =>
 nilK a0 fun v193 => rv Try.prog (Instr.fieldAt 90 v193 3) w192 fun v194 w195 =>
 ru Try.prog (Instr.storeAt 83 v194 v191) w195 fun w196 =>
 nilK a0 fun v197 => rv Try.prog (Instr.fieldAt 90 v197 2) w196 fun v198 w199 =>
 ru Try.prog (Instr.storeAt 3 v198 v26) w199 fun w200 =>
 retD (mk58 ++ []) w200 fun w201 =>
 K (.int .i64 0) w201))

def J44_3 (a0 : Value) (v0 : Value) (v34 : Value) (mk58 : List Nat) (K : Kont) (v26 : Value) (s134 : Value × Unit) (w135 : World) : Prop :=
 ∀ _ : Nat → Value,
 LoopW (S := Value × Value × Unit) (L44_2 a0 v0 v34 mk58 K v26) (s134.1, (.int .i64 0), ()) w135

def R44_4 (v39 : Value) (l47 : Nat) (x48 : List Value) (w49 : World) (KN50 : World → Prop) (KJ51 : Code → World → Prop) : Prop :=
 beginK l47 w49 fun w52 =>
 rv Try.prog (Instr.loadAt 23 v39) w52 fun v53 w54 =>
 rx Try.prog (xAppend #[23, 23] 23 [v53, (x48.getD 0 undef)]) w54 fun v55 w56 =>
 ru Try.prog (Instr.storeAt 23 v39 v55) w56 fun w57 =>
 KN50 w57

def A44_5 (v39 : Value) (a0 : Value) (v34 : Value) (K : Kont) (v0 : Value) (v26 : Value) (mk58 : List Nat) (pd59 : Option Code) (w60 : World) : Prop :=
 afterK
 (fun w61 =>
 JoinW (S := Value × Unit) (fun J64 =>
 rv Try.prog (Instr.loadAt 23 v39) w61 fun v65 w66 =>
 rn Try.prog (builtin .len #[23] 3 #[false] #[v65]) w66 fun v67 w68 =>
 rv Try.prog (bin .gtr 3 true v67 (.int .i64 0)) w68 fun v69 w70 =>
 ifB v69
 (nilK a0 fun v71 => rdP Try.prog (Instr.fieldAt 90 v71 0) fun v72 =>
 rdW Try.prog (Instr.loadAt 25 v72) w70.drew fun v73 =>
 rdW Try.prog (Instr.loadAt 23 v39) w70.drew fun v74 =>
 Ca Try.prog 17 #[v73, v34, (.int .i64 3), v74] w70.drew fun v75 w76 =>
 rv Try.prog (bin .neq 28 true v75 (.int .i64 0)) w76 fun v77 w78 =>
 ifB v77
 (retD (mk58 ++ []) w78 fun w79 =>
 K v75 w79)
 (J64 ((.int .i64 0), ()) w78))
 (J64 ((.int .i64 0), ()) w70))
 (J44_1 a0 v0 v34 mk58 K v26))
 (fun w130 =>
 retD (mk58 ++ []) w130 fun w131 =>
 K (.int .i64 0) w131)
 (fun i133 w132 =>
 bc (Nat.beq i133 1)
 (JoinW (S := Value × Unit) (fun J136 =>
 rv Try.prog (Instr.loadAt 23 v39) w132 fun v137 w138 =>
 rn Try.prog (builtin .len #[23] 3 #[false] #[v137]) w138 fun v139 w140 =>
 rv Try.prog (bin .gtr 3 true v139 (.int .i64 0)) w140 fun v141 w142 =>
 ifB v141
 (nilK a0 fun v143 => rdP Try.prog (Instr.fieldAt 90 v143 0) fun v144 =>
 rdW Try.prog (Instr.loadAt 25 v144) w142.drew fun v145 =>
 rdW Try.prog (Instr.loadAt 23 v39) w142.drew fun v146 =>
 Ca Try.prog 17 #[v145, v34, (.int .i64 3), v146] w142.drew fun v147 w148 =>
 rv Try.prog (bin .neq 28 true v147 (.int .i64 0)) w148 fun v149 w150 =>
 ifB v149
 (retD (mk58 ++ []) w150 fun w151 =>
 K v147 w151)
 (J136 ((.int .i64 0), ()) w150))
 (J136 ((.int .i64 0), ()) w142))
 (J44_3 a0 v0 v34 mk58 K v26))
 (False)) pd59 w60

def J44_6 (K : Kont) (v0 : Value) (a0 : Value) (s4 : Value × Unit) (w5 : World) : Prop :=
 ∀ _ : Nat → Value,
 ifB s4.1
 (K (.int .i64 2) w5)
 (rv Try.prog (Instr.loadAt 83 v0) w5 fun v18 w19 =>
 Ca Try.prog 75 #[v18] w19 fun v20 w21 =>
 ru Try.prog (Instr.storeAt 83 v0 v20) w21 fun w22 =>
 nilK a0 fun v23 => rdP Try.prog (Instr.fieldAt 90 v23 2) fun v24 =>
 rdW Try.prog (Instr.loadAt 3 v24) w22.drew fun v25 =>
 rdP Try.prog (bin .sub 3 true (.int .i64 1) v25) fun v26 =>
 nilK a0 fun v27 => rdP Try.prog (Instr.fieldAt 90 v27 2) fun v28 =>
 rdW Try.prog (Instr.loadAt 3 v28) w22.drew fun v29 =>
 rdP Try.prog (bin .sub 3 true (.int .i64 1) v29) fun v30 =>
 nilK a0 fun v31 => rdP Try.prog (Instr.fieldAt 90 v31 1) fun v32 =>
 rdP Try.prog (Instr.indexAt 87 v32 v30) fun v33 =>
 rdW Try.prog (Instr.loadAt 3 v33) w22.drew fun v34 =>
 Sem.run Try.prog (Instr.loadAt 3 v33) w22.drew = .ok v34 w22.drew ∧ Sem.run Try.prog (Instr.loadAt 3 v28) w22.drew = .ok v29 w22.drew ∧ 
 (Ca Try.prog 73 #[a0, v26] w22.drew fun v35 w36 =>
 rv Try.prog (bin .neq 28 true v35 (.int .i64 0)) w36 fun v37 w38 =>
 ifB v37
 (K v35 w38)
 (rv Try.prog (Instr.alloc 23 true (.tuple #[])) w38 fun v39 w40 =>
 rv Try.prog (Instr.fieldAt 83 v0 2) w40 fun v41 w42 =>
 rv Try.prog (Instr.loadAt 23 v41) w42 fun v43 w44 =>
 Ca Try.prog 77 #[v43] w44 fun v45 w46 =>
 RFW Try.prog none v45 w46 1 (R44_4 v39) (A44_5 v39 a0 v34 K v0 v26))))

/-- (*broadside/shots.Shots).Save -/
def F44 (a0 a1 : Value) (w : World) (K : Kont) : Prop :=
 rv Try.prog (Instr.box 83 a1) w fun v0 w1 =>
 Ca Try.prog 74 #[a0] w1 fun v2 w3 =>
 ifB v2
 (K (.int .i64 1) w3)
 (JoinW (S := Value × Unit) (fun J6 =>
 rdW Try.prog (Instr.loadAt 83 v0) w3.drew fun v7 =>
 Ca Try.prog 76 #[v7] w3.drew fun v8 w9 =>
 rdP Try.prog (Op.unary .not v8) fun v10 =>
 ifB v10
 (J6 ((.bool true), ()) w9)
 (rdP Try.prog (Instr.fieldAt 83 v0 0) fun v11 =>
 rdW Try.prog (Instr.loadAt 27 v11) w9 fun v12 =>
 nilK a0 fun v13 => rdP Try.prog (Instr.fieldAt 90 v13 3) fun v14 =>
 rdP Try.prog (Instr.fieldAt 83 v14 0) fun v15 =>
 rdW Try.prog (Instr.loadAt 27 v15) w9 fun v16 =>
 rdP Try.prog (bin .leq 27 false v12 v16) fun v17 =>
 J6 (v17, ()) w9))
 (J44_6 K v0 a0))
theorem F44_eq (a0 a1 : Value) (w : World) (K : Kont) : vcFnJ Try.prog Try.f44 [a0, a1] w K = F44 a0 a1 w K := by kernel_rfl
theorem F44_ok : okF Try.prog Try.f44 2 = true := by kernel_rfl
theorem ca44{a0 a1 : Value} {w : World} {K : Kont} (h : F44 a0 a1 w K) : Ca Try.prog 44 #[a0, a1] w K :=
  ca_of_vcJ Try.noNum Try.func44 F44_ok (by rw [F44_eq]; exact h)


def L94_0 (a1 : Value) (K : Kont) (s0 : Value × Value × Unit) (w1 : World) (K2 : Value × Value × Unit → World → Prop) : Prop :=
 ∀ _ : Nat → Value,
 rv Try.prog (bin .geq 3 true s0.2.1 (.int .i64 0)) w1 fun v3 w4 =>
 ifB v3
 (rv Try.prog (bin .shr 27 false a1 s0.2.1) w4 fun v5 w6 =>
 rv Try.prog (convert 27 5 v5) w6 fun v7 w8 =>
 rx Try.prog (xLit 23 1 [(0, v7)]) w8 fun v9 w10 =>
 rx Try.prog (xAppend #[23, 23] 23 [s0.1, v9]) w10 fun v11 w12 =>
 rv Try.prog (bin .sub 3 true s0.2.1 (.int .i64 8)) w12 fun v13 w14 =>
 K2 (v11, v13, ()) w14)
 (K s0.1 w4)

/-- broadside/shots.append64 -/
def F94 (a0 a1 : Value) (w : World) (K : Kont) : Prop :=
 LoopW (S := Value × Value × Unit) (L94_0 a1 K) (a0, (.int .i64 56), ()) w
theorem F94_eq (a0 a1 : Value) (w : World) (K : Kont) : vcFnJ Try.prog Try.f94 [a0, a1] w K = F94 a0 a1 w K := by kernel_rfl
theorem F94_ok : okF Try.prog Try.f94 2 = true := by kernel_rfl
theorem ca94{a0 a1 : Value} {w : World} {K : Kont} (h : F94 a0 a1 w K) : Ca Try.prog 94 #[a0, a1] w K :=
  ca_of_vcJ Try.noNum Try.func94 F94_ok (by rw [F94_eq]; exact h)



/-- broadside/shots.append32 -/
def F95 (a0 a1 : Value) (w : World) (K : Kont) : Prop :=
 rv Try.prog (bin .shr 150 true a1 (.int .u64 24)) w fun v0 w1 =>
 rv Try.prog (convert 150 5 v0) w1 fun v2 w3 =>
 rv Try.prog (bin .shr 150 true a1 (.int .u64 16)) w3 fun v4 w5 =>
 rv Try.prog (convert 150 5 v4) w5 fun v6 w7 =>
 rv Try.prog (bin .shr 150 true a1 (.int .u64 8)) w7 fun v8 w9 =>
 rv Try.prog (convert 150 5 v8) w9 fun v10 w11 =>
 rv Try.prog (convert 150 5 a1) w11 fun v12 w13 =>
 rx Try.prog (xLit 23 4 [(0, v2), (1, v6), (2, v10), (3, v12)]) w13 fun v14 w15 =>
 rx Try.prog (xAppend #[23, 23] 23 [a0, v14]) w15 fun v16 w17 =>
 K v16 w17
theorem F95_eq (a0 a1 : Value) (w : World) (K : Kont) : vcFnJ Try.prog Try.f95 [a0, a1] w K = F95 a0 a1 w K := by kernel_rfl
theorem F95_ok : okF Try.prog Try.f95 2 = true := by kernel_rfl
theorem ca95{a0 a1 : Value} {w : World} {K : Kont} (h : F95 a0 a1 w K) : Ca Try.prog 95 #[a0, a1] w K :=
  ca_of_vcJ Try.noNum Try.func95 F95_ok (by rw [F95_eq]; exact h)


def L101_0 (v2 : Value) (v0 : Value) (K : Kont) (s4 : Value × Value × Unit) (w5 : World) (K6 : Value × Value × Unit → World → Prop) : Prop :=
 ∀ _ : Nat → Value,
 rv Try.prog (bin .lss 3 false s4.2.1 v2) w5 fun v7 w8 =>
 ifB v7
 (rv Try.prog (Instr.indexAt 23 v0 s4.2.1) w8 fun v9 w10 =>
 rv Try.prog (Instr.loadAt 5 v9) w10 fun v11 w12 =>
 rv Try.prog (bin .shl 27 true s4.1 (.int .u64 8)) w12 fun v13 w14 =>
 rv Try.prog (convert 5 27 v11) w14 fun v15 w16 =>
 rv Try.prog (bin .or 27 false v13 v15) w16 fun v17 w18 =>
 rv Try.prog (bin .add 3 true s4.2.1 (.int .i64 1)) w18 fun v19 w20 =>
 K6 (v17, v19, ()) w20)
 (K s4.1 w8)

/-- broadside/shots.get64 -/
def F101 (a0 : Value) (w : World) (K : Kont) : Prop :=
 rv Try.prog (Instr.sliceAt 23 a0 none (some (.int .i64 8)) none) w fun v0 w1 =>
 rn Try.prog (builtin .len #[23] 3 #[false] #[v0]) w1 fun v2 w3 =>
 LoopW (S := Value × Value × Unit) (L101_0 v2 v0 K) ((.int .u64 0), (.int .i64 0), ()) w3
theorem F101_eq (a0 : Value) (w : World) (K : Kont) : vcFnJ Try.prog Try.f101 [a0] w K = F101 a0 w K := by kernel_rfl
theorem F101_ok : okF Try.prog Try.f101 1 = true := by kernel_rfl
theorem ca101{a0 : Value} {w : World} {K : Kont} (h : F101 a0 w K) : Ca Try.prog 101 #[a0] w K :=
  ca_of_vcJ Try.noNum Try.func101 F101_ok (by rw [F101_eq]; exact h)



/-- bytes.Equal -/
def F91 (a0 a1 : Value) (w : World) (K : Kont) : Prop :=
 rx Try.prog (xConv 23 9 a0) w fun v0 w1 =>
 rx Try.prog (xConv 23 9 a1) w1 fun v2 w3 =>
 rv Try.prog (bin .eql 9 false v0 v2) w3 fun v4 w5 =>
 K v4 w5
theorem F91_eq (a0 a1 : Value) (w : World) (K : Kont) : vcFnJ Try.prog Try.f91 [a0, a1] w K = F91 a0 a1 w K := by kernel_rfl
theorem F91_ok : okF Try.prog Try.f91 2 = true := by kernel_rfl
theorem ca91{a0 a1 : Value} {w : World} {K : Kont} (h : F91 a0 a1 w K) : Ca Try.prog 91 #[a0, a1] w K :=
  ca_of_vcJ Try.noNum Try.func91 F91_ok (by rw [F91_eq]; exact h)



/-- bytes.Clone -/
def F92 (a0 : Value) (w : World) (K : Kont) : Prop :=
 rv Try.prog (bin .eql 23 true a0 (.slice none 0 0)) w fun v0 w1 =>
 ifB v0
 (K (.slice none 0 0) w1)
 (rx Try.prog (xLit 23 0 []) w1 fun v2 w3 =>
 rx Try.prog (xAppend #[23, 23] 23 [v2, a0]) w3 fun v4 w5 =>
 K v4 w5)
theorem F92_eq (a0 : Value) (w : World) (K : Kont) : vcFnJ Try.prog Try.f92 [a0] w K = F92 a0 w K := by kernel_rfl
theorem F92_ok : okF Try.prog Try.f92 1 = true := by kernel_rfl
theorem ca92{a0 : Value} {w : World} {K : Kont} (h : F92 a0 w K) : Ca Try.prog 92 #[a0] w K :=
  ca_of_vcJ Try.noNum Try.func92 F92_ok (by rw [F92_eq]; exact h)


def J41_0 (K : Kont) (v0 : Value) (s8 : Value × Unit) (w9 : World) : Prop :=
 ∀ _ : Nat → Value,
 ifB s8.1
 (K (.bool false) w9)
 (Ca Try.prog 42 #[v0, (.int .i64 3), (.int .i64 4)] w9 fun v43 w44 =>
 rv Try.prog (Instr.extract v43 0) w44 fun v45 w46 =>
 rv Try.prog (Instr.extract v43 1) w46 fun v47 w48 =>
 Ca Try.prog 43 #[v45] w48 fun v49 w50 =>
 rv Try.prog (Instr.extract v49 0) w50 fun v51 w52 =>
 rv Try.prog (Instr.extract v49 1) w52 fun v53 w54 =>
 rv Try.prog (Instr.alloc 83 true (.tuple #[])) w54 fun v55 w56 =>
 ru Try.prog (Instr.storeAt 83 v55 v51) w56 fun w57 =>
 rv Try.prog (bin .eql 28 true v47 (.int .i64 0)) w57 fun v58 w59 =>
 ifB v58
 (rv Try.prog (bin .eql 28 true v53 (.int .i64 0)) w59 fun v60 w61 =>
 ifB v60
 (rv Try.prog (Instr.loadAt 83 v55) w61 fun v62 w63 =>
 rx Try.prog (xLit 23 1 [(0, (.int .u8 97))]) w63 fun v64 w65 =>
 rx Try.prog (xConv 23 23 v64) w65 fun v66 w67 =>
 rv Try.prog (Instr.build 83 #[(0, (.int .u64 5)), (2, v66)]) w67 fun v68 w69 =>
 Ca Try.prog 47 #[v62, v68] w69 fun v70 w71 =>
 K v70 w71)
 (K (.bool false) w61))
 (K (.bool false) w59))

/-- broadside/broadsidelaw21.known -/
def F41 (w : World) (K : Kont) : Prop :=
 Ca Try.prog 15 #[] w fun v0 w1 =>
 Ca Try.prog 42 #[v0, (.int .i64 3), (.int .i64 4)] w1 fun v2 w3 =>
 rv Try.prog (Instr.extract v2 0) w3 fun v4 w5 =>
 rv Try.prog (Instr.extract v2 1) w5 fun v6 w7 =>
 JoinW (S := Value × Unit) (fun J10 =>
 rv Try.prog (bin .neq 28 true v6 (.int .i64 0)) w7 fun v11 w12 =>
 ifB v11
 (J10 ((.bool true), ()) w12)
 (rx Try.prog (xLit 23 1 [(0, (.int .u8 97))]) w12 fun v13 w14 =>
 rx Try.prog (xConv 23 23 v13) w14 fun v15 w16 =>
 rv Try.prog (Instr.build 83 #[(0, (.int .u64 5)), (2, v15)]) w16 fun v17 w18 =>
 Ca Try.prog 44 #[v4, v17] w18 fun v19 w20 =>
 rv Try.prog (bin .neq 28 true v19 (.int .i64 0)) w20 fun v21 w22 =>
 ifB v21
 (J10 ((.bool true), ()) w22)
 (Ca Try.prog 25 #[v0, (.int .i64 3)] w22 fun v23 w24 =>
 rv Try.prog (bin .neq 28 true v23 (.int .i64 0)) w24 fun v25 w26 =>
 ifB v25
 (J10 ((.bool true), ()) w26)
 (rx Try.prog (xLit 23 1 [(0, (.int .u8 98))]) w26 fun v27 w28 =>
 rx Try.prog (xConv 23 23 v27) w28 fun v29 w30 =>
 rv Try.prog (Instr.build 83 #[(0, (.int .u64 9)), (2, v29)]) w30 fun v31 w32 =>
 Ca Try.prog 44 #[v4, v31] w32 fun v33 w34 =>
 rv Try.prog (bin .neq 28 true v33 (.int .i64 180)) w34 fun v35 w36 =>
 ifB v35
 (J10 ((.bool true), ()) w36)
 (rx Try.prog (xLit 23 1 [(0, (.int .u8 3))]) w36 fun v37 w38 =>
 Ca Try.prog 19 #[v0, (.int .i64 3), v37] w38 fun v39 w40 =>
 rv Try.prog (bin .neq 28 true v39 (.int .i64 0)) w40 fun v41 w42 =>
 J10 (v41, ()) w42)))))
 (J41_0 K v0)
theorem F41_eq (w : World) (K : Kont) : vcFnJ Try.prog Try.f41 [] w K = F41  w K := by kernel_rfl
theorem F41_ok : okF Try.prog Try.f41 0 = true := by kernel_rfl
theorem ca41 {w : World} {K : Kont} (h : F41  w K) : Ca Try.prog 41 #[] w K :=
  ca_of_vcJ Try.noNum Try.func41 F41_ok (by rw [F41_eq]; exact h)


def J10_0 (v16 : Value) (v24 : Value) (v0 : Value) (K : Kont) (s26 : Value × Unit) (w27 : World) : Prop :=
 ∀ _ : Nat → Value,
 rv Try.prog (Instr.alloc 90 true (.tuple #[])) w27 fun v39 w40 =>
 Ca Try.prog 43 #[(.pointer none)] w40 fun v41 w42 =>
 rv Try.prog (Instr.extract v41 0) w42 fun v43 w44 =>
 rv Try.prog (Instr.extract v41 1) w44 fun v45 w46 =>
 rv Try.prog (Instr.alloc 83 true (.tuple #[])) w46 fun v47 w48 =>
 ru Try.prog (Instr.storeAt 83 v47 v43) w48 fun w49 =>
 Ca Try.prog 43 #[v39] w49 fun v50 w51 =>
 rv Try.prog (Instr.extract v50 0) w51 fun v52 w53 =>
 rv Try.prog (Instr.extract v50 1) w53 fun v54 w55 =>
 rv Try.prog (Instr.alloc 83 true (.tuple #[])) w55 fun v56 w57 =>
 ru Try.prog (Instr.storeAt 83 v56 v52) w57 fun w58 =>
 rv Try.prog (bin .eql 28 true v16 (.int .i64 1)) w58 fun v59 w60 =>
 ifB v59
 (rv Try.prog (bin .eql 28 true v24 (.int .i64 0)) w60 fun v61 w62 =>
 rv Try.prog (bin .eql 4 false v61 s26.1) w62 fun v63 w64 =>
 ifB v63
 (ifB s26.1
 (rv Try.prog (bin .eql 28 true v45 (.int .i64 1)) w64 fun v65 w66 =>
 ifB v65
 (rv Try.prog (bin .eql 28 true v54 (.int .i64 1)) w66 fun v67 w68 =>
 ifB v67
 (rv Try.prog (Instr.loadAt 83 v0) w68 fun v69 w70 =>
 Ca Try.prog 44 #[(.pointer none), v69] w70 fun v71 w72 =>
 rv Try.prog (bin .eql 28 true v71 (.int .i64 1)) w72 fun v73 w74 =>
 ifB v73
 (rv Try.prog (Instr.loadAt 83 v0) w74 fun v75 w76 =>
 Ca Try.prog 44 #[v39, v75] w76 fun v77 w78 =>
 rv Try.prog (bin .eql 28 true v77 (.int .i64 1)) w78 fun v79 w80 =>
 ifB v79
 (Ca Try.prog 41 #[] w80 fun v81 w82 =>
 K v81 w82)
 (K (.bool false) w80))
 (K (.bool false) w74))
 (K (.bool false) w68))
 (K (.bool false) w66))
 (rv Try.prog (bin .eql 28 true v24 (.int .i64 2)) w64 fun v83 w84 =>
 ifB v83
 (rv Try.prog (bin .eql 28 true v45 (.int .i64 1)) w84 fun v85 w86 =>
 ifB v85
 (rv Try.prog (bin .eql 28 true v54 (.int .i64 1)) w86 fun v87 w88 =>
 ifB v87
 (rv Try.prog (Instr.loadAt 83 v0) w88 fun v89 w90 =>
 Ca Try.prog 44 #[(.pointer none), v89] w90 fun v91 w92 =>
 rv Try.prog (bin .eql 28 true v91 (.int .i64 1)) w92 fun v93 w94 =>
 ifB v93
 (rv Try.prog (Instr.loadAt 83 v0) w94 fun v95 w96 =>
 Ca Try.prog 44 #[v39, v95] w96 fun v97 w98 =>
 rv Try.prog (bin .eql 28 true v97 (.int .i64 1)) w98 fun v99 w100 =>
 ifB v99
 (Ca Try.prog 41 #[] w100 fun v101 w102 =>
 K v101 w102)
 (K (.bool false) w100))
 (K (.bool false) w94))
 (K (.bool false) w88))
 (K (.bool false) w86))
 (K (.bool false) w84)))
 (K (.bool false) w64))
 (K (.bool false) w60)

/-- broadside/broadsidelaw21.ShotsNone -/
def F10 (a0 a1 a2 : Value) (w : World) (K : Kont) : Prop :=
 rv Try.prog (Instr.box 83 a2) w fun v0 w1 =>
 rv Try.prog (Instr.fieldAt 83 v0 2) w1 fun v2 w3 =>
 rv Try.prog (Instr.loadAt 23 v2) w3 fun v4 w5 =>
 rn Try.prog (builtin .len #[23] 3 #[false] #[v4]) w5 fun v6 w7 =>
 rv Try.prog (bin .gtr 3 true v6 (.int .i64 1000)) w7 fun v8 w9 =>
 ifB v8
 (Ca Try.prog 41 #[] w9 fun v10 w11 =>
 K v10 w11)
 (Ca Try.prog 42 #[(.pointer none), a0, a1] w9 fun v12 w13 =>
 rv Try.prog (Instr.extract v12 0) w13 fun v14 w15 =>
 rv Try.prog (Instr.extract v12 1) w15 fun v16 w17 =>
 Ca Try.prog 15 #[] w17 fun v18 w19 =>
 Ca Try.prog 42 #[v18, a0, a1] w19 fun v20 w21 =>
 rv Try.prog (Instr.extract v20 0) w21 fun v22 w23 =>
 rv Try.prog (Instr.extract v20 1) w23 fun v24 w25 =>
 JoinW (S := Value × Unit) (fun J28 =>
 rv Try.prog (bin .geq 3 true a0 (.int .i64 0)) w25 fun v29 w30 =>
 ifB v29
 (rv Try.prog (bin .lss 3 true a0 (.int .i64 5)) w30 fun v31 w32 =>
 ifB v31
 (rv Try.prog (bin .geq 3 true a1 (.int .i64 0)) w32 fun v33 w34 =>
 ifB v33
 (rv Try.prog (bin .lss 3 true a1 (.int .i64 5)) w34 fun v35 w36 =>
 ifB v35
 (rv Try.prog (bin .neq 3 false a0 a1) w36 fun v37 w38 =>
 J28 (v37, ()) w38)
 (J28 ((.bool false), ()) w36))
 (J28 ((.bool false), ()) w34))
 (J28 ((.bool false), ()) w32))
 (J28 ((.bool false), ()) w30))
 (J10_0 v16 v24 v0 K))
theorem F10_eq (a0 a1 a2 : Value) (w : World) (K : Kont) : vcFnJ Try.prog Try.f10 [a0, a1, a2] w K = F10 a0 a1 a2 w K := by kernel_rfl
theorem F10_ok : okF Try.prog Try.f10 3 = true := by kernel_rfl
theorem ca10{a0 a1 a2 : Value} {w : World} {K : Kont} (h : F10 a0 a1 a2 w K) : Ca Try.prog 10 #[a0, a1, a2] w K :=
  ca_of_vcJ Try.noNum Try.func10 F10_ok (by rw [F10_eq]; exact h)


def J11_0 (K : Kont) (v119 : Value) (v18 : Value) (v23 : Value) (J35 : Value × Value × Value × Unit → World → Prop) (v109 : Value) (s26 : Value × Value × Value × Value × Unit) (s122 : Value × Unit) (w123 : World) : Prop :=
 ∀ _ : Nat → Value,
 ifB s122.1
 (K (.bool false) w123)
 (rv Try.prog (Instr.loadAt 83 v119) w123 fun v183 w184 =>
 ru Try.prog (Instr.storeAt 83 v18 v183) w184 fun w185 =>
 rv Try.prog (Instr.loadAt 83 v119) w185 fun v186 w187 =>
 ru Try.prog (Instr.storeAt 83 v23 v186) w187 fun w188 =>
 J35 ((.bool false), v109, s26.1, ()) w188)

def J11_1 (K : Kont) (v6 : Value) (v18 : Value) (v23 : Value) (J35 : Value × Value × Value × Unit → World → Prop) (s26 : Value × Value × Value × Value × Unit) (s84 : Value × Unit) (w85 : World) : Prop :=
 ∀ _ : Nat → Value,
 ifB s84.1
 (K (.bool false) w85)
 (Ca Try.prog 42 #[v6, (.int .i64 4), (.int .i64 2)] w85 fun v107 w108 =>
 rv Try.prog (Instr.extract v107 0) w108 fun v109 w110 =>
 rv Try.prog (Instr.extract v107 1) w110 fun v111 w112 =>
 Ca Try.prog 43 #[v109] w112 fun v113 w114 =>
 rv Try.prog (Instr.extract v113 0) w114 fun v115 w116 =>
 rv Try.prog (Instr.extract v113 1) w116 fun v117 w118 =>
 rv Try.prog (Instr.alloc 83 true (.tuple #[])) w118 fun v119 w120 =>
 ru Try.prog (Instr.storeAt 83 v119 v115) w120 fun w121 =>
 JoinW (S := Value × Unit) (fun J124 =>
 rv Try.prog (bin .neq 28 true v111 (.int .i64 0)) w121 fun v125 w126 =>
 ifB v125
 (J124 ((.bool true), ()) w126)
 (rv Try.prog (bin .neq 28 true v117 (.int .i64 0)) w126 fun v127 w128 =>
 ifB v127
 (rv Try.prog (bin .neq 28 true v117 (.int .i64 7)) w128 fun v129 w130 =>
 ifB v129
 (J124 ((.bool true), ()) w130)
 (rv Try.prog (bin .eql 28 true v117 (.int .i64 7)) w130 fun v131 w132 =>
 rv Try.prog (Instr.fieldAt 83 v119 0) w132 fun v133 w134 =>
 rv Try.prog (Instr.loadAt 27 v133) w134 fun v135 w136 =>
 rv Try.prog (bin .eql 27 true v135 (.int .u64 0)) w136 fun v137 w138 =>
 rv Try.prog (bin .neq 4 false v131 v137) w138 fun v139 w140 =>
 ifB v139
 (J124 ((.bool true), ()) w140)
 (rv Try.prog (Instr.loadAt 83 v119) w140 fun v141 w142 =>
 rv Try.prog (Instr.loadAt 83 v18) w142 fun v143 w144 =>
 Ca Try.prog 47 #[v141, v143] w144 fun v145 w146 =>
 rv Try.prog (Op.unary .not v145) w146 fun v147 w148 =>
 ifB v147
 (rv Try.prog (Instr.loadAt 83 v119) w148 fun v149 w150 =>
 rv Try.prog (Instr.loadAt 83 v23) w150 fun v151 w152 =>
 Ca Try.prog 47 #[v149, v151] w152 fun v153 w154 =>
 rv Try.prog (Op.unary .not v153) w154 fun v155 w156 =>
 J124 (v155, ()) w156)
 (J124 ((.bool false), ()) w148))))
 (rv Try.prog (bin .eql 28 true v117 (.int .i64 7)) w128 fun v157 w158 =>
 rv Try.prog (Instr.fieldAt 83 v119 0) w158 fun v159 w160 =>
 rv Try.prog (Instr.loadAt 27 v159) w160 fun v161 w162 =>
 rv Try.prog (bin .eql 27 true v161 (.int .u64 0)) w162 fun v163 w164 =>
 rv Try.prog (bin .neq 4 false v157 v163) w164 fun v165 w166 =>
 ifB v165
 (J124 ((.bool true), ()) w166)
 (rv Try.prog (Instr.loadAt 83 v119) w166 fun v167 w168 =>
 rv Try.prog (Instr.loadAt 83 v18) w168 fun v169 w170 =>
 Ca Try.prog 47 #[v167, v169] w170 fun v171 w172 =>
 rv Try.prog (Op.unary .not v171) w172 fun v173 w174 =>
 ifB v173
 (rv Try.prog (Instr.loadAt 83 v119) w174 fun v175 w176 =>
 rv Try.prog (Instr.loadAt 83 v23) w176 fun v177 w178 =>
 Ca Try.prog 47 #[v175, v177] w178 fun v179 w180 =>
 rv Try.prog (Op.unary .not v179) w180 fun v181 w182 =>
 J124 (v181, ()) w182)
 (J124 ((.bool false), ()) w174)))))
 (J11_0 K v119 v18 v23 J35 v109 s26))

def J11_2 (v40 : Value) (v23 : Value) (J35 : Value × Value × Value × Unit → World → Prop) (s26 : Value × Value × Value × Value × Unit) (v199 : Value) (K : Kont) (v18 : Value) (s215 : Value × Unit) (w216 : World) : Prop :=
 ∀ _ : Nat → Value,
 ifB s215.1
 (rv Try.prog (Instr.fieldAt 98 v40 2) w216 fun v222 w223 =>
 rv Try.prog (Instr.loadAt 83 v222) w223 fun v224 w225 =>
 ru Try.prog (Instr.storeAt 83 v23 v224) w225 fun w226 =>
 J35 ((.bool true), s26.2.1, s26.1, ()) w226)
 (rv Try.prog (bin .neq 28 true v199 (.int .i64 0)) w216 fun v227 w228 =>
 ifB v227
 (K (.bool false) w228)
 (rv Try.prog (Instr.fieldAt 98 v40 2) w228 fun v229 w230 =>
 rv Try.prog (Instr.loadAt 83 v229) w230 fun v231 w232 =>
 ru Try.prog (Instr.storeAt 83 v18 v231) w232 fun w233 =>
 rv Try.prog (Instr.fieldAt 98 v40 2) w233 fun v234 w235 =>
 rv Try.prog (Instr.loadAt 83 v234) w235 fun v236 w237 =>
 ru Try.prog (Instr.storeAt 83 v23 v236) w237 fun w238 =>
 J35 (s26.2.2.1, s26.2.1, s26.1, ()) w238))

def J11_3 (J35 : Value × Value × Value × Unit → World → Prop) (s26 : Value × Value × Value × Value × Unit) (v40 : Value) (v6 : Value) (K : Kont) (v18 : Value) (v23 : Value) (s43 : Value × Unit) (w44 : World) : Prop :=
 ∀ _ : Nat → Value,
 ifB s43.1
 (J35 (s26.2.2.1, s26.2.1, s26.1, ()) w44)
 (rv Try.prog (Instr.fieldAt 98 v40 0) w44 fun v78 w79 =>
 rv Try.prog (Instr.loadAt 3 v78) w79 fun v80 w81 =>
 rv Try.prog (bin .eql 3 true v80 (.int .i64 2)) w81 fun v82 w83 =>
 ifB v82
 (JoinW (S := Value × Unit) (fun J86 =>
 rv Try.prog (Instr.fieldAt 98 v40 1) w83 fun v87 w88 =>
 rv Try.prog (Instr.loadAt 3 v87) w88 fun v89 w90 =>
 rv Try.prog (Instr.fieldAt 98 v40 3) w90 fun v91 w92 =>
 rv Try.prog (Instr.loadAt 23 v91) w92 fun v93 w94 =>
 Ca Try.prog 19 #[v6, v89, v93] w94 fun v95 w96 =>
 rv Try.prog (bin .neq 28 true v95 (.int .i64 0)) w96 fun v97 w98 =>
 ifB v97
 (J86 ((.bool true), ()) w98)
 (rv Try.prog (Instr.fieldAt 98 v40 4) w98 fun v99 w100 =>
 rv Try.prog (Instr.loadAt 96 v99) w100 fun v101 w102 =>
 Ca Try.prog 46 #[v6, v101] w102 fun v103 w104 =>
 rv Try.prog (Op.unary .not v103) w104 fun v105 w106 =>
 J86 (v105, ()) w106))
 (J11_1 K v6 v18 v23 J35 s26))
 (ifB s26.2.2.1
 (J35 (s26.2.2.1, s26.2.1, s26.1, ()) w83)
 (rv Try.prog (Instr.fieldAt 98 v40 0) w83 fun v189 w190 =>
 rv Try.prog (Instr.loadAt 3 v189) w190 fun v191 w192 =>
 rv Try.prog (bin .eql 3 true v191 (.int .i64 0)) w192 fun v193 w194 =>
 ifB v193
 (rv Try.prog (Instr.fieldAt 98 v40 2) w194 fun v195 w196 =>
 rv Try.prog (Instr.loadAt 83 v195) w196 fun v197 w198 =>
 Ca Try.prog 44 #[s26.2.1, v197] w198 fun v199 w200 =>
 rv Try.prog (Instr.fieldAt 98 v40 2) w200 fun v201 w202 =>
 rv Try.prog (Instr.fieldAt 83 v201 0) w202 fun v203 w204 =>
 rv Try.prog (Instr.loadAt 27 v203) w204 fun v205 w206 =>
 rv Try.prog (Instr.fieldAt 83 v18 0) w206 fun v207 w208 =>
 rv Try.prog (Instr.loadAt 27 v207) w208 fun v209 w210 =>
 rv Try.prog (bin .leq 27 false v205 v209) w210 fun v211 w212 =>
 ifB v211
 (rv Try.prog (bin .neq 28 true v199 (.int .i64 2)) w212 fun v213 w214 =>
 ifB v213
 (K (.bool false) w214)
 (J35 (s26.2.2.1, s26.2.1, s26.1, ()) w214))
 (JoinW (S := Value × Unit) (fun J217 =>
 rv Try.prog (bin .eql 28 true v199 (.int .i64 180)) w212 fun v218 w219 =>
 ifB v218
 (Ca Try.prog 30 #[v6] w219 fun v220 w221 =>
 J217 (v220, ()) w221)
 (J217 ((.bool false), ()) w219))
 (J11_2 v40 v23 J35 s26 v199 K v18)))
 (rv Try.prog (Instr.fieldAt 98 v40 0) w194 fun v239 w240 =>
 rv Try.prog (Instr.loadAt 3 v239) w240 fun v241 w242 =>
 rv Try.prog (bin .eql 3 true v241 (.int .i64 1)) w242 fun v243 w244 =>
 ifB v243
 (rv Try.prog (Instr.fieldAt 98 v40 1) w244 fun v245 w246 =>
 rv Try.prog (Instr.loadAt 3 v245) w246 fun v247 w248 =>
 rv Try.prog (bin .rem 3 true v247 (.int .i64 60)) w248 fun v249 w250 =>
 Ca Try.prog 25 #[v6, v249] w250 fun v251 w252 =>
 rv Try.prog (bin .neq 28 true v251 (.int .i64 0)) w252 fun v253 w254 =>
 ifB v253
 (K (.bool false) w254)
 (J35 (s26.2.2.1, s26.2.1, s26.1, ()) w254))
 (J35 (s26.2.2.1, s26.2.1, s26.1, ()) w244)))))

def J11_4 (s26 : Value × Value × Value × Value × Unit) (K28 : Value × Value × Value × Value × Unit → World → Prop) (s33 : Value × Value × Value × Unit) (w34 : World) : Prop :=
 ∀ _ : Nat → Value,
 rv Try.prog (bin .add 3 true s26.2.2.2.1 (.int .i64 1)) w34 fun v255 w256 =>
 K28 (s33.2.2.1, s33.2.1, s33.1, v255, ()) w256

def L11_5 (a0 : Value) (v6 : Value) (K : Kont) (v18 : Value) (v23 : Value) (s26 : Value × Value × Value × Value × Unit) (w27 : World) (K28 : Value × Value × Value × Value × Unit → World → Prop) : Prop :=
 ∀ _ : Nat → Value,
 rn Try.prog (builtin .len #[95] 3 #[false] #[a0]) w27 fun v29 w30 =>
 rv Try.prog (bin .lss 3 false s26.2.2.2.1 v29) w30 fun v31 w32 =>
 ifB v31
 (JoinW (S := Value × Value × Value × Unit) (fun J35 =>
 rv Try.prog (Instr.indexAt 95 a0 s26.2.2.2.1) w32 fun v36 w37 =>
 rv Try.prog (Instr.loadAt 98 v36) w37 fun v38 w39 =>
 rv Try.prog (Instr.alloc 98 true (.tuple #[])) w39 fun v40 w41 =>
 ru Try.prog (Instr.storeAt 98 v40 v38) w41 fun w42 =>
 JoinW (S := Value × Unit) (fun J45 =>
 rv Try.prog (Instr.fieldAt 98 v40 2) w42 fun v46 w47 =>
 rv Try.prog (Instr.fieldAt 83 v46 2) w47 fun v48 w49 =>
 rv Try.prog (Instr.loadAt 23 v48) w49 fun v50 w51 =>
 rn Try.prog (builtin .len #[23] 3 #[false] #[v50]) w51 fun v52 w53 =>
 rv Try.prog (bin .gtr 3 true v52 (.int .i64 3000)) w53 fun v54 w55 =>
 ifB v54
 (J45 ((.bool true), ()) w55)
 (rv Try.prog (Instr.fieldAt 98 v40 3) w55 fun v56 w57 =>
 rv Try.prog (Instr.loadAt 23 v56) w57 fun v58 w59 =>
 rn Try.prog (builtin .len #[23] 3 #[false] #[v58]) w59 fun v60 w61 =>
 rv Try.prog (bin .gtr 3 true v60 (.int .i64 1000)) w61 fun v62 w63 =>
 ifB v62
 (J45 ((.bool true), ()) w63)
 (rv Try.prog (Instr.fieldAt 98 v40 1) w63 fun v64 w65 =>
 rv Try.prog (Instr.loadAt 3 v64) w65 fun v66 w67 =>
 rv Try.prog (bin .lss 3 true v66 (.int .i64 0)) w67 fun v68 w69 =>
 ifB v68
 (J45 ((.bool true), ()) w69)
 (rv Try.prog (Instr.fieldAt 98 v40 4) w69 fun v70 w71 =>
 rv Try.prog (Instr.loadAt 96 v70) w71 fun v72 w73 =>
 Ca Try.prog 45 #[v72] w73 fun v74 w75 =>
 rv Try.prog (Op.unary .not v74) w75 fun v76 w77 =>
 J45 (v76, ()) w77))))
 (J11_3 J35 s26 v40 v6 K v18 v23))
 (J11_4 s26 K28))
 (Ca Try.prog 41 #[] w32 fun v257 w258 =>
 K v257 w258)

/-- broadside/broadsidelaw21.ShotsPlays -/
def F11 (a0 : Value) (w : World) (K : Kont) : Prop :=
 rn Try.prog (builtin .len #[95] 3 #[false] #[a0]) w fun v0 w1 =>
 rv Try.prog (bin .gtr 3 true v0 (.int .i64 60)) w1 fun v2 w3 =>
 ifB v2
 (Ca Try.prog 41 #[] w3 fun v4 w5 =>
 K v4 w5)
 (Ca Try.prog 15 #[] w3 fun v6 w7 =>
 Ca Try.prog 42 #[v6, (.int .i64 4), (.int .i64 2)] w7 fun v8 w9 =>
 rv Try.prog (Instr.extract v8 0) w9 fun v10 w11 =>
 rv Try.prog (Instr.extract v8 1) w11 fun v12 w13 =>
 rv Try.prog (bin .neq 28 true v12 (.int .i64 0)) w13 fun v14 w15 =>
 ifB v14
 (K (.bool false) w15)
 (rv Try.prog (Instr.build 83 #[]) w15 fun v16 w17 =>
 rv Try.prog (Instr.alloc 83 true (.tuple #[])) w17 fun v18 w19 =>
 ru Try.prog (Instr.storeAt 83 v18 v16) w19 fun w20 =>
 rv Try.prog (Instr.loadAt 83 v18) w20 fun v21 w22 =>
 rv Try.prog (Instr.alloc 83 true (.tuple #[])) w22 fun v23 w24 =>
 ru Try.prog (Instr.storeAt 83 v23 v21) w24 fun w25 =>
 LoopW (S := Value × Value × Value × Value × Unit) (L11_5 a0 v6 K v18 v23) ((.bool false), v10, (.bool false), (.int .i64 0), ()) w25))
theorem F11_eq (a0 : Value) (w : World) (K : Kont) : vcFnJ Try.prog Try.f11 [a0] w K = F11 a0 w K := by kernel_rfl
theorem F11_ok : okF Try.prog Try.f11 1 = true := by kernel_rfl
theorem ca11{a0 : Value} {w : World} {K : Kont} (h : F11 a0 w K) : Ca Try.prog 11 #[a0] w K :=
  ca_of_vcJ Try.noNum Try.func11 F11_ok (by rw [F11_eq]; exact h)


def J45_0 (K : Kont) (s4 : Value × Value × Unit) (K6 : Value × Value × Unit → World → Prop) (s11 : Value × Unit) (w12 : World) : Prop :=
 ∀ _ : Nat → Value,
 ifB s11.1
 (K (.bool false) w12)
 (rv Try.prog (bin .add 3 true s4.2.1 (.int .i64 1)) w12 fun v32 w33 =>
 K6 (s4.1, v32, ()) w33)

def L45_1 (a0 : Value) (K : Kont) (s4 : Value × Value × Unit) (w5 : World) (K6 : Value × Value × Unit → World → Prop) : Prop :=
 ∀ _ : Nat → Value,
 rn Try.prog (builtin .len #[96] 3 #[false] #[a0]) w5 fun v7 w8 =>
 rv Try.prog (bin .lss 3 false s4.2.1 v7) w8 fun v9 w10 =>
 ifB v9
 (JoinW (S := Value × Unit) (fun J13 =>
 rv Try.prog (Instr.indexAt 96 a0 s4.2.1) w10 fun v14 w15 =>
 rv Try.prog (Instr.fieldAt 140 v14 1) w15 fun v16 w17 =>
 rv Try.prog (Instr.loadAt 3 v16) w17 fun v18 w19 =>
 rv Try.prog (bin .lss 3 true v18 (.int .i64 0)) w19 fun v20 w21 =>
 ifB v20
 (J13 ((.bool true), ()) w21)
 (rv Try.prog (Instr.indexAt 96 a0 s4.2.1) w21 fun v22 w23 =>
 rv Try.prog (Instr.fieldAt 140 v22 2) w23 fun v24 w25 =>
 rv Try.prog (Instr.loadAt 23 v24) w25 fun v26 w27 =>
 rn Try.prog (builtin .len #[23] 3 #[false] #[v26]) w27 fun v28 w29 =>
 rv Try.prog (bin .gtr 3 true v28 (.int .i64 1000)) w29 fun v30 w31 =>
 J13 (v30, ()) w31))
 (J45_0 K s4 K6))
 (K (.bool true) w10)

/-- broadside/broadsidelaw21.tried -/
def F45 (a0 : Value) (w : World) (K : Kont) : Prop :=
 rn Try.prog (builtin .len #[96] 3 #[false] #[a0]) w fun v0 w1 =>
 rv Try.prog (bin .gtr 3 true v0 (.int .i64 6)) w1 fun v2 w3 =>
 ifB v2
 (K (.bool false) w3)
 (LoopW (S := Value × Value × Unit) (L45_1 a0 K) ((.bool false), (.int .i64 0), ()) w3)
theorem F45_eq (a0 : Value) (w : World) (K : Kont) : vcFnJ Try.prog Try.f45 [a0] w K = F45 a0 w K := by kernel_rfl
theorem F45_ok : okF Try.prog Try.f45 1 = true := by kernel_rfl
theorem ca45{a0 : Value} {w : World} {K : Kont} (h : F45 a0 w K) : Ca Try.prog 45 #[a0] w K :=
  ca_of_vcJ Try.noNum Try.func45 F45_ok (by rw [F45_eq]; exact h)


def J46_0 (K : Kont) (s0 : Value × Value × Unit) (K2 : Value × Value × Unit → World → Prop) (s29 : Value × Unit) (w30 : World) : Prop :=
 ∀ _ : Nat → Value,
 ifB s29.1
 (K (.bool false) w30)
 (rv Try.prog (bin .add 3 true s0.2.1 (.int .i64 1)) w30 fun v55 w56 =>
 K2 (s0.1, v55, ()) w56)

def L46_1 (a1 : Value) (a0 : Value) (K : Kont) (s0 : Value × Value × Unit) (w1 : World) (K2 : Value × Value × Unit → World → Prop) : Prop :=
 ∀ _ : Nat → Value,
 rn Try.prog (builtin .len #[96] 3 #[false] #[a1]) w1 fun v3 w4 =>
 rv Try.prog (bin .lss 3 false s0.2.1 v3) w4 fun v5 w6 =>
 ifB v5
 (rv Try.prog (Instr.indexAt 96 a1 s0.2.1) w6 fun v7 w8 =>
 rv Try.prog (Instr.fieldAt 140 v7 0) w8 fun v9 w10 =>
 rv Try.prog (Instr.loadAt 3 v9) w10 fun v11 w12 =>
 rv Try.prog (convert 3 27 v11) w12 fun v13 w14 =>
 rv Try.prog (bin .rem 27 true v13 (.int .u64 9)) w14 fun v15 w16 =>
 rv Try.prog (convert 27 3 v15) w16 fun v17 w18 =>
 Ca Try.prog 25 #[a0, v17] w18 fun v19 w20 =>
 rv Try.prog (bin .neq 28 true v19 (.int .i64 0)) w20 fun v21 w22 =>
 ifB v21
 (K (.bool false) w22)
 (Ca Try.prog 42 #[a0, (.int .i64 4), (.int .i64 2)] w22 fun v23 w24 =>
 rv Try.prog (Instr.extract v23 0) w24 fun v25 w26 =>
 rv Try.prog (Instr.extract v23 1) w26 fun v27 w28 =>
 JoinW (S := Value × Unit) (fun J31 =>
 rdP Try.prog (bin .neq 28 true v27 (.int .i64 0)) fun v32 =>
 ifB v32
 (rdP Try.prog (bin .neq 28 true v27 (.int .i64 180)) fun v33 =>
 ifB v33
 (J31 ((.bool true), ()) w28.drew)
 (Ca Try.prog 30 #[a0] w28.drew fun v34 w35 =>
 rdP Try.prog (Op.unary .not v34) fun v36 =>
 ifB v36
 (J31 ((.bool true), ()) w35)
 (rdP Try.prog (Instr.indexAt 96 a1 s0.2.1) fun v37 =>
 rdP Try.prog (Instr.fieldAt 140 v37 1) fun v38 =>
 rdW Try.prog (Instr.loadAt 3 v38) w35 fun v39 =>
 rdP Try.prog (Instr.indexAt 96 a1 s0.2.1) fun v40 =>
 rdP Try.prog (Instr.fieldAt 140 v40 2) fun v41 =>
 rdW Try.prog (Instr.loadAt 23 v41) w35 fun v42 =>
 Ca Try.prog 19 #[a0, v39, v42] w35 fun v43 w44 =>
 rdP Try.prog (bin .neq 28 true v43 (.int .i64 0)) fun v45 =>
 J31 (v45, ()) w44)))
 (rdP Try.prog (Instr.indexAt 96 a1 s0.2.1) fun v46 =>
 rdP Try.prog (Instr.fieldAt 140 v46 1) fun v47 =>
 rdW Try.prog (Instr.loadAt 3 v47) w28.drew fun v48 =>
 rdP Try.prog (Instr.indexAt 96 a1 s0.2.1) fun v49 =>
 rdP Try.prog (Instr.fieldAt 140 v49 2) fun v50 =>
 rdW Try.prog (Instr.loadAt 23 v50) w28.drew fun v51 =>
 Ca Try.prog 19 #[a0, v48, v51] w28.drew fun v52 w53 =>
 rdP Try.prog (bin .neq 28 true v52 (.int .i64 0)) fun v54 =>
 J31 (v54, ()) w53))
 (J46_0 K s0 K2)))
 (K (.bool true) w6)

/-- broadside/broadsidelaw21.broken -/
def F46 (a0 a1 : Value) (w : World) (K : Kont) : Prop :=
 LoopW (S := Value × Value × Unit) (L46_1 a1 a0 K) ((.bool false), (.int .i64 0), ()) w
theorem F46_eq (a0 a1 : Value) (w : World) (K : Kont) : vcFnJ Try.prog Try.f46 [a0, a1] w K = F46 a0 a1 w K := by kernel_rfl
theorem F46_ok : okF Try.prog Try.f46 2 = true := by kernel_rfl
theorem ca46{a0 a1 : Value} {w : World} {K : Kont} (h : F46 a0 a1 w K) : Ca Try.prog 46 #[a0, a1] w K :=
  ca_of_vcJ Try.noNum Try.func46 F46_ok (by rw [F46_eq]; exact h)



/-- broadside/broadsideref21.Same -/
def F47 (a0 a1 : Value) (w : World) (K : Kont) : Prop :=
 rv Try.prog (Instr.box 83 a0) w fun v0 w1 =>
 rv Try.prog (Instr.box 83 a1) w1 fun v2 w3 =>
 rv Try.prog (Instr.fieldAt 83 v0 0) w3 fun v4 w5 =>
 rv Try.prog (Instr.loadAt 27 v4) w5 fun v6 w7 =>
 rv Try.prog (Instr.fieldAt 83 v2 0) w7 fun v8 w9 =>
 rv Try.prog (Instr.loadAt 27 v8) w9 fun v10 w11 =>
 rv Try.prog (bin .eql 27 false v6 v10) w11 fun v12 w13 =>
 ifB v12
 (rv Try.prog (Instr.fieldAt 83 v0 1) w13 fun v14 w15 =>
 rv Try.prog (Instr.loadAt 27 v14) w15 fun v16 w17 =>
 rv Try.prog (Instr.fieldAt 83 v2 1) w17 fun v18 w19 =>
 rv Try.prog (Instr.loadAt 27 v18) w19 fun v20 w21 =>
 rv Try.prog (bin .eql 27 false v16 v20) w21 fun v22 w23 =>
 ifB v22
 (rv Try.prog (Instr.fieldAt 83 v0 2) w23 fun v24 w25 =>
 rv Try.prog (Instr.loadAt 23 v24) w25 fun v26 w27 =>
 rx Try.prog (xConv 23 9 v26) w27 fun v28 w29 =>
 rv Try.prog (Instr.fieldAt 83 v2 2) w29 fun v30 w31 =>
 rv Try.prog (Instr.loadAt 23 v30) w31 fun v32 w33 =>
 rx Try.prog (xConv 23 9 v32) w33 fun v34 w35 =>
 rv Try.prog (bin .eql 9 false v28 v34) w35 fun v36 w37 =>
 K v36 w37)
 (K (.bool false) w23))
 (K (.bool false) w13)
theorem F47_eq (a0 a1 : Value) (w : World) (K : Kont) : vcFnJ Try.prog Try.f47 [a0, a1] w K = F47 a0 a1 w K := by kernel_rfl
theorem F47_ok : okF Try.prog Try.f47 2 = true := by kernel_rfl
theorem ca47{a0 a1 : Value} {w : World} {K : Kont} (h : F47 a0 a1 w K) : Ca Try.prog 47 #[a0, a1] w K :=
  ca_of_vcJ Try.noNum Try.func47 F47_ok (by rw [F47_eq]; exact h)


end Go.Proofs
