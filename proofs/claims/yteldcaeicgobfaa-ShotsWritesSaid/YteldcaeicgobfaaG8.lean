/-
  Formulas of the program's functions, printed by a program of mine: each is what the computed precondition of the function's body comes to.
  Conditions: none.
-/
import Derived.Test.YteldcaeicgobfaaG0
import Derived.Test.YteldcaeicgobfaaVcFn
set_option linter.unusedSimpArgs false
set_option maxRecDepth 100000
set_option linter.unusedVariables false
namespace Go.Proofs
open Go Go.Vc


def J48_0 (s4 : Value × Unit) (K6 : Value × Unit → World → Prop) (K : Kont) (s7 : Value × Unit) (w8 : World) : Prop :=
 ∀ _ : Nat → Value,
 ifB s7.1
 (rx Try.prog (xLit 23 1 [(0, (.int .u8 0))]) w8 fun v20 w21 =>
 rx Try.prog (xAppend #[23, 23] 23 [s4.1, v20]) w21 fun v22 w23 =>
 K6 (v22, ()) w23)
 (K s4.1 w8)

def L48_1 (K : Kont) (s4 : Value × Unit) (w5 : World) (K6 : Value × Unit → World → Prop) : Prop :=
 ∀ _ : Nat → Value,
 JoinW (S := Value × Unit) (fun J9 =>
 rn Try.prog (builtin .len #[23] 3 #[false] #[s4.1]) w5 fun v10 w11 =>
 rv Try.prog (bin .lss 3 true v10 (.int .i64 384)) w11 fun v12 w13 =>
 ifB v12
 (J9 ((.bool true), ()) w13)
 (rn Try.prog (builtin .len #[23] 3 #[false] #[s4.1]) w13 fun v14 w15 =>
 rv Try.prog (bin .rem 3 true v14 (.int .i64 128)) w15 fun v16 w17 =>
 rv Try.prog (bin .neq 3 true v16 (.int .i64 0)) w17 fun v18 w19 =>
 J9 (v18, ()) w19))
 (J48_0 s4 K6 K)

/-- broadside/broadsidelaw21.whole -/
def F48 (a0 : Value) (w : World) (K : Kont) : Prop :=
 rx Try.prog (xLit 23 0 []) w fun v0 w1 =>
 rx Try.prog (xAppend #[23, 23] 23 [v0, a0]) w1 fun v2 w3 =>
 LoopW (S := Value × Unit) (L48_1 K) (v2, ()) w3
theorem F48_eq (a0 : Value) (w : World) (K : Kont) : vcFnJ Try.prog Try.f48 [a0] w K = F48 a0 w K := by kernel_rfl
theorem F48_ok : okF Try.prog Try.f48 1 = true := by kernel_rfl
theorem ca48{a0 : Value} {w : World} {K : Kont} (h : F48 a0 w K) : Ca Try.prog 48 #[a0] w K :=
  ca_of_vcJ Try.noNum Try.func48 F48_ok (by rw [F48_eq]; exact h)


def J49_0 (K : Kont) (v0 : Value) (s2 : Value × Unit) (w3 : World) : Prop :=
 ∀ _ : Nat → Value,
 ifB s2.1
 (K (.tuple #[v0, (.bool false)]) w3)
 (Ca Try.prog 16 #[v0] w3 fun v29 w30 =>
 rv Try.prog (bin .eql 28 true v29 (.int .i64 0)) w30 fun v31 w32 =>
 K (.tuple #[v0, v31]) w32)

/-- broadside/broadsidelaw21.laid -/
def F49 (a0 a1 : Value) (w : World) (K : Kont) : Prop :=
 Ca Try.prog 15 #[] w fun v0 w1 =>
 JoinW (S := Value × Unit) (fun J4 =>
 rn Try.prog (builtin .len #[23] 3 #[false] #[a0]) w1 fun v5 w6 =>
 rv Try.prog (bin .gtr 3 true v5 (.int .i64 0)) w6 fun v7 w8 =>
 ifB v7
 (Ca Try.prog 17 #[v0, (.int .i64 0), (.int .i64 0), a0] w8 fun v9 w10 =>
 rv Try.prog (bin .neq 28 true v9 (.int .i64 0)) w10 fun v11 w12 =>
 ifB v11
 (J4 ((.bool true), ()) w12)
 (rn Try.prog (builtin .len #[23] 3 #[false] #[a1]) w12 fun v13 w14 =>
 rv Try.prog (bin .gtr 3 true v13 (.int .i64 0)) w14 fun v15 w16 =>
 ifB v15
 (Ca Try.prog 17 #[v0, (.int .i64 1), (.int .i64 0), a1] w16 fun v17 w18 =>
 rv Try.prog (bin .neq 28 true v17 (.int .i64 0)) w18 fun v19 w20 =>
 J4 (v19, ()) w20)
 (J4 ((.bool false), ()) w16)))
 (rn Try.prog (builtin .len #[23] 3 #[false] #[a1]) w8 fun v21 w22 =>
 rv Try.prog (bin .gtr 3 true v21 (.int .i64 0)) w22 fun v23 w24 =>
 ifB v23
 (Ca Try.prog 17 #[v0, (.int .i64 1), (.int .i64 0), a1] w24 fun v25 w26 =>
 rv Try.prog (bin .neq 28 true v25 (.int .i64 0)) w26 fun v27 w28 =>
 J4 (v27, ()) w28)
 (J4 ((.bool false), ()) w24)))
 (J49_0 K v0)
theorem F49_eq (a0 a1 : Value) (w : World) (K : Kont) : vcFnJ Try.prog Try.f49 [a0, a1] w K = F49 a0 a1 w K := by kernel_rfl
theorem F49_ok : okF Try.prog Try.f49 2 = true := by kernel_rfl
theorem ca49{a0 a1 : Value} {w : World} {K : Kont} (h : F49 a0 a1 w K) : Ca Try.prog 49 #[a0, a1] w K :=
  ca_of_vcJ Try.noNum Try.func49 F49_ok (by rw [F49_eq]; exact h)


def L12_0 (v58 : Value) (v25 : Value) (v49 : Value) (K : Kont) (s126 : Value × Unit) (w127 : World) (K128 : Value × Unit → World → Prop) : Prop :=
 ∀ _ : Nat → Value,
 rv Try.prog (Instr.fieldAt 83 v58 2) w127 fun v129 w130 =>
 rv Try.prog (Instr.loadAt 23 v129) w130 fun v131 w132 =>
 rn Try.prog (builtin .len #[23] 3 #[false] #[v131]) w132 fun v133 w134 =>
 rv Try.prog (bin .lss 3 false s126.1 v133) w134 fun v135 w136 =>
 ifB v135
 (rv Try.prog (Instr.fieldAt 83 v58 2) w136 fun v137 w138 =>
 rv Try.prog (Instr.loadAt 23 v137) w138 fun v139 w140 =>
 rv Try.prog (Instr.indexAt 23 v139 s126.1) w140 fun v141 w142 =>
 rv Try.prog (Instr.loadAt 5 v141) w142 fun v143 w144 =>
 rv Try.prog (bin .add 5 true v143 (.int .u8 1)) w144 fun v145 w146 =>
 rv Try.prog (Instr.indexAt 23 v139 s126.1) w146 fun v147 w148 =>
 ru Try.prog (Instr.storeAt 5 v147 v145) w148 fun w149 =>
 rv Try.prog (bin .add 3 true s126.1 (.int .i64 1)) w149 fun v150 w151 =>
 K128 (v150, ()) w151)
 (Ca Try.prog 43 #[v25] w136 fun v152 w153 =>
 rv Try.prog (Instr.extract v152 0) w153 fun v154 w155 =>
 rv Try.prog (Instr.extract v152 1) w155 fun v156 w157 =>
 rv Try.prog (Instr.alloc 83 true (.tuple #[])) w157 fun v158 w159 =>
 ru Try.prog (Instr.storeAt 83 v158 v154) w159 fun w160 =>
 rv Try.prog (bin .eql 28 true v156 (.int .i64 0)) w160 fun v161 w162 =>
 ifB v161
 (rv Try.prog (Instr.loadAt 83 v49) w162 fun v163 w164 =>
 rv Try.prog (Instr.loadAt 83 v158) w164 fun v165 w166 =>
 Ca Try.prog 47 #[v163, v165] w166 fun v167 w168 =>
 ifB v167
 (Ca Try.prog 41 #[] w168 fun v169 w170 =>
 K v169 w170)
 (K (.bool false) w168))
 (K (.bool false) w162))

def J12_1 (K : Kont) (v58 : Value) (v25 : Value) (v49 : Value) (s113 : Value × Unit) (w114 : World) : Prop :=
 ∀ _ : Nat → Value,
 ifB s113.1
 (K (.bool false) w114)
 (LoopW (S := Value × Unit) (L12_0 v58 v25 v49 K) ((.int .i64 0), ()) w114)

def J12_2 (K : Kont) (v47 : Value) (v56 : Value) (v58 : Value) (v49 : Value) (v25 : Value) (s81 : Value × Unit) (w82 : World) : Prop :=
 ∀ _ : Nat → Value,
 ifB s81.1
 (K (.bool false) w82)
 (rv Try.prog (bin .lss 3 true v47 (.int .i64 0)) w82 fun v101 w102 =>
 ifB v101
 (rv Try.prog (bin .eql 28 true v56 (.int .i64 7)) w102 fun v103 w104 =>
 ifB v103
 (rv Try.prog (Instr.loadAt 83 v58) w104 fun v105 w106 =>
 rv Try.prog (Instr.build 83 #[]) w106 fun v107 w108 =>
 Ca Try.prog 47 #[v105, v107] w108 fun v109 w110 =>
 ifB v109
 (Ca Try.prog 41 #[] w110 fun v111 w112 =>
 K v111 w112)
 (K (.bool false) w110))
 (K (.bool false) w104))
 (JoinW (S := Value × Unit) (fun J115 =>
 rv Try.prog (bin .neq 28 true v56 (.int .i64 0)) w102 fun v116 w117 =>
 ifB v116
 (J115 ((.bool true), ()) w117)
 (rv Try.prog (Instr.loadAt 83 v49) w117 fun v118 w119 =>
 rv Try.prog (Instr.loadAt 83 v58) w119 fun v120 w121 =>
 Ca Try.prog 47 #[v118, v120] w121 fun v122 w123 =>
 rv Try.prog (Op.unary .not v122) w123 fun v124 w125 =>
 J115 (v124, ()) w125))
 (J12_1 K v58 v25 v49)))

def J12_3 (K : Kont) (a0 : Value) (a1 : Value) (s0 : Value × Unit) (w1 : World) : Prop :=
 ∀ _ : Nat → Value,
 ifB s0.1
 (Ca Try.prog 41 #[] w1 fun v11 w12 =>
 K v11 w12)
 (Ca Try.prog 48 #[a0] w1 fun v13 w14 =>
 Ca Try.prog 48 #[a1] w14 fun v15 w16 =>
 Ca Try.prog 49 #[v13, v15] w16 fun v17 w18 =>
 rv Try.prog (Instr.extract v17 0) w18 fun v19 w20 =>
 rv Try.prog (Instr.extract v17 1) w20 fun v21 w22 =>
 Ca Try.prog 42 #[v19, (.int .i64 0), (.int .i64 1)] w22 fun v23 w24 =>
 rv Try.prog (Instr.extract v23 0) w24 fun v25 w26 =>
 rv Try.prog (Instr.extract v23 1) w26 fun v27 w28 =>
 rx Try.prog (xMake 23 (.int .i64 25600) (.int .i64 25600)) w28 fun v29 w30 =>
 rx Try.prog (xLit 23 0 []) w30 fun v31 w32 =>
 rx Try.prog (xAppend #[23, 23] 23 [v31, v13]) w32 fun v33 w34 =>
 rx Try.prog (xAppend #[23, 23] 23 [v33, v29]) w34 fun v35 w36 =>
 rx Try.prog (xLit 23 0 []) w36 fun v37 w38 =>
 rx Try.prog (xAppend #[23, 23] 23 [v37, v15]) w38 fun v39 w40 =>
 rx Try.prog (xAppend #[23, 23] 23 [v39, v29]) w40 fun v41 w42 =>
 Ca Try.prog 50 #[v35, v41] w42 fun v43 w44 =>
 rv Try.prog (Instr.extract v43 0) w44 fun v45 w46 =>
 rv Try.prog (Instr.extract v43 1) w46 fun v47 w48 =>
 rv Try.prog (Instr.alloc 83 true (.tuple #[])) w48 fun v49 w50 =>
 ru Try.prog (Instr.storeAt 83 v49 v45) w50 fun w51 =>
 Ca Try.prog 43 #[v25] w51 fun v52 w53 =>
 rv Try.prog (Instr.extract v52 0) w53 fun v54 w55 =>
 rv Try.prog (Instr.extract v52 1) w55 fun v56 w57 =>
 rv Try.prog (Instr.alloc 83 true (.tuple #[])) w57 fun v58 w59 =>
 ru Try.prog (Instr.storeAt 83 v58 v54) w59 fun w60 =>
 rn Try.prog (builtin .len #[23] 3 #[false] #[v13]) w60 fun v61 w62 =>
 rv Try.prog (bin .quo 3 true v61 (.int .i64 128)) w62 fun v63 w64 =>
 Ca Try.prog 20 #[v19, (.int .i64 0), (.int .i64 0), v63] w64 fun v65 w66 =>
 rv Try.prog (Instr.extract v65 0) w66 fun v67 w68 =>
 rv Try.prog (Instr.extract v65 1) w68 fun v69 w70 =>
 rn Try.prog (builtin .len #[23] 3 #[false] #[v15]) w70 fun v71 w72 =>
 rv Try.prog (bin .quo 3 true v71 (.int .i64 128)) w72 fun v73 w74 =>
 Ca Try.prog 20 #[v19, (.int .i64 1), (.int .i64 0), v73] w74 fun v75 w76 =>
 rv Try.prog (Instr.extract v75 0) w76 fun v77 w78 =>
 rv Try.prog (Instr.extract v75 1) w78 fun v79 w80 =>
 JoinW (S := Value × Unit) (fun J83 =>
 rdP Try.prog (Op.unary .not v21) fun v84 =>
 ifB v84
 (J83 ((.bool true), ()) w80.drew)
 (rdP Try.prog (bin .neq 28 true v27 (.int .i64 0)) fun v85 =>
 ifB v85
 (J83 ((.bool true), ()) w80.drew)
 (Ca Try.prog 21 #[v19] w80.drew fun v86 w87 =>
 rdP Try.prog (bin .neq 3 true v86 (.int .i64 0)) fun v88 =>
 ifB v88
 (J83 ((.bool true), ()) w87)
 (rdP Try.prog (bin .neq 28 true v69 (.int .i64 0)) fun v89 =>
 ifB v89
 (J83 ((.bool true), ()) w87)
 (rdP Try.prog (bin .neq 28 true v79 (.int .i64 0)) fun v90 =>
 ifB v90
 (J83 ((.bool true), ()) w87)
 (rdX Try.prog (xConv 23 9 v67) w87 fun v91 =>
 Ca Try.prog 51 #[v13] w87 fun v92 w93 =>
 Sem.run Try.prog (xConv 23 9 v67) w93 = .ok v91 w93 ∧ 
 (rdX Try.prog (xConv 23 9 v92) w93 fun v94 =>
 rdP Try.prog (bin .neq 9 false v91 v94) fun v95 =>
 ifB v95
 (J83 ((.bool true), ()) w93)
 (rdX Try.prog (xConv 23 9 v77) w93 fun v96 =>
 Ca Try.prog 51 #[v15] w93 fun v97 w98 =>
 Sem.run Try.prog (xConv 23 9 v77) w98 = .ok v96 w98 ∧ 
 (rdX Try.prog (xConv 23 9 v97) w98 fun v99 =>
 rdP Try.prog (bin .neq 9 false v96 v99) fun v100 =>
 J83 (v100, ()) w98)))))))))
 (J12_2 K v47 v56 v58 v49 v25))

/-- broadside/broadsidelaw21.ShotsReads -/
def F12 (a0 a1 : Value) (w : World) (K : Kont) : Prop :=
 JoinW (S := Value × Unit) (fun J2 =>
 rn Try.prog (builtin .len #[23] 3 #[false] #[a0]) w fun v3 w4 =>
 rv Try.prog (bin .gtr 3 true v3 (.int .i64 20000)) w4 fun v5 w6 =>
 ifB v5
 (J2 ((.bool true), ()) w6)
 (rn Try.prog (builtin .len #[23] 3 #[false] #[a1]) w6 fun v7 w8 =>
 rv Try.prog (bin .gtr 3 true v7 (.int .i64 20000)) w8 fun v9 w10 =>
 J2 (v9, ()) w10))
 (J12_3 K a0 a1)
theorem F12_eq (a0 a1 : Value) (w : World) (K : Kont) : vcFnJ Try.prog Try.f12 [a0, a1] w K = F12 a0 a1 w K := by kernel_rfl
theorem F12_ok : okF Try.prog Try.f12 2 = true := by kernel_rfl
theorem ca12{a0 a1 : Value} {w : World} {K : Kont} (h : F12 a0 a1 w K) : Ca Try.prog 12 #[a0, a1] w K :=
  ca_of_vcJ Try.noNum Try.func12 F12_ok (by rw [F12_eq]; exact h)


def J13_0 (K : Kont) (J158 : Value × Unit → World → Prop) (s226 : Value × Unit) (w227 : World) : Prop :=
 ∀ _ : Nat → Value,
 ifB s226.1
 (K (.bool false) w227)
 (J158 ((.bool false), ()) w227)

def J13_1 (v154 : Value) (s182 : Value × Unit) (v43 : Value) (v103 : Value) (v0 : Value) (K : Kont) (J158 : Value × Unit → World → Prop) (s191 : Value × Unit) (w192 : World) : Prop :=
 ∀ _ : Nat → Value,
 rv Try.prog (Instr.indexAt 108 v154 s182.1) w192 fun v214 w215 =>
 ru Try.prog (Instr.storeAt 23 v214 s191.1) w215 fun w216 =>
 Ca Try.prog 43 #[v43] w216 fun v217 w218 =>
 rv Try.prog (Instr.extract v217 0) w218 fun v219 w220 =>
 rv Try.prog (Instr.extract v217 1) w220 fun v221 w222 =>
 rv Try.prog (Instr.alloc 83 true (.tuple #[])) w222 fun v223 w224 =>
 ru Try.prog (Instr.storeAt 83 v223 v219) w224 fun w225 =>
 JoinW (S := Value × Unit) (fun J228 =>
 rv Try.prog (bin .neq 28 true v103 (.int .i64 0)) w225 fun v229 w230 =>
 ifB v229
 (J228 ((.bool true), ()) w230)
 (rv Try.prog (bin .neq 28 true v221 (.int .i64 0)) w230 fun v231 w232 =>
 ifB v231
 (J228 ((.bool true), ()) w232)
 (rv Try.prog (Instr.loadAt 83 v0) w232 fun v233 w234 =>
 rv Try.prog (Instr.loadAt 83 v223) w234 fun v235 w236 =>
 Ca Try.prog 47 #[v233, v235] w236 fun v237 w238 =>
 rv Try.prog (Op.unary .not v237) w238 fun v239 w240 =>
 J228 (v239, ()) w240)))
 (J13_0 K J158)

def J13_2 (v0 : Value) (v154 : Value) (v43 : Value) (v103 : Value) (K : Kont) (J158 : Value × Unit → World → Prop) (s182 : Value × Unit) (w183 : World) : Prop :=
 ∀ _ : Nat → Value,
 rv Try.prog (Instr.loadAt 83 v0) w183 fun v187 w188 =>
 Ca Try.prog 53 #[v187] w188 fun v189 w190 =>
 JoinW (S := Value × Unit) (fun J193 =>
 rv Try.prog (Instr.indexAt 108 v154 s182.1) w190 fun v194 w195 =>
 rv Try.prog (Instr.loadAt 23 v194) w195 fun v196 w197 =>
 rn Try.prog (builtin .len #[23] 3 #[false] #[v196]) w197 fun v198 w199 =>
 rn Try.prog (builtin .len #[23] 3 #[false] #[v189]) w199 fun v200 w201 =>
 rv Try.prog (bin .gtr 3 false v198 v200) w201 fun v202 w203 =>
 ifB v202
 (rv Try.prog (Instr.indexAt 108 v154 s182.1) w203 fun v204 w205 =>
 rv Try.prog (Instr.loadAt 23 v204) w205 fun v206 w207 =>
 rn Try.prog (builtin .len #[23] 3 #[false] #[v189]) w207 fun v208 w209 =>
 rv Try.prog (Instr.sliceAt 23 v206 (some v208) none none) w209 fun v210 w211 =>
 rx Try.prog (xAppend #[23, 23] 23 [v189, v210]) w211 fun v212 w213 =>
 J193 (v212, ()) w213)
 (J193 (v189, ()) w203))
 (J13_1 v154 s182 v43 v103 v0 K J158)

def J13_3 (v103 : Value) (K : Kont) (J158 : Value × Unit → World → Prop) (v65 : Value) (v0 : Value) (v154 : Value) (v43 : Value) (s159 : Value × Unit) (w160 : World) : Prop :=
 ∀ _ : Nat → Value,
 ifB s159.1
 (rv Try.prog (bin .neq 28 true v103 (.int .i64 2)) w160 fun v180 w181 =>
 ifB v180
 (K (.bool false) w181)
 (J158 ((.bool false), ()) w181))
 (JoinW (S := Value × Unit) (fun J184 =>
 rv Try.prog (bin .eql 3 true v65 (.int .i64 0)) w160 fun v185 w186 =>
 ifB v185
 (J184 ((.int .i64 1), ()) w186)
 (J184 ((.int .i64 0), ()) w186))
 (J13_2 v0 v154 v43 v103 K J158))

def J13_4 (K : Kont) (s241 : Value × Value × Unit) (K243 : Value × Value × Unit → World → Prop) (s260 : Value × Unit) (w261 : World) : Prop :=
 ∀ _ : Nat → Value,
 ifB s260.1
 (K (.bool false) w261)
 (rv Try.prog (bin .add 3 true s241.2.1 (.int .i64 1)) w261 fun v269 w270 =>
 K243 (s241.1, v269, ()) w270)

def L13_5 (v154 : Value) (v37 : Value) (K : Kont) (s241 : Value × Value × Unit) (w242 : World) (K243 : Value × Value × Unit → World → Prop) : Prop :=
 ∀ _ : Nat → Value,
 rv Try.prog (bin .lss 3 true s241.2.1 (.int .i64 2)) w242 fun v244 w245 =>
 ifB v244
 (rv Try.prog (Instr.indexAt 108 v154 s241.2.1) w245 fun v246 w247 =>
 rv Try.prog (Instr.loadAt 23 v246) w247 fun v248 w249 =>
 rn Try.prog (builtin .len #[23] 3 #[false] #[v248]) w249 fun v250 w251 =>
 rv Try.prog (bin .quo 3 true v250 (.int .i64 128)) w251 fun v252 w253 =>
 Ca Try.prog 20 #[v37, s241.2.1, (.int .i64 0), v252] w253 fun v254 w255 =>
 rv Try.prog (Instr.extract v254 0) w255 fun v256 w257 =>
 rv Try.prog (Instr.extract v254 1) w257 fun v258 w259 =>
 JoinW (S := Value × Unit) (fun J262 =>
 rdP Try.prog (bin .neq 28 true v258 (.int .i64 0)) fun v263 =>
 ifB v263
 (J262 ((.bool true), ()) w259.drew)
 (rdX Try.prog (xConv 23 9 v256) w259.drew fun v264 =>
 rdP Try.prog (Instr.indexAt 108 v154 s241.2.1) fun v265 =>
 rdW Try.prog (Instr.loadAt 23 v265) w259.drew fun v266 =>
 rdX Try.prog (xConv 23 9 v266) w259.drew fun v267 =>
 rdP Try.prog (bin .neq 9 false v264 v267) fun v268 =>
 J262 (v268, ()) w259.drew))
 (J13_4 K s241 K243))
 (Ca Try.prog 41 #[] w245 fun v271 w272 =>
 K v271 w272)

def J13_6 (v154 : Value) (v37 : Value) (K : Kont) (s156 : Value × Unit) (w157 : World) : Prop :=
 ∀ _ : Nat → Value,
 LoopW (S := Value × Value × Unit) (L13_5 v154 v37 K) (s156.1, (.int .i64 0), ()) w157

def L13_7 (s70 : Value × Unit) (v31 : Value) (v33 : Value) (v0 : Value) (v65 : Value) (v67 : Value) (v103 : Value) (K : Kont) (v43 : Value) (v37 : Value) (s124 : Value × Unit) (w125 : World) (K126 : Value × Unit → World → Prop) : Prop :=
 ∀ _ : Nat → Value,
 rv Try.prog (Instr.fieldAt 83 s70.1 2) w125 fun v127 w128 =>
 rv Try.prog (Instr.loadAt 23 v127) w128 fun v129 w130 =>
 rn Try.prog (builtin .len #[23] 3 #[false] #[v129]) w130 fun v131 w132 =>
 rv Try.prog (bin .lss 3 false s124.1 v131) w132 fun v133 w134 =>
 ifB v133
 (rv Try.prog (Instr.fieldAt 83 s70.1 2) w134 fun v135 w136 =>
 rv Try.prog (Instr.loadAt 23 v135) w136 fun v137 w138 =>
 rv Try.prog (Instr.indexAt 23 v137 s124.1) w138 fun v139 w140 =>
 rv Try.prog (Instr.loadAt 5 v139) w140 fun v141 w142 =>
 rv Try.prog (bin .add 5 true v141 (.int .u8 1)) w142 fun v143 w144 =>
 rv Try.prog (Instr.indexAt 23 v137 s124.1) w144 fun v145 w146 =>
 ru Try.prog (Instr.storeAt 5 v145 v143) w146 fun w147 =>
 rv Try.prog (bin .add 3 true s124.1 (.int .i64 1)) w147 fun v148 w149 =>
 K126 (v148, ()) w149)
 (Ca Try.prog 51 #[v31] w134 fun v150 w151 =>
 Ca Try.prog 51 #[v33] w151 fun v152 w153 =>
 rx Try.prog (xLit 108 2 [(0, v150), (1, v152)]) w153 fun v154 w155 =>
 JoinW (S := Value × Unit) (fun J158 =>
 JoinW (S := Value × Unit) (fun J161 =>
 rv Try.prog (Instr.loadAt 83 v0) w155 fun v162 w163 =>
 Ca Try.prog 52 #[v162] w163 fun v164 w165 =>
 rv Try.prog (Op.unary .not v164) w165 fun v166 w167 =>
 ifB v166
 (J161 ((.bool true), ()) w167)
 (rv Try.prog (bin .geq 3 true v65 (.int .i64 0)) w167 fun v168 w169 =>
 ifB v168
 (rv Try.prog (Instr.fieldAt 83 v0 0) w169 fun v170 w171 =>
 rv Try.prog (Instr.loadAt 27 v170) w171 fun v172 w173 =>
 rv Try.prog (Instr.fieldAt 83 v67 0) w173 fun v174 w175 =>
 rv Try.prog (Instr.loadAt 27 v174) w175 fun v176 w177 =>
 rv Try.prog (bin .leq 27 false v172 v176) w177 fun v178 w179 =>
 J161 (v178, ()) w179)
 (J161 ((.bool false), ()) w169)))
 (J13_3 v103 K J158 v65 v0 v154 v43))
 (J13_6 v154 v37 K))

def J13_8 (K : Kont) (s70 : Value × Unit) (v31 : Value) (v33 : Value) (v0 : Value) (v65 : Value) (v67 : Value) (v103 : Value) (v43 : Value) (v37 : Value) (s105 : Value × Unit) (w106 : World) : Prop :=
 ∀ _ : Nat → Value,
 ifB s105.1
 (K (.bool false) w106)
 (LoopW (S := Value × Unit) (L13_7 s70 v31 v33 v0 v65 v67 v103 K v43 v37) ((.int .i64 0), ()) w106)

def J13_9 (v43 : Value) (v39 : Value) (v45 : Value) (v0 : Value) (v37 : Value) (K : Kont) (v31 : Value) (v33 : Value) (v65 : Value) (v67 : Value) (s70 : Value × Unit) (w71 : World) : Prop :=
 ∀ _ : Nat → Value,
 rv Try.prog (Instr.loadAt 83 s70.1) w71 fun v101 w102 =>
 Ca Try.prog 44 #[v43, v101] w102 fun v103 w104 =>
 JoinW (S := Value × Unit) (fun J107 =>
 rv Try.prog (Op.unary .not v39) w104 fun v108 w109 =>
 ifB v108
 (J107 ((.bool true), ()) w109)
 (rv Try.prog (bin .neq 28 true v45 (.int .i64 0)) w109 fun v110 w111 =>
 ifB v110
 (J107 ((.bool true), ()) w111)
 (rv Try.prog (Instr.loadAt 83 s70.1) w111 fun v112 w113 =>
 rv Try.prog (Instr.loadAt 83 v0) w113 fun v114 w115 =>
 Ca Try.prog 47 #[v112, v114] w115 fun v116 w117 =>
 rv Try.prog (Op.unary .not v116) w117 fun v118 w119 =>
 ifB v118
 (J107 ((.bool true), ()) w119)
 (Ca Try.prog 21 #[v37] w119 fun v120 w121 =>
 rv Try.prog (bin .neq 3 true v120 (.int .i64 0)) w121 fun v122 w123 =>
 J107 (v122, ()) w123))))
 (J13_8 K s70 v31 v33 v0 v65 v67 v103 v43 v37)

def J13_10 (K : Kont) (a0 : Value) (a1 : Value) (v0 : Value) (s2 : Value × Unit) (w3 : World) : Prop :=
 ∀ _ : Nat → Value,
 ifB s2.1
 (Ca Try.prog 41 #[] w3 fun v29 w30 =>
 K v29 w30)
 (Ca Try.prog 48 #[a0] w3 fun v31 w32 =>
 Ca Try.prog 48 #[a1] w32 fun v33 w34 =>
 Ca Try.prog 49 #[v31, v33] w34 fun v35 w36 =>
 rv Try.prog (Instr.extract v35 0) w36 fun v37 w38 =>
 rv Try.prog (Instr.extract v35 1) w38 fun v39 w40 =>
 Ca Try.prog 42 #[v37, (.int .i64 0), (.int .i64 1)] w40 fun v41 w42 =>
 rv Try.prog (Instr.extract v41 0) w42 fun v43 w44 =>
 rv Try.prog (Instr.extract v41 1) w44 fun v45 w46 =>
 rx Try.prog (xMake 23 (.int .i64 25600) (.int .i64 25600)) w46 fun v47 w48 =>
 rx Try.prog (xLit 23 0 []) w48 fun v49 w50 =>
 rx Try.prog (xAppend #[23, 23] 23 [v49, v31]) w50 fun v51 w52 =>
 rx Try.prog (xAppend #[23, 23] 23 [v51, v47]) w52 fun v53 w54 =>
 rx Try.prog (xLit 23 0 []) w54 fun v55 w56 =>
 rx Try.prog (xAppend #[23, 23] 23 [v55, v33]) w56 fun v57 w58 =>
 rx Try.prog (xAppend #[23, 23] 23 [v57, v47]) w58 fun v59 w60 =>
 Ca Try.prog 50 #[v53, v59] w60 fun v61 w62 =>
 rv Try.prog (Instr.extract v61 0) w62 fun v63 w64 =>
 rv Try.prog (Instr.extract v61 1) w64 fun v65 w66 =>
 rv Try.prog (Instr.alloc 83 true (.tuple #[])) w66 fun v67 w68 =>
 ru Try.prog (Instr.storeAt 83 v67 v63) w68 fun w69 =>
 JoinW (S := Value × Unit) (fun J72 =>
 rdP Try.prog (Instr.fieldAt 83 v0 0) fun v73 =>
 rdW Try.prog (Instr.loadAt 27 v73) w69.drew fun v74 =>
 rdP Try.prog (Instr.fieldAt 83 v0 1) fun v75 =>
 rdW Try.prog (Instr.loadAt 27 v75) w69.drew fun v76 =>
 rdP Try.prog (Instr.fieldAt 83 v0 2) fun v77 =>
 rdW Try.prog (Instr.loadAt 23 v77) w69.drew fun v78 =>
 (rx Try.prog (xLit 23 0 []) w69.drew fun v79 w80 =>
 Sem.run Try.prog (Instr.loadAt 23 v77) w80 = .ok v78 w80 ∧ Sem.run Try.prog (Instr.loadAt 27 v75) w80 = .ok v76 w80 ∧ Sem.run Try.prog (Instr.loadAt 27 v73) w80 = .ok v74 w80 ∧ 
 ((rx Try.prog (xAppend #[23, 23] 23 [v79, v78]) w80 fun v81 w82 =>
 Sem.run Try.prog (Instr.loadAt 27 v75) w82 = .ok v76 w82 ∧ Sem.run Try.prog (Instr.loadAt 27 v73) w82 = .ok v74 w82 ∧ 
 (rdP Try.prog (Instr.build 83 #[(0, v74), (1, v76), (2, v81)]) fun v83 =>
 rv Try.prog (Instr.alloc 83 true (.tuple #[])) w82 fun v84 w85 =>
 Sem.run Try.prog (Instr.loadAt 27 v75) w85 = .ok v76 w85 ∧ Sem.run Try.prog (Instr.loadAt 27 v73) w85 = .ok v74 w85 ∧ 
 (ru Try.prog (Instr.storeAt 83 v84 v83) w85 fun w86 =>
 J72 (v84, ()) w86)))
 ∧ (rv Try.prog (Instr.alloc 83 true (.tuple #[])) w80 fun v87 w88 =>
 Sem.run Try.prog (Instr.loadAt 23 v77) w88 = .ok v78 w88 ∧ Sem.run Try.prog (Instr.loadAt 27 v75) w88 = .ok v76 w88 ∧ Sem.run Try.prog (Instr.loadAt 27 v73) w88 = .ok v74 w88 ∧ 
 (rx Try.prog (xAppend #[23, 23] 23 [v79, v78]) w88 fun v89 w90 =>
 Sem.run Try.prog (Instr.loadAt 27 v75) w90 = .ok v76 w90 ∧ Sem.run Try.prog (Instr.loadAt 27 v73) w90 = .ok v74 w90 ∧ 
 (rdP Try.prog (Instr.build 83 #[(0, v74), (1, v76), (2, v89)]) fun v91 =>
 ru Try.prog (Instr.storeAt 83 v87 v91) w90 fun w92 =>
 J72 (v87, ()) w92)))))
 ∧ (rv Try.prog (Instr.alloc 83 true (.tuple #[])) w69.drew fun v93 w94 =>
 Sem.run Try.prog (Instr.loadAt 23 v77) w94 = .ok v78 w94 ∧ Sem.run Try.prog (Instr.loadAt 27 v75) w94 = .ok v76 w94 ∧ Sem.run Try.prog (Instr.loadAt 27 v73) w94 = .ok v74 w94 ∧ 
 (rx Try.prog (xLit 23 0 []) w94 fun v95 w96 =>
 Sem.run Try.prog (Instr.loadAt 23 v77) w96 = .ok v78 w96 ∧ Sem.run Try.prog (Instr.loadAt 27 v75) w96 = .ok v76 w96 ∧ Sem.run Try.prog (Instr.loadAt 27 v73) w96 = .ok v74 w96 ∧ 
 (rx Try.prog (xAppend #[23, 23] 23 [v95, v78]) w96 fun v97 w98 =>
 Sem.run Try.prog (Instr.loadAt 27 v75) w98 = .ok v76 w98 ∧ Sem.run Try.prog (Instr.loadAt 27 v73) w98 = .ok v74 w98 ∧ 
 (rdP Try.prog (Instr.build 83 #[(0, v74), (1, v76), (2, v97)]) fun v99 =>
 ru Try.prog (Instr.storeAt 83 v93 v99) w98 fun w100 =>
 J72 (v93, ()) w100)))))
 (J13_9 v43 v39 v45 v0 v37 K v31 v33 v65 v67))

/-- broadside/broadsidelaw21.ShotsWrites -/
def F13 (a0 a1 a2 : Value) (w : World) (K : Kont) : Prop :=
 rv Try.prog (Instr.box 83 a2) w fun v0 w1 =>
 JoinW (S := Value × Unit) (fun J4 =>
 rn Try.prog (builtin .len #[23] 3 #[false] #[a0]) w1 fun v5 w6 =>
 rv Try.prog (bin .gtr 3 true v5 (.int .i64 20000)) w6 fun v7 w8 =>
 ifB v7
 (J4 ((.bool true), ()) w8)
 (rn Try.prog (builtin .len #[23] 3 #[false] #[a1]) w8 fun v9 w10 =>
 rv Try.prog (bin .gtr 3 true v9 (.int .i64 20000)) w10 fun v11 w12 =>
 ifB v11
 (J4 ((.bool true), ()) w12)
 (rv Try.prog (Instr.fieldAt 83 v0 2) w12 fun v13 w14 =>
 rv Try.prog (Instr.loadAt 23 v13) w14 fun v15 w16 =>
 rn Try.prog (builtin .len #[23] 3 #[false] #[v15]) w16 fun v17 w18 =>
 rv Try.prog (bin .gtr 3 true v17 (.int .i64 20000)) w18 fun v19 w20 =>
 ifB v19
 (rv Try.prog (Instr.fieldAt 83 v0 2) w20 fun v21 w22 =>
 rv Try.prog (Instr.loadAt 23 v21) w22 fun v23 w24 =>
 rn Try.prog (builtin .len #[23] 3 #[false] #[v23]) w24 fun v25 w26 =>
 rv Try.prog (bin .leq 3 true v25 (.int .i64 524288)) w26 fun v27 w28 =>
 J4 (v27, ()) w28)
 (J4 ((.bool false), ()) w20))))
 (J13_10 K a0 a1 v0)
theorem F13_eq (a0 a1 a2 : Value) (w : World) (K : Kont) : vcFnJ Try.prog Try.f13 [a0, a1, a2] w K = F13 a0 a1 a2 w K := by kernel_rfl
theorem F13_ok : okF Try.prog Try.f13 3 = true := by kernel_rfl
theorem ca13{a0 a1 a2 : Value} {w : World} {K : Kont} (h : F13 a0 a1 a2 w K) : Ca Try.prog 13 #[a0, a1, a2] w K :=
  ca_of_vcJ Try.noNum Try.func13 F13_ok (by rw [F13_eq]; exact h)



/-- broadside/broadsideref21.May -/
def F52 (a0 : Value) (w : World) (K : Kont) : Prop :=
 rv Try.prog (Instr.box 83 a0) w fun v0 w1 =>
 rv Try.prog (Instr.fieldAt 83 v0 0) w1 fun v2 w3 =>
 rv Try.prog (Instr.loadAt 27 v2) w3 fun v4 w5 =>
 rv Try.prog (bin .neq 27 true v4 (.int .u64 0)) w5 fun v6 w7 =>
 ifB v6
 (rv Try.prog (Instr.fieldAt 83 v0 2) w7 fun v8 w9 =>
 rv Try.prog (Instr.loadAt 23 v8) w9 fun v10 w11 =>
 rn Try.prog (builtin .len #[23] 3 #[false] #[v10]) w11 fun v12 w13 =>
 rv Try.prog (bin .leq 3 true v12 (.int .i64 524288)) w13 fun v14 w15 =>
 K v14 w15)
 (K (.bool false) w7)
theorem F52_eq (a0 : Value) (w : World) (K : Kont) : vcFnJ Try.prog Try.f52 [a0] w K = F52 a0 w K := by kernel_rfl
theorem F52_ok : okF Try.prog Try.f52 1 = true := by kernel_rfl
theorem ca52{a0 : Value} {w : World} {K : Kont} (h : F52 a0 w K) : Ca Try.prog 52 #[a0] w K :=
  ca_of_vcJ Try.noNum Try.func52 F52_ok (by rw [F52_eq]; exact h)


def L97_0 (a0 : Value) (K : Kont) (s0 : Value × Value × Unit) (w1 : World) (K2 : Value × Value × Unit → World → Prop) : Prop :=
 ∀ _ : Nat → Value,
 rv Try.prog (bin .geq 3 true s0.2.1 (.int .i64 0)) w1 fun v3 w4 =>
 ifB v3
 (rv Try.prog (bin .mul 3 true (.int .i64 8) s0.2.1) w4 fun v5 w6 =>
 rv Try.prog (convert 3 156 v5) w6 fun v7 w8 =>
 rv Try.prog (bin .shr 27 false a0 v7) w8 fun v9 w10 =>
 rv Try.prog (convert 27 5 v9) w10 fun v11 w12 =>
 rx Try.prog (xLit 23 1 [(0, v11)]) w12 fun v13 w14 =>
 rx Try.prog (xAppend #[23, 23] 23 [s0.1, v13]) w14 fun v15 w16 =>
 rv Try.prog (bin .sub 3 true s0.2.1 (.int .i64 1)) w16 fun v17 w18 =>
 K2 (v15, v17, ()) w18)
 (K s0.1 w4)

/-- broadside/broadsideref21.number -/
def F97 (a0 : Value) (w : World) (K : Kont) : Prop :=
 LoopW (S := Value × Value × Unit) (L97_0 a0 K) ((.slice none 0 0), (.int .i64 7), ()) w
theorem F97_eq (a0 : Value) (w : World) (K : Kont) : vcFnJ Try.prog Try.f97 [a0] w K = F97 a0 w K := by kernel_rfl
theorem F97_ok : okF Try.prog Try.f97 1 = true := by kernel_rfl
theorem ca97{a0 : Value} {w : World} {K : Kont} (h : F97 a0 w K) : Ca Try.prog 97 #[a0] w K :=
  ca_of_vcJ Try.noNum Try.func97 F97_ok (by rw [F97_eq]; exact h)



/-- broadside/broadsideref21.Mark -/
def F80 (a0 a1 : Value) (w : World) (K : Kont) : Prop :=
 rv Try.prog (Instr.box 83 a1) w fun v0 w1 =>
 rx Try.prog (xLit 23 1 [(0, a0)]) w1 fun v2 w3 =>
 rv Try.prog (Instr.fieldAt 83 v0 0) w3 fun v4 w5 =>
 rv Try.prog (Instr.loadAt 27 v4) w5 fun v6 w7 =>
 Ca Try.prog 97 #[v6] w7 fun v8 w9 =>
 rx Try.prog (xAppend #[23, 23] 23 [v2, v8]) w9 fun v10 w11 =>
 rv Try.prog (Instr.fieldAt 83 v0 1) w11 fun v12 w13 =>
 rv Try.prog (Instr.loadAt 27 v12) w13 fun v14 w15 =>
 Ca Try.prog 97 #[v14] w15 fun v16 w17 =>
 rx Try.prog (xAppend #[23, 23] 23 [v10, v16]) w17 fun v18 w19 =>
 rv Try.prog (Instr.fieldAt 83 v0 2) w19 fun v20 w21 =>
 rv Try.prog (Instr.loadAt 23 v20) w21 fun v22 w23 =>
 rn Try.prog (builtin .len #[23] 3 #[false] #[v22]) w23 fun v24 w25 =>
 rv Try.prog (convert 3 27 v24) w25 fun v26 w27 =>
 Ca Try.prog 97 #[v26] w27 fun v28 w29 =>
 rx Try.prog (xAppend #[23, 23] 23 [v18, v28]) w29 fun v30 w31 =>
 rv Try.prog (Instr.fieldAt 83 v0 2) w31 fun v32 w33 =>
 rv Try.prog (Instr.loadAt 23 v32) w33 fun v34 w35 =>
 Ca Try.prog 98 #[v34] w35 fun v36 w37 =>
 rv Try.prog (bin .shr 150 true v36 (.int .u64 24)) w37 fun v38 w39 =>
 rv Try.prog (convert 150 5 v38) w39 fun v40 w41 =>
 rv Try.prog (bin .shr 150 true v36 (.int .u64 16)) w41 fun v42 w43 =>
 rv Try.prog (convert 150 5 v42) w43 fun v44 w45 =>
 rv Try.prog (bin .shr 150 true v36 (.int .u64 8)) w45 fun v46 w47 =>
 rv Try.prog (convert 150 5 v46) w47 fun v48 w49 =>
 rv Try.prog (convert 150 5 v36) w49 fun v50 w51 =>
 rx Try.prog (xLit 23 4 [(0, v40), (1, v44), (2, v48), (3, v50)]) w51 fun v52 w53 =>
 rx Try.prog (xAppend #[23, 23] 23 [v30, v52]) w53 fun v54 w55 =>
 rn Try.prog (builtin .len #[23] 3 #[false] #[v54]) w55 fun v56 w57 =>
 rv Try.prog (bin .sub 3 true (.int .i64 128) v56) w57 fun v58 w59 =>
 rx Try.prog (xAppend #[23, 3] 23 [v54, v58]) w59 fun v60 w61 =>
 K v60 w61
theorem F80_eq (a0 a1 : Value) (w : World) (K : Kont) : vcFnJ Try.prog Try.f80 [a0, a1] w K = F80 a0 a1 w K := by kernel_rfl
theorem F80_ok : okF Try.prog Try.f80 2 = true := by kernel_rfl
theorem ca80{a0 a1 : Value} {w : World} {K : Kont} (h : F80 a0 a1 w K) : Ca Try.prog 80 #[a0, a1] w K :=
  ca_of_vcJ Try.noNum Try.func80 F80_ok (by rw [F80_eq]; exact h)


def J53_0 (s31 : Value × Unit) (v0 : Value) (s15 : Value × Value × Unit) (v26 : Value) (K33 : Value × Unit → World → Prop) (K17 : Value × Value × Unit → World → Prop) (s34 : Value × Unit) (w35 : World) : Prop :=
 ∀ _ : Nat → Value,
 ifB s34.1
 (rv Try.prog (bin .add 3 true (.int .i64 1) s31.1) w35 fun v49 w50 =>
 rv Try.prog (Instr.fieldAt 83 v0 2) w50 fun v51 w52 =>
 rv Try.prog (Instr.loadAt 23 v51) w52 fun v53 w54 =>
 rv Try.prog (bin .add 3 false s15.2.1 s31.1) w54 fun v55 w56 =>
 rv Try.prog (Instr.indexAt 23 v53 v55) w56 fun v57 w58 =>
 rv Try.prog (Instr.loadAt 5 v57) w58 fun v59 w60 =>
 rv Try.prog (Instr.indexAt 23 v26 v49) w60 fun v61 w62 =>
 ru Try.prog (Instr.storeAt 5 v61 v59) w62 fun w63 =>
 rv Try.prog (bin .add 3 true s31.1 (.int .i64 1)) w63 fun v64 w65 =>
 K33 (v64, ()) w65)
 (rx Try.prog (xAppend #[23, 23] 23 [s15.1, v26]) w35 fun v66 w67 =>
 rv Try.prog (bin .add 3 true s15.2.1 (.int .i64 127)) w67 fun v68 w69 =>
 K17 (v66, v68, ()) w69)

def L53_1 (s15 : Value × Value × Unit) (v0 : Value) (v26 : Value) (K17 : Value × Value × Unit → World → Prop) (s31 : Value × Unit) (w32 : World) (K33 : Value × Unit → World → Prop) : Prop :=
 ∀ _ : Nat → Value,
 JoinW (S := Value × Unit) (fun J36 =>
 rv Try.prog (bin .lss 3 true s31.1 (.int .i64 127)) w32 fun v37 w38 =>
 ifB v37
 (rv Try.prog (bin .add 3 false s15.2.1 s31.1) w38 fun v39 w40 =>
 rv Try.prog (Instr.fieldAt 83 v0 2) w40 fun v41 w42 =>
 rv Try.prog (Instr.loadAt 23 v41) w42 fun v43 w44 =>
 rn Try.prog (builtin .len #[23] 3 #[false] #[v43]) w44 fun v45 w46 =>
 rv Try.prog (bin .lss 3 false v39 v45) w46 fun v47 w48 =>
 J36 (v47, ()) w48)
 (J36 ((.bool false), ()) w38))
 (J53_0 s31 v0 s15 v26 K33 K17)

def L53_2 (v0 : Value) (K : Kont) (s15 : Value × Value × Unit) (w16 : World) (K17 : Value × Value × Unit → World → Prop) : Prop :=
 ∀ _ : Nat → Value,
 rv Try.prog (Instr.fieldAt 83 v0 2) w16 fun v18 w19 =>
 rv Try.prog (Instr.loadAt 23 v18) w19 fun v20 w21 =>
 rn Try.prog (builtin .len #[23] 3 #[false] #[v20]) w21 fun v22 w23 =>
 rv Try.prog (bin .lss 3 false s15.2.1 v22) w23 fun v24 w25 =>
 ifB v24
 (rx Try.prog (xMake 23 (.int .i64 128) (.int .i64 128)) w25 fun v26 w27 =>
 rv Try.prog (Instr.indexAt 23 v26 (.int .i64 0)) w27 fun v28 w29 =>
 ru Try.prog (Instr.storeAt 5 v28 (.int .u8 9)) w29 fun w30 =>
 LoopW (S := Value × Unit) (L53_1 s15 v0 v26 K17) ((.int .i64 0), ()) w30)
 (K s15.1 w25)

/-- broadside/broadsideref21.Form -/
def F53 (a0 : Value) (w : World) (K : Kont) : Prop :=
 rv Try.prog (Instr.box 83 a0) w fun v0 w1 =>
 rdW Try.prog (Instr.loadAt 83 v0) w1.drew fun v2 =>
 rdW Try.prog (Instr.loadAt 83 v0) w1.drew fun v3 =>
 rdW Try.prog (Instr.loadAt 83 v0) w1.drew fun v4 =>
 Ca Try.prog 80 #[(.int .u8 1), v2] w1.drew fun v5 w6 =>
 Sem.run Try.prog (Instr.loadAt 83 v0) w6 = .ok v4 w6 ∧ Sem.run Try.prog (Instr.loadAt 83 v0) w6 = .ok v3 w6 ∧ 
 (Ca Try.prog 80 #[(.int .u8 2), v3] w6 fun v7 w8 =>
 Sem.run Try.prog (Instr.loadAt 83 v0) w8 = .ok v4 w8 ∧ 
 (rx Try.prog (xAppend #[23, 23] 23 [v5, v7]) w8 fun v9 w10 =>
 Sem.run Try.prog (Instr.loadAt 83 v0) w10 = .ok v4 w10 ∧ 
 (Ca Try.prog 80 #[(.int .u8 3), v4] w10 fun v11 w12 =>
 rx Try.prog (xAppend #[23, 23] 23 [v9, v11]) w12 fun v13 w14 =>
 LoopW (S := Value × Value × Unit) (L53_2 v0 K) (v13, (.int .i64 0), ()) w14)))
theorem F53_eq (a0 : Value) (w : World) (K : Kont) : vcFnJ Try.prog Try.f53 [a0] w K = F53 a0 w K := by kernel_rfl
theorem F53_ok : okF Try.prog Try.f53 1 = true := by kernel_rfl
theorem ca53{a0 : Value} {w : World} {K : Kont} (h : F53 a0 w K) : Ca Try.prog 53 #[a0] w K :=
  ca_of_vcJ Try.noNum Try.func53 F53_ok (by rw [F53_eq]; exact h)


def L96_0 (a0 : Value) (K : Kont) (s0 : Value × Value × Unit) (w1 : World) (K2 : Value × Value × Unit → World → Prop) : Prop :=
 ∀ _ : Nat → Value,
 rv Try.prog (bin .lss 3 true s0.2.1 (.int .i64 8)) w1 fun v3 w4 =>
 ifB v3
 (rv Try.prog (bin .mul 27 true s0.1 (.int .u64 256)) w4 fun v5 w6 =>
 rv Try.prog (Instr.indexAt 23 a0 s0.2.1) w6 fun v7 w8 =>
 rv Try.prog (Instr.loadAt 5 v7) w8 fun v9 w10 =>
 rv Try.prog (convert 5 27 v9) w10 fun v11 w12 =>
 rv Try.prog (bin .add 27 false v5 v11) w12 fun v13 w14 =>
 rv Try.prog (bin .add 3 true s0.2.1 (.int .i64 1)) w14 fun v15 w16 =>
 K2 (v13, v15, ()) w16)
 (K s0.1 w4)

/-- broadside/broadsideref21.of -/
def F96 (a0 : Value) (w : World) (K : Kont) : Prop :=
 LoopW (S := Value × Value × Unit) (L96_0 a0 K) ((.int .u64 0), (.int .i64 0), ()) w
theorem F96_eq (a0 : Value) (w : World) (K : Kont) : vcFnJ Try.prog Try.f96 [a0] w K = F96 a0 w K := by kernel_rfl
theorem F96_ok : okF Try.prog Try.f96 1 = true := by kernel_rfl
theorem ca96{a0 : Value} {w : World} {K : Kont} (h : F96 a0 w K) : Ca Try.prog 96 #[a0] w K :=
  ca_of_vcJ Try.noNum Try.func96 F96_ok (by rw [F96_eq]; exact h)


def J79_0 (v0 : Value) (K : Kont) (s10 : Value × Unit) (s95 : Value × Unit) (w96 : World) : Prop :=
 ∀ _ : Nat → Value,
 ifB s95.1
 (rv Try.prog (Instr.build 83 #[]) w96 fun v107 w108 =>
 ru Try.prog (Instr.storeAt 83 v0 v107) w108 fun w109 =>
 rdW Try.prog (Instr.loadAt 83 v0) w109 fun v110 =>
 K (.tuple #[v110, (.bool false)]) w109)
 (rv Try.prog (Instr.loadAt 83 s10.1) w96 fun v111 w112 =>
 ru Try.prog (Instr.storeAt 83 v0 v111) w112 fun w113 =>
 rdW Try.prog (Instr.loadAt 83 v0) w113 fun v114 =>
 K (.tuple #[v114, (.bool true)]) w113)

def L79_1 (v39 : Value) (s10 : Value × Unit) (a0 : Value) (v0 : Value) (K : Kont) (s66 : Value × Unit) (w67 : World) (K68 : Value × Unit → World → Prop) : Prop :=
 ∀ _ : Nat → Value,
 rv Try.prog (convert 27 3 v39) w67 fun v69 w70 =>
 rv Try.prog (bin .lss 3 false s66.1 v69) w70 fun v71 w72 =>
 ifB v71
 (rdP Try.prog (Instr.fieldAt 83 s10.1 2) fun v73 =>
 rdW Try.prog (Instr.loadAt 23 v73) w72.drew fun v74 =>
 rdP Try.prog (bin .quo 3 true s66.1 (.int .i64 127)) fun v75 =>
 rdP Try.prog (bin .add 3 true (.int .i64 3) v75) fun v76 =>
 rdP Try.prog (bin .mul 3 true v76 (.int .i64 128)) fun v77 =>
 rdP Try.prog (bin .add 3 true v77 (.int .i64 1)) fun v78 =>
 rdP Try.prog (bin .rem 3 true s66.1 (.int .i64 127)) fun v79 =>
 rdP Try.prog (bin .add 3 false v78 v79) fun v80 =>
 rdP Try.prog (Instr.indexAt 23 a0 v80) fun v81 =>
 rdW Try.prog (Instr.loadAt 5 v81) w72.drew fun v82 =>
 rx Try.prog (xLit 23 1 [(0, v82)]) w72.drew fun v83 w84 =>
 Sem.run Try.prog (Instr.loadAt 23 v73) w84 = .ok v74 w84 ∧ 
 (rx Try.prog (xAppend #[23, 23] 23 [v74, v83]) w84 fun v85 w86 =>
 rdP Try.prog (Instr.fieldAt 83 s10.1 2) fun v87 =>
 ru Try.prog (Instr.storeAt 23 v87 v85) w86 fun w88 =>
 rv Try.prog (bin .add 3 true s66.1 (.int .i64 1)) w88 fun v89 w90 =>
 K68 (v89, ()) w90))
 (rv Try.prog (Instr.loadAt 83 s10.1) w72 fun v91 w92 =>
 Ca Try.prog 53 #[v91] w92 fun v93 w94 =>
 JoinW (S := Value × Unit) (fun J97 =>
 rdW Try.prog (Instr.loadAt 83 s10.1) w94.drew fun v98 =>
 Ca Try.prog 52 #[v98] w94.drew fun v99 w100 =>
 rdP Try.prog (Op.unary .not v99) fun v101 =>
 ifB v101
 (J97 ((.bool true), ()) w100)
 (rdX Try.prog (xConv 23 9 v93) w100 fun v102 =>
 rdW Try.prog (Builtin.len_ #[23] 3 #[v93]) w100 fun v103 =>
 rdP Try.prog (Instr.sliceAt 23 a0 none (some v103) none) fun v104 =>
 rdX Try.prog (xConv 23 9 v104) w100 fun v105 =>
 rdP Try.prog (bin .neq 9 false v102 v105) fun v106 =>
 J97 (v106, ()) w100))
 (J79_0 v0 K s10))

def J79_2 (v0 : Value) (K : Kont) (v39 : Value) (s10 : Value × Unit) (a0 : Value) (s41 : Value × Unit) (w42 : World) : Prop :=
 ∀ _ : Nat → Value,
 ifB s41.1
 (rv Try.prog (Instr.build 83 #[]) w42 fun v62 w63 =>
 ru Try.prog (Instr.storeAt 83 v0 v62) w63 fun w64 =>
 rdW Try.prog (Instr.loadAt 83 v0) w64 fun v65 =>
 K (.tuple #[v65, (.bool false)]) w64)
 (LoopW (S := Value × Unit) (L79_1 v39 s10 a0 v0 K) ((.int .i64 0), ()) w42)

def J79_3 (a0 : Value) (v0 : Value) (K : Kont) (s10 : Value × Unit) (w11 : World) : Prop :=
 ∀ _ : Nat → Value,
 rv Try.prog (Instr.sliceAt 23 a0 (some (.int .i64 17)) none none) w11 fun v37 w38 =>
 Ca Try.prog 96 #[v37] w38 fun v39 w40 =>
 JoinW (S := Value × Unit) (fun J43 =>
 rv Try.prog (bin .gtr 27 true v39 (.int .u64 524288)) w40 fun v44 w45 =>
 ifB v44
 (J43 ((.bool true), ()) w45)
 (rv Try.prog (convert 27 3 v39) w45 fun v46 w47 =>
 rv Try.prog (bin .add 3 true v46 (.int .i64 127)) w47 fun v48 w49 =>
 rv Try.prog (bin .sub 3 true v48 (.int .i64 1)) w49 fun v50 w51 =>
 rv Try.prog (bin .quo 3 true v50 (.int .i64 127)) w51 fun v52 w53 =>
 rv Try.prog (bin .mul 3 true v52 (.int .i64 128)) w53 fun v54 w55 =>
 rv Try.prog (bin .add 3 true (.int .i64 384) v54) w55 fun v56 w57 =>
 rn Try.prog (builtin .len #[23] 3 #[false] #[a0]) w57 fun v58 w59 =>
 rv Try.prog (bin .gtr 3 false v56 v58) w59 fun v60 w61 =>
 J43 (v60, ()) w61))
 (J79_2 v0 K v39 s10 a0)

/-- broadside/broadsideref21.File -/
def F79 (a0 : Value) (w : World) (K : Kont) : Prop :=
 rv Try.prog (Instr.alloc 83 true (.tuple #[])) w fun v0 w1 =>
 rn Try.prog (builtin .len #[23] 3 #[false] #[a0]) w1 fun v2 w3 =>
 rv Try.prog (bin .lss 3 true v2 (.int .i64 384)) w3 fun v4 w5 =>
 ifB v4
 (rv Try.prog (Instr.build 83 #[]) w5 fun v6 w7 =>
 ru Try.prog (Instr.storeAt 83 v0 v6) w7 fun w8 =>
 rdW Try.prog (Instr.loadAt 83 v0) w8 fun v9 =>
 K (.tuple #[v9, (.bool false)]) w8)
 (JoinW (S := Value × Unit) (fun J12 =>
 rdP Try.prog (Instr.sliceAt 23 a0 (some (.int .i64 1)) none none) fun v13 =>
 rdP Try.prog (Instr.sliceAt 23 a0 (some (.int .i64 9)) none none) fun v14 =>
 (Ca Try.prog 96 #[v13] w5.drew fun v15 w16 =>
 (Ca Try.prog 96 #[v14] w16 fun v17 w18 =>
 rdP Try.prog (Instr.build 83 #[(0, v15), (1, v17)]) fun v19 =>
 rv Try.prog (Instr.alloc 83 true (.tuple #[])) w18 fun v20 w21 =>
 ru Try.prog (Instr.storeAt 83 v20 v19) w21 fun w22 =>
 J12 (v20, ()) w22)
 ∧ (rv Try.prog (Instr.alloc 83 true (.tuple #[])) w16 fun v23 w24 =>
 Ca Try.prog 96 #[v14] w24 fun v25 w26 =>
 rdP Try.prog (Instr.build 83 #[(0, v15), (1, v25)]) fun v27 =>
 ru Try.prog (Instr.storeAt 83 v23 v27) w26 fun w28 =>
 J12 (v23, ()) w28))
 ∧ (rv Try.prog (Instr.alloc 83 true (.tuple #[])) w5.drew fun v29 w30 =>
 Ca Try.prog 96 #[v13] w30 fun v31 w32 =>
 Ca Try.prog 96 #[v14] w32 fun v33 w34 =>
 rdP Try.prog (Instr.build 83 #[(0, v31), (1, v33)]) fun v35 =>
 ru Try.prog (Instr.storeAt 83 v29 v35) w34 fun w36 =>
 J12 (v29, ()) w36))
 (J79_3 a0 v0 K))
theorem F79_eq (a0 : Value) (w : World) (K : Kont) : vcFnJ Try.prog Try.f79 [a0] w K = F79 a0 w K := by kernel_rfl
theorem F79_ok : okF Try.prog Try.f79 1 = true := by kernel_rfl
theorem ca79{a0 : Value} {w : World} {K : Kont} (h : F79 a0 w K) : Ca Try.prog 79 #[a0] w K :=
  ca_of_vcJ Try.noNum Try.func79 F79_ok (by rw [F79_eq]; exact h)


def J50_0 (v17 : Value) (v0 : Value) (K : Kont) (v8 : Value) (s31 : Value × Unit) (w32 : World) : Prop :=
 ∀ _ : Nat → Value,
 ifB s31.1
 (rv Try.prog (Instr.loadAt 83 v17) w32 fun v46 w47 =>
 ru Try.prog (Instr.storeAt 83 v0 v46) w47 fun w48 =>
 rdW Try.prog (Instr.loadAt 83 v0) w48 fun v49 =>
 K (.tuple #[v49, (.int .i64 1)]) w48)
 (rv Try.prog (Instr.loadAt 83 v8) w32 fun v50 w51 =>
 ru Try.prog (Instr.storeAt 83 v0 v50) w51 fun w52 =>
 rdW Try.prog (Instr.loadAt 83 v0) w52 fun v53 =>
 K (.tuple #[v53, (.int .i64 0)]) w52)

def J50_1 (v0 : Value) (K : Kont) (v6 : Value) (v15 : Value) (v17 : Value) (v8 : Value) (s20 : Value × Unit) (w21 : World) : Prop :=
 ∀ _ : Nat → Value,
 ifB s20.1
 (rv Try.prog (Instr.build 83 #[]) w21 fun v27 w28 =>
 ru Try.prog (Instr.storeAt 83 v0 v27) w28 fun w29 =>
 rdW Try.prog (Instr.loadAt 83 v0) w29 fun v30 =>
 K (.tuple #[v30, (.int .i64 (-1))]) w29)
 (JoinW (S := Value × Unit) (fun J33 =>
 rv Try.prog (Op.unary .not v6) w21 fun v34 w35 =>
 ifB v34
 (J33 ((.bool true), ()) w35)
 (ifB v15
 (rv Try.prog (Instr.fieldAt 83 v17 0) w35 fun v36 w37 =>
 rv Try.prog (Instr.loadAt 27 v36) w37 fun v38 w39 =>
 rv Try.prog (Instr.fieldAt 83 v8 0) w39 fun v40 w41 =>
 rv Try.prog (Instr.loadAt 27 v40) w41 fun v42 w43 =>
 rv Try.prog (bin .gtr 27 false v38 v42) w43 fun v44 w45 =>
 J33 (v44, ()) w45)
 (J33 ((.bool false), ()) w35)))
 (J50_0 v17 v0 K v8))

/-- broadside/broadsideref21.Both -/
def F50 (a0 a1 : Value) (w : World) (K : Kont) : Prop :=
 rv Try.prog (Instr.alloc 83 true (.tuple #[])) w fun v0 w1 =>
 Ca Try.prog 79 #[a0] w1 fun v2 w3 =>
 rv Try.prog (Instr.extract v2 0) w3 fun v4 w5 =>
 rv Try.prog (Instr.extract v2 1) w5 fun v6 w7 =>
 rv Try.prog (Instr.alloc 83 true (.tuple #[])) w7 fun v8 w9 =>
 ru Try.prog (Instr.storeAt 83 v8 v4) w9 fun w10 =>
 Ca Try.prog 79 #[a1] w10 fun v11 w12 =>
 rv Try.prog (Instr.extract v11 0) w12 fun v13 w14 =>
 rv Try.prog (Instr.extract v11 1) w14 fun v15 w16 =>
 rv Try.prog (Instr.alloc 83 true (.tuple #[])) w16 fun v17 w18 =>
 ru Try.prog (Instr.storeAt 83 v17 v13) w18 fun w19 =>
 JoinW (S := Value × Unit) (fun J22 =>
 rv Try.prog (Op.unary .not v6) w19 fun v23 w24 =>
 ifB v23
 (rv Try.prog (Op.unary .not v15) w24 fun v25 w26 =>
 J22 (v25, ()) w26)
 (J22 ((.bool false), ()) w24))
 (J50_1 v0 K v6 v15 v17 v8)
theorem F50_eq (a0 a1 : Value) (w : World) (K : Kont) : vcFnJ Try.prog Try.f50 [a0, a1] w K = F50 a0 a1 w K := by kernel_rfl
theorem F50_ok : okF Try.prog Try.f50 2 = true := by kernel_rfl
theorem ca50{a0 a1 : Value} {w : World} {K : Kont} (h : F50 a0 a1 w K) : Ca Try.prog 50 #[a0, a1] w K :=
  ca_of_vcJ Try.noNum Try.func50 F50_ok (by rw [F50_eq]; exact h)


def J51_0 (v2 : Value) (s19 : Value × Unit) (K21 : Value × Unit → World → Prop) (K : Kont) (s22 : Value × Unit) (w23 : World) : Prop :=
 ∀ _ : Nat → Value,
 ifB s22.1
 (rv Try.prog (Instr.indexAt 23 v2 s19.1) w23 fun v29 w30 =>
 ru Try.prog (Instr.storeAt 5 v29 (.int .u8 0)) w30 fun w31 =>
 rv Try.prog (bin .add 3 true s19.1 (.int .i64 1)) w31 fun v32 w33 =>
 K21 (v32, ()) w33)
 (K v2 w23)

def L51_1 (v14 : Value) (v2 : Value) (K : Kont) (s19 : Value × Unit) (w20 : World) (K21 : Value × Unit → World → Prop) : Prop :=
 ∀ _ : Nat → Value,
 JoinW (S := Value × Unit) (fun J24 =>
 rv Try.prog (bin .lss 3 true s19.1 (.int .i64 384)) w20 fun v25 w26 =>
 ifB v25
 (rv Try.prog (Op.unary .not v14) w26 fun v27 w28 =>
 J24 (v27, ()) w28)
 (J24 ((.bool false), ()) w26))
 (J51_0 v2 s19 K21 K)

/-- broadside/broadsideref21.Clean -/
def F51 (a0 : Value) (w : World) (K : Kont) : Prop :=
 rx Try.prog (xLit 23 0 []) w fun v0 w1 =>
 rx Try.prog (xAppend #[23, 23] 23 [v0, a0]) w1 fun v2 w3 =>
 rx Try.prog (xLit 23 0 []) w3 fun v4 w5 =>
 rx Try.prog (xAppend #[23, 23] 23 [v4, a0]) w5 fun v6 w7 =>
 rx Try.prog (xAppend #[23, 3] 23 [v6, (.int .i64 25600)]) w7 fun v8 w9 =>
 Ca Try.prog 79 #[v8] w9 fun v10 w11 =>
 rv Try.prog (Instr.extract v10 0) w11 fun v12 w13 =>
 rv Try.prog (Instr.extract v10 1) w13 fun v14 w15 =>
 rv Try.prog (Instr.alloc 83 true (.tuple #[])) w15 fun v16 w17 =>
 ru Try.prog (Instr.storeAt 83 v16 v12) w17 fun w18 =>
 LoopW (S := Value × Unit) (L51_1 v14 v2 K) ((.int .i64 0), ()) w18
theorem F51_eq (a0 : Value) (w : World) (K : Kont) : vcFnJ Try.prog Try.f51 [a0] w K = F51 a0 w K := by kernel_rfl
theorem F51_ok : okF Try.prog Try.f51 1 = true := by kernel_rfl
theorem ca51{a0 : Value} {w : World} {K : Kont} (h : F51 a0 w K) : Ca Try.prog 51 #[a0] w K :=
  ca_of_vcJ Try.noNum Try.func51 F51_ok (by rw [F51_eq]; exact h)


end Go.Proofs
