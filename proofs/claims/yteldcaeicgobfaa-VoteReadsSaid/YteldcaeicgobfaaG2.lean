/-
  Formulas of the program's functions, printed by a program of mine: each is what the computed precondition of the function's body comes to.
  Conditions: none.
-/
import Derived.Test.YteldcaeicgobfaaG0
import Derived.Test.YteldcaeicgobfaaVcFn
set_option linter.unusedSimpArgs false
set_option maxRecDepth 100000
set_option linter.unusedVariables false
namespace Go.Proofs
open Go Go.Vc



/-- broadside/broadsidelaw18.sector -/
def F18 (a0 : Value) (w : World) (K : Kont) : Prop :=
 rx Try.prog (xMake 23 (.int .i64 128) (.int .i64 128)) w fun v0 w1 =>
 rv Try.prog (Instr.indexAt 23 v0 (.int .i64 0)) w1 fun v2 w3 =>
 ru Try.prog (Instr.storeAt 5 v2 a0) w3 fun w4 =>
 K v0 w4
theorem F18_eq (a0 : Value) (w : World) (K : Kont) : vcFnJ Try.prog Try.f18 [a0] w K = F18 a0 w K := by kernel_rfl
theorem F18_ok : okF Try.prog Try.f18 1 = true := by kernel_rfl
theorem ca18{a0 : Value} {w : World} {K : Kont} (h : F18 a0 w K) : Ca Try.prog 18 #[a0] w K :=
  ca_of_vcJ Try.noNum Try.func18 F18_ok (by rw [F18_eq]; exact h)


def J14_0 (K : Kont) (v0 : Value) (s2 : Value × Unit) (w3 : World) : Prop :=
 ∀ _ : Nat → Value,
 ifB s2.1
 (K (.bool false) w3)
 (Ca Try.prog 20 #[v0, (.int .i64 0), (.int .i64 3), (.int .i64 2)] w3 fun v23 w24 =>
 rv Try.prog (Instr.extract v23 0) w24 fun v25 w26 =>
 rv Try.prog (Instr.extract v23 1) w26 fun v27 w28 =>
 rdP Try.prog (bin .eql 28 true v27 (.int .i64 0)) fun v29 =>
 ifB v29
 (rdX Try.prog (xConv 23 9 v25) w28.drew fun v30 =>
 Ca Try.prog 18 #[(.int .u8 97)] w28.drew fun v31 w32 =>
 Sem.run Try.prog (xConv 23 9 v25) w32 = .ok v30 w32 ∧ 
 (rdX Try.prog (xConv 23 9 v31) w32 fun v33 =>
 Ca Try.prog 18 #[(.int .u8 99)] w32 fun v34 w35 =>
 Sem.run Try.prog (xConv 23 9 v31) w35 = .ok v33 w35 ∧ Sem.run Try.prog (xConv 23 9 v25) w35 = .ok v30 w35 ∧ 
 (rdX Try.prog (xConv 23 9 v34) w35 fun v36 =>
 rdP Try.prog (bin .add 9 false v33 v36) fun v37 =>
 rdP Try.prog (bin .eql 9 false v30 v37) fun v38 =>
 K v38 w35)))
 (K (.bool false) w28.drew))

/-- broadside/broadsidelaw18.known -/
def F14 (w : World) (K : Kont) : Prop :=
 Ca Try.prog 15 #[] w fun v0 w1 =>
 JoinW (S := Value × Unit) (fun J4 =>
 Ca Try.prog 18 #[(.int .u8 97)] w1 fun v5 w6 =>
 Ca Try.prog 18 #[(.int .u8 98)] w6 fun v7 w8 =>
 rx Try.prog (xAppend #[23, 23] 23 [v5, v7]) w8 fun v9 w10 =>
 Ca Try.prog 17 #[v0, (.int .i64 0), (.int .i64 3), v9] w10 fun v11 w12 =>
 rv Try.prog (bin .neq 28 true v11 (.int .i64 0)) w12 fun v13 w14 =>
 ifB v13
 (J4 ((.bool true), ()) w14)
 (rx Try.prog (xLit 23 1 [(0, (.int .u8 99))]) w14 fun v15 w16 =>
 rx Try.prog (xConv 23 23 v15) w16 fun v17 w18 =>
 Ca Try.prog 19 #[v0, (.int .i64 1), v17] w18 fun v19 w20 =>
 rv Try.prog (bin .neq 28 true v19 (.int .i64 0)) w20 fun v21 w22 =>
 J4 (v21, ()) w22))
 (J14_0 K v0)
theorem F14_eq (w : World) (K : Kont) : vcFnJ Try.prog Try.f14 [] w K = F14  w K := by kernel_rfl
theorem F14_ok : okF Try.prog Try.f14 0 = true := by kernel_rfl
theorem ca14 {w : World} {K : Kont} (h : F14  w K) : Ca Try.prog 14 #[] w K :=
  ca_of_vcJ Try.noNum Try.func14 F14_ok (by rw [F14_eq]; exact h)


def J3_0 (K : Kont) (a0 : Value) (s23 : Value × Value × Unit) (v15 : Value) (K25 : Value × Value × Unit → World → Prop) (s30 : Value × Unit) (w31 : World) : Prop :=
 ∀ _ : Nat → Value,
 ifB s30.1
 (K (.bool false) w31)
 (rdP Try.prog (Instr.indexAt 22 a0 s23.2.1) fun v39 =>
 rdW Try.prog (Instr.loadAt 3 v39) w31.drew fun v40 =>
 rdW Try.prog (convert 3 27 v40) w31.drew fun v41 =>
 rdP Try.prog (bin .rem 27 true v41 (.int .u64 20)) fun v42 =>
 rdW Try.prog (convert 27 3 v42) w31.drew fun v43 =>
 rdP Try.prog (bin .add 3 true s23.2.1 (.int .i64 1)) fun v44 =>
 rdW Try.prog (convert 3 5 v44) w31.drew fun v45 =>
 Ca Try.prog 18 #[v45] w31.drew fun v46 w47 =>
 Sem.run Try.prog (convert 27 3 v42) w47 = .ok v43 w47 ∧ Sem.run Try.prog (convert 3 27 v40) w47 = .ok v41 w47 ∧ Sem.run Try.prog (Instr.loadAt 3 v39) w47 = .ok v40 w47 ∧ 
 (Ca Try.prog 17 #[v15, (.int .i64 2), v43, v46] w47 fun v48 w49 =>
 rdP Try.prog (bin .neq 28 true v48 (.int .i64 0)) fun v50 =>
 ifB v50
 (K (.bool false) w49)
 (rv Try.prog (bin .add 3 true s23.2.1 (.int .i64 1)) w49 fun v51 w52 =>
 K25 (s23.1, v51, ()) w52)))

def J3_1 (K : Kont) (J108 : Value × Value × Unit → World → Prop) (v124 : Value) (s101 : Value × Value × Value × Unit) (s126 : Value × Unit) (w127 : World) : Prop :=
 ∀ _ : Nat → Value,
 ifB s126.1
 (K (.bool false) w127)
 (J108 (v124, s101.1, ()) w127)

def J3_2 (s101 : Value × Value × Value × Unit) (K103 : Value × Value × Value × Unit → World → Prop) (s106 : Value × Value × Unit) (w107 : World) : Prop :=
 ∀ _ : Nat → Value,
 rv Try.prog (bin .add 3 true s101.2.2.1 (.int .i64 1)) w107 fun v149 w150 =>
 K103 (s106.2.1, s106.1, v149, ()) w150

def L3_3 (v15 : Value) (K : Kont) (v75 : Value) (a0 : Value) (s66 : Value × Unit) (a3 : Value) (s101 : Value × Value × Value × Unit) (w102 : World) (K103 : Value × Value × Value × Unit → World → Prop) : Prop :=
 ∀ _ : Nat → Value,
 rv Try.prog (bin .lss 3 true s101.2.2.1 (.int .i64 20)) w102 fun v104 w105 =>
 ifB v104
 (JoinW (S := Value × Value × Unit) (fun J108 =>
 Ca Try.prog 20 #[v15, (.int .i64 2), s101.2.2.1, (.int .i64 1)] w105 fun v109 w110 =>
 rv Try.prog (Instr.extract v109 0) w110 fun v111 w112 =>
 rv Try.prog (Instr.extract v109 1) w112 fun v113 w114 =>
 rv Try.prog (bin .neq 28 true v113 (.int .i64 0)) w114 fun v115 w116 =>
 ifB v115
 (K (.bool false) w116)
 (rdX Try.prog (xConv 23 9 v111) w116.drew fun v117 =>
 rdP Try.prog (Instr.indexAt 33 v75 s101.2.2.1) fun v118 =>
 rdW Try.prog (Instr.loadAt 5 v118) w116.drew fun v119 =>
 Ca Try.prog 18 #[v119] w116.drew fun v120 w121 =>
 Sem.run Try.prog (xConv 23 9 v111) w121 = .ok v117 w121 ∧ 
 (rdX Try.prog (xConv 23 9 v120) w121 fun v122 =>
 rdP Try.prog (bin .neq 9 false v117 v122) fun v123 =>
 ifB v123
 (rv Try.prog (bin .add 3 true s101.2.1 (.int .i64 1)) w121 fun v124 w125 =>
 JoinW (S := Value × Unit) (fun J128 =>
 rn Try.prog (builtin .len #[22] 3 #[false] #[a0]) w125 fun v129 w130 =>
 rv Try.prog (bin .geq 3 false s66.1 v129) w130 fun v131 w132 =>
 ifB v131
 (J128 ((.bool true), ()) w132)
 (rv Try.prog (Instr.indexAt 22 a0 s66.1) w132 fun v133 w134 =>
 rv Try.prog (Instr.loadAt 3 v133) w134 fun v135 w136 =>
 rv Try.prog (convert 3 27 v135) w136 fun v137 w138 =>
 rv Try.prog (bin .rem 27 true v137 (.int .u64 20)) w138 fun v139 w140 =>
 rv Try.prog (convert 27 3 v139) w140 fun v141 w142 =>
 rv Try.prog (bin .neq 3 false s101.2.2.1 v141) w142 fun v143 w144 =>
 ifB v143
 (J128 ((.bool true), ()) w144)
 (rn Try.prog (builtin .len #[23] 3 #[false] #[a3]) w144 fun v145 w146 =>
 rv Try.prog (bin .eql 3 true v145 (.int .i64 0)) w146 fun v147 w148 =>
 J128 (v147, ()) w148)))
 (J3_1 K J108 v124 s101))
 (J108 (s101.2.1, s101.1, ()) w121))))
 (J3_2 s101 K103))
 (rv Try.prog (bin .leq 3 true s101.2.1 (.int .i64 1)) w105 fun v151 w152 =>
 ifB v151
 (Ca Try.prog 14 #[] w152 fun v153 w154 =>
 K v153 w154)
 (K (.bool false) w152))

def L3_4 (s66 : Value × Unit) (a0 : Value) (v75 : Value) (v15 : Value) (K : Kont) (a3 : Value) (s23 : Value × Value × Unit) (s77 : Value × Unit) (w78 : World) (K79 : Value × Unit → World → Prop) : Prop :=
 ∀ _ : Nat → Value,
 rv Try.prog (bin .lss 3 false s77.1 s66.1) w78 fun v80 w81 =>
 ifB v80
 (rv Try.prog (Instr.indexAt 22 a0 s77.1) w81 fun v82 w83 =>
 rv Try.prog (Instr.loadAt 3 v82) w83 fun v84 w85 =>
 rv Try.prog (convert 3 27 v84) w85 fun v86 w87 =>
 rv Try.prog (bin .rem 27 true v86 (.int .u64 20)) w87 fun v88 w89 =>
 rv Try.prog (convert 27 3 v88) w89 fun v90 w91 =>
 rv Try.prog (bin .add 3 true s77.1 (.int .i64 1)) w91 fun v92 w93 =>
 rv Try.prog (convert 3 5 v92) w93 fun v94 w95 =>
 rv Try.prog (Instr.indexAt 33 v75 v90) w95 fun v96 w97 =>
 ru Try.prog (Instr.storeAt 5 v96 v94) w97 fun w98 =>
 rv Try.prog (bin .add 3 true s77.1 (.int .i64 1)) w98 fun v99 w100 =>
 K79 (v99, ()) w100)
 (LoopW (S := Value × Value × Value × Unit) (L3_3 v15 K v75 a0 s66 a3) (s23.1, (.int .i64 0), (.int .i64 0), ()) w81)

def J3_5 (a0 : Value) (v15 : Value) (K : Kont) (a3 : Value) (s23 : Value × Value × Unit) (s66 : Value × Unit) (w67 : World) : Prop :=
 ∀ _ : Nat → Value,
 rx Try.prog (bigA 33) w67 fun v75 w76 =>
 LoopW (S := Value × Unit) (L3_4 s66 a0 v75 v15 K a3 s23) ((.int .i64 0), ()) w76

def J3_6 (v15 : Value) (a2 : Value) (a3 : Value) (K : Kont) (a0 : Value) (s23 : Value × Value × Unit) (s53 : Value × Unit) (w54 : World) : Prop :=
 ∀ _ : Nat → Value,
 Ca Try.prog 19 #[v15, a2, a3] w54 fun v60 w61 =>
 rv Try.prog (bin .neq 28 true v60 (.int .i64 0)) w61 fun v62 w63 =>
 ifB v62
 (K (.bool false) w63)
 (rn Try.prog (builtin .len #[22] 3 #[false] #[a0]) w63 fun v64 w65 =>
 JoinW (S := Value × Unit) (fun J68 =>
 rv Try.prog (bin .sub 3 false v64 s53.1) w65 fun v69 w70 =>
 rv Try.prog (bin .lss 3 false a2 v69) w70 fun v71 w72 =>
 ifB v71
 (rv Try.prog (bin .add 3 false s53.1 a2) w72 fun v73 w74 =>
 J68 (v73, ()) w74)
 (J68 (v64, ()) w72))
 (J3_5 a0 v15 K a3 s23))

def L3_7 (a0 : Value) (v21 : Value) (v15 : Value) (K : Kont) (a2 : Value) (a3 : Value) (s23 : Value × Value × Unit) (w24 : World) (K25 : Value × Value × Unit → World → Prop) : Prop :=
 ∀ _ : Nat → Value,
 rn Try.prog (builtin .len #[22] 3 #[false] #[a0]) w24 fun v26 w27 =>
 rv Try.prog (bin .lss 3 false s23.2.1 v26) w27 fun v28 w29 =>
 ifB v28
 (JoinW (S := Value × Unit) (fun J32 =>
 rv Try.prog (bin .eql 3 false s23.2.1 v21) w29 fun v33 w34 =>
 ifB v33
 (Ca Try.prog 16 #[v15] w34 fun v35 w36 =>
 rv Try.prog (bin .neq 28 true v35 (.int .i64 0)) w36 fun v37 w38 =>
 J32 (v37, ()) w38)
 (J32 ((.bool false), ()) w34))
 (J3_0 K a0 s23 v15 K25))
 (JoinW (S := Value × Unit) (fun J55 =>
 rn Try.prog (builtin .len #[22] 3 #[false] #[a0]) w29 fun v56 w57 =>
 rv Try.prog (bin .geq 3 false v21 v56) w57 fun v58 w59 =>
 ifB v58
 (J55 ((.int .i64 0), ()) w59)
 (J55 (v21, ()) w59))
 (J3_6 v15 a2 a3 K a0 s23))

def J3_8 (K : Kont) (a1 : Value) (a0 : Value) (a2 : Value) (a3 : Value) (s0 : Value × Unit) (w1 : World) : Prop :=
 ∀ _ : Nat → Value,
 ifB s0.1
 (Ca Try.prog 14 #[] w1 fun v13 w14 =>
 K v13 w14)
 (Ca Try.prog 15 #[] w1 fun v15 w16 =>
 rv Try.prog (convert 3 27 a1) w16 fun v17 w18 =>
 rv Try.prog (bin .rem 27 true v17 (.int .u64 61)) w18 fun v19 w20 =>
 rv Try.prog (convert 27 3 v19) w20 fun v21 w22 =>
 LoopW (S := Value × Value × Unit) (L3_7 a0 v21 v15 K a2 a3) ((.bool false), (.int .i64 0), ()) w22)

/-- broadside/broadsidelaw18.DiskTorn -/
def F3 (a0 a1 a2 a3 : Value) (w : World) (K : Kont) : Prop :=
 JoinW (S := Value × Unit) (fun J2 =>
 rn Try.prog (builtin .len #[22] 3 #[false] #[a0]) w fun v3 w4 =>
 rv Try.prog (bin .gtr 3 true v3 (.int .i64 60)) w4 fun v5 w6 =>
 ifB v5
 (J2 ((.bool true), ()) w6)
 (rn Try.prog (builtin .len #[23] 3 #[false] #[a3]) w6 fun v7 w8 =>
 rv Try.prog (bin .gtr 3 true v7 (.int .i64 1000)) w8 fun v9 w10 =>
 ifB v9
 (J2 ((.bool true), ()) w10)
 (rv Try.prog (bin .lss 3 true a2 (.int .i64 0)) w10 fun v11 w12 =>
 J2 (v11, ()) w12)))
 (J3_8 K a1 a0 a2 a3)
theorem F3_eq (a0 a1 a2 a3 : Value) (w : World) (K : Kont) : vcFnJ Try.prog Try.f3 [a0, a1, a2, a3] w K = F3 a0 a1 a2 a3 w K := by kernel_rfl
theorem F3_ok : okF Try.prog Try.f3 4 = true := by kernel_rfl
theorem ca3{a0 a1 a2 a3 : Value} {w : World} {K : Kont} (h : F3 a0 a1 a2 a3 w K) : Ca Try.prog 3 #[a0, a1, a2, a3] w K :=
  ca_of_vcJ Try.noNum Try.func3 F3_ok (by rw [F3_eq]; exact h)


def J4_0 (K : Kont) (s117 : Value × Value × Unit) (K119 : Value × Value × Unit → World → Prop) (s128 : Value × Unit) (w129 : World) : Prop :=
 ∀ _ : Nat → Value,
 ifB s128.1
 (K (.bool false) w129)
 (rv Try.prog (bin .add 3 true s117.2.1 (.int .i64 1)) w129 fun v142 w143 =>
 K119 (s117.1, v142, ()) w143)

def L4_1 (v19 : Value) (v70 : Value) (v21 : Value) (K : Kont) (s117 : Value × Value × Unit) (w118 : World) (K119 : Value × Value × Unit → World → Prop) : Prop :=
 ∀ _ : Nat → Value,
 rv Try.prog (bin .lss 3 true s117.2.1 (.int .i64 30)) w118 fun v120 w121 =>
 ifB v120
 (Ca Try.prog 20 #[v19, (.int .i64 1), s117.2.1, (.int .i64 1)] w121 fun v122 w123 =>
 rv Try.prog (Instr.extract v122 0) w123 fun v124 w125 =>
 rv Try.prog (Instr.extract v122 1) w125 fun v126 w127 =>
 JoinW (S := Value × Unit) (fun J130 =>
 rdP Try.prog (bin .neq 28 true v126 (.int .i64 0)) fun v131 =>
 ifB v131
 (J130 ((.bool true), ()) w127.drew)
 (rdP Try.prog (Instr.indexAt 39 v70 s117.2.1) fun v132 =>
 rdW Try.prog (Instr.loadAt 4 v132) w127.drew fun v133 =>
 rdP Try.prog (Op.unary .not v133) fun v134 =>
 ifB v134
 (rdX Try.prog (xConv 23 9 v124) w127.drew fun v135 =>
 rdP Try.prog (Instr.indexAt 37 v21 s117.2.1) fun v136 =>
 rdW Try.prog (Instr.loadAt 5 v136) w127.drew fun v137 =>
 Ca Try.prog 18 #[v137] w127.drew fun v138 w139 =>
 Sem.run Try.prog (xConv 23 9 v124) w139 = .ok v135 w139 ∧ 
 (rdX Try.prog (xConv 23 9 v138) w139 fun v140 =>
 rdP Try.prog (bin .neq 9 false v135 v140) fun v141 =>
 J130 (v141, ()) w139))
 (J130 ((.bool false), ()) w127.drew)))
 (J4_0 K s117 K119))
 (Ca Try.prog 14 #[] w121 fun v144 w145 =>
 K v144 w145)

def J4_2 (K : Kont) (v19 : Value) (v70 : Value) (v21 : Value) (s72 : Value × Value × Unit) (s104 : Value × Unit) (w105 : World) : Prop :=
 ∀ _ : Nat → Value,
 ifB s104.1
 (K (.bool false) w105)
 (LoopW (S := Value × Value × Unit) (L4_1 v19 v70 v21 K) (s72.1, (.int .i64 0), ()) w105)

def L4_3 (a1 : Value) (v70 : Value) (v19 : Value) (K : Kont) (a2 : Value) (a3 : Value) (v21 : Value) (s72 : Value × Value × Unit) (w73 : World) (K74 : Value × Value × Unit → World → Prop) : Prop :=
 ∀ _ : Nat → Value,
 rn Try.prog (builtin .len #[22] 3 #[false] #[a1]) w73 fun v75 w76 =>
 rv Try.prog (bin .lss 3 false s72.2.1 v75) w76 fun v77 w78 =>
 ifB v77
 (rv Try.prog (Instr.indexAt 22 a1 s72.2.1) w78 fun v79 w80 =>
 rv Try.prog (Instr.loadAt 3 v79) w80 fun v81 w82 =>
 rv Try.prog (convert 3 27 v81) w82 fun v83 w84 =>
 rv Try.prog (bin .rem 27 true v83 (.int .u64 30)) w84 fun v85 w86 =>
 rv Try.prog (convert 27 3 v85) w86 fun v87 w88 =>
 rv Try.prog (Instr.indexAt 39 v70 v87) w88 fun v89 w90 =>
 ru Try.prog (Instr.storeAt 4 v89 (.bool true)) w90 fun w91 =>
 rv Try.prog (bin .add 3 true (.int .i64 100) s72.2.1) w91 fun v92 w93 =>
 rv Try.prog (convert 3 5 v92) w93 fun v94 w95 =>
 Ca Try.prog 18 #[v94] w95 fun v96 w97 =>
 Ca Try.prog 17 #[v19, (.int .i64 1), v87, v96] w97 fun v98 w99 =>
 rv Try.prog (bin .neq 28 true v98 (.int .i64 0)) w99 fun v100 w101 =>
 ifB v100
 (K (.bool false) w101)
 (rv Try.prog (bin .add 3 true s72.2.1 (.int .i64 1)) w101 fun v102 w103 =>
 K74 (s72.1, v102, ()) w103))
 (JoinW (S := Value × Unit) (fun J106 =>
 Ca Try.prog 21 #[v19] w78 fun v107 w108 =>
 rn Try.prog (builtin .len #[22] 3 #[false] #[a1]) w108 fun v109 w110 =>
 rv Try.prog (bin .neq 3 false v107 v109) w110 fun v111 w112 =>
 ifB v111
 (J106 ((.bool true), ()) w112)
 (Ca Try.prog 19 #[v19, a2, a3] w112 fun v113 w114 =>
 rv Try.prog (bin .neq 28 true v113 (.int .i64 0)) w114 fun v115 w116 =>
 J106 (v115, ()) w116))
 (J4_2 K v19 v70 v21 s72))

def J4_4 (K : Kont) (a1 : Value) (v19 : Value) (a2 : Value) (a3 : Value) (v21 : Value) (s23 : Value × Value × Unit) (s59 : Value × Unit) (w60 : World) : Prop :=
 ∀ _ : Nat → Value,
 ifB s59.1
 (K (.bool false) w60)
 (rx Try.prog (bigA 39) w60 fun v70 w71 =>
 LoopW (S := Value × Value × Unit) (L4_3 a1 v70 v19 K a2 a3 v21) (s23.1, (.int .i64 0), ()) w71)

def L4_5 (a0 : Value) (v21 : Value) (v19 : Value) (K : Kont) (a1 : Value) (a2 : Value) (a3 : Value) (s23 : Value × Value × Unit) (w24 : World) (K25 : Value × Value × Unit → World → Prop) : Prop :=
 ∀ _ : Nat → Value,
 rn Try.prog (builtin .len #[22] 3 #[false] #[a0]) w24 fun v26 w27 =>
 rv Try.prog (bin .lss 3 false s23.2.1 v26) w27 fun v28 w29 =>
 ifB v28
 (rv Try.prog (Instr.indexAt 22 a0 s23.2.1) w29 fun v30 w31 =>
 rv Try.prog (Instr.loadAt 3 v30) w31 fun v32 w33 =>
 rv Try.prog (convert 3 27 v32) w33 fun v34 w35 =>
 rv Try.prog (bin .rem 27 true v34 (.int .u64 30)) w35 fun v36 w37 =>
 rv Try.prog (convert 27 3 v36) w37 fun v38 w39 =>
 rv Try.prog (bin .add 3 true s23.2.1 (.int .i64 1)) w39 fun v40 w41 =>
 rv Try.prog (convert 3 5 v40) w41 fun v42 w43 =>
 rv Try.prog (Instr.indexAt 37 v21 v38) w43 fun v44 w45 =>
 ru Try.prog (Instr.storeAt 5 v44 v42) w45 fun w46 =>
 rv Try.prog (bin .add 3 true s23.2.1 (.int .i64 1)) w46 fun v47 w48 =>
 rv Try.prog (convert 3 5 v47) w48 fun v49 w50 =>
 Ca Try.prog 18 #[v49] w50 fun v51 w52 =>
 Ca Try.prog 17 #[v19, (.int .i64 1), v38, v51] w52 fun v53 w54 =>
 rv Try.prog (bin .neq 28 true v53 (.int .i64 0)) w54 fun v55 w56 =>
 ifB v55
 (K (.bool false) w56)
 (rv Try.prog (bin .add 3 true s23.2.1 (.int .i64 1)) w56 fun v57 w58 =>
 K25 (s23.1, v57, ()) w58))
 (JoinW (S := Value × Unit) (fun J61 =>
 Ca Try.prog 16 #[v19] w29 fun v62 w63 =>
 rv Try.prog (bin .neq 28 true v62 (.int .i64 0)) w63 fun v64 w65 =>
 ifB v64
 (J61 ((.bool true), ()) w65)
 (Ca Try.prog 21 #[v19] w65 fun v66 w67 =>
 rv Try.prog (bin .neq 3 true v66 (.int .i64 0)) w67 fun v68 w69 =>
 J61 (v68, ()) w69))
 (J4_4 K a1 v19 a2 a3 v21 s23))

def J4_6 (K : Kont) (a0 : Value) (a1 : Value) (a2 : Value) (a3 : Value) (s0 : Value × Unit) (w1 : World) : Prop :=
 ∀ _ : Nat → Value,
 ifB s0.1
 (Ca Try.prog 14 #[] w1 fun v17 w18 =>
 K v17 w18)
 (Ca Try.prog 15 #[] w1 fun v19 w20 =>
 rx Try.prog (bigA 37) w20 fun v21 w22 =>
 LoopW (S := Value × Value × Unit) (L4_5 a0 v21 v19 K a1 a2 a3) ((.bool false), (.int .i64 0), ()) w22)

/-- broadside/broadsidelaw18.DiskSynced -/
def F4 (a0 a1 a2 a3 : Value) (w : World) (K : Kont) : Prop :=
 JoinW (S := Value × Unit) (fun J2 =>
 rn Try.prog (builtin .len #[22] 3 #[false] #[a0]) w fun v3 w4 =>
 rv Try.prog (bin .gtr 3 true v3 (.int .i64 60)) w4 fun v5 w6 =>
 ifB v5
 (J2 ((.bool true), ()) w6)
 (rn Try.prog (builtin .len #[22] 3 #[false] #[a1]) w6 fun v7 w8 =>
 rv Try.prog (bin .gtr 3 true v7 (.int .i64 30)) w8 fun v9 w10 =>
 ifB v9
 (J2 ((.bool true), ()) w10)
 (rn Try.prog (builtin .len #[23] 3 #[false] #[a3]) w10 fun v11 w12 =>
 rv Try.prog (bin .gtr 3 true v11 (.int .i64 1000)) w12 fun v13 w14 =>
 ifB v13
 (J2 ((.bool true), ()) w14)
 (rv Try.prog (bin .lss 3 true a2 (.int .i64 0)) w14 fun v15 w16 =>
 J2 (v15, ()) w16))))
 (J4_6 K a0 a1 a2 a3)
theorem F4_eq (a0 a1 a2 a3 : Value) (w : World) (K : Kont) : vcFnJ Try.prog Try.f4 [a0, a1, a2, a3] w K = F4 a0 a1 a2 a3 w K := by kernel_rfl
theorem F4_ok : okF Try.prog Try.f4 4 = true := by kernel_rfl
theorem ca4{a0 a1 a2 a3 : Value} {w : World} {K : Kont} (h : F4 a0 a1 a2 a3 w K) : Ca Try.prog 4 #[a0, a1, a2, a3] w K :=
  ca_of_vcJ Try.noNum Try.func4 F4_ok (by rw [F4_eq]; exact h)


end Go.Proofs
