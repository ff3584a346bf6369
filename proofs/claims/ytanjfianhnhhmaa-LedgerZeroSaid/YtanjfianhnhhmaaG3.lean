/-
  Formulas of the program's functions, printed by a program of mine: each is what the computed precondition of the function's body comes to.
  Conditions: none.
-/
import Derived.Test.YtanjfianhnhhmaaG0
import Derived.Test.YtanjfianhnhhmaaVcFn
set_option linter.unusedSimpArgs false
set_option maxRecDepth 100000
set_option linter.unusedVariables false
namespace Go.Proofs
open Go Go.Vc


def J3_0 (K : Kont) (s11 : Value × Value × Unit) (K13 : Value × Value × Unit → World → Prop) (s16 : Value × Unit) (w17 : World) : Prop :=
 ∀ _ : Nat → Value,
 ifB s16.1
 (K (.bool false) w17)
 (rv Try.prog (bin .add 3 true s11.2.1 (.int .i64 1)) w17 fun v35 w36 =>
 K13 (s11.1, v35, ()) w36)

def J3_1 (K : Kont) (s58 : Value × Value × Unit) (K60 : Value × Value × Unit → World → Prop) (s65 : Value × Value × Unit) (s101 : Value × Unit) (w102 : World) : Prop :=
 ∀ _ : Nat → Value,
 ifB s101.1
 (K (.bool false) w102)
 (rv Try.prog (bin .add 3 true s58.2.1 (.int .i64 1)) w102 fun v112 w113 =>
 K60 (s65.1, v112, ()) w113)

def L3_2 (v63 : Value) (s58 : Value × Value × Unit) (v0 : Value) (v2 : Value) (K : Kont) (K60 : Value × Value × Unit → World → Prop) (s65 : Value × Value × Unit) (w66 : World) (K67 : Value × Value × Unit → World → Prop) : Prop :=
 ∀ _ : Nat → Value,
 rv Try.prog (bin .lss 3 true s65.2.1 (.int .i64 2)) w66 fun v68 w69 =>
 ifB v68
 (rv Try.prog (Instr.index 29 v63 s65.2.1) w69 fun v70 w71 =>
 rv Try.prog (bin .add 3 true s58.2.1 (.int .i64 1)) w71 fun v72 w73 =>
 rv Try.prog (convert 3 22 v72) w73 fun v74 w75 =>
 Ca Try.prog 12 #[v0, v70, v74] w75 fun v76 w77 =>
 rv Try.prog (bin .add 3 true s58.2.1 (.int .i64 1)) w77 fun v78 w79 =>
 rv Try.prog (convert 3 22 v78) w79 fun v80 w81 =>
 Ca Try.prog 12 #[v2, v70, v80] w81 fun v82 w83 =>
 rv Try.prog (bin .neq 31 false v76 v82) w83 fun v84 w85 =>
 ifB v84
 (K (.bool false) w85)
 (rv Try.prog (bin .add 3 true s65.2.1 (.int .i64 1)) w85 fun v86 w87 =>
 K67 (s65.1, v86, ()) w87))
 (rv Try.prog (bin .add 3 true s58.2.1 (.int .i64 1)) w69 fun v88 w89 =>
 rv Try.prog (convert 3 22 v88) w89 fun v90 w91 =>
 Ca Try.prog 13 #[v0, v90] w91 fun v92 w93 =>
 rv Try.prog (Instr.extract v92 0) w93 fun v94 w95 =>
 rv Try.prog (Instr.extract v92 1) w95 fun v96 w97 =>
 rv Try.prog (Instr.alloc 34 true (.tuple #[])) w97 fun v98 w99 =>
 ru Try.prog (Instr.storeAt 34 v98 v94) w99 fun w100 =>
 JoinW (S := Value × Unit) (fun J103 =>
 rv Try.prog (bin .neq 25 true v96 (.int .i64 0)) w100 fun v104 w105 =>
 ifB v104
 (J103 ((.bool true), ()) w105)
 (rv Try.prog (Instr.fieldAt 34 v98 1) w105 fun v106 w107 =>
 rv Try.prog (Instr.loadAt 2 v106) w107 fun v108 w109 =>
 rv Try.prog (bin .neq 2 true v108 (.int .i64 5)) w109 fun v110 w111 =>
 J103 (v110, ()) w111))
 (J3_1 K s58 K60 s65))

def L3_3 (a0 : Value) (a1 : Value) (v0 : Value) (v2 : Value) (K : Kont) (s58 : Value × Value × Unit) (w59 : World) (K60 : Value × Value × Unit → World → Prop) : Prop :=
 ∀ _ : Nat → Value,
 rv Try.prog (bin .lss 3 true s58.2.1 (.int .i64 4)) w59 fun v61 w62 =>
 ifB v61
 (rv Try.prog (Instr.build 29 #[(0, a0), (1, a1)]) w62 fun v63 w64 =>
 LoopW (S := Value × Value × Unit) (L3_2 v63 s58 v0 v2 K K60) (s58.1, (.int .i64 0), ()) w64)
 (Ca Try.prog 12 #[v0, a0, (.int .u32 4)] w62 fun v114 w115 =>
 rv Try.prog (Instr.build 31 #[(0, a0), (1, (.int .u32 4))]) w115 fun v116 w117 =>
 rv Try.prog (bin .eql 31 false v114 v116) w117 fun v118 w119 =>
 ifB v118
 (rv Try.prog (bin .eql 22 false a0 a1) w119 fun v120 w121 =>
 ifB v120
 (Ca Try.prog 11 #[] w121 fun v122 w123 =>
 K v122 w123)
 (Ca Try.prog 12 #[v0, a1, (.int .u32 1)] w121 fun v124 w125 =>
 rv Try.prog (Instr.build 31 #[(0, a1), (1, (.int .u32 1))]) w125 fun v126 w127 =>
 rv Try.prog (bin .eql 31 false v124 v126) w127 fun v128 w129 =>
 ifB v128
 (Ca Try.prog 11 #[] w129 fun v130 w131 =>
 K v130 w131)
 (K (.bool false) w129)))
 (K (.bool false) w119))

def J3_4 (K : Kont) (a0 : Value) (a1 : Value) (v0 : Value) (v2 : Value) (s11 : Value × Value × Unit) (s45 : Value × Unit) (w46 : World) : Prop :=
 ∀ _ : Nat → Value,
 ifB s45.1
 (Ca Try.prog 11 #[] w46 fun v56 w57 =>
 K v56 w57)
 (LoopW (S := Value × Value × Unit) (L3_3 a0 a1 v0 v2 K) (s11.1, (.int .i64 0), ()) w46)

def L3_5 (v0 : Value) (v2 : Value) (K : Kont) (a0 : Value) (a2 : Value) (a4 : Value) (a1 : Value) (a3 : Value) (a5 : Value) (s11 : Value × Value × Unit) (w12 : World) (K13 : Value × Value × Unit → World → Prop) : Prop :=
 ∀ _ : Nat → Value,
 rv Try.prog (bin .lss 3 true s11.2.1 (.int .i64 4)) w12 fun v14 w15 =>
 ifB v14
 (JoinW (S := Value × Unit) (fun J18 =>
 rv Try.prog (bin .add 3 true s11.2.1 (.int .i64 1)) w15 fun v19 w20 =>
 rv Try.prog (convert 3 22 v19) w20 fun v21 w22 =>
 Ca Try.prog 9 #[v0, v21, (.int .i64 5)] w22 fun v23 w24 =>
 rv Try.prog (bin .neq 25 true v23 (.int .i64 0)) w24 fun v25 w26 =>
 ifB v25
 (J18 ((.bool true), ()) w26)
 (rv Try.prog (bin .add 3 true s11.2.1 (.int .i64 1)) w26 fun v27 w28 =>
 rv Try.prog (convert 3 22 v27) w28 fun v29 w30 =>
 Ca Try.prog 9 #[v2, v29, (.int .i64 5)] w30 fun v31 w32 =>
 rv Try.prog (bin .neq 25 true v31 (.int .i64 0)) w32 fun v33 w34 =>
 J18 (v33, ()) w34))
 (J3_0 K s11 K13))
 (Ca Try.prog 10 #[v0, a0, (.int .u32 1), (.int .u32 2), a2, a4] w15 fun v37 w38 =>
 Ca Try.prog 10 #[v0, a1, (.int .u32 2), (.int .u32 3), a3, a5] w38 fun v39 w40 =>
 Ca Try.prog 10 #[v2, a1, (.int .u32 2), (.int .u32 3), a3, a5] w40 fun v41 w42 =>
 Ca Try.prog 10 #[v2, a0, (.int .u32 1), (.int .u32 2), a2, a4] w42 fun v43 w44 =>
 JoinW (S := Value × Unit) (fun J47 =>
 rv Try.prog (bin .neq 25 true v37 (.int .i64 0)) w44 fun v48 w49 =>
 ifB v48
 (J47 ((.bool true), ()) w49)
 (rv Try.prog (bin .neq 25 true v39 (.int .i64 0)) w49 fun v50 w51 =>
 ifB v50
 (J47 ((.bool true), ()) w51)
 (rv Try.prog (bin .neq 25 true v41 (.int .i64 0)) w51 fun v52 w53 =>
 ifB v52
 (J47 ((.bool true), ()) w53)
 (rv Try.prog (bin .neq 25 true v43 (.int .i64 0)) w53 fun v54 w55 =>
 J47 (v54, ()) w55))))
 (J3_4 K a0 a1 v0 v2 s11))

def J3_6 (K : Kont) (v0 : Value) (v2 : Value) (a0 : Value) (a2 : Value) (a4 : Value) (a1 : Value) (a3 : Value) (a5 : Value) (s4 : Value × Unit) (w5 : World) : Prop :=
 ∀ _ : Nat → Value,
 ifB s4.1
 (K (.bool false) w5)
 (LoopW (S := Value × Value × Unit) (L3_5 v0 v2 K a0 a2 a4 a1 a3 a5) ((.bool false), (.int .i64 0), ()) w5)

/-- broadside/broadsidelaw09.LedgerApart -/
def F3 (a0 a1 a2 a3 a4 a5 : Value) (w : World) (K : Kont) : Prop :=
 Ca Try.prog 8 #[] w fun v0 w1 =>
 Ca Try.prog 8 #[] w1 fun v2 w3 =>
 JoinW (S := Value × Unit) (fun J6 =>
 rv Try.prog (bin .eql 23 true v0 (.pointer none)) w3 fun v7 w8 =>
 ifB v7
 (J6 ((.bool true), ()) w8)
 (rv Try.prog (bin .eql 23 true v2 (.pointer none)) w8 fun v9 w10 =>
 J6 (v9, ()) w10))
 (J3_6 K v0 v2 a0 a2 a4 a1 a3 a5)
theorem F3_eq (a0 a1 a2 a3 a4 a5 : Value) (w : World) (K : Kont) : vcFnJ Try.prog Try.f3 [a0, a1, a2, a3, a4, a5] w K = F3 a0 a1 a2 a3 a4 a5 w K := by kernel_rfl
theorem F3_ok : okF Try.prog Try.f3 6 = true := by kernel_rfl
theorem ca3{a0 a1 a2 a3 a4 a5 : Value} {w : World} {K : Kont} (h : F3 a0 a1 a2 a3 a4 a5 w K) : Ca Try.prog 3 #[a0, a1, a2, a3, a4, a5] w K :=
  ca_of_vcJ Try.noNum Try.func3 F3_ok (by rw [F3_eq]; exact h)


def L4_0 (v48 : Value) (v46 : Value) (s17 : (Value × Value × Value × Unit) × List Nat) (K : Kont) (J31 : Value × Unit → World → Prop) (s50 : Value × Value × Unit) (w51 : World) (K52 : Value × Value × Unit → World → Prop) : Prop :=
 ∀ _ : Nat → Value,
 rv Try.prog (bin .lss 3 false s50.2.1 v48) w51 fun v53 w54 =>
 ifB v53
 (rv Try.prog (Instr.indexAt 41 v46 s50.2.1) w54 fun v55 w56 =>
 rv Try.prog (Instr.fieldAt 45 v55 1) w56 fun v57 w58 =>
 rv Try.prog (Instr.loadAt 2 v57) w58 fun v59 w60 =>
 rv Try.prog (bin .add 2 false s50.1 v59) w60 fun v61 w62 =>
 rv Try.prog (bin .add 3 true s50.2.1 (.int .i64 1)) w62 fun v63 w64 =>
 K52 (v61, v63, ()) w64)
 (rv Try.prog (bin .neq 2 true s50.1 (.int .i64 0)) w54 fun v65 w66 =>
 ifB v65
 (retD s17.2 w66 fun w67 =>
 K (.bool false) w67)
 (J31 (s17.1.1, ()) w66))

def J4_1 (mk122 : List Nat) (s17 : (Value × Value × Value × Unit) × List Nat) (K : Kont) (K19 : (Value × Value × Value × Unit) × List Nat → World → Prop) (s29 : Value × Unit) (v72 : Value) (s126 : Value × Unit) (w127 : World) : Prop :=
 ∀ _ : Nat → Value,
 ifB s126.1
 (retD (mk122 ++ s17.2) w127 fun w141 =>
 K (.bool false) w141)
 (rv Try.prog (bin .add 3 true s17.1.2.2.1 (.int .i64 1)) w127 fun v142 w143 =>
 K19 ((s29.1, v72, v142, ()), (mk122 ++ s17.2)) w143)

def J4_2 (mk122 : List Nat) (s17 : (Value × Value × Value × Unit) × List Nat) (K : Kont) (K19 : (Value × Value × Value × Unit) × List Nat → World → Prop) (s29 : Value × Unit) (v72 : Value) (s148 : Value × Unit) (w149 : World) : Prop :=
 ∀ _ : Nat → Value,
 ifB s148.1
 (retD (mk122 ++ s17.2) w149 fun w163 =>
 K (.bool false) w163)
 (rv Try.prog (bin .add 3 true s17.1.2.2.1 (.int .i64 1)) w149 fun v164 w165 =>
 K19 ((s29.1, v72, v164, ()), (mk122 ++ s17.2)) w165)

def R4_3 (v74 : Value) (v76 : Value) (l95 : Nat) (x96 : List Value) (w97 : World) (KN98 : World → Prop) (KJ99 : Code → World → Prop) : Prop :=
 rv Try.prog (Instr.alloc 31 true (.tuple #[])) w97 fun v100 w101 =>
 ru Try.prog (Instr.storeAt 31 v100 (x96.getD 0 undef)) w101 fun w102 =>
 beginK l95 w102 fun w103 =>
 rv Try.prog (Instr.loadAt 2 v74) w103 fun v104 w105 =>
 rv Try.prog (Instr.fieldAt 31 v100 2) w105 fun v106 w107 =>
 rv Try.prog (Instr.loadAt 2 v106) w107 fun v108 w109 =>
 rv Try.prog (bin .add 2 false v104 v108) w109 fun v110 w111 =>
 ru Try.prog (Instr.storeAt 2 v74 v110) w111 fun w112 =>
 rv Try.prog (Instr.loadAt 2 v76) w112 fun v113 w114 =>
 rv Try.prog (Instr.fieldAt 31 v100 3) w114 fun v115 w116 =>
 rv Try.prog (Instr.loadAt 2 v115) w116 fun v117 w118 =>
 rv Try.prog (bin .add 2 false v113 v117) w118 fun v119 w120 =>
 ru Try.prog (Instr.storeAt 2 v76 v119) w120 fun w121 =>
 KN98 w121

def A4_4 (v74 : Value) (v76 : Value) (v0 : Value) (v72 : Value) (s17 : (Value × Value × Value × Unit) × List Nat) (K : Kont) (K19 : (Value × Value × Value × Unit) × List Nat → World → Prop) (s29 : Value × Unit) (mk122 : List Nat) (pd123 : Option Code) (w124 : World) : Prop :=
 afterK
 (fun w125 =>
 JoinW (S := Value × Unit) (fun J128 =>
 rv Try.prog (Instr.loadAt 2 v74) w125 fun v129 w130 =>
 rv Try.prog (bin .neq 2 true v129 (.int .i64 0)) w130 fun v131 w132 =>
 ifB v131
 (J128 ((.bool true), ()) w132)
 (rv Try.prog (Instr.loadAt 2 v76) w132 fun v133 w134 =>
 rv Try.prog (bin .neq 2 true v133 (.int .i64 0)) w134 fun v135 w136 =>
 ifB v135
 (J128 ((.bool true), ()) w136)
 (Ca Try.prog 18 #[v0] w136 fun v137 w138 =>
 rv Try.prog (bin .neq 2 false v137 v72) w138 fun v139 w140 =>
 J128 (v139, ()) w140)))
 (J4_1 mk122 s17 K K19 s29 v72))
 (fun w144 =>
 retD (mk122 ++ s17.2) w144 fun w145 =>
 K s29.1 w145)
 (fun i147 w146 =>
 bc (Nat.beq i147 4)
 (JoinW (S := Value × Unit) (fun J150 =>
 rv Try.prog (Instr.loadAt 2 v74) w146 fun v151 w152 =>
 rv Try.prog (bin .neq 2 true v151 (.int .i64 0)) w152 fun v153 w154 =>
 ifB v153
 (J150 ((.bool true), ()) w154)
 (rv Try.prog (Instr.loadAt 2 v76) w154 fun v155 w156 =>
 rv Try.prog (bin .neq 2 true v155 (.int .i64 0)) w156 fun v157 w158 =>
 ifB v157
 (J150 ((.bool true), ()) w158)
 (Ca Try.prog 18 #[v0] w158 fun v159 w160 =>
 rv Try.prog (bin .neq 2 false v159 v72) w160 fun v161 w162 =>
 J150 (v161, ()) w162)))
 (J4_2 mk122 s17 K K19 s29 v72))
 (bc (Nat.beq i147 1)
 (rv Try.prog (bin .add 3 true s17.1.2.2.1 (.int .i64 1)) w146 fun v166 w167 =>
 K19 ((s29.1, v72, v166, ()), (mk122 ++ s17.2)) w167)
 (bc (Nat.beq i147 0)
 (Ca Try.prog 11 #[] w146 fun v168 w169 =>
 retD (mk122 ++ s17.2) w169 fun w170 =>
 K v168 w170)
 (False)))) pd123 w124

def J4_5 (v26 : Value) (v0 : Value) (s17 : (Value × Value × Value × Unit) × List Nat) (K : Kont) (K19 : (Value × Value × Value × Unit) × List Nat → World → Prop) (s29 : Value × Unit) (w30 : World) : Prop :=
 ∀ _ : Nat → Value,
 rv Try.prog (Instr.loadAt 40 v26) w30 fun v68 w69 =>
 Ca Try.prog 16 #[v0, v68] w69 fun v70 w71 =>
 rv Try.prog (bin .add 2 false s17.1.2.1 v70) w71 fun v72 w73 =>
 rv Try.prog (Instr.alloc 2 true (.tuple #[])) w73 fun v74 w75 =>
 rv Try.prog (Instr.alloc 2 true (.tuple #[])) w75 fun v76 w77 =>
 ru Try.prog (Instr.storeAt 2 v74 (.int .i64 0)) w77 fun w78 =>
 ru Try.prog (Instr.storeAt 2 v76 (.int .i64 0)) w78 fun w79 =>
 rv Try.prog (Instr.fieldAt 40 v26 3) w79 fun v80 w81 =>
 rv Try.prog (Instr.loadAt 22 v80) w81 fun v82 w83 =>
 Ca Try.prog 17 #[v0, v82] w83 fun v84 w85 =>
 rv Try.prog (bin .eql 48 true v84 .nilFunc) w85 fun v86 w87 =>
 ifB v86
 (retD s17.2 w87 fun w88 =>
 K (.bool false) w88)
 (rv Try.prog (Instr.fieldAt 40 v26 3) w87 fun v89 w90 =>
 rv Try.prog (Instr.loadAt 22 v89) w90 fun v91 w92 =>
 Ca Try.prog 17 #[v0, v91] w92 fun v93 w94 =>
 RFW Try.prog none v93 w94 1 (R4_3 v74 v76) (A4_4 v74 v76 v0 v72 s17 K K19 s29))

def L4_6 (v15 : Value) (a0 : Value) (v0 : Value) (K : Kont) (s17 : (Value × Value × Value × Unit) × List Nat) (w18 : World) (K19 : (Value × Value × Value × Unit) × List Nat → World → Prop) : Prop :=
 ∀ _ : Nat → Value,
 rv Try.prog (bin .lss 3 false s17.1.2.2.1 v15) w18 fun v20 w21 =>
 ifB v20
 (rv Try.prog (Instr.indexAt 38 a0 s17.1.2.2.1) w21 fun v22 w23 =>
 rv Try.prog (Instr.loadAt 40 v22) w23 fun v24 w25 =>
 rv Try.prog (Instr.alloc 40 true (.tuple #[])) w25 fun v26 w27 =>
 ru Try.prog (Instr.storeAt 40 v26 v24) w27 fun w28 =>
 JoinW (S := Value × Unit) (fun J31 =>
 rv Try.prog (Instr.fieldAt 40 v26 0) w28 fun v32 w33 =>
 rv Try.prog (Instr.loadAt 3 v32) w33 fun v34 w35 =>
 rv Try.prog (bin .eql 3 true v34 (.int .i64 6)) w35 fun v36 w37 =>
 ifB v36
 (rdP Try.prog (Instr.fieldAt 40 v26 3) fun v38 =>
 rdW Try.prog (Instr.loadAt 22 v38) w37.drew fun v39 =>
 rdP Try.prog (Instr.fieldAt 40 v26 4) fun v40 =>
 rdW Try.prog (Instr.loadAt 2 v40) w37.drew fun v41 =>
 Ca Try.prog 14 #[v0] w37.drew fun v42 w43 =>
 Sem.run Try.prog (Instr.loadAt 2 v40) w43 = .ok v41 w43 ∧ Sem.run Try.prog (Instr.loadAt 22 v38) w43 = .ok v39 w43 ∧ 
 (Ca Try.prog 15 #[v42, v39, v41, (.bool false)] w43 fun v44 w45 =>
 rdP Try.prog (Instr.extract v44 0) fun v46 =>
 rdP Try.prog (Instr.extract v44 1) fun v47 =>
 rn Try.prog (builtin .len #[41] 3 #[false] #[v46]) w45 fun v48 w49 =>
 LoopW (S := Value × Value × Unit) (L4_0 v48 v46 s17 K J31) ((.int .i64 0), (.int .i64 0), ()) w49))
 (J31 (s17.1.1, ()) w37))
 (J4_5 v26 v0 s17 K K19))
 (Ca Try.prog 11 #[] w21 fun v171 w172 =>
 retD s17.2 w172 fun w173 =>
 K v171 w173)

def J4_7 (v0 : Value) (K : Kont) (a0 : Value) (s2 : Value × Unit) (w3 : World) : Prop :=
 ∀ _ : Nat → Value,
 ifB s2.1
 (rv Try.prog (bin .neq 23 true v0 (.pointer none)) w3 fun v11 w12 =>
 ifB v11
 (Ca Try.prog 11 #[] w12 fun v13 w14 =>
 K v13 w14)
 (K (.bool false) w12))
 (rn Try.prog (builtin .len #[38] 3 #[false] #[a0]) w3 fun v15 w16 =>
 LoopW (S := (Value × Value × Value × Unit) × List Nat) (L4_6 v15 a0 v0 K) (((.bool false), (.int .i64 0), (.int .i64 0), ()), []) w16)

/-- broadside/broadsidelaw09.LedgerZero -/
def F4 (a0 : Value) (w : World) (K : Kont) : Prop :=
 Ca Try.prog 8 #[] w fun v0 w1 =>
 JoinW (S := Value × Unit) (fun J4 =>
 rv Try.prog (bin .eql 23 true v0 (.pointer none)) w1 fun v5 w6 =>
 ifB v5
 (J4 ((.bool true), ()) w6)
 (rn Try.prog (builtin .len #[38] 3 #[false] #[a0]) w6 fun v7 w8 =>
 rv Try.prog (bin .gtr 3 true v7 (.int .i64 250)) w8 fun v9 w10 =>
 J4 (v9, ()) w10))
 (J4_7 v0 K a0)
theorem F4_eq (a0 : Value) (w : World) (K : Kont) : vcFnJ Try.prog Try.f4 [a0] w K = F4 a0 w K := by kernel_rfl
theorem F4_ok : okF Try.prog Try.f4 1 = true := by kernel_rfl
theorem ca4{a0 : Value} {w : World} {K : Kont} (h : F4 a0 w K) : Ca Try.prog 4 #[a0] w K :=
  ca_of_vcJ Try.noNum Try.func4 F4_ok (by rw [F4_eq]; exact h)


def J5_0 (v2 : Value) (KJ122 : Code → World → Prop) (KN121 : World → Prop) (s127 : Value × Unit) (w128 : World) : Prop :=
 ∀ _ : Nat → Value,
 ifB s127.1
 (ru Try.prog (Instr.storeAt 4 v2 (.bool false)) w128 fun w163 =>
 KJ122 .ret w163)
 (KN121 w128)

def L5_1 (v178 : Value) (v174 : Value) (v2 : Value) (mk164 : List Nat) (K : Kont) (v176 : Value) (s180 : Value × Unit) (w181 : World) (K182 : Value × Unit → World → Prop) : Prop :=
 ∀ _ : Nat → Value,
 rv Try.prog (bin .lss 3 false s180.1 v178) w181 fun v183 w184 =>
 ifB v183
 (rv Try.prog (Instr.indexAt 41 v174 s180.1) w184 fun v185 w186 =>
 rv Try.prog (Instr.fieldAt 45 v185 1) w186 fun v187 w188 =>
 rv Try.prog (Instr.loadAt 2 v187) w188 fun v189 w190 =>
 rv Try.prog (bin .neq 2 true v189 (.int .i64 0)) w190 fun v191 w192 =>
 ifB v191
 (ru Try.prog (Instr.storeAt 4 v2 (.bool false)) w192 fun w193 =>
 retD (mk164 ++ []) w193 fun w194 =>
 rdW Try.prog (Instr.loadAt 4 v2) w194 fun v195 =>
 K v195 w194)
 (rv Try.prog (bin .add 3 true s180.1 (.int .i64 1)) w192 fun v196 w197 =>
 K182 (v196, ()) w197))
 (rv Try.prog (bin .eql 25 true v176 (.int .i64 0)) w184 fun v198 w199 =>
 ifB v198
 (Ca Try.prog 11 #[] w199 fun v200 w201 =>
 ru Try.prog (Instr.storeAt 4 v2 v200) w201 fun w202 =>
 retD (mk164 ++ []) w202 fun w203 =>
 rdW Try.prog (Instr.loadAt 4 v2) w203 fun v204 =>
 K v204 w203)
 (ru Try.prog (Instr.storeAt 4 v2 (.bool false)) w199 fun w205 =>
 retD (mk164 ++ []) w205 fun w206 =>
 rdW Try.prog (Instr.loadAt 4 v2) w206 fun v207 =>
 K v207 w206))

def L5_2 (v223 : Value) (v219 : Value) (v2 : Value) (mk164 : List Nat) (K : Kont) (v221 : Value) (s225 : Value × Unit) (w226 : World) (K227 : Value × Unit → World → Prop) : Prop :=
 ∀ _ : Nat → Value,
 rv Try.prog (bin .lss 3 false s225.1 v223) w226 fun v228 w229 =>
 ifB v228
 (rv Try.prog (Instr.indexAt 41 v219 s225.1) w229 fun v230 w231 =>
 rv Try.prog (Instr.fieldAt 45 v230 1) w231 fun v232 w233 =>
 rv Try.prog (Instr.loadAt 2 v232) w233 fun v234 w235 =>
 rv Try.prog (bin .neq 2 true v234 (.int .i64 0)) w235 fun v236 w237 =>
 ifB v236
 (ru Try.prog (Instr.storeAt 4 v2 (.bool false)) w237 fun w238 =>
 retD (mk164 ++ []) w238 fun w239 =>
 rdW Try.prog (Instr.loadAt 4 v2) w239 fun v240 =>
 K v240 w239)
 (rv Try.prog (bin .add 3 true s225.1 (.int .i64 1)) w237 fun v241 w242 =>
 K227 (v241, ()) w242))
 (rv Try.prog (bin .eql 25 true v221 (.int .i64 0)) w229 fun v243 w244 =>
 ifB v243
 (Ca Try.prog 11 #[] w244 fun v245 w246 =>
 ru Try.prog (Instr.storeAt 4 v2 v245) w246 fun w247 =>
 retD (mk164 ++ []) w247 fun w248 =>
 rdW Try.prog (Instr.loadAt 4 v2) w248 fun v249 =>
 K v249 w248)
 (ru Try.prog (Instr.storeAt 4 v2 (.bool false)) w244 fun w250 =>
 retD (mk164 ++ []) w250 fun w251 =>
 rdW Try.prog (Instr.loadAt 4 v2) w251 fun v252 =>
 K v252 w251))

def R5_3 (v103 : Value) (v61 : Value) (v74 : Value) (v87 : Value) (v6 : Value) (v0 : Value) (v48 : Value) (v2 : Value) (l118 : Nat) (x119 : List Value) (w120 : World) (KN121 : World → Prop) (KJ122 : Code → World → Prop) : Prop :=
 rv Try.prog (Instr.alloc 34 true (.tuple #[])) w120 fun v123 w124 =>
 ru Try.prog (Instr.storeAt 34 v123 (x119.getD 0 undef)) w124 fun w125 =>
 beginK l118 w125 fun w126 =>
 JoinW (S := Value × Unit) (fun J129 =>
 rdW Try.prog (Instr.loadAt 52 v103) w126.drew fun v130 =>
 rdW Try.prog (Instr.loadAt 41 v61) w126.drew fun v131 =>
 rdP Try.prog (Instr.fieldAt 34 v123 0) fun v132 =>
 rdW Try.prog (Instr.loadAt 22 v132) w126.drew fun v133 =>
 rdW Try.prog (Instr.loadAt 52 v103) w126.drew fun v134 =>
 rdW Try.prog (Instr.loadAt 41 v74) w126.drew fun v135 =>
 rdP Try.prog (Instr.fieldAt 34 v123 0) fun v136 =>
 rdW Try.prog (Instr.loadAt 22 v136) w126.drew fun v137 =>
 rdW Try.prog (Instr.loadAt 52 v103) w126.drew fun v138 =>
 rdW Try.prog (Instr.loadAt 41 v87) w126.drew fun v139 =>
 rdP Try.prog (Instr.fieldAt 34 v123 0) fun v140 =>
 rdW Try.prog (Instr.loadAt 22 v140) w126.drew fun v141 =>
 callV Try.prog v130 [v131, v133] w126.drew fun v142 w143 =>
 Sem.run Try.prog (Instr.loadAt 22 v140) w143 = .ok v141 w143 ∧ Sem.run Try.prog (Instr.loadAt 41 v87) w143 = .ok v139 w143 ∧ Sem.run Try.prog (Instr.loadAt 52 v103) w143 = .ok v138 w143 ∧ Sem.run Try.prog (Instr.loadAt 22 v136) w143 = .ok v137 w143 ∧ Sem.run Try.prog (Instr.loadAt 41 v74) w143 = .ok v135 w143 ∧ Sem.run Try.prog (Instr.loadAt 52 v103) w143 = .ok v134 w143 ∧ 
 (callV Try.prog v134 [v135, v137] w143 fun v144 w145 =>
 Sem.run Try.prog (Instr.loadAt 22 v140) w145 = .ok v141 w145 ∧ Sem.run Try.prog (Instr.loadAt 41 v87) w145 = .ok v139 w145 ∧ Sem.run Try.prog (Instr.loadAt 52 v103) w145 = .ok v138 w145 ∧ 
 (rdP Try.prog (bin .add 2 false v142 v144) fun v146 =>
 callV Try.prog v138 [v139, v141] w145 fun v147 w148 =>
 rdP Try.prog (bin .neq 2 false v146 v147) fun v149 =>
 ifB v149
 (J129 ((.bool true), ()) w148)
 (rdW Try.prog (Instr.loadAt 23 v6) w148 fun v150 =>
 rdW Try.prog (Instr.loadAt 22 v0) w148 fun v151 =>
 rdP Try.prog (Instr.fieldAt 34 v123 0) fun v152 =>
 rdW Try.prog (Instr.loadAt 22 v152) w148 fun v153 =>
 rdW Try.prog (Instr.loadAt 23 v48) w148 fun v154 =>
 rdW Try.prog (Instr.loadAt 22 v0) w148 fun v155 =>
 rdP Try.prog (Instr.fieldAt 34 v123 0) fun v156 =>
 rdW Try.prog (Instr.loadAt 22 v156) w148 fun v157 =>
 Ca Try.prog 12 #[v150, v151, v153] w148 fun v158 w159 =>
 Sem.run Try.prog (Instr.loadAt 22 v156) w159 = .ok v157 w159 ∧ Sem.run Try.prog (Instr.loadAt 22 v0) w159 = .ok v155 w159 ∧ Sem.run Try.prog (Instr.loadAt 23 v48) w159 = .ok v154 w159 ∧ 
 (Ca Try.prog 12 #[v154, v155, v157] w159 fun v160 w161 =>
 rdP Try.prog (bin .neq 31 false v158 v160) fun v162 =>
 J129 (v162, ()) w161)))))
 (J5_0 v2 KJ122 KN121)

def A5_4 (v6 : Value) (v0 : Value) (a3 : Value) (v2 : Value) (K : Kont) (mk164 : List Nat) (pd165 : Option Code) (w166 : World) : Prop :=
 afterK
 (fun w167 =>
 rv Try.prog (Instr.loadAt 23 v6) w167 fun v168 w169 =>
 rv Try.prog (Instr.loadAt 22 v0) w169 fun v170 w171 =>
 Ca Try.prog 15 #[v168, v170, a3, (.bool false)] w171 fun v172 w173 =>
 rv Try.prog (Instr.extract v172 0) w173 fun v174 w175 =>
 rv Try.prog (Instr.extract v172 1) w175 fun v176 w177 =>
 rn Try.prog (builtin .len #[41] 3 #[false] #[v174]) w177 fun v178 w179 =>
 LoopW (S := Value × Unit) (L5_1 v178 v174 v2 mk164 K v176) ((.int .i64 0), ()) w179)
 (fun w208 =>
 retD (mk164 ++ []) w208 fun w209 =>
 rdW Try.prog (Instr.loadAt 4 v2) w209 fun v210 =>
 K v210 w209)
 (fun i212 w211 =>
 bc (Nat.beq i212 2)
 (rv Try.prog (Instr.loadAt 23 v6) w211 fun v213 w214 =>
 rv Try.prog (Instr.loadAt 22 v0) w214 fun v215 w216 =>
 Ca Try.prog 15 #[v213, v215, a3, (.bool false)] w216 fun v217 w218 =>
 rv Try.prog (Instr.extract v217 0) w218 fun v219 w220 =>
 rv Try.prog (Instr.extract v217 1) w220 fun v221 w222 =>
 rn Try.prog (builtin .len #[41] 3 #[false] #[v219]) w222 fun v223 w224 =>
 LoopW (S := Value × Unit) (L5_2 v223 v219 v2 mk164 K v221) ((.int .i64 0), ()) w224)
 (False)) pd165 w166

def J5_5 (v2 : Value) (K : Kont) (v6 : Value) (v61 : Value) (v74 : Value) (v87 : Value) (v0 : Value) (v48 : Value) (a3 : Value) (s90 : Value × Unit) (w91 : World) : Prop :=
 ∀ _ : Nat → Value,
 ifB s90.1
 (Ca Try.prog 11 #[] w91 fun v99 w100 =>
 ru Try.prog (Instr.storeAt 4 v2 v99) w100 fun w101 =>
 rdW Try.prog (Instr.loadAt 4 v2) w101 fun v102 =>
 K v102 w101)
 (rv Try.prog (Instr.alloc 52 true (.tuple #[])) w91 fun v103 w104 =>
 ru Try.prog (Instr.storeAt 52 v103 (.func (.func 19) #[] #[])) w104 fun w105 =>
 rv Try.prog (Instr.loadAt 23 v6) w105 fun v106 w107 =>
 Ca Try.prog 20 #[v106] w107 fun v108 w109 =>
 rv Try.prog (bin .eql 54 true v108 .nilFunc) w109 fun v110 w111 =>
 ifB v110
 (ru Try.prog (Instr.storeAt 4 v2 (.bool false)) w111 fun w112 =>
 rdW Try.prog (Instr.loadAt 4 v2) w112 fun v113 =>
 K v113 w112)
 (rv Try.prog (Instr.loadAt 23 v6) w111 fun v114 w115 =>
 Ca Try.prog 20 #[v114] w115 fun v116 w117 =>
 RFW Try.prog none v116 w117 1 (R5_3 v103 v61 v74 v87 v6 v0 v48 v2) (A5_4 v6 v0 a3 v2 K)))

def L5_6 (v30 : Value) (v6 : Value) (a0 : Value) (v0 : Value) (a2 : Value) (a3 : Value) (v2 : Value) (K : Kont) (s32 : Value × Unit) (w33 : World) (K34 : Value × Unit → World → Prop) : Prop :=
 ∀ _ : Nat → Value,
 rv Try.prog (bin .lss 3 false s32.1 v30) w33 fun v35 w36 =>
 ifB v35
 (rdW Try.prog (Instr.loadAt 23 v6) w36.drew fun v37 =>
 rdP Try.prog (Instr.indexAt 38 a0 s32.1) fun v38 =>
 rdW Try.prog (Instr.loadAt 40 v38) w36.drew fun v39 =>
 Ca Try.prog 16 #[v37, v39] w36.drew fun v40 w41 =>
 rv Try.prog (bin .add 3 true s32.1 (.int .i64 1)) w41 fun v42 w43 =>
 K34 (v42, ()) w43)
 (rv Try.prog (Instr.loadAt 23 v6) w36 fun v44 w45 =>
 Ca Try.prog 14 #[v44] w45 fun v46 w47 =>
 rv Try.prog (Instr.alloc 23 true (.tuple #[])) w47 fun v48 w49 =>
 ru Try.prog (Instr.storeAt 23 v48 v46) w49 fun w50 =>
 rv Try.prog (Instr.loadAt 23 v6) w50 fun v51 w52 =>
 rv Try.prog (Instr.loadAt 22 v0) w52 fun v53 w54 =>
 Ca Try.prog 15 #[v51, v53, a2, (.bool false)] w54 fun v55 w56 =>
 rv Try.prog (Instr.extract v55 0) w56 fun v57 w58 =>
 rv Try.prog (Instr.extract v55 1) w58 fun v59 w60 =>
 rv Try.prog (Instr.alloc 41 true (.tuple #[])) w60 fun v61 w62 =>
 ru Try.prog (Instr.storeAt 41 v61 v57) w62 fun w63 =>
 rv Try.prog (Instr.loadAt 23 v6) w63 fun v64 w65 =>
 rv Try.prog (Instr.loadAt 22 v0) w65 fun v66 w67 =>
 Ca Try.prog 15 #[v64, v66, a3, (.bool false)] w67 fun v68 w69 =>
 rv Try.prog (Instr.extract v68 0) w69 fun v70 w71 =>
 rv Try.prog (Instr.extract v68 1) w71 fun v72 w73 =>
 rv Try.prog (Instr.alloc 41 true (.tuple #[])) w73 fun v74 w75 =>
 ru Try.prog (Instr.storeAt 41 v74 v70) w75 fun w76 =>
 rv Try.prog (Instr.loadAt 23 v48) w76 fun v77 w78 =>
 rv Try.prog (Instr.loadAt 22 v0) w78 fun v79 w80 =>
 Ca Try.prog 15 #[v77, v79, a3, (.bool false)] w80 fun v81 w82 =>
 rv Try.prog (Instr.extract v81 0) w82 fun v83 w84 =>
 rv Try.prog (Instr.extract v81 1) w84 fun v85 w86 =>
 rv Try.prog (Instr.alloc 41 true (.tuple #[])) w86 fun v87 w88 =>
 ru Try.prog (Instr.storeAt 41 v87 v83) w88 fun w89 =>
 JoinW (S := Value × Unit) (fun J92 =>
 rv Try.prog (bin .neq 25 true v59 (.int .i64 0)) w89 fun v93 w94 =>
 ifB v93
 (J92 ((.bool true), ()) w94)
 (rv Try.prog (bin .neq 25 true v72 (.int .i64 0)) w94 fun v95 w96 =>
 ifB v95
 (J92 ((.bool true), ()) w96)
 (rv Try.prog (bin .neq 25 true v85 (.int .i64 0)) w96 fun v97 w98 =>
 J92 (v97, ()) w98)))
 (J5_5 v2 K v6 v61 v74 v87 v0 v48 a3))

def J5_7 (v6 : Value) (v2 : Value) (K : Kont) (a0 : Value) (v0 : Value) (a2 : Value) (a3 : Value) (s9 : Value × Unit) (w10 : World) : Prop :=
 ∀ _ : Nat → Value,
 ifB s9.1
 (rv Try.prog (Instr.loadAt 23 v6) w10 fun v20 w21 =>
 rv Try.prog (bin .neq 23 true v20 (.pointer none)) w21 fun v22 w23 =>
 ifB v22
 (Ca Try.prog 11 #[] w23 fun v24 w25 =>
 ru Try.prog (Instr.storeAt 4 v2 v24) w25 fun w26 =>
 rdW Try.prog (Instr.loadAt 4 v2) w26 fun v27 =>
 K v27 w26)
 (ru Try.prog (Instr.storeAt 4 v2 (.bool false)) w23 fun w28 =>
 rdW Try.prog (Instr.loadAt 4 v2) w28 fun v29 =>
 K v29 w28))
 (rn Try.prog (builtin .len #[38] 3 #[false] #[a0]) w10 fun v30 w31 =>
 LoopW (S := Value × Unit) (L5_6 v30 v6 a0 v0 a2 a3 v2 K) ((.int .i64 0), ()) w31)

/-- broadside/broadsidelaw09.LedgerPath -/
def F5 (a0 a1 a2 a3 : Value) (w : World) (K : Kont) : Prop :=
 rv Try.prog (Instr.box 22 a1) w fun v0 w1 =>
 rv Try.prog (Instr.alloc 4 true (.tuple #[])) w1 fun v2 w3 =>
 Ca Try.prog 8 #[] w3 fun v4 w5 =>
 rv Try.prog (Instr.alloc 23 true (.tuple #[])) w5 fun v6 w7 =>
 ru Try.prog (Instr.storeAt 23 v6 v4) w7 fun w8 =>
 JoinW (S := Value × Unit) (fun J11 =>
 rv Try.prog (Instr.loadAt 23 v6) w8 fun v12 w13 =>
 rv Try.prog (bin .eql 23 true v12 (.pointer none)) w13 fun v14 w15 =>
 ifB v14
 (J11 ((.bool true), ()) w15)
 (rn Try.prog (builtin .len #[38] 3 #[false] #[a0]) w15 fun v16 w17 =>
 rv Try.prog (bin .gtr 3 true v16 (.int .i64 150)) w17 fun v18 w19 =>
 J11 (v18, ()) w19))
 (J5_7 v6 v2 K a0 v0 a2 a3)
theorem F5_eq (a0 a1 a2 a3 : Value) (w : World) (K : Kont) : vcFnJ Try.prog Try.f5 [a0, a1, a2, a3] w K = F5 a0 a1 a2 a3 w K := by kernel_rfl
theorem F5_ok : okF Try.prog Try.f5 4 = true := by kernel_rfl
theorem ca5{a0 a1 a2 a3 : Value} {w : World} {K : Kont} (h : F5 a0 a1 a2 a3 w K) : Ca Try.prog 5 #[a0, a1, a2, a3] w K :=
  ca_of_vcJ Try.noNum Try.func5 F5_ok (by rw [F5_eq]; exact h)


def L19_0 (v0 : Value) (a0 : Value) (a1 : Value) (K : Kont) (s2 : Value × Value × Unit) (w3 : World) (K4 : Value × Value × Unit → World → Prop) : Prop :=
 ∀ _ : Nat → Value,
 rv Try.prog (bin .lss 3 false s2.2.1 v0) w3 fun v5 w6 =>
 ifB v5
 (rv Try.prog (Instr.indexAt 41 a0 s2.2.1) w6 fun v7 w8 =>
 rv Try.prog (Instr.fieldAt 45 v7 0) w8 fun v9 w10 =>
 rv Try.prog (Instr.loadAt 22 v9) w10 fun v11 w12 =>
 rv Try.prog (bin .eql 22 false v11 a1) w12 fun v13 w14 =>
 ifB v13
 (rv Try.prog (Instr.indexAt 41 a0 s2.2.1) w14 fun v15 w16 =>
 rv Try.prog (Instr.fieldAt 45 v15 1) w16 fun v17 w18 =>
 rv Try.prog (Instr.loadAt 2 v17) w18 fun v19 w20 =>
 K v19 w20)
 (rv Try.prog (bin .add 3 true s2.2.1 (.int .i64 1)) w14 fun v21 w22 =>
 K4 (s2.1, v21, ()) w22))
 (K (.int .i64 0) w6)

/-- broadside/broadsidelaw09.LedgerPath$1 -/
def F19 (a0 a1 : Value) (w : World) (K : Kont) : Prop :=
 rn Try.prog (builtin .len #[41] 3 #[false] #[a0]) w fun v0 w1 =>
 LoopW (S := Value × Value × Unit) (L19_0 v0 a0 a1 K) ((.int .i64 0), (.int .i64 0), ()) w1
theorem F19_eq (a0 a1 : Value) (w : World) (K : Kont) : vcFnJ Try.prog Try.f19 [a0, a1] w K = F19 a0 a1 w K := by kernel_rfl
theorem F19_ok : okF Try.prog Try.f19 2 = true := by kernel_rfl
theorem ca19{a0 a1 : Value} {w : World} {K : Kont} (h : F19 a0 a1 w K) : Ca Try.prog 19 #[a0, a1] w K :=
  ca_of_vcJ Try.noNum Try.func19 F19_ok (by rw [F19_eq]; exact h)


def J6_0 (K : Kont) (s21 : Value × Value × Value × Unit) (K23 : Value × Value × Value × Unit → World → Prop) (s33 : Value × Value × Value × Unit) (s217 : Value × Unit) (w218 : World) : Prop :=
 ∀ _ : Nat → Value,
 ifB s217.1
 (K (.bool false) w218)
 (rv Try.prog (bin .add 3 true s21.2.2.1 (.int .i64 1)) w218 fun v234 w235 =>
 K23 (s33.2.1, s33.1, v234, ()) w235)

def J6_1 (v4 : Value) (v30 : Value) (K : Kont) (s21 : Value × Value × Value × Unit) (K23 : Value × Value × Value × Unit → World → Prop) (s33 : Value × Value × Value × Unit) (w34 : World) : Prop :=
 ∀ _ : Nat → Value,
 JoinW (S := Value × Unit) (fun J219 =>
 rv Try.prog (Op.unary .not s33.2.2.1) w34 fun v220 w221 =>
 ifB v220
 (J219 ((.bool true), ()) w221)
 (Ca Try.prog 31 #[s33.1, v4] w221 fun v222 w223 =>
 rv Try.prog (Op.unary .not v222) w223 fun v224 w225 =>
 ifB v224
 (J219 ((.bool true), ()) w225)
 (rv Try.prog (Instr.fieldAt 40 v30 3) w225 fun v226 w227 =>
 rv Try.prog (Instr.loadAt 22 v226) w227 fun v228 w229 =>
 Ca Try.prog 32 #[s33.1, v4, v228] w229 fun v230 w231 =>
 rv Try.prog (Op.unary .not v230) w231 fun v232 w233 =>
 J219 (v232, ()) w233)))
 (J6_0 K s21 K23 s33)

def L6_2 (v19 : Value) (a0 : Value) (v4 : Value) (K : Kont) (s21 : Value × Value × Value × Unit) (w22 : World) (K23 : Value × Value × Value × Unit → World → Prop) : Prop :=
 ∀ _ : Nat → Value,
 rv Try.prog (bin .lss 3 false s21.2.2.1 v19) w22 fun v24 w25 =>
 ifB v24
 (rv Try.prog (Instr.indexAt 38 a0 s21.2.2.1) w25 fun v26 w27 =>
 rv Try.prog (Instr.loadAt 40 v26) w27 fun v28 w29 =>
 rv Try.prog (Instr.alloc 40 true (.tuple #[])) w29 fun v30 w31 =>
 ru Try.prog (Instr.storeAt 40 v30 v28) w31 fun w32 =>
 JoinW (S := Value × Value × Value × Unit) (fun J35 =>
 rv Try.prog (Instr.fieldAt 40 v30 0) w32 fun v36 w37 =>
 rv Try.prog (Instr.loadAt 3 v36) w37 fun v38 w39 =>
 rv Try.prog (bin .eql 3 true v38 (.int .i64 1)) w39 fun v40 w41 =>
 ifB v40
 (rdP Try.prog (Instr.fieldAt 40 v30 1) fun v42 =>
 rdW Try.prog (Instr.loadAt 22 v42) w41.drew fun v43 =>
 rdP Try.prog (Instr.fieldAt 40 v30 4) fun v44 =>
 rdW Try.prog (Instr.loadAt 2 v44) w41.drew fun v45 =>
 rdP Try.prog (Instr.fieldAt 40 v30 1) fun v46 =>
 rdW Try.prog (Instr.loadAt 22 v46) w41.drew fun v47 =>
 rdP Try.prog (Instr.fieldAt 40 v30 4) fun v48 =>
 rdW Try.prog (Instr.loadAt 2 v48) w41.drew fun v49 =>
 Ca Try.prog 9 #[s21.2.1, v43, v45] w41.drew fun v50 w51 =>
 Sem.run Try.prog (Instr.loadAt 2 v48) w51 = .ok v49 w51 ∧ Sem.run Try.prog (Instr.loadAt 22 v46) w51 = .ok v47 w51 ∧ 
 (Ca Try.prog 21 #[v4, v47, v49] w51 fun v52 w53 =>
 rdP Try.prog (bin .eql 25 false v50 v52) fun v54 =>
 J35 (s21.2.1, s21.1, v54, ()) w53))
 (rv Try.prog (bin .eql 3 true v38 (.int .i64 2)) w41 fun v55 w56 =>
 ifB v55
 (rdP Try.prog (Instr.fieldAt 40 v30 1) fun v57 =>
 rdW Try.prog (Instr.loadAt 22 v57) w56.drew fun v58 =>
 rdP Try.prog (Instr.fieldAt 40 v30 4) fun v59 =>
 rdW Try.prog (Instr.loadAt 2 v59) w56.drew fun v60 =>
 rdP Try.prog (Instr.fieldAt 40 v30 1) fun v61 =>
 rdW Try.prog (Instr.loadAt 22 v61) w56.drew fun v62 =>
 rdP Try.prog (Instr.fieldAt 40 v30 4) fun v63 =>
 rdW Try.prog (Instr.loadAt 2 v63) w56.drew fun v64 =>
 Ca Try.prog 22 #[s21.2.1, v58, v60] w56.drew fun v65 w66 =>
 Sem.run Try.prog (Instr.loadAt 2 v63) w66 = .ok v64 w66 ∧ Sem.run Try.prog (Instr.loadAt 22 v61) w66 = .ok v62 w66 ∧ 
 (Ca Try.prog 23 #[v4, v62, v64] w66 fun v67 w68 =>
 rdP Try.prog (bin .eql 25 false v65 v67) fun v69 =>
 J35 (s21.2.1, s21.1, v69, ()) w68))
 (rv Try.prog (bin .eql 3 true v38 (.int .i64 3)) w56 fun v70 w71 =>
 ifB v70
 (rv Try.prog (Instr.fieldAt 40 v30 1) w71 fun v72 w73 =>
 rv Try.prog (Instr.loadAt 22 v72) w73 fun v74 w75 =>
 Ca Try.prog 13 #[s21.2.1, v74] w75 fun v76 w77 =>
 rv Try.prog (Instr.extract v76 0) w77 fun v78 w79 =>
 rv Try.prog (Instr.extract v76 1) w79 fun v80 w81 =>
 rv Try.prog (Instr.alloc 34 true (.tuple #[])) w81 fun v82 w83 =>
 ru Try.prog (Instr.storeAt 34 v82 v78) w83 fun w84 =>
 rv Try.prog (Instr.fieldAt 40 v30 1) w84 fun v85 w86 =>
 rv Try.prog (Instr.loadAt 22 v85) w86 fun v87 w88 =>
 Ca Try.prog 24 #[v4, v87] w88 fun v89 w90 =>
 rv Try.prog (Instr.extract v89 0) w90 fun v91 w92 =>
 rv Try.prog (Instr.extract v89 1) w92 fun v93 w94 =>
 rv Try.prog (Instr.alloc 34 true (.tuple #[])) w94 fun v95 w96 =>
 ru Try.prog (Instr.storeAt 34 v95 v91) w96 fun w97 =>
 rv Try.prog (Instr.loadAt 34 v82) w97 fun v98 w99 =>
 rv Try.prog (Instr.loadAt 34 v95) w99 fun v100 w101 =>
 rv Try.prog (bin .eql 34 false v98 v100) w101 fun v102 w103 =>
 ifB v102
 (rv Try.prog (bin .eql 25 false v80 v93) w103 fun v104 w105 =>
 J35 (s21.2.1, s21.1, v104, ()) w105)
 (J35 (s21.2.1, s21.1, (.bool false), ()) w103))
 (rv Try.prog (bin .eql 3 true v38 (.int .i64 4)) w71 fun v106 w107 =>
 ifB v106
 (rdP Try.prog (Instr.fieldAt 40 v30 6) fun v108 =>
 rdW Try.prog (Instr.loadAt 34 v108) w107.drew fun v109 =>
 rdP Try.prog (Instr.fieldAt 40 v30 6) fun v110 =>
 rdW Try.prog (Instr.loadAt 34 v110) w107.drew fun v111 =>
 Ca Try.prog 25 #[s21.2.1, v109] w107.drew fun v112 w113 =>
 Sem.run Try.prog (Instr.loadAt 34 v110) w113 = .ok v111 w113 ∧ 
 (Ca Try.prog 26 #[v4, v111] w113 fun v114 w115 =>
 rdP Try.prog (bin .eql 25 false v112 v114) fun v116 =>
 J35 (s21.2.1, s21.1, v116, ()) w115))
 (rv Try.prog (bin .eql 3 true v38 (.int .i64 5)) w107 fun v117 w118 =>
 ifB v117
 (rdP Try.prog (Instr.fieldAt 40 v30 3) fun v119 =>
 rdW Try.prog (Instr.loadAt 22 v119) w118.drew fun v120 =>
 rdP Try.prog (Instr.fieldAt 40 v30 1) fun v121 =>
 rdW Try.prog (Instr.loadAt 22 v121) w118.drew fun v122 =>
 rdP Try.prog (Instr.fieldAt 40 v30 2) fun v123 =>
 rdW Try.prog (Instr.loadAt 22 v123) w118.drew fun v124 =>
 rdP Try.prog (Instr.fieldAt 40 v30 4) fun v125 =>
 rdW Try.prog (Instr.loadAt 2 v125) w118.drew fun v126 =>
 rdP Try.prog (Instr.fieldAt 40 v30 5) fun v127 =>
 rdW Try.prog (Instr.loadAt 2 v127) w118.drew fun v128 =>
 rdP Try.prog (Instr.fieldAt 40 v30 3) fun v129 =>
 rdW Try.prog (Instr.loadAt 22 v129) w118.drew fun v130 =>
 rdP Try.prog (Instr.fieldAt 40 v30 1) fun v131 =>
 rdW Try.prog (Instr.loadAt 22 v131) w118.drew fun v132 =>
 rdP Try.prog (Instr.fieldAt 40 v30 2) fun v133 =>
 rdW Try.prog (Instr.loadAt 22 v133) w118.drew fun v134 =>
 rdP Try.prog (Instr.fieldAt 40 v30 4) fun v135 =>
 rdW Try.prog (Instr.loadAt 2 v135) w118.drew fun v136 =>
 rdP Try.prog (Instr.fieldAt 40 v30 5) fun v137 =>
 rdW Try.prog (Instr.loadAt 2 v137) w118.drew fun v138 =>
 Ca Try.prog 10 #[s21.2.1, v120, v122, v124, v126, v128] w118.drew fun v139 w140 =>
 Sem.run Try.prog (Instr.loadAt 2 v137) w140 = .ok v138 w140 ∧ Sem.run Try.prog (Instr.loadAt 2 v135) w140 = .ok v136 w140 ∧ Sem.run Try.prog (Instr.loadAt 22 v133) w140 = .ok v134 w140 ∧ Sem.run Try.prog (Instr.loadAt 22 v131) w140 = .ok v132 w140 ∧ Sem.run Try.prog (Instr.loadAt 22 v129) w140 = .ok v130 w140 ∧ 
 (Ca Try.prog 27 #[v4, v130, v132, v134, v136, v138] w140 fun v141 w142 =>
 rdP Try.prog (bin .eql 25 false v139 v141) fun v143 =>
 J35 (s21.2.1, s21.1, v143, ()) w142))
 (rv Try.prog (bin .eql 3 true v38 (.int .i64 6)) w118 fun v144 w145 =>
 ifB v144
 (rv Try.prog (Instr.fieldAt 40 v30 3) w145 fun v146 w147 =>
 rv Try.prog (Instr.loadAt 22 v146) w147 fun v148 w149 =>
 rv Try.prog (Instr.fieldAt 40 v30 4) w149 fun v150 w151 =>
 rv Try.prog (Instr.loadAt 2 v150) w151 fun v152 w153 =>
 rv Try.prog (Instr.fieldAt 40 v30 6) w153 fun v154 w155 =>
 rv Try.prog (Instr.fieldAt 34 v154 2) w155 fun v156 w157 =>
 rv Try.prog (Instr.loadAt 4 v156) w157 fun v158 w159 =>
 Ca Try.prog 15 #[s21.2.1, v148, v152, v158] w159 fun v160 w161 =>
 rv Try.prog (Instr.extract v160 0) w161 fun v162 w163 =>
 rv Try.prog (Instr.extract v160 1) w163 fun v164 w165 =>
 rv Try.prog (Instr.fieldAt 40 v30 3) w165 fun v166 w167 =>
 rv Try.prog (Instr.loadAt 22 v166) w167 fun v168 w169 =>
 rv Try.prog (Instr.fieldAt 40 v30 4) w169 fun v170 w171 =>
 rv Try.prog (Instr.loadAt 2 v170) w171 fun v172 w173 =>
 rv Try.prog (Instr.fieldAt 40 v30 6) w173 fun v174 w175 =>
 rv Try.prog (Instr.fieldAt 34 v174 2) w175 fun v176 w177 =>
 rv Try.prog (Instr.loadAt 4 v176) w177 fun v178 w179 =>
 Ca Try.prog 28 #[v4, v168, v172, v178] w179 fun v180 w181 =>
 rv Try.prog (Instr.extract v180 0) w181 fun v182 w183 =>
 rv Try.prog (Instr.extract v180 1) w183 fun v184 w185 =>
 Ca Try.prog 29 #[v162, v182] w185 fun v186 w187 =>
 ifB v186
 (rv Try.prog (bin .eql 25 false v164 v184) w187 fun v188 w189 =>
 J35 (s21.2.1, s21.1, v188, ()) w189)
 (J35 (s21.2.1, s21.1, (.bool false), ()) w187))
 (rv Try.prog (bin .eql 3 true v38 (.int .i64 7)) w145 fun v190 w191 =>
 ifB v190
 (Ca Try.prog 14 #[s21.2.1] w191 fun v192 w193 =>
 Ca Try.prog 9 #[s21.2.1, (.int .u32 9), (.int .i64 9)] w193 fun v194 w195 =>
 rv Try.prog (Instr.fieldAt 40 v30 3) w195 fun v196 w197 =>
 rv Try.prog (Instr.loadAt 22 v196) w197 fun v198 w199 =>
 Ca Try.prog 15 #[s21.2.1, v198, (.int .i64 1), (.bool true)] w199 fun v200 w201 =>
 rv Try.prog (bin .eql 23 true v192 (.pointer none)) w201 fun v202 w203 =>
 ifB v202
 (K (.bool false) w203)
 (J35 (v192, s21.1, (.bool true), ()) w203))
 (rdP Try.prog (Instr.fieldAt 40 v30 3) fun v204 =>
 rdW Try.prog (Instr.loadAt 22 v204) w191.drew fun v205 =>
 rdP Try.prog (Instr.fieldAt 40 v30 1) fun v206 =>
 rdW Try.prog (Instr.loadAt 22 v206) w191.drew fun v207 =>
 rdP Try.prog (Instr.fieldAt 40 v30 3) fun v208 =>
 rdW Try.prog (Instr.loadAt 22 v208) w191.drew fun v209 =>
 rdP Try.prog (Instr.fieldAt 40 v30 1) fun v210 =>
 rdW Try.prog (Instr.loadAt 22 v210) w191.drew fun v211 =>
 Ca Try.prog 12 #[s21.2.1, v205, v207] w191.drew fun v212 w213 =>
 Sem.run Try.prog (Instr.loadAt 22 v210) w213 = .ok v211 w213 ∧ Sem.run Try.prog (Instr.loadAt 22 v208) w213 = .ok v209 w213 ∧ 
 (Ca Try.prog 30 #[v4, v209, v211] w213 fun v214 w215 =>
 rdP Try.prog (bin .eql 31 false v212 v214) fun v216 =>
 J35 (s21.2.1, s21.1, v216, ()) w215)))))))))
 (J6_1 v4 v30 K s21 K23))
 (Ca Try.prog 11 #[] w25 fun v236 w237 =>
 K v236 w237)

def J6_3 (v0 : Value) (K : Kont) (a0 : Value) (v4 : Value) (s6 : Value × Unit) (w7 : World) : Prop :=
 ∀ _ : Nat → Value,
 ifB s6.1
 (rv Try.prog (bin .neq 23 true v0 (.pointer none)) w7 fun v15 w16 =>
 ifB v15
 (Ca Try.prog 11 #[] w16 fun v17 w18 =>
 K v17 w18)
 (K (.bool false) w16))
 (rn Try.prog (builtin .len #[38] 3 #[false] #[a0]) w7 fun v19 w20 =>
 LoopW (S := Value × Value × Value × Unit) (L6_2 v19 a0 v4 K) ((.bool false), v0, (.int .i64 0), ()) w20)

/-- broadside/broadsidelaw09.LedgerPlays -/
def F6 (a0 : Value) (w : World) (K : Kont) : Prop :=
 Ca Try.prog 8 #[] w fun v0 w1 =>
 rv Try.prog (Instr.build 61 #[]) w1 fun v2 w3 =>
 rv Try.prog (Instr.box 61 v2) w3 fun v4 w5 =>
 JoinW (S := Value × Unit) (fun J8 =>
 rv Try.prog (bin .eql 23 true v0 (.pointer none)) w5 fun v9 w10 =>
 ifB v9
 (J8 ((.bool true), ()) w10)
 (rn Try.prog (builtin .len #[38] 3 #[false] #[a0]) w10 fun v11 w12 =>
 rv Try.prog (bin .gtr 3 true v11 (.int .i64 250)) w12 fun v13 w14 =>
 J8 (v13, ()) w14))
 (J6_3 v0 K a0 v4)
theorem F6_eq (a0 : Value) (w : World) (K : Kont) : vcFnJ Try.prog Try.f6 [a0] w K = F6 a0 w K := by kernel_rfl
theorem F6_ok : okF Try.prog Try.f6 1 = true := by kernel_rfl
theorem ca6{a0 : Value} {w : World} {K : Kont} (h : F6 a0 w K) : Ca Try.prog 6 #[a0] w K :=
  ca_of_vcJ Try.noNum Try.func6 F6_ok (by rw [F6_eq]; exact h)


def L7_0 (v92 : Value) (a2 : Value) (v23 : Value) (v29 : Value) (K : Kont) (s94 : Value × Value × Unit) (w95 : World) (K96 : Value × Value × Unit → World → Prop) : Prop :=
 ∀ _ : Nat → Value,
 rv Try.prog (bin .lss 3 false s94.2.1 v92) w95 fun v97 w98 =>
 ifB v97
 (rv Try.prog (Instr.indexAt 59 a2 s94.2.1) w98 fun v99 w100 =>
 rv Try.prog (Instr.fieldAt 31 v99 0) w100 fun v101 w102 =>
 rv Try.prog (Instr.loadAt 22 v101) w102 fun v103 w104 =>
 Ca Try.prog 32 #[v23, v29, v103] w104 fun v105 w106 =>
 rv Try.prog (Op.unary .not v105) w106 fun v107 w108 =>
 ifB v107
 (K (.bool false) w108)
 (rv Try.prog (bin .add 3 true s94.2.1 (.int .i64 1)) w108 fun v109 w110 =>
 K96 (s94.1, v109, ()) w110))
 (Ca Try.prog 31 #[v23, v29] w98 fun v111 w112 =>
 ifB v111
 (Ca Try.prog 11 #[] w112 fun v113 w114 =>
 K v113 w114)
 (K (.bool false) w112))

def L7_1 (v66 : Value) (v19 : Value) (v23 : Value) (K : Kont) (a2 : Value) (v29 : Value) (s68 : Value × Unit) (w69 : World) (K70 : Value × Unit → World → Prop) : Prop :=
 ∀ _ : Nat → Value,
 rv Try.prog (bin .lss 3 false s68.1 v66) w69 fun v71 w72 =>
 ifB v71
 (rv Try.prog (Instr.indexAt 59 v19 s68.1) w72 fun v73 w74 =>
 rv Try.prog (Instr.fieldAt 31 v73 2) w74 fun v75 w76 =>
 rv Try.prog (Instr.loadAt 2 v75) w76 fun v77 w78 =>
 rv Try.prog (bin .add 2 true v77 (.int .i64 1)) w78 fun v79 w80 =>
 rv Try.prog (Instr.indexAt 59 v19 s68.1) w80 fun v81 w82 =>
 rv Try.prog (Instr.fieldAt 31 v81 2) w82 fun v83 w84 =>
 ru Try.prog (Instr.storeAt 2 v83 v79) w84 fun w85 =>
 rv Try.prog (bin .add 3 true s68.1 (.int .i64 1)) w85 fun v86 w87 =>
 K70 (v86, ()) w87)
 (rv Try.prog (bin .eql 23 true v23 (.pointer none)) w72 fun v88 w89 =>
 ifB v88
 (Ca Try.prog 11 #[] w89 fun v90 w91 =>
 K v90 w91)
 (rn Try.prog (builtin .len #[59] 3 #[false] #[a2]) w89 fun v92 w93 =>
 LoopW (S := Value × Value × Unit) (L7_0 v92 a2 v23 v29 K) ((.bool false), (.int .i64 0), ()) w93))

def L7_2 (v44 : Value) (v15 : Value) (v19 : Value) (v23 : Value) (K : Kont) (a2 : Value) (v29 : Value) (s46 : Value × Unit) (w47 : World) (K48 : Value × Unit → World → Prop) : Prop :=
 ∀ _ : Nat → Value,
 rv Try.prog (bin .lss 3 false s46.1 v44) w47 fun v49 w50 =>
 ifB v49
 (rv Try.prog (Instr.indexAt 58 v15 s46.1) w50 fun v51 w52 =>
 rv Try.prog (Instr.fieldAt 34 v51 1) w52 fun v53 w54 =>
 rv Try.prog (Instr.loadAt 2 v53) w54 fun v55 w56 =>
 rv Try.prog (bin .add 2 true v55 (.int .i64 1)) w56 fun v57 w58 =>
 rv Try.prog (Instr.indexAt 58 v15 s46.1) w58 fun v59 w60 =>
 rv Try.prog (Instr.fieldAt 34 v59 1) w60 fun v61 w62 =>
 ru Try.prog (Instr.storeAt 2 v61 v57) w62 fun w63 =>
 rv Try.prog (bin .add 3 true s46.1 (.int .i64 1)) w63 fun v64 w65 =>
 K48 (v64, ()) w65)
 (rn Try.prog (builtin .len #[59] 3 #[false] #[v19]) w50 fun v66 w67 =>
 LoopW (S := Value × Unit) (L7_1 v66 v19 v23 K a2 v29) ((.int .i64 0), ()) w67)

def J7_3 (K : Kont) (v15 : Value) (v19 : Value) (v23 : Value) (a2 : Value) (v29 : Value) (s33 : Value × Unit) (w34 : World) : Prop :=
 ∀ _ : Nat → Value,
 ifB s33.1
 (K (.bool false) w34)
 (rn Try.prog (builtin .len #[58] 3 #[false] #[v15]) w34 fun v44 w45 =>
 LoopW (S := Value × Unit) (L7_2 v44 v15 v19 v23 K a2 v29) ((.int .i64 0), ()) w45)

def J7_4 (K : Kont) (a1 : Value) (a2 : Value) (a0 : Value) (s0 : Value × Unit) (w1 : World) : Prop :=
 ∀ _ : Nat → Value,
 ifB s0.1
 (Ca Try.prog 11 #[] w1 fun v11 w12 =>
 K v11 w12)
 (rx Try.prog (xLit 58 0 []) w1 fun v13 w14 =>
 rx Try.prog (xAppend #[58, 58] 58 [v13, a1]) w14 fun v15 w16 =>
 rx Try.prog (xLit 59 0 []) w16 fun v17 w18 =>
 rx Try.prog (xAppend #[59, 59] 59 [v17, a2]) w18 fun v19 w20 =>
 Ca Try.prog 33 #[a0, v15, v19] w20 fun v21 w22 =>
 rv Try.prog (Instr.extract v21 0) w22 fun v23 w24 =>
 rv Try.prog (Instr.extract v21 1) w24 fun v25 w26 =>
 Ca Try.prog 34 #[a0, a1, a2] w26 fun v27 w28 =>
 rv Try.prog (Instr.extract v27 0) w28 fun v29 w30 =>
 rv Try.prog (Instr.extract v27 1) w30 fun v31 w32 =>
 JoinW (S := Value × Unit) (fun J35 =>
 rv Try.prog (bin .neq 25 false v25 v31) w32 fun v36 w37 =>
 ifB v36
 (J35 ((.bool true), ()) w37)
 (rv Try.prog (bin .eql 23 true v23 (.pointer none)) w37 fun v38 w39 =>
 rv Try.prog (bin .eql 57 true v29 (.pointer none)) w39 fun v40 w41 =>
 rv Try.prog (bin .neq 4 false v38 v40) w41 fun v42 w43 =>
 J35 (v42, ()) w43))
 (J7_3 K v15 v19 v23 a2 v29))

/-- broadside/broadsidelaw09.LedgerFrom -/
def F7 (a0 a1 a2 : Value) (w : World) (K : Kont) : Prop :=
 JoinW (S := Value × Unit) (fun J2 =>
 rn Try.prog (builtin .len #[58] 3 #[false] #[a1]) w fun v3 w4 =>
 rv Try.prog (bin .gtr 3 true v3 (.int .i64 100)) w4 fun v5 w6 =>
 ifB v5
 (J2 ((.bool true), ()) w6)
 (rn Try.prog (builtin .len #[59] 3 #[false] #[a2]) w6 fun v7 w8 =>
 rv Try.prog (bin .gtr 3 true v7 (.int .i64 200)) w8 fun v9 w10 =>
 J2 (v9, ()) w10))
 (J7_4 K a1 a2 a0)
theorem F7_eq (a0 a1 a2 : Value) (w : World) (K : Kont) : vcFnJ Try.prog Try.f7 [a0, a1, a2] w K = F7 a0 a1 a2 w K := by kernel_rfl
theorem F7_ok : okF Try.prog Try.f7 3 = true := by kernel_rfl
theorem ca7{a0 a1 a2 : Value} {w : World} {K : Kont} (h : F7 a0 a1 a2 w K) : Ca Try.prog 7 #[a0, a1, a2] w K :=
  ca_of_vcJ Try.noNum Try.func7 F7_ok (by rw [F7_eq]; exact h)


def J11_0 (K : Kont) (v0 : Value) (s2 : Value × Unit) (w3 : World) : Prop :=
 ∀ _ : Nat → Value,
 ifB s2.1
 (K (.bool false) w3)
 (Ca Try.prog 15 #[v0, (.int .u32 5), (.int .i64 12), (.bool false)] w3 fun v19 w20 =>
 rv Try.prog (Instr.extract v19 0) w20 fun v21 w22 =>
 rv Try.prog (Instr.extract v19 1) w22 fun v23 w24 =>
 rv Try.prog (bin .eql 25 true v23 (.int .i64 0)) w24 fun v25 w26 =>
 ifB v25
 (rv Try.prog (Instr.build 45 #[(0, (.int .u32 1)), (1, (.int .i64 6))]) w26 fun v27 w28 =>
 rv Try.prog (Instr.build 45 #[(0, (.int .u32 2)), (1, (.int .i64 (-6)))]) w28 fun v29 w30 =>
 rx Try.prog (xLit 41 2 [(0, v27), (1, v29)]) w30 fun v31 w32 =>
 Ca Try.prog 29 #[v21, v31] w32 fun v33 w34 =>
 ifB v33
 (Ca Try.prog 12 #[v0, (.int .u32 5), (.int .u32 1)] w34 fun v35 w36 =>
 rv Try.prog (Instr.build 31 #[(0, (.int .u32 5)), (1, (.int .u32 1)), (2, (.int .i64 3)), (3, (.int .i64 36))]) w36 fun v37 w38 =>
 rv Try.prog (bin .eql 31 false v35 v37) w38 fun v39 w40 =>
 ifB v39
 (Ca Try.prog 18 #[v0] w40 fun v41 w42 =>
 rv Try.prog (bin .eql 2 true v41 (.int .i64 200)) w42 fun v43 w44 =>
 K v43 w44)
 (K (.bool false) w40))
 (K (.bool false) w34))
 (K (.bool false) w26))

/-- broadside/broadsidelaw09.known -/
def F11 (w : World) (K : Kont) : Prop :=
 Ca Try.prog 8 #[] w fun v0 w1 =>
 JoinW (S := Value × Unit) (fun J4 =>
 rv Try.prog (bin .eql 23 true v0 (.pointer none)) w1 fun v5 w6 =>
 ifB v5
 (J4 ((.bool true), ()) w6)
 (Ca Try.prog 9 #[v0, (.int .u32 1), (.int .i64 100)] w6 fun v7 w8 =>
 rv Try.prog (bin .neq 25 true v7 (.int .i64 0)) w8 fun v9 w10 =>
 ifB v9
 (J4 ((.bool true), ()) w10)
 (Ca Try.prog 9 #[v0, (.int .u32 2), (.int .i64 100)] w10 fun v11 w12 =>
 rv Try.prog (bin .neq 25 true v11 (.int .i64 0)) w12 fun v13 w14 =>
 ifB v13
 (J4 ((.bool true), ()) w14)
 (Ca Try.prog 10 #[v0, (.int .u32 5), (.int .u32 1), (.int .u32 2), (.int .i64 10), (.int .i64 3)] w14 fun v15 w16 =>
 rv Try.prog (bin .neq 25 true v15 (.int .i64 0)) w16 fun v17 w18 =>
 J4 (v17, ()) w18))))
 (J11_0 K v0)
theorem F11_eq (w : World) (K : Kont) : vcFnJ Try.prog Try.f11 [] w K = F11  w K := by kernel_rfl
theorem F11_ok : okF Try.prog Try.f11 0 = true := by kernel_rfl
theorem ca11 {w : World} {K : Kont} (h : F11  w K) : Ca Try.prog 11 #[] w K :=
  ca_of_vcJ Try.noNum Try.func11 F11_ok (by rw [F11_eq]; exact h)



/-- broadside/broadsidelaw09.play -/
def F16 (a0 a1 : Value) (w : World) (K : Kont) : Prop :=
 rv Try.prog (Instr.box 40 a1) w fun v0 w1 =>
 rv Try.prog (Instr.fieldAt 40 v0 0) w1 fun v2 w3 =>
 rv Try.prog (Instr.loadAt 3 v2) w3 fun v4 w5 =>
 rv Try.prog (bin .eql 3 true v4 (.int .i64 1)) w5 fun v6 w7 =>
 ifB v6
 (rv Try.prog (Instr.fieldAt 40 v0 1) w7 fun v8 w9 =>
 rv Try.prog (Instr.loadAt 22 v8) w9 fun v10 w11 =>
 rv Try.prog (Instr.fieldAt 40 v0 4) w11 fun v12 w13 =>
 rv Try.prog (Instr.loadAt 2 v12) w13 fun v14 w15 =>
 Ca Try.prog 9 #[a0, v10, v14] w15 fun v16 w17 =>
 rv Try.prog (bin .eql 25 true v16 (.int .i64 0)) w17 fun v18 w19 =>
 ifB v18
 (rv Try.prog (Instr.fieldAt 40 v0 4) w19 fun v20 w21 =>
 rv Try.prog (Instr.loadAt 2 v20) w21 fun v22 w23 =>
 K v22 w23)
 (K (.int .i64 0) w19))
 (rv Try.prog (bin .eql 3 true v4 (.int .i64 2)) w7 fun v24 w25 =>
 ifB v24
 (rv Try.prog (Instr.fieldAt 40 v0 1) w25 fun v26 w27 =>
 rv Try.prog (Instr.loadAt 22 v26) w27 fun v28 w29 =>
 rv Try.prog (Instr.fieldAt 40 v0 4) w29 fun v30 w31 =>
 rv Try.prog (Instr.loadAt 2 v30) w31 fun v32 w33 =>
 Ca Try.prog 22 #[a0, v28, v32] w33 fun v34 w35 =>
 rv Try.prog (bin .eql 25 true v34 (.int .i64 0)) w35 fun v36 w37 =>
 ifB v36
 (rv Try.prog (Instr.fieldAt 40 v0 4) w37 fun v38 w39 =>
 rv Try.prog (Instr.loadAt 2 v38) w39 fun v40 w41 =>
 rv Try.prog (Op.unary .neg v40) w41 fun v42 w43 =>
 K v42 w43)
 (K (.int .i64 0) w37))
 (rv Try.prog (bin .eql 3 true v4 (.int .i64 5)) w25 fun v44 w45 =>
 ifB v44
 (rv Try.prog (Instr.fieldAt 40 v0 3) w45 fun v46 w47 =>
 rv Try.prog (Instr.loadAt 22 v46) w47 fun v48 w49 =>
 rv Try.prog (Instr.fieldAt 40 v0 1) w49 fun v50 w51 =>
 rv Try.prog (Instr.loadAt 22 v50) w51 fun v52 w53 =>
 rv Try.prog (Instr.fieldAt 40 v0 2) w53 fun v54 w55 =>
 rv Try.prog (Instr.loadAt 22 v54) w55 fun v56 w57 =>
 rv Try.prog (Instr.fieldAt 40 v0 4) w57 fun v58 w59 =>
 rv Try.prog (Instr.loadAt 2 v58) w59 fun v60 w61 =>
 rv Try.prog (Instr.fieldAt 40 v0 5) w61 fun v62 w63 =>
 rv Try.prog (Instr.loadAt 2 v62) w63 fun v64 w65 =>
 Ca Try.prog 10 #[a0, v48, v52, v56, v60, v64] w65 fun v66 w67 =>
 K (.int .i64 0) w67)
 (rv Try.prog (bin .eql 3 true v4 (.int .i64 6)) w45 fun v68 w69 =>
 ifB v68
 (rv Try.prog (Instr.fieldAt 40 v0 3) w69 fun v70 w71 =>
 rv Try.prog (Instr.loadAt 22 v70) w71 fun v72 w73 =>
 rv Try.prog (Instr.fieldAt 40 v0 4) w73 fun v74 w75 =>
 rv Try.prog (Instr.loadAt 2 v74) w75 fun v76 w77 =>
 rv Try.prog (Instr.fieldAt 40 v0 6) w77 fun v78 w79 =>
 rv Try.prog (Instr.fieldAt 34 v78 2) w79 fun v80 w81 =>
 rv Try.prog (Instr.loadAt 4 v80) w81 fun v82 w83 =>
 Ca Try.prog 15 #[a0, v72, v76, v82] w83 fun v84 w85 =>
 K (.int .i64 0) w85)
 (K (.int .i64 0) w69))))
theorem F16_eq (a0 a1 : Value) (w : World) (K : Kont) : vcFnJ Try.prog Try.f16 [a0, a1] w K = F16 a0 a1 w K := by kernel_rfl
theorem F16_ok : okF Try.prog Try.f16 2 = true := by kernel_rfl
theorem ca16{a0 a1 : Value} {w : World} {K : Kont} (h : F16 a0 a1 w K) : Ca Try.prog 16 #[a0, a1] w K :=
  ca_of_vcJ Try.noNum Try.func16 F16_ok (by rw [F16_eq]; exact h)


def J31_0 (v4 : Value) (KJ92 : Code → World → Prop) (v55 : Value) (KN91 : World → Prop) (s97 : Value × Unit) (w98 : World) : Prop :=
 ∀ _ : Nat → Value,
 ifB s97.1
 (ru Try.prog (Instr.storeAt 4 v4 (.bool false)) w98 fun w110 =>
 KJ92 .ret w110)
 (rv Try.prog (Instr.loadAt 3 v55) w98 fun v111 w112 =>
 rv Try.prog (bin .add 3 true v111 (.int .i64 1)) w112 fun v113 w114 =>
 ru Try.prog (Instr.storeAt 3 v55 v113) w114 fun w115 =>
 KN91 w115)

def R31_1 (v55 : Value) (v66 : Value) (v4 : Value) (l88 : Nat) (x89 : List Value) (w90 : World) (KN91 : World → Prop) (KJ92 : Code → World → Prop) : Prop :=
 rv Try.prog (Instr.alloc 31 true (.tuple #[])) w90 fun v93 w94 =>
 ru Try.prog (Instr.storeAt 31 v93 (x89.getD 0 undef)) w94 fun w95 =>
 beginK l88 w95 fun w96 =>
 JoinW (S := Value × Unit) (fun J99 =>
 rdW Try.prog (Instr.loadAt 3 v55) w96.drew fun v100 =>
 rdW Try.prog (Instr.loadAt 59 v66) w96.drew fun v101 =>
 rdW Try.prog (Builtin.len_ #[59] 3 #[v101]) w96.drew fun v102 =>
 rdP Try.prog (bin .geq 3 false v100 v102) fun v103 =>
 ifB v103
 (J99 ((.bool true), ()) w96.drew)
 (rdW Try.prog (Instr.loadAt 31 v93) w96.drew fun v104 =>
 rdW Try.prog (Instr.loadAt 59 v66) w96.drew fun v105 =>
 rdW Try.prog (Instr.loadAt 3 v55) w96.drew fun v106 =>
 rdP Try.prog (Instr.indexAt 59 v105 v106) fun v107 =>
 rdW Try.prog (Instr.loadAt 31 v107) w96.drew fun v108 =>
 rdP Try.prog (bin .neq 31 false v104 v108) fun v109 =>
 J99 (v109, ()) w96.drew))
 (J31_0 v4 KJ92 v55 KN91)

def A31_2 (v55 : Value) (v66 : Value) (v4 : Value) (KJ25 : Code → World → Prop) (KN24 : World → Prop) (mk116 : List Nat) (pd117 : Option Code) (w118 : World) : Prop :=
 afterK
 (fun w119 =>
 rv Try.prog (Instr.loadAt 3 v55) w119 fun v120 w121 =>
 rv Try.prog (Instr.loadAt 59 v66) w121 fun v122 w123 =>
 rn Try.prog (builtin .len #[59] 3 #[false] #[v122]) w123 fun v124 w125 =>
 rv Try.prog (bin .neq 3 false v120 v124) w125 fun v126 w127 =>
 ifB v126
 (ru Try.prog (Instr.storeAt 4 v4 (.bool false)) w127 fun w128 =>
 KJ25 .ret w128)
 (KN24 w127))
 (fun w129 =>
 KJ25 .ret w129)
 (fun i131 w130 =>
 bc (Nat.beq i131 2)
 (rv Try.prog (Instr.loadAt 3 v55) w130 fun v132 w133 =>
 rv Try.prog (Instr.loadAt 59 v66) w133 fun v134 w135 =>
 rn Try.prog (builtin .len #[59] 3 #[false] #[v134]) w135 fun v136 w137 =>
 rv Try.prog (bin .neq 3 false v132 v136) w137 fun v138 w139 =>
 ifB v138
 (ru Try.prog (Instr.storeAt 4 v4 (.bool false)) w139 fun w140 =>
 KJ25 .ret w140)
 (KN24 w139))
 (bc (Nat.beq i131 1)
 (KN24 w130)
 (KJ25 (.exit i131) w130))) pd117 w118

def J31_3 (v4 : Value) (KJ25 : Code → World → Prop) (v6 : Value) (v2 : Value) (v26 : Value) (v0 : Value) (l21 : Nat) (KN24 : World → Prop) (s30 : Value × Unit) (w31 : World) : Prop :=
 ∀ _ : Nat → Value,
 ifB s30.1
 (ru Try.prog (Instr.storeAt 4 v4 (.bool false)) w31 fun w49 =>
 KJ25 .ret w49)
 (rv Try.prog (Instr.loadAt 3 v6) w31 fun v50 w51 =>
 rv Try.prog (bin .add 3 true v50 (.int .i64 1)) w51 fun v52 w53 =>
 ru Try.prog (Instr.storeAt 3 v6 v52) w53 fun w54 =>
 rv Try.prog (Instr.alloc 3 true (.tuple #[])) w54 fun v55 w56 =>
 ru Try.prog (Instr.storeAt 3 v55 (.int .i64 0)) w56 fun w57 =>
 rv Try.prog (Instr.loadAt 57 v2) w57 fun v58 w59 =>
 rv Try.prog (Instr.fieldAt 34 v26 0) w59 fun v60 w61 =>
 rv Try.prog (Instr.loadAt 22 v60) w61 fun v62 w63 =>
 Ca Try.prog 51 #[v58, v62] w63 fun v64 w65 =>
 rv Try.prog (Instr.alloc 59 true (.tuple #[])) w65 fun v66 w67 =>
 ru Try.prog (Instr.storeAt 59 v66 v64) w67 fun w68 =>
 rv Try.prog (Instr.loadAt 23 v0) w68 fun v69 w70 =>
 rv Try.prog (Instr.fieldAt 34 v26 0) w70 fun v71 w72 =>
 rv Try.prog (Instr.loadAt 22 v71) w72 fun v73 w74 =>
 Ca Try.prog 52 #[v69, v73] w74 fun v75 w76 =>
 rv Try.prog (bin .eql 48 true v75 .nilFunc) w76 fun v77 w78 =>
 ifB v77
 (ru Try.prog (Instr.storeAt 4 v4 (.bool false)) w78 fun w79 =>
 KJ25 .ret w79)
 (rv Try.prog (Instr.loadAt 23 v0) w78 fun v80 w81 =>
 rv Try.prog (Instr.fieldAt 34 v26 0) w81 fun v82 w83 =>
 rv Try.prog (Instr.loadAt 22 v82) w83 fun v84 w85 =>
 Ca Try.prog 52 #[v80, v84] w85 fun v86 w87 =>
 RFW Try.prog (some l21) v86 w87 1 (R31_1 v55 v66 v4) (A31_2 v55 v66 v4 KJ25 KN24)))

def R31_4  (l158 : Nat) (x159 : List Value) (w160 : World) (KN161 : World → Prop) (KJ162 : Code → World → Prop) : Prop :=
 beginK l158 w160 fun w163 =>
 KJ162 (.exit 4) w163

def A31_5 (v0 : Value) (v6 : Value) (v2 : Value) (v4 : Value) (mk141 : List Nat) (K : Kont) (mk164 : List Nat) (pd165 : Option Code) (w166 : World) : Prop :=
 afterK
 (fun w167 =>
 rv Try.prog (Instr.loadAt 23 v0) w167 fun v168 w169 =>
 Ca Try.prog 13 #[v168, (.int .u32 0)] w169 fun v170 w171 =>
 rv Try.prog (Instr.extract v170 0) w171 fun v172 w173 =>
 rv Try.prog (Instr.extract v170 1) w173 fun v174 w175 =>
 rv Try.prog (Instr.alloc 34 true (.tuple #[])) w175 fun v176 w177 =>
 ru Try.prog (Instr.storeAt 34 v176 v172) w177 fun w178 =>
 rdW Try.prog (Instr.loadAt 3 v6) w178.drew fun v179 =>
 rdW Try.prog (Instr.loadAt 57 v2) w178.drew fun v180 =>
 nilK v180 fun v181 => rdP Try.prog (Instr.fieldAt 61 v181 1) fun v182 =>
 rdW Try.prog (Instr.loadAt 58 v182) w178.drew fun v183 =>
 rdW Try.prog (Builtin.len_ #[58] 3 #[v183]) w178.drew fun v184 =>
 rdP Try.prog (bin .eql 3 false v179 v184) fun v185 =>
 ifB v185
 (rdW Try.prog (Instr.loadAt 23 v0) w178.drew fun v186 =>
 rdW Try.prog (Instr.loadAt 57 v2) w178.drew fun v187 =>
 Ca Try.prog 18 #[v186] w178.drew fun v188 w189 =>
 Sem.run Try.prog (Instr.loadAt 57 v2) w189 = .ok v187 w189 ∧ 
 (Ca Try.prog 46 #[v187] w189 fun v190 w191 =>
 rdP Try.prog (bin .eql 2 false v188 v190) fun v192 =>
 ifB v192
 (rdP Try.prog (bin .eql 25 true v174 (.int .i64 0)) fun v193 =>
 ifB v193
 (rdW Try.prog (Instr.loadAt 34 v176) w191 fun v194 =>
 rdW Try.prog (Instr.loadAt 57 v2) w191 fun v195 =>
 nilK v195 fun v196 => rdP Try.prog (Instr.fieldAt 61 v196 0) fun v197 =>
 rdW Try.prog (Instr.loadAt 2 v197) w191 fun v198 =>
 rdP Try.prog (Instr.build 34 #[(1, v198)]) fun v199 =>
 rdP Try.prog (bin .eql 34 false v194 v199) fun v200 =>
 ru Try.prog (Instr.storeAt 4 v4 v200) w191 fun w201 =>
 retD (mk164 ++ (mk141 ++ [])) w201 fun w202 =>
 rdW Try.prog (Instr.loadAt 4 v4) w202 fun v203 =>
 K v203 w202)
 (ru Try.prog (Instr.storeAt 4 v4 (.bool false)) w191 fun w204 =>
 retD (mk164 ++ (mk141 ++ [])) w204 fun w205 =>
 rdW Try.prog (Instr.loadAt 4 v4) w205 fun v206 =>
 K v206 w205))
 (ru Try.prog (Instr.storeAt 4 v4 (.bool false)) w191 fun w207 =>
 retD (mk164 ++ (mk141 ++ [])) w207 fun w208 =>
 rdW Try.prog (Instr.loadAt 4 v4) w208 fun v209 =>
 K v209 w208)))
 (ru Try.prog (Instr.storeAt 4 v4 (.bool false)) w178.drew fun w210 =>
 retD (mk164 ++ (mk141 ++ [])) w210 fun w211 =>
 rdW Try.prog (Instr.loadAt 4 v4) w211 fun v212 =>
 K v212 w211))
 (fun w213 =>
 retD (mk164 ++ (mk141 ++ [])) w213 fun w214 =>
 rdW Try.prog (Instr.loadAt 4 v4) w214 fun v215 =>
 K v215 w214)
 (fun i217 w216 =>
 bc (Nat.beq i217 4)
 (rv Try.prog (Instr.loadAt 23 v0) w216 fun v218 w219 =>
 Ca Try.prog 13 #[v218, (.int .u32 0)] w219 fun v220 w221 =>
 rv Try.prog (Instr.extract v220 0) w221 fun v222 w223 =>
 rv Try.prog (Instr.extract v220 1) w223 fun v224 w225 =>
 rv Try.prog (Instr.alloc 34 true (.tuple #[])) w225 fun v226 w227 =>
 ru Try.prog (Instr.storeAt 34 v226 v222) w227 fun w228 =>
 rdW Try.prog (Instr.loadAt 3 v6) w228.drew fun v229 =>
 rdW Try.prog (Instr.loadAt 57 v2) w228.drew fun v230 =>
 nilK v230 fun v231 => rdP Try.prog (Instr.fieldAt 61 v231 1) fun v232 =>
 rdW Try.prog (Instr.loadAt 58 v232) w228.drew fun v233 =>
 rdW Try.prog (Builtin.len_ #[58] 3 #[v233]) w228.drew fun v234 =>
 rdP Try.prog (bin .eql 3 false v229 v234) fun v235 =>
 ifB v235
 (rdW Try.prog (Instr.loadAt 23 v0) w228.drew fun v236 =>
 rdW Try.prog (Instr.loadAt 57 v2) w228.drew fun v237 =>
 Ca Try.prog 18 #[v236] w228.drew fun v238 w239 =>
 Sem.run Try.prog (Instr.loadAt 57 v2) w239 = .ok v237 w239 ∧ 
 (Ca Try.prog 46 #[v237] w239 fun v240 w241 =>
 rdP Try.prog (bin .eql 2 false v238 v240) fun v242 =>
 ifB v242
 (rdP Try.prog (bin .eql 25 true v224 (.int .i64 0)) fun v243 =>
 ifB v243
 (rdW Try.prog (Instr.loadAt 34 v226) w241 fun v244 =>
 rdW Try.prog (Instr.loadAt 57 v2) w241 fun v245 =>
 nilK v245 fun v246 => rdP Try.prog (Instr.fieldAt 61 v246 0) fun v247 =>
 rdW Try.prog (Instr.loadAt 2 v247) w241 fun v248 =>
 rdP Try.prog (Instr.build 34 #[(1, v248)]) fun v249 =>
 rdP Try.prog (bin .eql 34 false v244 v249) fun v250 =>
 ru Try.prog (Instr.storeAt 4 v4 v250) w241 fun w251 =>
 retD (mk164 ++ (mk141 ++ [])) w251 fun w252 =>
 rdW Try.prog (Instr.loadAt 4 v4) w252 fun v253 =>
 K v253 w252)
 (ru Try.prog (Instr.storeAt 4 v4 (.bool false)) w241 fun w254 =>
 retD (mk164 ++ (mk141 ++ [])) w254 fun w255 =>
 rdW Try.prog (Instr.loadAt 4 v4) w255 fun v256 =>
 K v256 w255))
 (ru Try.prog (Instr.storeAt 4 v4 (.bool false)) w241 fun w257 =>
 retD (mk164 ++ (mk141 ++ [])) w257 fun w258 =>
 rdW Try.prog (Instr.loadAt 4 v4) w258 fun v259 =>
 K v259 w258)))
 (ru Try.prog (Instr.storeAt 4 v4 (.bool false)) w228.drew fun w260 =>
 retD (mk164 ++ (mk141 ++ [])) w260 fun w261 =>
 rdW Try.prog (Instr.loadAt 4 v4) w261 fun v262 =>
 K v262 w261))
 (False)) pd165 w166

def R31_6  (l281 : Nat) (x282 : List Value) (w283 : World) (KN284 : World → Prop) (KJ285 : Code → World → Prop) : Prop :=
 beginK l281 w283 fun w286 =>
 KJ285 (.exit 4) w286

def A31_7 (v0 : Value) (v6 : Value) (v2 : Value) (v4 : Value) (mk141 : List Nat) (K : Kont) (mk287 : List Nat) (pd288 : Option Code) (w289 : World) : Prop :=
 afterK
 (fun w290 =>
 rv Try.prog (Instr.loadAt 23 v0) w290 fun v291 w292 =>
 Ca Try.prog 13 #[v291, (.int .u32 0)] w292 fun v293 w294 =>
 rv Try.prog (Instr.extract v293 0) w294 fun v295 w296 =>
 rv Try.prog (Instr.extract v293 1) w296 fun v297 w298 =>
 rv Try.prog (Instr.alloc 34 true (.tuple #[])) w298 fun v299 w300 =>
 ru Try.prog (Instr.storeAt 34 v299 v295) w300 fun w301 =>
 rdW Try.prog (Instr.loadAt 3 v6) w301.drew fun v302 =>
 rdW Try.prog (Instr.loadAt 57 v2) w301.drew fun v303 =>
 nilK v303 fun v304 => rdP Try.prog (Instr.fieldAt 61 v304 1) fun v305 =>
 rdW Try.prog (Instr.loadAt 58 v305) w301.drew fun v306 =>
 rdW Try.prog (Builtin.len_ #[58] 3 #[v306]) w301.drew fun v307 =>
 rdP Try.prog (bin .eql 3 false v302 v307) fun v308 =>
 ifB v308
 (rdW Try.prog (Instr.loadAt 23 v0) w301.drew fun v309 =>
 rdW Try.prog (Instr.loadAt 57 v2) w301.drew fun v310 =>
 Ca Try.prog 18 #[v309] w301.drew fun v311 w312 =>
 Sem.run Try.prog (Instr.loadAt 57 v2) w312 = .ok v310 w312 ∧ 
 (Ca Try.prog 46 #[v310] w312 fun v313 w314 =>
 rdP Try.prog (bin .eql 2 false v311 v313) fun v315 =>
 ifB v315
 (rdP Try.prog (bin .eql 25 true v297 (.int .i64 0)) fun v316 =>
 ifB v316
 (rdW Try.prog (Instr.loadAt 34 v299) w314 fun v317 =>
 rdW Try.prog (Instr.loadAt 57 v2) w314 fun v318 =>
 nilK v318 fun v319 => rdP Try.prog (Instr.fieldAt 61 v319 0) fun v320 =>
 rdW Try.prog (Instr.loadAt 2 v320) w314 fun v321 =>
 rdP Try.prog (Instr.build 34 #[(1, v321)]) fun v322 =>
 rdP Try.prog (bin .eql 34 false v317 v322) fun v323 =>
 ru Try.prog (Instr.storeAt 4 v4 v323) w314 fun w324 =>
 retD (mk287 ++ (mk141 ++ [])) w324 fun w325 =>
 rdW Try.prog (Instr.loadAt 4 v4) w325 fun v326 =>
 K v326 w325)
 (ru Try.prog (Instr.storeAt 4 v4 (.bool false)) w314 fun w327 =>
 retD (mk287 ++ (mk141 ++ [])) w327 fun w328 =>
 rdW Try.prog (Instr.loadAt 4 v4) w328 fun v329 =>
 K v329 w328))
 (ru Try.prog (Instr.storeAt 4 v4 (.bool false)) w314 fun w330 =>
 retD (mk287 ++ (mk141 ++ [])) w330 fun w331 =>
 rdW Try.prog (Instr.loadAt 4 v4) w331 fun v332 =>
 K v332 w331)))
 (ru Try.prog (Instr.storeAt 4 v4 (.bool false)) w301.drew fun w333 =>
 retD (mk287 ++ (mk141 ++ [])) w333 fun w334 =>
 rdW Try.prog (Instr.loadAt 4 v4) w334 fun v335 =>
 K v335 w334))
 (fun w336 =>
 retD (mk287 ++ (mk141 ++ [])) w336 fun w337 =>
 rdW Try.prog (Instr.loadAt 4 v4) w337 fun v338 =>
 K v338 w337)
 (fun i340 w339 =>
 bc (Nat.beq i340 4)
 (rv Try.prog (Instr.loadAt 23 v0) w339 fun v341 w342 =>
 Ca Try.prog 13 #[v341, (.int .u32 0)] w342 fun v343 w344 =>
 rv Try.prog (Instr.extract v343 0) w344 fun v345 w346 =>
 rv Try.prog (Instr.extract v343 1) w346 fun v347 w348 =>
 rv Try.prog (Instr.alloc 34 true (.tuple #[])) w348 fun v349 w350 =>
 ru Try.prog (Instr.storeAt 34 v349 v345) w350 fun w351 =>
 rdW Try.prog (Instr.loadAt 3 v6) w351.drew fun v352 =>
 rdW Try.prog (Instr.loadAt 57 v2) w351.drew fun v353 =>
 nilK v353 fun v354 => rdP Try.prog (Instr.fieldAt 61 v354 1) fun v355 =>
 rdW Try.prog (Instr.loadAt 58 v355) w351.drew fun v356 =>
 rdW Try.prog (Builtin.len_ #[58] 3 #[v356]) w351.drew fun v357 =>
 rdP Try.prog (bin .eql 3 false v352 v357) fun v358 =>
 ifB v358
 (rdW Try.prog (Instr.loadAt 23 v0) w351.drew fun v359 =>
 rdW Try.prog (Instr.loadAt 57 v2) w351.drew fun v360 =>
 Ca Try.prog 18 #[v359] w351.drew fun v361 w362 =>
 Sem.run Try.prog (Instr.loadAt 57 v2) w362 = .ok v360 w362 ∧ 
 (Ca Try.prog 46 #[v360] w362 fun v363 w364 =>
 rdP Try.prog (bin .eql 2 false v361 v363) fun v365 =>
 ifB v365
 (rdP Try.prog (bin .eql 25 true v347 (.int .i64 0)) fun v366 =>
 ifB v366
 (rdW Try.prog (Instr.loadAt 34 v349) w364 fun v367 =>
 rdW Try.prog (Instr.loadAt 57 v2) w364 fun v368 =>
 nilK v368 fun v369 => rdP Try.prog (Instr.fieldAt 61 v369 0) fun v370 =>
 rdW Try.prog (Instr.loadAt 2 v370) w364 fun v371 =>
 rdP Try.prog (Instr.build 34 #[(1, v371)]) fun v372 =>
 rdP Try.prog (bin .eql 34 false v367 v372) fun v373 =>
 ru Try.prog (Instr.storeAt 4 v4 v373) w364 fun w374 =>
 retD (mk287 ++ (mk141 ++ [])) w374 fun w375 =>
 rdW Try.prog (Instr.loadAt 4 v4) w375 fun v376 =>
 K v376 w375)
 (ru Try.prog (Instr.storeAt 4 v4 (.bool false)) w364 fun w377 =>
 retD (mk287 ++ (mk141 ++ [])) w377 fun w378 =>
 rdW Try.prog (Instr.loadAt 4 v4) w378 fun v379 =>
 K v379 w378))
 (ru Try.prog (Instr.storeAt 4 v4 (.bool false)) w364 fun w380 =>
 retD (mk287 ++ (mk141 ++ [])) w380 fun w381 =>
 rdW Try.prog (Instr.loadAt 4 v4) w381 fun v382 =>
 K v382 w381)))
 (ru Try.prog (Instr.storeAt 4 v4 (.bool false)) w351.drew fun w383 =>
 retD (mk287 ++ (mk141 ++ [])) w383 fun w384 =>
 rdW Try.prog (Instr.loadAt 4 v4) w384 fun v385 =>
 K v385 w384))
 (False)) pd288 w289

def R31_8 (v6 : Value) (v2 : Value) (v4 : Value) (v0 : Value) (l21 : Nat) (x22 : List Value) (w23 : World) (KN24 : World → Prop) (KJ25 : Code → World → Prop) : Prop :=
 rv Try.prog (Instr.alloc 34 true (.tuple #[])) w23 fun v26 w27 =>
 ru Try.prog (Instr.storeAt 34 v26 (x22.getD 0 undef)) w27 fun w28 =>
 beginK l21 w28 fun w29 =>
 JoinW (S := Value × Unit) (fun J32 =>
 rdW Try.prog (Instr.loadAt 3 v6) w29.drew fun v33 =>
 rdW Try.prog (Instr.loadAt 57 v2) w29.drew fun v34 =>
 nilK v34 fun v35 => rdP Try.prog (Instr.fieldAt 61 v35 1) fun v36 =>
 rdW Try.prog (Instr.loadAt 58 v36) w29.drew fun v37 =>
 rdW Try.prog (Builtin.len_ #[58] 3 #[v37]) w29.drew fun v38 =>
 rdP Try.prog (bin .geq 3 false v33 v38) fun v39 =>
 ifB v39
 (J32 ((.bool true), ()) w29.drew)
 (rdW Try.prog (Instr.loadAt 34 v26) w29.drew fun v40 =>
 rdW Try.prog (Instr.loadAt 57 v2) w29.drew fun v41 =>
 nilK v41 fun v42 => rdP Try.prog (Instr.fieldAt 61 v42 1) fun v43 =>
 rdW Try.prog (Instr.loadAt 58 v43) w29.drew fun v44 =>
 rdW Try.prog (Instr.loadAt 3 v6) w29.drew fun v45 =>
 rdP Try.prog (Instr.indexAt 58 v44 v45) fun v46 =>
 rdW Try.prog (Instr.loadAt 34 v46) w29.drew fun v47 =>
 rdP Try.prog (bin .neq 34 false v40 v47) fun v48 =>
 J32 (v48, ()) w29.drew))
 (J31_3 v4 KJ25 v6 v2 v26 v0 l21 KN24)

def A31_9 (v0 : Value) (v4 : Value) (K : Kont) (v6 : Value) (v2 : Value) (mk141 : List Nat) (pd142 : Option Code) (w143 : World) : Prop :=
 afterK
 (fun w144 =>
 rv Try.prog (Instr.loadAt 23 v0) w144 fun v145 w146 =>
 Ca Try.prog 20 #[v145] w146 fun v147 w148 =>
 rv Try.prog (bin .eql 54 true v147 .nilFunc) w148 fun v149 w150 =>
 ifB v149
 (ru Try.prog (Instr.storeAt 4 v4 (.bool false)) w150 fun w151 =>
 retD (mk141 ++ []) w151 fun w152 =>
 rdW Try.prog (Instr.loadAt 4 v4) w152 fun v153 =>
 K v153 w152)
 (rv Try.prog (Instr.loadAt 23 v0) w150 fun v154 w155 =>
 Ca Try.prog 20 #[v154] w155 fun v156 w157 =>
 RFW Try.prog none v156 w157 1 (R31_4) (A31_5 v0 v6 v2 v4 mk141 K)))
 (fun w263 =>
 retD (mk141 ++ []) w263 fun w264 =>
 rdW Try.prog (Instr.loadAt 4 v4) w264 fun v265 =>
 K v265 w264)
 (fun i267 w266 =>
 bc (Nat.beq i267 0)
 (rv Try.prog (Instr.loadAt 23 v0) w266 fun v268 w269 =>
 Ca Try.prog 20 #[v268] w269 fun v270 w271 =>
 rv Try.prog (bin .eql 54 true v270 .nilFunc) w271 fun v272 w273 =>
 ifB v272
 (ru Try.prog (Instr.storeAt 4 v4 (.bool false)) w273 fun w274 =>
 retD (mk141 ++ []) w274 fun w275 =>
 rdW Try.prog (Instr.loadAt 4 v4) w275 fun v276 =>
 K v276 w275)
 (rv Try.prog (Instr.loadAt 23 v0) w273 fun v277 w278 =>
 Ca Try.prog 20 #[v277] w278 fun v279 w280 =>
 RFW Try.prog none v279 w280 1 (R31_6) (A31_7 v0 v6 v2 v4 mk141 K)))
 (False)) pd142 w143

/-- broadside/broadsidelaw09.same -/
def F31 (a0 a1 : Value) (w : World) (K : Kont) : Prop :=
 rv Try.prog (Instr.box 23 a0) w fun v0 w1 =>
 rv Try.prog (Instr.box 57 a1) w1 fun v2 w3 =>
 rv Try.prog (Instr.alloc 4 true (.tuple #[])) w3 fun v4 w5 =>
 rv Try.prog (Instr.alloc 3 true (.tuple #[])) w5 fun v6 w7 =>
 ru Try.prog (Instr.storeAt 3 v6 (.int .i64 0)) w7 fun w8 =>
 rv Try.prog (Instr.loadAt 23 v0) w8 fun v9 w10 =>
 Ca Try.prog 20 #[v9] w10 fun v11 w12 =>
 rv Try.prog (bin .eql 54 true v11 .nilFunc) w12 fun v13 w14 =>
 ifB v13
 (ru Try.prog (Instr.storeAt 4 v4 (.bool false)) w14 fun w15 =>
 rdW Try.prog (Instr.loadAt 4 v4) w15 fun v16 =>
 K v16 w15)
 (rv Try.prog (Instr.loadAt 23 v0) w14 fun v17 w18 =>
 Ca Try.prog 20 #[v17] w18 fun v19 w20 =>
 RFW Try.prog none v19 w20 1 (R31_8 v6 v2 v4 v0) (A31_9 v0 v4 K v6 v2))
theorem F31_eq (a0 a1 : Value) (w : World) (K : Kont) : vcFnJ Try.prog Try.f31 [a0, a1] w K = F31 a0 a1 w K := by kernel_rfl
theorem F31_ok : okF Try.prog Try.f31 2 = true := by kernel_rfl
theorem ca31{a0 a1 : Value} {w : World} {K : Kont} (h : F31 a0 a1 w K) : Ca Try.prog 31 #[a0, a1] w K :=
  ca_of_vcJ Try.noNum Try.func31 F31_ok (by rw [F31_eq]; exact h)


def J32_0 (v0 : Value) (KJ22 : Code → World → Prop) (v7 : Value) (KN21 : World → Prop) (s27 : Value × Unit) (w28 : World) : Prop :=
 ∀ _ : Nat → Value,
 ifB s27.1
 (ru Try.prog (Instr.storeAt 4 v0 (.bool false)) w28 fun w40 =>
 KJ22 .ret w40)
 (rv Try.prog (Instr.loadAt 3 v7) w28 fun v41 w42 =>
 rv Try.prog (bin .add 3 true v41 (.int .i64 1)) w42 fun v43 w44 =>
 ru Try.prog (Instr.storeAt 3 v7 v43) w44 fun w45 =>
 KN21 w45)

def R32_1  (l59 : Nat) (x60 : List Value) (w61 : World) (KN62 : World → Prop) (KJ63 : Code → World → Prop) : Prop :=
 beginK l59 w61 fun w64 =>
 KJ63 (.exit 2) w64

def A32_2 (v7 : Value) (v4 : Value) (v0 : Value) (mk46 : List Nat) (K : Kont) (mk65 : List Nat) (pd66 : Option Code) (w67 : World) : Prop :=
 afterK
 (fun w68 =>
 rv Try.prog (Instr.loadAt 3 v7) w68 fun v69 w70 =>
 rv Try.prog (Instr.loadAt 59 v4) w70 fun v71 w72 =>
 rn Try.prog (builtin .len #[59] 3 #[false] #[v71]) w72 fun v73 w74 =>
 rv Try.prog (bin .eql 3 false v69 v73) w74 fun v75 w76 =>
 ru Try.prog (Instr.storeAt 4 v0 v75) w76 fun w77 =>
 retD (mk65 ++ (mk46 ++ [])) w77 fun w78 =>
 rdW Try.prog (Instr.loadAt 4 v0) w78 fun v79 =>
 K v79 w78)
 (fun w80 =>
 retD (mk65 ++ (mk46 ++ [])) w80 fun w81 =>
 rdW Try.prog (Instr.loadAt 4 v0) w81 fun v82 =>
 K v82 w81)
 (fun i84 w83 =>
 bc (Nat.beq i84 2)
 (rv Try.prog (Instr.loadAt 3 v7) w83 fun v85 w86 =>
 rv Try.prog (Instr.loadAt 59 v4) w86 fun v87 w88 =>
 rn Try.prog (builtin .len #[59] 3 #[false] #[v87]) w88 fun v89 w90 =>
 rv Try.prog (bin .eql 3 false v85 v89) w90 fun v91 w92 =>
 ru Try.prog (Instr.storeAt 4 v0 v91) w92 fun w93 =>
 retD (mk65 ++ (mk46 ++ [])) w93 fun w94 =>
 rdW Try.prog (Instr.loadAt 4 v0) w94 fun v95 =>
 K v95 w94)
 (False)) pd66 w67

def R32_3  (l110 : Nat) (x111 : List Value) (w112 : World) (KN113 : World → Prop) (KJ114 : Code → World → Prop) : Prop :=
 beginK l110 w112 fun w115 =>
 KJ114 (.exit 2) w115

def A32_4 (v7 : Value) (v4 : Value) (v0 : Value) (mk46 : List Nat) (K : Kont) (mk116 : List Nat) (pd117 : Option Code) (w118 : World) : Prop :=
 afterK
 (fun w119 =>
 rv Try.prog (Instr.loadAt 3 v7) w119 fun v120 w121 =>
 rv Try.prog (Instr.loadAt 59 v4) w121 fun v122 w123 =>
 rn Try.prog (builtin .len #[59] 3 #[false] #[v122]) w123 fun v124 w125 =>
 rv Try.prog (bin .eql 3 false v120 v124) w125 fun v126 w127 =>
 ru Try.prog (Instr.storeAt 4 v0 v126) w127 fun w128 =>
 retD (mk116 ++ (mk46 ++ [])) w128 fun w129 =>
 rdW Try.prog (Instr.loadAt 4 v0) w129 fun v130 =>
 K v130 w129)
 (fun w131 =>
 retD (mk116 ++ (mk46 ++ [])) w131 fun w132 =>
 rdW Try.prog (Instr.loadAt 4 v0) w132 fun v133 =>
 K v133 w132)
 (fun i135 w134 =>
 bc (Nat.beq i135 2)
 (rv Try.prog (Instr.loadAt 3 v7) w134 fun v136 w137 =>
 rv Try.prog (Instr.loadAt 59 v4) w137 fun v138 w139 =>
 rn Try.prog (builtin .len #[59] 3 #[false] #[v138]) w139 fun v140 w141 =>
 rv Try.prog (bin .eql 3 false v136 v140) w141 fun v142 w143 =>
 ru Try.prog (Instr.storeAt 4 v0 v142) w143 fun w144 =>
 retD (mk116 ++ (mk46 ++ [])) w144 fun w145 =>
 rdW Try.prog (Instr.loadAt 4 v0) w145 fun v146 =>
 K v146 w145)
 (False)) pd117 w118

def R32_5 (v7 : Value) (v4 : Value) (v0 : Value) (l18 : Nat) (x19 : List Value) (w20 : World) (KN21 : World → Prop) (KJ22 : Code → World → Prop) : Prop :=
 rv Try.prog (Instr.alloc 31 true (.tuple #[])) w20 fun v23 w24 =>
 ru Try.prog (Instr.storeAt 31 v23 (x19.getD 0 undef)) w24 fun w25 =>
 beginK l18 w25 fun w26 =>
 JoinW (S := Value × Unit) (fun J29 =>
 rdW Try.prog (Instr.loadAt 3 v7) w26.drew fun v30 =>
 rdW Try.prog (Instr.loadAt 59 v4) w26.drew fun v31 =>
 rdW Try.prog (Builtin.len_ #[59] 3 #[v31]) w26.drew fun v32 =>
 rdP Try.prog (bin .geq 3 false v30 v32) fun v33 =>
 ifB v33
 (J29 ((.bool true), ()) w26.drew)
 (rdW Try.prog (Instr.loadAt 31 v23) w26.drew fun v34 =>
 rdW Try.prog (Instr.loadAt 59 v4) w26.drew fun v35 =>
 rdW Try.prog (Instr.loadAt 3 v7) w26.drew fun v36 =>
 rdP Try.prog (Instr.indexAt 59 v35 v36) fun v37 =>
 rdW Try.prog (Instr.loadAt 31 v37) w26.drew fun v38 =>
 rdP Try.prog (bin .neq 31 false v34 v38) fun v39 =>
 J29 (v39, ()) w26.drew))
 (J32_0 v0 KJ22 v7 KN21)

def A32_6 (a0 : Value) (a2 : Value) (v0 : Value) (K : Kont) (v7 : Value) (v4 : Value) (mk46 : List Nat) (pd47 : Option Code) (w48 : World) : Prop :=
 afterK
 (fun w49 =>
 Ca Try.prog 17 #[a0, a2] w49 fun v50 w51 =>
 rv Try.prog (bin .eql 48 true v50 .nilFunc) w51 fun v52 w53 =>
 ifB v52
 (ru Try.prog (Instr.storeAt 4 v0 (.bool false)) w53 fun w54 =>
 retD (mk46 ++ []) w54 fun w55 =>
 rdW Try.prog (Instr.loadAt 4 v0) w55 fun v56 =>
 K v56 w55)
 (Ca Try.prog 17 #[a0, a2] w53 fun v57 w58 =>
 RFW Try.prog none v57 w58 1 (R32_1) (A32_2 v7 v4 v0 mk46 K)))
 (fun w96 =>
 retD (mk46 ++ []) w96 fun w97 =>
 rdW Try.prog (Instr.loadAt 4 v0) w97 fun v98 =>
 K v98 w97)
 (fun i100 w99 =>
 bc (Nat.beq i100 0)
 (Ca Try.prog 17 #[a0, a2] w99 fun v101 w102 =>
 rv Try.prog (bin .eql 48 true v101 .nilFunc) w102 fun v103 w104 =>
 ifB v103
 (ru Try.prog (Instr.storeAt 4 v0 (.bool false)) w104 fun w105 =>
 retD (mk46 ++ []) w105 fun w106 =>
 rdW Try.prog (Instr.loadAt 4 v0) w106 fun v107 =>
 K v107 w106)
 (Ca Try.prog 17 #[a0, a2] w104 fun v108 w109 =>
 RFW Try.prog none v108 w109 1 (R32_3) (A32_4 v7 v4 v0 mk46 K)))
 (False)) pd47 w48

/-- broadside/broadsidelaw09.holders -/
def F32 (a0 a1 a2 : Value) (w : World) (K : Kont) : Prop :=
 rv Try.prog (Instr.alloc 4 true (.tuple #[])) w fun v0 w1 =>
 Ca Try.prog 50 #[a1, a2] w1 fun v2 w3 =>
 rv Try.prog (Instr.alloc 59 true (.tuple #[])) w3 fun v4 w5 =>
 ru Try.prog (Instr.storeAt 59 v4 v2) w5 fun w6 =>
 rv Try.prog (Instr.alloc 3 true (.tuple #[])) w6 fun v7 w8 =>
 ru Try.prog (Instr.storeAt 3 v7 (.int .i64 0)) w8 fun w9 =>
 Ca Try.prog 17 #[a0, a2] w9 fun v10 w11 =>
 rv Try.prog (bin .eql 48 true v10 .nilFunc) w11 fun v12 w13 =>
 ifB v12
 (ru Try.prog (Instr.storeAt 4 v0 (.bool false)) w13 fun w14 =>
 rdW Try.prog (Instr.loadAt 4 v0) w14 fun v15 =>
 K v15 w14)
 (Ca Try.prog 17 #[a0, a2] w13 fun v16 w17 =>
 RFW Try.prog none v16 w17 1 (R32_5 v7 v4 v0) (A32_6 a0 a2 v0 K v7 v4))
theorem F32_eq (a0 a1 a2 : Value) (w : World) (K : Kont) : vcFnJ Try.prog Try.f32 [a0, a1, a2] w K = F32 a0 a1 a2 w K := by kernel_rfl
theorem F32_ok : okF Try.prog Try.f32 3 = true := by kernel_rfl
theorem ca32{a0 a1 a2 : Value} {w : World} {K : Kont} (h : F32 a0 a1 a2 w K) : Ca Try.prog 32 #[a0, a1, a2] w K :=
  ca_of_vcJ Try.noNum Try.func32 F32_ok (by rw [F32_eq]; exact h)


end Go.Proofs
