/-
  Formulas of the program's functions, printed by a program of mine: each is what the computed precondition of the function's body comes to.
  Conditions: none.
-/
import Derived.Test.YtanjfianhnhhmaaG0
import Derived.Test.YtanjfianhnhhmaaVcFn
set_option linter.unusedSimpArgs false
set_option maxRecDepth 100000
set_option linter.unusedVariables false
namespace Go.Proofs
open Go Go.Vc



/-- (*broadside/broadsideref09.Ledger).Get -/
def F24 (a0 a1 : Value) (w : World) (K : Kont) : Prop :=
 rv Try.prog (Instr.alloc 34 true (.tuple #[])) w fun v0 w1 =>
 rv Try.prog (bin .eql 22 true a1 (.int .u32 0)) w1 fun v2 w3 =>
 ifB v2
 (nilK a0 fun v4 => rv Try.prog (Instr.fieldAt 61 v4 0) w3 fun v5 w6 =>
 rv Try.prog (Instr.loadAt 2 v5) w6 fun v7 w8 =>
 rv Try.prog (Instr.build 34 #[(1, v7)]) w8 fun v9 w10 =>
 ru Try.prog (Instr.storeAt 34 v0 v9) w10 fun w11 =>
 rdW Try.prog (Instr.loadAt 34 v0) w11 fun v12 =>
 K (.tuple #[v12, (.int .i64 0)]) w11)
 (Ca Try.prog 48 #[a0, a1] w3 fun v13 w14 =>
 rv Try.prog (bin .lss 3 true v13 (.int .i64 0)) w14 fun v15 w16 =>
 ifB v15
 (rv Try.prog (Instr.build 34 #[]) w16 fun v17 w18 =>
 ru Try.prog (Instr.storeAt 34 v0 v17) w18 fun w19 =>
 rdW Try.prog (Instr.loadAt 34 v0) w19 fun v20 =>
 K (.tuple #[v20, (.int .i64 7)]) w19)
 (nilK a0 fun v21 => rv Try.prog (Instr.fieldAt 61 v21 1) w16 fun v22 w23 =>
 rv Try.prog (Instr.loadAt 58 v22) w23 fun v24 w25 =>
 rv Try.prog (Instr.indexAt 58 v24 v13) w25 fun v26 w27 =>
 rv Try.prog (Instr.loadAt 34 v26) w27 fun v28 w29 =>
 ru Try.prog (Instr.storeAt 34 v0 v28) w29 fun w30 =>
 rdW Try.prog (Instr.loadAt 34 v0) w30 fun v31 =>
 K (.tuple #[v31, (.int .i64 0)]) w30))
theorem F24_eq (a0 a1 : Value) (w : World) (K : Kont) : vcFnJ Try.prog Try.f24 [a0, a1] w K = F24 a0 a1 w K := by kernel_rfl
theorem F24_ok : okF Try.prog Try.f24 2 = true := by kernel_rfl
theorem ca24{a0 a1 : Value} {w : World} {K : Kont} (h : F24 a0 a1 w K) : Ca Try.prog 24 #[a0, a1] w K :=
  ca_of_vcJ Try.noNum Try.func24 F24_ok (by rw [F24_eq]; exact h)


def J21_0 (K : Kont) (a0 : Value) (a2 : Value) (a1 : Value) (v6 : Value) (s13 : Value × Unit) (w14 : World) : Prop :=
 ∀ _ : Nat → Value,
 ifB s13.1
 (K (.int .i64 9) w14)
 (Ca Try.prog 46 #[a0] w14 fun v27 w28 =>
 rv Try.prog (bin .add 2 false v27 a2) w28 fun v29 w30 =>
 rv Try.prog (bin .gtr 2 true v29 (.int .i64 1000000000000000)) w30 fun v31 w32 =>
 ifB v31
 (K (.int .i64 6) w32)
 (rv Try.prog (bin .eql 22 true a1 (.int .u32 0)) w32 fun v33 w34 =>
 ifB v33
 (nilK a0 fun v35 => rv Try.prog (Instr.fieldAt 61 v35 0) w34 fun v36 w37 =>
 rv Try.prog (Instr.loadAt 2 v36) w37 fun v38 w39 =>
 rv Try.prog (bin .add 2 false v38 a2) w39 fun v40 w41 =>
 nilK a0 fun v42 => rv Try.prog (Instr.fieldAt 61 v42 0) w41 fun v43 w44 =>
 ru Try.prog (Instr.storeAt 2 v43 v40) w44 fun w45 =>
 K (.int .i64 0) w45)
 (rv Try.prog (Instr.fieldAt 34 v6 0) w34 fun v46 w47 =>
 ru Try.prog (Instr.storeAt 22 v46 a1) w47 fun w48 =>
 rv Try.prog (Instr.fieldAt 34 v6 1) w48 fun v49 w50 =>
 rv Try.prog (Instr.loadAt 2 v49) w50 fun v51 w52 =>
 rv Try.prog (bin .add 2 false v51 a2) w52 fun v53 w54 =>
 rv Try.prog (Instr.fieldAt 34 v6 1) w54 fun v55 w56 =>
 ru Try.prog (Instr.storeAt 2 v55 v53) w56 fun w57 =>
 rv Try.prog (Instr.loadAt 34 v6) w57 fun v58 w59 =>
 Ca Try.prog 47 #[a0, v58] w59 fun v60 w61 =>
 K (.int .i64 0) w61)))

/-- (*broadside/broadsideref09.Ledger).Deposit -/
def F21 (a0 a1 a2 : Value) (w : World) (K : Kont) : Prop :=
 Ca Try.prog 24 #[a0, a1] w fun v0 w1 =>
 rv Try.prog (Instr.extract v0 0) w1 fun v2 w3 =>
 rv Try.prog (Instr.extract v0 1) w3 fun v4 w5 =>
 rv Try.prog (Instr.alloc 34 true (.tuple #[])) w5 fun v6 w7 =>
 ru Try.prog (Instr.storeAt 34 v6 v2) w7 fun w8 =>
 Ca Try.prog 45 #[a2, (.int .i64 1), (.int .i64 1000000000000000)] w8 fun v9 w10 =>
 rv Try.prog (Op.unary .not v9) w10 fun v11 w12 =>
 ifB v11
 (K (.int .i64 2) w12)
 (JoinW (S := Value × Unit) (fun J15 =>
 rv Try.prog (bin .neq 25 true v4 (.int .i64 0)) w12 fun v16 w17 =>
 ifB v16
 (nilK a0 fun v18 => rv Try.prog (Instr.fieldAt 61 v18 1) w17 fun v19 w20 =>
 rv Try.prog (Instr.loadAt 58 v19) w20 fun v21 w22 =>
 rn Try.prog (builtin .len #[58] 3 #[false] #[v21]) w22 fun v23 w24 =>
 rv Try.prog (bin .geq 3 true v23 (.int .i64 64)) w24 fun v25 w26 =>
 J15 (v25, ()) w26)
 (J15 ((.bool false), ()) w17))
 (J21_0 K a0 a2 a1 v6))
theorem F21_eq (a0 a1 a2 : Value) (w : World) (K : Kont) : vcFnJ Try.prog Try.f21 [a0, a1, a2] w K = F21 a0 a1 a2 w K := by kernel_rfl
theorem F21_ok : okF Try.prog Try.f21 3 = true := by kernel_rfl
theorem ca21{a0 a1 a2 : Value} {w : World} {K : Kont} (h : F21 a0 a1 a2 w K) : Ca Try.prog 21 #[a0, a1, a2] w K :=
  ca_of_vcJ Try.noNum Try.func21 F21_ok (by rw [F21_eq]; exact h)


def J23_0 (K : Kont) (a0 : Value) (a1 : Value) (a2 : Value) (s0 : Value × Unit) (w1 : World) : Prop :=
 ∀ _ : Nat → Value,
 ifB s0.1
 (K (.int .i64 2) w1)
 (Ca Try.prog 24 #[a0, a1] w1 fun v9 w10 =>
 rv Try.prog (Instr.extract v9 0) w10 fun v11 w12 =>
 rv Try.prog (Instr.extract v9 1) w12 fun v13 w14 =>
 rv Try.prog (Instr.alloc 34 true (.tuple #[])) w14 fun v15 w16 =>
 ru Try.prog (Instr.storeAt 34 v15 v11) w16 fun w17 =>
 rv Try.prog (bin .neq 25 true v13 (.int .i64 0)) w17 fun v18 w19 =>
 ifB v18
 (K v13 w19)
 (rv Try.prog (Instr.fieldAt 34 v15 1) w19 fun v20 w21 =>
 rv Try.prog (Instr.loadAt 2 v20) w21 fun v22 w23 =>
 rv Try.prog (bin .lss 2 false v22 a2) w23 fun v24 w25 =>
 ifB v24
 (K (.int .i64 90) w25)
 (rv Try.prog (Instr.fieldAt 34 v15 1) w25 fun v26 w27 =>
 rv Try.prog (Instr.loadAt 2 v26) w27 fun v28 w29 =>
 rv Try.prog (bin .sub 2 false v28 a2) w29 fun v30 w31 =>
 rv Try.prog (Instr.fieldAt 34 v15 1) w31 fun v32 w33 =>
 ru Try.prog (Instr.storeAt 2 v32 v30) w33 fun w34 =>
 rv Try.prog (Instr.loadAt 34 v15) w34 fun v35 w36 =>
 Ca Try.prog 47 #[a0, v35] w36 fun v37 w38 =>
 K (.int .i64 0) w38)))

/-- (*broadside/broadsideref09.Ledger).Withdraw -/
def F23 (a0 a1 a2 : Value) (w : World) (K : Kont) : Prop :=
 JoinW (S := Value × Unit) (fun J2 =>
 rv Try.prog (bin .eql 22 true a1 (.int .u32 0)) w fun v3 w4 =>
 ifB v3
 (J2 ((.bool true), ()) w4)
 (Ca Try.prog 45 #[a2, (.int .i64 1), (.int .i64 1000000000000000)] w4 fun v5 w6 =>
 rv Try.prog (Op.unary .not v5) w6 fun v7 w8 =>
 J2 (v7, ()) w8))
 (J23_0 K a0 a1 a2)
theorem F23_eq (a0 a1 a2 : Value) (w : World) (K : Kont) : vcFnJ Try.prog Try.f23 [a0, a1, a2] w K = F23 a0 a1 a2 w K := by kernel_rfl
theorem F23_ok : okF Try.prog Try.f23 3 = true := by kernel_rfl
theorem ca23{a0 a1 a2 : Value} {w : World} {K : Kont} (h : F23 a0 a1 a2 w K) : Ca Try.prog 23 #[a0, a1, a2] w K :=
  ca_of_vcJ Try.noNum Try.func23 F23_ok (by rw [F23_eq]; exact h)


def J26_0 (K : Kont) (v0 : Value) (a0 : Value) (s2 : Value × Unit) (w3 : World) : Prop :=
 ∀ _ : Nat → Value,
 ifB s2.1
 (K (.int .i64 2) w3)
 (rv Try.prog (Instr.fieldAt 34 v0 0) w3 fun v27 w28 =>
 rv Try.prog (Instr.loadAt 22 v27) w28 fun v29 w30 =>
 Ca Try.prog 24 #[a0, v29] w30 fun v31 w32 =>
 rv Try.prog (Instr.extract v31 0) w32 fun v33 w34 =>
 rv Try.prog (Instr.extract v31 1) w34 fun v35 w36 =>
 rv Try.prog (Instr.alloc 34 true (.tuple #[])) w36 fun v37 w38 =>
 ru Try.prog (Instr.storeAt 34 v37 v33) w38 fun w39 =>
 rv Try.prog (bin .neq 25 true v35 (.int .i64 0)) w39 fun v40 w41 =>
 ifB v40
 (K v35 w41)
 (rv Try.prog (Instr.fieldAt 34 v0 0) w41 fun v42 w43 =>
 rv Try.prog (Instr.loadAt 22 v42) w43 fun v44 w45 =>
 rv Try.prog (bin .eql 22 true v44 (.int .u32 0)) w45 fun v46 w47 =>
 ifB v46
 (rv Try.prog (Instr.fieldAt 34 v0 1) w47 fun v48 w49 =>
 rv Try.prog (Instr.loadAt 2 v48) w49 fun v50 w51 =>
 nilK a0 fun v52 => rv Try.prog (Instr.fieldAt 61 v52 0) w51 fun v53 w54 =>
 ru Try.prog (Instr.storeAt 2 v53 v50) w54 fun w55 =>
 K (.int .i64 0) w55)
 (rv Try.prog (Instr.loadAt 34 v0) w47 fun v56 w57 =>
 Ca Try.prog 47 #[a0, v56] w57 fun v58 w59 =>
 K (.int .i64 0) w59)))

/-- (*broadside/broadsideref09.Ledger).Set -/
def F26 (a0 a1 : Value) (w : World) (K : Kont) : Prop :=
 rv Try.prog (Instr.box 34 a1) w fun v0 w1 =>
 JoinW (S := Value × Unit) (fun J4 =>
 rv Try.prog (Instr.fieldAt 34 v0 1) w1 fun v5 w6 =>
 rv Try.prog (Instr.loadAt 2 v5) w6 fun v7 w8 =>
 Ca Try.prog 45 #[v7, (.int .i64 0), (.int .i64 1000000000000000)] w8 fun v9 w10 =>
 rv Try.prog (Op.unary .not v9) w10 fun v11 w12 =>
 ifB v11
 (J4 ((.bool true), ()) w12)
 (rv Try.prog (Instr.fieldAt 34 v0 0) w12 fun v13 w14 =>
 rv Try.prog (Instr.loadAt 22 v13) w14 fun v15 w16 =>
 rv Try.prog (bin .eql 22 true v15 (.int .u32 0)) w16 fun v17 w18 =>
 ifB v17
 (rv Try.prog (Instr.fieldAt 34 v0 2) w18 fun v19 w20 =>
 rv Try.prog (Instr.loadAt 4 v19) w20 fun v21 w22 =>
 ifB v21
 (J4 ((.bool true), ()) w22)
 (rv Try.prog (Instr.fieldAt 34 v0 3) w22 fun v23 w24 =>
 rv Try.prog (Instr.loadAt 4 v23) w24 fun v25 w26 =>
 J4 (v25, ()) w26))
 (J4 ((.bool false), ()) w18)))
 (J26_0 K v0 a0)
theorem F26_eq (a0 a1 : Value) (w : World) (K : Kont) : vcFnJ Try.prog Try.f26 [a0, a1] w K = F26 a0 a1 w K := by kernel_rfl
theorem F26_ok : okF Try.prog Try.f26 2 = true := by kernel_rfl
theorem ca26{a0 a1 : Value} {w : World} {K : Kont} (h : F26 a0 a1 w K) : Ca Try.prog 26 #[a0, a1] w K :=
  ca_of_vcJ Try.noNum Try.func26 F26_ok (by rw [F26_eq]; exact h)


def J27_0 (K : Kont) (v32 : Value) (a0 : Value) (v37 : Value) (s80 : Value × Unit) (w81 : World) : Prop :=
 ∀ _ : Nat → Value,
 ifB s80.1
 (K (.int .i64 6) w81)
 (rv Try.prog (Instr.loadAt 31 v32) w81 fun v107 w108 =>
 Ca Try.prog 49 #[a0, v107] w108 fun v109 w110 =>
 rv Try.prog (Instr.loadAt 31 v37) w110 fun v111 w112 =>
 Ca Try.prog 49 #[a0, v111] w112 fun v113 w114 =>
 K (.int .i64 0) w114)

def J27_1 (K : Kont) (a0 : Value) (a1 : Value) (a2 : Value) (a3 : Value) (a5 : Value) (a4 : Value) (s19 : Value × Unit) (w20 : World) : Prop :=
 ∀ _ : Nat → Value,
 ifB s19.1
 (K (.int .i64 7) w20)
 (Ca Try.prog 30 #[a0, a1, a2] w20 fun v30 w31 =>
 rv Try.prog (Instr.alloc 31 true (.tuple #[])) w31 fun v32 w33 =>
 ru Try.prog (Instr.storeAt 31 v32 v30) w33 fun w34 =>
 Ca Try.prog 30 #[a0, a1, a3] w34 fun v35 w36 =>
 rv Try.prog (Instr.alloc 31 true (.tuple #[])) w36 fun v37 w38 =>
 ru Try.prog (Instr.storeAt 31 v37 v35) w38 fun w39 =>
 rv Try.prog (Instr.fieldAt 31 v32 2) w39 fun v40 w41 =>
 rv Try.prog (Instr.loadAt 2 v40) w41 fun v42 w43 =>
 rv Try.prog (bin .add 2 false v42 a5) w43 fun v44 w45 =>
 rv Try.prog (Instr.fieldAt 31 v32 2) w45 fun v46 w47 =>
 ru Try.prog (Instr.storeAt 2 v46 v44) w47 fun w48 =>
 rv Try.prog (Instr.fieldAt 31 v37 2) w48 fun v49 w50 =>
 rv Try.prog (Instr.loadAt 2 v49) w50 fun v51 w52 =>
 rv Try.prog (bin .sub 2 false v51 a5) w52 fun v53 w54 =>
 rv Try.prog (Instr.fieldAt 31 v37 2) w54 fun v55 w56 =>
 ru Try.prog (Instr.storeAt 2 v55 v53) w56 fun w57 =>
 rv Try.prog (Instr.fieldAt 31 v32 3) w57 fun v58 w59 =>
 rv Try.prog (Instr.loadAt 2 v58) w59 fun v60 w61 =>
 rv Try.prog (bin .mul 2 false a4 a5) w61 fun v62 w63 =>
 rv Try.prog (bin .add 2 false v60 v62) w63 fun v64 w65 =>
 rv Try.prog (Instr.fieldAt 31 v32 3) w65 fun v66 w67 =>
 ru Try.prog (Instr.storeAt 2 v66 v64) w67 fun w68 =>
 rv Try.prog (Instr.fieldAt 31 v37 3) w68 fun v69 w70 =>
 rv Try.prog (Instr.loadAt 2 v69) w70 fun v71 w72 =>
 rv Try.prog (bin .mul 2 false a4 a5) w72 fun v73 w74 =>
 rv Try.prog (bin .sub 2 false v71 v73) w74 fun v75 w76 =>
 rv Try.prog (Instr.fieldAt 31 v37 3) w76 fun v77 w78 =>
 ru Try.prog (Instr.storeAt 2 v77 v75) w78 fun w79 =>
 JoinW (S := Value × Unit) (fun J82 =>
 rv Try.prog (Instr.fieldAt 31 v32 2) w79 fun v83 w84 =>
 rv Try.prog (Instr.loadAt 2 v83) w84 fun v85 w86 =>
 rv Try.prog (bin .gtr 2 true v85 (.int .i64 10000000)) w86 fun v87 w88 =>
 ifB v87
 (J82 ((.bool true), ()) w88)
 (rv Try.prog (Instr.fieldAt 31 v37 2) w88 fun v89 w90 =>
 rv Try.prog (Instr.loadAt 2 v89) w90 fun v91 w92 =>
 rv Try.prog (bin .lss 2 true v91 (.int .i64 (-10000000))) w92 fun v93 w94 =>
 ifB v93
 (J82 ((.bool true), ()) w94)
 (rv Try.prog (Instr.fieldAt 31 v32 3) w94 fun v95 w96 =>
 rv Try.prog (Instr.loadAt 2 v95) w96 fun v97 w98 =>
 rv Try.prog (bin .gtr 2 true v97 (.int .i64 1000000000000000)) w98 fun v99 w100 =>
 ifB v99
 (J82 ((.bool true), ()) w100)
 (rv Try.prog (Instr.fieldAt 31 v37 3) w100 fun v101 w102 =>
 rv Try.prog (Instr.loadAt 2 v101) w102 fun v103 w104 =>
 rv Try.prog (bin .lss 2 true v103 (.int .i64 (-1000000000000000))) w104 fun v105 w106 =>
 J82 (v105, ()) w106))))
 (J27_0 K v32 a0 v37))

def J27_2 (K : Kont) (a0 : Value) (a2 : Value) (a3 : Value) (a1 : Value) (a5 : Value) (a4 : Value) (s0 : Value × Unit) (w1 : World) : Prop :=
 ∀ _ : Nat → Value,
 ifB s0.1
 (K (.int .i64 2) w1)
 (JoinW (S := Value × Unit) (fun J21 =>
 Ca Try.prog 48 #[a0, a2] w1 fun v22 w23 =>
 rv Try.prog (bin .lss 3 true v22 (.int .i64 0)) w23 fun v24 w25 =>
 ifB v24
 (J21 ((.bool true), ()) w25)
 (Ca Try.prog 48 #[a0, a3] w25 fun v26 w27 =>
 rv Try.prog (bin .lss 3 true v26 (.int .i64 0)) w27 fun v28 w29 =>
 J21 (v28, ()) w29))
 (J27_1 K a0 a1 a2 a3 a5 a4))

/-- (*broadside/broadsideref09.Ledger).Trade -/
def F27 (a0 a1 a2 a3 a4 a5 : Value) (w : World) (K : Kont) : Prop :=
 JoinW (S := Value × Unit) (fun J2 =>
 rv Try.prog (bin .eql 22 true a1 (.int .u32 0)) w fun v3 w4 =>
 ifB v3
 (J2 ((.bool true), ()) w4)
 (rv Try.prog (bin .eql 22 true a2 (.int .u32 0)) w4 fun v5 w6 =>
 ifB v5
 (J2 ((.bool true), ()) w6)
 (rv Try.prog (bin .eql 22 true a3 (.int .u32 0)) w6 fun v7 w8 =>
 ifB v7
 (J2 ((.bool true), ()) w8)
 (rv Try.prog (bin .eql 22 false a2 a3) w8 fun v9 w10 =>
 ifB v9
 (J2 ((.bool true), ()) w10)
 (Ca Try.prog 45 #[a4, (.int .i64 1), (.int .i64 10000000)] w10 fun v11 w12 =>
 rv Try.prog (Op.unary .not v11) w12 fun v13 w14 =>
 ifB v13
 (J2 ((.bool true), ()) w14)
 (Ca Try.prog 45 #[a5, (.int .i64 1), (.int .i64 10000000)] w14 fun v15 w16 =>
 rv Try.prog (Op.unary .not v15) w16 fun v17 w18 =>
 J2 (v17, ()) w18))))))
 (J27_2 K a0 a2 a3 a1 a5 a4)
theorem F27_eq (a0 a1 a2 a3 a4 a5 : Value) (w : World) (K : Kont) : vcFnJ Try.prog Try.f27 [a0, a1, a2, a3, a4, a5] w K = F27 a0 a1 a2 a3 a4 a5 w K := by kernel_rfl
theorem F27_ok : okF Try.prog Try.f27 6 = true := by kernel_rfl
theorem ca27{a0 a1 a2 a3 a4 a5 : Value} {w : World} {K : Kont} (h : F27 a0 a1 a2 a3 a4 a5 w K) : Ca Try.prog 27 #[a0, a1, a2, a3, a4, a5] w K :=
  ca_of_vcJ Try.noNum Try.func27 F27_ok (by rw [F27_eq]; exact h)


def J28_0 (v22 : Value) (a0 : Value) (s11 : Value × Value × Unit) (K13 : Value × Value × Unit → World → Prop) (v45 : Value) (s50 : Unit) (w51 : World) : Prop :=
 ∀ _ : Nat → Value,
 rv Try.prog (Instr.loadAt 31 v22) w51 fun v60 w61 =>
 Ca Try.prog 49 #[a0, v60] w61 fun v62 w63 =>
 rv Try.prog (bin .add 3 true s11.2.1 (.int .i64 1)) w63 fun v64 w65 =>
 K13 (v45, v64, ()) w65

def L28_1 (v9 : Value) (a2 : Value) (a3 : Value) (a1 : Value) (a0 : Value) (K : Kont) (s11 : Value × Value × Unit) (w12 : World) (K13 : Value × Value × Unit → World → Prop) : Prop :=
 ∀ _ : Nat → Value,
 rn Try.prog (builtin .len #[59] 3 #[false] #[v9]) w12 fun v14 w15 =>
 rv Try.prog (bin .lss 3 false s11.2.1 v14) w15 fun v16 w17 =>
 ifB v16
 (rv Try.prog (Instr.indexAt 59 v9 s11.2.1) w17 fun v18 w19 =>
 rv Try.prog (Instr.loadAt 31 v18) w19 fun v20 w21 =>
 rv Try.prog (Instr.alloc 31 true (.tuple #[])) w21 fun v22 w23 =>
 ru Try.prog (Instr.storeAt 31 v22 v20) w23 fun w24 =>
 rv Try.prog (Instr.fieldAt 31 v22 2) w24 fun v25 w26 =>
 rv Try.prog (Instr.loadAt 2 v25) w26 fun v27 w28 =>
 rv Try.prog (bin .mul 2 false v27 a2) w28 fun v29 w30 =>
 rv Try.prog (Instr.fieldAt 31 v22 1) w30 fun v31 w32 =>
 rv Try.prog (Instr.loadAt 22 v31) w32 fun v33 w34 =>
 rv Try.prog (Instr.fieldAt 31 v22 3) w34 fun v35 w36 =>
 rv Try.prog (Instr.loadAt 2 v35) w36 fun v37 w38 =>
 rv Try.prog (bin .sub 2 false v29 v37) w38 fun v39 w40 =>
 rv Try.prog (Instr.build 45 #[(0, v33), (1, v39)]) w40 fun v41 w42 =>
 rx Try.prog (xLit 41 1 [(0, v41)]) w42 fun v43 w44 =>
 rx Try.prog (xAppend #[41, 41] 41 [s11.1, v43]) w44 fun v45 w46 =>
 rv Try.prog (Instr.fieldAt 31 v22 3) w46 fun v47 w48 =>
 ru Try.prog (Instr.storeAt 2 v47 v29) w48 fun w49 =>
 JoinW (S := Unit) (fun J52 =>
 ifB a3
 (rv Try.prog (Instr.fieldAt 31 v22 1) w49 fun v53 w54 =>
 rv Try.prog (Instr.loadAt 22 v53) w54 fun v55 w56 =>
 rv Try.prog (Instr.build 31 #[(0, a1), (1, v55)]) w56 fun v57 w58 =>
 ru Try.prog (Instr.storeAt 31 v22 v57) w58 fun w59 =>
 J52 (()) w59)
 (J52 (()) w49))
 (J28_0 v22 a0 s11 K13 v45))
 (K (.tuple #[s11.1, (.int .i64 0)]) w17)

def J28_2 (K : Kont) (a0 : Value) (a1 : Value) (a2 : Value) (a3 : Value) (s0 : Value × Unit) (w1 : World) : Prop :=
 ∀ _ : Nat → Value,
 ifB s0.1
 (K (.tuple #[(.slice none 0 0), (.int .i64 2)]) w1)
 (Ca Try.prog 50 #[a0, a1] w1 fun v9 w10 =>
 LoopW (S := Value × Value × Unit) (L28_1 v9 a2 a3 a1 a0 K) ((.slice none 0 0), (.int .i64 0), ()) w10)

/-- (*broadside/broadsideref09.Ledger).Mark -/
def F28 (a0 a1 a2 a3 : Value) (w : World) (K : Kont) : Prop :=
 JoinW (S := Value × Unit) (fun J2 =>
 rv Try.prog (bin .eql 22 true a1 (.int .u32 0)) w fun v3 w4 =>
 ifB v3
 (J2 ((.bool true), ()) w4)
 (Ca Try.prog 45 #[a2, (.int .i64 1), (.int .i64 10000000)] w4 fun v5 w6 =>
 rv Try.prog (Op.unary .not v5) w6 fun v7 w8 =>
 J2 (v7, ()) w8))
 (J28_2 K a0 a1 a2 a3)
theorem F28_eq (a0 a1 a2 a3 : Value) (w : World) (K : Kont) : vcFnJ Try.prog Try.f28 [a0, a1, a2, a3] w K = F28 a0 a1 a2 a3 w K := by kernel_rfl
theorem F28_ok : okF Try.prog Try.f28 4 = true := by kernel_rfl
theorem ca28{a0 a1 a2 a3 : Value} {w : World} {K : Kont} (h : F28 a0 a1 a2 a3 w K) : Ca Try.prog 28 #[a0, a1, a2, a3] w K :=
  ca_of_vcJ Try.noNum Try.func28 F28_ok (by rw [F28_eq]; exact h)


def L29_0 (a0 : Value) (a1 : Value) (K : Kont) (s6 : Value × Value × Unit) (w7 : World) (K8 : Value × Value × Unit → World → Prop) : Prop :=
 ∀ _ : Nat → Value,
 rn Try.prog (builtin .len #[41] 3 #[false] #[a0]) w7 fun v9 w10 =>
 rv Try.prog (bin .lss 3 false s6.2.1 v9) w10 fun v11 w12 =>
 ifB v11
 (rdP Try.prog (Instr.indexAt 41 a0 s6.2.1) fun v13 =>
 rdW Try.prog (Instr.loadAt 45 v13) w12.drew fun v14 =>
 rdP Try.prog (Instr.indexAt 41 a1 s6.2.1) fun v15 =>
 rdW Try.prog (Instr.loadAt 45 v15) w12.drew fun v16 =>
 rdP Try.prog (bin .neq 45 false v14 v16) fun v17 =>
 ifB v17
 (K (.bool false) w12.drew)
 (rv Try.prog (bin .add 3 true s6.2.1 (.int .i64 1)) w12.drew fun v18 w19 =>
 K8 (s6.1, v18, ()) w19))
 (K (.bool true) w12)

/-- broadside/broadsideref09.SameVariations -/
def F29 (a0 a1 : Value) (w : World) (K : Kont) : Prop :=
 rn Try.prog (builtin .len #[41] 3 #[false] #[a0]) w fun v0 w1 =>
 rn Try.prog (builtin .len #[41] 3 #[false] #[a1]) w1 fun v2 w3 =>
 rv Try.prog (bin .neq 3 false v0 v2) w3 fun v4 w5 =>
 ifB v4
 (K (.bool false) w5)
 (LoopW (S := Value × Value × Unit) (L29_0 a0 a1 K) ((.bool false), (.int .i64 0), ()) w5)
theorem F29_eq (a0 a1 : Value) (w : World) (K : Kont) : vcFnJ Try.prog Try.f29 [a0, a1] w K = F29 a0 a1 w K := by kernel_rfl
theorem F29_ok : okF Try.prog Try.f29 2 = true := by kernel_rfl
theorem ca29{a0 a1 : Value} {w : World} {K : Kont} (h : F29 a0 a1 w K) : Ca Try.prog 29 #[a0, a1] w K :=
  ca_of_vcJ Try.noNum Try.func29 F29_ok (by rw [F29_eq]; exact h)


def J30_0 (a0 : Value) (s2 : Value × Unit) (v0 : Value) (K : Kont) (K4 : Value × Unit → World → Prop) (s14 : Value × Unit) (w15 : World) : Prop :=
 ∀ _ : Nat → Value,
 ifB s14.1
 (nilK a0 fun v43 => rv Try.prog (Instr.fieldAt 61 v43 2) w15 fun v44 w45 =>
 rv Try.prog (Instr.loadAt 59 v44) w45 fun v46 w47 =>
 rv Try.prog (Instr.indexAt 59 v46 s2.1) w47 fun v48 w49 =>
 rv Try.prog (Instr.loadAt 31 v48) w49 fun v50 w51 =>
 ru Try.prog (Instr.storeAt 31 v0 v50) w51 fun w52 =>
 rdW Try.prog (Instr.loadAt 31 v0) w52 fun v53 =>
 K v53 w52)
 (rv Try.prog (bin .add 3 true s2.1 (.int .i64 1)) w15 fun v54 w55 =>
 K4 (v54, ()) w55)

def L30_1 (a0 : Value) (a1 : Value) (a2 : Value) (v0 : Value) (K : Kont) (s2 : Value × Unit) (w3 : World) (K4 : Value × Unit → World → Prop) : Prop :=
 ∀ _ : Nat → Value,
 nilK a0 fun v5 => rv Try.prog (Instr.fieldAt 61 v5 2) w3 fun v6 w7 =>
 rv Try.prog (Instr.loadAt 59 v6) w7 fun v8 w9 =>
 rn Try.prog (builtin .len #[59] 3 #[false] #[v8]) w9 fun v10 w11 =>
 rv Try.prog (bin .lss 3 false s2.1 v10) w11 fun v12 w13 =>
 ifB v12
 (JoinW (S := Value × Unit) (fun J16 =>
 nilK a0 fun v17 => rv Try.prog (Instr.fieldAt 61 v17 2) w13 fun v18 w19 =>
 rv Try.prog (Instr.loadAt 59 v18) w19 fun v20 w21 =>
 rv Try.prog (Instr.indexAt 59 v20 s2.1) w21 fun v22 w23 =>
 rv Try.prog (Instr.fieldAt 31 v22 0) w23 fun v24 w25 =>
 rv Try.prog (Instr.loadAt 22 v24) w25 fun v26 w27 =>
 rv Try.prog (bin .eql 22 false v26 a1) w27 fun v28 w29 =>
 ifB v28
 (nilK a0 fun v30 => rv Try.prog (Instr.fieldAt 61 v30 2) w29 fun v31 w32 =>
 rv Try.prog (Instr.loadAt 59 v31) w32 fun v33 w34 =>
 rv Try.prog (Instr.indexAt 59 v33 s2.1) w34 fun v35 w36 =>
 rv Try.prog (Instr.fieldAt 31 v35 1) w36 fun v37 w38 =>
 rv Try.prog (Instr.loadAt 22 v37) w38 fun v39 w40 =>
 rv Try.prog (bin .eql 22 false v39 a2) w40 fun v41 w42 =>
 J16 (v41, ()) w42)
 (J16 ((.bool false), ()) w29))
 (J30_0 a0 s2 v0 K K4))
 (rv Try.prog (Instr.build 31 #[(0, a1), (1, a2)]) w13 fun v56 w57 =>
 ru Try.prog (Instr.storeAt 31 v0 v56) w57 fun w58 =>
 rdW Try.prog (Instr.loadAt 31 v0) w58 fun v59 =>
 K v59 w58)

/-- (*broadside/broadsideref09.Ledger).Position -/
def F30 (a0 a1 a2 : Value) (w : World) (K : Kont) : Prop :=
 rv Try.prog (Instr.alloc 31 true (.tuple #[])) w fun v0 w1 =>
 LoopW (S := Value × Unit) (L30_1 a0 a1 a2 v0 K) ((.int .i64 0), ()) w1
theorem F30_eq (a0 a1 a2 : Value) (w : World) (K : Kont) : vcFnJ Try.prog Try.f30 [a0, a1, a2] w K = F30 a0 a1 a2 w K := by kernel_rfl
theorem F30_ok : okF Try.prog Try.f30 3 = true := by kernel_rfl
theorem ca30{a0 a1 a2 : Value} {w : World} {K : Kont} (h : F30 a0 a1 a2 w K) : Ca Try.prog 30 #[a0, a1, a2] w K :=
  ca_of_vcJ Try.noNum Try.func30 F30_ok (by rw [F30_eq]; exact h)


def J34_0 (K : Kont) (s23 : Value × Value × Value × Unit) (K25 : Value × Value × Value × Unit → World → Prop) (s30 : Value × Unit) (w31 : World) : Prop :=
 ∀ _ : Nat → Value,
 ifB s30.1
 (K (.tuple #[(.pointer none), (.int .i64 2)]) w31)
 (rv Try.prog (bin .add 3 true s23.2.2.1 (.int .i64 1)) w31 fun v58 w59 =>
 K25 (s23.1, s23.2.1, v58, ()) w59)

def J34_1 (K : Kont) (s64 : Value × Value × Value × Unit) (K66 : Value × Value × Value × Unit → World → Prop) (s103 : Value × Unit) (w104 : World) : Prop :=
 ∀ _ : Nat → Value,
 ifB s103.1
 (K (.tuple #[(.pointer none), (.int .i64 2)]) w104)
 (rv Try.prog (bin .add 3 true s64.2.2.1 (.int .i64 1)) w104 fun v164 w165 =>
 K66 (s64.1, s64.2.1, v164, ()) w165)

def J34_2 (K : Kont) (v75 : Value) (v21 : Value) (s64 : Value × Value × Value × Unit) (K66 : Value × Value × Value × Unit → World → Prop) (s78 : Value × Unit) (w79 : World) : Prop :=
 ∀ _ : Nat → Value,
 ifB s78.1
 (K (.tuple #[(.pointer none), (.int .i64 2)]) w79)
 (JoinW (S := Value × Unit) (fun J105 =>
 rv Try.prog (Instr.fieldAt 31 v75 0) w79 fun v106 w107 =>
 rv Try.prog (Instr.loadAt 22 v106) w107 fun v108 w109 =>
 rv Try.prog (bin .eql 22 true v108 (.int .u32 0)) w109 fun v110 w111 =>
 ifB v110
 (J105 ((.bool true), ()) w111)
 (rv Try.prog (Instr.fieldAt 31 v75 1) w111 fun v112 w113 =>
 rv Try.prog (Instr.loadAt 22 v112) w113 fun v114 w115 =>
 Ca Try.prog 48 #[v21, v114] w115 fun v116 w117 =>
 rv Try.prog (bin .lss 3 true v116 (.int .i64 0)) w117 fun v118 w119 =>
 ifB v118
 (J105 ((.bool true), ()) w119)
 (rv Try.prog (Instr.fieldAt 31 v75 2) w119 fun v120 w121 =>
 rv Try.prog (Instr.loadAt 2 v120) w121 fun v122 w123 =>
 rv Try.prog (bin .eql 2 true v122 (.int .i64 0)) w123 fun v124 w125 =>
 ifB v124
 (rv Try.prog (Instr.fieldAt 31 v75 3) w125 fun v126 w127 =>
 rv Try.prog (Instr.loadAt 2 v126) w127 fun v128 w129 =>
 rv Try.prog (bin .eql 2 true v128 (.int .i64 0)) w129 fun v130 w131 =>
 ifB v130
 (J105 ((.bool true), ()) w131)
 (rv Try.prog (Instr.fieldAt 31 v75 2) w131 fun v132 w133 =>
 rv Try.prog (Instr.loadAt 2 v132) w133 fun v134 w135 =>
 Ca Try.prog 45 #[v134, (.int .i64 (-10000000)), (.int .i64 10000000)] w135 fun v136 w137 =>
 rv Try.prog (Op.unary .not v136) w137 fun v138 w139 =>
 ifB v138
 (J105 ((.bool true), ()) w139)
 (rv Try.prog (Instr.fieldAt 31 v75 3) w139 fun v140 w141 =>
 rv Try.prog (Instr.loadAt 2 v140) w141 fun v142 w143 =>
 Ca Try.prog 45 #[v142, (.int .i64 (-1000000000000000)), (.int .i64 1000000000000000)] w143 fun v144 w145 =>
 rv Try.prog (Op.unary .not v144) w145 fun v146 w147 =>
 J105 (v146, ()) w147)))
 (rv Try.prog (Instr.fieldAt 31 v75 2) w125 fun v148 w149 =>
 rv Try.prog (Instr.loadAt 2 v148) w149 fun v150 w151 =>
 Ca Try.prog 45 #[v150, (.int .i64 (-10000000)), (.int .i64 10000000)] w151 fun v152 w153 =>
 rv Try.prog (Op.unary .not v152) w153 fun v154 w155 =>
 ifB v154
 (J105 ((.bool true), ()) w155)
 (rv Try.prog (Instr.fieldAt 31 v75 3) w155 fun v156 w157 =>
 rv Try.prog (Instr.loadAt 2 v156) w157 fun v158 w159 =>
 Ca Try.prog 45 #[v158, (.int .i64 (-1000000000000000)), (.int .i64 1000000000000000)] w159 fun v160 w161 =>
 rv Try.prog (Op.unary .not v160) w161 fun v162 w163 =>
 J105 (v162, ()) w163)))))
 (J34_1 K s64 K66))

def J34_3 (K : Kont) (s166 : Value × Value × Value × Unit) (K168 : Value × Value × Value × Unit → World → Prop) (s206 : Value × Unit) (w207 : World) : Prop :=
 ∀ _ : Nat → Value,
 ifB s206.1
 (K (.tuple #[(.pointer none), (.int .i64 2)]) w207)
 (rv Try.prog (bin .add 3 true s166.2.2.1 (.int .i64 1)) w207 fun v213 w214 =>
 K168 (s166.1, s166.2.1, v213, ()) w214)

def L34_4 (v179 : Value) (K : Kont) (s166 : Value × Value × Value × Unit) (K168 : Value × Value × Value × Unit → World → Prop) (s181 : Value × Value × Value × Unit) (w182 : World) (K183 : Value × Value × Value × Unit → World → Prop) : Prop :=
 ∀ _ : Nat → Value,
 rn Try.prog (builtin .len #[59] 3 #[false] #[v179]) w182 fun v184 w185 =>
 rv Try.prog (bin .lss 3 false s181.2.2.1 v184) w185 fun v186 w187 =>
 ifB v186
 (rv Try.prog (Instr.indexAt 59 v179 s181.2.2.1) w187 fun v188 w189 =>
 rv Try.prog (Instr.fieldAt 31 v188 2) w189 fun v190 w191 =>
 rv Try.prog (Instr.loadAt 2 v190) w191 fun v192 w193 =>
 rv Try.prog (bin .add 2 false s181.1 v192) w193 fun v194 w195 =>
 rv Try.prog (Instr.indexAt 59 v179 s181.2.2.1) w195 fun v196 w197 =>
 rv Try.prog (Instr.fieldAt 31 v196 3) w197 fun v198 w199 =>
 rv Try.prog (Instr.loadAt 2 v198) w199 fun v200 w201 =>
 rv Try.prog (bin .add 2 false s181.2.1 v200) w201 fun v202 w203 =>
 rv Try.prog (bin .add 3 true s181.2.2.1 (.int .i64 1)) w203 fun v204 w205 =>
 K183 (v194, v202, v204, ()) w205)
 (JoinW (S := Value × Unit) (fun J208 =>
 rv Try.prog (bin .neq 2 true s181.1 (.int .i64 0)) w187 fun v209 w210 =>
 ifB v209
 (J208 ((.bool true), ()) w210)
 (rv Try.prog (bin .neq 2 true s181.2.1 (.int .i64 0)) w210 fun v211 w212 =>
 J208 (v211, ()) w212))
 (J34_3 K s166 K168))

def L34_5 (a2 : Value) (v21 : Value) (K : Kont) (s166 : Value × Value × Value × Unit) (w167 : World) (K168 : Value × Value × Value × Unit → World → Prop) : Prop :=
 ∀ _ : Nat → Value,
 rn Try.prog (builtin .len #[59] 3 #[false] #[a2]) w167 fun v169 w170 =>
 rv Try.prog (bin .lss 3 false s166.2.2.1 v169) w170 fun v171 w172 =>
 ifB v171
 (rv Try.prog (Instr.indexAt 59 a2 s166.2.2.1) w172 fun v173 w174 =>
 rv Try.prog (Instr.fieldAt 31 v173 0) w174 fun v175 w176 =>
 rv Try.prog (Instr.loadAt 22 v175) w176 fun v177 w178 =>
 Ca Try.prog 50 #[v21, v177] w178 fun v179 w180 =>
 LoopW (S := Value × Value × Value × Unit) (L34_4 v179 K s166 K168) ((.int .i64 0), (.int .i64 0), (.int .i64 0), ()) w180)
 (K (.tuple #[v21, (.int .i64 0)]) w172)

def L34_6 (a2 : Value) (K : Kont) (v21 : Value) (s64 : Value × Value × Value × Unit) (w65 : World) (K66 : Value × Value × Value × Unit → World → Prop) : Prop :=
 ∀ _ : Nat → Value,
 rn Try.prog (builtin .len #[59] 3 #[false] #[a2]) w65 fun v67 w68 =>
 rv Try.prog (bin .lss 3 false s64.2.2.1 v67) w68 fun v69 w70 =>
 ifB v69
 (rv Try.prog (Instr.indexAt 59 a2 s64.2.2.1) w70 fun v71 w72 =>
 rv Try.prog (Instr.loadAt 31 v71) w72 fun v73 w74 =>
 rv Try.prog (Instr.alloc 31 true (.tuple #[])) w74 fun v75 w76 =>
 ru Try.prog (Instr.storeAt 31 v75 v73) w76 fun w77 =>
 JoinW (S := Value × Unit) (fun J80 =>
 rdP Try.prog (bin .gtr 3 true s64.2.2.1 (.int .i64 0)) fun v81 =>
 ifB v81
 (rdP Try.prog (bin .sub 3 true s64.2.2.1 (.int .i64 1)) fun v82 =>
 rdP Try.prog (Instr.indexAt 59 a2 v82) fun v83 =>
 rdP Try.prog (Instr.fieldAt 31 v83 0) fun v84 =>
 rdW Try.prog (Instr.loadAt 22 v84) w77.drew fun v85 =>
 rdP Try.prog (Instr.fieldAt 31 v75 0) fun v86 =>
 rdW Try.prog (Instr.loadAt 22 v86) w77.drew fun v87 =>
 rdP Try.prog (bin .gtr 22 false v85 v87) fun v88 =>
 ifB v88
 (J80 ((.bool true), ()) w77.drew)
 (rdP Try.prog (bin .sub 3 true s64.2.2.1 (.int .i64 1)) fun v89 =>
 rdP Try.prog (Instr.indexAt 59 a2 v89) fun v90 =>
 rdP Try.prog (Instr.fieldAt 31 v90 0) fun v91 =>
 rdW Try.prog (Instr.loadAt 22 v91) w77.drew fun v92 =>
 rdP Try.prog (Instr.fieldAt 31 v75 0) fun v93 =>
 rdW Try.prog (Instr.loadAt 22 v93) w77.drew fun v94 =>
 rdP Try.prog (bin .eql 22 false v92 v94) fun v95 =>
 ifB v95
 (rdP Try.prog (bin .sub 3 true s64.2.2.1 (.int .i64 1)) fun v96 =>
 rdP Try.prog (Instr.indexAt 59 a2 v96) fun v97 =>
 rdP Try.prog (Instr.fieldAt 31 v97 1) fun v98 =>
 rdW Try.prog (Instr.loadAt 22 v98) w77.drew fun v99 =>
 rdP Try.prog (Instr.fieldAt 31 v75 1) fun v100 =>
 rdW Try.prog (Instr.loadAt 22 v100) w77.drew fun v101 =>
 rdP Try.prog (bin .geq 22 false v99 v101) fun v102 =>
 J80 (v102, ()) w77.drew)
 (J80 ((.bool false), ()) w77.drew)))
 (J80 ((.bool false), ()) w77.drew))
 (J34_2 K v75 v21 s64 K66))
 (LoopW (S := Value × Value × Value × Unit) (L34_5 a2 v21 K) (s64.2.1, s64.1, (.int .i64 0), ()) w70)

def L34_7 (a1 : Value) (K : Kont) (v21 : Value) (a2 : Value) (s23 : Value × Value × Value × Unit) (w24 : World) (K25 : Value × Value × Value × Unit → World → Prop) : Prop :=
 ∀ _ : Nat → Value,
 rn Try.prog (builtin .len #[58] 3 #[false] #[a1]) w24 fun v26 w27 =>
 rv Try.prog (bin .lss 3 false s23.2.2.1 v26) w27 fun v28 w29 =>
 ifB v28
 (JoinW (S := Value × Unit) (fun J32 =>
 rdP Try.prog (Instr.indexAt 58 a1 s23.2.2.1) fun v33 =>
 rdP Try.prog (Instr.fieldAt 34 v33 0) fun v34 =>
 rdW Try.prog (Instr.loadAt 22 v34) w29.drew fun v35 =>
 rdP Try.prog (bin .eql 22 true v35 (.int .u32 0)) fun v36 =>
 ifB v36
 (J32 ((.bool true), ()) w29.drew)
 (rdP Try.prog (bin .gtr 3 true s23.2.2.1 (.int .i64 0)) fun v37 =>
 ifB v37
 (rdP Try.prog (bin .sub 3 true s23.2.2.1 (.int .i64 1)) fun v38 =>
 rdP Try.prog (Instr.indexAt 58 a1 v38) fun v39 =>
 rdP Try.prog (Instr.fieldAt 34 v39 0) fun v40 =>
 rdW Try.prog (Instr.loadAt 22 v40) w29.drew fun v41 =>
 rdP Try.prog (Instr.indexAt 58 a1 s23.2.2.1) fun v42 =>
 rdP Try.prog (Instr.fieldAt 34 v42 0) fun v43 =>
 rdW Try.prog (Instr.loadAt 22 v43) w29.drew fun v44 =>
 rdP Try.prog (bin .geq 22 false v41 v44) fun v45 =>
 ifB v45
 (J32 ((.bool true), ()) w29.drew)
 (rdP Try.prog (Instr.indexAt 58 a1 s23.2.2.1) fun v46 =>
 rdP Try.prog (Instr.fieldAt 34 v46 1) fun v47 =>
 rdW Try.prog (Instr.loadAt 2 v47) w29.drew fun v48 =>
 Ca Try.prog 45 #[v48, (.int .i64 0), (.int .i64 1000000000000000)] w29.drew fun v49 w50 =>
 rdP Try.prog (Op.unary .not v49) fun v51 =>
 J32 (v51, ()) w50))
 (rdP Try.prog (Instr.indexAt 58 a1 s23.2.2.1) fun v52 =>
 rdP Try.prog (Instr.fieldAt 34 v52 1) fun v53 =>
 rdW Try.prog (Instr.loadAt 2 v53) w29.drew fun v54 =>
 Ca Try.prog 45 #[v54, (.int .i64 0), (.int .i64 1000000000000000)] w29.drew fun v55 w56 =>
 rdP Try.prog (Op.unary .not v55) fun v57 =>
 J32 (v57, ()) w56)))
 (J34_0 K s23 K25))
 (Ca Try.prog 46 #[v21] w29 fun v60 w61 =>
 rv Try.prog (bin .gtr 2 true v60 (.int .i64 1000000000000000)) w61 fun v62 w63 =>
 ifB v62
 (K (.tuple #[(.pointer none), (.int .i64 2)]) w63)
 (LoopW (S := Value × Value × Value × Unit) (L34_6 a2 K v21) (s23.2.1, s23.1, (.int .i64 0), ()) w63))

def J34_8 (K : Kont) (a1 : Value) (a2 : Value) (a0 : Value) (s0 : Value × Unit) (w1 : World) : Prop :=
 ∀ _ : Nat → Value,
 ifB s0.1
 (K (.tuple #[(.pointer none), (.int .i64 2)]) w1)
 (rx Try.prog (xLit 58 0 []) w1 fun v11 w12 =>
 rx Try.prog (xAppend #[58, 58] 58 [v11, a1]) w12 fun v13 w14 =>
 rx Try.prog (xLit 59 0 []) w14 fun v15 w16 =>
 rx Try.prog (xAppend #[59, 59] 59 [v15, a2]) w16 fun v17 w18 =>
 rv Try.prog (Instr.build 61 #[(0, a0), (1, v13), (2, v17)]) w18 fun v19 w20 =>
 rv Try.prog (Instr.box 61 v19) w20 fun v21 w22 =>
 LoopW (S := Value × Value × Value × Unit) (L34_7 a1 K v21 a2) ((.pointer none), (.int .i64 0), (.int .i64 0), ()) w22)

/-- broadside/broadsideref09.From -/
def F34 (a0 a1 a2 : Value) (w : World) (K : Kont) : Prop :=
 JoinW (S := Value × Unit) (fun J2 =>
 Ca Try.prog 45 #[a0, (.int .i64 0), (.int .i64 1000000000000000)] w fun v3 w4 =>
 rv Try.prog (Op.unary .not v3) w4 fun v5 w6 =>
 ifB v5
 (J2 ((.bool true), ()) w6)
 (rn Try.prog (builtin .len #[58] 3 #[false] #[a1]) w6 fun v7 w8 =>
 rv Try.prog (bin .gtr 3 true v7 (.int .i64 64)) w8 fun v9 w10 =>
 J2 (v9, ()) w10))
 (J34_8 K a1 a2 a0)
theorem F34_eq (a0 a1 a2 : Value) (w : World) (K : Kont) : vcFnJ Try.prog Try.f34 [a0, a1, a2] w K = F34 a0 a1 a2 w K := by kernel_rfl
theorem F34_ok : okF Try.prog Try.f34 3 = true := by kernel_rfl
theorem ca34{a0 a1 a2 : Value} {w : World} {K : Kont} (h : F34 a0 a1 a2 w K) : Ca Try.prog 34 #[a0, a1, a2] w K :=
  ca_of_vcJ Try.noNum Try.func34 F34_ok (by rw [F34_eq]; exact h)



/-- broadside/broadsideref09.among -/
def F45 (a0 a1 a2 : Value) (w : World) (K : Kont) : Prop :=
 rv Try.prog (bin .geq 2 false a0 a1) w fun v0 w1 =>
 ifB v0
 (rv Try.prog (bin .leq 2 false a0 a2) w1 fun v2 w3 =>
 K v2 w3)
 (K (.bool false) w1)
theorem F45_eq (a0 a1 a2 : Value) (w : World) (K : Kont) : vcFnJ Try.prog Try.f45 [a0, a1, a2] w K = F45 a0 a1 a2 w K := by kernel_rfl
theorem F45_ok : okF Try.prog Try.f45 3 = true := by kernel_rfl
theorem ca45{a0 a1 a2 : Value} {w : World} {K : Kont} (h : F45 a0 a1 a2 w K) : Ca Try.prog 45 #[a0, a1, a2] w K :=
  ca_of_vcJ Try.noNum Try.func45 F45_ok (by rw [F45_eq]; exact h)


def L46_0 (a0 : Value) (K : Kont) (s5 : Value × Value × Unit) (w6 : World) (K7 : Value × Value × Unit → World → Prop) : Prop :=
 ∀ _ : Nat → Value,
 nilK a0 fun v8 => rv Try.prog (Instr.fieldAt 61 v8 1) w6 fun v9 w10 =>
 rv Try.prog (Instr.loadAt 58 v9) w10 fun v11 w12 =>
 rn Try.prog (builtin .len #[58] 3 #[false] #[v11]) w12 fun v13 w14 =>
 rv Try.prog (bin .lss 3 false s5.2.1 v13) w14 fun v15 w16 =>
 ifB v15
 (nilK a0 fun v17 => rv Try.prog (Instr.fieldAt 61 v17 1) w16 fun v18 w19 =>
 rv Try.prog (Instr.loadAt 58 v18) w19 fun v20 w21 =>
 rv Try.prog (Instr.indexAt 58 v20 s5.2.1) w21 fun v22 w23 =>
 rv Try.prog (Instr.fieldAt 34 v22 1) w23 fun v24 w25 =>
 rv Try.prog (Instr.loadAt 2 v24) w25 fun v26 w27 =>
 rv Try.prog (bin .add 2 false s5.1 v26) w27 fun v28 w29 =>
 rv Try.prog (bin .add 3 true s5.2.1 (.int .i64 1)) w29 fun v30 w31 =>
 K7 (v28, v30, ()) w31)
 (K s5.1 w16)

/-- (*broadside/broadsideref09.Ledger).Funds -/
def F46 (a0 : Value) (w : World) (K : Kont) : Prop :=
 nilK a0 fun v0 => rv Try.prog (Instr.fieldAt 61 v0 0) w fun v1 w2 =>
 rv Try.prog (Instr.loadAt 2 v1) w2 fun v3 w4 =>
 LoopW (S := Value × Value × Unit) (L46_0 a0 K) (v3, (.int .i64 0), ()) w4
theorem F46_eq (a0 : Value) (w : World) (K : Kont) : vcFnJ Try.prog Try.f46 [a0] w K = F46 a0 w K := by kernel_rfl
theorem F46_ok : okF Try.prog Try.f46 1 = true := by kernel_rfl
theorem ca46{a0 : Value} {w : World} {K : Kont} (h : F46 a0 w K) : Ca Try.prog 46 #[a0] w K :=
  ca_of_vcJ Try.noNum Try.func46 F46_ok (by rw [F46_eq]; exact h)


def J47_0 (v0 : Value) (s2 : Value × Value × Value × Unit) (J31 : Value × Value × Unit → World → Prop) (s32 : Value × Unit) (w33 : World) : Prop :=
 ∀ _ : Nat → Value,
 ifB s32.1
 (rv Try.prog (Instr.loadAt 34 v0) w33 fun v47 w48 =>
 rx Try.prog (xLit 58 1 [(0, v47)]) w48 fun v49 w50 =>
 rx Try.prog (xAppend #[58, 58] 58 [s2.1, v49]) w50 fun v51 w52 =>
 J31 ((.bool true), v51, ()) w52)
 (J31 (s2.2.1, s2.1, ()) w33)

def J47_1 (v26 : Value) (v0 : Value) (J16 : Value × Value × Unit → World → Prop) (s29 : Value × Value × Unit) (w30 : World) : Prop :=
 ∀ _ : Nat → Value,
 rv Try.prog (Instr.fieldAt 34 v26 0) w30 fun v53 w54 =>
 rv Try.prog (Instr.loadAt 22 v53) w54 fun v55 w56 =>
 rv Try.prog (Instr.fieldAt 34 v0 0) w56 fun v57 w58 =>
 rv Try.prog (Instr.loadAt 22 v57) w58 fun v59 w60 =>
 rv Try.prog (bin .neq 22 false v55 v59) w60 fun v61 w62 =>
 ifB v61
 (rv Try.prog (Instr.loadAt 34 v26) w62 fun v63 w64 =>
 rx Try.prog (xLit 58 1 [(0, v63)]) w64 fun v65 w66 =>
 rx Try.prog (xAppend #[58, 58] 58 [s29.2.1, v65]) w66 fun v67 w68 =>
 J16 (s29.1, v67, ()) w68)
 (J16 (s29.1, s29.2.1, ()) w62)

def J47_2 (s2 : Value × Value × Value × Unit) (K4 : Value × Value × Value × Unit → World → Prop) (s14 : Value × Value × Unit) (w15 : World) : Prop :=
 ∀ _ : Nat → Value,
 rv Try.prog (bin .add 3 true s2.2.2.1 (.int .i64 1)) w15 fun v69 w70 =>
 K4 (s14.2.1, s14.1, v69, ()) w70

def J47_3 (a0 : Value) (K : Kont) (s71 : Value × Unit) (w72 : World) : Prop :=
 ∀ _ : Nat → Value,
 nilK a0 fun v82 => rv Try.prog (Instr.fieldAt 61 v82 1) w72 fun v83 w84 =>
 ru Try.prog (Instr.storeAt 58 v83 s71.1) w84 fun w85 =>
 K (.tuple #[]) w85

def L47_4 (a0 : Value) (v0 : Value) (K : Kont) (s2 : Value × Value × Value × Unit) (w3 : World) (K4 : Value × Value × Value × Unit → World → Prop) : Prop :=
 ∀ _ : Nat → Value,
 nilK a0 fun v5 => rv Try.prog (Instr.fieldAt 61 v5 1) w3 fun v6 w7 =>
 rv Try.prog (Instr.loadAt 58 v6) w7 fun v8 w9 =>
 rn Try.prog (builtin .len #[58] 3 #[false] #[v8]) w9 fun v10 w11 =>
 rv Try.prog (bin .lss 3 false s2.2.2.1 v10) w11 fun v12 w13 =>
 ifB v12
 (JoinW (S := Value × Value × Unit) (fun J16 =>
 nilK a0 fun v17 => rv Try.prog (Instr.fieldAt 61 v17 1) w13 fun v18 w19 =>
 rv Try.prog (Instr.loadAt 58 v18) w19 fun v20 w21 =>
 rv Try.prog (Instr.indexAt 58 v20 s2.2.2.1) w21 fun v22 w23 =>
 rv Try.prog (Instr.loadAt 34 v22) w23 fun v24 w25 =>
 rv Try.prog (Instr.alloc 34 true (.tuple #[])) w25 fun v26 w27 =>
 ru Try.prog (Instr.storeAt 34 v26 v24) w27 fun w28 =>
 JoinW (S := Value × Value × Unit) (fun J31 =>
 JoinW (S := Value × Unit) (fun J34 =>
 rv Try.prog (Op.unary .not s2.2.1) w28 fun v35 w36 =>
 ifB v35
 (rv Try.prog (Instr.fieldAt 34 v26 0) w36 fun v37 w38 =>
 rv Try.prog (Instr.loadAt 22 v37) w38 fun v39 w40 =>
 rv Try.prog (Instr.fieldAt 34 v0 0) w40 fun v41 w42 =>
 rv Try.prog (Instr.loadAt 22 v41) w42 fun v43 w44 =>
 rv Try.prog (bin .geq 22 false v39 v43) w44 fun v45 w46 =>
 J34 (v45, ()) w46)
 (J34 ((.bool false), ()) w36))
 (J47_0 v0 s2 J31))
 (J47_1 v26 v0 J16))
 (J47_2 s2 K4))
 (JoinW (S := Value × Unit) (fun J73 =>
 rv Try.prog (Op.unary .not s2.2.1) w13 fun v74 w75 =>
 ifB v74
 (rv Try.prog (Instr.loadAt 34 v0) w75 fun v76 w77 =>
 rx Try.prog (xLit 58 1 [(0, v76)]) w77 fun v78 w79 =>
 rx Try.prog (xAppend #[58, 58] 58 [s2.1, v78]) w79 fun v80 w81 =>
 J73 (v80, ()) w81)
 (J73 (s2.1, ()) w75))
 (J47_3 a0 K))

/-- (*broadside/broadsideref09.Ledger).put -/
def F47 (a0 a1 : Value) (w : World) (K : Kont) : Prop :=
 rv Try.prog (Instr.box 34 a1) w fun v0 w1 =>
 LoopW (S := Value × Value × Value × Unit) (L47_4 a0 v0 K) ((.slice none 0 0), (.bool false), (.int .i64 0), ()) w1
theorem F47_eq (a0 a1 : Value) (w : World) (K : Kont) : vcFnJ Try.prog Try.f47 [a0, a1] w K = F47 a0 a1 w K := by kernel_rfl
theorem F47_ok : okF Try.prog Try.f47 2 = true := by kernel_rfl
theorem ca47{a0 a1 : Value} {w : World} {K : Kont} (h : F47 a0 a1 w K) : Ca Try.prog 47 #[a0, a1] w K :=
  ca_of_vcJ Try.noNum Try.func47 F47_ok (by rw [F47_eq]; exact h)


def L48_0 (a0 : Value) (a1 : Value) (K : Kont) (s0 : Value × Value × Unit) (w1 : World) (K2 : Value × Value × Unit → World → Prop) : Prop :=
 ∀ _ : Nat → Value,
 nilK a0 fun v3 => rv Try.prog (Instr.fieldAt 61 v3 1) w1 fun v4 w5 =>
 rv Try.prog (Instr.loadAt 58 v4) w5 fun v6 w7 =>
 rn Try.prog (builtin .len #[58] 3 #[false] #[v6]) w7 fun v8 w9 =>
 rv Try.prog (bin .lss 3 false s0.2.1 v8) w9 fun v10 w11 =>
 ifB v10
 (nilK a0 fun v12 => rv Try.prog (Instr.fieldAt 61 v12 1) w11 fun v13 w14 =>
 rv Try.prog (Instr.loadAt 58 v13) w14 fun v15 w16 =>
 rv Try.prog (Instr.indexAt 58 v15 s0.2.1) w16 fun v17 w18 =>
 rv Try.prog (Instr.fieldAt 34 v17 0) w18 fun v19 w20 =>
 rv Try.prog (Instr.loadAt 22 v19) w20 fun v21 w22 =>
 rv Try.prog (bin .eql 22 false v21 a1) w22 fun v23 w24 =>
 ifB v23
 (K s0.2.1 w24)
 (rv Try.prog (bin .add 3 true s0.2.1 (.int .i64 1)) w24 fun v25 w26 =>
 K2 (s0.1, v25, ()) w26))
 (K (.int .i64 (-1)) w11)

/-- (*broadside/broadsideref09.Ledger).at -/
def F48 (a0 a1 : Value) (w : World) (K : Kont) : Prop :=
 LoopW (S := Value × Value × Unit) (L48_0 a0 a1 K) ((.int .i64 0), (.int .i64 0), ()) w
theorem F48_eq (a0 a1 : Value) (w : World) (K : Kont) : vcFnJ Try.prog Try.f48 [a0, a1] w K = F48 a0 a1 w K := by kernel_rfl
theorem F48_ok : okF Try.prog Try.f48 2 = true := by kernel_rfl
theorem ca48{a0 a1 : Value} {w : World} {K : Kont} (h : F48 a0 a1 w K) : Ca Try.prog 48 #[a0, a1] w K :=
  ca_of_vcJ Try.noNum Try.func48 F48_ok (by rw [F48_eq]; exact h)


def J49_0 (v0 : Value) (s17 : Value × Value × Value × Unit) (J46 : Value × Value × Unit → World → Prop) (s47 : Value × Unit) (w48 : World) : Prop :=
 ∀ _ : Nat → Value,
 ifB s47.1
 (rv Try.prog (Instr.loadAt 31 v0) w48 fun v82 w83 =>
 rx Try.prog (xLit 59 1 [(0, v82)]) w83 fun v84 w85 =>
 rx Try.prog (xAppend #[59, 59] 59 [s17.1, v84]) w85 fun v86 w87 =>
 J46 ((.bool true), v86, ()) w87)
 (J46 (s17.2.1, s17.1, ()) w48)

def J49_1 (v41 : Value) (s44 : Value × Value × Unit) (J31 : Value × Value × Unit → World → Prop) (s88 : Value × Unit) (w89 : World) : Prop :=
 ∀ _ : Nat → Value,
 ifB s88.1
 (rv Try.prog (Instr.loadAt 31 v41) w89 fun v111 w112 =>
 rx Try.prog (xLit 59 1 [(0, v111)]) w112 fun v113 w114 =>
 rx Try.prog (xAppend #[59, 59] 59 [s44.2.1, v113]) w114 fun v115 w116 =>
 J31 (s44.1, v115, ()) w116)
 (J31 (s44.1, s44.2.1, ()) w89)

def J49_2 (v41 : Value) (v0 : Value) (J31 : Value × Value × Unit → World → Prop) (s44 : Value × Value × Unit) (w45 : World) : Prop :=
 ∀ _ : Nat → Value,
 JoinW (S := Value × Unit) (fun J90 =>
 rv Try.prog (Instr.fieldAt 31 v41 0) w45 fun v91 w92 =>
 rv Try.prog (Instr.loadAt 22 v91) w92 fun v93 w94 =>
 rv Try.prog (Instr.fieldAt 31 v0 0) w94 fun v95 w96 =>
 rv Try.prog (Instr.loadAt 22 v95) w96 fun v97 w98 =>
 rv Try.prog (bin .neq 22 false v93 v97) w98 fun v99 w100 =>
 ifB v99
 (J90 ((.bool true), ()) w100)
 (rv Try.prog (Instr.fieldAt 31 v41 1) w100 fun v101 w102 =>
 rv Try.prog (Instr.loadAt 22 v101) w102 fun v103 w104 =>
 rv Try.prog (Instr.fieldAt 31 v0 1) w104 fun v105 w106 =>
 rv Try.prog (Instr.loadAt 22 v105) w106 fun v107 w108 =>
 rv Try.prog (bin .neq 22 false v103 v107) w108 fun v109 w110 =>
 J90 (v109, ()) w110))
 (J49_1 v41 s44 J31)

def J49_3 (s17 : Value × Value × Value × Unit) (K19 : Value × Value × Value × Unit → World → Prop) (s29 : Value × Value × Unit) (w30 : World) : Prop :=
 ∀ _ : Nat → Value,
 rv Try.prog (bin .add 3 true s17.2.2.1 (.int .i64 1)) w30 fun v117 w118 =>
 K19 (s29.2.1, s29.1, v117, ()) w118

def J49_4 (a0 : Value) (K : Kont) (s119 : Value × Unit) (w120 : World) : Prop :=
 ∀ _ : Nat → Value,
 nilK a0 fun v130 => rv Try.prog (Instr.fieldAt 61 v130 2) w120 fun v131 w132 =>
 ru Try.prog (Instr.storeAt 59 v131 s119.1) w132 fun w133 =>
 K (.tuple #[]) w133

def L49_5 (a0 : Value) (v0 : Value) (K : Kont) (s17 : Value × Value × Value × Unit) (w18 : World) (K19 : Value × Value × Value × Unit → World → Prop) : Prop :=
 ∀ _ : Nat → Value,
 nilK a0 fun v20 => rv Try.prog (Instr.fieldAt 61 v20 2) w18 fun v21 w22 =>
 rv Try.prog (Instr.loadAt 59 v21) w22 fun v23 w24 =>
 rn Try.prog (builtin .len #[59] 3 #[false] #[v23]) w24 fun v25 w26 =>
 rv Try.prog (bin .lss 3 false s17.2.2.1 v25) w26 fun v27 w28 =>
 ifB v27
 (JoinW (S := Value × Value × Unit) (fun J31 =>
 nilK a0 fun v32 => rv Try.prog (Instr.fieldAt 61 v32 2) w28 fun v33 w34 =>
 rv Try.prog (Instr.loadAt 59 v33) w34 fun v35 w36 =>
 rv Try.prog (Instr.indexAt 59 v35 s17.2.2.1) w36 fun v37 w38 =>
 rv Try.prog (Instr.loadAt 31 v37) w38 fun v39 w40 =>
 rv Try.prog (Instr.alloc 31 true (.tuple #[])) w40 fun v41 w42 =>
 ru Try.prog (Instr.storeAt 31 v41 v39) w42 fun w43 =>
 JoinW (S := Value × Value × Unit) (fun J46 =>
 JoinW (S := Value × Unit) (fun J49 =>
 rv Try.prog (Op.unary .not s17.2.1) w43 fun v50 w51 =>
 ifB v50
 (rv Try.prog (Instr.fieldAt 31 v41 0) w51 fun v52 w53 =>
 rv Try.prog (Instr.loadAt 22 v52) w53 fun v54 w55 =>
 rv Try.prog (Instr.fieldAt 31 v0 0) w55 fun v56 w57 =>
 rv Try.prog (Instr.loadAt 22 v56) w57 fun v58 w59 =>
 rv Try.prog (bin .gtr 22 false v54 v58) w59 fun v60 w61 =>
 ifB v60
 (J49 ((.bool true), ()) w61)
 (rv Try.prog (Instr.fieldAt 31 v41 0) w61 fun v62 w63 =>
 rv Try.prog (Instr.loadAt 22 v62) w63 fun v64 w65 =>
 rv Try.prog (Instr.fieldAt 31 v0 0) w65 fun v66 w67 =>
 rv Try.prog (Instr.loadAt 22 v66) w67 fun v68 w69 =>
 rv Try.prog (bin .eql 22 false v64 v68) w69 fun v70 w71 =>
 ifB v70
 (rv Try.prog (Instr.fieldAt 31 v41 1) w71 fun v72 w73 =>
 rv Try.prog (Instr.loadAt 22 v72) w73 fun v74 w75 =>
 rv Try.prog (Instr.fieldAt 31 v0 1) w75 fun v76 w77 =>
 rv Try.prog (Instr.loadAt 22 v76) w77 fun v78 w79 =>
 rv Try.prog (bin .geq 22 false v74 v78) w79 fun v80 w81 =>
 J49 (v80, ()) w81)
 (J49 ((.bool false), ()) w71)))
 (J49 ((.bool false), ()) w51))
 (J49_0 v0 s17 J46))
 (J49_2 v41 v0 J31))
 (J49_3 s17 K19))
 (JoinW (S := Value × Unit) (fun J121 =>
 rv Try.prog (Op.unary .not s17.2.1) w28 fun v122 w123 =>
 ifB v122
 (rv Try.prog (Instr.loadAt 31 v0) w123 fun v124 w125 =>
 rx Try.prog (xLit 59 1 [(0, v124)]) w125 fun v126 w127 =>
 rx Try.prog (xAppend #[59, 59] 59 [s17.1, v126]) w127 fun v128 w129 =>
 J121 (v128, ()) w129)
 (J121 (s17.1, ()) w123))
 (J49_4 a0 K))

def J49_6 (a0 : Value) (v0 : Value) (K : Kont) (s2 : Value × Unit) (w3 : World) : Prop :=
 ∀ _ : Nat → Value,
 LoopW (S := Value × Value × Value × Unit) (L49_5 a0 v0 K) ((.slice none 0 0), s2.1, (.int .i64 0), ()) w3

/-- (*broadside/broadsideref09.Ledger).hold -/
def F49 (a0 a1 : Value) (w : World) (K : Kont) : Prop :=
 rv Try.prog (Instr.box 31 a1) w fun v0 w1 =>
 JoinW (S := Value × Unit) (fun J4 =>
 rv Try.prog (Instr.fieldAt 31 v0 2) w1 fun v5 w6 =>
 rv Try.prog (Instr.loadAt 2 v5) w6 fun v7 w8 =>
 rv Try.prog (bin .eql 2 true v7 (.int .i64 0)) w8 fun v9 w10 =>
 ifB v9
 (rv Try.prog (Instr.fieldAt 31 v0 3) w10 fun v11 w12 =>
 rv Try.prog (Instr.loadAt 2 v11) w12 fun v13 w14 =>
 rv Try.prog (bin .eql 2 true v13 (.int .i64 0)) w14 fun v15 w16 =>
 J4 (v15, ()) w16)
 (J4 ((.bool false), ()) w10))
 (J49_6 a0 v0 K)
theorem F49_eq (a0 a1 : Value) (w : World) (K : Kont) : vcFnJ Try.prog Try.f49 [a0, a1] w K = F49 a0 a1 w K := by kernel_rfl
theorem F49_ok : okF Try.prog Try.f49 2 = true := by kernel_rfl
theorem ca49{a0 a1 : Value} {w : World} {K : Kont} (h : F49 a0 a1 w K) : Ca Try.prog 49 #[a0, a1] w K :=
  ca_of_vcJ Try.noNum Try.func49 F49_ok (by rw [F49_eq]; exact h)


def J50_0 (s0 : Value × Value × Unit) (K2 : Value × Value × Unit → World → Prop) (s12 : Value × Unit) (w13 : World) : Prop :=
 ∀ _ : Nat → Value,
 rv Try.prog (bin .add 3 true s0.2.1 (.int .i64 1)) w13 fun v41 w42 =>
 K2 (s12.1, v41, ()) w42

def L50_1 (a0 : Value) (a1 : Value) (K : Kont) (s0 : Value × Value × Unit) (w1 : World) (K2 : Value × Value × Unit → World → Prop) : Prop :=
 ∀ _ : Nat → Value,
 nilK a0 fun v3 => rv Try.prog (Instr.fieldAt 61 v3 2) w1 fun v4 w5 =>
 rv Try.prog (Instr.loadAt 59 v4) w5 fun v6 w7 =>
 rn Try.prog (builtin .len #[59] 3 #[false] #[v6]) w7 fun v8 w9 =>
 rv Try.prog (bin .lss 3 false s0.2.1 v8) w9 fun v10 w11 =>
 ifB v10
 (JoinW (S := Value × Unit) (fun J14 =>
 nilK a0 fun v15 => rv Try.prog (Instr.fieldAt 61 v15 2) w11 fun v16 w17 =>
 rv Try.prog (Instr.loadAt 59 v16) w17 fun v18 w19 =>
 rv Try.prog (Instr.indexAt 59 v18 s0.2.1) w19 fun v20 w21 =>
 rv Try.prog (Instr.fieldAt 31 v20 0) w21 fun v22 w23 =>
 rv Try.prog (Instr.loadAt 22 v22) w23 fun v24 w25 =>
 rv Try.prog (bin .eql 22 false v24 a1) w25 fun v26 w27 =>
 ifB v26
 (nilK a0 fun v28 => rv Try.prog (Instr.fieldAt 61 v28 2) w27 fun v29 w30 =>
 rv Try.prog (Instr.loadAt 59 v29) w30 fun v31 w32 =>
 rv Try.prog (Instr.indexAt 59 v31 s0.2.1) w32 fun v33 w34 =>
 rv Try.prog (Instr.loadAt 31 v33) w34 fun v35 w36 =>
 rx Try.prog (xLit 59 1 [(0, v35)]) w36 fun v37 w38 =>
 rx Try.prog (xAppend #[59, 59] 59 [s0.1, v37]) w38 fun v39 w40 =>
 J14 (v39, ()) w40)
 (J14 (s0.1, ()) w27))
 (J50_0 s0 K2))
 (K s0.1 w11)

/-- (*broadside/broadsideref09.Ledger).Holders -/
def F50 (a0 a1 : Value) (w : World) (K : Kont) : Prop :=
 LoopW (S := Value × Value × Unit) (L50_1 a0 a1 K) ((.slice none 0 0), (.int .i64 0), ()) w
theorem F50_eq (a0 a1 : Value) (w : World) (K : Kont) : vcFnJ Try.prog Try.f50 [a0, a1] w K = F50 a0 a1 w K := by kernel_rfl
theorem F50_ok : okF Try.prog Try.f50 2 = true := by kernel_rfl
theorem ca50{a0 a1 : Value} {w : World} {K : Kont} (h : F50 a0 a1 w K) : Ca Try.prog 50 #[a0, a1] w K :=
  ca_of_vcJ Try.noNum Try.func50 F50_ok (by rw [F50_eq]; exact h)


def J51_0 (s0 : Value × Value × Unit) (K2 : Value × Value × Unit → World → Prop) (s12 : Value × Unit) (w13 : World) : Prop :=
 ∀ _ : Nat → Value,
 rv Try.prog (bin .add 3 true s0.2.1 (.int .i64 1)) w13 fun v41 w42 =>
 K2 (s12.1, v41, ()) w42

def L51_1 (a0 : Value) (a1 : Value) (K : Kont) (s0 : Value × Value × Unit) (w1 : World) (K2 : Value × Value × Unit → World → Prop) : Prop :=
 ∀ _ : Nat → Value,
 nilK a0 fun v3 => rv Try.prog (Instr.fieldAt 61 v3 2) w1 fun v4 w5 =>
 rv Try.prog (Instr.loadAt 59 v4) w5 fun v6 w7 =>
 rn Try.prog (builtin .len #[59] 3 #[false] #[v6]) w7 fun v8 w9 =>
 rv Try.prog (bin .lss 3 false s0.2.1 v8) w9 fun v10 w11 =>
 ifB v10
 (JoinW (S := Value × Unit) (fun J14 =>
 nilK a0 fun v15 => rv Try.prog (Instr.fieldAt 61 v15 2) w11 fun v16 w17 =>
 rv Try.prog (Instr.loadAt 59 v16) w17 fun v18 w19 =>
 rv Try.prog (Instr.indexAt 59 v18 s0.2.1) w19 fun v20 w21 =>
 rv Try.prog (Instr.fieldAt 31 v20 1) w21 fun v22 w23 =>
 rv Try.prog (Instr.loadAt 22 v22) w23 fun v24 w25 =>
 rv Try.prog (bin .eql 22 false v24 a1) w25 fun v26 w27 =>
 ifB v26
 (nilK a0 fun v28 => rv Try.prog (Instr.fieldAt 61 v28 2) w27 fun v29 w30 =>
 rv Try.prog (Instr.loadAt 59 v29) w30 fun v31 w32 =>
 rv Try.prog (Instr.indexAt 59 v31 s0.2.1) w32 fun v33 w34 =>
 rv Try.prog (Instr.loadAt 31 v33) w34 fun v35 w36 =>
 rx Try.prog (xLit 59 1 [(0, v35)]) w36 fun v37 w38 =>
 rx Try.prog (xAppend #[59, 59] 59 [s0.1, v37]) w38 fun v39 w40 =>
 J14 (v39, ()) w40)
 (J14 (s0.1, ()) w27))
 (J51_0 s0 K2))
 (K s0.1 w11)

/-- (*broadside/broadsideref09.Ledger).Of -/
def F51 (a0 a1 : Value) (w : World) (K : Kont) : Prop :=
 LoopW (S := Value × Value × Unit) (L51_1 a0 a1 K) ((.slice none 0 0), (.int .i64 0), ()) w
theorem F51_eq (a0 a1 : Value) (w : World) (K : Kont) : vcFnJ Try.prog Try.f51 [a0, a1] w K = F51 a0 a1 w K := by kernel_rfl
theorem F51_ok : okF Try.prog Try.f51 2 = true := by kernel_rfl
theorem ca51{a0 a1 : Value} {w : World} {K : Kont} (h : F51 a0 a1 w K) : Ca Try.prog 51 #[a0, a1] w K :=
  ca_of_vcJ Try.noNum Try.func51 F51_ok (by rw [F51_eq]; exact h)


end Go.Proofs
