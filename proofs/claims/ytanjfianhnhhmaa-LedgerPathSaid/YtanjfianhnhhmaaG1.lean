/-
  Formulas of the program's functions, printed by a program of mine: each is what the computed precondition of the function's body comes to.
  Conditions: none.
-/
import Derived.Test.YtanjfianhnhhmaaG0
import Derived.Test.YtanjfianhnhhmaaVcFn
set_option linter.unusedSimpArgs false
set_option maxRecDepth 100000
set_option linter.unusedVariables false
namespace Go.Proofs
open Go Go.Vc



/-- broadside/ledger.New -/
def F8 (w : World) (K : Kont) : Prop :=
 rv Try.prog (Instr.makeMap 71 none) w fun v0 w1 =>
 rv Try.prog (Instr.build 34 #[]) w1 fun v2 w3 =>
 rux Try.prog (xMapUp 71 v0 (.int .u32 0) v2) w3 fun w4 =>
 rv Try.prog (Instr.makeMap 72 none) w4 fun v5 w6 =>
 rv Try.prog (Instr.build 74 #[(0, v0), (1, v5)]) w6 fun v7 w8 =>
 rv Try.prog (Instr.box 74 v7) w8 fun v9 w10 =>
 K v9 w10
theorem F8_eq (w : World) (K : Kont) : vcFnJ Try.prog Try.f8 [] w K = F8  w K := by kernel_rfl
theorem F8_ok : okF Try.prog Try.f8 0 = true := by kernel_rfl
theorem ca8 {w : World} {K : Kont} (h : F8  w K) : Ca Try.prog 8 #[] w K :=
  ca_of_vcJ Try.noNum Try.func8 F8_ok (by rw [F8_eq]; exact h)



/-- (*broadside/ledger.Ledger).ready -/
def F35 (a0 : Value) (w : World) (K : Kont) : Prop :=
 rv Try.prog (bin .neq 23 true a0 (.pointer none)) w fun v0 w1 =>
 ifB v0
 (nilK a0 fun v2 => rv Try.prog (Instr.fieldAt 74 v2 0) w1 fun v3 w4 =>
 rv Try.prog (Instr.loadAt 71 v3) w4 fun v5 w6 =>
 rv Try.prog (bin .neq 71 true v5 (.map none)) w6 fun v7 w8 =>
 K v7 w8)
 (K (.bool false) w1)
theorem F35_eq (a0 : Value) (w : World) (K : Kont) : vcFnJ Try.prog Try.f35 [a0] w K = F35 a0 w K := by kernel_rfl
theorem F35_ok : okF Try.prog Try.f35 1 = true := by kernel_rfl
theorem ca35{a0 : Value} {w : World} {K : Kont} (h : F35 a0 w K) : Ca Try.prog 35 #[a0] w K :=
  ca_of_vcJ Try.noNum Try.func35 F35_ok (by rw [F35_eq]; exact h)



/-- broadside/ledger.within -/
def F36 (a0 a1 a2 : Value) (w : World) (K : Kont) : Prop :=
 rv Try.prog (bin .geq 2 false a0 a1) w fun v0 w1 =>
 ifB v0
 (rv Try.prog (bin .leq 2 false a0 a2) w1 fun v2 w3 =>
 K v2 w3)
 (K (.bool false) w1)
theorem F36_eq (a0 a1 a2 : Value) (w : World) (K : Kont) : vcFnJ Try.prog Try.f36 [a0, a1, a2] w K = F36 a0 a1 a2 w K := by kernel_rfl
theorem F36_ok : okF Try.prog Try.f36 3 = true := by kernel_rfl
theorem ca36{a0 a1 a2 : Value} {w : World} {K : Kont} (h : F36 a0 a1 a2 w K) : Ca Try.prog 36 #[a0, a1, a2] w K :=
  ca_of_vcJ Try.noNum Try.func36 F36_ok (by rw [F36_eq]; exact h)


def J9_0 (K : Kont) (a0 : Value) (a2 : Value) (v15 : Value) (a1 : Value) (s22 : Value × Unit) (w23 : World) : Prop :=
 ∀ _ : Nat → Value,
 ifB s22.1
 (K (.int .i64 9) w23)
 (Ca Try.prog 18 #[a0] w23 fun v36 w37 =>
 rv Try.prog (bin .add 2 false v36 a2) w37 fun v38 w39 =>
 rv Try.prog (bin .gtr 2 true v38 (.int .i64 1000000000000000)) w39 fun v40 w41 =>
 ifB v40
 (K (.int .i64 6) w41)
 (rv Try.prog (Instr.fieldAt 34 v15 0) w41 fun v42 w43 =>
 ru Try.prog (Instr.storeAt 22 v42 a1) w43 fun w44 =>
 rv Try.prog (Instr.fieldAt 34 v15 1) w44 fun v45 w46 =>
 rv Try.prog (Instr.loadAt 2 v45) w46 fun v47 w48 =>
 rv Try.prog (bin .add 2 false v47 a2) w48 fun v49 w50 =>
 rv Try.prog (Instr.fieldAt 34 v15 1) w50 fun v51 w52 =>
 ru Try.prog (Instr.storeAt 2 v51 v49) w52 fun w53 =>
 nilK a0 fun v54 => rdP Try.prog (Instr.fieldAt 74 v54 0) fun v55 =>
 rdW Try.prog (Instr.loadAt 71 v55) w53.drew fun v56 =>
 rdW Try.prog (Instr.loadAt 34 v15) w53.drew fun v57 =>
 rux Try.prog (xMapUp 71 v56 a1 v57) w53.drew fun w58 =>
 K (.int .i64 0) w58))

/-- (*broadside/ledger.Ledger).Deposit -/
def F9 (a0 a1 a2 : Value) (w : World) (K : Kont) : Prop :=
 Ca Try.prog 35 #[a0] w fun v0 w1 =>
 rv Try.prog (Op.unary .not v0) w1 fun v2 w3 =>
 ifB v2
 (K (.int .i64 1) w3)
 (nilK a0 fun v4 => rv Try.prog (Instr.fieldAt 74 v4 0) w3 fun v5 w6 =>
 rv Try.prog (Instr.loadAt 71 v5) w6 fun v7 w8 =>
 rx Try.prog (xLook 71 v7 a1 true) w8 fun v9 w10 =>
 rv Try.prog (Instr.extract v9 0) w10 fun v11 w12 =>
 rv Try.prog (Instr.extract v9 1) w12 fun v13 w14 =>
 rv Try.prog (Instr.alloc 34 true (.tuple #[])) w14 fun v15 w16 =>
 ru Try.prog (Instr.storeAt 34 v15 v11) w16 fun w17 =>
 Ca Try.prog 36 #[a2, (.int .i64 1), (.int .i64 1000000000000000)] w17 fun v18 w19 =>
 rv Try.prog (Op.unary .not v18) w19 fun v20 w21 =>
 ifB v20
 (K (.int .i64 2) w21)
 (JoinW (S := Value × Unit) (fun J24 =>
 rv Try.prog (Op.unary .not v13) w21 fun v25 w26 =>
 ifB v25
 (nilK a0 fun v27 => rv Try.prog (Instr.fieldAt 74 v27 0) w26 fun v28 w29 =>
 rv Try.prog (Instr.loadAt 71 v28) w29 fun v30 w31 =>
 rn Try.prog (builtin .len #[71] 3 #[false] #[v30]) w31 fun v32 w33 =>
 rv Try.prog (bin .gtr 3 true v32 (.int .i64 64)) w33 fun v34 w35 =>
 J24 (v34, ()) w35)
 (J24 ((.bool false), ()) w26))
 (J9_0 K a0 a2 v15 a1)))
theorem F9_eq (a0 a1 a2 : Value) (w : World) (K : Kont) : vcFnJ Try.prog Try.f9 [a0, a1, a2] w K = F9 a0 a1 a2 w K := by kernel_rfl
theorem F9_ok : okF Try.prog Try.f9 3 = true := by kernel_rfl
theorem ca9{a0 a1 a2 : Value} {w : World} {K : Kont} (h : F9 a0 a1 a2 w K) : Ca Try.prog 9 #[a0, a1, a2] w K :=
  ca_of_vcJ Try.noNum Try.func9 F9_ok (by rw [F9_eq]; exact h)


def J22_0 (K : Kont) (v13 : Value) (v15 : Value) (a2 : Value) (a0 : Value) (a1 : Value) (s18 : Value × Unit) (w19 : World) : Prop :=
 ∀ _ : Nat → Value,
 ifB s18.1
 (K (.int .i64 2) w19)
 (rv Try.prog (Op.unary .not v13) w19 fun v27 w28 =>
 ifB v27
 (K (.int .i64 7) w28)
 (rv Try.prog (Instr.fieldAt 34 v15 1) w28 fun v29 w30 =>
 rv Try.prog (Instr.loadAt 2 v29) w30 fun v31 w32 =>
 rv Try.prog (bin .lss 2 false v31 a2) w32 fun v33 w34 =>
 ifB v33
 (K (.int .i64 90) w34)
 (rv Try.prog (Instr.fieldAt 34 v15 1) w34 fun v35 w36 =>
 rv Try.prog (Instr.loadAt 2 v35) w36 fun v37 w38 =>
 rv Try.prog (bin .sub 2 false v37 a2) w38 fun v39 w40 =>
 rv Try.prog (Instr.fieldAt 34 v15 1) w40 fun v41 w42 =>
 ru Try.prog (Instr.storeAt 2 v41 v39) w42 fun w43 =>
 nilK a0 fun v44 => rdP Try.prog (Instr.fieldAt 74 v44 0) fun v45 =>
 rdW Try.prog (Instr.loadAt 71 v45) w43.drew fun v46 =>
 rdW Try.prog (Instr.loadAt 34 v15) w43.drew fun v47 =>
 rux Try.prog (xMapUp 71 v46 a1 v47) w43.drew fun w48 =>
 K (.int .i64 0) w48)))

/-- (*broadside/ledger.Ledger).Withdraw -/
def F22 (a0 a1 a2 : Value) (w : World) (K : Kont) : Prop :=
 Ca Try.prog 35 #[a0] w fun v0 w1 =>
 rv Try.prog (Op.unary .not v0) w1 fun v2 w3 =>
 ifB v2
 (K (.int .i64 1) w3)
 (nilK a0 fun v4 => rv Try.prog (Instr.fieldAt 74 v4 0) w3 fun v5 w6 =>
 rv Try.prog (Instr.loadAt 71 v5) w6 fun v7 w8 =>
 rx Try.prog (xLook 71 v7 a1 true) w8 fun v9 w10 =>
 rv Try.prog (Instr.extract v9 0) w10 fun v11 w12 =>
 rv Try.prog (Instr.extract v9 1) w12 fun v13 w14 =>
 rv Try.prog (Instr.alloc 34 true (.tuple #[])) w14 fun v15 w16 =>
 ru Try.prog (Instr.storeAt 34 v15 v11) w16 fun w17 =>
 JoinW (S := Value × Unit) (fun J20 =>
 rv Try.prog (bin .eql 22 true a1 (.int .u32 0)) w17 fun v21 w22 =>
 ifB v21
 (J20 ((.bool true), ()) w22)
 (Ca Try.prog 36 #[a2, (.int .i64 1), (.int .i64 1000000000000000)] w22 fun v23 w24 =>
 rv Try.prog (Op.unary .not v23) w24 fun v25 w26 =>
 J20 (v25, ()) w26))
 (J22_0 K v13 v15 a2 a0 a1))
theorem F22_eq (a0 a1 a2 : Value) (w : World) (K : Kont) : vcFnJ Try.prog Try.f22 [a0, a1, a2] w K = F22 a0 a1 a2 w K := by kernel_rfl
theorem F22_ok : okF Try.prog Try.f22 3 = true := by kernel_rfl
theorem ca22{a0 a1 a2 : Value} {w : World} {K : Kont} (h : F22 a0 a1 a2 w K) : Ca Try.prog 22 #[a0, a1, a2] w K :=
  ca_of_vcJ Try.noNum Try.func22 F22_ok (by rw [F22_eq]; exact h)



/-- (*broadside/ledger.Ledger).Get -/
def F13 (a0 a1 : Value) (w : World) (K : Kont) : Prop :=
 rv Try.prog (Instr.alloc 34 true (.tuple #[])) w fun v0 w1 =>
 Ca Try.prog 35 #[a0] w1 fun v2 w3 =>
 rv Try.prog (Op.unary .not v2) w3 fun v4 w5 =>
 ifB v4
 (rv Try.prog (Instr.build 34 #[]) w5 fun v6 w7 =>
 ru Try.prog (Instr.storeAt 34 v0 v6) w7 fun w8 =>
 rdW Try.prog (Instr.loadAt 34 v0) w8 fun v9 =>
 K (.tuple #[v9, (.int .i64 1)]) w8)
 (nilK a0 fun v10 => rv Try.prog (Instr.fieldAt 74 v10 0) w5 fun v11 w12 =>
 rv Try.prog (Instr.loadAt 71 v11) w12 fun v13 w14 =>
 rx Try.prog (xLook 71 v13 a1 true) w14 fun v15 w16 =>
 rv Try.prog (Instr.extract v15 0) w16 fun v17 w18 =>
 rv Try.prog (Instr.extract v15 1) w18 fun v19 w20 =>
 rv Try.prog (Instr.alloc 34 true (.tuple #[])) w20 fun v21 w22 =>
 ru Try.prog (Instr.storeAt 34 v21 v17) w22 fun w23 =>
 rv Try.prog (Op.unary .not v19) w23 fun v24 w25 =>
 ifB v24
 (rv Try.prog (Instr.build 34 #[]) w25 fun v26 w27 =>
 ru Try.prog (Instr.storeAt 34 v0 v26) w27 fun w28 =>
 rdW Try.prog (Instr.loadAt 34 v0) w28 fun v29 =>
 K (.tuple #[v29, (.int .i64 7)]) w28)
 (rv Try.prog (Instr.loadAt 34 v21) w25 fun v30 w31 =>
 ru Try.prog (Instr.storeAt 34 v0 v30) w31 fun w32 =>
 rdW Try.prog (Instr.loadAt 34 v0) w32 fun v33 =>
 K (.tuple #[v33, (.int .i64 0)]) w32))
theorem F13_eq (a0 a1 : Value) (w : World) (K : Kont) : vcFnJ Try.prog Try.f13 [a0, a1] w K = F13 a0 a1 w K := by kernel_rfl
theorem F13_ok : okF Try.prog Try.f13 2 = true := by kernel_rfl
theorem ca13{a0 a1 : Value} {w : World} {K : Kont} (h : F13 a0 a1 w K) : Ca Try.prog 13 #[a0, a1] w K :=
  ca_of_vcJ Try.noNum Try.func13 F13_ok (by rw [F13_eq]; exact h)


def J25_0 (K : Kont) (a0 : Value) (v0 : Value) (s6 : Value × Unit) (w7 : World) : Prop :=
 ∀ _ : Nat → Value,
 ifB s6.1
 (K (.int .i64 2) w7)
 (nilK a0 fun v31 => rdP Try.prog (Instr.fieldAt 74 v31 0) fun v32 =>
 rdW Try.prog (Instr.loadAt 71 v32) w7.drew fun v33 =>
 rdP Try.prog (Instr.fieldAt 34 v0 0) fun v34 =>
 rdW Try.prog (Instr.loadAt 22 v34) w7.drew fun v35 =>
 rdX Try.prog (xLook 71 v33 v35 true) w7.drew fun v36 =>
 rdP Try.prog (Instr.extract v36 0) fun v37 =>
 rdP Try.prog (Instr.extract v36 1) fun v38 =>
 rv Try.prog (Instr.alloc 34 true (.tuple #[])) w7.drew fun v39 w40 =>
 Sem.run Try.prog (xLook 71 v33 v35 true) w40 = .ok v36 w40 ∧ Sem.run Try.prog (Instr.loadAt 22 v34) w40 = .ok v35 w40 ∧ Sem.run Try.prog (Instr.loadAt 71 v32) w40 = .ok v33 w40 ∧ 
 (ru Try.prog (Instr.storeAt 34 v39 v37) w40 fun w41 =>
 rv Try.prog (Op.unary .not v38) w41 fun v42 w43 =>
 ifB v42
 (K (.int .i64 7) w43)
 (nilK a0 fun v44 => rdP Try.prog (Instr.fieldAt 74 v44 0) fun v45 =>
 rdW Try.prog (Instr.loadAt 71 v45) w43.drew fun v46 =>
 rdP Try.prog (Instr.fieldAt 34 v0 0) fun v47 =>
 rdW Try.prog (Instr.loadAt 22 v47) w43.drew fun v48 =>
 rdW Try.prog (Instr.loadAt 34 v0) w43.drew fun v49 =>
 rux Try.prog (xMapUp 71 v46 v48 v49) w43.drew fun w50 =>
 K (.int .i64 0) w50)))

/-- (*broadside/ledger.Ledger).Set -/
def F25 (a0 a1 : Value) (w : World) (K : Kont) : Prop :=
 rv Try.prog (Instr.box 34 a1) w fun v0 w1 =>
 Ca Try.prog 35 #[a0] w1 fun v2 w3 =>
 rv Try.prog (Op.unary .not v2) w3 fun v4 w5 =>
 ifB v4
 (K (.int .i64 1) w5)
 (JoinW (S := Value × Unit) (fun J8 =>
 rv Try.prog (Instr.fieldAt 34 v0 1) w5 fun v9 w10 =>
 rv Try.prog (Instr.loadAt 2 v9) w10 fun v11 w12 =>
 Ca Try.prog 36 #[v11, (.int .i64 0), (.int .i64 1000000000000000)] w12 fun v13 w14 =>
 rv Try.prog (Op.unary .not v13) w14 fun v15 w16 =>
 ifB v15
 (J8 ((.bool true), ()) w16)
 (rv Try.prog (Instr.fieldAt 34 v0 0) w16 fun v17 w18 =>
 rv Try.prog (Instr.loadAt 22 v17) w18 fun v19 w20 =>
 rv Try.prog (bin .eql 22 true v19 (.int .u32 0)) w20 fun v21 w22 =>
 ifB v21
 (rv Try.prog (Instr.fieldAt 34 v0 2) w22 fun v23 w24 =>
 rv Try.prog (Instr.loadAt 4 v23) w24 fun v25 w26 =>
 ifB v25
 (J8 ((.bool true), ()) w26)
 (rv Try.prog (Instr.fieldAt 34 v0 3) w26 fun v27 w28 =>
 rv Try.prog (Instr.loadAt 4 v27) w28 fun v29 w30 =>
 J8 (v29, ()) w30))
 (J8 ((.bool false), ()) w22)))
 (J25_0 K a0 v0))
theorem F25_eq (a0 a1 : Value) (w : World) (K : Kont) : vcFnJ Try.prog Try.f25 [a0, a1] w K = F25 a0 a1 w K := by kernel_rfl
theorem F25_ok : okF Try.prog Try.f25 2 = true := by kernel_rfl
theorem ca25{a0 a1 : Value} {w : World} {K : Kont} (h : F25 a0 a1 w K) : Ca Try.prog 25 #[a0, a1] w K :=
  ca_of_vcJ Try.noNum Try.func25 F25_ok (by rw [F25_eq]; exact h)



/-- (*broadside/ledger.Ledger).Position -/
def F12 (a0 a1 a2 : Value) (w : World) (K : Kont) : Prop :=
 rv Try.prog (Instr.alloc 31 true (.tuple #[])) w fun v0 w1 =>
 rv Try.prog (Instr.build 31 #[(0, a1), (1, a2)]) w1 fun v2 w3 =>
 rv Try.prog (Instr.alloc 31 true (.tuple #[])) w3 fun v4 w5 =>
 ru Try.prog (Instr.storeAt 31 v4 v2) w5 fun w6 =>
 Ca Try.prog 35 #[a0] w6 fun v7 w8 =>
 ifB v7
 (nilK a0 fun v9 => rv Try.prog (Instr.fieldAt 74 v9 1) w8 fun v10 w11 =>
 rv Try.prog (Instr.loadAt 72 v10) w11 fun v12 w13 =>
 rv Try.prog (Instr.build 81 #[(0, a1), (1, a2)]) w13 fun v14 w15 =>
 rx Try.prog (xLook 72 v12 v14 true) w15 fun v16 w17 =>
 rv Try.prog (Instr.extract v16 0) w17 fun v18 w19 =>
 rv Try.prog (Instr.extract v16 1) w19 fun v20 w21 =>
 rv Try.prog (Instr.alloc 31 true (.tuple #[])) w21 fun v22 w23 =>
 ru Try.prog (Instr.storeAt 31 v22 v18) w23 fun w24 =>
 ifB v20
 (rv Try.prog (Instr.loadAt 31 v22) w24 fun v25 w26 =>
 ru Try.prog (Instr.storeAt 31 v0 v25) w26 fun w27 =>
 rdW Try.prog (Instr.loadAt 31 v0) w27 fun v28 =>
 K v28 w27)
 (rv Try.prog (Instr.loadAt 31 v4) w24 fun v29 w30 =>
 ru Try.prog (Instr.storeAt 31 v0 v29) w30 fun w31 =>
 rdW Try.prog (Instr.loadAt 31 v0) w31 fun v32 =>
 K v32 w31))
 (rv Try.prog (Instr.loadAt 31 v4) w8 fun v33 w34 =>
 ru Try.prog (Instr.storeAt 31 v0 v33) w34 fun w35 =>
 rdW Try.prog (Instr.loadAt 31 v0) w35 fun v36 =>
 K v36 w35)
theorem F12_eq (a0 a1 a2 : Value) (w : World) (K : Kont) : vcFnJ Try.prog Try.f12 [a0, a1, a2] w K = F12 a0 a1 a2 w K := by kernel_rfl
theorem F12_ok : okF Try.prog Try.f12 3 = true := by kernel_rfl
theorem ca12{a0 a1 a2 : Value} {w : World} {K : Kont} (h : F12 a0 a1 a2 w K) : Ca Try.prog 12 #[a0, a1, a2] w K :=
  ca_of_vcJ Try.noNum Try.func12 F12_ok (by rw [F12_eq]; exact h)


def J38_0 (a0 : Value) (v12 : Value) (K : Kont) (v0 : Value) (s15 : Value × Unit) (w16 : World) : Prop :=
 ∀ _ : Nat → Value,
 ifB s15.1
 (nilK a0 fun v30 => rdP Try.prog (Instr.fieldAt 74 v30 1) fun v31 =>
 rdW Try.prog (Instr.loadAt 72 v31) w16.drew fun v32 =>
 rdW Try.prog (Instr.loadAt 81 v12) w16.drew fun v33 =>
 rx Try.prog (xDelete #[72, 81] 0 [v32, v33]) w16.drew fun v34 w35 =>
 K (.tuple #[]) w35)
 (nilK a0 fun v36 => rdP Try.prog (Instr.fieldAt 74 v36 1) fun v37 =>
 rdW Try.prog (Instr.loadAt 72 v37) w16.drew fun v38 =>
 rdW Try.prog (Instr.loadAt 81 v12) w16.drew fun v39 =>
 rdW Try.prog (Instr.loadAt 31 v0) w16.drew fun v40 =>
 rux Try.prog (xMapUp 72 v38 v39 v40) w16.drew fun w41 =>
 K (.tuple #[]) w41)

/-- (*broadside/ledger.Ledger).put -/
def F38 (a0 a1 : Value) (w : World) (K : Kont) : Prop :=
 rv Try.prog (Instr.box 31 a1) w fun v0 w1 =>
 rv Try.prog (Instr.fieldAt 31 v0 0) w1 fun v2 w3 =>
 rv Try.prog (Instr.loadAt 22 v2) w3 fun v4 w5 =>
 rv Try.prog (Instr.fieldAt 31 v0 1) w5 fun v6 w7 =>
 rv Try.prog (Instr.loadAt 22 v6) w7 fun v8 w9 =>
 rv Try.prog (Instr.build 81 #[(0, v4), (1, v8)]) w9 fun v10 w11 =>
 rv Try.prog (Instr.alloc 81 true (.tuple #[])) w11 fun v12 w13 =>
 ru Try.prog (Instr.storeAt 81 v12 v10) w13 fun w14 =>
 JoinW (S := Value × Unit) (fun J17 =>
 rv Try.prog (Instr.fieldAt 31 v0 2) w14 fun v18 w19 =>
 rv Try.prog (Instr.loadAt 2 v18) w19 fun v20 w21 =>
 rv Try.prog (bin .eql 2 true v20 (.int .i64 0)) w21 fun v22 w23 =>
 ifB v22
 (rv Try.prog (Instr.fieldAt 31 v0 3) w23 fun v24 w25 =>
 rv Try.prog (Instr.loadAt 2 v24) w25 fun v26 w27 =>
 rv Try.prog (bin .eql 2 true v26 (.int .i64 0)) w27 fun v28 w29 =>
 J17 (v28, ()) w29)
 (J17 ((.bool false), ()) w23))
 (J38_0 a0 v12 K v0)
theorem F38_eq (a0 a1 : Value) (w : World) (K : Kont) : vcFnJ Try.prog Try.f38 [a0, a1] w K = F38 a0 a1 w K := by kernel_rfl
theorem F38_ok : okF Try.prog Try.f38 2 = true := by kernel_rfl
theorem ca38{a0 a1 : Value} {w : World} {K : Kont} (h : F38 a0 a1 w K) : Ca Try.prog 38 #[a0, a1] w K :=
  ca_of_vcJ Try.noNum Try.func38 F38_ok (by rw [F38_eq]; exact h)



/-- broadside/fixnum.size -/
def F54 (a0 : Value) (w : World) (K : Kont) : Prop :=
 rv Try.prog (bin .lss 2 true a0 (.int .i64 0)) w fun v0 w1 =>
 ifB v0
 (rv Try.prog (convert 2 92 a0) w1 fun v2 w3 =>
 rv Try.prog (Op.unary .neg v2) w3 fun v4 w5 =>
 K (.tuple #[v4, (.bool true)]) w5)
 (rv Try.prog (convert 2 92 a0) w1 fun v6 w7 =>
 K (.tuple #[v6, (.bool false)]) w7)
theorem F54_eq (a0 : Value) (w : World) (K : Kont) : vcFnJ Try.prog Try.f54 [a0] w K = F54 a0 w K := by kernel_rfl
theorem F54_ok : okF Try.prog Try.f54 1 = true := by kernel_rfl
theorem ca54{a0 : Value} {w : World} {K : Kont} (h : F54 a0 w K) : Ca Try.prog 54 #[a0] w K :=
  ca_of_vcJ Try.noNum Try.func54 F54_ok (by rw [F54_eq]; exact h)



/-- broadside/fixnum.Within -/
def F37 (a0 a1 : Value) (w : World) (K : Kont) : Prop :=
 Ca Try.prog 54 #[a0] w fun v0 w1 =>
 rv Try.prog (Instr.extract v0 0) w1 fun v2 w3 =>
 rv Try.prog (Instr.extract v0 1) w3 fun v4 w5 =>
 rv Try.prog (bin .geq 2 true a1 (.int .i64 0)) w5 fun v6 w7 =>
 ifB v6
 (rv Try.prog (convert 2 92 a1) w7 fun v8 w9 =>
 rv Try.prog (bin .leq 92 false v2 v8) w9 fun v10 w11 =>
 K v10 w11)
 (K (.bool false) w7)
theorem F37_eq (a0 a1 : Value) (w : World) (K : Kont) : vcFnJ Try.prog Try.f37 [a0, a1] w K = F37 a0 a1 w K := by kernel_rfl
theorem F37_ok : okF Try.prog Try.f37 2 = true := by kernel_rfl
theorem ca37{a0 a1 : Value} {w : World} {K : Kont} (h : F37 a0 a1 w K) : Ca Try.prog 37 #[a0, a1] w K :=
  ca_of_vcJ Try.noNum Try.func37 F37_ok (by rw [F37_eq]; exact h)


def J10_0 (K : Kont) (s116 : Value × Value × Unit) (K118 : Value × Value × Unit → World → Prop) (s128 : Value × Unit) (w129 : World) : Prop :=
 ∀ _ : Nat → Value,
 ifB s128.1
 (K (.int .i64 6) w129)
 (rv Try.prog (bin .add 3 true s116.2.1 (.int .i64 1)) w129 fun v147 w148 =>
 K118 (s116.1, v147, ()) w148)

def L10_1 (v114 : Value) (v112 : Value) (K : Kont) (v62 : Value) (a0 : Value) (v64 : Value) (s116 : Value × Value × Unit) (w117 : World) (K118 : Value × Value × Unit → World → Prop) : Prop :=
 ∀ _ : Nat → Value,
 rv Try.prog (bin .lss 3 false s116.2.1 v114) w117 fun v119 w120 =>
 ifB v119
 (rv Try.prog (Instr.indexAt 59 v112 s116.2.1) w120 fun v121 w122 =>
 rv Try.prog (Instr.loadAt 31 v121) w122 fun v123 w124 =>
 rv Try.prog (Instr.alloc 31 true (.tuple #[])) w124 fun v125 w126 =>
 ru Try.prog (Instr.storeAt 31 v125 v123) w126 fun w127 =>
 JoinW (S := Value × Unit) (fun J130 =>
 rv Try.prog (Instr.fieldAt 31 v125 2) w127 fun v131 w132 =>
 rv Try.prog (Instr.loadAt 2 v131) w132 fun v133 w134 =>
 Ca Try.prog 37 #[v133, (.int .i64 10000000)] w134 fun v135 w136 =>
 rv Try.prog (Op.unary .not v135) w136 fun v137 w138 =>
 ifB v137
 (J130 ((.bool true), ()) w138)
 (rv Try.prog (Instr.fieldAt 31 v125 3) w138 fun v139 w140 =>
 rv Try.prog (Instr.loadAt 2 v139) w140 fun v141 w142 =>
 Ca Try.prog 37 #[v141, (.int .i64 1000000000000000)] w142 fun v143 w144 =>
 rv Try.prog (Op.unary .not v143) w144 fun v145 w146 =>
 J130 (v145, ()) w146))
 (J10_0 K s116 K118))
 (rv Try.prog (Instr.loadAt 31 v62) w120 fun v149 w150 =>
 Ca Try.prog 38 #[a0, v149] w150 fun v151 w152 =>
 rv Try.prog (Instr.loadAt 31 v64) w152 fun v153 w154 =>
 Ca Try.prog 38 #[a0, v153] w154 fun v155 w156 =>
 K (.int .i64 0) w156)

def J10_2 (K : Kont) (a0 : Value) (a1 : Value) (a2 : Value) (a3 : Value) (a5 : Value) (a4 : Value) (s51 : Value × Unit) (w52 : World) : Prop :=
 ∀ _ : Nat → Value,
 ifB s51.1
 (K (.int .i64 7) w52)
 (Ca Try.prog 12 #[a0, a1, a2] w52 fun v58 w59 =>
 Ca Try.prog 12 #[a0, a1, a3] w59 fun v60 w61 =>
 rv Try.prog (Instr.alloc 31 true (.tuple #[])) w61 fun v62 w63 =>
 rv Try.prog (Instr.alloc 31 true (.tuple #[])) w63 fun v64 w65 =>
 ru Try.prog (Instr.storeAt 31 v62 v58) w65 fun w66 =>
 ru Try.prog (Instr.storeAt 31 v64 v60) w66 fun w67 =>
 rv Try.prog (Instr.fieldAt 31 v62 2) w67 fun v68 w69 =>
 rv Try.prog (Instr.loadAt 2 v68) w69 fun v70 w71 =>
 rv Try.prog (bin .add 2 false v70 a5) w71 fun v72 w73 =>
 rv Try.prog (Instr.fieldAt 31 v62 2) w73 fun v74 w75 =>
 ru Try.prog (Instr.storeAt 2 v74 v72) w75 fun w76 =>
 rv Try.prog (Instr.fieldAt 31 v62 3) w76 fun v77 w78 =>
 rv Try.prog (Instr.loadAt 2 v77) w78 fun v79 w80 =>
 rv Try.prog (bin .mul 2 false a4 a5) w80 fun v81 w82 =>
 rv Try.prog (bin .add 2 false v79 v81) w82 fun v83 w84 =>
 rv Try.prog (Instr.fieldAt 31 v62 3) w84 fun v85 w86 =>
 ru Try.prog (Instr.storeAt 2 v85 v83) w86 fun w87 =>
 rv Try.prog (Instr.fieldAt 31 v64 2) w87 fun v88 w89 =>
 rv Try.prog (Instr.loadAt 2 v88) w89 fun v90 w91 =>
 rv Try.prog (bin .sub 2 false v90 a5) w91 fun v92 w93 =>
 rv Try.prog (Instr.fieldAt 31 v64 2) w93 fun v94 w95 =>
 ru Try.prog (Instr.storeAt 2 v94 v92) w95 fun w96 =>
 rv Try.prog (Instr.fieldAt 31 v64 3) w96 fun v97 w98 =>
 rv Try.prog (Instr.loadAt 2 v97) w98 fun v99 w100 =>
 rv Try.prog (bin .mul 2 false a4 a5) w100 fun v101 w102 =>
 rv Try.prog (bin .sub 2 false v99 v101) w102 fun v103 w104 =>
 rv Try.prog (Instr.fieldAt 31 v64 3) w104 fun v105 w106 =>
 ru Try.prog (Instr.storeAt 2 v105 v103) w106 fun w107 =>
 rv Try.prog (Instr.loadAt 31 v62) w107 fun v108 w109 =>
 rv Try.prog (Instr.loadAt 31 v64) w109 fun v110 w111 =>
 rx Try.prog (xLit 59 2 [(0, v108), (1, v110)]) w111 fun v112 w113 =>
 rn Try.prog (builtin .len #[59] 3 #[false] #[v112]) w113 fun v114 w115 =>
 LoopW (S := Value × Value × Unit) (L10_1 v114 v112 K v62 a0 v64) ((.int .i64 0), (.int .i64 0), ()) w115)

def J10_3 (K : Kont) (a0 : Value) (a2 : Value) (a3 : Value) (a1 : Value) (a5 : Value) (a4 : Value) (s4 : Value × Unit) (w5 : World) : Prop :=
 ∀ _ : Nat → Value,
 ifB s4.1
 (K (.int .i64 2) w5)
 (nilK a0 fun v23 => rv Try.prog (Instr.fieldAt 74 v23 0) w5 fun v24 w25 =>
 rv Try.prog (Instr.loadAt 71 v24) w25 fun v26 w27 =>
 rx Try.prog (xLook 71 v26 a2 true) w27 fun v28 w29 =>
 rv Try.prog (Instr.extract v28 0) w29 fun v30 w31 =>
 rv Try.prog (Instr.extract v28 1) w31 fun v32 w33 =>
 rv Try.prog (Instr.alloc 34 true (.tuple #[])) w33 fun v34 w35 =>
 ru Try.prog (Instr.storeAt 34 v34 v30) w35 fun w36 =>
 nilK a0 fun v37 => rv Try.prog (Instr.fieldAt 74 v37 0) w36 fun v38 w39 =>
 rv Try.prog (Instr.loadAt 71 v38) w39 fun v40 w41 =>
 rx Try.prog (xLook 71 v40 a3 true) w41 fun v42 w43 =>
 rv Try.prog (Instr.extract v42 0) w43 fun v44 w45 =>
 rv Try.prog (Instr.extract v42 1) w45 fun v46 w47 =>
 rv Try.prog (Instr.alloc 34 true (.tuple #[])) w47 fun v48 w49 =>
 ru Try.prog (Instr.storeAt 34 v48 v44) w49 fun w50 =>
 JoinW (S := Value × Unit) (fun J53 =>
 rv Try.prog (Op.unary .not v32) w50 fun v54 w55 =>
 ifB v54
 (J53 ((.bool true), ()) w55)
 (rv Try.prog (Op.unary .not v46) w55 fun v56 w57 =>
 J53 (v56, ()) w57))
 (J10_2 K a0 a1 a2 a3 a5 a4))

/-- (*broadside/ledger.Ledger).Trade -/
def F10 (a0 a1 a2 a3 a4 a5 : Value) (w : World) (K : Kont) : Prop :=
 Ca Try.prog 35 #[a0] w fun v0 w1 =>
 rv Try.prog (Op.unary .not v0) w1 fun v2 w3 =>
 ifB v2
 (K (.int .i64 1) w3)
 (JoinW (S := Value × Unit) (fun J6 =>
 rv Try.prog (bin .eql 22 true a1 (.int .u32 0)) w3 fun v7 w8 =>
 ifB v7
 (J6 ((.bool true), ()) w8)
 (rv Try.prog (bin .eql 22 true a2 (.int .u32 0)) w8 fun v9 w10 =>
 ifB v9
 (J6 ((.bool true), ()) w10)
 (rv Try.prog (bin .eql 22 true a3 (.int .u32 0)) w10 fun v11 w12 =>
 ifB v11
 (J6 ((.bool true), ()) w12)
 (rv Try.prog (bin .eql 22 false a2 a3) w12 fun v13 w14 =>
 ifB v13
 (J6 ((.bool true), ()) w14)
 (Ca Try.prog 36 #[a4, (.int .i64 1), (.int .i64 10000000)] w14 fun v15 w16 =>
 rv Try.prog (Op.unary .not v15) w16 fun v17 w18 =>
 ifB v17
 (J6 ((.bool true), ()) w18)
 (Ca Try.prog 36 #[a5, (.int .i64 1), (.int .i64 10000000)] w18 fun v19 w20 =>
 rv Try.prog (Op.unary .not v19) w20 fun v21 w22 =>
 J6 (v21, ()) w22))))))
 (J10_3 K a0 a2 a3 a1 a5 a4))
theorem F10_eq (a0 a1 a2 a3 a4 a5 : Value) (w : World) (K : Kont) : vcFnJ Try.prog Try.f10 [a0, a1, a2, a3, a4, a5] w K = F10 a0 a1 a2 a3 a4 a5 w K := by kernel_rfl
theorem F10_ok : okF Try.prog Try.f10 6 = true := by kernel_rfl
theorem ca10{a0 a1 a2 a3 a4 a5 : Value} {w : World} {K : Kont} (h : F10 a0 a1 a2 a3 a4 a5 w K) : Ca Try.prog 10 #[a0, a1, a2, a3, a4, a5] w K :=
  ca_of_vcJ Try.noNum Try.func10 F10_ok (by rw [F10_eq]; exact h)


def L18_0 (v9 : Value) (K : Kont) (s11 : Value × Unit) (w12 : World) (K13 : Value × Unit → World → Prop) : Prop :=
 ∀ _ : Nat → Value,
 rx Try.prog (xNext v9 false 0) w12 fun v14 w15 =>
 rv Try.prog (Instr.extract v14 0) w15 fun v16 w17 =>
 ifB v16
 (rx Try.prog (xEntry v9) w17 fun v18 w19 =>
 rv Try.prog (Instr.extract v18 1) w19 fun v20 w21 =>
 rv Try.prog (Instr.alloc 34 true (.tuple #[])) w21 fun v22 w23 =>
 ru Try.prog (Instr.storeAt 34 v22 v20) w23 fun w24 =>
 rv Try.prog (Instr.fieldAt 34 v22 1) w24 fun v25 w26 =>
 rv Try.prog (Instr.loadAt 2 v25) w26 fun v27 w28 =>
 rv Try.prog (bin .add 2 false s11.1 v27) w28 fun v29 w30 =>
 K13 (v29, ()) w30)
 (K s11.1 w17)

/-- (*broadside/ledger.Ledger).Funds -/
def F18 (a0 : Value) (w : World) (K : Kont) : Prop :=
 Ca Try.prog 35 #[a0] w fun v0 w1 =>
 rv Try.prog (Op.unary .not v0) w1 fun v2 w3 =>
 ifB v2
 (K (.int .i64 0) w3)
 (nilK a0 fun v4 => rv Try.prog (Instr.fieldAt 74 v4 0) w3 fun v5 w6 =>
 rv Try.prog (Instr.loadAt 71 v5) w6 fun v7 w8 =>
 rx Try.prog (xRange 71 v7) w8 fun v9 w10 =>
 LoopW (S := Value × Unit) (L18_0 v9 K) ((.int .i64 0), ()) w10)
theorem F18_eq (a0 : Value) (w : World) (K : Kont) : vcFnJ Try.prog Try.f18 [a0] w K = F18 a0 w K := by kernel_rfl
theorem F18_ok : okF Try.prog Try.f18 1 = true := by kernel_rfl
theorem ca18{a0 : Value} {w : World} {K : Kont} (h : F18 a0 w K) : Ca Try.prog 18 #[a0] w K :=
  ca_of_vcJ Try.noNum Try.func18 F18_ok (by rw [F18_eq]; exact h)



/-- broadside/ledger.told[broadside/api.Account] -/
def F44 (a0 : Value) (w : World) (K : Kont) : Prop :=
 rv Try.prog (Instr.box 58 a0) w fun v0 w1 =>
 K (.func (.func 61) #[] #[v0]) w1
theorem F44_eq (a0 : Value) (w : World) (K : Kont) : vcFnJ Try.prog Try.f44 [a0] w K = F44 a0 w K := by kernel_rfl
theorem F44_ok : okF Try.prog Try.f44 1 = true := by kernel_rfl
theorem ca44{a0 : Value} {w : World} {K : Kont} (h : F44 a0 w K) : Ca Try.prog 44 #[a0] w K :=
  ca_of_vcJ Try.noNum Try.func44 F44_ok (by rw [F44_eq]; exact h)


def L61_0 (v2 : Value) (v0 : Value) (a0 : Value) (K : Kont) (s4 : Value × Unit) (w5 : World) (K6 : Value × Unit → World → Prop) : Prop :=
 ∀ _ : Nat → Value,
 rv Try.prog (bin .lss 3 false s4.1 v2) w5 fun v7 w8 =>
 ifB v7
 (rv Try.prog (Instr.indexAt 58 v0 s4.1) w8 fun v9 w10 =>
 rv Try.prog (Instr.loadAt 34 v9) w10 fun v11 w12 =>
 rv Try.prog (Instr.alloc 34 true (.tuple #[])) w12 fun v13 w14 =>
 ru Try.prog (Instr.storeAt 34 v13 v11) w14 fun w15 =>
 rv Try.prog (Instr.loadAt 34 v13) w15 fun v16 w17 =>
 callV Try.prog a0 [v16] w17 fun v18 w19 =>
 rv Try.prog (Op.unary .not v18) w19 fun v20 w21 =>
 ifB v20
 (K (.tuple #[]) w21)
 (rv Try.prog (bin .add 3 true s4.1 (.int .i64 1)) w21 fun v22 w23 =>
 K6 (v22, ()) w23))
 (K (.tuple #[]) w8)

/-- broadside/ledger.told[broadside/api.Account]$1 -/
def F61 (a0 a1 : Value) (w : World) (K : Kont) : Prop :=
 rv Try.prog (Instr.loadAt 58 a1) w fun v0 w1 =>
 rn Try.prog (builtin .len #[58] 3 #[false] #[v0]) w1 fun v2 w3 =>
 LoopW (S := Value × Unit) (L61_0 v2 v0 a0 K) ((.int .i64 0), ()) w3
theorem F61_eq (a0 a1 : Value) (w : World) (K : Kont) : vcFnJ Try.prog Try.f61 [a0, a1] w K = F61 a0 a1 w K := by kernel_rfl
theorem F61_ok : okF Try.prog Try.f61 2 = true := by kernel_rfl
theorem ca61{a0 a1 : Value} {w : World} {K : Kont} (h : F61 a0 a1 w K) : Ca Try.prog 61 #[a0, a1] w K :=
  ca_of_vcJ Try.noNum Try.func61 F61_ok (by rw [F61_eq]; exact h)



/-- broadside/ledger.told[broadside/api.Position] -/
def F58 (a0 : Value) (w : World) (K : Kont) : Prop :=
 rv Try.prog (Instr.box 59 a0) w fun v0 w1 =>
 K (.func (.func 64) #[] #[v0]) w1
theorem F58_eq (a0 : Value) (w : World) (K : Kont) : vcFnJ Try.prog Try.f58 [a0] w K = F58 a0 w K := by kernel_rfl
theorem F58_ok : okF Try.prog Try.f58 1 = true := by kernel_rfl
theorem ca58{a0 : Value} {w : World} {K : Kont} (h : F58 a0 w K) : Ca Try.prog 58 #[a0] w K :=
  ca_of_vcJ Try.noNum Try.func58 F58_ok (by rw [F58_eq]; exact h)


def L64_0 (v2 : Value) (v0 : Value) (a0 : Value) (K : Kont) (s4 : Value × Unit) (w5 : World) (K6 : Value × Unit → World → Prop) : Prop :=
 ∀ _ : Nat → Value,
 rv Try.prog (bin .lss 3 false s4.1 v2) w5 fun v7 w8 =>
 ifB v7
 (rv Try.prog (Instr.indexAt 59 v0 s4.1) w8 fun v9 w10 =>
 rv Try.prog (Instr.loadAt 31 v9) w10 fun v11 w12 =>
 rv Try.prog (Instr.alloc 31 true (.tuple #[])) w12 fun v13 w14 =>
 ru Try.prog (Instr.storeAt 31 v13 v11) w14 fun w15 =>
 rv Try.prog (Instr.loadAt 31 v13) w15 fun v16 w17 =>
 callV Try.prog a0 [v16] w17 fun v18 w19 =>
 rv Try.prog (Op.unary .not v18) w19 fun v20 w21 =>
 ifB v20
 (K (.tuple #[]) w21)
 (rv Try.prog (bin .add 3 true s4.1 (.int .i64 1)) w21 fun v22 w23 =>
 K6 (v22, ()) w23))
 (K (.tuple #[]) w8)

/-- broadside/ledger.told[broadside/api.Position]$1 -/
def F64 (a0 a1 : Value) (w : World) (K : Kont) : Prop :=
 rv Try.prog (Instr.loadAt 59 a1) w fun v0 w1 =>
 rn Try.prog (builtin .len #[59] 3 #[false] #[v0]) w1 fun v2 w3 =>
 LoopW (S := Value × Unit) (L64_0 v2 v0 a0 K) ((.int .i64 0), ()) w3
theorem F64_eq (a0 a1 : Value) (w : World) (K : Kont) : vcFnJ Try.prog Try.f64 [a0, a1] w K = F64 a0 a1 w K := by kernel_rfl
theorem F64_ok : okF Try.prog Try.f64 2 = true := by kernel_rfl
theorem ca64{a0 a1 : Value} {w : World} {K : Kont} (h : F64 a0 a1 w K) : Ca Try.prog 64 #[a0, a1] w K :=
  ca_of_vcJ Try.noNum Try.func64 F64_ok (by rw [F64_eq]; exact h)



/-- (*broadside/ledger.Ledger).Accounts -/
def F20 (a0 : Value) (w : World) (K : Kont) : Prop :=
 rv Try.prog (Instr.box 23 a0) w fun v0 w1 =>
 K (.func (.func 41) #[] #[v0]) w1
theorem F20_eq (a0 : Value) (w : World) (K : Kont) : vcFnJ Try.prog Try.f20 [a0] w K = F20 a0 w K := by kernel_rfl
theorem F20_ok : okF Try.prog Try.f20 1 = true := by kernel_rfl
theorem ca20{a0 : Value} {w : World} {K : Kont} (h : F20 a0 w K) : Ca Try.prog 20 #[a0] w K :=
  ca_of_vcJ Try.noNum Try.func20 F20_ok (by rw [F20_eq]; exact h)


def L41_0 (v14 : Value) (J2 : Value × Unit → World → Prop) (s16 : Value × Unit) (w17 : World) (K18 : Value × Unit → World → Prop) : Prop :=
 ∀ _ : Nat → Value,
 rx Try.prog (xNext v14 false 0) w17 fun v19 w20 =>
 rv Try.prog (Instr.extract v19 0) w20 fun v21 w22 =>
 ifB v21
 (rx Try.prog (xEntry v14) w22 fun v23 w24 =>
 rv Try.prog (Instr.extract v23 0) w24 fun v25 w26 =>
 rv Try.prog (Instr.extract v23 1) w26 fun v27 w28 =>
 rv Try.prog (Instr.alloc 34 true (.tuple #[])) w28 fun v29 w30 =>
 ru Try.prog (Instr.storeAt 34 v29 v27) w30 fun w31 =>
 rv Try.prog (bin .neq 22 true v25 (.int .u32 0)) w31 fun v32 w33 =>
 ifB v32
 (rv Try.prog (Instr.loadAt 34 v29) w33 fun v34 w35 =>
 rx Try.prog (xLit 58 1 [(0, v34)]) w35 fun v36 w37 =>
 rx Try.prog (xAppend #[58, 58] 58 [s16.1, v36]) w37 fun v38 w39 =>
 K18 (v38, ()) w39)
 (K18 (s16.1, ()) w33))
 (J2 (s16.1, ()) w22)

def J41_1 (a0 : Value) (K : Kont) (s0 : Value × Unit) (w1 : World) : Prop :=
 ∀ _ : Nat → Value,
 Ca Try.prog 42 #[s0.1, (.func (.func 43) #[] #[])] w1 fun v40 w41 =>
 Ca Try.prog 44 #[s0.1] w41 fun v42 w43 =>
 callV Try.prog v42 [a0] w43 fun v44 w45 =>
 K (.tuple #[]) w45

/-- (*broadside/ledger.Ledger).Accounts$1 -/
def F41 (a0 a1 : Value) (w : World) (K : Kont) : Prop :=
 JoinW (S := Value × Unit) (fun J2 =>
 rv Try.prog (Instr.loadAt 23 a1) w fun v3 w4 =>
 Ca Try.prog 35 #[v3] w4 fun v5 w6 =>
 ifB v5
 (rv Try.prog (Instr.loadAt 23 a1) w6 fun v7 w8 =>
 nilK v7 fun v9 => rv Try.prog (Instr.fieldAt 74 v9 0) w8 fun v10 w11 =>
 rv Try.prog (Instr.loadAt 71 v10) w11 fun v12 w13 =>
 rx Try.prog (xRange 71 v12) w13 fun v14 w15 =>
 LoopW (S := Value × Unit) (L41_0 v14 J2) ((.slice none 0 0), ()) w15)
 (J2 ((.slice none 0 0), ()) w6))
 (J41_1 a0 K)
theorem F41_eq (a0 a1 : Value) (w : World) (K : Kont) : vcFnJ Try.prog Try.f41 [a0, a1] w K = F41 a0 a1 w K := by kernel_rfl
theorem F41_ok : okF Try.prog Try.f41 2 = true := by kernel_rfl
theorem ca41{a0 a1 : Value} {w : World} {K : Kont} (h : F41 a0 a1 w K) : Ca Try.prog 41 #[a0, a1] w K :=
  ca_of_vcJ Try.noNum Try.func41 F41_ok (by rw [F41_eq]; exact h)



/-- (*broadside/ledger.Ledger).Accounts$1$1 -/
def F43 (a0 a1 : Value) (w : World) (K : Kont) : Prop :=
 rv Try.prog (Instr.box 34 a0) w fun v0 w1 =>
 rv Try.prog (Instr.box 34 a1) w1 fun v2 w3 =>
 rv Try.prog (Instr.fieldAt 34 v0 0) w3 fun v4 w5 =>
 rv Try.prog (Instr.loadAt 22 v4) w5 fun v6 w7 =>
 rv Try.prog (Instr.fieldAt 34 v2 0) w7 fun v8 w9 =>
 rv Try.prog (Instr.loadAt 22 v8) w9 fun v10 w11 =>
 rv Try.prog (bin .lss 22 false v6 v10) w11 fun v12 w13 =>
 ifB v12
 (K (.int .i64 (-1)) w13)
 (K (.int .i64 1) w13)
theorem F43_eq (a0 a1 : Value) (w : World) (K : Kont) : vcFnJ Try.prog Try.f43 [a0, a1] w K = F43 a0 a1 w K := by kernel_rfl
theorem F43_ok : okF Try.prog Try.f43 2 = true := by kernel_rfl
theorem ca43{a0 a1 : Value} {w : World} {K : Kont} (h : F43 a0 a1 w K) : Ca Try.prog 43 #[a0, a1] w K :=
  ca_of_vcJ Try.noNum Try.func43 F43_ok (by rw [F43_eq]; exact h)



/-- (*broadside/ledger.Ledger).some -/
def F39 (a0 a1 : Value) (w : World) (K : Kont) : Prop :=
 rv Try.prog (Instr.box 23 a0) w fun v0 w1 =>
 rv Try.prog (Instr.box 83 a1) w1 fun v2 w3 =>
 K (.func (.func 55) #[] #[v0, v2]) w3
theorem F39_eq (a0 a1 : Value) (w : World) (K : Kont) : vcFnJ Try.prog Try.f39 [a0, a1] w K = F39 a0 a1 w K := by kernel_rfl
theorem F39_ok : okF Try.prog Try.f39 2 = true := by kernel_rfl
theorem ca39{a0 a1 : Value} {w : World} {K : Kont} (h : F39 a0 a1 w K) : Ca Try.prog 39 #[a0, a1] w K :=
  ca_of_vcJ Try.noNum Try.func39 F39_ok (by rw [F39_eq]; exact h)


def L55_0 (v14 : Value) (a2 : Value) (J2 : Value × Unit → World → Prop) (s16 : Value × Unit) (w17 : World) (K18 : Value × Unit → World → Prop) : Prop :=
 ∀ _ : Nat → Value,
 rx Try.prog (xNext v14 false 0) w17 fun v19 w20 =>
 rv Try.prog (Instr.extract v19 0) w20 fun v21 w22 =>
 ifB v21
 (rx Try.prog (xEntry v14) w22 fun v23 w24 =>
 rv Try.prog (Instr.extract v23 1) w24 fun v25 w26 =>
 rv Try.prog (Instr.alloc 31 true (.tuple #[])) w26 fun v27 w28 =>
 ru Try.prog (Instr.storeAt 31 v27 v25) w28 fun w29 =>
 rv Try.prog (Instr.loadAt 83 a2) w29 fun v30 w31 =>
 rv Try.prog (Instr.loadAt 31 v27) w31 fun v32 w33 =>
 callV Try.prog v30 [v32] w33 fun v34 w35 =>
 ifB v34
 (rv Try.prog (Instr.loadAt 31 v27) w35 fun v36 w37 =>
 rx Try.prog (xLit 59 1 [(0, v36)]) w37 fun v38 w39 =>
 rx Try.prog (xAppend #[59, 59] 59 [s16.1, v38]) w39 fun v40 w41 =>
 K18 (v40, ()) w41)
 (K18 (s16.1, ()) w35))
 (J2 (s16.1, ()) w22)

def J55_1 (a0 : Value) (K : Kont) (s0 : Value × Unit) (w1 : World) : Prop :=
 ∀ _ : Nat → Value,
 Ca Try.prog 56 #[s0.1, (.func (.func 57) #[] #[])] w1 fun v42 w43 =>
 Ca Try.prog 58 #[s0.1] w43 fun v44 w45 =>
 callV Try.prog v44 [a0] w45 fun v46 w47 =>
 K (.tuple #[]) w47

/-- (*broadside/ledger.Ledger).some$1 -/
def F55 (a0 a1 a2 : Value) (w : World) (K : Kont) : Prop :=
 JoinW (S := Value × Unit) (fun J2 =>
 rv Try.prog (Instr.loadAt 23 a1) w fun v3 w4 =>
 Ca Try.prog 35 #[v3] w4 fun v5 w6 =>
 ifB v5
 (rv Try.prog (Instr.loadAt 23 a1) w6 fun v7 w8 =>
 nilK v7 fun v9 => rv Try.prog (Instr.fieldAt 74 v9 1) w8 fun v10 w11 =>
 rv Try.prog (Instr.loadAt 72 v10) w11 fun v12 w13 =>
 rx Try.prog (xRange 72 v12) w13 fun v14 w15 =>
 LoopW (S := Value × Unit) (L55_0 v14 a2 J2) ((.slice none 0 0), ()) w15)
 (J2 ((.slice none 0 0), ()) w6))
 (J55_1 a0 K)
theorem F55_eq (a0 a1 a2 : Value) (w : World) (K : Kont) : vcFnJ Try.prog Try.f55 [a0, a1, a2] w K = F55 a0 a1 a2 w K := by kernel_rfl
theorem F55_ok : okF Try.prog Try.f55 3 = true := by kernel_rfl
theorem ca55{a0 a1 a2 : Value} {w : World} {K : Kont} (h : F55 a0 a1 a2 w K) : Ca Try.prog 55 #[a0, a1, a2] w K :=
  ca_of_vcJ Try.noNum Try.func55 F55_ok (by rw [F55_eq]; exact h)


def J57_0 (K : Kont) (v0 : Value) (v2 : Value) (s4 : Value × Unit) (w5 : World) : Prop :=
 ∀ _ : Nat → Value,
 ifB s4.1
 (K (.int .i64 (-1)) w5)
 (rv Try.prog (Instr.loadAt 31 v0) w5 fun v37 w38 =>
 rv Try.prog (Instr.loadAt 31 v2) w38 fun v39 w40 =>
 rv Try.prog (bin .eql 31 false v37 v39) w40 fun v41 w42 =>
 ifB v41
 (K (.int .i64 0) w42)
 (K (.int .i64 1) w42))

/-- (*broadside/ledger.Ledger).some$1$1 -/
def F57 (a0 a1 : Value) (w : World) (K : Kont) : Prop :=
 rv Try.prog (Instr.box 31 a0) w fun v0 w1 =>
 rv Try.prog (Instr.box 31 a1) w1 fun v2 w3 =>
 JoinW (S := Value × Unit) (fun J6 =>
 rv Try.prog (Instr.fieldAt 31 v0 0) w3 fun v7 w8 =>
 rv Try.prog (Instr.loadAt 22 v7) w8 fun v9 w10 =>
 rv Try.prog (Instr.fieldAt 31 v2 0) w10 fun v11 w12 =>
 rv Try.prog (Instr.loadAt 22 v11) w12 fun v13 w14 =>
 rv Try.prog (bin .lss 22 false v9 v13) w14 fun v15 w16 =>
 ifB v15
 (J6 ((.bool true), ()) w16)
 (rv Try.prog (Instr.fieldAt 31 v0 0) w16 fun v17 w18 =>
 rv Try.prog (Instr.loadAt 22 v17) w18 fun v19 w20 =>
 rv Try.prog (Instr.fieldAt 31 v2 0) w20 fun v21 w22 =>
 rv Try.prog (Instr.loadAt 22 v21) w22 fun v23 w24 =>
 rv Try.prog (bin .eql 22 false v19 v23) w24 fun v25 w26 =>
 ifB v25
 (rv Try.prog (Instr.fieldAt 31 v0 1) w26 fun v27 w28 =>
 rv Try.prog (Instr.loadAt 22 v27) w28 fun v29 w30 =>
 rv Try.prog (Instr.fieldAt 31 v2 1) w30 fun v31 w32 =>
 rv Try.prog (Instr.loadAt 22 v31) w32 fun v33 w34 =>
 rv Try.prog (bin .lss 22 false v29 v33) w34 fun v35 w36 =>
 J6 (v35, ()) w36)
 (J6 ((.bool false), ()) w26)))
 (J57_0 K v0 v2)
theorem F57_eq (a0 a1 : Value) (w : World) (K : Kont) : vcFnJ Try.prog Try.f57 [a0, a1] w K = F57 a0 a1 w K := by kernel_rfl
theorem F57_ok : okF Try.prog Try.f57 2 = true := by kernel_rfl
theorem ca57{a0 a1 : Value} {w : World} {K : Kont} (h : F57 a0 a1 w K) : Ca Try.prog 57 #[a0, a1] w K :=
  ca_of_vcJ Try.noNum Try.func57 F57_ok (by rw [F57_eq]; exact h)



/-- (*broadside/ledger.Ledger).Holders -/
def F17 (a0 a1 : Value) (w : World) (K : Kont) : Prop :=
 rv Try.prog (Instr.box 22 a1) w fun v0 w1 =>
 Ca Try.prog 39 #[a0, (.func (.func 40) #[] #[v0])] w1 fun v2 w3 =>
 K v2 w3
theorem F17_eq (a0 a1 : Value) (w : World) (K : Kont) : vcFnJ Try.prog Try.f17 [a0, a1] w K = F17 a0 a1 w K := by kernel_rfl
theorem F17_ok : okF Try.prog Try.f17 2 = true := by kernel_rfl
theorem ca17{a0 a1 : Value} {w : World} {K : Kont} (h : F17 a0 a1 w K) : Ca Try.prog 17 #[a0, a1] w K :=
  ca_of_vcJ Try.noNum Try.func17 F17_ok (by rw [F17_eq]; exact h)



/-- (*broadside/ledger.Ledger).Holders$1 -/
def F40 (a0 a1 : Value) (w : World) (K : Kont) : Prop :=
 rv Try.prog (Instr.box 31 a0) w fun v0 w1 =>
 rv Try.prog (Instr.fieldAt 31 v0 0) w1 fun v2 w3 =>
 rv Try.prog (Instr.loadAt 22 v2) w3 fun v4 w5 =>
 rv Try.prog (Instr.loadAt 22 a1) w5 fun v6 w7 =>
 rv Try.prog (bin .eql 22 false v4 v6) w7 fun v8 w9 =>
 K v8 w9
theorem F40_eq (a0 a1 : Value) (w : World) (K : Kont) : vcFnJ Try.prog Try.f40 [a0, a1] w K = F40 a0 a1 w K := by kernel_rfl
theorem F40_ok : okF Try.prog Try.f40 2 = true := by kernel_rfl
theorem ca40{a0 a1 : Value} {w : World} {K : Kont} (h : F40 a0 a1 w K) : Ca Try.prog 40 #[a0, a1] w K :=
  ca_of_vcJ Try.noNum Try.func40 F40_ok (by rw [F40_eq]; exact h)



/-- (*broadside/ledger.Ledger).Held -/
def F52 (a0 a1 : Value) (w : World) (K : Kont) : Prop :=
 rv Try.prog (Instr.box 22 a1) w fun v0 w1 =>
 Ca Try.prog 39 #[a0, (.func (.func 62) #[] #[v0])] w1 fun v2 w3 =>
 K v2 w3
theorem F52_eq (a0 a1 : Value) (w : World) (K : Kont) : vcFnJ Try.prog Try.f52 [a0, a1] w K = F52 a0 a1 w K := by kernel_rfl
theorem F52_ok : okF Try.prog Try.f52 2 = true := by kernel_rfl
theorem ca52{a0 a1 : Value} {w : World} {K : Kont} (h : F52 a0 a1 w K) : Ca Try.prog 52 #[a0, a1] w K :=
  ca_of_vcJ Try.noNum Try.func52 F52_ok (by rw [F52_eq]; exact h)



/-- (*broadside/ledger.Ledger).Held$1 -/
def F62 (a0 a1 : Value) (w : World) (K : Kont) : Prop :=
 rv Try.prog (Instr.box 31 a0) w fun v0 w1 =>
 rv Try.prog (Instr.fieldAt 31 v0 1) w1 fun v2 w3 =>
 rv Try.prog (Instr.loadAt 22 v2) w3 fun v4 w5 =>
 rv Try.prog (Instr.loadAt 22 a1) w5 fun v6 w7 =>
 rv Try.prog (bin .eql 22 false v4 v6) w7 fun v8 w9 =>
 K v8 w9
theorem F62_eq (a0 a1 : Value) (w : World) (K : Kont) : vcFnJ Try.prog Try.f62 [a0, a1] w K = F62 a0 a1 w K := by kernel_rfl
theorem F62_ok : okF Try.prog Try.f62 2 = true := by kernel_rfl
theorem ca62{a0 a1 : Value} {w : World} {K : Kont} (h : F62 a0 a1 w K) : Ca Try.prog 62 #[a0, a1] w K :=
  ca_of_vcJ Try.noNum Try.func62 F62_ok (by rw [F62_eq]; exact h)


def J15_0 (v0 : Value) (v34 : Value) (KN32 : World → Prop) (s76 : Unit) (w77 : World) : Prop :=
 ∀ _ : Nat → Value,
 rv Try.prog (Instr.loadAt 23 v0) w77 fun v87 w88 =>
 rv Try.prog (Instr.loadAt 31 v34) w88 fun v89 w90 =>
 Ca Try.prog 38 #[v87, v89] w90 fun v91 w92 =>
 KN32 w92

def R15_1 (v23 : Value) (v2 : Value) (v4 : Value) (v0 : Value) (l29 : Nat) (x30 : List Value) (w31 : World) (KN32 : World → Prop) (KJ33 : Code → World → Prop) : Prop :=
 rv Try.prog (Instr.alloc 31 true (.tuple #[])) w31 fun v34 w35 =>
 ru Try.prog (Instr.storeAt 31 v34 (x30.getD 0 undef)) w35 fun w36 =>
 beginK l29 w36 fun w37 =>
 rv Try.prog (Instr.loadAt 41 v23) w37 fun v38 w39 =>
 rv Try.prog (Instr.fieldAt 31 v34 1) w39 fun v40 w41 =>
 rv Try.prog (Instr.loadAt 22 v40) w41 fun v42 w43 =>
 rv Try.prog (Instr.fieldAt 31 v34 2) w43 fun v44 w45 =>
 rv Try.prog (Instr.loadAt 2 v44) w45 fun v46 w47 =>
 rv Try.prog (Instr.loadAt 2 v2) w47 fun v48 w49 =>
 rv Try.prog (bin .mul 2 false v46 v48) w49 fun v50 w51 =>
 rv Try.prog (Instr.fieldAt 31 v34 3) w51 fun v52 w53 =>
 rv Try.prog (Instr.loadAt 2 v52) w53 fun v54 w55 =>
 rv Try.prog (bin .sub 2 false v50 v54) w55 fun v56 w57 =>
 rv Try.prog (Instr.build 45 #[(0, v42), (1, v56)]) w57 fun v58 w59 =>
 rx Try.prog (xLit 41 1 [(0, v58)]) w59 fun v60 w61 =>
 rx Try.prog (xAppend #[41, 41] 41 [v38, v60]) w61 fun v62 w63 =>
 ru Try.prog (Instr.storeAt 41 v23 v62) w63 fun w64 =>
 rv Try.prog (Instr.fieldAt 31 v34 2) w64 fun v65 w66 =>
 rv Try.prog (Instr.loadAt 2 v65) w66 fun v67 w68 =>
 rv Try.prog (Instr.loadAt 2 v2) w68 fun v69 w70 =>
 rv Try.prog (bin .mul 2 false v67 v69) w70 fun v71 w72 =>
 rv Try.prog (Instr.fieldAt 31 v34 3) w72 fun v73 w74 =>
 ru Try.prog (Instr.storeAt 2 v73 v71) w74 fun w75 =>
 JoinW (S := Unit) (fun J78 =>
 rv Try.prog (Instr.loadAt 4 v4) w75 fun v79 w80 =>
 ifB v79
 (rv Try.prog (Instr.fieldAt 31 v34 2) w80 fun v81 w82 =>
 ru Try.prog (Instr.storeAt 2 v81 (.int .i64 0)) w82 fun w83 =>
 rv Try.prog (Instr.fieldAt 31 v34 3) w83 fun v84 w85 =>
 ru Try.prog (Instr.storeAt 2 v84 (.int .i64 0)) w85 fun w86 =>
 J78 (()) w86)
 (J78 (()) w80))
 (J15_0 v0 v34 KN32)

def A15_2 (v23 : Value) (K : Kont) (mk93 : List Nat) (pd94 : Option Code) (w95 : World) : Prop :=
 afterK
 (fun w96 =>
 rv Try.prog (Instr.loadAt 41 v23) w96 fun v97 w98 =>
 retD (mk93 ++ []) w98 fun w99 =>
 K (.tuple #[v97, (.int .i64 0)]) w99)
 (fun w100 =>
 retD (mk93 ++ []) w100 fun w101 =>
 K (.tuple #[(.slice none 0 0), (.int .i64 0)]) w101)
 (fun i103 w102 =>
 bc (Nat.beq i103 0)
 (rv Try.prog (Instr.loadAt 41 v23) w102 fun v104 w105 =>
 retD (mk93 ++ []) w105 fun w106 =>
 K (.tuple #[v104, (.int .i64 0)]) w106)
 (False)) pd94 w95

def J15_3 (K : Kont) (v0 : Value) (a1 : Value) (v2 : Value) (v4 : Value) (s12 : Value × Unit) (w13 : World) : Prop :=
 ∀ _ : Nat → Value,
 ifB s12.1
 (K (.tuple #[(.slice none 0 0), (.int .i64 2)]) w13)
 (rv Try.prog (Instr.alloc 41 true (.tuple #[])) w13 fun v23 w24 =>
 rv Try.prog (Instr.loadAt 23 v0) w24 fun v25 w26 =>
 Ca Try.prog 17 #[v25, a1] w26 fun v27 w28 =>
 RFW Try.prog none v27 w28 1 (R15_1 v23 v2 v4 v0) (A15_2 v23 K))

/-- (*broadside/ledger.Ledger).Mark -/
def F15 (a0 a1 a2 a3 : Value) (w : World) (K : Kont) : Prop :=
 rv Try.prog (Instr.box 23 a0) w fun v0 w1 =>
 rv Try.prog (Instr.box 2 a2) w1 fun v2 w3 =>
 rv Try.prog (Instr.box 4 a3) w3 fun v4 w5 =>
 rv Try.prog (Instr.loadAt 23 v0) w5 fun v6 w7 =>
 Ca Try.prog 35 #[v6] w7 fun v8 w9 =>
 rv Try.prog (Op.unary .not v8) w9 fun v10 w11 =>
 ifB v10
 (K (.tuple #[(.slice none 0 0), (.int .i64 1)]) w11)
 (JoinW (S := Value × Unit) (fun J14 =>
 rv Try.prog (bin .eql 22 true a1 (.int .u32 0)) w11 fun v15 w16 =>
 ifB v15
 (J14 ((.bool true), ()) w16)
 (rv Try.prog (Instr.loadAt 2 v2) w16 fun v17 w18 =>
 Ca Try.prog 36 #[v17, (.int .i64 1), (.int .i64 10000000)] w18 fun v19 w20 =>
 rv Try.prog (Op.unary .not v19) w20 fun v21 w22 =>
 J14 (v21, ()) w22))
 (J15_3 K v0 a1 v2 v4))
theorem F15_eq (a0 a1 a2 a3 : Value) (w : World) (K : Kont) : vcFnJ Try.prog Try.f15 [a0, a1, a2, a3] w K = F15 a0 a1 a2 a3 w K := by kernel_rfl
theorem F15_ok : okF Try.prog Try.f15 4 = true := by kernel_rfl
theorem ca15{a0 a1 a2 a3 : Value} {w : World} {K : Kont} (h : F15 a0 a1 a2 a3 w K) : Ca Try.prog 15 #[a0, a1, a2, a3] w K :=
  ca_of_vcJ Try.noNum Try.func15 F15_ok (by rw [F15_eq]; exact h)


def L14_0 (v39 : Value) (v4 : Value) (K : Kont) (s41 : Unit) (w42 : World) (K43 : Unit → World → Prop) : Prop :=
 ∀ _ : Nat → Value,
 rx Try.prog (xNext v39 false 0) w42 fun v44 w45 =>
 rv Try.prog (Instr.extract v44 0) w45 fun v46 w47 =>
 ifB v46
 (rx Try.prog (xEntry v39) w47 fun v48 w49 =>
 rv Try.prog (Instr.extract v48 0) w49 fun v50 w51 =>
 rv Try.prog (Instr.extract v48 1) w51 fun v52 w53 =>
 rv Try.prog (Instr.alloc 81 true (.tuple #[])) w53 fun v54 w55 =>
 rv Try.prog (Instr.alloc 31 true (.tuple #[])) w55 fun v56 w57 =>
 ru Try.prog (Instr.storeAt 81 v54 v50) w57 fun w58 =>
 ru Try.prog (Instr.storeAt 31 v56 v52) w58 fun w59 =>
 nilK v4 fun v60 => rdP Try.prog (Instr.fieldAt 74 v60 1) fun v61 =>
 rdW Try.prog (Instr.loadAt 72 v61) w59.drew fun v62 =>
 rdW Try.prog (Instr.loadAt 81 v54) w59.drew fun v63 =>
 rdW Try.prog (Instr.loadAt 31 v56) w59.drew fun v64 =>
 rux Try.prog (xMapUp 72 v62 v63 v64) w59.drew fun w65 =>
 K43 (()) w65)
 (K v4 w47)

def L14_1 (v11 : Value) (v4 : Value) (a0 : Value) (K : Kont) (s13 : Unit) (w14 : World) (K15 : Unit → World → Prop) : Prop :=
 ∀ _ : Nat → Value,
 rx Try.prog (xNext v11 false 0) w14 fun v16 w17 =>
 rv Try.prog (Instr.extract v16 0) w17 fun v18 w19 =>
 ifB v18
 (rx Try.prog (xEntry v11) w19 fun v20 w21 =>
 rv Try.prog (Instr.extract v20 0) w21 fun v22 w23 =>
 rv Try.prog (Instr.extract v20 1) w23 fun v24 w25 =>
 rv Try.prog (Instr.alloc 34 true (.tuple #[])) w25 fun v26 w27 =>
 ru Try.prog (Instr.storeAt 34 v26 v24) w27 fun w28 =>
 nilK v4 fun v29 => rdP Try.prog (Instr.fieldAt 74 v29 0) fun v30 =>
 rdW Try.prog (Instr.loadAt 71 v30) w28.drew fun v31 =>
 rdW Try.prog (Instr.loadAt 34 v26) w28.drew fun v32 =>
 rux Try.prog (xMapUp 71 v31 v22 v32) w28.drew fun w33 =>
 K15 (()) w33)
 (nilK a0 fun v34 => rv Try.prog (Instr.fieldAt 74 v34 1) w19 fun v35 w36 =>
 rv Try.prog (Instr.loadAt 72 v35) w36 fun v37 w38 =>
 rx Try.prog (xRange 72 v37) w38 fun v39 w40 =>
 LoopW (S := Unit) (L14_0 v39 v4 K) (()) w40)

/-- (*broadside/ledger.Ledger).Copy -/
def F14 (a0 : Value) (w : World) (K : Kont) : Prop :=
 Ca Try.prog 35 #[a0] w fun v0 w1 =>
 rv Try.prog (Op.unary .not v0) w1 fun v2 w3 =>
 ifB v2
 (K (.pointer none) w3)
 (Ca Try.prog 8 #[] w3 fun v4 w5 =>
 nilK a0 fun v6 => rv Try.prog (Instr.fieldAt 74 v6 0) w5 fun v7 w8 =>
 rv Try.prog (Instr.loadAt 71 v7) w8 fun v9 w10 =>
 rx Try.prog (xRange 71 v9) w10 fun v11 w12 =>
 LoopW (S := Unit) (L14_1 v11 v4 a0 K) (()) w12)
theorem F14_eq (a0 : Value) (w : World) (K : Kont) : vcFnJ Try.prog Try.f14 [a0] w K = F14 a0 w K := by kernel_rfl
theorem F14_ok : okF Try.prog Try.f14 1 = true := by kernel_rfl
theorem ca14{a0 : Value} {w : World} {K : Kont} (h : F14 a0 w K) : Ca Try.prog 14 #[a0] w K :=
  ca_of_vcJ Try.noNum Try.func14 F14_ok (by rw [F14_eq]; exact h)


def J53_0 (K : Kont) (v22 : Value) (s13 : Value × Value × Value × Value × Unit) (K15 : Value × Value × Value × Value × Unit → World → Prop) (s25 : Value × Unit) (w26 : World) : Prop :=
 ∀ _ : Nat → Value,
 ifB s25.1
 (K (.bool false) w26)
 (rv Try.prog (Instr.fieldAt 34 v22 0) w26 fun v42 w43 =>
 rv Try.prog (Instr.loadAt 22 v42) w43 fun v44 w45 =>
 rv Try.prog (Instr.fieldAt 34 v22 1) w45 fun v46 w47 =>
 rv Try.prog (Instr.loadAt 2 v46) w47 fun v48 w49 =>
 rv Try.prog (bin .add 2 false s13.1 v48) w49 fun v50 w51 =>
 rv Try.prog (bin .add 3 true s13.2.2.2.1 (.int .i64 1)) w51 fun v52 w53 =>
 K15 (v50, s13.2.1, v44, v52, ()) w53)

def L53_1 (v11 : Value) (a1 : Value) (K : Kont) (s13 : Value × Value × Value × Value × Unit) (w14 : World) (K15 : Value × Value × Value × Value × Unit → World → Prop) : Prop :=
 ∀ _ : Nat → Value,
 rv Try.prog (bin .lss 3 false s13.2.2.2.1 v11) w14 fun v16 w17 =>
 ifB v16
 (rv Try.prog (Instr.indexAt 58 a1 s13.2.2.2.1) w17 fun v18 w19 =>
 rv Try.prog (Instr.loadAt 34 v18) w19 fun v20 w21 =>
 rv Try.prog (Instr.alloc 34 true (.tuple #[])) w21 fun v22 w23 =>
 ru Try.prog (Instr.storeAt 34 v22 v20) w23 fun w24 =>
 JoinW (S := Value × Unit) (fun J27 =>
 rv Try.prog (Instr.fieldAt 34 v22 0) w24 fun v28 w29 =>
 rv Try.prog (Instr.loadAt 22 v28) w29 fun v30 w31 =>
 rv Try.prog (bin .leq 22 false v30 s13.2.2.1) w31 fun v32 w33 =>
 ifB v32
 (J27 ((.bool true), ()) w33)
 (rv Try.prog (Instr.fieldAt 34 v22 1) w33 fun v34 w35 =>
 rv Try.prog (Instr.loadAt 2 v34) w35 fun v36 w37 =>
 Ca Try.prog 36 #[v36, (.int .i64 0), (.int .i64 1000000000000000)] w37 fun v38 w39 =>
 rv Try.prog (Op.unary .not v38) w39 fun v40 w41 =>
 J27 (v40, ()) w41))
 (J53_0 K v22 s13 K15))
 (rv Try.prog (bin .leq 2 true s13.1 (.int .i64 1000000000000000)) w17 fun v54 w55 =>
 K v54 w55)

def J53_2 (K : Kont) (a1 : Value) (a0 : Value) (s0 : Value × Unit) (w1 : World) : Prop :=
 ∀ _ : Nat → Value,
 ifB s0.1
 (K (.bool false) w1)
 (rn Try.prog (builtin .len #[58] 3 #[false] #[a1]) w1 fun v11 w12 =>
 LoopW (S := Value × Value × Value × Value × Unit) (L53_1 v11 a1 K) (a0, (.bool false), (.int .u32 0), (.int .i64 0), ()) w12)

/-- broadside/ledger.people -/
def F53 (a0 a1 : Value) (w : World) (K : Kont) : Prop :=
 JoinW (S := Value × Unit) (fun J2 =>
 rn Try.prog (builtin .len #[58] 3 #[false] #[a1]) w fun v3 w4 =>
 rv Try.prog (bin .gtr 3 true v3 (.int .i64 64)) w4 fun v5 w6 =>
 ifB v5
 (J2 ((.bool true), ()) w6)
 (Ca Try.prog 36 #[a0, (.int .i64 0), (.int .i64 1000000000000000)] w6 fun v7 w8 =>
 rv Try.prog (Op.unary .not v7) w8 fun v9 w10 =>
 J2 (v9, ()) w10))
 (J53_2 K a1 a0)
theorem F53_eq (a0 a1 : Value) (w : World) (K : Kont) : vcFnJ Try.prog Try.f53 [a0, a1] w K = F53 a0 a1 w K := by kernel_rfl
theorem F53_ok : okF Try.prog Try.f53 2 = true := by kernel_rfl
theorem ca53{a0 a1 : Value} {w : World} {K : Kont} (h : F53 a0 a1 w K) : Ca Try.prog 53 #[a0, a1] w K :=
  ca_of_vcJ Try.noNum Try.func53 F53_ok (by rw [F53_eq]; exact h)


def J33_0 (K : Kont) (J68 : Value × Value × Unit → World → Prop) (s41 : Value × Value × Value × Value × Value × Unit) (s79 : Value × Unit) (w80 : World) : Prop :=
 ∀ _ : Nat → Value,
 ifB s79.1
 (K (.tuple #[(.pointer none), (.int .i64 2)]) w80)
 (J68 (s41.2.1, s41.1, ()) w80)

def J33_1 (K : Kont) (v63 : Value) (v50 : Value) (s41 : Value × Value × Value × Value × Value × Unit) (v37 : Value) (v4 : Value) (K43 : Value × Value × Value × Value × Value × Unit → World → Prop) (s66 : Value × Value × Unit) (s159 : Value × Unit) (w160 : World) : Prop :=
 ∀ _ : Nat → Value,
 ifB s159.1
 (K (.tuple #[(.pointer none), (.int .i64 2)]) w160)
 (rdW Try.prog (Instr.loadAt 81 v63) w160.drew fun v178 =>
 rdP Try.prog (Instr.fieldAt 31 v50 2) fun v179 =>
 rdW Try.prog (Instr.loadAt 2 v179) w160.drew fun v180 =>
 rdP Try.prog (bin .add 2 false s41.2.2.1 v180) fun v181 =>
 rdP Try.prog (Instr.fieldAt 31 v50 3) fun v182 =>
 rdW Try.prog (Instr.loadAt 2 v182) w160.drew fun v183 =>
 rdP Try.prog (bin .add 2 false s41.2.2.2.1 v183) fun v184 =>
 ru Try.prog (Instr.storeAt 81 v37 v178) w160.drew fun w185 =>
 Sem.run Try.prog (Instr.loadAt 2 v182) w185 = .ok v183 w185 ∧ Sem.run Try.prog (Instr.loadAt 2 v179) w185 = .ok v180 w185 ∧ 
 (Sem.run Try.prog (Instr.loadAt 2 v182) w185 = .ok v183 w185 ∧ 
 (nilK v4 fun v186 => rdP Try.prog (Instr.fieldAt 74 v186 1) fun v187 =>
 rdW Try.prog (Instr.loadAt 72 v187) w185.drew fun v188 =>
 rdW Try.prog (Instr.loadAt 81 v63) w185.drew fun v189 =>
 rdW Try.prog (Instr.loadAt 31 v50) w185.drew fun v190 =>
 rux Try.prog (xMapUp 72 v188 v189 v190) w185.drew fun w191 =>
 rv Try.prog (bin .add 3 true s41.2.2.2.2.1 (.int .i64 1)) w191 fun v192 w193 =>
 K43 (s66.2.1, s66.1, v181, v184, v192, ()) w193)))

def J33_2 (K : Kont) (v50 : Value) (v63 : Value) (s41 : Value × Value × Value × Value × Value × Unit) (v37 : Value) (v4 : Value) (K43 : Value × Value × Value × Value × Value × Unit → World → Prop) (s66 : Value × Value × Unit) (s130 : Value × Unit) (w131 : World) : Prop :=
 ∀ _ : Nat → Value,
 ifB s130.1
 (K (.tuple #[(.pointer none), (.int .i64 2)]) w131)
 (JoinW (S := Value × Unit) (fun J161 =>
 rv Try.prog (Instr.fieldAt 31 v50 2) w131 fun v162 w163 =>
 rv Try.prog (Instr.loadAt 2 v162) w163 fun v164 w165 =>
 Ca Try.prog 37 #[v164, (.int .i64 10000000)] w165 fun v166 w167 =>
 rv Try.prog (Op.unary .not v166) w167 fun v168 w169 =>
 ifB v168
 (J161 ((.bool true), ()) w169)
 (rv Try.prog (Instr.fieldAt 31 v50 3) w169 fun v170 w171 =>
 rv Try.prog (Instr.loadAt 2 v170) w171 fun v172 w173 =>
 Ca Try.prog 37 #[v172, (.int .i64 1000000000000000)] w173 fun v174 w175 =>
 rv Try.prog (Op.unary .not v174) w175 fun v176 w177 =>
 J161 (v176, ()) w177))
 (J33_1 K v63 v50 s41 v37 v4 K43 s66))

def J33_3 (K : Kont) (v50 : Value) (v93 : Value) (v63 : Value) (s41 : Value × Value × Value × Value × Value × Unit) (v37 : Value) (v4 : Value) (K43 : Value × Value × Value × Value × Value × Unit → World → Prop) (s66 : Value × Value × Unit) (s97 : Value × Unit) (w98 : World) : Prop :=
 ∀ _ : Nat → Value,
 ifB s97.1
 (K (.tuple #[(.pointer none), (.int .i64 2)]) w98)
 (JoinW (S := Value × Unit) (fun J132 =>
 rv Try.prog (Instr.fieldAt 31 v50 0) w98 fun v133 w134 =>
 rv Try.prog (Instr.loadAt 22 v133) w134 fun v135 w136 =>
 rv Try.prog (bin .eql 22 true v135 (.int .u32 0)) w136 fun v137 w138 =>
 ifB v137
 (J132 ((.bool true), ()) w138)
 (rv Try.prog (Instr.fieldAt 31 v50 1) w138 fun v139 w140 =>
 rv Try.prog (Instr.loadAt 22 v139) w140 fun v141 w142 =>
 rv Try.prog (bin .eql 22 true v141 (.int .u32 0)) w142 fun v143 w144 =>
 ifB v143
 (J132 ((.bool true), ()) w144)
 (rv Try.prog (Op.unary .not v93) w144 fun v145 w146 =>
 ifB v145
 (J132 ((.bool true), ()) w146)
 (rv Try.prog (Instr.fieldAt 31 v50 2) w146 fun v147 w148 =>
 rv Try.prog (Instr.loadAt 2 v147) w148 fun v149 w150 =>
 rv Try.prog (bin .eql 2 true v149 (.int .i64 0)) w150 fun v151 w152 =>
 ifB v151
 (rv Try.prog (Instr.fieldAt 31 v50 3) w152 fun v153 w154 =>
 rv Try.prog (Instr.loadAt 2 v153) w154 fun v155 w156 =>
 rv Try.prog (bin .eql 2 true v155 (.int .i64 0)) w156 fun v157 w158 =>
 J132 (v157, ()) w158)
 (J132 ((.bool false), ()) w152)))))
 (J33_2 K v50 v63 s41 v37 v4 K43 s66))

def J33_4 (v4 : Value) (v50 : Value) (v63 : Value) (v37 : Value) (K : Kont) (s41 : Value × Value × Value × Value × Value × Unit) (K43 : Value × Value × Value × Value × Value × Unit → World → Prop) (s66 : Value × Value × Unit) (w67 : World) : Prop :=
 ∀ _ : Nat → Value,
 nilK v4 fun v86 => rdP Try.prog (Instr.fieldAt 74 v86 0) fun v87 =>
 rdW Try.prog (Instr.loadAt 71 v87) w67.drew fun v88 =>
 rdP Try.prog (Instr.fieldAt 31 v50 1) fun v89 =>
 rdW Try.prog (Instr.loadAt 22 v89) w67.drew fun v90 =>
 rdX Try.prog (xLook 71 v88 v90 true) w67.drew fun v91 =>
 rdP Try.prog (Instr.extract v91 0) fun v92 =>
 rdP Try.prog (Instr.extract v91 1) fun v93 =>
 rv Try.prog (Instr.alloc 34 true (.tuple #[])) w67.drew fun v94 w95 =>
 Sem.run Try.prog (xLook 71 v88 v90 true) w95 = .ok v91 w95 ∧ Sem.run Try.prog (Instr.loadAt 22 v89) w95 = .ok v90 w95 ∧ Sem.run Try.prog (Instr.loadAt 71 v87) w95 = .ok v88 w95 ∧ 
 (ru Try.prog (Instr.storeAt 34 v94 v92) w95 fun w96 =>
 JoinW (S := Value × Unit) (fun J99 =>
 rv Try.prog (Instr.fieldAt 81 v63 0) w96 fun v100 w101 =>
 rv Try.prog (Instr.loadAt 22 v100) w101 fun v102 w103 =>
 rv Try.prog (Instr.fieldAt 81 v37 0) w103 fun v104 w105 =>
 rv Try.prog (Instr.loadAt 22 v104) w105 fun v106 w107 =>
 rv Try.prog (bin .lss 22 false v102 v106) w107 fun v108 w109 =>
 ifB v108
 (J99 ((.bool true), ()) w109)
 (rv Try.prog (Instr.fieldAt 81 v63 0) w109 fun v110 w111 =>
 rv Try.prog (Instr.loadAt 22 v110) w111 fun v112 w113 =>
 rv Try.prog (Instr.fieldAt 81 v37 0) w113 fun v114 w115 =>
 rv Try.prog (Instr.loadAt 22 v114) w115 fun v116 w117 =>
 rv Try.prog (bin .eql 22 false v112 v116) w117 fun v118 w119 =>
 ifB v118
 (rv Try.prog (Instr.fieldAt 81 v63 1) w119 fun v120 w121 =>
 rv Try.prog (Instr.loadAt 22 v120) w121 fun v122 w123 =>
 rv Try.prog (Instr.fieldAt 81 v37 1) w123 fun v124 w125 =>
 rv Try.prog (Instr.loadAt 22 v124) w125 fun v126 w127 =>
 rv Try.prog (bin .leq 22 false v122 v126) w127 fun v128 w129 =>
 J99 (v128, ()) w129)
 (J99 ((.bool false), ()) w119)))
 (J33_3 K v50 v93 v63 s41 v37 v4 K43 s66))

def J33_5 (K : Kont) (v4 : Value) (s194 : Value × Unit) (w195 : World) : Prop :=
 ∀ _ : Nat → Value,
 ifB s194.1
 (K (.tuple #[(.pointer none), (.int .i64 2)]) w195)
 (K (.tuple #[v4, (.int .i64 0)]) w195)

def L33_6 (v39 : Value) (a2 : Value) (v37 : Value) (K : Kont) (v4 : Value) (s41 : Value × Value × Value × Value × Value × Unit) (w42 : World) (K43 : Value × Value × Value × Value × Value × Unit → World → Prop) : Prop :=
 ∀ _ : Nat → Value,
 rv Try.prog (bin .lss 3 false s41.2.2.2.2.1 v39) w42 fun v44 w45 =>
 ifB v44
 (rv Try.prog (Instr.indexAt 59 a2 s41.2.2.2.2.1) w45 fun v46 w47 =>
 rv Try.prog (Instr.loadAt 31 v46) w47 fun v48 w49 =>
 rv Try.prog (Instr.alloc 31 true (.tuple #[])) w49 fun v50 w51 =>
 ru Try.prog (Instr.storeAt 31 v50 v48) w51 fun w52 =>
 rv Try.prog (Instr.fieldAt 31 v50 0) w52 fun v53 w54 =>
 rv Try.prog (Instr.loadAt 22 v53) w54 fun v55 w56 =>
 rv Try.prog (Instr.fieldAt 31 v50 1) w56 fun v57 w58 =>
 rv Try.prog (Instr.loadAt 22 v57) w58 fun v59 w60 =>
 rv Try.prog (Instr.build 81 #[(0, v55), (1, v59)]) w60 fun v61 w62 =>
 rv Try.prog (Instr.alloc 81 true (.tuple #[])) w62 fun v63 w64 =>
 ru Try.prog (Instr.storeAt 81 v63 v61) w64 fun w65 =>
 JoinW (S := Value × Value × Unit) (fun J68 =>
 rv Try.prog (Instr.fieldAt 81 v63 0) w65 fun v69 w70 =>
 rv Try.prog (Instr.loadAt 22 v69) w70 fun v71 w72 =>
 rv Try.prog (Instr.fieldAt 81 v37 0) w72 fun v73 w74 =>
 rv Try.prog (Instr.loadAt 22 v73) w74 fun v75 w76 =>
 rv Try.prog (bin .neq 22 false v71 v75) w76 fun v77 w78 =>
 ifB v77
 (JoinW (S := Value × Unit) (fun J81 =>
 rv Try.prog (bin .neq 2 true s41.2.2.1 (.int .i64 0)) w78 fun v82 w83 =>
 ifB v82
 (J81 ((.bool true), ()) w83)
 (rv Try.prog (bin .neq 2 true s41.2.2.2.1 (.int .i64 0)) w83 fun v84 w85 =>
 J81 (v84, ()) w85))
 (J33_0 K J68 s41))
 (J68 (s41.2.1, s41.1, ()) w78))
 (J33_4 v4 v50 v63 v37 K s41 K43))
 (JoinW (S := Value × Unit) (fun J196 =>
 rv Try.prog (bin .neq 2 true s41.2.2.1 (.int .i64 0)) w45 fun v197 w198 =>
 ifB v197
 (J196 ((.bool true), ()) w198)
 (rv Try.prog (bin .neq 2 true s41.2.2.2.1 (.int .i64 0)) w198 fun v199 w200 =>
 J196 (v199, ()) w200))
 (J33_5 K v4))

def L33_7 (v14 : Value) (a1 : Value) (v4 : Value) (a2 : Value) (K : Kont) (s16 : Value × Unit) (w17 : World) (K18 : Value × Unit → World → Prop) : Prop :=
 ∀ _ : Nat → Value,
 rv Try.prog (bin .lss 3 false s16.1 v14) w17 fun v19 w20 =>
 ifB v19
 (rv Try.prog (Instr.indexAt 58 a1 s16.1) w20 fun v21 w22 =>
 rv Try.prog (Instr.loadAt 34 v21) w22 fun v23 w24 =>
 rv Try.prog (Instr.alloc 34 true (.tuple #[])) w24 fun v25 w26 =>
 ru Try.prog (Instr.storeAt 34 v25 v23) w26 fun w27 =>
 nilK v4 fun v28 => rdP Try.prog (Instr.fieldAt 74 v28 0) fun v29 =>
 rdW Try.prog (Instr.loadAt 71 v29) w27.drew fun v30 =>
 rdP Try.prog (Instr.fieldAt 34 v25 0) fun v31 =>
 rdW Try.prog (Instr.loadAt 22 v31) w27.drew fun v32 =>
 rdW Try.prog (Instr.loadAt 34 v25) w27.drew fun v33 =>
 rux Try.prog (xMapUp 71 v30 v32 v33) w27.drew fun w34 =>
 rv Try.prog (bin .add 3 true s16.1 (.int .i64 1)) w34 fun v35 w36 =>
 K18 (v35, ()) w36)
 (rv Try.prog (Instr.alloc 81 true (.tuple #[])) w20 fun v37 w38 =>
 rn Try.prog (builtin .len #[59] 3 #[false] #[a2]) w38 fun v39 w40 =>
 LoopW (S := Value × Value × Value × Value × Value × Unit) (L33_6 v39 a2 v37 K v4) ((.pointer none), (.int .i64 0), (.int .i64 0), (.int .i64 0), (.int .i64 0), ()) w40)

/-- broadside/ledger.From -/
def F33 (a0 a1 a2 : Value) (w : World) (K : Kont) : Prop :=
 Ca Try.prog 53 #[a0, a1] w fun v0 w1 =>
 rv Try.prog (Op.unary .not v0) w1 fun v2 w3 =>
 ifB v2
 (K (.tuple #[(.pointer none), (.int .i64 2)]) w3)
 (Ca Try.prog 8 #[] w3 fun v4 w5 =>
 nilK v4 fun v6 => rv Try.prog (Instr.fieldAt 74 v6 0) w5 fun v7 w8 =>
 rv Try.prog (Instr.loadAt 71 v7) w8 fun v9 w10 =>
 rv Try.prog (Instr.build 34 #[(1, a0)]) w10 fun v11 w12 =>
 rux Try.prog (xMapUp 71 v9 (.int .u32 0) v11) w12 fun w13 =>
 rn Try.prog (builtin .len #[58] 3 #[false] #[a1]) w13 fun v14 w15 =>
 LoopW (S := Value × Unit) (L33_7 v14 a1 v4 a2 K) ((.int .i64 0), ()) w15)
theorem F33_eq (a0 a1 a2 : Value) (w : World) (K : Kont) : vcFnJ Try.prog Try.f33 [a0, a1, a2] w K = F33 a0 a1 a2 w K := by kernel_rfl
theorem F33_ok : okF Try.prog Try.f33 3 = true := by kernel_rfl
theorem ca33{a0 a1 a2 : Value} {w : World} {K : Kont} (h : F33 a0 a1 a2 w K) : Ca Try.prog 33 #[a0, a1, a2] w K :=
  ca_of_vcJ Try.noNum Try.func33 F33_ok (by rw [F33_eq]; exact h)


end Go.Proofs
