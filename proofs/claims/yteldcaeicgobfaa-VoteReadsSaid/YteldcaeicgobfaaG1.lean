/-
  Formulas of the program's functions, printed by a program of mine: each is what the computed precondition of the function's body comes to.
  Conditions: none.
-/
import Derived.Test.YteldcaeicgobfaaG0
import Derived.Test.YteldcaeicgobfaaVcFn
set_option linter.unusedSimpArgs false
set_option maxRecDepth 100000
set_option linter.unusedVariables false
namespace Go.Proofs
open Go Go.Vc



/-- (*broadside/disk.Disk).ready -/
def F54 (a0 : Value) (w : World) (K : Kont) : Prop :=
 rv Try.prog (bin .eql 25 true a0 (.pointer none)) w fun v0 w1 =>
 ifB v0
 (K (.int .i64 1) w1)
 (nilK a0 fun v2 => rv Try.prog (Instr.fieldAt 55 v2 4) w1 fun v3 w4 =>
 rv Try.prog (Instr.loadAt 4 v3) w4 fun v5 w6 =>
 ifB v5
 (K (.int .i64 180) w6)
 (K (.int .i64 0) w6))
theorem F54_eq (a0 : Value) (w : World) (K : Kont) : vcFn Try.prog Try.f54 [a0] w K = F54 a0 w K := by kernel_rfl
theorem F54_ok : okF Try.prog Try.f54 1 = true := by kernel_rfl
theorem ca54{a0 : Value} {w : World} {K : Kont} (h : F54 a0 w K) : Ca Try.prog 54 #[a0] w K :=
  ca_of_vc Try.noNum Try.func54 F54_ok (by rw [F54_eq]; exact h)



/-- (*broadside/disk.Disk).step -/
def F55 (a0 : Value) (w : World) (K : Kont) : Prop :=
 nilK a0 fun v0 => rv Try.prog (Instr.fieldAt 55 v0 3) w fun v1 w2 =>
 rv Try.prog (Instr.loadAt 4 v1) w2 fun v3 w4 =>
 ifB v3
 (nilK a0 fun v5 => rv Try.prog (Instr.fieldAt 55 v5 2) w4 fun v6 w7 =>
 rv Try.prog (Instr.loadAt 3 v6) w7 fun v8 w9 =>
 rv Try.prog (bin .eql 3 true v8 (.int .i64 0)) w9 fun v10 w11 =>
 ifB v10
 (nilK a0 fun v12 => rv Try.prog (Instr.fieldAt 55 v12 3) w11 fun v13 w14 =>
 ru Try.prog (Instr.storeAt 4 v13 (.bool false)) w14 fun w15 =>
 nilK a0 fun v16 => rv Try.prog (Instr.fieldAt 55 v16 4) w15 fun v17 w18 =>
 ru Try.prog (Instr.storeAt 4 v17 (.bool true)) w18 fun w19 =>
 K (.bool false) w19)
 (nilK a0 fun v20 => rv Try.prog (Instr.fieldAt 55 v20 3) w11 fun v21 w22 =>
 rv Try.prog (Instr.loadAt 4 v21) w22 fun v23 w24 =>
 ifB v23
 (nilK a0 fun v25 => rv Try.prog (Instr.fieldAt 55 v25 2) w24 fun v26 w27 =>
 rv Try.prog (Instr.loadAt 3 v26) w27 fun v28 w29 =>
 rv Try.prog (bin .sub 3 true v28 (.int .i64 1)) w29 fun v30 w31 =>
 nilK a0 fun v32 => rv Try.prog (Instr.fieldAt 55 v32 2) w31 fun v33 w34 =>
 ru Try.prog (Instr.storeAt 3 v33 v30) w34 fun w35 =>
 K (.bool true) w35)
 (K (.bool true) w24)))
 (nilK a0 fun v36 => rv Try.prog (Instr.fieldAt 55 v36 3) w4 fun v37 w38 =>
 rv Try.prog (Instr.loadAt 4 v37) w38 fun v39 w40 =>
 ifB v39
 (nilK a0 fun v41 => rv Try.prog (Instr.fieldAt 55 v41 2) w40 fun v42 w43 =>
 rv Try.prog (Instr.loadAt 3 v42) w43 fun v44 w45 =>
 rv Try.prog (bin .sub 3 true v44 (.int .i64 1)) w45 fun v46 w47 =>
 nilK a0 fun v48 => rv Try.prog (Instr.fieldAt 55 v48 2) w47 fun v49 w50 =>
 ru Try.prog (Instr.storeAt 3 v49 v46) w50 fun w51 =>
 K (.bool true) w51)
 (K (.bool true) w40))
theorem F55_eq (a0 : Value) (w : World) (K : Kont) : vcFn Try.prog Try.f55 [a0] w K = F55 a0 w K := by kernel_rfl
theorem F55_ok : okF Try.prog Try.f55 1 = true := by kernel_rfl
theorem ca55{a0 : Value} {w : World} {K : Kont} (h : F55 a0 w K) : Ca Try.prog 55 #[a0] w K :=
  ca_of_vc Try.noNum Try.func55 F55_ok (by rw [F55_eq]; exact h)



/-- broadside/disk.may -/
def F57 (a0 a1 a2 : Value) (w : World) (K : Kont) : Prop :=
 rv Try.prog (bin .geq 3 true a0 (.int .i64 0)) w fun v0 w1 =>
 ifB v0
 (rv Try.prog (bin .lss 3 true a0 (.int .i64 5)) w1 fun v2 w3 =>
 ifB v2
 (rv Try.prog (bin .geq 3 true a1 (.int .i64 0)) w3 fun v4 w5 =>
 ifB v4
 (rv Try.prog (bin .geq 3 true a2 (.int .i64 1)) w5 fun v6 w7 =>
 ifB v6
 (rv Try.prog (bin .leq 3 true a2 (.int .i64 8192)) w7 fun v8 w9 =>
 ifB v8
 (rv Try.prog (bin .sub 3 true (.int .i64 8192) a2) w9 fun v10 w11 =>
 rv Try.prog (bin .leq 3 false a1 v10) w11 fun v12 w13 =>
 K v12 w13)
 (K (.bool false) w9))
 (K (.bool false) w7))
 (K (.bool false) w5))
 (K (.bool false) w3))
 (K (.bool false) w1)
theorem F57_eq (a0 a1 a2 : Value) (w : World) (K : Kont) : vcFn Try.prog Try.f57 [a0, a1, a2] w K = F57 a0 a1 a2 w K := by kernel_rfl
theorem F57_ok : okF Try.prog Try.f57 3 = true := by kernel_rfl
theorem ca57{a0 a1 a2 : Value} {w : World} {K : Kont} (h : F57 a0 a1 a2 w K) : Ca Try.prog 57 #[a0, a1, a2] w K :=
  ca_of_vc Try.noNum Try.func57 F57_ok (by rw [F57_eq]; exact h)



/-- (*broadside/disk.Disk).last -/
def F56 (a0 a1 : Value) (w : World) (K : Kont) : Prop :=
 rv Try.prog (Instr.box 116 a1) w fun v0 w1 =>
 nilK a0 fun v2 => rv Try.prog (Instr.fieldAt 55 v2 0) w1 fun v3 w4 =>
 rv Try.prog (Instr.loadAt 52 v3) w4 fun v5 w6 =>
 rv Try.prog (bin .eql 52 true v5 (.map none)) w6 fun v7 w8 =>
 ifB v7
 (rv Try.prog (Instr.makeMap 52 none) w8 fun v9 w10 =>
 nilK a0 fun v11 => rv Try.prog (Instr.fieldAt 55 v11 0) w10 fun v12 w13 =>
 ru Try.prog (Instr.storeAt 52 v12 v9) w13 fun w14 =>
 nilK a0 fun v15 => rdP Try.prog (Instr.fieldAt 55 v15 0) fun v16 =>
 rdW Try.prog (Instr.loadAt 52 v16) w14.drew fun v17 =>
 rdP Try.prog (Instr.fieldAt 116 v0 0) fun v18 =>
 rdW Try.prog (Instr.loadAt 113 v18) w14.drew fun v19 =>
 rdP Try.prog (Instr.fieldAt 116 v0 1) fun v20 =>
 rdX Try.prog (bigS 114 v20) w14.drew fun v21 =>
 rux Try.prog (xMapUp 52 v17 v19 v21) w14.drew fun w22 =>
 K (.tuple #[]) w22)
 (nilK a0 fun v23 => rdP Try.prog (Instr.fieldAt 55 v23 0) fun v24 =>
 rdW Try.prog (Instr.loadAt 52 v24) w8.drew fun v25 =>
 rdP Try.prog (Instr.fieldAt 116 v0 0) fun v26 =>
 rdW Try.prog (Instr.loadAt 113 v26) w8.drew fun v27 =>
 rdP Try.prog (Instr.fieldAt 116 v0 1) fun v28 =>
 rdX Try.prog (bigS 114 v28) w8.drew fun v29 =>
 rux Try.prog (xMapUp 52 v25 v27 v29) w8.drew fun w30 =>
 K (.tuple #[]) w30)
theorem F56_eq (a0 a1 : Value) (w : World) (K : Kont) : vcFn Try.prog Try.f56 [a0, a1] w K = F56 a0 a1 w K := by kernel_rfl
theorem F56_ok : okF Try.prog Try.f56 2 = true := by kernel_rfl
theorem ca56{a0 a1 : Value} {w : World} {K : Kont} (h : F56 a0 a1 w K) : Ca Try.prog 56 #[a0, a1] w K :=
  ca_of_vc Try.noNum Try.func56 F56_ok (by rw [F56_eq]; exact h)



/-- (*broadside/disk.Disk).Waits -/
def F21 (a0 : Value) (w : World) (K : Kont) : Prop :=
 rv Try.prog (bin .eql 25 true a0 (.pointer none)) w fun v0 w1 =>
 ifB v0
 (K (.int .i64 0) w1)
 (nilK a0 fun v2 => rv Try.prog (Instr.fieldAt 55 v2 1) w1 fun v3 w4 =>
 rv Try.prog (Instr.loadAt 53 v3) w4 fun v5 w6 =>
 rn Try.prog (builtin .len #[53] 3 #[false] #[v5]) w6 fun v7 w8 =>
 K v7 w8)
theorem F21_eq (a0 : Value) (w : World) (K : Kont) : vcFn Try.prog Try.f21 [a0] w K = F21 a0 w K := by kernel_rfl
theorem F21_ok : okF Try.prog Try.f21 1 = true := by kernel_rfl
theorem ca21{a0 : Value} {w : World} {K : Kont} (h : F21 a0 w K) : Ca Try.prog 21 #[a0] w K :=
  ca_of_vc Try.noNum Try.func21 F21_ok (by rw [F21_eq]; exact h)



/-- (*broadside/disk.Disk).Down -/
def F30 (a0 : Value) (w : World) (K : Kont) : Prop :=
 rv Try.prog (bin .neq 25 true a0 (.pointer none)) w fun v0 w1 =>
 ifB v0
 (nilK a0 fun v2 => rv Try.prog (Instr.fieldAt 55 v2 4) w1 fun v3 w4 =>
 rv Try.prog (Instr.loadAt 4 v3) w4 fun v5 w6 =>
 K v5 w6)
 (K (.bool false) w1)
theorem F30_eq (a0 : Value) (w : World) (K : Kont) : vcFn Try.prog Try.f30 [a0] w K = F30 a0 w K := by kernel_rfl
theorem F30_ok : okF Try.prog Try.f30 1 = true := by kernel_rfl
theorem ca30{a0 : Value} {w : World} {K : Kont} (h : F30 a0 w K) : Ca Try.prog 30 #[a0] w K :=
  ca_of_vc Try.noNum Try.func30 F30_ok (by rw [F30_eq]; exact h)



/-- (*broadside/disk.Disk).Arm -/
def F25 (a0 a1 : Value) (w : World) (K : Kont) : Prop :=
 Ca Try.prog 54 #[a0] w fun v0 w1 =>
 rv Try.prog (bin .neq 28 true v0 (.int .i64 0)) w1 fun v2 w3 =>
 ifB v2
 (K v0 w3)
 (rv Try.prog (bin .lss 3 true a1 (.int .i64 (-1))) w3 fun v4 w5 =>
 ifB v4
 (K (.int .i64 2) w5)
 (rv Try.prog (bin .geq 3 true a1 (.int .i64 0)) w5 fun v6 w7 =>
 nilK a0 fun v8 => rv Try.prog (Instr.fieldAt 55 v8 3) w7 fun v9 w10 =>
 ru Try.prog (Instr.storeAt 4 v9 v6) w10 fun w11 =>
 nilK a0 fun v12 => rv Try.prog (Instr.fieldAt 55 v12 2) w11 fun v13 w14 =>
 ru Try.prog (Instr.storeAt 3 v13 a1) w14 fun w15 =>
 K (.int .i64 0) w15))
theorem F25_eq (a0 a1 : Value) (w : World) (K : Kont) : vcFn Try.prog Try.f25 [a0, a1] w K = F25 a0 a1 w K := by kernel_rfl
theorem F25_ok : okF Try.prog Try.f25 2 = true := by kernel_rfl
theorem ca25{a0 a1 : Value} {w : World} {K : Kont} (h : F25 a0 a1 w K) : Ca Try.prog 25 #[a0, a1] w K :=
  ca_of_vc Try.noNum Try.func25 F25_ok (by rw [F25_eq]; exact h)


def L16_0 (v13 : Value) (v11 : Value) (a0 : Value) (K : Kont) (s15 : Value × Unit) (w16 : World) (K17 : Value × Unit → World → Prop) : Prop :=
 ∀ _ : Nat → Value,
 rv Try.prog (bin .lss 3 false s15.1 v13) w16 fun v18 w19 =>
 ifB v18
 (rv Try.prog (Instr.indexAt 53 v11 s15.1) w19 fun v20 w21 =>
 rx Try.prog (bigS 116 v20) w21 fun v22 w23 =>
 rx Try.prog (bigA 116) w23 fun v24 w25 =>
 rux Try.prog (bigU 116 v24 v22) w25 fun w26 =>
 rx Try.prog (bigS 116 v24) w26 fun v27 w28 =>
 Ca Try.prog 56 #[a0, v27] w28 fun v29 w30 =>
 rv Try.prog (bin .add 3 true s15.1 (.int .i64 1)) w30 fun v31 w32 =>
 K17 (v31, ()) w32)
 (nilK a0 fun v33 => rv Try.prog (Instr.fieldAt 55 v33 1) w19 fun v34 w35 =>
 ru Try.prog (Instr.storeAt 53 v34 (.slice none 0 0)) w35 fun w36 =>
 K (.int .i64 0) w36)

/-- (*broadside/disk.Disk).Sync -/
def F16 (a0 : Value) (w : World) (K : Kont) : Prop :=
 Ca Try.prog 54 #[a0] w fun v0 w1 =>
 rv Try.prog (bin .neq 28 true v0 (.int .i64 0)) w1 fun v2 w3 =>
 ifB v2
 (K v0 w3)
 (Ca Try.prog 55 #[a0] w3 fun v4 w5 =>
 rv Try.prog (Op.unary .not v4) w5 fun v6 w7 =>
 ifB v6
 (K (.int .i64 180) w7)
 (nilK a0 fun v8 => rv Try.prog (Instr.fieldAt 55 v8 1) w7 fun v9 w10 =>
 rv Try.prog (Instr.loadAt 53 v9) w10 fun v11 w12 =>
 rn Try.prog (builtin .len #[53] 3 #[false] #[v11]) w12 fun v13 w14 =>
 LoopW (S := Value × Unit) (L16_0 v13 v11 a0 K) ((.int .i64 0), ()) w14))
theorem F16_eq (a0 : Value) (w : World) (K : Kont) : vcFn Try.prog Try.f16 [a0] w K = F16 a0 w K := by kernel_rfl
theorem F16_ok : okF Try.prog Try.f16 1 = true := by kernel_rfl
theorem ca16{a0 : Value} {w : World} {K : Kont} (h : F16 a0 w K) : Ca Try.prog 16 #[a0] w K :=
  ca_of_vc Try.noNum Try.func16 F16_ok (by rw [F16_eq]; exact h)


def R17_0 (v0 : Value) (v6 : Value) (v2 : Value) (v4 : Value) (l40 : Nat) (x41 : List Value) (w42 : World) (KN43 : World → Prop) (KJ44 : Code → World → Prop) : Prop :=
 beginK l40 w42 fun w45 =>
 rv Try.prog (Instr.loadAt 25 v0) w45 fun v46 w47 =>
 Ca Try.prog 55 #[v46] w47 fun v48 w49 =>
 rv Try.prog (Op.unary .not v48) w49 fun v50 w51 =>
 ifB v50
 (ru Try.prog (Instr.storeAt 28 v6 (.int .i64 180)) w51 fun w52 =>
 KJ44 .ret w52)
 (rdW Try.prog (Instr.loadAt 25 v0) w51.drew fun v53 =>
 rdW Try.prog (Instr.loadAt 25 v0) w51.drew fun v54 =>
 nilK v54 fun v55 => rdP Try.prog (Instr.fieldAt 55 v55 1) fun v56 =>
 rdW Try.prog (Instr.loadAt 53 v56) w51.drew fun v57 =>
 rdW Try.prog (Instr.loadAt 3 v2) w51.drew fun v58 =>
 rdW Try.prog (Instr.loadAt 3 v4) w51.drew fun v59 =>
 rdP Try.prog (Instr.build 113 #[(0, v58), (1, v59)]) fun v60 =>
 rdP Try.prog (Instr.arrayAt 114 (x41.getD 0 undef)) fun v61 =>
 rdX Try.prog (bigS 114 v61) w51.drew fun v62 =>
 rdPX Try.prog (bigB 116 #[(0, v60), (1, v62)]) fun v63 =>
 rx Try.prog (xLit 53 1 [(0, v63)]) w51.drew fun v64 w65 =>
 Sem.run Try.prog (Instr.loadAt 53 v56) w65 = .ok v57 w65 ∧ Sem.run Try.prog (Instr.loadAt 25 v0) w65 = .ok v54 w65 ∧ Sem.run Try.prog (Instr.loadAt 25 v0) w65 = .ok v53 w65 ∧ 
 (rx Try.prog (xAppend #[53, 53] 53 [v57, v64]) w65 fun v66 w67 =>
 Sem.run Try.prog (Instr.loadAt 25 v0) w67 = .ok v53 w67 ∧ 
 (nilK v53 fun v68 => rdP Try.prog (Instr.fieldAt 55 v68 1) fun v69 =>
 ru Try.prog (Instr.storeAt 53 v69 v66) w67 fun w70 =>
 rv Try.prog (Instr.loadAt 3 v4) w70 fun v71 w72 =>
 rv Try.prog (bin .add 3 true v71 (.int .i64 1)) w72 fun v73 w74 =>
 ru Try.prog (Instr.storeAt 3 v4 v73) w74 fun w75 =>
 KN43 w75)))

def A17_1 (v6 : Value) (K : Kont) (mk76 : List Nat) (pd77 : Option Code) (w78 : World) : Prop :=
 afterK
 (fun w79 =>
 ru Try.prog (Instr.storeAt 28 v6 (.int .i64 0)) w79 fun w80 =>
 retD (mk76 ++ []) w80 fun w81 =>
 rdW Try.prog (Instr.loadAt 28 v6) w81 fun v82 =>
 K v82 w81)
 (fun w83 =>
 retD (mk76 ++ []) w83 fun w84 =>
 rdW Try.prog (Instr.loadAt 28 v6) w84 fun v85 =>
 K v85 w84)
 (fun i87 w86 =>
 bc (Nat.beq i87 0)
 (ru Try.prog (Instr.storeAt 28 v6 (.int .i64 0)) w86 fun w88 =>
 retD (mk76 ++ []) w88 fun w89 =>
 rdW Try.prog (Instr.loadAt 28 v6) w89 fun v90 =>
 K v90 w89)
 (False)) pd77 w78

/-- (*broadside/disk.Disk).Write -/
def F17 (a0 a1 a2 a3 : Value) (w : World) (K : Kont) : Prop :=
 rv Try.prog (Instr.box 25 a0) w fun v0 w1 =>
 rv Try.prog (Instr.box 3 a1) w1 fun v2 w3 =>
 rv Try.prog (Instr.box 3 a2) w3 fun v4 w5 =>
 rv Try.prog (Instr.alloc 28 true (.tuple #[])) w5 fun v6 w7 =>
 rv Try.prog (Instr.loadAt 25 v0) w7 fun v8 w9 =>
 Ca Try.prog 54 #[v8] w9 fun v10 w11 =>
 rv Try.prog (bin .neq 28 true v10 (.int .i64 0)) w11 fun v12 w13 =>
 ifB v12
 (ru Try.prog (Instr.storeAt 28 v6 v10) w13 fun w14 =>
 rdW Try.prog (Instr.loadAt 28 v6) w14 fun v15 =>
 K v15 w14)
 (rn Try.prog (builtin .len #[23] 3 #[false] #[a3]) w13 fun v16 w17 =>
 rv Try.prog (bin .rem 3 true v16 (.int .i64 128)) w17 fun v18 w19 =>
 rv Try.prog (bin .neq 3 true v18 (.int .i64 0)) w19 fun v20 w21 =>
 ifB v20
 (ru Try.prog (Instr.storeAt 28 v6 (.int .i64 2)) w21 fun w22 =>
 rdW Try.prog (Instr.loadAt 28 v6) w22 fun v23 =>
 K v23 w22)
 (rv Try.prog (Instr.loadAt 3 v2) w21 fun v24 w25 =>
 rv Try.prog (Instr.loadAt 3 v4) w25 fun v26 w27 =>
 rn Try.prog (builtin .len #[23] 3 #[false] #[a3]) w27 fun v28 w29 =>
 rv Try.prog (bin .quo 3 true v28 (.int .i64 128)) w29 fun v30 w31 =>
 Ca Try.prog 57 #[v24, v26, v30] w31 fun v32 w33 =>
 rv Try.prog (Op.unary .not v32) w33 fun v34 w35 =>
 ifB v34
 (ru Try.prog (Instr.storeAt 28 v6 (.int .i64 2)) w35 fun w36 =>
 rdW Try.prog (Instr.loadAt 28 v6) w36 fun v37 =>
 K v37 w36)
 (Ca Try.prog 58 #[a3, (.int .i64 128)] w35 fun v38 w39 =>
 RFW Try.prog none v38 w39 1 (R17_0 v0 v6 v2 v4) (A17_1 v6 K))))
theorem F17_eq (a0 a1 a2 a3 : Value) (w : World) (K : Kont) : vcFn Try.prog Try.f17 [a0, a1, a2, a3] w K = F17 a0 a1 a2 a3 w K := by kernel_rfl
theorem F17_ok : okF Try.prog Try.f17 4 = true := by kernel_rfl
theorem ca17{a0 a1 a2 a3 : Value} {w : World} {K : Kont} (h : F17 a0 a1 a2 a3 w K) : Ca Try.prog 17 #[a0, a1, a2, a3] w K :=
  ca_of_vc Try.noNum Try.func17 F17_ok (by rw [F17_eq]; exact h)



/-- slices.Chunk[[]byte,byte] -/
def F58 (a0 a1 : Value) (w : World) (K : Kont) : Prop :=
 rv Try.prog (Instr.box 23 a0) w fun v0 w1 =>
 rv Try.prog (Instr.box 3 a1) w1 fun v2 w3 =>
 rv Try.prog (Instr.loadAt 3 v2) w3 fun v4 w5 =>
 rv Try.prog (bin .lss 3 true v4 (.int .i64 1)) w5 fun v6 w7 =>
 ifB v6
 (rv Try.prog (Instr.makeInterface 9 (.string ⟨#[99, 97, 110, 110, 111, 116, 32, 98, 101, 32, 108, 101, 115, 115, 32, 116, 104, 97, 110, 32, 49]⟩)) w7 fun v8 w9 =>
 False)
 (K (.func (.func 81) #[] #[v0, v2]) w7)
theorem F58_eq (a0 a1 : Value) (w : World) (K : Kont) : vcFn Try.prog Try.f58 [a0, a1] w K = F58 a0 a1 w K := by kernel_rfl
theorem F58_ok : okF Try.prog Try.f58 2 = true := by kernel_rfl
theorem ca58{a0 a1 : Value} {w : World} {K : Kont} (h : F58 a0 a1 w K) : Ca Try.prog 58 #[a0, a1] w K :=
  ca_of_vc Try.noNum Try.func58 F58_ok (by rw [F58_eq]; exact h)


def L81_0 (a1 : Value) (a2 : Value) (a0 : Value) (K : Kont) (s0 : Value × Unit) (w1 : World) (K2 : Value × Unit → World → Prop) : Prop :=
 ∀ _ : Nat → Value,
 rv Try.prog (Instr.loadAt 23 a1) w1 fun v3 w4 =>
 rn Try.prog (builtin .len #[23] 3 #[false] #[v3]) w4 fun v5 w6 =>
 rv Try.prog (bin .lss 3 false s0.1 v5) w6 fun v7 w8 =>
 ifB v7
 (rdW Try.prog (Instr.loadAt 3 a2) w8.drew fun v9 =>
 rdW Try.prog (Instr.loadAt 23 a1) w8.drew fun v10 =>
 rdP Try.prog (Instr.sliceAt 23 v10 (some s0.1) none none) fun v11 =>
 rdW Try.prog (Builtin.len_ #[23] 3 #[v11]) w8.drew fun v12 =>
 rdW Try.prog (Builtin.min_ #[3, 3] 3 #[v9, v12]) w8.drew fun v13 =>
 rv Try.prog (Instr.loadAt 23 a1) w8.drew fun v14 w15 =>
 rv Try.prog (bin .add 3 false s0.1 v13) w15 fun v16 w17 =>
 rv Try.prog (bin .add 3 false s0.1 v13) w17 fun v18 w19 =>
 rv Try.prog (Instr.sliceAt 23 v14 (some s0.1) (some v16) (some v18)) w19 fun v20 w21 =>
 callV Try.prog a0 [v20] w21 fun v22 w23 =>
 rv Try.prog (Op.unary .not v22) w23 fun v24 w25 =>
 ifB v24
 (K (.tuple #[]) w25)
 (rv Try.prog (Instr.loadAt 3 a2) w25 fun v26 w27 =>
 rv Try.prog (bin .add 3 false s0.1 v26) w27 fun v28 w29 =>
 K2 (v28, ()) w29))
 (K (.tuple #[]) w8)

/-- slices.Chunk[[]byte,byte]$1 -/
def F81 (a0 a1 a2 : Value) (w : World) (K : Kont) : Prop :=
 LoopW (S := Value × Unit) (L81_0 a1 a2 a0 K) ((.int .i64 0), ()) w
theorem F81_eq (a0 a1 a2 : Value) (w : World) (K : Kont) : vcFn Try.prog Try.f81 [a0, a1, a2] w K = F81 a0 a1 a2 w K := by kernel_rfl
theorem F81_ok : okF Try.prog Try.f81 3 = true := by kernel_rfl
theorem ca81{a0 a1 a2 : Value} {w : World} {K : Kont} (h : F81 a0 a1 a2 w K) : Ca Try.prog 81 #[a0, a1, a2] w K :=
  ca_of_vc Try.noNum Try.func81 F81_ok (by rw [F81_eq]; exact h)


def L20_0 (v43 : Value) (v41 : Value) (a1 : Value) (a2 : Value) (a3 : Value) (v10 : Value) (K : Kont) (s45 : Value × Unit) (w46 : World) (K47 : Value × Unit → World → Prop) : Prop :=
 ∀ _ : Nat → Value,
 rv Try.prog (bin .lss 3 false s45.1 v43) w46 fun v48 w49 =>
 ifB v48
 (rv Try.prog (Instr.indexAt 53 v41 s45.1) w49 fun v50 w51 =>
 rx Try.prog (bigS 116 v50) w51 fun v52 w53 =>
 rx Try.prog (bigA 116) w53 fun v54 w55 =>
 rux Try.prog (bigU 116 v54 v52) w55 fun w56 =>
 rv Try.prog (Instr.fieldAt 116 v54 0) w56 fun v57 w58 =>
 rv Try.prog (Instr.fieldAt 113 v57 0) w58 fun v59 w60 =>
 rv Try.prog (Instr.loadAt 3 v59) w60 fun v61 w62 =>
 rv Try.prog (bin .eql 3 false v61 a1) w62 fun v63 w64 =>
 ifB v63
 (rv Try.prog (Instr.fieldAt 116 v54 0) w64 fun v65 w66 =>
 rv Try.prog (Instr.fieldAt 113 v65 1) w66 fun v67 w68 =>
 rv Try.prog (Instr.loadAt 3 v67) w68 fun v69 w70 =>
 rv Try.prog (bin .geq 3 false v69 a2) w70 fun v71 w72 =>
 ifB v71
 (rv Try.prog (Instr.fieldAt 116 v54 0) w72 fun v73 w74 =>
 rv Try.prog (Instr.fieldAt 113 v73 1) w74 fun v75 w76 =>
 rv Try.prog (Instr.loadAt 3 v75) w76 fun v77 w78 =>
 rv Try.prog (bin .sub 3 false v77 a2) w78 fun v79 w80 =>
 rv Try.prog (bin .lss 3 false v79 a3) w80 fun v81 w82 =>
 ifB v81
 (rdP Try.prog (Instr.fieldAt 116 v54 0) fun v83 =>
 rdP Try.prog (Instr.fieldAt 113 v83 1) fun v84 =>
 rdW Try.prog (Instr.loadAt 3 v84) w82.drew fun v85 =>
 rdP Try.prog (bin .sub 3 false v85 a2) fun v86 =>
 rdP Try.prog (bin .mul 3 true v86 (.int .i64 128)) fun v87 =>
 rdP Try.prog (Instr.sliceAt 23 v10 (some v87) none none) fun v88 =>
 rdP Try.prog (Instr.fieldAt 116 v54 1) fun v89 =>
 rdP Try.prog (Instr.sliceAt 114 v89 none none none) fun v90 =>
 rx Try.prog (xCopy #[23, 23] 3 [v88, v90]) w82.drew fun v91 w92 =>
 rv Try.prog (bin .add 3 true s45.1 (.int .i64 1)) w92 fun v93 w94 =>
 K47 (v93, ()) w94)
 (rv Try.prog (bin .add 3 true s45.1 (.int .i64 1)) w82 fun v95 w96 =>
 K47 (v95, ()) w96))
 (rv Try.prog (bin .add 3 true s45.1 (.int .i64 1)) w72 fun v97 w98 =>
 K47 (v97, ()) w98))
 (rv Try.prog (bin .add 3 true s45.1 (.int .i64 1)) w64 fun v99 w100 =>
 K47 (v99, ()) w100))
 (K (.tuple #[v10, (.int .i64 0)]) w49)

def L20_1 (a3 : Value) (a0 : Value) (a2 : Value) (a1 : Value) (v10 : Value) (K : Kont) (s12 : Value × Unit) (w13 : World) (K14 : Value × Unit → World → Prop) : Prop :=
 ∀ _ : Nat → Value,
 rv Try.prog (bin .lss 3 false s12.1 a3) w13 fun v15 w16 =>
 ifB v15
 (nilK a0 fun v17 => rv Try.prog (Instr.fieldAt 55 v17 0) w16 fun v18 w19 =>
 rv Try.prog (Instr.loadAt 52 v18) w19 fun v20 w21 =>
 rv Try.prog (bin .add 3 false a2 s12.1) w21 fun v22 w23 =>
 rv Try.prog (Instr.build 113 #[(0, a1), (1, v22)]) w23 fun v24 w25 =>
 rx Try.prog (xLook 52 v20 v24 false) w25 fun v26 w27 =>
 rx Try.prog (bigA 114) w27 fun v28 w29 =>
 rux Try.prog (bigU 114 v28 v26) w29 fun w30 =>
 rdP Try.prog (bin .mul 3 true s12.1 (.int .i64 128)) fun v31 =>
 rdP Try.prog (Instr.sliceAt 23 v10 (some v31) none none) fun v32 =>
 rdP Try.prog (Instr.sliceAt 114 v28 none none none) fun v33 =>
 rx Try.prog (xCopy #[23, 23] 3 [v32, v33]) w30.drew fun v34 w35 =>
 rv Try.prog (bin .add 3 true s12.1 (.int .i64 1)) w35 fun v36 w37 =>
 K14 (v36, ()) w37)
 (nilK a0 fun v38 => rv Try.prog (Instr.fieldAt 55 v38 1) w16 fun v39 w40 =>
 rv Try.prog (Instr.loadAt 53 v39) w40 fun v41 w42 =>
 rn Try.prog (builtin .len #[53] 3 #[false] #[v41]) w42 fun v43 w44 =>
 LoopW (S := Value × Unit) (L20_0 v43 v41 a1 a2 a3 v10 K) ((.int .i64 0), ()) w44)

/-- (*broadside/disk.Disk).Read -/
def F20 (a0 a1 a2 a3 : Value) (w : World) (K : Kont) : Prop :=
 Ca Try.prog 54 #[a0] w fun v0 w1 =>
 rv Try.prog (bin .neq 28 true v0 (.int .i64 0)) w1 fun v2 w3 =>
 ifB v2
 (K (.tuple #[(.slice none 0 0), v0]) w3)
 (Ca Try.prog 57 #[a1, a2, a3] w3 fun v4 w5 =>
 rv Try.prog (Op.unary .not v4) w5 fun v6 w7 =>
 ifB v6
 (K (.tuple #[(.slice none 0 0), (.int .i64 2)]) w7)
 (rv Try.prog (bin .mul 3 true a3 (.int .i64 128)) w7 fun v8 w9 =>
 rx Try.prog (xMake 23 v8 v8) w9 fun v10 w11 =>
 LoopW (S := Value × Unit) (L20_1 a3 a0 a2 a1 v10 K) ((.int .i64 0), ()) w11))
theorem F20_eq (a0 a1 a2 a3 : Value) (w : World) (K : Kont) : vcFn Try.prog Try.f20 [a0, a1, a2, a3] w K = F20 a0 a1 a2 a3 w K := by kernel_rfl
theorem F20_ok : okF Try.prog Try.f20 4 = true := by kernel_rfl
theorem ca20{a0 a1 a2 a3 : Value} {w : World} {K : Kont} (h : F20 a0 a1 a2 a3 w K) : Ca Try.prog 20 #[a0, a1, a2, a3] w K :=
  ca_of_vc Try.noNum Try.func20 F20_ok (by rw [F20_eq]; exact h)


def L19_0 (v20 : Value) (v18 : Value) (a0 : Value) (v11 : Value) (a2 : Value) (K : Kont) (s22 : Value × Unit) (w23 : World) (K24 : Value × Unit → World → Prop) : Prop :=
 ∀ _ : Nat → Value,
 rv Try.prog (bin .lss 3 false s22.1 v20) w23 fun v25 w26 =>
 ifB v25
 (rv Try.prog (Instr.indexAt 53 v18 s22.1) w26 fun v27 w28 =>
 rx Try.prog (bigS 116 v27) w28 fun v29 w30 =>
 rx Try.prog (bigA 116) w30 fun v31 w32 =>
 rux Try.prog (bigU 116 v31 v29) w32 fun w33 =>
 rx Try.prog (bigS 116 v31) w33 fun v34 w35 =>
 Ca Try.prog 56 #[a0, v34] w35 fun v36 w37 =>
 rv Try.prog (bin .add 3 true s22.1 (.int .i64 1)) w37 fun v38 w39 =>
 K24 (v38, ()) w39)
 (nilK a0 fun v40 => rv Try.prog (Instr.fieldAt 55 v40 1) w26 fun v41 w42 =>
 rv Try.prog (Instr.loadAt 53 v41) w42 fun v43 w44 =>
 rn Try.prog (builtin .len #[53] 3 #[false] #[v43]) w44 fun v45 w46 =>
 rv Try.prog (bin .lss 3 false v11 v45) w46 fun v47 w48 =>
 ifB v47
 (rn Try.prog (builtin .len #[23] 3 #[false] #[a2]) w48 fun v49 w50 =>
 rv Try.prog (bin .gtr 3 true v49 (.int .i64 0)) w50 fun v51 w52 =>
 ifB v51
 (nilK a0 fun v53 => rv Try.prog (Instr.fieldAt 55 v53 1) w52 fun v54 w55 =>
 rv Try.prog (Instr.loadAt 53 v54) w55 fun v56 w57 =>
 rv Try.prog (Instr.indexAt 53 v56 v11) w57 fun v58 w59 =>
 rv Try.prog (Instr.fieldAt 116 v58 0) w59 fun v60 w61 =>
 rv Try.prog (Instr.loadAt 113 v60) w61 fun v62 w63 =>
 rx Try.prog (bigB 116 #[(0, v62)]) w63 fun v64 w65 =>
 rx Try.prog (bigA 116) w65 fun v66 w67 =>
 rux Try.prog (bigU 116 v66 v64) w67 fun w68 =>
 rv Try.prog (Instr.fieldAt 116 v66 1) w68 fun v69 w70 =>
 rv Try.prog (Instr.sliceAt 114 v69 none none none) w70 fun v71 w72 =>
 rx Try.prog (xCopy #[23, 23] 3 [v71, a2]) w72 fun v73 w74 =>
 rx Try.prog (bigS 116 v66) w74 fun v75 w76 =>
 Ca Try.prog 56 #[a0, v75] w76 fun v77 w78 =>
 nilK a0 fun v79 => rv Try.prog (Instr.fieldAt 55 v79 1) w78 fun v80 w81 =>
 ru Try.prog (Instr.storeAt 53 v80 (.slice none 0 0)) w81 fun w82 =>
 nilK a0 fun v83 => rv Try.prog (Instr.fieldAt 55 v83 4) w82 fun v84 w85 =>
 ru Try.prog (Instr.storeAt 4 v84 (.bool false)) w85 fun w86 =>
 nilK a0 fun v87 => rv Try.prog (Instr.fieldAt 55 v87 3) w86 fun v88 w89 =>
 ru Try.prog (Instr.storeAt 4 v88 (.bool false)) w89 fun w90 =>
 K (.int .i64 0) w90)
 (nilK a0 fun v91 => rv Try.prog (Instr.fieldAt 55 v91 1) w52 fun v92 w93 =>
 ru Try.prog (Instr.storeAt 53 v92 (.slice none 0 0)) w93 fun w94 =>
 nilK a0 fun v95 => rv Try.prog (Instr.fieldAt 55 v95 4) w94 fun v96 w97 =>
 ru Try.prog (Instr.storeAt 4 v96 (.bool false)) w97 fun w98 =>
 nilK a0 fun v99 => rv Try.prog (Instr.fieldAt 55 v99 3) w98 fun v100 w101 =>
 ru Try.prog (Instr.storeAt 4 v100 (.bool false)) w101 fun w102 =>
 K (.int .i64 0) w102))
 (nilK a0 fun v103 => rv Try.prog (Instr.fieldAt 55 v103 1) w48 fun v104 w105 =>
 ru Try.prog (Instr.storeAt 53 v104 (.slice none 0 0)) w105 fun w106 =>
 nilK a0 fun v107 => rv Try.prog (Instr.fieldAt 55 v107 4) w106 fun v108 w109 =>
 ru Try.prog (Instr.storeAt 4 v108 (.bool false)) w109 fun w110 =>
 nilK a0 fun v111 => rv Try.prog (Instr.fieldAt 55 v111 3) w110 fun v112 w113 =>
 ru Try.prog (Instr.storeAt 4 v112 (.bool false)) w113 fun w114 =>
 K (.int .i64 0) w114))

/-- (*broadside/disk.Disk).Crash -/
def F19 (a0 a1 a2 : Value) (w : World) (K : Kont) : Prop :=
 rv Try.prog (bin .eql 25 true a0 (.pointer none)) w fun v0 w1 =>
 ifB v0
 (K (.int .i64 1) w1)
 (rv Try.prog (bin .lss 3 true a1 (.int .i64 0)) w1 fun v2 w3 =>
 ifB v2
 (K (.int .i64 2) w3)
 (nilK a0 fun v4 => rv Try.prog (Instr.fieldAt 55 v4 1) w3 fun v5 w6 =>
 rv Try.prog (Instr.loadAt 53 v5) w6 fun v7 w8 =>
 rn Try.prog (builtin .len #[53] 3 #[false] #[v7]) w8 fun v9 w10 =>
 rn Try.prog (builtin .min #[3, 3] 3 #[false, false] #[a1, v9]) w10 fun v11 w12 =>
 nilK a0 fun v13 => rv Try.prog (Instr.fieldAt 55 v13 1) w12 fun v14 w15 =>
 rv Try.prog (Instr.loadAt 53 v14) w15 fun v16 w17 =>
 rv Try.prog (Instr.sliceAt 53 v16 none (some v11) none) w17 fun v18 w19 =>
 rn Try.prog (builtin .len #[53] 3 #[false] #[v18]) w19 fun v20 w21 =>
 LoopW (S := Value × Unit) (L19_0 v20 v18 a0 v11 a2 K) ((.int .i64 0), ()) w21))
theorem F19_eq (a0 a1 a2 : Value) (w : World) (K : Kont) : vcFn Try.prog Try.f19 [a0, a1, a2] w K = F19 a0 a1 a2 w K := by kernel_rfl
theorem F19_ok : okF Try.prog Try.f19 3 = true := by kernel_rfl
theorem ca19{a0 a1 a2 : Value} {w : World} {K : Kont} (h : F19 a0 a1 a2 w K) : Ca Try.prog 19 #[a0, a1, a2] w K :=
  ca_of_vc Try.noNum Try.func19 F19_ok (by rw [F19_eq]; exact h)



/-- broadside/disk.New -/
def F15 (w : World) (K : Kont) : Prop :=
 rv Try.prog (Instr.build 55 #[]) w fun v0 w1 =>
 rv Try.prog (Instr.box 55 v0) w1 fun v2 w3 =>
 K v2 w3
theorem F15_eq (w : World) (K : Kont) : vcFn Try.prog Try.f15 [] w K = F15  w K := by kernel_rfl
theorem F15_ok : okF Try.prog Try.f15 0 = true := by kernel_rfl
theorem ca15 {w : World} {K : Kont} (h : F15  w K) : Ca Try.prog 15 #[] w K :=
  ca_of_vc Try.noNum Try.func15 F15_ok (by rw [F15_eq]; exact h)


end Go.Proofs
