/-
  Formulas of the program's functions, printed by a program of mine: each is what the computed precondition of the function's body comes to.
  Conditions: none.
-/
import Derived.Test.YteldcaeicgobfaaG0
import Derived.Test.YteldcaeicgobfaaVcFn
set_option linter.unusedSimpArgs false
set_option maxRecDepth 100000
set_option linter.unusedVariables false
namespace Go.Proofs
open Go Go.Vc



/-- (*broadside/disk.Disk).Copy -/
def F28 (a0 : Value) (w : World) (K : Kont) : Prop :=
 rv Try.prog (bin .eql 25 true a0 (.pointer none)) w fun v0 w1 =>
 ifB v0
 (K (.pointer none) w1)
 (nilK a0 fun v2 => rv Try.prog (Instr.loadAt 55 v2) w1 fun v3 w4 =>
 rv Try.prog (Instr.alloc 55 true (.tuple #[])) w4 fun v5 w6 =>
 ru Try.prog (Instr.storeAt 55 v5 v3) w6 fun w7 =>
 nilK a0 fun v8 => rdP Try.prog (Instr.fieldAt 55 v8 0) fun v9 =>
 rdW Try.prog (Instr.loadAt 52 v9) w7.drew fun v10 =>
 nilK a0 fun v11 => rdP Try.prog (Instr.fieldAt 55 v11 1) fun v12 =>
 rdW Try.prog (Instr.loadAt 53 v12) w7.drew fun v13 =>
 Ca Try.prog 61 #[v10] w7.drew fun v14 w15 =>
 Sem.run Try.prog (Instr.loadAt 53 v12) w15 = .ok v13 w15 ∧ 
 (Ca Try.prog 62 #[v13] w15 fun v16 w17 =>
 rdP Try.prog (Instr.fieldAt 55 v5 0) fun v18 =>
 ru Try.prog (Instr.storeAt 52 v18 v14) w17 fun w19 =>
 rdP Try.prog (Instr.fieldAt 55 v5 1) fun v20 =>
 ru Try.prog (Instr.storeAt 53 v20 v16) w19 fun w21 =>
 K v5 w21))
theorem F28_eq (a0 : Value) (w : World) (K : Kont) : vcFnJ Try.prog Try.f28 [a0] w K = F28 a0 w K := by kernel_rfl
theorem F28_ok : okF Try.prog Try.f28 1 = true := by kernel_rfl
theorem ca28{a0 : Value} {w : World} {K : Kont} (h : F28 a0 w K) : Ca Try.prog 28 #[a0] w K :=
  ca_of_vcJ Try.noNum Try.func28 F28_ok (by rw [F28_eq]; exact h)


def J6_0 (K : Kont) (v0 : Value) (s41 : Value × Unit) (w42 : World) : Prop :=
 ∀ _ : Nat → Value,
 ifB s41.1
 (K (.bool false) w42)
 (Ca Try.prog 20 #[v0, (.int .i64 1), (.int .i64 7), (.int .i64 1)] w42 fun v58 w59 =>
 rv Try.prog (Instr.extract v58 0) w59 fun v60 w61 =>
 rv Try.prog (Instr.extract v58 1) w61 fun v62 w63 =>
 rdP Try.prog (bin .eql 28 true v62 (.int .i64 0)) fun v64 =>
 ifB v64
 (rdX Try.prog (xConv 23 9 v60) w63.drew fun v65 =>
 Ca Try.prog 18 #[(.int .u8 97)] w63.drew fun v66 w67 =>
 Sem.run Try.prog (xConv 23 9 v60) w67 = .ok v65 w67 ∧ 
 (rdX Try.prog (xConv 23 9 v66) w67 fun v68 =>
 rdP Try.prog (bin .eql 9 false v65 v68) fun v69 =>
 ifB v69
 (Ca Try.prog 14 #[] w67 fun v70 w71 =>
 K v70 w71)
 (K (.bool false) w67)))
 (K (.bool false) w63.drew))

def J6_1 (K : Kont) (v0 : Value) (s8 : Value × Unit) (w9 : World) : Prop :=
 ∀ _ : Nat → Value,
 ifB s8.1
 (K (.bool false) w9)
 (JoinW (S := Value × Unit) (fun J43 =>
 Ca Try.prog 18 #[(.int .u8 97)] w9 fun v44 w45 =>
 Ca Try.prog 17 #[v0, (.int .i64 1), (.int .i64 7), v44] w45 fun v46 w47 =>
 rv Try.prog (bin .neq 28 true v46 (.int .i64 0)) w47 fun v48 w49 =>
 ifB v48
 (J43 ((.bool true), ()) w49)
 (Ca Try.prog 21 #[v0] w49 fun v50 w51 =>
 rv Try.prog (bin .neq 3 true v50 (.int .i64 1)) w51 fun v52 w53 =>
 ifB v52
 (J43 ((.bool true), ()) w53)
 (Ca Try.prog 16 #[v0] w53 fun v54 w55 =>
 rv Try.prog (bin .neq 28 true v54 (.int .i64 0)) w55 fun v56 w57 =>
 J43 (v56, ()) w57)))
 (J6_0 K v0))

/-- broadside/broadsidelaw18.DiskNone -/
def F6 (a0 a1 a2 : Value) (w : World) (K : Kont) : Prop :=
 rv Try.prog (Instr.alloc 55 true (.tuple #[])) w fun v0 w1 =>
 Ca Try.prog 20 #[(.pointer none), a0, a1, a2] w1 fun v2 w3 =>
 rv Try.prog (Instr.extract v2 0) w3 fun v4 w5 =>
 rv Try.prog (Instr.extract v2 1) w5 fun v6 w7 =>
 JoinW (S := Value × Unit) (fun J10 =>
 Ca Try.prog 18 #[(.int .u8 97)] w7 fun v11 w12 =>
 Ca Try.prog 17 #[(.pointer none), a0, a1, v11] w12 fun v13 w14 =>
 rv Try.prog (bin .neq 28 true v13 (.int .i64 1)) w14 fun v15 w16 =>
 ifB v15
 (J10 ((.bool true), ()) w16)
 (Ca Try.prog 16 #[(.pointer none)] w16 fun v17 w18 =>
 rv Try.prog (bin .neq 28 true v17 (.int .i64 1)) w18 fun v19 w20 =>
 ifB v19
 (J10 ((.bool true), ()) w20)
 (rv Try.prog (bin .neq 28 true v6 (.int .i64 1)) w20 fun v21 w22 =>
 ifB v21
 (J10 ((.bool true), ()) w22)
 (Ca Try.prog 25 #[(.pointer none), a2] w22 fun v23 w24 =>
 rv Try.prog (bin .neq 28 true v23 (.int .i64 1)) w24 fun v25 w26 =>
 ifB v25
 (J10 ((.bool true), ()) w26)
 (Ca Try.prog 19 #[(.pointer none), a2, (.slice none 0 0)] w26 fun v27 w28 =>
 rv Try.prog (bin .neq 28 true v27 (.int .i64 1)) w28 fun v29 w30 =>
 ifB v29
 (J10 ((.bool true), ()) w30)
 (Ca Try.prog 30 #[(.pointer none)] w30 fun v31 w32 =>
 ifB v31
 (J10 ((.bool true), ()) w32)
 (Ca Try.prog 21 #[(.pointer none)] w32 fun v33 w34 =>
 rv Try.prog (bin .neq 3 true v33 (.int .i64 0)) w34 fun v35 w36 =>
 ifB v35
 (J10 ((.bool true), ()) w36)
 (Ca Try.prog 28 #[(.pointer none)] w36 fun v37 w38 =>
 rv Try.prog (bin .neq 25 true v37 (.pointer none)) w38 fun v39 w40 =>
 J10 (v39, ()) w40))))))))
 (J6_1 K v0)
theorem F6_eq (a0 a1 a2 : Value) (w : World) (K : Kont) : vcFnJ Try.prog Try.f6 [a0, a1, a2] w K = F6 a0 a1 a2 w K := by kernel_rfl
theorem F6_ok : okF Try.prog Try.f6 3 = true := by kernel_rfl
theorem ca6{a0 a1 a2 : Value} {w : World} {K : Kont} (h : F6 a0 a1 a2 w K) : Ca Try.prog 6 #[a0, a1, a2] w K :=
  ca_of_vcJ Try.noNum Try.func6 F6_ok (by rw [F6_eq]; exact h)


end Go.Proofs
