/-
  Formulas of the program's functions, printed by a program of mine: each is what the computed precondition of the function's body comes to.
  Conditions: none.
-/
import Derived.Test.YteldcaeicgobfaaG0
import Derived.Test.YteldcaeicgobfaaVcFn
set_option linter.unusedSimpArgs false
set_option maxRecDepth 100000
set_option linter.unusedVariables false
namespace Go.Proofs
open Go Go.Vc


def L85_0 (a1 : Value) (K : Kont) (s0 : Value × Value × Unit) (w1 : World) (K2 : Value × Value × Unit → World → Prop) : Prop :=
 ∀ _ : Nat → Value,
 rv Try.prog (bin .geq 3 true s0.2.1 (.int .i64 0)) w1 fun v3 w4 =>
 ifB v3
 (rv Try.prog (bin .shr 27 false a1 s0.2.1) w4 fun v5 w6 =>
 rv Try.prog (convert 27 5 v5) w6 fun v7 w8 =>
 rx Try.prog (xLit 23 1 [(0, v7)]) w8 fun v9 w10 =>
 rx Try.prog (xAppend #[23, 23] 23 [s0.1, v9]) w10 fun v11 w12 =>
 rv Try.prog (bin .sub 3 true s0.2.1 (.int .i64 8)) w12 fun v13 w14 =>
 K2 (v11, v13, ()) w14)
 (K s0.1 w4)

/-- broadside/vote.append64 -/
def F85 (a0 a1 : Value) (w : World) (K : Kont) : Prop :=
 LoopW (S := Value × Value × Unit) (L85_0 a1 K) (a0, (.int .i64 56), ()) w
theorem F85_eq (a0 a1 : Value) (w : World) (K : Kont) : vcFnJ Try.prog Try.f85 [a0, a1] w K = F85 a0 a1 w K := by kernel_rfl
theorem F85_ok : okF Try.prog Try.f85 2 = true := by kernel_rfl
theorem ca85{a0 a1 : Value} {w : World} {K : Kont} (h : F85 a0 a1 w K) : Ca Try.prog 85 #[a0, a1] w K :=
  ca_of_vcJ Try.noNum Try.func85 F85_ok (by rw [F85_eq]; exact h)



/-- broadside/vote.append32 -/
def F86 (a0 a1 : Value) (w : World) (K : Kont) : Prop :=
 rv Try.prog (bin .shr 150 true a1 (.int .u64 24)) w fun v0 w1 =>
 rv Try.prog (convert 150 5 v0) w1 fun v2 w3 =>
 rv Try.prog (bin .shr 150 true a1 (.int .u64 16)) w3 fun v4 w5 =>
 rv Try.prog (convert 150 5 v4) w5 fun v6 w7 =>
 rv Try.prog (bin .shr 150 true a1 (.int .u64 8)) w7 fun v8 w9 =>
 rv Try.prog (convert 150 5 v8) w9 fun v10 w11 =>
 rv Try.prog (convert 150 5 a1) w11 fun v12 w13 =>
 rx Try.prog (xLit 23 4 [(0, v2), (1, v6), (2, v10), (3, v12)]) w13 fun v14 w15 =>
 rx Try.prog (xAppend #[23, 23] 23 [a0, v14]) w15 fun v16 w17 =>
 K v16 w17
theorem F86_eq (a0 a1 : Value) (w : World) (K : Kont) : vcFnJ Try.prog Try.f86 [a0, a1] w K = F86 a0 a1 w K := by kernel_rfl
theorem F86_ok : okF Try.prog Try.f86 2 = true := by kernel_rfl
theorem ca86{a0 a1 : Value} {w : World} {K : Kont} (h : F86 a0 a1 w K) : Ca Try.prog 86 #[a0, a1] w K :=
  ca_of_vcJ Try.noNum Try.func86 F86_ok (by rw [F86_eq]; exact h)


def L84_0 (v2 : Value) (v0 : Value) (K : Kont) (s4 : Value × Value × Unit) (w5 : World) (K6 : Value × Value × Unit → World → Prop) : Prop :=
 ∀ _ : Nat → Value,
 rv Try.prog (bin .lss 3 false s4.2.1 v2) w5 fun v7 w8 =>
 ifB v7
 (rv Try.prog (Instr.indexAt 23 v0 s4.2.1) w8 fun v9 w10 =>
 rv Try.prog (Instr.loadAt 5 v9) w10 fun v11 w12 =>
 rv Try.prog (bin .shl 27 true s4.1 (.int .u64 8)) w12 fun v13 w14 =>
 rv Try.prog (convert 5 27 v11) w14 fun v15 w16 =>
 rv Try.prog (bin .or 27 false v13 v15) w16 fun v17 w18 =>
 rv Try.prog (bin .add 3 true s4.2.1 (.int .i64 1)) w18 fun v19 w20 =>
 K6 (v17, v19, ()) w20)
 (K s4.1 w8)

/-- broadside/vote.get64 -/
def F84 (a0 : Value) (w : World) (K : Kont) : Prop :=
 rv Try.prog (Instr.sliceAt 23 a0 none (some (.int .i64 8)) none) w fun v0 w1 =>
 rn Try.prog (builtin .len #[23] 3 #[false] #[v0]) w1 fun v2 w3 =>
 LoopW (S := Value × Value × Unit) (L84_0 v2 v0 K) ((.int .u64 0), (.int .i64 0), ()) w3
theorem F84_eq (a0 : Value) (w : World) (K : Kont) : vcFnJ Try.prog Try.f84 [a0] w K = F84 a0 w K := by kernel_rfl
theorem F84_ok : okF Try.prog Try.f84 1 = true := by kernel_rfl
theorem ca84{a0 : Value} {w : World} {K : Kont} (h : F84 a0 w K) : Ca Try.prog 84 #[a0] w K :=
  ca_of_vcJ Try.noNum Try.func84 F84_ok (by rw [F84_eq]; exact h)



/-- broadside/vote.may -/
def F67 (a0 : Value) (w : World) (K : Kont) : Prop :=
 rv Try.prog (Instr.box 59 a0) w fun v0 w1 =>
 rv Try.prog (Instr.fieldAt 59 v0 1) w1 fun v2 w3 =>
 rv Try.prog (Instr.loadAt 57 v2) w3 fun v4 w5 =>
 rv Try.prog (bin .geq 57 true v4 (.int .i8 (-1))) w5 fun v6 w7 =>
 ifB v6
 (rv Try.prog (Instr.fieldAt 59 v0 1) w7 fun v8 w9 =>
 rv Try.prog (Instr.loadAt 57 v8) w9 fun v10 w11 =>
 rv Try.prog (bin .leq 57 true v10 (.int .i8 6)) w11 fun v12 w13 =>
 ifB v12
 (rv Try.prog (Instr.fieldAt 59 v0 2) w13 fun v14 w15 =>
 rv Try.prog (Instr.loadAt 5 v14) w15 fun v16 w17 =>
 rv Try.prog (bin .leq 5 true v16 (.int .u8 1)) w17 fun v18 w19 =>
 K v18 w19)
 (K (.bool false) w13))
 (K (.bool false) w7)
theorem F67_eq (a0 : Value) (w : World) (K : Kont) : vcFnJ Try.prog Try.f67 [a0] w K = F67 a0 w K := by kernel_rfl
theorem F67_ok : okF Try.prog Try.f67 1 = true := by kernel_rfl
theorem ca67{a0 : Value} {w : World} {K : Kont} (h : F67 a0 w K) : Ca Try.prog 67 #[a0] w K :=
  ca_of_vcJ Try.noNum Try.func67 F67_ok (by rw [F67_eq]; exact h)



/-- (*broadside/vote.Vote).none -/
def F66 (a0 : Value) (w : World) (K : Kont) : Prop :=
 rv Try.prog (bin .eql 60 true a0 (.pointer none)) w fun v0 w1 =>
 ifB v0
 (K (.bool true) w1)
 (nilK a0 fun v2 => rv Try.prog (Instr.fieldAt 64 v2 0) w1 fun v3 w4 =>
 rv Try.prog (Instr.loadAt 25 v3) w4 fun v5 w6 =>
 rv Try.prog (bin .eql 25 true v5 (.pointer none)) w6 fun v7 w8 =>
 K v7 w8)
theorem F66_eq (a0 : Value) (w : World) (K : Kont) : vcFnJ Try.prog Try.f66 [a0] w K = F66 a0 w K := by kernel_rfl
theorem F66_ok : okF Try.prog Try.f66 1 = true := by kernel_rfl
theorem ca66{a0 : Value} {w : World} {K : Kont} (h : F66 a0 w K) : Ca Try.prog 66 #[a0] w K :=
  ca_of_vcJ Try.noNum Try.func66 F66_ok (by rw [F66_eq]; exact h)



/-- (*broadside/vote.Vote).Mark -/
def F33 (a0 : Value) (w : World) (K : Kont) : Prop :=
 rv Try.prog (Instr.alloc 59 true (.tuple #[])) w fun v0 w1 =>
 Ca Try.prog 66 #[a0] w1 fun v2 w3 =>
 ifB v2
 (rv Try.prog (Instr.build 59 #[]) w3 fun v4 w5 =>
 ru Try.prog (Instr.storeAt 59 v0 v4) w5 fun w6 =>
 rdW Try.prog (Instr.loadAt 59 v0) w6 fun v7 =>
 K v7 w6)
 (nilK a0 fun v8 => rv Try.prog (Instr.fieldAt 64 v8 2) w3 fun v9 w10 =>
 rv Try.prog (Instr.loadAt 59 v9) w10 fun v11 w12 =>
 ru Try.prog (Instr.storeAt 59 v0 v11) w12 fun w13 =>
 rdW Try.prog (Instr.loadAt 59 v0) w13 fun v14 =>
 K v14 w13)
theorem F33_eq (a0 : Value) (w : World) (K : Kont) : vcFnJ Try.prog Try.f33 [a0] w K = F33 a0 w K := by kernel_rfl
theorem F33_ok : okF Try.prog Try.f33 1 = true := by kernel_rfl
theorem ca33{a0 : Value} {w : World} {K : Kont} (h : F33 a0 w K) : Ca Try.prog 33 #[a0] w K :=
  ca_of_vcJ Try.noNum Try.func33 F33_ok (by rw [F33_eq]; exact h)



/-- (*broadside/vote.Vote).Number -/
def F34 (a0 : Value) (w : World) (K : Kont) : Prop :=
 Ca Try.prog 66 #[a0] w fun v0 w1 =>
 ifB v0
 (K (.int .u64 0) w1)
 (nilK a0 fun v2 => rv Try.prog (Instr.fieldAt 64 v2 3) w1 fun v3 w4 =>
 rv Try.prog (Instr.loadAt 27 v3) w4 fun v5 w6 =>
 K v5 w6)
theorem F34_eq (a0 : Value) (w : World) (K : Kont) : vcFnJ Try.prog Try.f34 [a0] w K = F34 a0 w K := by kernel_rfl
theorem F34_ok : okF Try.prog Try.f34 1 = true := by kernel_rfl
theorem ca34{a0 : Value} {w : World} {K : Kont} (h : F34 a0 w K) : Ca Try.prog 34 #[a0] w K :=
  ca_of_vcJ Try.noNum Try.func34 F34_ok (by rw [F34_eq]; exact h)


def L99_0 (v0 : Value) (s2 : Value × Unit) (K4 : Value × Unit → World → Prop) (s9 : Value × Value × Unit) (w10 : World) (K11 : Value × Value × Unit → World → Prop) : Prop :=
 ∀ _ : Nat → Value,
 rv Try.prog (bin .lss 3 true s9.2.1 (.int .i64 8)) w10 fun v12 w13 =>
 ifB v12
 (rv Try.prog (bin .and 150 true s9.1 (.int .u32 1)) w13 fun v14 w15 =>
 rv Try.prog (bin .eql 150 true v14 (.int .u32 1)) w15 fun v16 w17 =>
 ifB v16
 (rv Try.prog (bin .shr 150 true s9.1 (.int .u64 1)) w17 fun v18 w19 =>
 rv Try.prog (bin .xor 150 true v18 (.int .u32 3988292384)) w19 fun v20 w21 =>
 rv Try.prog (bin .add 3 true s9.2.1 (.int .i64 1)) w21 fun v22 w23 =>
 K11 (v20, v22, ()) w23)
 (rv Try.prog (bin .shr 150 true s9.1 (.int .u64 1)) w17 fun v24 w25 =>
 rv Try.prog (bin .add 3 true s9.2.1 (.int .i64 1)) w25 fun v26 w27 =>
 K11 (v24, v26, ()) w27))
 (rv Try.prog (Instr.indexAt 157 v0 s2.1) w13 fun v28 w29 =>
 ru Try.prog (Instr.storeAt 150 v28 s9.1) w29 fun w30 =>
 rv Try.prog (bin .add 3 true s2.1 (.int .i64 1)) w30 fun v31 w32 =>
 K4 (v31, ()) w32)

def L99_1 (v0 : Value) (K : Kont) (s2 : Value × Unit) (w3 : World) (K4 : Value × Unit → World → Prop) : Prop :=
 ∀ _ : Nat → Value,
 rv Try.prog (bin .lss 3 true s2.1 (.int .i64 256)) w3 fun v5 w6 =>
 ifB v5
 (rv Try.prog (convert 3 150 s2.1) w6 fun v7 w8 =>
 LoopW (S := Value × Value × Unit) (L99_0 v0 s2 K4) (v7, (.int .i64 0), ()) w8)
 (rx Try.prog (bigS 157 v0) w6 fun v33 w34 =>
 rux Try.prog (bigU 157 v0 v33) w34 fun w35 =>
 rdX Try.prog (bigS 157 v0) w35 fun v36 =>
 K v36 w35)

/-- broadside/crc.table -/
def F99 (w : World) (K : Kont) : Prop :=
 rx Try.prog (bigA 157) w fun v0 w1 =>
 LoopW (S := Value × Unit) (L99_1 v0 K) ((.int .i64 0), ()) w1
theorem F99_eq (w : World) (K : Kont) : vcFnJ Try.prog Try.f99 [] w K = F99  w K := by kernel_rfl
theorem F99_ok : okF Try.prog Try.f99 0 = true := by kernel_rfl
theorem ca99 {w : World} {K : Kont} (h : F99  w K) : Ca Try.prog 99 #[] w K :=
  ca_of_vcJ Try.noNum Try.func99 F99_ok (by rw [F99_eq]; exact h)


def L87_0 (v16 : Value) (v14 : Value) (v2 : Value) (s7 : Value × Value × Unit) (K9 : Value × Value × Unit → World → Prop) (s18 : Value × Value × Unit) (w19 : World) (K20 : Value × Value × Unit → World → Prop) : Prop :=
 ∀ _ : Nat → Value,
 rv Try.prog (bin .lss 3 false s18.2.1 v16) w19 fun v21 w22 =>
 ifB v21
 (rv Try.prog (Instr.indexAt 23 v14 s18.2.1) w22 fun v23 w24 =>
 rv Try.prog (Instr.loadAt 5 v23) w24 fun v25 w26 =>
 rv Try.prog (convert 150 5 s18.1) w26 fun v27 w28 =>
 rv Try.prog (bin .xor 5 false v27 v25) w28 fun v29 w30 =>
 rv Try.prog (Instr.indexAt 157 v2 v29) w30 fun v31 w32 =>
 rv Try.prog (Instr.loadAt 150 v31) w32 fun v33 w34 =>
 rv Try.prog (bin .shr 150 true s18.1 (.int .u64 8)) w34 fun v35 w36 =>
 rv Try.prog (bin .xor 150 false v33 v35) w36 fun v37 w38 =>
 rv Try.prog (bin .add 3 true s18.2.1 (.int .i64 1)) w38 fun v39 w40 =>
 K20 (v37, v39, ()) w40)
 (rv Try.prog (bin .add 3 true s7.2.1 (.int .i64 1)) w22 fun v41 w42 =>
 K9 (s18.1, v41, ()) w42)

def L87_1 (v5 : Value) (a0 : Value) (v2 : Value) (K : Kont) (s7 : Value × Value × Unit) (w8 : World) (K9 : Value × Value × Unit → World → Prop) : Prop :=
 ∀ _ : Nat → Value,
 rv Try.prog (bin .lss 3 false s7.2.1 v5) w8 fun v10 w11 =>
 ifB v10
 (rv Try.prog (Instr.indexAt 108 a0 s7.2.1) w11 fun v12 w13 =>
 rv Try.prog (Instr.loadAt 23 v12) w13 fun v14 w15 =>
 rn Try.prog (builtin .len #[23] 3 #[false] #[v14]) w15 fun v16 w17 =>
 LoopW (S := Value × Value × Unit) (L87_0 v16 v14 v2 s7 K9) (s7.1, (.int .i64 0), ()) w17)
 (rv Try.prog (Op.unary .xor s7.1) w11 fun v43 w44 =>
 K v43 w44)

/-- broadside/crc.Sum -/
def F87 (a0 : Value) (w : World) (K : Kont) : Prop :=
 Ca Try.prog 99 #[] w fun v0 w1 =>
 rx Try.prog (bigA 157) w1 fun v2 w3 =>
 rux Try.prog (bigU 157 v2 v0) w3 fun w4 =>
 rn Try.prog (builtin .len #[108] 3 #[false] #[a0]) w4 fun v5 w6 =>
 LoopW (S := Value × Value × Unit) (L87_1 v5 a0 v2 K) ((.int .u32 4294967295), (.int .i64 0), ()) w6
theorem F87_eq (a0 : Value) (w : World) (K : Kont) : vcFnJ Try.prog Try.f87 [a0] w K = F87 a0 w K := by kernel_rfl
theorem F87_ok : okF Try.prog Try.f87 1 = true := by kernel_rfl
theorem ca87{a0 : Value} {w : World} {K : Kont} (h : F87 a0 w K) : Ca Try.prog 87 #[a0] w K :=
  ca_of_vcJ Try.noNum Try.func87 F87_ok (by rw [F87_eq]; exact h)


def L69_0 (v2 : Value) (a0 : Value) (v0 : Value) (K : Kont) (s4 : Value × Unit) (w5 : World) (K6 : Value × Unit → World → Prop) : Prop :=
 ∀ _ : Nat → Value,
 rv Try.prog (bin .lss 3 true s4.1 (.int .i64 3)) w5 fun v7 w8 =>
 ifB v7
 (rv Try.prog (Instr.indexAt 127 v2 s4.1) w8 fun v9 w10 =>
 rv Try.prog (Instr.sliceAt 125 v9 none (some (.int .i64 0)) none) w10 fun v11 w12 =>
 rv Try.prog (bin .add 3 true s4.1 (.int .i64 1)) w12 fun v13 w14 =>
 rv Try.prog (convert 3 5 v13) w14 fun v15 w16 =>
 rx Try.prog (xLit 23 1 [(0, v15)]) w16 fun v17 w18 =>
 rx Try.prog (xAppend #[23, 23] 23 [v11, v17]) w18 fun v19 w20 =>
 Ca Try.prog 85 #[v19, a0] w20 fun v21 w22 =>
 rv Try.prog (Instr.fieldAt 59 v0 0) w22 fun v23 w24 =>
 rv Try.prog (Instr.loadAt 27 v23) w24 fun v25 w26 =>
 Ca Try.prog 85 #[v21, v25] w26 fun v27 w28 =>
 rv Try.prog (Instr.fieldAt 59 v0 1) w28 fun v29 w30 =>
 rv Try.prog (Instr.loadAt 57 v29) w30 fun v31 w32 =>
 rv Try.prog (bin .add 57 true v31 (.int .i8 1)) w32 fun v33 w34 =>
 rv Try.prog (convert 57 5 v33) w34 fun v35 w36 =>
 rv Try.prog (Instr.fieldAt 59 v0 2) w36 fun v37 w38 =>
 rv Try.prog (Instr.loadAt 5 v37) w38 fun v39 w40 =>
 rx Try.prog (xLit 23 2 [(0, v35), (1, v39)]) w40 fun v41 w42 =>
 rx Try.prog (xAppend #[23, 23] 23 [v27, v41]) w42 fun v43 w44 =>
 rv Try.prog (Instr.fieldAt 59 v0 3) w44 fun v45 w46 =>
 rv Try.prog (Instr.loadAt 27 v45) w46 fun v47 w48 =>
 Ca Try.prog 85 #[v43, v47] w48 fun v49 w50 =>
 rv Try.prog (Instr.fieldAt 59 v0 4) w50 fun v51 w52 =>
 rv Try.prog (Instr.loadAt 27 v51) w52 fun v53 w54 =>
 Ca Try.prog 85 #[v49, v53] w54 fun v55 w56 =>
 rv Try.prog (Instr.sliceAt 23 v55 (some (.int .i64 1)) none none) w56 fun v57 w58 =>
 rx Try.prog (xLit 108 1 [(0, v57)]) w58 fun v59 w60 =>
 Ca Try.prog 87 #[v59] w60 fun v61 w62 =>
 Ca Try.prog 86 #[v55, v61] w62 fun v63 w64 =>
 rv Try.prog (bin .add 3 true s4.1 (.int .i64 1)) w64 fun v65 w66 =>
 K6 (v65, ()) w66)
 (rx Try.prog (bigS 127 v2) w8 fun v67 w68 =>
 rux Try.prog (bigU 127 v2 v67) w68 fun w69 =>
 rdX Try.prog (bigS 127 v2) w69 fun v70 =>
 K v70 w69)

/-- broadside/vote.written -/
def F69 (a0 a1 : Value) (w : World) (K : Kont) : Prop :=
 rv Try.prog (Instr.box 59 a1) w fun v0 w1 =>
 rx Try.prog (bigA 127) w1 fun v2 w3 =>
 LoopW (S := Value × Unit) (L69_0 v2 a0 v0 K) ((.int .i64 0), ()) w3
theorem F69_eq (a0 a1 : Value) (w : World) (K : Kont) : vcFnJ Try.prog Try.f69 [a0, a1] w K = F69 a0 a1 w K := by kernel_rfl
theorem F69_ok : okF Try.prog Try.f69 2 = true := by kernel_rfl
theorem ca69{a0 a1 : Value} {w : World} {K : Kont} (h : F69 a0 a1 w K) : Ca Try.prog 69 #[a0, a1] w K :=
  ca_of_vcJ Try.noNum Try.func69 F69_ok (by rw [F69_eq]; exact h)


def J64_0 (v2 : Value) (K : Kont) (s10 : Value × Unit) (v8 : Value) (s56 : Value × Unit) (w57 : World) : Prop :=
 ∀ _ : Nat → Value,
 ifB s56.1
 (rv Try.prog (Instr.build 59 #[]) w57 fun v69 w70 =>
 ru Try.prog (Instr.storeAt 59 v2 v69) w70 fun w71 =>
 rdW Try.prog (Instr.loadAt 59 v2) w71 fun v72 =>
 K (.tuple #[(.int .u64 0), v72]) w71)
 (rdW Try.prog (Instr.loadAt 59 s10.1) w57.drew fun v73 =>
 Sem.run Try.prog (Instr.loadAt 59 s10.1) w57.drew = .ok v73 w57.drew ∧ 
 (ru Try.prog (Instr.storeAt 59 v2 v73) w57.drew fun w74 =>
 rdW Try.prog (Instr.loadAt 59 v2) w74 fun v75 =>
 K (.tuple #[v8, v75]) w74))

def J64_1 (v8 : Value) (v0 : Value) (v2 : Value) (K : Kont) (s10 : Value × Unit) (w11 : World) : Prop :=
 ∀ _ : Nat → Value,
 JoinW (S := Value × Unit) (fun J58 =>
 rdP Try.prog (bin .eql 27 true v8 (.int .u64 0)) fun v59 =>
 ifB v59
 (J58 ((.bool true), ()) w11.drew)
 (rdW Try.prog (Instr.loadAt 59 s10.1) w11.drew fun v60 =>
 Ca Try.prog 67 #[v60] w11.drew fun v61 w62 =>
 rdP Try.prog (Op.unary .not v61) fun v63 =>
 ifB v63
 (J58 ((.bool true), ()) w62)
 (rdX Try.prog (bigS 127 v0) w62 fun v64 =>
 rdW Try.prog (Instr.loadAt 59 s10.1) w62 fun v65 =>
 Ca Try.prog 69 #[v8, v65] w62 fun v66 w67 =>
 Sem.run Try.prog (bigS 127 v0) w67 = .ok v64 w67 ∧ 
 (rdP Try.prog (bin .neq 127 false v64 v66) fun v68 =>
 J58 (v68, ()) w67))))
 (J64_0 v2 K s10 v8)

/-- broadside/vote.read -/
def F64 (a0 : Value) (w : World) (K : Kont) : Prop :=
 rv Try.prog (Instr.box 127 a0) w fun v0 w1 =>
 rv Try.prog (Instr.alloc 59 true (.tuple #[])) w1 fun v2 w3 =>
 rv Try.prog (Instr.indexAt 127 v0 (.int .i64 0)) w3 fun v4 w5 =>
 rv Try.prog (Instr.sliceAt 125 v4 (some (.int .i64 1)) none none) w5 fun v6 w7 =>
 Ca Try.prog 84 #[v6] w7 fun v8 w9 =>
 JoinW (S := Value × Unit) (fun J12 =>
 rdP Try.prog (Instr.sliceAt 23 v6 (some (.int .i64 8)) none none) fun v13 =>
 rdP Try.prog (Instr.indexAt 23 v6 (.int .i64 16)) fun v14 =>
 rdW Try.prog (Instr.loadAt 5 v14) w9.drew fun v15 =>
 rdW Try.prog (convert 5 57 v15) w9.drew fun v16 =>
 rdP Try.prog (bin .sub 57 true v16 (.int .i8 1)) fun v17 =>
 rdP Try.prog (Instr.indexAt 23 v6 (.int .i64 17)) fun v18 =>
 rdW Try.prog (Instr.loadAt 5 v18) w9.drew fun v19 =>
 rdP Try.prog (Instr.sliceAt 23 v6 (some (.int .i64 18)) none none) fun v20 =>
 rdP Try.prog (Instr.sliceAt 23 v6 (some (.int .i64 26)) none none) fun v21 =>
 (Ca Try.prog 84 #[v13] w9.drew fun v22 w23 =>
 Sem.run Try.prog (Instr.loadAt 5 v18) w23 = .ok v19 w23 ∧ Sem.run Try.prog (convert 5 57 v15) w23 = .ok v16 w23 ∧ Sem.run Try.prog (Instr.loadAt 5 v14) w23 = .ok v15 w23 ∧ 
 ((Ca Try.prog 84 #[v20] w23 fun v24 w25 =>
 Sem.run Try.prog (Instr.loadAt 5 v18) w25 = .ok v19 w25 ∧ Sem.run Try.prog (convert 5 57 v15) w25 = .ok v16 w25 ∧ Sem.run Try.prog (Instr.loadAt 5 v14) w25 = .ok v15 w25 ∧ 
 ((Ca Try.prog 84 #[v21] w25 fun v26 w27 =>
 Sem.run Try.prog (Instr.loadAt 5 v18) w27 = .ok v19 w27 ∧ Sem.run Try.prog (convert 5 57 v15) w27 = .ok v16 w27 ∧ Sem.run Try.prog (Instr.loadAt 5 v14) w27 = .ok v15 w27 ∧ 
 (rdP Try.prog (Instr.build 59 #[(0, v22), (1, v17), (2, v19), (3, v24), (4, v26)]) fun v28 =>
 rv Try.prog (Instr.alloc 59 true (.tuple #[])) w27 fun v29 w30 =>
 Sem.run Try.prog (Instr.loadAt 5 v18) w30 = .ok v19 w30 ∧ Sem.run Try.prog (convert 5 57 v15) w30 = .ok v16 w30 ∧ Sem.run Try.prog (Instr.loadAt 5 v14) w30 = .ok v15 w30 ∧ 
 (ru Try.prog (Instr.storeAt 59 v29 v28) w30 fun w31 =>
 J12 (v29, ()) w31)))
 ∧ (rv Try.prog (Instr.alloc 59 true (.tuple #[])) w25 fun v32 w33 =>
 Sem.run Try.prog (Instr.loadAt 5 v18) w33 = .ok v19 w33 ∧ Sem.run Try.prog (convert 5 57 v15) w33 = .ok v16 w33 ∧ Sem.run Try.prog (Instr.loadAt 5 v14) w33 = .ok v15 w33 ∧ 
 (Ca Try.prog 84 #[v21] w33 fun v34 w35 =>
 Sem.run Try.prog (Instr.loadAt 5 v18) w35 = .ok v19 w35 ∧ Sem.run Try.prog (convert 5 57 v15) w35 = .ok v16 w35 ∧ Sem.run Try.prog (Instr.loadAt 5 v14) w35 = .ok v15 w35 ∧ 
 (rdP Try.prog (Instr.build 59 #[(0, v22), (1, v17), (2, v19), (3, v24), (4, v34)]) fun v36 =>
 ru Try.prog (Instr.storeAt 59 v32 v36) w35 fun w37 =>
 J12 (v32, ()) w37)))))
 ∧ (rv Try.prog (Instr.alloc 59 true (.tuple #[])) w23 fun v38 w39 =>
 Sem.run Try.prog (Instr.loadAt 5 v18) w39 = .ok v19 w39 ∧ Sem.run Try.prog (convert 5 57 v15) w39 = .ok v16 w39 ∧ Sem.run Try.prog (Instr.loadAt 5 v14) w39 = .ok v15 w39 ∧ 
 (Ca Try.prog 84 #[v20] w39 fun v40 w41 =>
 Sem.run Try.prog (Instr.loadAt 5 v18) w41 = .ok v19 w41 ∧ Sem.run Try.prog (convert 5 57 v15) w41 = .ok v16 w41 ∧ Sem.run Try.prog (Instr.loadAt 5 v14) w41 = .ok v15 w41 ∧ 
 (Ca Try.prog 84 #[v21] w41 fun v42 w43 =>
 Sem.run Try.prog (Instr.loadAt 5 v18) w43 = .ok v19 w43 ∧ Sem.run Try.prog (convert 5 57 v15) w43 = .ok v16 w43 ∧ Sem.run Try.prog (Instr.loadAt 5 v14) w43 = .ok v15 w43 ∧ 
 (rdP Try.prog (Instr.build 59 #[(0, v22), (1, v17), (2, v19), (3, v40), (4, v42)]) fun v44 =>
 ru Try.prog (Instr.storeAt 59 v38 v44) w43 fun w45 =>
 J12 (v38, ()) w45))))))
 ∧ (rv Try.prog (Instr.alloc 59 true (.tuple #[])) w9.drew fun v46 w47 =>
 Sem.run Try.prog (Instr.loadAt 5 v18) w47 = .ok v19 w47 ∧ Sem.run Try.prog (convert 5 57 v15) w47 = .ok v16 w47 ∧ Sem.run Try.prog (Instr.loadAt 5 v14) w47 = .ok v15 w47 ∧ 
 (Ca Try.prog 84 #[v13] w47 fun v48 w49 =>
 Sem.run Try.prog (Instr.loadAt 5 v18) w49 = .ok v19 w49 ∧ Sem.run Try.prog (convert 5 57 v15) w49 = .ok v16 w49 ∧ Sem.run Try.prog (Instr.loadAt 5 v14) w49 = .ok v15 w49 ∧ 
 (Ca Try.prog 84 #[v20] w49 fun v50 w51 =>
 Sem.run Try.prog (Instr.loadAt 5 v18) w51 = .ok v19 w51 ∧ Sem.run Try.prog (convert 5 57 v15) w51 = .ok v16 w51 ∧ Sem.run Try.prog (Instr.loadAt 5 v14) w51 = .ok v15 w51 ∧ 
 (Ca Try.prog 84 #[v21] w51 fun v52 w53 =>
 Sem.run Try.prog (Instr.loadAt 5 v18) w53 = .ok v19 w53 ∧ Sem.run Try.prog (convert 5 57 v15) w53 = .ok v16 w53 ∧ Sem.run Try.prog (Instr.loadAt 5 v14) w53 = .ok v15 w53 ∧ 
 (rdP Try.prog (Instr.build 59 #[(0, v48), (1, v17), (2, v19), (3, v50), (4, v52)]) fun v54 =>
 ru Try.prog (Instr.storeAt 59 v46 v54) w53 fun w55 =>
 J12 (v46, ()) w55))))))
 (J64_1 v8 v0 v2 K)
theorem F64_eq (a0 : Value) (w : World) (K : Kont) : vcFnJ Try.prog Try.f64 [a0] w K = F64 a0 w K := by kernel_rfl
theorem F64_ok : okF Try.prog Try.f64 1 = true := by kernel_rfl
theorem ca64{a0 : Value} {w : World} {K : Kont} (h : F64 a0 w K) : Ca Try.prog 64 #[a0] w K :=
  ca_of_vcJ Try.noNum Try.func64 F64_ok (by rw [F64_eq]; exact h)


def L68_0 (a0 : Value) (a1 : Value) (v0 : Value) (K : Kont) (s2 : Value × Value × Unit) (w3 : World) (K4 : Value × Value × Unit → World → Prop) : Prop :=
 ∀ _ : Nat → Value,
 rv Try.prog (bin .lss 3 true s2.2.1 (.int .i64 3)) w3 fun v5 w6 =>
 ifB v5
 (nilK a0 fun v7 => rdP Try.prog (Instr.fieldAt 64 v7 0) fun v8 =>
 rdW Try.prog (Instr.loadAt 25 v8) w6.drew fun v9 =>
 nilK a0 fun v10 => rdP Try.prog (Instr.fieldAt 64 v10 1) fun v11 =>
 rdW Try.prog (Instr.loadAt 3 v11) w6.drew fun v12 =>
 rdP Try.prog (bin .mul 3 true (.int .i64 3) a1) fun v13 =>
 rdP Try.prog (bin .add 3 false v13 s2.2.1) fun v14 =>
 rdP Try.prog (Instr.indexAt 127 v0 s2.2.1) fun v15 =>
 rdP Try.prog (Instr.sliceAt 125 v15 none none none) fun v16 =>
 Ca Try.prog 17 #[v9, v12, v14, v16] w6.drew fun v17 w18 =>
 rv Try.prog (bin .neq 28 true v17 (.int .i64 0)) w18 fun v19 w20 =>
 ifB v19
 (K v17 w20)
 (rv Try.prog (bin .add 3 true s2.2.1 (.int .i64 1)) w20 fun v21 w22 =>
 K4 (s2.1, v21, ()) w22))
 (K (.int .i64 0) w6)

/-- (*broadside/vote.Vote).write -/
def F68 (a0 a1 a2 : Value) (w : World) (K : Kont) : Prop :=
 rv Try.prog (Instr.box 127 a2) w fun v0 w1 =>
 LoopW (S := Value × Value × Unit) (L68_0 a0 a1 v0 K) ((.int .i64 0), (.int .i64 0), ()) w1
theorem F68_eq (a0 a1 a2 : Value) (w : World) (K : Kont) : vcFnJ Try.prog Try.f68 [a0, a1, a2] w K = F68 a0 a1 a2 w K := by kernel_rfl
theorem F68_ok : okF Try.prog Try.f68 3 = true := by kernel_rfl
theorem ca68{a0 a1 a2 : Value} {w : World} {K : Kont} (h : F68 a0 a1 a2 w K) : Ca Try.prog 68 #[a0, a1, a2] w K :=
  ca_of_vcJ Try.noNum Try.func68 F68_ok (by rw [F68_eq]; exact h)


def L65_0 (v2 : Value) (a0 : Value) (a1 : Value) (K : Kont) (s4 : Value × Value × Unit) (w5 : World) (K6 : Value × Value × Unit → World → Prop) : Prop :=
 ∀ _ : Nat → Value,
 rv Try.prog (bin .lss 3 true s4.2.1 (.int .i64 3)) w5 fun v7 w8 =>
 ifB v7
 (rv Try.prog (Instr.index 127 v2 s4.2.1) w8 fun v9 w10 =>
 rx Try.prog (bigA 125) w10 fun v11 w12 =>
 rux Try.prog (bigU 125 v11 v9) w12 fun w13 =>
 rx Try.prog (bigS 125 v11) w13 fun v14 w15 =>
 rx Try.prog (bigB 125 #[]) w15 fun v16 w17 =>
 rv Try.prog (bin .eql 125 false v14 v16) w17 fun v18 w19 =>
 ifB v18
 (rv Try.prog (bin .add 3 true s4.2.1 (.int .i64 1)) w19 fun v20 w21 =>
 K6 (s4.1, v20, ()) w21)
 (nilK a0 fun v22 => rdP Try.prog (Instr.fieldAt 64 v22 0) fun v23 =>
 rdW Try.prog (Instr.loadAt 25 v23) w19.drew fun v24 =>
 nilK a0 fun v25 => rdP Try.prog (Instr.fieldAt 64 v25 1) fun v26 =>
 rdW Try.prog (Instr.loadAt 3 v26) w19.drew fun v27 =>
 rdP Try.prog (bin .mul 3 true (.int .i64 3) a1) fun v28 =>
 rdP Try.prog (bin .add 3 false v28 s4.2.1) fun v29 =>
 rx Try.prog (xMake 23 (.int .i64 128) (.int .i64 128)) w19.drew fun v30 w31 =>
 Sem.run Try.prog (Instr.loadAt 3 v26) w31 = .ok v27 w31 ∧ Sem.run Try.prog (Instr.loadAt 25 v23) w31 = .ok v24 w31 ∧ 
 (Ca Try.prog 17 #[v24, v27, v29, v30] w31 fun v32 w33 =>
 rv Try.prog (bin .neq 28 true v32 (.int .i64 0)) w33 fun v34 w35 =>
 ifB v34
 (K v32 w35)
 (rv Try.prog (bin .add 3 true s4.2.1 (.int .i64 1)) w35 fun v36 w37 =>
 K6 (s4.1, v36, ()) w37))))
 (K (.int .i64 0) w8)

/-- (*broadside/vote.Vote).clean -/
def F65 (a0 a1 a2 : Value) (w : World) (K : Kont) : Prop :=
 rv Try.prog (Instr.box 127 a2) w fun v0 w1 =>
 rx Try.prog (bigS 127 v0) w1 fun v2 w3 =>
 LoopW (S := Value × Value × Unit) (L65_0 v2 a0 a1 K) ((.int .i64 0), (.int .i64 0), ()) w3
theorem F65_eq (a0 a1 a2 : Value) (w : World) (K : Kont) : vcFnJ Try.prog Try.f65 [a0, a1, a2] w K = F65 a0 a1 a2 w K := by kernel_rfl
theorem F65_ok : okF Try.prog Try.f65 3 = true := by kernel_rfl
theorem ca65{a0 a1 a2 : Value} {w : World} {K : Kont} (h : F65 a0 a1 a2 w K) : Ca Try.prog 65 #[a0, a1, a2] w K :=
  ca_of_vcJ Try.noNum Try.func65 F65_ok (by rw [F65_eq]; exact h)


def J31_0 (v19 : Value) (v12 : Value) (s14 : Value × Value × Value × Value × Unit) (K : Kont) (K16 : Value × Value × Value × Value × Unit → World → Prop) (s73 : Value × Unit) (w74 : World) : Prop :=
 ∀ _ : Nat → Value,
 ifB s73.1
 (rx Try.prog (bigS 127 v19) w74 fun v84 w85 =>
 Ca Try.prog 65 #[v12, s14.2.2.2.1, v84] w85 fun v86 w87 =>
 rv Try.prog (bin .neq 28 true v86 (.int .i64 0)) w87 fun v88 w89 =>
 ifB v88
 (K (.tuple #[(.pointer none), v86]) w89)
 (rv Try.prog (bin .add 3 true s14.2.2.2.1 (.int .i64 1)) w89 fun v90 w91 =>
 K16 (s14.1, s14.2.1, (.bool true), v90, ()) w91))
 (rv Try.prog (bin .add 3 true s14.2.2.2.1 (.int .i64 1)) w74 fun v92 w93 =>
 K16 (s14.1, s14.2.1, s14.2.2.1, v92, ()) w93)

def L31_1 (s14 : Value × Value × Value × Value × Unit) (v2 : Value) (v19 : Value) (v12 : Value) (K16 : Value × Value × Value × Value × Unit → World → Prop) (K : Kont) (s21 : Value × Unit) (w22 : World) (K23 : Value × Unit → World → Prop) : Prop :=
 ∀ _ : Nat → Value,
 rv Try.prog (bin .lss 3 true s21.1 (.int .i64 3)) w22 fun v24 w25 =>
 ifB v24
 (rv Try.prog (bin .mul 3 true s14.2.2.2.1 (.int .i64 3)) w25 fun v26 w27 =>
 rv Try.prog (bin .add 3 false v26 s21.1) w27 fun v28 w29 =>
 rv Try.prog (bin .mul 3 true v28 (.int .i64 128)) w29 fun v30 w31 =>
 rv Try.prog (Instr.sliceAt 23 v2 (some v30) none none) w31 fun v32 w33 =>
 rv Try.prog (Instr.arrayAt 125 v32) w33 fun v34 w35 =>
 rx Try.prog (bigS 125 v34) w35 fun v36 w37 =>
 rv Try.prog (Instr.indexAt 127 v19 s21.1) w37 fun v38 w39 =>
 rux Try.prog (bigU 125 v38 v36) w39 fun w40 =>
 rv Try.prog (bin .add 3 true s21.1 (.int .i64 1)) w40 fun v41 w42 =>
 K23 (v41, ()) w42)
 (rx Try.prog (bigS 127 v19) w25 fun v43 w44 =>
 Ca Try.prog 64 #[v43] w44 fun v45 w46 =>
 rv Try.prog (Instr.extract v45 0) w46 fun v47 w48 =>
 rv Try.prog (Instr.extract v45 1) w48 fun v49 w50 =>
 rv Try.prog (Instr.alloc 59 true (.tuple #[])) w50 fun v51 w52 =>
 ru Try.prog (Instr.storeAt 59 v51 v49) w52 fun w53 =>
 nilK v12 fun v54 => rv Try.prog (Instr.fieldAt 64 v54 3) w53 fun v55 w56 =>
 rv Try.prog (Instr.loadAt 27 v55) w56 fun v57 w58 =>
 rv Try.prog (bin .gtr 27 false v47 v57) w58 fun v59 w60 =>
 ifB v59
 (rdW Try.prog (Instr.loadAt 59 v51) w60.drew fun v61 =>
 nilK v12 fun v62 => rdP Try.prog (Instr.fieldAt 64 v62 3) fun v63 =>
 ru Try.prog (Instr.storeAt 27 v63 v47) w60.drew fun w64 =>
 Sem.run Try.prog (Instr.loadAt 59 v51) w64 = .ok v61 w64 ∧ 
 (nilK v12 fun v65 => rdP Try.prog (Instr.fieldAt 64 v65 2) fun v66 =>
 ru Try.prog (Instr.storeAt 59 v66 v61) w64 fun w67 =>
 nilK v12 fun v68 => rdP Try.prog (Instr.fieldAt 64 v68 4) fun v69 =>
 ru Try.prog (Instr.storeAt 3 v69 s14.2.2.2.1) w67 fun w70 =>
 rv Try.prog (bin .add 3 true s14.2.2.2.1 (.int .i64 1)) w70 fun v71 w72 =>
 K16 (s14.1, s14.2.1, s14.2.2.1, v71, ()) w72))
 (JoinW (S := Value × Unit) (fun J75 =>
 rv Try.prog (bin .eql 27 true v47 (.int .u64 0)) w60 fun v76 w77 =>
 ifB v76
 (rx Try.prog (bigS 127 v19) w77 fun v78 w79 =>
 rx Try.prog (bigB 127 #[]) w79 fun v80 w81 =>
 rv Try.prog (bin .neq 127 false v78 v80) w81 fun v82 w83 =>
 J75 (v82, ()) w83)
 (J75 ((.bool false), ()) w77))
 (J31_0 v19 v12 s14 K K16)))

def J31_2 (K : Kont) (v12 : Value) (s94 : Value × Value × Unit) (w95 : World) : Prop :=
 ∀ _ : Nat → Value,
 K (.tuple #[v12, (.int .i64 0)]) w95

def L31_3 (v2 : Value) (v12 : Value) (K : Kont) (a0 : Value) (s14 : Value × Value × Value × Value × Unit) (w15 : World) (K16 : Value × Value × Value × Value × Unit → World → Prop) : Prop :=
 ∀ _ : Nat → Value,
 rv Try.prog (bin .lss 3 true s14.2.2.2.1 (.int .i64 2)) w15 fun v17 w18 =>
 ifB v17
 (rx Try.prog (bigA 127) w18 fun v19 w20 =>
 LoopW (S := Value × Unit) (L31_1 s14 v2 v19 v12 K16 K) ((.int .i64 0), ()) w20)
 (JoinW (S := Value × Value × Unit) (fun J96 =>
 ifB s14.2.2.1
 (Ca Try.prog 16 #[a0] w18 fun v97 w98 =>
 rv Try.prog (bin .neq 28 true v97 (.int .i64 0)) w98 fun v99 w100 =>
 ifB v99
 (K (.tuple #[(.pointer none), v97]) w100)
 (J96 (s14.2.1, s14.1, ()) w100))
 (J96 (s14.2.1, s14.1, ()) w18))
 (J31_2 K v12))

/-- broadside/vote.Open -/
def F31 (a0 a1 : Value) (w : World) (K : Kont) : Prop :=
 Ca Try.prog 20 #[a0, a1, (.int .i64 0), (.int .i64 6)] w fun v0 w1 =>
 rv Try.prog (Instr.extract v0 0) w1 fun v2 w3 =>
 rv Try.prog (Instr.extract v0 1) w3 fun v4 w5 =>
 rv Try.prog (bin .neq 28 true v4 (.int .i64 0)) w5 fun v6 w7 =>
 ifB v6
 (K (.tuple #[(.pointer none), v4]) w7)
 (rv Try.prog (Instr.build 59 #[(1, (.int .i8 (-1)))]) w7 fun v8 w9 =>
 rv Try.prog (Instr.build 64 #[(0, a0), (1, a1), (2, v8), (4, (.int .i64 1))]) w9 fun v10 w11 =>
 rv Try.prog (Instr.box 64 v10) w11 fun v12 w13 =>
 LoopW (S := Value × Value × Value × Value × Unit) (L31_3 v2 v12 K a0) ((.pointer none), (.int .i64 0), (.bool false), (.int .i64 0), ()) w13)
theorem F31_eq (a0 a1 : Value) (w : World) (K : Kont) : vcFnJ Try.prog Try.f31 [a0, a1] w K = F31 a0 a1 w K := by kernel_rfl
theorem F31_ok : okF Try.prog Try.f31 2 = true := by kernel_rfl
theorem ca31{a0 a1 : Value} {w : World} {K : Kont} (h : F31 a0 a1 w K) : Ca Try.prog 31 #[a0, a1] w K :=
  ca_of_vcJ Try.noNum Try.func31 F31_ok (by rw [F31_eq]; exact h)



/-- (*broadside/vote.Vote).Set -/
def F32 (a0 a1 : Value) (w : World) (K : Kont) : Prop :=
 rv Try.prog (Instr.box 59 a1) w fun v0 w1 =>
 Ca Try.prog 66 #[a0] w1 fun v2 w3 =>
 ifB v2
 (K (.int .i64 1) w3)
 (rv Try.prog (Instr.loadAt 59 v0) w3 fun v4 w5 =>
 Ca Try.prog 67 #[v4] w5 fun v6 w7 =>
 rv Try.prog (Op.unary .not v6) w7 fun v8 w9 =>
 ifB v8
 (K (.int .i64 2) w9)
 (nilK a0 fun v10 => rv Try.prog (Instr.fieldAt 64 v10 4) w9 fun v11 w12 =>
 rv Try.prog (Instr.loadAt 3 v11) w12 fun v13 w14 =>
 rv Try.prog (bin .sub 3 true (.int .i64 1) v13) w14 fun v15 w16 =>
 nilK a0 fun v17 => rdP Try.prog (Instr.fieldAt 64 v17 3) fun v18 =>
 rdW Try.prog (Instr.loadAt 27 v18) w16.drew fun v19 =>
 rdP Try.prog (bin .add 27 true v19 (.int .u64 1)) fun v20 =>
 rdW Try.prog (Instr.loadAt 59 v0) w16.drew fun v21 =>
 Ca Try.prog 69 #[v20, v21] w16.drew fun v22 w23 =>
 Ca Try.prog 68 #[a0, v15, v22] w23 fun v24 w25 =>
 rv Try.prog (bin .neq 28 true v24 (.int .i64 0)) w25 fun v26 w27 =>
 ifB v26
 (K v24 w27)
 (nilK a0 fun v28 => rv Try.prog (Instr.fieldAt 64 v28 0) w27 fun v29 w30 =>
 rv Try.prog (Instr.loadAt 25 v29) w30 fun v31 w32 =>
 Ca Try.prog 16 #[v31] w32 fun v33 w34 =>
 rv Try.prog (bin .neq 28 true v33 (.int .i64 0)) w34 fun v35 w36 =>
 ifB v35
 (K v33 w36)
 (rdW Try.prog (Instr.loadAt 59 v0) w36.drew fun v37 =>
 nilK a0 fun v38 => rdP Try.prog (Instr.fieldAt 64 v38 3) fun v39 =>
 rdW Try.prog (Instr.loadAt 27 v39) w36.drew fun v40 =>
 rdP Try.prog (bin .add 27 true v40 (.int .u64 1)) fun v41 =>
 nilK a0 fun v42 => rdP Try.prog (Instr.fieldAt 64 v42 2) fun v43 =>
 ru Try.prog (Instr.storeAt 59 v43 v37) w36.drew fun w44 =>
 nilK a0 fun v45 => rdP Try.prog (Instr.fieldAt 64 v45 3) fun v46 =>
 ru Try.prog (Instr.storeAt 27 v46 v41) w44 fun w47 =>
 nilK a0 fun v48 => rdP Try.prog (Instr.fieldAt 64 v48 4) fun v49 =>
 ru Try.prog (Instr.storeAt 3 v49 v15) w47 fun w50 =>
 K (.int .i64 0) w50))))
theorem F32_eq (a0 a1 : Value) (w : World) (K : Kont) : vcFnJ Try.prog Try.f32 [a0, a1] w K = F32 a0 a1 w K := by kernel_rfl
theorem F32_ok : okF Try.prog Try.f32 2 = true := by kernel_rfl
theorem ca32{a0 a1 : Value} {w : World} {K : Kont} (h : F32 a0 a1 w K) : Ca Try.prog 32 #[a0, a1] w K :=
  ca_of_vcJ Try.noNum Try.func32 F32_ok (by rw [F32_eq]; exact h)


def J35_0 (K : Kont) (v0 : Value) (s29 : Value × Unit) (w30 : World) : Prop :=
 ∀ _ : Nat → Value,
 ifB s29.1
 (K (.bool false) w30)
 (Ca Try.prog 31 #[v0, (.int .i64 0)] w30 fun v48 w49 =>
 rv Try.prog (Instr.extract v48 0) w49 fun v50 w51 =>
 rv Try.prog (Instr.extract v48 1) w51 fun v52 w53 =>
 rv Try.prog (bin .eql 28 true v52 (.int .i64 0)) w53 fun v54 w55 =>
 ifB v54
 (Ca Try.prog 33 #[v50] w55 fun v56 w57 =>
 rv Try.prog (Instr.build 59 #[(0, (.int .u64 3)), (1, (.int .i8 1))]) w57 fun v58 w59 =>
 rv Try.prog (bin .eql 59 false v56 v58) w59 fun v60 w61 =>
 ifB v60
 (Ca Try.prog 34 #[v50] w61 fun v62 w63 =>
 rv Try.prog (bin .eql 27 true v62 (.int .u64 1)) w63 fun v64 w65 =>
 K v64 w65)
 (K (.bool false) w61))
 (K (.bool false) w55))

def J35_1 (K : Kont) (v0 : Value) (v4 : Value) (s8 : Value × Unit) (w9 : World) : Prop :=
 ∀ _ : Nat → Value,
 ifB s8.1
 (K (.bool false) w9)
 (JoinW (S := Value × Unit) (fun J31 =>
 Ca Try.prog 25 #[v0, (.int .i64 2)] w9 fun v32 w33 =>
 rv Try.prog (bin .neq 28 true v32 (.int .i64 0)) w33 fun v34 w35 =>
 ifB v34
 (J31 ((.bool true), ()) w35)
 (rv Try.prog (Instr.build 59 #[(0, (.int .u64 4))]) w35 fun v36 w37 =>
 Ca Try.prog 32 #[v4, v36] w37 fun v38 w39 =>
 rv Try.prog (bin .neq 28 true v38 (.int .i64 180)) w39 fun v40 w41 =>
 ifB v40
 (J31 ((.bool true), ()) w41)
 (rx Try.prog (xLit 23 1 [(0, (.int .u8 3))]) w41 fun v42 w43 =>
 Ca Try.prog 19 #[v0, (.int .i64 2), v42] w43 fun v44 w45 =>
 rv Try.prog (bin .neq 28 true v44 (.int .i64 0)) w45 fun v46 w47 =>
 J31 (v46, ()) w47)))
 (J35_0 K v0))

/-- broadside/broadsidelaw20.known -/
def F35 (w : World) (K : Kont) : Prop :=
 Ca Try.prog 15 #[] w fun v0 w1 =>
 Ca Try.prog 31 #[v0, (.int .i64 0)] w1 fun v2 w3 =>
 rv Try.prog (Instr.extract v2 0) w3 fun v4 w5 =>
 rv Try.prog (Instr.extract v2 1) w5 fun v6 w7 =>
 JoinW (S := Value × Unit) (fun J10 =>
 rv Try.prog (bin .neq 28 true v6 (.int .i64 0)) w7 fun v11 w12 =>
 ifB v11
 (J10 ((.bool true), ()) w12)
 (Ca Try.prog 33 #[v4] w12 fun v13 w14 =>
 rv Try.prog (Instr.build 59 #[(1, (.int .i8 (-1)))]) w14 fun v15 w16 =>
 rv Try.prog (bin .neq 59 false v13 v15) w16 fun v17 w18 =>
 ifB v17
 (J10 ((.bool true), ()) w18)
 (rv Try.prog (Instr.build 59 #[(0, (.int .u64 3)), (1, (.int .i8 1))]) w18 fun v19 w20 =>
 Ca Try.prog 32 #[v4, v19] w20 fun v21 w22 =>
 rv Try.prog (bin .neq 28 true v21 (.int .i64 0)) w22 fun v23 w24 =>
 ifB v23
 (J10 ((.bool true), ()) w24)
 (Ca Try.prog 34 #[v4] w24 fun v25 w26 =>
 rv Try.prog (bin .neq 27 true v25 (.int .u64 1)) w26 fun v27 w28 =>
 J10 (v27, ()) w28))))
 (J35_1 K v0 v4)
theorem F35_eq (w : World) (K : Kont) : vcFnJ Try.prog Try.f35 [] w K = F35  w K := by kernel_rfl
theorem F35_ok : okF Try.prog Try.f35 0 = true := by kernel_rfl
theorem ca35 {w : World} {K : Kont} (h : F35  w K) : Ca Try.prog 35 #[] w K :=
  ca_of_vcJ Try.noNum Try.func35 F35_ok (by rw [F35_eq]; exact h)


def J36_0 (K : Kont) (s4 : Value × Value × Unit) (K6 : Value × Value × Unit → World → Prop) (s11 : Value × Unit) (w12 : World) : Prop :=
 ∀ _ : Nat → Value,
 ifB s11.1
 (K (.bool false) w12)
 (rv Try.prog (bin .add 3 true s4.2.1 (.int .i64 1)) w12 fun v32 w33 =>
 K6 (s4.1, v32, ()) w33)

def L36_1 (a0 : Value) (K : Kont) (s4 : Value × Value × Unit) (w5 : World) (K6 : Value × Value × Unit → World → Prop) : Prop :=
 ∀ _ : Nat → Value,
 rn Try.prog (builtin .len #[70] 3 #[false] #[a0]) w5 fun v7 w8 =>
 rv Try.prog (bin .lss 3 false s4.2.1 v7) w8 fun v9 w10 =>
 ifB v9
 (JoinW (S := Value × Unit) (fun J13 =>
 rv Try.prog (Instr.indexAt 70 a0 s4.2.1) w10 fun v14 w15 =>
 rv Try.prog (Instr.fieldAt 132 v14 1) w15 fun v16 w17 =>
 rv Try.prog (Instr.loadAt 3 v16) w17 fun v18 w19 =>
 rv Try.prog (bin .lss 3 true v18 (.int .i64 0)) w19 fun v20 w21 =>
 ifB v20
 (J13 ((.bool true), ()) w21)
 (rv Try.prog (Instr.indexAt 70 a0 s4.2.1) w21 fun v22 w23 =>
 rv Try.prog (Instr.fieldAt 132 v22 2) w23 fun v24 w25 =>
 rv Try.prog (Instr.loadAt 23 v24) w25 fun v26 w27 =>
 rn Try.prog (builtin .len #[23] 3 #[false] #[v26]) w27 fun v28 w29 =>
 rv Try.prog (bin .gtr 3 true v28 (.int .i64 1000)) w29 fun v30 w31 =>
 J13 (v30, ()) w31))
 (J36_0 K s4 K6))
 (K (.bool true) w10)

/-- broadside/broadsidelaw20.tried -/
def F36 (a0 : Value) (w : World) (K : Kont) : Prop :=
 rn Try.prog (builtin .len #[70] 3 #[false] #[a0]) w fun v0 w1 =>
 rv Try.prog (bin .gtr 3 true v0 (.int .i64 6)) w1 fun v2 w3 =>
 ifB v2
 (K (.bool false) w3)
 (LoopW (S := Value × Value × Unit) (L36_1 a0 K) ((.bool false), (.int .i64 0), ()) w3)
theorem F36_eq (a0 : Value) (w : World) (K : Kont) : vcFnJ Try.prog Try.f36 [a0] w K = F36 a0 w K := by kernel_rfl
theorem F36_ok : okF Try.prog Try.f36 1 = true := by kernel_rfl
theorem ca36{a0 : Value} {w : World} {K : Kont} (h : F36 a0 w K) : Ca Try.prog 36 #[a0] w K :=
  ca_of_vcJ Try.noNum Try.func36 F36_ok (by rw [F36_eq]; exact h)


def J37_0 (K : Kont) (s0 : Value × Value × Unit) (K2 : Value × Value × Unit → World → Prop) (s29 : Value × Unit) (w30 : World) : Prop :=
 ∀ _ : Nat → Value,
 ifB s29.1
 (K (.bool false) w30)
 (rv Try.prog (bin .add 3 true s0.2.1 (.int .i64 1)) w30 fun v55 w56 =>
 K2 (s0.1, v55, ()) w56)

def L37_1 (a1 : Value) (a0 : Value) (K : Kont) (s0 : Value × Value × Unit) (w1 : World) (K2 : Value × Value × Unit → World → Prop) : Prop :=
 ∀ _ : Nat → Value,
 rn Try.prog (builtin .len #[70] 3 #[false] #[a1]) w1 fun v3 w4 =>
 rv Try.prog (bin .lss 3 false s0.2.1 v3) w4 fun v5 w6 =>
 ifB v5
 (rv Try.prog (Instr.indexAt 70 a1 s0.2.1) w6 fun v7 w8 =>
 rv Try.prog (Instr.fieldAt 132 v7 0) w8 fun v9 w10 =>
 rv Try.prog (Instr.loadAt 3 v9) w10 fun v11 w12 =>
 rv Try.prog (convert 3 27 v11) w12 fun v13 w14 =>
 rv Try.prog (bin .rem 27 true v13 (.int .u64 9)) w14 fun v15 w16 =>
 rv Try.prog (convert 27 3 v15) w16 fun v17 w18 =>
 Ca Try.prog 25 #[a0, v17] w18 fun v19 w20 =>
 rv Try.prog (bin .neq 28 true v19 (.int .i64 0)) w20 fun v21 w22 =>
 ifB v21
 (K (.bool false) w22)
 (Ca Try.prog 31 #[a0, (.int .i64 2)] w22 fun v23 w24 =>
 rv Try.prog (Instr.extract v23 0) w24 fun v25 w26 =>
 rv Try.prog (Instr.extract v23 1) w26 fun v27 w28 =>
 JoinW (S := Value × Unit) (fun J31 =>
 rdP Try.prog (bin .neq 28 true v27 (.int .i64 0)) fun v32 =>
 ifB v32
 (rdP Try.prog (bin .neq 28 true v27 (.int .i64 180)) fun v33 =>
 ifB v33
 (J31 ((.bool true), ()) w28.drew)
 (Ca Try.prog 30 #[a0] w28.drew fun v34 w35 =>
 rdP Try.prog (Op.unary .not v34) fun v36 =>
 ifB v36
 (J31 ((.bool true), ()) w35)
 (rdP Try.prog (Instr.indexAt 70 a1 s0.2.1) fun v37 =>
 rdP Try.prog (Instr.fieldAt 132 v37 1) fun v38 =>
 rdW Try.prog (Instr.loadAt 3 v38) w35 fun v39 =>
 rdP Try.prog (Instr.indexAt 70 a1 s0.2.1) fun v40 =>
 rdP Try.prog (Instr.fieldAt 132 v40 2) fun v41 =>
 rdW Try.prog (Instr.loadAt 23 v41) w35 fun v42 =>
 Ca Try.prog 19 #[a0, v39, v42] w35 fun v43 w44 =>
 rdP Try.prog (bin .neq 28 true v43 (.int .i64 0)) fun v45 =>
 J31 (v45, ()) w44)))
 (rdP Try.prog (Instr.indexAt 70 a1 s0.2.1) fun v46 =>
 rdP Try.prog (Instr.fieldAt 132 v46 1) fun v47 =>
 rdW Try.prog (Instr.loadAt 3 v47) w28.drew fun v48 =>
 rdP Try.prog (Instr.indexAt 70 a1 s0.2.1) fun v49 =>
 rdP Try.prog (Instr.fieldAt 132 v49 2) fun v50 =>
 rdW Try.prog (Instr.loadAt 23 v50) w28.drew fun v51 =>
 Ca Try.prog 19 #[a0, v48, v51] w28.drew fun v52 w53 =>
 rdP Try.prog (bin .neq 28 true v52 (.int .i64 0)) fun v54 =>
 J31 (v54, ()) w53))
 (J37_0 K s0 K2)))
 (K (.bool true) w6)

/-- broadside/broadsidelaw20.broken -/
def F37 (a0 a1 : Value) (w : World) (K : Kont) : Prop :=
 LoopW (S := Value × Value × Unit) (L37_1 a1 a0 K) ((.bool false), (.int .i64 0), ()) w
theorem F37_eq (a0 a1 : Value) (w : World) (K : Kont) : vcFnJ Try.prog Try.f37 [a0, a1] w K = F37 a0 a1 w K := by kernel_rfl
theorem F37_ok : okF Try.prog Try.f37 2 = true := by kernel_rfl
theorem ca37{a0 a1 : Value} {w : World} {K : Kont} (h : F37 a0 a1 w K) : Ca Try.prog 37 #[a0, a1] w K :=
  ca_of_vcJ Try.noNum Try.func37 F37_ok (by rw [F37_eq]; exact h)



/-- broadside/broadsidelaw20.VoteNone -/
def F7 (a0 a1 : Value) (w : World) (K : Kont) : Prop :=
 rv Try.prog (Instr.box 59 a1) w fun v0 w1 =>
 Ca Try.prog 31 #[(.pointer none), a0] w1 fun v2 w3 =>
 rv Try.prog (Instr.extract v2 0) w3 fun v4 w5 =>
 rv Try.prog (Instr.extract v2 1) w5 fun v6 w7 =>
 Ca Try.prog 15 #[] w7 fun v8 w9 =>
 Ca Try.prog 31 #[v8, a0] w9 fun v10 w11 =>
 rv Try.prog (Instr.extract v10 0) w11 fun v12 w13 =>
 rv Try.prog (Instr.extract v10 1) w13 fun v14 w15 =>
 rv Try.prog (Instr.alloc 64 true (.tuple #[])) w15 fun v16 w17 =>
 rv Try.prog (bin .eql 28 true v6 (.int .i64 1)) w17 fun v18 w19 =>
 ifB v18
 (rv Try.prog (bin .eql 28 true v14 (.int .i64 0)) w19 fun v20 w21 =>
 ifB v20
 (rv Try.prog (bin .eql 28 true v14 (.int .i64 0)) w21 fun v22 w23 =>
 rv Try.prog (bin .geq 3 true a0 (.int .i64 0)) w23 fun v24 w25 =>
 ifB v24
 (rv Try.prog (bin .lss 3 true a0 (.int .i64 5)) w25 fun v26 w27 =>
 rv Try.prog (bin .eql 4 false v22 v26) w27 fun v28 w29 =>
 ifB v28
 (rv Try.prog (Instr.loadAt 59 v0) w29 fun v30 w31 =>
 Ca Try.prog 32 #[(.pointer none), v30] w31 fun v32 w33 =>
 rv Try.prog (bin .eql 28 true v32 (.int .i64 1)) w33 fun v34 w35 =>
 ifB v34
 (rv Try.prog (Instr.loadAt 59 v0) w35 fun v36 w37 =>
 Ca Try.prog 32 #[v16, v36] w37 fun v38 w39 =>
 rv Try.prog (bin .eql 28 true v38 (.int .i64 1)) w39 fun v40 w41 =>
 ifB v40
 (Ca Try.prog 33 #[(.pointer none)] w41 fun v42 w43 =>
 rv Try.prog (Instr.build 59 #[]) w43 fun v44 w45 =>
 rv Try.prog (bin .eql 59 false v42 v44) w45 fun v46 w47 =>
 ifB v46
 (Ca Try.prog 33 #[v16] w47 fun v48 w49 =>
 rv Try.prog (Instr.build 59 #[]) w49 fun v50 w51 =>
 rv Try.prog (bin .eql 59 false v48 v50) w51 fun v52 w53 =>
 ifB v52
 (Ca Try.prog 34 #[(.pointer none)] w53 fun v54 w55 =>
 rv Try.prog (bin .eql 27 true v54 (.int .u64 0)) w55 fun v56 w57 =>
 ifB v56
 (Ca Try.prog 34 #[v16] w57 fun v58 w59 =>
 rv Try.prog (bin .eql 27 true v58 (.int .u64 0)) w59 fun v60 w61 =>
 ifB v60
 (Ca Try.prog 35 #[] w61 fun v62 w63 =>
 K v62 w63)
 (K (.bool false) w61))
 (K (.bool false) w57))
 (K (.bool false) w53))
 (K (.bool false) w47))
 (K (.bool false) w41))
 (K (.bool false) w35))
 (K (.bool false) w29))
 (rv Try.prog (bin .eql 4 false v22 (.bool false)) w25 fun v64 w65 =>
 ifB v64
 (rv Try.prog (Instr.loadAt 59 v0) w65 fun v66 w67 =>
 Ca Try.prog 32 #[(.pointer none), v66] w67 fun v68 w69 =>
 rv Try.prog (bin .eql 28 true v68 (.int .i64 1)) w69 fun v70 w71 =>
 ifB v70
 (rv Try.prog (Instr.loadAt 59 v0) w71 fun v72 w73 =>
 Ca Try.prog 32 #[v16, v72] w73 fun v74 w75 =>
 rv Try.prog (bin .eql 28 true v74 (.int .i64 1)) w75 fun v76 w77 =>
 ifB v76
 (Ca Try.prog 33 #[(.pointer none)] w77 fun v78 w79 =>
 rv Try.prog (Instr.build 59 #[]) w79 fun v80 w81 =>
 rv Try.prog (bin .eql 59 false v78 v80) w81 fun v82 w83 =>
 ifB v82
 (Ca Try.prog 33 #[v16] w83 fun v84 w85 =>
 rv Try.prog (Instr.build 59 #[]) w85 fun v86 w87 =>
 rv Try.prog (bin .eql 59 false v84 v86) w87 fun v88 w89 =>
 ifB v88
 (Ca Try.prog 34 #[(.pointer none)] w89 fun v90 w91 =>
 rv Try.prog (bin .eql 27 true v90 (.int .u64 0)) w91 fun v92 w93 =>
 ifB v92
 (Ca Try.prog 34 #[v16] w93 fun v94 w95 =>
 rv Try.prog (bin .eql 27 true v94 (.int .u64 0)) w95 fun v96 w97 =>
 ifB v96
 (Ca Try.prog 35 #[] w97 fun v98 w99 =>
 K v98 w99)
 (K (.bool false) w97))
 (K (.bool false) w93))
 (K (.bool false) w89))
 (K (.bool false) w83))
 (K (.bool false) w77))
 (K (.bool false) w71))
 (K (.bool false) w65)))
 (rv Try.prog (bin .eql 28 true v14 (.int .i64 2)) w21 fun v100 w101 =>
 ifB v100
 (rv Try.prog (bin .eql 28 true v14 (.int .i64 0)) w101 fun v102 w103 =>
 rv Try.prog (bin .geq 3 true a0 (.int .i64 0)) w103 fun v104 w105 =>
 ifB v104
 (rv Try.prog (bin .lss 3 true a0 (.int .i64 5)) w105 fun v106 w107 =>
 rv Try.prog (bin .eql 4 false v102 v106) w107 fun v108 w109 =>
 ifB v108
 (rv Try.prog (Instr.loadAt 59 v0) w109 fun v110 w111 =>
 Ca Try.prog 32 #[(.pointer none), v110] w111 fun v112 w113 =>
 rv Try.prog (bin .eql 28 true v112 (.int .i64 1)) w113 fun v114 w115 =>
 ifB v114
 (rv Try.prog (Instr.loadAt 59 v0) w115 fun v116 w117 =>
 Ca Try.prog 32 #[v16, v116] w117 fun v118 w119 =>
 rv Try.prog (bin .eql 28 true v118 (.int .i64 1)) w119 fun v120 w121 =>
 ifB v120
 (Ca Try.prog 33 #[(.pointer none)] w121 fun v122 w123 =>
 rv Try.prog (Instr.build 59 #[]) w123 fun v124 w125 =>
 rv Try.prog (bin .eql 59 false v122 v124) w125 fun v126 w127 =>
 ifB v126
 (Ca Try.prog 33 #[v16] w127 fun v128 w129 =>
 rv Try.prog (Instr.build 59 #[]) w129 fun v130 w131 =>
 rv Try.prog (bin .eql 59 false v128 v130) w131 fun v132 w133 =>
 ifB v132
 (Ca Try.prog 34 #[(.pointer none)] w133 fun v134 w135 =>
 rv Try.prog (bin .eql 27 true v134 (.int .u64 0)) w135 fun v136 w137 =>
 ifB v136
 (Ca Try.prog 34 #[v16] w137 fun v138 w139 =>
 rv Try.prog (bin .eql 27 true v138 (.int .u64 0)) w139 fun v140 w141 =>
 ifB v140
 (Ca Try.prog 35 #[] w141 fun v142 w143 =>
 K v142 w143)
 (K (.bool false) w141))
 (K (.bool false) w137))
 (K (.bool false) w133))
 (K (.bool false) w127))
 (K (.bool false) w121))
 (K (.bool false) w115))
 (K (.bool false) w109))
 (rv Try.prog (bin .eql 4 false v102 (.bool false)) w105 fun v144 w145 =>
 ifB v144
 (rv Try.prog (Instr.loadAt 59 v0) w145 fun v146 w147 =>
 Ca Try.prog 32 #[(.pointer none), v146] w147 fun v148 w149 =>
 rv Try.prog (bin .eql 28 true v148 (.int .i64 1)) w149 fun v150 w151 =>
 ifB v150
 (rv Try.prog (Instr.loadAt 59 v0) w151 fun v152 w153 =>
 Ca Try.prog 32 #[v16, v152] w153 fun v154 w155 =>
 rv Try.prog (bin .eql 28 true v154 (.int .i64 1)) w155 fun v156 w157 =>
 ifB v156
 (Ca Try.prog 33 #[(.pointer none)] w157 fun v158 w159 =>
 rv Try.prog (Instr.build 59 #[]) w159 fun v160 w161 =>
 rv Try.prog (bin .eql 59 false v158 v160) w161 fun v162 w163 =>
 ifB v162
 (Ca Try.prog 33 #[v16] w163 fun v164 w165 =>
 rv Try.prog (Instr.build 59 #[]) w165 fun v166 w167 =>
 rv Try.prog (bin .eql 59 false v164 v166) w167 fun v168 w169 =>
 ifB v168
 (Ca Try.prog 34 #[(.pointer none)] w169 fun v170 w171 =>
 rv Try.prog (bin .eql 27 true v170 (.int .u64 0)) w171 fun v172 w173 =>
 ifB v172
 (Ca Try.prog 34 #[v16] w173 fun v174 w175 =>
 rv Try.prog (bin .eql 27 true v174 (.int .u64 0)) w175 fun v176 w177 =>
 ifB v176
 (Ca Try.prog 35 #[] w177 fun v178 w179 =>
 K v178 w179)
 (K (.bool false) w177))
 (K (.bool false) w173))
 (K (.bool false) w169))
 (K (.bool false) w163))
 (K (.bool false) w157))
 (K (.bool false) w151))
 (K (.bool false) w145)))
 (K (.bool false) w101)))
 (K (.bool false) w19)
theorem F7_eq (a0 a1 : Value) (w : World) (K : Kont) : vcFnJ Try.prog Try.f7 [a0, a1] w K = F7 a0 a1 w K := by kernel_rfl
theorem F7_ok : okF Try.prog Try.f7 2 = true := by kernel_rfl
theorem ca7{a0 a1 : Value} {w : World} {K : Kont} (h : F7 a0 a1 w K) : Ca Try.prog 7 #[a0, a1] w K :=
  ca_of_vcJ Try.noNum Try.func7 F7_ok (by rw [F7_eq]; exact h)



/-- broadside/broadsideref20.May -/
def F38 (a0 : Value) (w : World) (K : Kont) : Prop :=
 rv Try.prog (Instr.box 59 a0) w fun v0 w1 =>
 rv Try.prog (Instr.fieldAt 59 v0 1) w1 fun v2 w3 =>
 rv Try.prog (Instr.loadAt 57 v2) w3 fun v4 w5 =>
 rv Try.prog (bin .geq 57 true v4 (.int .i8 (-1))) w5 fun v6 w7 =>
 ifB v6
 (rv Try.prog (Instr.fieldAt 59 v0 1) w7 fun v8 w9 =>
 rv Try.prog (Instr.loadAt 57 v8) w9 fun v10 w11 =>
 rv Try.prog (bin .leq 57 true v10 (.int .i8 6)) w11 fun v12 w13 =>
 ifB v12
 (rv Try.prog (Instr.fieldAt 59 v0 2) w13 fun v14 w15 =>
 rv Try.prog (Instr.loadAt 5 v14) w15 fun v16 w17 =>
 rv Try.prog (bin .leq 5 true v16 (.int .u8 1)) w17 fun v18 w19 =>
 K v18 w19)
 (K (.bool false) w13))
 (K (.bool false) w7)
theorem F38_eq (a0 : Value) (w : World) (K : Kont) : vcFnJ Try.prog Try.f38 [a0] w K = F38 a0 w K := by kernel_rfl
theorem F38_ok : okF Try.prog Try.f38 1 = true := by kernel_rfl
theorem ca38{a0 : Value} {w : World} {K : Kont} (h : F38 a0 w K) : Ca Try.prog 38 #[a0] w K :=
  ca_of_vcJ Try.noNum Try.func38 F38_ok (by rw [F38_eq]; exact h)


def J8_0 (K : Kont) (v97 : Value) (v18 : Value) (v23 : Value) (J35 : Value × Value × Value × Unit → World → Prop) (s26 : Value × Value × Value × Value × Unit) (s101 : Value × Unit) (w102 : World) : Prop :=
 ∀ _ : Nat → Value,
 ifB s101.1
 (K (.bool false) w102)
 (Ca Try.prog 33 #[v97] w102 fun v113 w114 =>
 ru Try.prog (Instr.storeAt 59 v18 v113) w114 fun w115 =>
 rv Try.prog (Instr.loadAt 59 v18) w115 fun v116 w117 =>
 ru Try.prog (Instr.storeAt 59 v23 v116) w117 fun w118 =>
 J35 ((.bool false), v97, s26.1, ()) w118)

def J8_1 (K : Kont) (v6 : Value) (v18 : Value) (v23 : Value) (J35 : Value × Value × Value × Unit → World → Prop) (s26 : Value × Value × Value × Value × Unit) (s72 : Value × Unit) (w73 : World) : Prop :=
 ∀ _ : Nat → Value,
 ifB s72.1
 (K (.bool false) w73)
 (Ca Try.prog 31 #[v6, (.int .i64 2)] w73 fun v95 w96 =>
 rv Try.prog (Instr.extract v95 0) w96 fun v97 w98 =>
 rv Try.prog (Instr.extract v95 1) w98 fun v99 w100 =>
 JoinW (S := Value × Unit) (fun J103 =>
 rdP Try.prog (bin .neq 28 true v99 (.int .i64 0)) fun v104 =>
 ifB v104
 (J103 ((.bool true), ()) w100.drew)
 (rdW Try.prog (Instr.loadAt 59 v18) w100.drew fun v105 =>
 Ca Try.prog 33 #[v97] w100.drew fun v106 w107 =>
 Sem.run Try.prog (Instr.loadAt 59 v18) w107 = .ok v105 w107 ∧ 
 (rdP Try.prog (bin .neq 59 false v106 v105) fun v108 =>
 ifB v108
 (rdW Try.prog (Instr.loadAt 59 v23) w107 fun v109 =>
 Ca Try.prog 33 #[v97] w107 fun v110 w111 =>
 Sem.run Try.prog (Instr.loadAt 59 v23) w111 = .ok v109 w111 ∧ 
 (rdP Try.prog (bin .neq 59 false v110 v109) fun v112 =>
 J103 (v112, ()) w111))
 (J103 ((.bool false), ()) w107))))
 (J8_0 K v97 v18 v23 J35 s26))

def J8_2 (K : Kont) (J35 : Value × Value × Value × Unit → World → Prop) (s26 : Value × Value × Value × Value × Unit) (s139 : Value × Unit) (w140 : World) : Prop :=
 ∀ _ : Nat → Value,
 ifB s139.1
 (K (.bool false) w140)
 (J35 (s26.2.2.1, s26.2.1, s26.1, ()) w140)

def J8_3 (K : Kont) (v40 : Value) (v18 : Value) (v23 : Value) (J35 : Value × Value × Value × Unit → World → Prop) (s26 : Value × Value × Value × Value × Unit) (s159 : Value × Unit) (w160 : World) : Prop :=
 ∀ _ : Nat → Value,
 ifB s159.1
 (K (.bool false) w160)
 (rv Try.prog (Instr.fieldAt 72 v40 2) w160 fun v168 w169 =>
 rv Try.prog (Instr.loadAt 59 v168) w169 fun v170 w171 =>
 ru Try.prog (Instr.storeAt 59 v18 v170) w171 fun w172 =>
 rv Try.prog (Instr.loadAt 59 v18) w172 fun v173 w174 =>
 ru Try.prog (Instr.storeAt 59 v23 v173) w174 fun w175 =>
 J35 (s26.2.2.1, s26.2.1, s26.1, ()) w175)

def J8_4 (v40 : Value) (v23 : Value) (J35 : Value × Value × Value × Unit → World → Prop) (s26 : Value × Value × Value × Value × Unit) (v129 : Value) (K : Kont) (v18 : Value) (s147 : Value × Unit) (w148 : World) : Prop :=
 ∀ _ : Nat → Value,
 ifB s147.1
 (rv Try.prog (Instr.fieldAt 72 v40 2) w148 fun v154 w155 =>
 rv Try.prog (Instr.loadAt 59 v154) w155 fun v156 w157 =>
 ru Try.prog (Instr.storeAt 59 v23 v156) w157 fun w158 =>
 J35 ((.bool true), s26.2.1, s26.1, ()) w158)
 (JoinW (S := Value × Unit) (fun J161 =>
 rdP Try.prog (bin .neq 28 true v129 (.int .i64 0)) fun v162 =>
 ifB v162
 (J161 ((.bool true), ()) w148.drew)
 (rdP Try.prog (Instr.fieldAt 72 v40 2) fun v163 =>
 rdW Try.prog (Instr.loadAt 59 v163) w148.drew fun v164 =>
 Ca Try.prog 33 #[s26.2.1] w148.drew fun v165 w166 =>
 Sem.run Try.prog (Instr.loadAt 59 v163) w166 = .ok v164 w166 ∧ 
 (rdP Try.prog (bin .neq 59 false v165 v164) fun v167 =>
 J161 (v167, ()) w166)))
 (J8_3 K v40 v18 v23 J35 s26))

def J8_5 (v40 : Value) (v6 : Value) (K : Kont) (v18 : Value) (v23 : Value) (J35 : Value × Value × Value × Unit → World → Prop) (s26 : Value × Value × Value × Value × Unit) (s43 : Value × Unit) (w44 : World) : Prop :=
 ∀ _ : Nat → Value,
 ifB s43.1
 (JoinW (S := Value × Unit) (fun J74 =>
 rv Try.prog (Instr.fieldAt 72 v40 1) w44 fun v75 w76 =>
 rv Try.prog (Instr.loadAt 3 v75) w76 fun v77 w78 =>
 rv Try.prog (Instr.fieldAt 72 v40 3) w78 fun v79 w80 =>
 rv Try.prog (Instr.loadAt 23 v79) w80 fun v81 w82 =>
 Ca Try.prog 19 #[v6, v77, v81] w82 fun v83 w84 =>
 rv Try.prog (bin .neq 28 true v83 (.int .i64 0)) w84 fun v85 w86 =>
 ifB v85
 (J74 ((.bool true), ()) w86)
 (rv Try.prog (Instr.fieldAt 72 v40 4) w86 fun v87 w88 =>
 rv Try.prog (Instr.loadAt 70 v87) w88 fun v89 w90 =>
 Ca Try.prog 37 #[v6, v89] w90 fun v91 w92 =>
 rv Try.prog (Op.unary .not v91) w92 fun v93 w94 =>
 J74 (v93, ()) w94))
 (J8_1 K v6 v18 v23 J35 s26))
 (ifB s26.2.2.1
 (J35 (s26.2.2.1, s26.2.1, s26.1, ()) w44)
 (rv Try.prog (Instr.fieldAt 72 v40 0) w44 fun v119 w120 =>
 rv Try.prog (Instr.loadAt 3 v119) w120 fun v121 w122 =>
 rv Try.prog (bin .eql 3 true v121 (.int .i64 0)) w122 fun v123 w124 =>
 ifB v123
 (rv Try.prog (Instr.fieldAt 72 v40 2) w124 fun v125 w126 =>
 rv Try.prog (Instr.loadAt 59 v125) w126 fun v127 w128 =>
 Ca Try.prog 32 #[s26.2.1, v127] w128 fun v129 w130 =>
 rv Try.prog (Instr.fieldAt 72 v40 2) w130 fun v131 w132 =>
 rv Try.prog (Instr.loadAt 59 v131) w132 fun v133 w134 =>
 Ca Try.prog 38 #[v133] w134 fun v135 w136 =>
 rv Try.prog (Op.unary .not v135) w136 fun v137 w138 =>
 ifB v137
 (JoinW (S := Value × Unit) (fun J141 =>
 rdP Try.prog (bin .neq 28 true v129 (.int .i64 2)) fun v142 =>
 ifB v142
 (J141 ((.bool true), ()) w138.drew)
 (rdW Try.prog (Instr.loadAt 59 v18) w138.drew fun v143 =>
 Ca Try.prog 33 #[s26.2.1] w138.drew fun v144 w145 =>
 Sem.run Try.prog (Instr.loadAt 59 v18) w145 = .ok v143 w145 ∧ 
 (rdP Try.prog (bin .neq 59 false v144 v143) fun v146 =>
 J141 (v146, ()) w145)))
 (J8_2 K J35 s26))
 (JoinW (S := Value × Unit) (fun J149 =>
 rv Try.prog (bin .eql 28 true v129 (.int .i64 180)) w138 fun v150 w151 =>
 ifB v150
 (Ca Try.prog 30 #[v6] w151 fun v152 w153 =>
 J149 (v152, ()) w153)
 (J149 ((.bool false), ()) w151))
 (J8_4 v40 v23 J35 s26 v129 K v18)))
 (rv Try.prog (Instr.fieldAt 72 v40 0) w124 fun v176 w177 =>
 rv Try.prog (Instr.loadAt 3 v176) w177 fun v178 w179 =>
 rv Try.prog (bin .eql 3 true v178 (.int .i64 1)) w179 fun v180 w181 =>
 ifB v180
 (rv Try.prog (Instr.fieldAt 72 v40 1) w181 fun v182 w183 =>
 rv Try.prog (Instr.loadAt 3 v182) w183 fun v184 w185 =>
 rv Try.prog (convert 3 27 v184) w185 fun v186 w187 =>
 rv Try.prog (bin .rem 27 true v186 (.int .u64 20)) w187 fun v188 w189 =>
 rv Try.prog (convert 27 3 v188) w189 fun v190 w191 =>
 Ca Try.prog 25 #[v6, v190] w191 fun v192 w193 =>
 rv Try.prog (bin .neq 28 true v192 (.int .i64 0)) w193 fun v194 w195 =>
 ifB v194
 (K (.bool false) w195)
 (J35 (s26.2.2.1, s26.2.1, s26.1, ()) w195))
 (J35 (s26.2.2.1, s26.2.1, s26.1, ()) w181))))

def J8_6 (s26 : Value × Value × Value × Value × Unit) (K28 : Value × Value × Value × Value × Unit → World → Prop) (s33 : Value × Value × Value × Unit) (w34 : World) : Prop :=
 ∀ _ : Nat → Value,
 rv Try.prog (bin .add 3 true s26.2.2.2.1 (.int .i64 1)) w34 fun v196 w197 =>
 K28 (s33.2.2.1, s33.2.1, s33.1, v196, ()) w197

def L8_7 (a0 : Value) (v6 : Value) (K : Kont) (v18 : Value) (v23 : Value) (s26 : Value × Value × Value × Value × Unit) (w27 : World) (K28 : Value × Value × Value × Value × Unit → World → Prop) : Prop :=
 ∀ _ : Nat → Value,
 rn Try.prog (builtin .len #[69] 3 #[false] #[a0]) w27 fun v29 w30 =>
 rv Try.prog (bin .lss 3 false s26.2.2.2.1 v29) w30 fun v31 w32 =>
 ifB v31
 (JoinW (S := Value × Value × Value × Unit) (fun J35 =>
 rv Try.prog (Instr.indexAt 69 a0 s26.2.2.2.1) w32 fun v36 w37 =>
 rv Try.prog (Instr.loadAt 72 v36) w37 fun v38 w39 =>
 rv Try.prog (Instr.alloc 72 true (.tuple #[])) w39 fun v40 w41 =>
 ru Try.prog (Instr.storeAt 72 v40 v38) w41 fun w42 =>
 JoinW (S := Value × Unit) (fun J45 =>
 rv Try.prog (Instr.fieldAt 72 v40 0) w42 fun v46 w47 =>
 rv Try.prog (Instr.loadAt 3 v46) w47 fun v48 w49 =>
 rv Try.prog (bin .eql 3 true v48 (.int .i64 2)) w49 fun v50 w51 =>
 ifB v50
 (rv Try.prog (Instr.fieldAt 72 v40 1) w51 fun v52 w53 =>
 rv Try.prog (Instr.loadAt 3 v52) w53 fun v54 w55 =>
 rv Try.prog (bin .geq 3 true v54 (.int .i64 0)) w55 fun v56 w57 =>
 ifB v56
 (rv Try.prog (Instr.fieldAt 72 v40 3) w57 fun v58 w59 =>
 rv Try.prog (Instr.loadAt 23 v58) w59 fun v60 w61 =>
 rn Try.prog (builtin .len #[23] 3 #[false] #[v60]) w61 fun v62 w63 =>
 rv Try.prog (bin .leq 3 true v62 (.int .i64 1000)) w63 fun v64 w65 =>
 ifB v64
 (rv Try.prog (Instr.fieldAt 72 v40 4) w65 fun v66 w67 =>
 rv Try.prog (Instr.loadAt 70 v66) w67 fun v68 w69 =>
 Ca Try.prog 36 #[v68] w69 fun v70 w71 =>
 J45 (v70, ()) w71)
 (J45 ((.bool false), ()) w65))
 (J45 ((.bool false), ()) w57))
 (J45 ((.bool false), ()) w51))
 (J8_5 v40 v6 K v18 v23 J35 s26))
 (J8_6 s26 K28))
 (Ca Try.prog 35 #[] w32 fun v198 w199 =>
 K v198 w199)

/-- broadside/broadsidelaw20.VotePlays -/
def F8 (a0 : Value) (w : World) (K : Kont) : Prop :=
 rn Try.prog (builtin .len #[69] 3 #[false] #[a0]) w fun v0 w1 =>
 rv Try.prog (bin .gtr 3 true v0 (.int .i64 100)) w1 fun v2 w3 =>
 ifB v2
 (Ca Try.prog 35 #[] w3 fun v4 w5 =>
 K v4 w5)
 (Ca Try.prog 15 #[] w3 fun v6 w7 =>
 Ca Try.prog 31 #[v6, (.int .i64 2)] w7 fun v8 w9 =>
 rv Try.prog (Instr.extract v8 0) w9 fun v10 w11 =>
 rv Try.prog (Instr.extract v8 1) w11 fun v12 w13 =>
 rv Try.prog (bin .neq 28 true v12 (.int .i64 0)) w13 fun v14 w15 =>
 ifB v14
 (K (.bool false) w15)
 (rv Try.prog (Instr.build 59 #[(1, (.int .i8 (-1)))]) w15 fun v16 w17 =>
 rv Try.prog (Instr.alloc 59 true (.tuple #[])) w17 fun v18 w19 =>
 ru Try.prog (Instr.storeAt 59 v18 v16) w19 fun w20 =>
 rv Try.prog (Instr.loadAt 59 v18) w20 fun v21 w22 =>
 rv Try.prog (Instr.alloc 59 true (.tuple #[])) w22 fun v23 w24 =>
 ru Try.prog (Instr.storeAt 59 v23 v21) w24 fun w25 =>
 LoopW (S := Value × Value × Value × Value × Unit) (L8_7 a0 v6 K v18 v23) ((.bool false), v10, (.bool false), (.int .i64 0), ()) w25))
theorem F8_eq (a0 : Value) (w : World) (K : Kont) : vcFnJ Try.prog Try.f8 [a0] w K = F8 a0 w K := by kernel_rfl
theorem F8_ok : okF Try.prog Try.f8 1 = true := by kernel_rfl
theorem ca8{a0 : Value} {w : World} {K : Kont} (h : F8 a0 w K) : Ca Try.prog 8 #[a0] w K :=
  ca_of_vcJ Try.noNum Try.func8 F8_ok (by rw [F8_eq]; exact h)


end Go.Proofs
