/-
  Formulas of the program's functions, printed by a program of mine: each is what the computed precondition of the function's body comes to.
  Conditions: none.
-/
import Derived.Test.YtaagfdkamogkoaaGreatG0
import Derived.Test.YtaagfdkamogkoaaGreatVcFn
set_option linter.unusedSimpArgs false
set_option maxRecDepth 100000
set_option linter.unusedVariables false
namespace Go.Proofs
open Go Go.Vc



/-- broadside/wire.Text -/
def F14 (a0 a1 : Value) (w : World) (K : Kont) : Prop :=
 rn Tryz.prog (builtin .len #[23] 3 #[false] #[a1]) w fun v0 w1 =>
 rv Tryz.prog (convert 3 22 v0) w1 fun v2 w3 =>
 Ca Tryz.prog 15 #[a0, v2] w3 fun v4 w5 =>
 rx Tryz.prog (xAppend #[23, 23] 23 [v4, a1]) w5 fun v6 w7 =>
 K v6 w7
theorem F14_eq (a0 a1 : Value) (w : World) (K : Kont) : vcFnJ Tryz.prog Tryz.f14 [a0, a1] w K = F14 a0 a1 w K := by kernel_rfl
theorem F14_ok : okF Tryz.prog Tryz.f14 2 = true := by kernel_rfl
theorem ca14{a0 a1 : Value} {w : World} {K : Kont} (h : F14 a0 a1 w K) : Ca Tryz.prog 14 #[a0, a1] w K :=
  ca_of_vcJ Tryz.noNum Tryz.func14 F14_ok (by rw [F14_eq]; exact h)


def L15_0 (K : Kont) (s0 : Value × Value × Unit) (w1 : World) (K2 : Value × Value × Unit → World → Prop) : Prop :=
 ∀ _ : Nat → Value,
 rv Tryz.prog (bin .geq 22 true s0.1 (.int .u64 128)) w1 fun v3 w4 =>
 ifB v3
 (rv Tryz.prog (convert 22 5 s0.1) w4 fun v5 w6 =>
 rv Tryz.prog (bin .or 5 true v5 (.int .u8 128)) w6 fun v7 w8 =>
 rx Tryz.prog (xLit 23 1 [(0, v7)]) w8 fun v9 w10 =>
 rx Tryz.prog (xAppend #[23, 23] 23 [s0.2.1, v9]) w10 fun v11 w12 =>
 rv Tryz.prog (bin .shr 22 true s0.1 (.int .u64 7)) w12 fun v13 w14 =>
 K2 (v13, v11, ()) w14)
 (rv Tryz.prog (convert 22 5 s0.1) w4 fun v15 w16 =>
 rx Tryz.prog (xLit 23 1 [(0, v15)]) w16 fun v17 w18 =>
 rx Tryz.prog (xAppend #[23, 23] 23 [s0.2.1, v17]) w18 fun v19 w20 =>
 K v19 w20)

/-- broadside/wire.Nat -/
def F15 (a0 a1 : Value) (w : World) (K : Kont) : Prop :=
 LoopW (S := Value × Value × Unit) (L15_0 K) (a1, a0, ()) w
theorem F15_eq (a0 a1 : Value) (w : World) (K : Kont) : vcFnJ Tryz.prog Tryz.f15 [a0, a1] w K = F15 a0 a1 w K := by kernel_rfl
theorem F15_ok : okF Tryz.prog Tryz.f15 2 = true := by kernel_rfl
theorem ca15{a0 a1 : Value} {w : World} {K : Kont} (h : F15 a0 a1 w K) : Ca Tryz.prog 15 #[a0, a1] w K :=
  ca_of_vcJ Tryz.noNum Tryz.func15 F15_ok (by rw [F15_eq]; exact h)



/-- broadside/wire.NewReader -/
def F16 (a0 : Value) (w : World) (K : Kont) : Prop :=
 rv Tryz.prog (Instr.build 61 #[(0, a0)]) w fun v0 w1 =>
 rv Tryz.prog (Instr.box 61 v0) w1 fun v2 w3 =>
 K v2 w3
theorem F16_eq (a0 : Value) (w : World) (K : Kont) : vcFnJ Tryz.prog Tryz.f16 [a0] w K = F16 a0 w K := by kernel_rfl
theorem F16_ok : okF Tryz.prog Tryz.f16 1 = true := by kernel_rfl
theorem ca16{a0 : Value} {w : World} {K : Kont} (h : F16 a0 w K) : Ca Tryz.prog 16 #[a0] w K :=
  ca_of_vcJ Tryz.noNum Tryz.func16 F16_ok (by rw [F16_eq]; exact h)



/-- (*broadside/wire.Reader).Nat -/
def F17 (a0 : Value) (w : World) (K : Kont) : Prop :=
 Ca Tryz.prog 28 #[a0, (.int .u64 18446744073709551615)] w fun v0 w1 =>
 K v0 w1
theorem F17_eq (a0 : Value) (w : World) (K : Kont) : vcFnJ Tryz.prog Tryz.f17 [a0] w K = F17 a0 w K := by kernel_rfl
theorem F17_ok : okF Tryz.prog Tryz.f17 1 = true := by kernel_rfl
theorem ca17{a0 : Value} {w : World} {K : Kont} (h : F17 a0 w K) : Ca Tryz.prog 17 #[a0] w K :=
  ca_of_vcJ Tryz.noNum Tryz.func17 F17_ok (by rw [F17_eq]; exact h)


def J18_0 (a0 : Value) (K : Kont) (v4 : Value) (v6 : Value) (s10 : Value × Unit) (w11 : World) : Prop :=
 ∀ _ : Nat → Value,
 rv Tryz.prog (bin .neq 27 true s10.1 (.int .i64 0)) w11 fun v34 w35 =>
 ifB v34
 (nilK a0 fun v36 => rv Tryz.prog (Instr.fieldAt 61 v36 2) w35 fun v37 w38 =>
 ru Tryz.prog (Instr.storeAt 27 v37 s10.1) w38 fun w39 =>
 K (.slice none 0 0) w39)
 (rv Tryz.prog (convert 22 3 v4) w35 fun v40 w41 =>
 rv Tryz.prog (bin .add 3 false v6 v40) w41 fun v42 w43 =>
 nilK a0 fun v44 => rv Tryz.prog (Instr.fieldAt 61 v44 1) w43 fun v45 w46 =>
 ru Tryz.prog (Instr.storeAt 3 v45 v42) w46 fun w47 =>
 nilK a0 fun v48 => rdP Tryz.prog (Instr.fieldAt 61 v48 0) fun v49 =>
 rdW Tryz.prog (Instr.loadAt 23 v49) w47.drew fun v50 =>
 nilK a0 fun v51 => rdP Tryz.prog (Instr.fieldAt 61 v51 1) fun v52 =>
 rdW Tryz.prog (Instr.loadAt 3 v52) w47.drew fun v53 =>
 rdP Tryz.prog (Instr.sliceAt 23 v50 (some v6) (some v53) none) fun v54 =>
 rx Tryz.prog (xLit 23 0 []) w47.drew fun v55 w56 =>
 Sem.run Tryz.prog (Instr.loadAt 3 v52) w56 = .ok v53 w56 ∧ Sem.run Tryz.prog (Instr.loadAt 23 v49) w56 = .ok v50 w56 ∧ 
 (rx Tryz.prog (xAppend #[23, 23] 23 [v55, v54]) w56 fun v57 w58 =>
 K v57 w58))

/-- (*broadside/wire.Reader).Text -/
def F18 (a0 a1 : Value) (w : World) (K : Kont) : Prop :=
 Ca Tryz.prog 29 #[a0] w fun v0 w1 =>
 ifB v0
 (K (.slice none 0 0) w1)
 (Ca Tryz.prog 30 #[a0] w1 fun v2 w3 =>
 rv Tryz.prog (Instr.extract v2 0) w3 fun v4 w5 =>
 rv Tryz.prog (Instr.extract v2 1) w5 fun v6 w7 =>
 rv Tryz.prog (Instr.extract v2 2) w7 fun v8 w9 =>
 JoinW (S := Value × Unit) (fun J12 =>
 rv Tryz.prog (bin .neq 27 true v8 (.int .i64 0)) w9 fun v13 w14 =>
 ifB v13
 (J12 (v8, ()) w14)
 (rn Tryz.prog (builtin .max #[3, 3] 3 #[false, true] #[a1, (.int .i64 0)]) w14 fun v15 w16 =>
 rv Tryz.prog (convert 3 22 v15) w16 fun v17 w18 =>
 rv Tryz.prog (bin .gtr 22 false v4 v17) w18 fun v19 w20 =>
 ifB v19
 (J12 ((.int .i64 3), ()) w20)
 (nilK a0 fun v21 => rv Tryz.prog (Instr.fieldAt 61 v21 0) w20 fun v22 w23 =>
 rv Tryz.prog (Instr.loadAt 23 v22) w23 fun v24 w25 =>
 rn Tryz.prog (builtin .len #[23] 3 #[false] #[v24]) w25 fun v26 w27 =>
 rv Tryz.prog (bin .sub 3 false v26 v6) w27 fun v28 w29 =>
 rv Tryz.prog (convert 3 22 v28) w29 fun v30 w31 =>
 rv Tryz.prog (bin .gtr 22 false v4 v30) w31 fun v32 w33 =>
 ifB v32
 (J12 ((.int .i64 4), ()) w33)
 (J12 (v8, ()) w33))))
 (J18_0 a0 K v4 v6))
theorem F18_eq (a0 a1 : Value) (w : World) (K : Kont) : vcFnJ Tryz.prog Tryz.f18 [a0, a1] w K = F18 a0 a1 w K := by kernel_rfl
theorem F18_ok : okF Tryz.prog Tryz.f18 2 = true := by kernel_rfl
theorem ca18{a0 a1 : Value} {w : World} {K : Kont} (h : F18 a0 a1 w K) : Ca Tryz.prog 18 #[a0, a1] w K :=
  ca_of_vcJ Tryz.noNum Tryz.func18 F18_ok (by rw [F18_eq]; exact h)


def J19_0 (K : Kont) (a0 : Value) (s2 : Value × Unit) (w3 : World) : Prop :=
 ∀ _ : Nat → Value,
 ifB s2.1
 (K (.int .i64 5) w3)
 (nilK a0 fun v17 => rv Tryz.prog (Instr.fieldAt 61 v17 2) w3 fun v18 w19 =>
 rv Tryz.prog (Instr.loadAt 27 v18) w19 fun v20 w21 =>
 K v20 w21)

/-- (*broadside/wire.Reader).Done -/
def F19 (a0 : Value) (w : World) (K : Kont) : Prop :=
 rv Tryz.prog (bin .eql 42 true a0 (.pointer none)) w fun v0 w1 =>
 ifB v0
 (K (.int .i64 1) w1)
 (JoinW (S := Value × Unit) (fun J4 =>
 nilK a0 fun v5 => rdP Tryz.prog (Instr.fieldAt 61 v5 2) fun v6 =>
 rdW Tryz.prog (Instr.loadAt 27 v6) w1.drew fun v7 =>
 rdP Tryz.prog (bin .eql 27 true v7 (.int .i64 0)) fun v8 =>
 ifB v8
 (nilK a0 fun v9 => rdP Tryz.prog (Instr.fieldAt 61 v9 1) fun v10 =>
 rdW Tryz.prog (Instr.loadAt 3 v10) w1.drew fun v11 =>
 nilK a0 fun v12 => rdP Tryz.prog (Instr.fieldAt 61 v12 0) fun v13 =>
 rdW Tryz.prog (Instr.loadAt 23 v13) w1.drew fun v14 =>
 rdW Tryz.prog (Builtin.len_ #[23] 3 #[v14]) w1.drew fun v15 =>
 rdP Tryz.prog (bin .lss 3 false v11 v15) fun v16 =>
 J4 (v16, ()) w1.drew)
 (J4 ((.bool false), ()) w1.drew))
 (J19_0 K a0))
theorem F19_eq (a0 : Value) (w : World) (K : Kont) : vcFnJ Tryz.prog Tryz.f19 [a0] w K = F19 a0 w K := by kernel_rfl
theorem F19_ok : okF Tryz.prog Tryz.f19 1 = true := by kernel_rfl
theorem ca19{a0 : Value} {w : World} {K : Kont} (h : F19 a0 w K) : Ca Tryz.prog 19 #[a0] w K :=
  ca_of_vcJ Tryz.noNum Tryz.func19 F19_ok (by rw [F19_eq]; exact h)


def J28_0 (J12 : Value × Unit → World → Prop) (v8 : Value) (s13 : Value × Unit) (w14 : World) : Prop :=
 ∀ _ : Nat → Value,
 ifB s13.1
 (J12 ((.int .i64 5), ()) w14)
 (J12 (v8, ()) w14)

def J28_1 (a0 : Value) (K : Kont) (v6 : Value) (v4 : Value) (s10 : Value × Unit) (w11 : World) : Prop :=
 ∀ _ : Nat → Value,
 rv Tryz.prog (bin .neq 27 true s10.1 (.int .i64 0)) w11 fun v20 w21 =>
 ifB v20
 (nilK a0 fun v22 => rv Tryz.prog (Instr.fieldAt 61 v22 2) w21 fun v23 w24 =>
 ru Tryz.prog (Instr.storeAt 27 v23 s10.1) w24 fun w25 =>
 K (.int .u64 0) w25)
 (nilK a0 fun v26 => rv Tryz.prog (Instr.fieldAt 61 v26 1) w21 fun v27 w28 =>
 ru Tryz.prog (Instr.storeAt 3 v27 v6) w28 fun w29 =>
 K v4 w29)

/-- (*broadside/wire.Reader).Small -/
def F28 (a0 a1 : Value) (w : World) (K : Kont) : Prop :=
 Ca Tryz.prog 29 #[a0] w fun v0 w1 =>
 ifB v0
 (K (.int .u64 0) w1)
 (Ca Tryz.prog 30 #[a0] w1 fun v2 w3 =>
 rv Tryz.prog (Instr.extract v2 0) w3 fun v4 w5 =>
 rv Tryz.prog (Instr.extract v2 1) w5 fun v6 w7 =>
 rv Tryz.prog (Instr.extract v2 2) w7 fun v8 w9 =>
 JoinW (S := Value × Unit) (fun J12 =>
 JoinW (S := Value × Unit) (fun J15 =>
 rv Tryz.prog (bin .eql 27 true v8 (.int .i64 0)) w9 fun v16 w17 =>
 ifB v16
 (rv Tryz.prog (bin .gtr 22 false v4 a1) w17 fun v18 w19 =>
 J15 (v18, ()) w19)
 (J15 ((.bool false), ()) w17))
 (J28_0 J12 v8))
 (J28_1 a0 K v6 v4))
theorem F28_eq (a0 a1 : Value) (w : World) (K : Kont) : vcFnJ Tryz.prog Tryz.f28 [a0, a1] w K = F28 a0 a1 w K := by kernel_rfl
theorem F28_ok : okF Tryz.prog Tryz.f28 2 = true := by kernel_rfl
theorem ca28{a0 a1 : Value} {w : World} {K : Kont} (h : F28 a0 a1 w K) : Ca Tryz.prog 28 #[a0, a1] w K :=
  ca_of_vcJ Tryz.noNum Tryz.func28 F28_ok (by rw [F28_eq]; exact h)



/-- (*broadside/wire.Reader).off -/
def F29 (a0 : Value) (w : World) (K : Kont) : Prop :=
 rv Tryz.prog (bin .eql 42 true a0 (.pointer none)) w fun v0 w1 =>
 ifB v0
 (K (.bool true) w1)
 (nilK a0 fun v2 => rv Tryz.prog (Instr.fieldAt 61 v2 2) w1 fun v3 w4 =>
 rv Tryz.prog (Instr.loadAt 27 v3) w4 fun v5 w6 =>
 rv Tryz.prog (bin .neq 27 true v5 (.int .i64 0)) w6 fun v7 w8 =>
 K v7 w8)
theorem F29_eq (a0 : Value) (w : World) (K : Kont) : vcFnJ Tryz.prog Tryz.f29 [a0] w K = F29 a0 w K := by kernel_rfl
theorem F29_ok : okF Tryz.prog Tryz.f29 1 = true := by kernel_rfl
theorem ca29{a0 : Value} {w : World} {K : Kont} (h : F29 a0 w K) : Ca Tryz.prog 29 #[a0] w K :=
  ca_of_vcJ Tryz.noNum Tryz.func29 F29_ok (by rw [F29_eq]; exact h)


def J30_0 (K : Kont) (a0 : Value) (s8 : Value × Value × Value × Value × Unit) (v36 : Value) (s40 : Value × Unit) (w41 : World) : Prop :=
 ∀ _ : Nat → Value,
 ifB s40.1
 (K (.tuple #[(.int .u64 0), (.int .i64 0), (.int .i64 5)]) w41)
 (nilK a0 fun v47 => rdP Tryz.prog (Instr.fieldAt 61 v47 1) fun v48 =>
 rdW Tryz.prog (Instr.loadAt 3 v48) w41.drew fun v49 =>
 rdP Tryz.prog (bin .add 3 false v49 s8.2.2.2.1) fun v50 =>
 rdP Tryz.prog (bin .add 3 true v50 (.int .i64 1)) fun v51 =>
 Sem.run Tryz.prog (Instr.loadAt 3 v48) w41.drew = .ok v49 w41.drew ∧ 
 (K (.tuple #[v36, v51, (.int .i64 0)]) w41.drew))

def J30_1 (K : Kont) (v15 : Value) (s8 : Value × Value × Value × Value × Unit) (a0 : Value) (K10 : Value × Value × Value × Value × Unit → World → Prop) (s17 : Value × Unit) (w18 : World) : Prop :=
 ∀ _ : Nat → Value,
 ifB s17.1
 (K (.tuple #[(.int .u64 0), (.int .i64 0), (.int .i64 5)]) w18)
 (rv Tryz.prog (bin .and 5 true v15 (.int .u8 127)) w18 fun v28 w29 =>
 rv Tryz.prog (convert 5 22 v28) w29 fun v30 w31 =>
 rv Tryz.prog (bin .mul 3 true (.int .i64 7) s8.2.2.2.1) w31 fun v32 w33 =>
 rv Tryz.prog (bin .shl 22 false v30 v32) w33 fun v34 w35 =>
 rv Tryz.prog (bin .or 22 false s8.1 v34) w35 fun v36 w37 =>
 rv Tryz.prog (bin .lss 5 true v15 (.int .u8 128)) w37 fun v38 w39 =>
 ifB v38
 (JoinW (S := Value × Unit) (fun J42 =>
 rv Tryz.prog (bin .eql 5 true v15 (.int .u8 0)) w39 fun v43 w44 =>
 ifB v43
 (rv Tryz.prog (bin .gtr 3 true s8.2.2.2.1 (.int .i64 0)) w44 fun v45 w46 =>
 J42 (v45, ()) w46)
 (J42 ((.bool false), ()) w44))
 (J30_0 K a0 s8 v36))
 (rv Tryz.prog (bin .add 3 true s8.2.2.2.1 (.int .i64 1)) w39 fun v52 w53 =>
 K10 (v36, s8.2.1, s8.2.2.1, v52, ()) w53))

def L30_2 (v7 : Value) (v6 : Value) (K : Kont) (a0 : Value) (s8 : Value × Value × Value × Value × Unit) (w9 : World) (K10 : Value × Value × Value × Value × Unit → World → Prop) : Prop :=
 ∀ _ : Nat → Value,
 rv Tryz.prog (bin .lss 3 false s8.2.2.2.1 v7) w9 fun v11 w12 =>
 ifB v11
 (rv Tryz.prog (Instr.indexAt 23 v6 s8.2.2.2.1) w12 fun v13 w14 =>
 rv Tryz.prog (Instr.loadAt 5 v13) w14 fun v15 w16 =>
 JoinW (S := Value × Unit) (fun J19 =>
 rv Tryz.prog (bin .eql 3 true s8.2.2.2.1 (.int .i64 9)) w16 fun v20 w21 =>
 ifB v20
 (rv Tryz.prog (bin .gtr 5 true v15 (.int .u8 1)) w21 fun v22 w23 =>
 ifB v22
 (J19 ((.bool true), ()) w23)
 (rv Tryz.prog (bin .gtr 3 true s8.2.2.2.1 (.int .i64 9)) w23 fun v24 w25 =>
 J19 (v24, ()) w25))
 (rv Tryz.prog (bin .gtr 3 true s8.2.2.2.1 (.int .i64 9)) w21 fun v26 w27 =>
 J19 (v26, ()) w27))
 (J30_1 K v15 s8 a0 K10))
 (K (.tuple #[(.int .u64 0), (.int .i64 0), (.int .i64 4)]) w12)

/-- (*broadside/wire.Reader).nat -/
def F30 (a0 : Value) (w : World) (K : Kont) : Prop :=
 nilK a0 fun v0 => rdP Tryz.prog (Instr.fieldAt 61 v0 0) fun v1 =>
 rdW Tryz.prog (Instr.loadAt 23 v1) w.drew fun v2 =>
 nilK a0 fun v3 => rdP Tryz.prog (Instr.fieldAt 61 v3 1) fun v4 =>
 rdW Tryz.prog (Instr.loadAt 3 v4) w.drew fun v5 =>
 rdP Tryz.prog (Instr.sliceAt 23 v2 (some v5) none none) fun v6 =>
 rdW Tryz.prog (Builtin.len_ #[23] 3 #[v6]) w.drew fun v7 =>
 LoopW (S := Value × Value × Value × Value × Unit) (L30_2 v7 v6 K a0) ((.int .u64 0), (.int .i64 0), (.int .i64 0), (.int .i64 0), ()) w.drew
theorem F30_eq (a0 : Value) (w : World) (K : Kont) : vcFnJ Tryz.prog Tryz.f30 [a0] w K = F30 a0 w K := by kernel_rfl
theorem F30_ok : okF Tryz.prog Tryz.f30 1 = true := by kernel_rfl
theorem ca30{a0 : Value} {w : World} {K : Kont} (h : F30 a0 w K) : Ca Tryz.prog 30 #[a0] w K :=
  ca_of_vcJ Tryz.noNum Tryz.func30 F30_ok (by rw [F30_eq]; exact h)



/-- broadside/session.may -/
def F13 (a0 : Value) (w : World) (K : Kont) : Prop :=
 rv Tryz.prog (Instr.box 25 a0) w fun v0 w1 =>
 rv Tryz.prog (Instr.fieldAt 25 v0 0) w1 fun v2 w3 =>
 rv Tryz.prog (Instr.loadAt 22 v2) w3 fun v4 w5 =>
 rv Tryz.prog (bin .lss 22 true v4 (.int .u64 64)) w5 fun v6 w7 =>
 ifB v6
 (rv Tryz.prog (Instr.fieldAt 25 v0 1) w7 fun v8 w9 =>
 rv Tryz.prog (Instr.loadAt 22 v8) w9 fun v10 w11 =>
 rv Tryz.prog (bin .neq 22 true v10 (.int .u64 0)) w11 fun v12 w13 =>
 ifB v12
 (rv Tryz.prog (Instr.fieldAt 25 v0 2) w13 fun v14 w15 =>
 rv Tryz.prog (Instr.loadAt 23 v14) w15 fun v16 w17 =>
 rn Tryz.prog (builtin .len #[23] 3 #[false] #[v16]) w17 fun v18 w19 =>
 rv Tryz.prog (bin .leq 3 true v18 (.int .i64 2000)) w19 fun v20 w21 =>
 K v20 w21)
 (K (.bool false) w13))
 (K (.bool false) w7)
theorem F13_eq (a0 : Value) (w : World) (K : Kont) : vcFnJ Tryz.prog Tryz.f13 [a0] w K = F13 a0 w K := by kernel_rfl
theorem F13_ok : okF Tryz.prog Tryz.f13 1 = true := by kernel_rfl
theorem ca13{a0 : Value} {w : World} {K : Kont} (h : F13 a0 w K) : Ca Tryz.prog 13 #[a0] w K :=
  ca_of_vcJ Tryz.noNum Tryz.func13 F13_ok (by rw [F13_eq]; exact h)



/-- broadside/session.Bytes -/
def F5 (a0 : Value) (w : World) (K : Kont) : Prop :=
 rv Tryz.prog (Instr.box 25 a0) w fun v0 w1 =>
 rv Tryz.prog (Instr.loadAt 25 v0) w1 fun v2 w3 =>
 Ca Tryz.prog 13 #[v2] w3 fun v4 w5 =>
 rv Tryz.prog (Op.unary .not v4) w5 fun v6 w7 =>
 ifB v6
 (K (.tuple #[(.slice none 0 0), (.int .i64 2)]) w7)
 (rdP Tryz.prog (Instr.fieldAt 25 v0 0) fun v8 =>
 rdW Tryz.prog (Instr.loadAt 22 v8) w7.drew fun v9 =>
 rdP Tryz.prog (Instr.fieldAt 25 v0 1) fun v10 =>
 rdW Tryz.prog (Instr.loadAt 22 v10) w7.drew fun v11 =>
 rdP Tryz.prog (Instr.fieldAt 25 v0 2) fun v12 =>
 rdW Tryz.prog (Instr.loadAt 23 v12) w7.drew fun v13 =>
 Ca Tryz.prog 15 #[(.slice none 0 0), v9] w7.drew fun v14 w15 =>
 Sem.run Tryz.prog (Instr.loadAt 23 v12) w15 = .ok v13 w15 ∧ Sem.run Tryz.prog (Instr.loadAt 22 v10) w15 = .ok v11 w15 ∧ 
 (Ca Tryz.prog 15 #[v14, v11] w15 fun v16 w17 =>
 Sem.run Tryz.prog (Instr.loadAt 23 v12) w17 = .ok v13 w17 ∧ 
 (Ca Tryz.prog 14 #[v16, v13] w17 fun v18 w19 =>
 K (.tuple #[v18, (.int .i64 0)]) w19)))
theorem F5_eq (a0 : Value) (w : World) (K : Kont) : vcFnJ Tryz.prog Tryz.f5 [a0] w K = F5 a0 w K := by kernel_rfl
theorem F5_ok : okF Tryz.prog Tryz.f5 1 = true := by kernel_rfl
theorem ca5{a0 : Value} {w : World} {K : Kont} (h : F5 a0 w K) : Ca Tryz.prog 5 #[a0] w K :=
  ca_of_vcJ Tryz.noNum Tryz.func5 F5_ok (by rw [F5_eq]; exact h)


def J6_0 (v0 : Value) (K : Kont) (v12 : Value) (s15 : Value × Unit) (w16 : World) : Prop :=
 ∀ _ : Nat → Value,
 ifB s15.1
 (rv Tryz.prog (Instr.build 25 #[]) w16 fun v28 w29 =>
 ru Tryz.prog (Instr.storeAt 25 v0 v28) w29 fun w30 =>
 rdW Tryz.prog (Instr.loadAt 25 v0) w30 fun v31 =>
 K (.tuple #[v31, (.int .i64 5)]) w30)
 (rv Tryz.prog (Instr.loadAt 25 v12) w16 fun v32 w33 =>
 ru Tryz.prog (Instr.storeAt 25 v0 v32) w33 fun w34 =>
 rdW Tryz.prog (Instr.loadAt 25 v0) w34 fun v35 =>
 K (.tuple #[v35, (.int .i64 0)]) w34)

/-- broadside/session.Read -/
def F6 (a0 : Value) (w : World) (K : Kont) : Prop :=
 rv Tryz.prog (Instr.alloc 25 true (.tuple #[])) w fun v0 w1 =>
 Ca Tryz.prog 16 #[a0] w1 fun v2 w3 =>
 Ca Tryz.prog 17 #[v2] w3 fun v4 w5 =>
 Ca Tryz.prog 17 #[v2] w5 fun v6 w7 =>
 Ca Tryz.prog 18 #[v2, (.int .i64 2000)] w7 fun v8 w9 =>
 rv Tryz.prog (Instr.build 25 #[(0, v4), (1, v6), (2, v8)]) w9 fun v10 w11 =>
 rv Tryz.prog (Instr.alloc 25 true (.tuple #[])) w11 fun v12 w13 =>
 ru Tryz.prog (Instr.storeAt 25 v12 v10) w13 fun w14 =>
 JoinW (S := Value × Unit) (fun J17 =>
 Ca Tryz.prog 19 #[v2] w14 fun v18 w19 =>
 rv Tryz.prog (bin .neq 27 true v18 (.int .i64 0)) w19 fun v20 w21 =>
 ifB v20
 (J17 ((.bool true), ()) w21)
 (rv Tryz.prog (Instr.loadAt 25 v12) w21 fun v22 w23 =>
 Ca Tryz.prog 13 #[v22] w23 fun v24 w25 =>
 rv Tryz.prog (Op.unary .not v24) w25 fun v26 w27 =>
 J17 (v26, ()) w27))
 (J6_0 v0 K v12)
theorem F6_eq (a0 : Value) (w : World) (K : Kont) : vcFnJ Tryz.prog Tryz.f6 [a0] w K = F6 a0 w K := by kernel_rfl
theorem F6_ok : okF Tryz.prog Tryz.f6 1 = true := by kernel_rfl
theorem ca6{a0 : Value} {w : World} {K : Kont} (h : F6 a0 w K) : Ca Tryz.prog 6 #[a0] w K :=
  ca_of_vcJ Tryz.noNum Tryz.func6 F6_ok (by rw [F6_eq]; exact h)



/-- broadside/session.New -/
def F10 (w : World) (K : Kont) : Prop :=
 Ca Tryz.prog 25 #[] w fun v0 w1 =>
 rv Tryz.prog (Instr.makeMap 54 none) w1 fun v2 w3 =>
 rv Tryz.prog (Instr.build 56 #[(0, v0), (1, v2)]) w3 fun v4 w5 =>
 rv Tryz.prog (Instr.box 56 v4) w5 fun v6 w7 =>
 K v6 w7
theorem F10_eq (w : World) (K : Kont) : vcFnJ Tryz.prog Tryz.f10 [] w K = F10  w K := by kernel_rfl
theorem F10_ok : okF Tryz.prog Tryz.f10 0 = true := by kernel_rfl
theorem ca10 {w : World} {K : Kont} (h : F10  w K) : Ca Tryz.prog 10 #[] w K :=
  ca_of_vcJ Tryz.noNum Tryz.func10 F10_ok (by rw [F10_eq]; exact h)


def J11_0 (K : Kont) (a0 : Value) (v6 : Value) (s25 : Value × Unit) (w26 : World) : Prop :=
 ∀ _ : Nat → Value,
 ifB s25.1
 (K (.tuple #[(.int .u64 0), (.int .u64 0), (.bool false)]) w26)
 (nilK a0 fun v38 => rdP Tryz.prog (Instr.fieldAt 56 v38 1) fun v39 =>
 rdW Tryz.prog (Instr.loadAt 54 v39) w26.drew fun v40 =>
 rdP Tryz.prog (Instr.fieldAt 25 v6 0) fun v41 =>
 rdW Tryz.prog (Instr.loadAt 22 v41) w26.drew fun v42 =>
 rdP Tryz.prog (Instr.fieldAt 25 v6 1) fun v43 =>
 rdW Tryz.prog (Instr.loadAt 22 v43) w26.drew fun v44 =>
 nilK a0 fun v45 => rdP Tryz.prog (Instr.fieldAt 56 v45 0) fun v46 =>
 rdW Tryz.prog (Instr.loadAt 52 v46) w26.drew fun v47 =>
 rdP Tryz.prog (Instr.fieldAt 25 v6 2) fun v48 =>
 rdW Tryz.prog (Instr.loadAt 23 v48) w26.drew fun v49 =>
 Ca Tryz.prog 27 #[v47, v49] w26.drew fun v50 w51 =>
 Sem.run Tryz.prog (Instr.loadAt 22 v43) w51 = .ok v44 w51 ∧ Sem.run Tryz.prog (Instr.loadAt 22 v41) w51 = .ok v42 w51 ∧ Sem.run Tryz.prog (Instr.loadAt 54 v39) w51 = .ok v40 w51 ∧ 
 (rdP Tryz.prog (Instr.build 58 #[(0, v44), (1, v50)]) fun v52 =>
 rux Tryz.prog (xMapUp 54 v40 v42 v52) w51 fun w53 =>
 rdP Tryz.prog (Instr.fieldAt 25 v6 0) fun v54 =>
 rdW Tryz.prog (Instr.loadAt 22 v54) w53.drew fun v55 =>
 rdP Tryz.prog (Instr.fieldAt 25 v6 1) fun v56 =>
 rdW Tryz.prog (Instr.loadAt 22 v56) w53.drew fun v57 =>
 Sem.run Tryz.prog (Instr.loadAt 22 v56) w53.drew = .ok v57 w53.drew ∧ 
 (K (.tuple #[v55, v57, (.bool true)]) w53.drew)))

def J11_1 (K : Kont) (a0 : Value) (v6 : Value) (s9 : Value × Unit) (w10 : World) : Prop :=
 ∀ _ : Nat → Value,
 ifB s9.1
 (K (.tuple #[(.int .u64 0), (.int .u64 0), (.bool false)]) w10)
 (nilK a0 fun v18 => rdP Tryz.prog (Instr.fieldAt 56 v18 1) fun v19 =>
 rdW Tryz.prog (Instr.loadAt 54 v19) w10.drew fun v20 =>
 rdP Tryz.prog (Instr.fieldAt 25 v6 0) fun v21 =>
 rdW Tryz.prog (Instr.loadAt 22 v21) w10.drew fun v22 =>
 rdX Tryz.prog (xLook 54 v20 v22 false) w10.drew fun v23 =>
 rdP Tryz.prog (Instr.field 58 v23 0) fun v24 =>
 JoinW (S := Value × Unit) (fun J27 =>
 rv Tryz.prog (bin .eql 22 true v24 (.int .u64 18446744073709551615)) w10.drew fun v28 w29 =>
 ifB v28
 (J27 ((.bool true), ()) w29)
 (rv Tryz.prog (Instr.fieldAt 25 v6 1) w29 fun v30 w31 =>
 rv Tryz.prog (Instr.loadAt 22 v30) w31 fun v32 w33 =>
 rv Tryz.prog (bin .add 22 true v24 (.int .u64 1)) w33 fun v34 w35 =>
 rv Tryz.prog (bin .neq 22 false v32 v34) w35 fun v36 w37 =>
 J27 (v36, ()) w37))
 (J11_0 K a0 v6))

/-- (*broadside/session.Machine).Apply -/
def F11 (a0 a1 : Value) (w : World) (K : Kont) : Prop :=
 Ca Tryz.prog 6 #[a1] w fun v0 w1 =>
 rv Tryz.prog (Instr.extract v0 0) w1 fun v2 w3 =>
 rv Tryz.prog (Instr.extract v0 1) w3 fun v4 w5 =>
 rv Tryz.prog (Instr.alloc 25 true (.tuple #[])) w5 fun v6 w7 =>
 ru Tryz.prog (Instr.storeAt 25 v6 v2) w7 fun w8 =>
 JoinW (S := Value × Unit) (fun J11 =>
 Ca Tryz.prog 26 #[a0] w8 fun v12 w13 =>
 rv Tryz.prog (Op.unary .not v12) w13 fun v14 w15 =>
 ifB v14
 (J11 ((.bool true), ()) w15)
 (rv Tryz.prog (bin .neq 27 true v4 (.int .i64 0)) w15 fun v16 w17 =>
 J11 (v16, ()) w17))
 (J11_1 K a0 v6)
theorem F11_eq (a0 a1 : Value) (w : World) (K : Kont) : vcFnJ Tryz.prog Tryz.f11 [a0, a1] w K = F11 a0 a1 w K := by kernel_rfl
theorem F11_ok : okF Tryz.prog Tryz.f11 2 = true := by kernel_rfl
theorem ca11{a0 a1 : Value} {w : World} {K : Kont} (h : F11 a0 a1 w K) : Ca Tryz.prog 11 #[a0, a1] w K :=
  ca_of_vcJ Tryz.noNum Tryz.func11 F11_ok (by rw [F11_eq]; exact h)



/-- (*broadside/session.Machine).Last -/
def F12 (a0 a1 : Value) (w : World) (K : Kont) : Prop :=
 rv Tryz.prog (bin .eql 35 true a0 (.pointer none)) w fun v0 w1 =>
 ifB v0
 (K (.int .u64 0) w1)
 (nilK a0 fun v2 => rv Tryz.prog (Instr.fieldAt 56 v2 1) w1 fun v3 w4 =>
 rv Tryz.prog (Instr.loadAt 54 v3) w4 fun v5 w6 =>
 rx Tryz.prog (xLook 54 v5 a1 false) w6 fun v7 w8 =>
 rv Tryz.prog (Instr.field 58 v7 0) w8 fun v9 w10 =>
 K v9 w10)
theorem F12_eq (a0 a1 : Value) (w : World) (K : Kont) : vcFnJ Tryz.prog Tryz.f12 [a0, a1] w K = F12 a0 a1 w K := by kernel_rfl
theorem F12_ok : okF Tryz.prog Tryz.f12 2 = true := by kernel_rfl
theorem ca12{a0 a1 : Value} {w : World} {K : Kont} (h : F12 a0 a1 w K) : Ca Tryz.prog 12 #[a0, a1] w K :=
  ca_of_vcJ Tryz.noNum Tryz.func12 F12_ok (by rw [F12_eq]; exact h)



/-- (*broadside/session.Machine).ready -/
def F26 (a0 : Value) (w : World) (K : Kont) : Prop :=
 rv Tryz.prog (bin .eql 35 true a0 (.pointer none)) w fun v0 w1 =>
 ifB v0
 (K (.bool false) w1)
 (nilK a0 fun v2 => rv Tryz.prog (Instr.fieldAt 56 v2 0) w1 fun v3 w4 =>
 rv Tryz.prog (Instr.loadAt 52 v3) w4 fun v5 w6 =>
 rv Tryz.prog (bin .eql 52 true v5 (.pointer none)) w6 fun v7 w8 =>
 ifB v7
 (Ca Tryz.prog 10 #[] w8 fun v9 w10 =>
 nilK v9 fun v11 => rv Tryz.prog (Instr.loadAt 56 v11) w10 fun v12 w13 =>
 nilK a0 fun v14 => ru Tryz.prog (Instr.storeAt 56 v14 v12) w13 fun w15 =>
 K (.bool true) w15)
 (K (.bool true) w8))
theorem F26_eq (a0 : Value) (w : World) (K : Kont) : vcFnJ Tryz.prog Tryz.f26 [a0] w K = F26 a0 w K := by kernel_rfl
theorem F26_ok : okF Tryz.prog Tryz.f26 1 = true := by kernel_rfl
theorem ca26{a0 : Value} {w : World} {K : Kont} (h : F26 a0 w K) : Ca Tryz.prog 26 #[a0] w K :=
  ca_of_vcJ Tryz.noNum Tryz.func26 F26_ok (by rw [F26_eq]; exact h)



/-- broadside/venue.New -/
def F25 (w : World) (K : Kont) : Prop :=
 Ca Tryz.prog 33 #[] w fun v0 w1 =>
 Ca Tryz.prog 34 #[] w1 fun v2 w3 =>
 rv Tryz.prog (Instr.makeMap 68 none) w3 fun v4 w5 =>
 rv Tryz.prog (Instr.makeMap 69 none) w5 fun v6 w7 =>
 rv Tryz.prog (Instr.build 71 #[(0, v0), (1, v2), (2, v4), (3, v6), (4, (.int .u64 1))]) w7 fun v8 w9 =>
 rv Tryz.prog (Instr.box 71 v8) w9 fun v10 w11 =>
 K v10 w11
theorem F25_eq (w : World) (K : Kont) : vcFnJ Tryz.prog Tryz.f25 [] w K = F25  w K := by kernel_rfl
theorem F25_ok : okF Tryz.prog Tryz.f25 0 = true := by kernel_rfl
theorem ca25 {w : World} {K : Kont} (h : F25  w K) : Ca Tryz.prog 25 #[] w K :=
  ca_of_vcJ Tryz.noNum Tryz.func25 F25_ok (by rw [F25_eq]; exact h)



/-- broadside/calendar.New -/
def F33 (w : World) (K : Kont) : Prop :=
 rv Tryz.prog (Instr.build 92 #[(0, (.bool true))]) w fun v0 w1 =>
 rv Tryz.prog (Instr.box 92 v0) w1 fun v2 w3 =>
 K v2 w3
theorem F33_eq (w : World) (K : Kont) : vcFnJ Tryz.prog Tryz.f33 [] w K = F33  w K := by kernel_rfl
theorem F33_ok : okF Tryz.prog Tryz.f33 0 = true := by kernel_rfl
theorem ca33 {w : World} {K : Kont} (h : F33  w K) : Ca Tryz.prog 33 #[] w K :=
  ca_of_vcJ Tryz.noNum Tryz.func33 F33_ok (by rw [F33_eq]; exact h)



/-- broadside/ledger.New -/
def F34 (w : World) (K : Kont) : Prop :=
 rv Tryz.prog (Instr.makeMap 95 none) w fun v0 w1 =>
 rv Tryz.prog (Instr.build 94 #[]) w1 fun v2 w3 =>
 rux Tryz.prog (xMapUp 95 v0 (.int .u32 0) v2) w3 fun w4 =>
 rv Tryz.prog (Instr.makeMap 96 none) w4 fun v5 w6 =>
 rv Tryz.prog (Instr.build 98 #[(0, v0), (1, v5)]) w6 fun v7 w8 =>
 rv Tryz.prog (Instr.box 98 v7) w8 fun v9 w10 =>
 K v9 w10
theorem F34_eq (w : World) (K : Kont) : vcFnJ Tryz.prog Tryz.f34 [] w K = F34  w K := by kernel_rfl
theorem F34_ok : okF Tryz.prog Tryz.f34 0 = true := by kernel_rfl
theorem ca34 {w : World} {K : Kont} (h : F34  w K) : Ca Tryz.prog 34 #[] w K :=
  ca_of_vcJ Tryz.noNum Tryz.func34 F34_ok (by rw [F34_eq]; exact h)



/-- (*broadside/broadsideref02.Reader).Nat -/
def F20 (a0 : Value) (w : World) (K : Kont) : Prop :=
 Ca Tryz.prog 31 #[a0, (.int .u64 18446744073709551615)] w fun v0 w1 =>
 K v0 w1
theorem F20_eq (a0 : Value) (w : World) (K : Kont) : vcFnJ Tryz.prog Tryz.f20 [a0] w K = F20 a0 w K := by kernel_rfl
theorem F20_ok : okF Tryz.prog Tryz.f20 1 = true := by kernel_rfl
theorem ca20{a0 : Value} {w : World} {K : Kont} (h : F20 a0 w K) : Ca Tryz.prog 20 #[a0] w K :=
  ca_of_vcJ Tryz.noNum Tryz.func20 F20_ok (by rw [F20_eq]; exact h)


def J21_0 (J17 : Value × Unit → World → Prop) (v13 : Value) (s18 : Value × Unit) (w19 : World) : Prop :=
 ∀ _ : Nat → Value,
 ifB s18.1
 (J17 ((.int .i64 3), ()) w19)
 (J17 (v13, ()) w19)

def J21_1 (J41 : Value × Unit → World → Prop) (s15 : Value × Unit) (s42 : Value × Unit) (w43 : World) : Prop :=
 ∀ _ : Nat → Value,
 ifB s42.1
 (J41 ((.int .i64 4), ()) w43)
 (J41 (s15.1, ()) w43)

def J21_2 (a0 : Value) (K : Kont) (v9 : Value) (v11 : Value) (s39 : Value × Unit) (w40 : World) : Prop :=
 ∀ _ : Nat → Value,
 rv Tryz.prog (bin .neq 27 true s39.1 (.int .i64 0)) w40 fun v60 w61 =>
 ifB v60
 (nilK a0 fun v62 => rv Tryz.prog (Instr.fieldAt 49 v62 1) w61 fun v63 w64 =>
 ru Tryz.prog (Instr.storeAt 27 v63 s39.1) w64 fun w65 =>
 K (.slice none 0 0) w65)
 (rx Tryz.prog (xLit 23 0 []) w61 fun v66 w67 =>
 nilK a0 fun v68 => rv Tryz.prog (Instr.fieldAt 49 v68 0) w67 fun v69 w70 =>
 rv Tryz.prog (Instr.loadAt 23 v69) w70 fun v71 w72 =>
 rv Tryz.prog (convert 22 3 v9) w72 fun v73 w74 =>
 rv Tryz.prog (bin .add 3 false v11 v73) w74 fun v75 w76 =>
 rv Tryz.prog (Instr.sliceAt 23 v71 (some v11) (some v75) none) w76 fun v77 w78 =>
 rx Tryz.prog (xAppend #[23, 23] 23 [v66, v77]) w78 fun v79 w80 =>
 nilK a0 fun v81 => rv Tryz.prog (Instr.fieldAt 49 v81 0) w80 fun v82 w83 =>
 rv Tryz.prog (Instr.loadAt 23 v82) w83 fun v84 w85 =>
 rv Tryz.prog (convert 22 3 v9) w85 fun v86 w87 =>
 rv Tryz.prog (bin .add 3 false v11 v86) w87 fun v88 w89 =>
 rv Tryz.prog (Instr.sliceAt 23 v84 (some v88) none none) w89 fun v90 w91 =>
 nilK a0 fun v92 => rv Tryz.prog (Instr.fieldAt 49 v92 0) w91 fun v93 w94 =>
 ru Tryz.prog (Instr.storeAt 23 v93 v90) w94 fun w95 =>
 K v79 w95)

def J21_3 (a0 : Value) (v11 : Value) (v9 : Value) (K : Kont) (s15 : Value × Unit) (w16 : World) : Prop :=
 ∀ _ : Nat → Value,
 JoinW (S := Value × Unit) (fun J41 =>
 JoinW (S := Value × Unit) (fun J44 =>
 rv Tryz.prog (bin .eql 27 true s15.1 (.int .i64 0)) w16 fun v45 w46 =>
 ifB v45
 (nilK a0 fun v47 => rv Tryz.prog (Instr.fieldAt 49 v47 0) w46 fun v48 w49 =>
 rv Tryz.prog (Instr.loadAt 23 v48) w49 fun v50 w51 =>
 rn Tryz.prog (builtin .len #[23] 3 #[false] #[v50]) w51 fun v52 w53 =>
 rv Tryz.prog (bin .sub 3 false v52 v11) w53 fun v54 w55 =>
 rv Tryz.prog (convert 3 22 v54) w55 fun v56 w57 =>
 rv Tryz.prog (bin .gtr 22 false v9 v56) w57 fun v58 w59 =>
 J44 (v58, ()) w59)
 (J44 ((.bool false), ()) w46))
 (J21_1 J41 s15))
 (J21_2 a0 K v9 v11)

/-- (*broadside/broadsideref02.Reader).Text -/
def F21 (a0 a1 : Value) (w : World) (K : Kont) : Prop :=
 nilK a0 fun v0 => rv Tryz.prog (Instr.fieldAt 49 v0 1) w fun v1 w2 =>
 rv Tryz.prog (Instr.loadAt 27 v1) w2 fun v3 w4 =>
 rv Tryz.prog (bin .neq 27 true v3 (.int .i64 0)) w4 fun v5 w6 =>
 ifB v5
 (K (.slice none 0 0) w6)
 (Ca Tryz.prog 32 #[a0] w6 fun v7 w8 =>
 rv Tryz.prog (Instr.extract v7 0) w8 fun v9 w10 =>
 rv Tryz.prog (Instr.extract v7 1) w10 fun v11 w12 =>
 rv Tryz.prog (Instr.extract v7 2) w12 fun v13 w14 =>
 JoinW (S := Value × Unit) (fun J17 =>
 JoinW (S := Value × Unit) (fun J20 =>
 rv Tryz.prog (bin .eql 27 true v13 (.int .i64 0)) w14 fun v21 w22 =>
 ifB v21
 (rv Tryz.prog (bin .lss 3 true a1 (.int .i64 0)) w22 fun v23 w24 =>
 ifB v23
 (rv Tryz.prog (bin .gtr 22 true v9 (.int .u64 0)) w24 fun v25 w26 =>
 ifB v25
 (J20 ((.bool true), ()) w26)
 (rv Tryz.prog (bin .geq 3 true a1 (.int .i64 0)) w26 fun v27 w28 =>
 ifB v27
 (rv Tryz.prog (convert 3 22 a1) w28 fun v29 w30 =>
 rv Tryz.prog (bin .gtr 22 false v9 v29) w30 fun v31 w32 =>
 J20 (v31, ()) w32)
 (J20 ((.bool false), ()) w28)))
 (rv Tryz.prog (bin .geq 3 true a1 (.int .i64 0)) w24 fun v33 w34 =>
 ifB v33
 (rv Tryz.prog (convert 3 22 a1) w34 fun v35 w36 =>
 rv Tryz.prog (bin .gtr 22 false v9 v35) w36 fun v37 w38 =>
 J20 (v37, ()) w38)
 (J20 ((.bool false), ()) w34)))
 (J20 ((.bool false), ()) w22))
 (J21_0 J17 v13))
 (J21_3 a0 v11 v9 K))
theorem F21_eq (a0 a1 : Value) (w : World) (K : Kont) : vcFnJ Tryz.prog Tryz.f21 [a0, a1] w K = F21 a0 a1 w K := by kernel_rfl
theorem F21_ok : okF Tryz.prog Tryz.f21 2 = true := by kernel_rfl
theorem ca21{a0 a1 : Value} {w : World} {K : Kont} (h : F21 a0 a1 w K) : Ca Tryz.prog 21 #[a0, a1] w K :=
  ca_of_vcJ Tryz.noNum Tryz.func21 F21_ok (by rw [F21_eq]; exact h)


def J22_0 (K : Kont) (a0 : Value) (s0 : Value × Unit) (w1 : World) : Prop :=
 ∀ _ : Nat → Value,
 ifB s0.1
 (K (.int .i64 5) w1)
 (nilK a0 fun v19 => rv Tryz.prog (Instr.fieldAt 49 v19 1) w1 fun v20 w21 =>
 rv Tryz.prog (Instr.loadAt 27 v20) w21 fun v22 w23 =>
 K v22 w23)

/-- (*broadside/broadsideref02.Reader).Done -/
def F22 (a0 : Value) (w : World) (K : Kont) : Prop :=
 JoinW (S := Value × Unit) (fun J2 =>
 nilK a0 fun v3 => rv Tryz.prog (Instr.fieldAt 49 v3 1) w fun v4 w5 =>
 rv Tryz.prog (Instr.loadAt 27 v4) w5 fun v6 w7 =>
 rv Tryz.prog (bin .eql 27 true v6 (.int .i64 0)) w7 fun v8 w9 =>
 ifB v8
 (nilK a0 fun v10 => rv Tryz.prog (Instr.fieldAt 49 v10 0) w9 fun v11 w12 =>
 rv Tryz.prog (Instr.loadAt 23 v11) w12 fun v13 w14 =>
 rn Tryz.prog (builtin .len #[23] 3 #[false] #[v13]) w14 fun v15 w16 =>
 rv Tryz.prog (bin .gtr 3 true v15 (.int .i64 0)) w16 fun v17 w18 =>
 J2 (v17, ()) w18)
 (J2 ((.bool false), ()) w9))
 (J22_0 K a0)
theorem F22_eq (a0 : Value) (w : World) (K : Kont) : vcFnJ Tryz.prog Tryz.f22 [a0] w K = F22 a0 w K := by kernel_rfl
theorem F22_ok : okF Tryz.prog Tryz.f22 1 = true := by kernel_rfl
theorem ca22{a0 : Value} {w : World} {K : Kont} (h : F22 a0 w K) : Ca Tryz.prog 22 #[a0] w K :=
  ca_of_vcJ Tryz.noNum Tryz.func22 F22_ok (by rw [F22_eq]; exact h)



/-- broadside/broadsideref02.Nat -/
def F23 (a0 : Value) (w : World) (K : Kont) : Prop :=
 rv Tryz.prog (bin .lss 22 true a0 (.int .u64 128)) w fun v0 w1 =>
 ifB v0
 (rv Tryz.prog (convert 22 5 a0) w1 fun v2 w3 =>
 rx Tryz.prog (xLit 23 1 [(0, v2)]) w3 fun v4 w5 =>
 K v4 w5)
 (rv Tryz.prog (bin .rem 22 true a0 (.int .u64 128)) w1 fun v6 w7 =>
 rv Tryz.prog (convert 22 5 v6) w7 fun v8 w9 =>
 rv Tryz.prog (bin .add 5 true v8 (.int .u8 128)) w9 fun v10 w11 =>
 rx Tryz.prog (xLit 23 1 [(0, v10)]) w11 fun v12 w13 =>
 rv Tryz.prog (bin .quo 22 true a0 (.int .u64 128)) w13 fun v14 w15 =>
 Ca Tryz.prog 23 #[v14] w15 fun v16 w17 =>
 rx Tryz.prog (xAppend #[23, 23] 23 [v12, v16]) w17 fun v18 w19 =>
 K v18 w19)
theorem F23_eq (a0 : Value) (w : World) (K : Kont) : vcFnJ Tryz.prog Tryz.f23 [a0] w K = F23 a0 w K := by kernel_rfl
theorem F23_ok : okF Tryz.prog Tryz.f23 1 = true := by kernel_rfl
theorem ca23{a0 : Value} {w : World} {K : Kont} (h : F23 a0 w K) : Ca Tryz.prog 23 #[a0] w K :=
  ca_of_vcJ Tryz.noNum Tryz.func23 F23_ok (by rw [F23_eq]; exact h)



/-- broadside/broadsideref02.Text -/
def F24 (a0 : Value) (w : World) (K : Kont) : Prop :=
 rn Tryz.prog (builtin .len #[23] 3 #[false] #[a0]) w fun v0 w1 =>
 rv Tryz.prog (convert 3 22 v0) w1 fun v2 w3 =>
 Ca Tryz.prog 23 #[v2] w3 fun v4 w5 =>
 rx Tryz.prog (xAppend #[23, 23] 23 [v4, a0]) w5 fun v6 w7 =>
 K v6 w7
theorem F24_eq (a0 : Value) (w : World) (K : Kont) : vcFnJ Tryz.prog Tryz.f24 [a0] w K = F24 a0 w K := by kernel_rfl
theorem F24_ok : okF Tryz.prog Tryz.f24 1 = true := by kernel_rfl
theorem ca24{a0 : Value} {w : World} {K : Kont} (h : F24 a0 w K) : Ca Tryz.prog 24 #[a0] w K :=
  ca_of_vcJ Tryz.noNum Tryz.func24 F24_ok (by rw [F24_eq]; exact h)


def J31_0 (J17 : Value × Unit → World → Prop) (v13 : Value) (s18 : Value × Unit) (w19 : World) : Prop :=
 ∀ _ : Nat → Value,
 ifB s18.1
 (J17 ((.int .i64 5), ()) w19)
 (J17 (v13, ()) w19)

def J31_1 (a0 : Value) (K : Kont) (v11 : Value) (v9 : Value) (s15 : Value × Unit) (w16 : World) : Prop :=
 ∀ _ : Nat → Value,
 rv Tryz.prog (bin .neq 27 true s15.1 (.int .i64 0)) w16 fun v25 w26 =>
 ifB v25
 (nilK a0 fun v27 => rv Tryz.prog (Instr.fieldAt 49 v27 1) w26 fun v28 w29 =>
 ru Tryz.prog (Instr.storeAt 27 v28 s15.1) w29 fun w30 =>
 K (.int .u64 0) w30)
 (nilK a0 fun v31 => rv Tryz.prog (Instr.fieldAt 49 v31 0) w26 fun v32 w33 =>
 rv Tryz.prog (Instr.loadAt 23 v32) w33 fun v34 w35 =>
 rv Tryz.prog (Instr.sliceAt 23 v34 (some v11) none none) w35 fun v36 w37 =>
 nilK a0 fun v38 => rv Tryz.prog (Instr.fieldAt 49 v38 0) w37 fun v39 w40 =>
 ru Tryz.prog (Instr.storeAt 23 v39 v36) w40 fun w41 =>
 K v9 w41)

/-- (*broadside/broadsideref02.Reader).Small -/
def F31 (a0 a1 : Value) (w : World) (K : Kont) : Prop :=
 nilK a0 fun v0 => rv Tryz.prog (Instr.fieldAt 49 v0 1) w fun v1 w2 =>
 rv Tryz.prog (Instr.loadAt 27 v1) w2 fun v3 w4 =>
 rv Tryz.prog (bin .neq 27 true v3 (.int .i64 0)) w4 fun v5 w6 =>
 ifB v5
 (K (.int .u64 0) w6)
 (Ca Tryz.prog 32 #[a0] w6 fun v7 w8 =>
 rv Tryz.prog (Instr.extract v7 0) w8 fun v9 w10 =>
 rv Tryz.prog (Instr.extract v7 1) w10 fun v11 w12 =>
 rv Tryz.prog (Instr.extract v7 2) w12 fun v13 w14 =>
 JoinW (S := Value × Unit) (fun J17 =>
 JoinW (S := Value × Unit) (fun J20 =>
 rv Tryz.prog (bin .eql 27 true v13 (.int .i64 0)) w14 fun v21 w22 =>
 ifB v21
 (rv Tryz.prog (bin .gtr 22 false v9 a1) w22 fun v23 w24 =>
 J20 (v23, ()) w24)
 (J20 ((.bool false), ()) w22))
 (J31_0 J17 v13))
 (J31_1 a0 K v11 v9))
theorem F31_eq (a0 a1 : Value) (w : World) (K : Kont) : vcFnJ Tryz.prog Tryz.f31 [a0, a1] w K = F31 a0 a1 w K := by kernel_rfl
theorem F31_ok : okF Tryz.prog Tryz.f31 2 = true := by kernel_rfl
theorem ca31{a0 a1 : Value} {w : World} {K : Kont} (h : F31 a0 a1 w K) : Ca Tryz.prog 31 #[a0, a1] w K :=
  ca_of_vcJ Tryz.noNum Tryz.func31 F31_ok (by rw [F31_eq]; exact h)


def L32_0 (a0 : Value) (s0 : Value × Unit) (K : Kont) (s83 : Value × Value × Unit) (w84 : World) (K85 : Value × Value × Unit → World → Prop) : Prop :=
 ∀ _ : Nat → Value,
 rv Tryz.prog (bin .geq 3 true s83.2.1 (.int .i64 0)) w84 fun v86 w87 =>
 ifB v86
 (rv Tryz.prog (bin .mul 22 true s83.1 (.int .u64 128)) w87 fun v88 w89 =>
 nilK a0 fun v90 => rv Tryz.prog (Instr.fieldAt 49 v90 0) w89 fun v91 w92 =>
 rv Tryz.prog (Instr.loadAt 23 v91) w92 fun v93 w94 =>
 rv Tryz.prog (Instr.indexAt 23 v93 s83.2.1) w94 fun v95 w96 =>
 rv Tryz.prog (Instr.loadAt 5 v95) w96 fun v97 w98 =>
 rv Tryz.prog (convert 5 22 v97) w98 fun v99 w100 =>
 rv Tryz.prog (bin .rem 22 true v99 (.int .u64 128)) w100 fun v101 w102 =>
 rv Tryz.prog (bin .add 22 false v88 v101) w102 fun v103 w104 =>
 rv Tryz.prog (bin .sub 3 true s83.2.1 (.int .i64 1)) w104 fun v105 w106 =>
 K85 (v103, v105, ()) w106)
 (rv Tryz.prog (bin .add 3 true s0.1 (.int .i64 1)) w87 fun v107 w108 =>
 K (.tuple #[s83.1, v107, (.int .i64 0)]) w108)

def J32_1 (K : Kont) (a0 : Value) (s0 : Value × Unit) (s39 : Value × Unit) (w40 : World) : Prop :=
 ∀ _ : Nat → Value,
 ifB s39.1
 (K (.tuple #[(.int .u64 0), (.int .i64 0), (.int .i64 5)]) w40)
 (LoopW (S := Value × Value × Unit) (L32_0 a0 s0 K) ((.int .u64 0), s0.1, ()) w40)

def J32_2 (s0 : Value × Unit) (K2 : Value × Unit → World → Prop) (a0 : Value) (K : Kont) (s3 : Value × Unit) (w4 : World) : Prop :=
 ∀ _ : Nat → Value,
 ifB s3.1
 (rv Tryz.prog (bin .add 3 true s0.1 (.int .i64 1)) w4 fun v26 w27 =>
 K2 (v26, ()) w27)
 (nilK a0 fun v28 => rv Tryz.prog (Instr.fieldAt 49 v28 0) w4 fun v29 w30 =>
 rv Tryz.prog (Instr.loadAt 23 v29) w30 fun v31 w32 =>
 rn Tryz.prog (builtin .len #[23] 3 #[false] #[v31]) w32 fun v33 w34 =>
 rv Tryz.prog (bin .geq 3 false s0.1 v33) w34 fun v35 w36 =>
 ifB v35
 (rv Tryz.prog (bin .geq 3 true s0.1 (.int .i64 10)) w36 fun v37 w38 =>
 ifB v37
 (K (.tuple #[(.int .u64 0), (.int .i64 0), (.int .i64 5)]) w38)
 (K (.tuple #[(.int .u64 0), (.int .i64 0), (.int .i64 4)]) w38))
 (JoinW (S := Value × Unit) (fun J41 =>
 rv Tryz.prog (bin .gtr 3 true s0.1 (.int .i64 9)) w36 fun v42 w43 =>
 ifB v42
 (J41 ((.bool true), ()) w43)
 (rv Tryz.prog (bin .eql 3 true s0.1 (.int .i64 9)) w43 fun v44 w45 =>
 ifB v44
 (nilK a0 fun v46 => rv Tryz.prog (Instr.fieldAt 49 v46 0) w45 fun v47 w48 =>
 rv Tryz.prog (Instr.loadAt 23 v47) w48 fun v49 w50 =>
 rv Tryz.prog (Instr.indexAt 23 v49 (.int .i64 9)) w50 fun v51 w52 =>
 rv Tryz.prog (Instr.loadAt 5 v51) w52 fun v53 w54 =>
 rv Tryz.prog (bin .gtr 5 true v53 (.int .u8 1)) w54 fun v55 w56 =>
 ifB v55
 (J41 ((.bool true), ()) w56)
 (rv Tryz.prog (bin .gtr 3 true s0.1 (.int .i64 0)) w56 fun v57 w58 =>
 ifB v57
 (nilK a0 fun v59 => rv Tryz.prog (Instr.fieldAt 49 v59 0) w58 fun v60 w61 =>
 rv Tryz.prog (Instr.loadAt 23 v60) w61 fun v62 w63 =>
 rv Tryz.prog (Instr.indexAt 23 v62 s0.1) w63 fun v64 w65 =>
 rv Tryz.prog (Instr.loadAt 5 v64) w65 fun v66 w67 =>
 rv Tryz.prog (bin .eql 5 true v66 (.int .u8 0)) w67 fun v68 w69 =>
 J41 (v68, ()) w69)
 (J41 ((.bool false), ()) w58)))
 (rv Tryz.prog (bin .gtr 3 true s0.1 (.int .i64 0)) w45 fun v70 w71 =>
 ifB v70
 (nilK a0 fun v72 => rv Tryz.prog (Instr.fieldAt 49 v72 0) w71 fun v73 w74 =>
 rv Tryz.prog (Instr.loadAt 23 v73) w74 fun v75 w76 =>
 rv Tryz.prog (Instr.indexAt 23 v75 s0.1) w76 fun v77 w78 =>
 rv Tryz.prog (Instr.loadAt 5 v77) w78 fun v79 w80 =>
 rv Tryz.prog (bin .eql 5 true v79 (.int .u8 0)) w80 fun v81 w82 =>
 J41 (v81, ()) w82)
 (J41 ((.bool false), ()) w71))))
 (J32_1 K a0 s0)))

def L32_3 (a0 : Value) (K : Kont) (s0 : Value × Unit) (w1 : World) (K2 : Value × Unit → World → Prop) : Prop :=
 ∀ _ : Nat → Value,
 JoinW (S := Value × Unit) (fun J5 =>
 nilK a0 fun v6 => rv Tryz.prog (Instr.fieldAt 49 v6 0) w1 fun v7 w8 =>
 rv Tryz.prog (Instr.loadAt 23 v7) w8 fun v9 w10 =>
 rn Tryz.prog (builtin .len #[23] 3 #[false] #[v9]) w10 fun v11 w12 =>
 rv Tryz.prog (bin .lss 3 false s0.1 v11) w12 fun v13 w14 =>
 ifB v13
 (nilK a0 fun v15 => rv Tryz.prog (Instr.fieldAt 49 v15 0) w14 fun v16 w17 =>
 rv Tryz.prog (Instr.loadAt 23 v16) w17 fun v18 w19 =>
 rv Tryz.prog (Instr.indexAt 23 v18 s0.1) w19 fun v20 w21 =>
 rv Tryz.prog (Instr.loadAt 5 v20) w21 fun v22 w23 =>
 rv Tryz.prog (bin .geq 5 true v22 (.int .u8 128)) w23 fun v24 w25 =>
 J5 (v24, ()) w25)
 (J5 ((.bool false), ()) w14))
 (J32_2 s0 K2 a0 K)

/-- (*broadside/broadsideref02.Reader).nat -/
def F32 (a0 : Value) (w : World) (K : Kont) : Prop :=
 LoopW (S := Value × Unit) (L32_3 a0 K) ((.int .i64 0), ()) w
theorem F32_eq (a0 : Value) (w : World) (K : Kont) : vcFnJ Tryz.prog Tryz.f32 [a0] w K = F32 a0 w K := by kernel_rfl
theorem F32_ok : okF Tryz.prog Tryz.f32 1 = true := by kernel_rfl
theorem ca32{a0 : Value} {w : World} {K : Kont} (h : F32 a0 w K) : Ca Tryz.prog 32 #[a0] w K :=
  ca_of_vcJ Tryz.noNum Tryz.func32 F32_ok (by rw [F32_eq]; exact h)


def J7_0 (v0 : Value) (K : Kont) (v6 : Value) (s23 : Value × Unit) (w24 : World) : Prop :=
 ∀ _ : Nat → Value,
 ifB s23.1
 (rv Tryz.prog (Instr.build 25 #[]) w24 fun v39 w40 =>
 ru Tryz.prog (Instr.storeAt 25 v0 v39) w40 fun w41 =>
 rdW Tryz.prog (Instr.loadAt 25 v0) w41 fun v42 =>
 K (.tuple #[v42, (.int .i64 5)]) w41)
 (rv Tryz.prog (Instr.loadAt 25 v6) w24 fun v43 w44 =>
 ru Tryz.prog (Instr.storeAt 25 v0 v43) w44 fun w45 =>
 rdW Tryz.prog (Instr.loadAt 25 v0) w45 fun v46 =>
 K (.tuple #[v46, (.int .i64 0)]) w45)

/-- broadside/broadsideref26.Read -/
def F7 (a0 : Value) (w : World) (K : Kont) : Prop :=
 rv Tryz.prog (Instr.alloc 25 true (.tuple #[])) w fun v0 w1 =>
 rv Tryz.prog (Instr.build 49 #[(0, a0)]) w1 fun v2 w3 =>
 rv Tryz.prog (Instr.box 49 v2) w3 fun v4 w5 =>
 rv Tryz.prog (Instr.alloc 25 true (.tuple #[])) w5 fun v6 w7 =>
 Ca Tryz.prog 20 #[v4] w7 fun v8 w9 =>
 rv Tryz.prog (Instr.fieldAt 25 v6 0) w9 fun v10 w11 =>
 ru Tryz.prog (Instr.storeAt 22 v10 v8) w11 fun w12 =>
 Ca Tryz.prog 20 #[v4] w12 fun v13 w14 =>
 rv Tryz.prog (Instr.fieldAt 25 v6 1) w14 fun v15 w16 =>
 ru Tryz.prog (Instr.storeAt 22 v15 v13) w16 fun w17 =>
 Ca Tryz.prog 21 #[v4, (.int .i64 2000)] w17 fun v18 w19 =>
 rv Tryz.prog (Instr.fieldAt 25 v6 2) w19 fun v20 w21 =>
 ru Tryz.prog (Instr.storeAt 23 v20 v18) w21 fun w22 =>
 JoinW (S := Value × Unit) (fun J25 =>
 Ca Tryz.prog 22 #[v4] w22.drew fun v26 w27 =>
 rdP Tryz.prog (bin .neq 27 true v26 (.int .i64 0)) fun v28 =>
 ifB v28
 (J25 ((.bool true), ()) w27)
 (rdW Tryz.prog (Instr.loadAt 25 v6) w27 fun v29 =>
 Ca Tryz.prog 8 #[v29] w27 fun v30 w31 =>
 rdP Tryz.prog (Op.unary .not v30) fun v32 =>
 ifB v32
 (J25 ((.bool true), ()) w31)
 (rdW Tryz.prog (Instr.loadAt 25 v6) w31 fun v33 =>
 rdX Tryz.prog (xConv 23 9 a0) w31 fun v34 =>
 Ca Tryz.prog 9 #[v33] w31 fun v35 w36 =>
 Sem.run Tryz.prog (xConv 23 9 a0) w36 = .ok v34 w36 ∧ 
 (rdX Tryz.prog (xConv 23 9 v35) w36 fun v37 =>
 rdP Tryz.prog (bin .neq 9 false v37 v34) fun v38 =>
 J25 (v38, ()) w36))))
 (J7_0 v0 K v6)
theorem F7_eq (a0 : Value) (w : World) (K : Kont) : vcFnJ Tryz.prog Tryz.f7 [a0] w K = F7 a0 w K := by kernel_rfl
theorem F7_ok : okF Tryz.prog Tryz.f7 1 = true := by kernel_rfl
theorem ca7{a0 : Value} {w : World} {K : Kont} (h : F7 a0 w K) : Ca Tryz.prog 7 #[a0] w K :=
  ca_of_vcJ Tryz.noNum Tryz.func7 F7_ok (by rw [F7_eq]; exact h)



/-- broadside/broadsideref26.May -/
def F8 (a0 : Value) (w : World) (K : Kont) : Prop :=
 rv Tryz.prog (Instr.box 25 a0) w fun v0 w1 =>
 rv Tryz.prog (Instr.fieldAt 25 v0 0) w1 fun v2 w3 =>
 rv Tryz.prog (Instr.loadAt 22 v2) w3 fun v4 w5 =>
 rv Tryz.prog (bin .lss 22 true v4 (.int .u64 64)) w5 fun v6 w7 =>
 ifB v6
 (rv Tryz.prog (Instr.fieldAt 25 v0 1) w7 fun v8 w9 =>
 rv Tryz.prog (Instr.loadAt 22 v8) w9 fun v10 w11 =>
 rv Tryz.prog (bin .neq 22 true v10 (.int .u64 0)) w11 fun v12 w13 =>
 ifB v12
 (rv Tryz.prog (Instr.fieldAt 25 v0 2) w13 fun v14 w15 =>
 rv Tryz.prog (Instr.loadAt 23 v14) w15 fun v16 w17 =>
 rn Tryz.prog (builtin .len #[23] 3 #[false] #[v16]) w17 fun v18 w19 =>
 rv Tryz.prog (bin .leq 3 true v18 (.int .i64 2000)) w19 fun v20 w21 =>
 K v20 w21)
 (K (.bool false) w13))
 (K (.bool false) w7)
theorem F8_eq (a0 : Value) (w : World) (K : Kont) : vcFnJ Tryz.prog Tryz.f8 [a0] w K = F8 a0 w K := by kernel_rfl
theorem F8_ok : okF Tryz.prog Tryz.f8 1 = true := by kernel_rfl
theorem ca8{a0 : Value} {w : World} {K : Kont} (h : F8 a0 w K) : Ca Tryz.prog 8 #[a0] w K :=
  ca_of_vcJ Tryz.noNum Tryz.func8 F8_ok (by rw [F8_eq]; exact h)



/-- broadside/broadsideref26.Bytes -/
def F9 (a0 : Value) (w : World) (K : Kont) : Prop :=
 rv Tryz.prog (Instr.box 25 a0) w fun v0 w1 =>
 rdP Tryz.prog (Instr.fieldAt 25 v0 0) fun v2 =>
 rdW Tryz.prog (Instr.loadAt 22 v2) w1.drew fun v3 =>
 rdP Tryz.prog (Instr.fieldAt 25 v0 1) fun v4 =>
 rdW Tryz.prog (Instr.loadAt 22 v4) w1.drew fun v5 =>
 Ca Tryz.prog 23 #[v3] w1.drew fun v6 w7 =>
 Sem.run Tryz.prog (Instr.loadAt 22 v4) w7 = .ok v5 w7 ∧ 
 (Ca Tryz.prog 23 #[v5] w7 fun v8 w9 =>
 rx Tryz.prog (xAppend #[23, 23] 23 [v6, v8]) w9 fun v10 w11 =>
 rv Tryz.prog (Instr.fieldAt 25 v0 2) w11 fun v12 w13 =>
 rv Tryz.prog (Instr.loadAt 23 v12) w13 fun v14 w15 =>
 Ca Tryz.prog 24 #[v14] w15 fun v16 w17 =>
 rx Tryz.prog (xAppend #[23, 23] 23 [v10, v16]) w17 fun v18 w19 =>
 K v18 w19)
theorem F9_eq (a0 : Value) (w : World) (K : Kont) : vcFnJ Tryz.prog Tryz.f9 [a0] w K = F9 a0 w K := by kernel_rfl
theorem F9_ok : okF Tryz.prog Tryz.f9 1 = true := by kernel_rfl
theorem ca9{a0 : Value} {w : World} {K : Kont} (h : F9 a0 w K) : Ca Tryz.prog 9 #[a0] w K :=
  ca_of_vcJ Tryz.noNum Tryz.func9 F9_ok (by rw [F9_eq]; exact h)


def J3_0 (K : Kont) (v0 : Value) (v41 : Value) (v39 : Value) (s61 : Value × Unit) (w62 : World) : Prop :=
 ∀ _ : Nat → Value,
 ifB s61.1
 (K (.bool false) w62)
 (rv Tryz.prog (Instr.loadAt 25 v0) w62 fun v110 w111 =>
 Ca Tryz.prog 8 #[v110] w111 fun v112 w113 =>
 rv Tryz.prog (Op.unary .not v112) w113 fun v114 w115 =>
 ifB v114
 (rv Tryz.prog (bin .eql 27 true v41 (.int .i64 2)) w115 fun v116 w117 =>
 ifB v116
 (rn Tryz.prog (builtin .len #[23] 3 #[false] #[v39]) w117 fun v118 w119 =>
 rv Tryz.prog (bin .eql 3 true v118 (.int .i64 0)) w119 fun v120 w121 =>
 ifB v120
 (Ca Tryz.prog 4 #[] w121 fun v122 w123 =>
 K v122 w123)
 (K (.bool false) w121))
 (K (.bool false) w117))
 (Ca Tryz.prog 6 #[v39] w115 fun v124 w125 =>
 rv Tryz.prog (Instr.extract v124 0) w125 fun v126 w127 =>
 rv Tryz.prog (Instr.extract v124 1) w127 fun v128 w129 =>
 rv Tryz.prog (Instr.alloc 25 true (.tuple #[])) w129 fun v130 w131 =>
 ru Tryz.prog (Instr.storeAt 25 v130 v126) w131 fun w132 =>
 rdP Tryz.prog (bin .eql 27 true v41 (.int .i64 0)) fun v133 =>
 ifB v133
 (rdP Tryz.prog (bin .eql 27 true v128 (.int .i64 0)) fun v134 =>
 ifB v134
 (rdX Tryz.prog (xConv 23 9 v39) w132.drew fun v135 =>
 rdW Tryz.prog (Instr.loadAt 25 v0) w132.drew fun v136 =>
 Ca Tryz.prog 9 #[v136] w132.drew fun v137 w138 =>
 Sem.run Tryz.prog (xConv 23 9 v39) w138 = .ok v135 w138 ∧ 
 (rdX Tryz.prog (xConv 23 9 v137) w138 fun v139 =>
 rdP Tryz.prog (bin .eql 9 false v135 v139) fun v140 =>
 ifB v140
 (rdP Tryz.prog (Instr.fieldAt 25 v130 0) fun v141 =>
 rdW Tryz.prog (Instr.loadAt 22 v141) w138 fun v142 =>
 rdP Tryz.prog (Instr.fieldAt 25 v0 0) fun v143 =>
 rdW Tryz.prog (Instr.loadAt 22 v143) w138 fun v144 =>
 rdP Tryz.prog (bin .eql 22 false v142 v144) fun v145 =>
 ifB v145
 (rdP Tryz.prog (Instr.fieldAt 25 v130 1) fun v146 =>
 rdW Tryz.prog (Instr.loadAt 22 v146) w138 fun v147 =>
 rdP Tryz.prog (Instr.fieldAt 25 v0 1) fun v148 =>
 rdW Tryz.prog (Instr.loadAt 22 v148) w138 fun v149 =>
 rdP Tryz.prog (bin .eql 22 false v147 v149) fun v150 =>
 ifB v150
 (rdP Tryz.prog (Instr.fieldAt 25 v130 2) fun v151 =>
 rdW Tryz.prog (Instr.loadAt 23 v151) w138 fun v152 =>
 rdX Tryz.prog (xConv 23 9 v152) w138 fun v153 =>
 rdP Tryz.prog (Instr.fieldAt 25 v0 2) fun v154 =>
 rdW Tryz.prog (Instr.loadAt 23 v154) w138 fun v155 =>
 rdX Tryz.prog (xConv 23 9 v155) w138 fun v156 =>
 rdP Tryz.prog (bin .eql 9 false v153 v156) fun v157 =>
 ifB v157
 (Ca Tryz.prog 4 #[] w138 fun v158 w159 =>
 K v158 w159)
 (K (.bool false) w138))
 (K (.bool false) w138))
 (K (.bool false) w138))
 (K (.bool false) w138)))
 (K (.bool false) w132.drew))
 (K (.bool false) w132.drew)))

def J3_1 (K : Kont) (v0 : Value) (a1 : Value) (s2 : Value × Unit) (w3 : World) : Prop :=
 ∀ _ : Nat → Value,
 ifB s2.1
 (Ca Tryz.prog 4 #[] w3 fun v17 w18 =>
 K v17 w18)
 (rx Tryz.prog (xLit 23 0 []) w3 fun v19 w20 =>
 rv Tryz.prog (Instr.fieldAt 25 v0 2) w20 fun v21 w22 =>
 rv Tryz.prog (Instr.loadAt 23 v21) w22 fun v23 w24 =>
 rx Tryz.prog (xAppend #[23, 23] 23 [v19, v23]) w24 fun v25 w26 =>
 rv Tryz.prog (Instr.fieldAt 25 v0 0) w26 fun v27 w28 =>
 rv Tryz.prog (Instr.loadAt 22 v27) w28 fun v29 w30 =>
 rv Tryz.prog (Instr.fieldAt 25 v0 1) w30 fun v31 w32 =>
 rv Tryz.prog (Instr.loadAt 22 v31) w32 fun v33 w34 =>
 rv Tryz.prog (Instr.build 25 #[(0, v29), (1, v33), (2, v25)]) w34 fun v35 w36 =>
 Ca Tryz.prog 5 #[v35] w36 fun v37 w38 =>
 rv Tryz.prog (Instr.extract v37 0) w38 fun v39 w40 =>
 rv Tryz.prog (Instr.extract v37 1) w40 fun v41 w42 =>
 Ca Tryz.prog 6 #[a1] w42 fun v43 w44 =>
 rv Tryz.prog (Instr.extract v43 0) w44 fun v45 w46 =>
 rv Tryz.prog (Instr.extract v43 1) w46 fun v47 w48 =>
 rv Tryz.prog (Instr.alloc 25 true (.tuple #[])) w48 fun v49 w50 =>
 ru Tryz.prog (Instr.storeAt 25 v49 v45) w50 fun w51 =>
 Ca Tryz.prog 7 #[a1] w51 fun v52 w53 =>
 rv Tryz.prog (Instr.extract v52 0) w53 fun v54 w55 =>
 rv Tryz.prog (Instr.extract v52 1) w55 fun v56 w57 =>
 rv Tryz.prog (Instr.alloc 25 true (.tuple #[])) w57 fun v58 w59 =>
 ru Tryz.prog (Instr.storeAt 25 v58 v54) w59 fun w60 =>
 JoinW (S := Value × Unit) (fun J63 =>
 rv Tryz.prog (Instr.fieldAt 25 v49 0) w60 fun v64 w65 =>
 rv Tryz.prog (Instr.loadAt 22 v64) w65 fun v66 w67 =>
 rv Tryz.prog (Instr.fieldAt 25 v58 0) w67 fun v68 w69 =>
 rv Tryz.prog (Instr.loadAt 22 v68) w69 fun v70 w71 =>
 rv Tryz.prog (bin .neq 22 false v66 v70) w71 fun v72 w73 =>
 ifB v72
 (J63 ((.bool true), ()) w73)
 (rv Tryz.prog (Instr.fieldAt 25 v49 1) w73 fun v74 w75 =>
 rv Tryz.prog (Instr.loadAt 22 v74) w75 fun v76 w77 =>
 rv Tryz.prog (Instr.fieldAt 25 v58 1) w77 fun v78 w79 =>
 rv Tryz.prog (Instr.loadAt 22 v78) w79 fun v80 w81 =>
 rv Tryz.prog (bin .neq 22 false v76 v80) w81 fun v82 w83 =>
 ifB v82
 (J63 ((.bool true), ()) w83)
 (rv Tryz.prog (Instr.fieldAt 25 v49 2) w83 fun v84 w85 =>
 rv Tryz.prog (Instr.loadAt 23 v84) w85 fun v86 w87 =>
 rx Tryz.prog (xConv 23 9 v86) w87 fun v88 w89 =>
 rv Tryz.prog (Instr.fieldAt 25 v58 2) w89 fun v90 w91 =>
 rv Tryz.prog (Instr.loadAt 23 v90) w91 fun v92 w93 =>
 rx Tryz.prog (xConv 23 9 v92) w93 fun v94 w95 =>
 rv Tryz.prog (bin .neq 9 false v88 v94) w95 fun v96 w97 =>
 ifB v96
 (J63 ((.bool true), ()) w97)
 (rv Tryz.prog (bin .neq 27 false v47 v56) w97 fun v98 w99 =>
 ifB v98
 (J63 ((.bool true), ()) w99)
 (rx Tryz.prog (xConv 23 9 v25) w99 fun v100 w101 =>
 rv Tryz.prog (Instr.fieldAt 25 v0 2) w101 fun v102 w103 =>
 rv Tryz.prog (Instr.loadAt 23 v102) w103 fun v104 w105 =>
 rx Tryz.prog (xConv 23 9 v104) w105 fun v106 w107 =>
 rv Tryz.prog (bin .neq 9 false v100 v106) w107 fun v108 w109 =>
 J63 (v108, ()) w109)))))
 (J3_0 K v0 v41 v39))

/-- broadside/broadsidelaw26.SessionTurns -/
def F3 (a0 a1 : Value) (w : World) (K : Kont) : Prop :=
 rv Tryz.prog (Instr.box 25 a0) w fun v0 w1 =>
 JoinW (S := Value × Unit) (fun J4 =>
 rv Tryz.prog (Instr.fieldAt 25 v0 2) w1 fun v5 w6 =>
 rv Tryz.prog (Instr.loadAt 23 v5) w6 fun v7 w8 =>
 rn Tryz.prog (builtin .len #[23] 3 #[false] #[v7]) w8 fun v9 w10 =>
 rv Tryz.prog (bin .gtr 3 true v9 (.int .i64 5000)) w10 fun v11 w12 =>
 ifB v11
 (J4 ((.bool true), ()) w12)
 (rn Tryz.prog (builtin .len #[23] 3 #[false] #[a1]) w12 fun v13 w14 =>
 rv Tryz.prog (bin .gtr 3 true v13 (.int .i64 5000)) w14 fun v15 w16 =>
 J4 (v15, ()) w16))
 (J3_1 K v0 a1)
theorem F3_eq (a0 a1 : Value) (w : World) (K : Kont) : vcFnJ Tryz.prog Tryz.f3 [a0, a1] w K = F3 a0 a1 w K := by kernel_rfl
theorem F3_ok : okF Tryz.prog Tryz.f3 2 = true := by kernel_rfl
theorem ca3{a0 a1 : Value} {w : World} {K : Kont} (h : F3 a0 a1 w K) : Ca Tryz.prog 3 #[a0, a1] w K :=
  ca_of_vcJ Tryz.noNum Tryz.func3 F3_ok (by rw [F3_eq]; exact h)



/-- broadside/broadsidelaw26.known -/
def F4 (w : World) (K : Kont) : Prop :=
 rx Tryz.prog (xLit 23 1 [(0, (.int .u8 120))]) w fun v0 w1 =>
 rx Tryz.prog (xConv 23 23 v0) w1 fun v2 w3 =>
 rv Tryz.prog (Instr.build 25 #[(0, (.int .u64 1)), (1, (.int .u64 2)), (2, v2)]) w3 fun v4 w5 =>
 Ca Tryz.prog 5 #[v4] w5 fun v6 w7 =>
 rv Tryz.prog (Instr.extract v6 0) w7 fun v8 w9 =>
 rv Tryz.prog (Instr.extract v6 1) w9 fun v10 w11 =>
 Ca Tryz.prog 10 #[] w11 fun v12 w13 =>
 Ca Tryz.prog 11 #[v12, v8] w13 fun v14 w15 =>
 rv Tryz.prog (Instr.extract v14 0) w15 fun v16 w17 =>
 rv Tryz.prog (Instr.extract v14 1) w17 fun v18 w19 =>
 rv Tryz.prog (Instr.extract v14 2) w19 fun v20 w21 =>
 rv Tryz.prog (bin .eql 27 true v10 (.int .i64 0)) w21 fun v22 w23 =>
 ifB v22
 (rx Tryz.prog (xConv 23 9 v8) w23 fun v24 w25 =>
 rv Tryz.prog (bin .eql 9 true v24 (.string ⟨#[1, 2, 1, 120]⟩)) w25 fun v26 w27 =>
 ifB v26
 (rv Tryz.prog (Op.unary .not v20) w27 fun v28 w29 =>
 ifB v28
 (Ca Tryz.prog 12 #[v12, (.int .u64 1)] w29 fun v30 w31 =>
 rv Tryz.prog (bin .eql 22 true v30 (.int .u64 0)) w31 fun v32 w33 =>
 K v32 w33)
 (K (.bool false) w29))
 (K (.bool false) w27))
 (K (.bool false) w23)
theorem F4_eq (w : World) (K : Kont) : vcFnJ Tryz.prog Tryz.f4 [] w K = F4  w K := by kernel_rfl
theorem F4_ok : okF Tryz.prog Tryz.f4 0 = true := by kernel_rfl
theorem ca4 {w : World} {K : Kont} (h : F4  w K) : Ca Tryz.prog 4 #[] w K :=
  ca_of_vcJ Tryz.noNum Tryz.func4 F4_ok (by rw [F4_eq]; exact h)


end Go.Proofs
