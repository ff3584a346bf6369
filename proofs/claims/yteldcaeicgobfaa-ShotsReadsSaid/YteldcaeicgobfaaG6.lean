/-
  Formulas of the program's functions, printed by a program of mine: each is what the computed precondition of the function's body comes to.
  Conditions: none.
-/
import Derived.Test.YteldcaeicgobfaaG0
import Derived.Test.YteldcaeicgobfaaVcFn
set_option linter.unusedSimpArgs false
set_option maxRecDepth 100000
set_option linter.unusedVariables false
namespace Go.Proofs
open Go Go.Vc


def J9_0 (K : Kont) (v2 : Value) (v0 : Value) (s4 : Value × Unit) (w5 : World) : Prop :=
 ∀ _ : Nat → Value,
 ifB s4.1
 (K (.bool false) w5)
 (Ca Try.prog 31 #[v2, (.int .i64 0)] w5 fun v17 w18 =>
 rv Try.prog (Instr.extract v17 0) w18 fun v19 w20 =>
 rv Try.prog (Instr.extract v17 1) w20 fun v21 w22 =>
 rv Try.prog (Instr.sliceAt 77 v0 none none none) w22 fun v23 w24 =>
 Ca Try.prog 39 #[v23] w24 fun v25 w26 =>
 rv Try.prog (Instr.extract v25 0) w26 fun v27 w28 =>
 rv Try.prog (Instr.extract v25 1) w28 fun v29 w30 =>
 rv Try.prog (Instr.alloc 59 true (.tuple #[])) w30 fun v31 w32 =>
 ru Try.prog (Instr.storeAt 59 v31 v29) w32 fun w33 =>
 Ca Try.prog 20 #[v2, (.int .i64 0), (.int .i64 0), (.int .i64 6)] w33 fun v34 w35 =>
 rv Try.prog (Instr.extract v34 0) w35 fun v36 w37 =>
 rv Try.prog (Instr.extract v34 1) w37 fun v38 w39 =>
 rdP Try.prog (bin .eql 28 true v21 (.int .i64 0)) fun v40 =>
 ifB v40
 (rdW Try.prog (Instr.loadAt 59 v31) w39.drew fun v41 =>
 Ca Try.prog 33 #[v19] w39.drew fun v42 w43 =>
 Sem.run Try.prog (Instr.loadAt 59 v31) w43 = .ok v41 w43 ∧ 
 (rdP Try.prog (bin .eql 59 false v42 v41) fun v44 =>
 ifB v44
 (Ca Try.prog 34 #[v19] w43 fun v45 w46 =>
 rdP Try.prog (bin .eql 27 false v45 v27) fun v47 =>
 ifB v47
 (rdP Try.prog (bin .eql 28 true v38 (.int .i64 0)) fun v48 =>
 ifB v48
 (rdX Try.prog (xConv 23 9 v36) w46 fun v49 =>
 rdP Try.prog (Instr.sliceAt 77 v0 none none none) fun v50 =>
 Ca Try.prog 40 #[v50] w46 fun v51 w52 =>
 Sem.run Try.prog (xConv 23 9 v36) w52 = .ok v49 w52 ∧ 
 (rdX Try.prog (xConv 23 9 v51) w52 fun v53 =>
 rdP Try.prog (bin .eql 9 false v49 v53) fun v54 =>
 ifB v54
 (Ca Try.prog 21 #[v2] w52 fun v55 w56 =>
 rdP Try.prog (bin .eql 3 true v55 (.int .i64 0)) fun v57 =>
 ifB v57
 (Ca Try.prog 35 #[] w56 fun v58 w59 =>
 K v58 w59)
 (K (.bool false) w56))
 (K (.bool false) w52)))
 (K (.bool false) w46))
 (K (.bool false) w46))
 (K (.bool false) w43)))
 (K (.bool false) w39.drew))

/-- broadside/broadsidelaw20.VoteReads -/
def F9 (a0 : Value) (w : World) (K : Kont) : Prop :=
 rv Try.prog (Instr.box 77 a0) w fun v0 w1 =>
 Ca Try.prog 15 #[] w1 fun v2 w3 =>
 JoinW (S := Value × Unit) (fun J6 =>
 rv Try.prog (Instr.sliceAt 77 v0 none none none) w3 fun v7 w8 =>
 Ca Try.prog 17 #[v2, (.int .i64 0), (.int .i64 0), v7] w8 fun v9 w10 =>
 rv Try.prog (bin .neq 28 true v9 (.int .i64 0)) w10 fun v11 w12 =>
 ifB v11
 (J6 ((.bool true), ()) w12)
 (Ca Try.prog 16 #[v2] w12 fun v13 w14 =>
 rv Try.prog (bin .neq 28 true v13 (.int .i64 0)) w14 fun v15 w16 =>
 J6 (v15, ()) w16))
 (J9_0 K v2 v0)
theorem F9_eq (a0 : Value) (w : World) (K : Kont) : vcFnJ Try.prog Try.f9 [a0] w K = F9 a0 w K := by kernel_rfl
theorem F9_ok : okF Try.prog Try.f9 1 = true := by kernel_rfl
theorem ca9{a0 : Value} {w : World} {K : Kont} (h : F9 a0 w K) : Ca Try.prog 9 #[a0] w K :=
  ca_of_vcJ Try.noNum Try.func9 F9_ok (by rw [F9_eq]; exact h)


def J39_0 (v0 : Value) (K : Kont) (v17 : Value) (v6 : Value) (v21 : Value) (v10 : Value) (s24 : Value × Unit) (w25 : World) : Prop :=
 ∀ _ : Nat → Value,
 ifB s24.1
 (rv Try.prog (Instr.build 59 #[(1, (.int .i8 (-1)))]) w25 fun v31 w32 =>
 ru Try.prog (Instr.storeAt 59 v0 v31) w32 fun w33 =>
 rdW Try.prog (Instr.loadAt 59 v0) w33 fun v34 =>
 K (.tuple #[(.int .u64 0), v34]) w33)
 (rv Try.prog (bin .gtr 27 false v17 v6) w25 fun v35 w36 =>
 ifB v35
 (rdW Try.prog (Instr.loadAt 59 v21) w36.drew fun v37 =>
 Sem.run Try.prog (Instr.loadAt 59 v21) w36.drew = .ok v37 w36.drew ∧ 
 (ru Try.prog (Instr.storeAt 59 v0 v37) w36.drew fun w38 =>
 rdW Try.prog (Instr.loadAt 59 v0) w38 fun v39 =>
 K (.tuple #[v17, v39]) w38))
 (rdW Try.prog (Instr.loadAt 59 v10) w36.drew fun v40 =>
 Sem.run Try.prog (Instr.loadAt 59 v10) w36.drew = .ok v40 w36.drew ∧ 
 (ru Try.prog (Instr.storeAt 59 v0 v40) w36.drew fun w41 =>
 rdW Try.prog (Instr.loadAt 59 v0) w41 fun v42 =>
 K (.tuple #[v6, v42]) w41)))

/-- broadside/broadsideref20.File -/
def F39 (a0 : Value) (w : World) (K : Kont) : Prop :=
 rv Try.prog (Instr.alloc 59 true (.tuple #[])) w fun v0 w1 =>
 rv Try.prog (Instr.sliceAt 23 a0 none (some (.int .i64 384)) none) w1 fun v2 w3 =>
 Ca Try.prog 70 #[v2] w3 fun v4 w5 =>
 rv Try.prog (Instr.extract v4 0) w5 fun v6 w7 =>
 rv Try.prog (Instr.extract v4 1) w7 fun v8 w9 =>
 rv Try.prog (Instr.alloc 59 true (.tuple #[])) w9 fun v10 w11 =>
 ru Try.prog (Instr.storeAt 59 v10 v8) w11 fun w12 =>
 rv Try.prog (Instr.sliceAt 23 a0 (some (.int .i64 384)) (some (.int .i64 768)) none) w12 fun v13 w14 =>
 Ca Try.prog 70 #[v13] w14 fun v15 w16 =>
 rv Try.prog (Instr.extract v15 0) w16 fun v17 w18 =>
 rv Try.prog (Instr.extract v15 1) w18 fun v19 w20 =>
 rv Try.prog (Instr.alloc 59 true (.tuple #[])) w20 fun v21 w22 =>
 ru Try.prog (Instr.storeAt 59 v21 v19) w22 fun w23 =>
 JoinW (S := Value × Unit) (fun J26 =>
 rv Try.prog (bin .eql 27 true v6 (.int .u64 0)) w23 fun v27 w28 =>
 ifB v27
 (rv Try.prog (bin .eql 27 true v17 (.int .u64 0)) w28 fun v29 w30 =>
 J26 (v29, ()) w30)
 (J26 ((.bool false), ()) w28))
 (J39_0 v0 K v17 v6 v21 v10)
theorem F39_eq (a0 : Value) (w : World) (K : Kont) : vcFnJ Try.prog Try.f39 [a0] w K = F39 a0 w K := by kernel_rfl
theorem F39_ok : okF Try.prog Try.f39 1 = true := by kernel_rfl
theorem ca39{a0 : Value} {w : World} {K : Kont} (h : F39 a0 w K) : Ca Try.prog 39 #[a0] w K :=
  ca_of_vcJ Try.noNum Try.func39 F39_ok (by rw [F39_eq]; exact h)


def J40_0 (s4 : Value × Unit) (s26 : Value × Unit) (v2 : Value) (K28 : Value × Unit → World → Prop) (K6 : Value × Unit → World → Prop) (s29 : Value × Unit) (w30 : World) : Prop :=
 ∀ _ : Nat → Value,
 ifB s29.1
 (rv Try.prog (bin .mul 3 true s4.1 (.int .i64 384)) w30 fun v36 w37 =>
 rv Try.prog (bin .add 3 false v36 s26.1) w37 fun v38 w39 =>
 rv Try.prog (Instr.indexAt 23 v2 v38) w39 fun v40 w41 =>
 ru Try.prog (Instr.storeAt 5 v40 (.int .u8 0)) w41 fun w42 =>
 rv Try.prog (bin .add 3 true s26.1 (.int .i64 1)) w42 fun v43 w44 =>
 K28 (v43, ()) w44)
 (rv Try.prog (bin .add 3 true s4.1 (.int .i64 1)) w30 fun v45 w46 =>
 K6 (v45, ()) w46)

def L40_1 (v19 : Value) (s4 : Value × Unit) (v2 : Value) (K6 : Value × Unit → World → Prop) (s26 : Value × Unit) (w27 : World) (K28 : Value × Unit → World → Prop) : Prop :=
 ∀ _ : Nat → Value,
 JoinW (S := Value × Unit) (fun J31 =>
 rv Try.prog (bin .lss 3 true s26.1 (.int .i64 384)) w27 fun v32 w33 =>
 ifB v32
 (rv Try.prog (bin .eql 27 true v19 (.int .u64 0)) w33 fun v34 w35 =>
 J31 (v34, ()) w35)
 (J31 ((.bool false), ()) w33))
 (J40_0 s4 s26 v2 K28 K6)

def L40_2 (a0 : Value) (v2 : Value) (K : Kont) (s4 : Value × Unit) (w5 : World) (K6 : Value × Unit → World → Prop) : Prop :=
 ∀ _ : Nat → Value,
 rv Try.prog (bin .lss 3 true s4.1 (.int .i64 2)) w5 fun v7 w8 =>
 ifB v7
 (rv Try.prog (bin .mul 3 true s4.1 (.int .i64 384)) w8 fun v9 w10 =>
 rv Try.prog (bin .add 3 true s4.1 (.int .i64 1)) w10 fun v11 w12 =>
 rv Try.prog (bin .mul 3 true v11 (.int .i64 384)) w12 fun v13 w14 =>
 rv Try.prog (Instr.sliceAt 23 a0 (some v9) (some v13) none) w14 fun v15 w16 =>
 Ca Try.prog 70 #[v15] w16 fun v17 w18 =>
 rv Try.prog (Instr.extract v17 0) w18 fun v19 w20 =>
 rv Try.prog (Instr.extract v17 1) w20 fun v21 w22 =>
 rv Try.prog (Instr.alloc 59 true (.tuple #[])) w22 fun v23 w24 =>
 ru Try.prog (Instr.storeAt 59 v23 v21) w24 fun w25 =>
 LoopW (S := Value × Unit) (L40_1 v19 s4 v2 K6) ((.int .i64 0), ()) w25)
 (K v2 w8)

/-- broadside/broadsideref20.Clean -/
def F40 (a0 : Value) (w : World) (K : Kont) : Prop :=
 rx Try.prog (xLit 23 0 []) w fun v0 w1 =>
 rx Try.prog (xAppend #[23, 23] 23 [v0, a0]) w1 fun v2 w3 =>
 LoopW (S := Value × Unit) (L40_2 a0 v2 K) ((.int .i64 0), ()) w3
theorem F40_eq (a0 : Value) (w : World) (K : Kont) : vcFnJ Try.prog Try.f40 [a0] w K = F40 a0 w K := by kernel_rfl
theorem F40_ok : okF Try.prog Try.f40 1 = true := by kernel_rfl
theorem ca40{a0 : Value} {w : World} {K : Kont} (h : F40 a0 w K) : Ca Try.prog 40 #[a0] w K :=
  ca_of_vcJ Try.noNum Try.func40 F40_ok (by rw [F40_eq]; exact h)


def J70_0 (v0 : Value) (K : Kont) (s6 : Value × Unit) (v4 : Value) (s52 : Value × Unit) (w53 : World) : Prop :=
 ∀ _ : Nat → Value,
 ifB s52.1
 (rv Try.prog (Instr.build 59 #[]) w53 fun v66 w67 =>
 ru Try.prog (Instr.storeAt 59 v0 v66) w67 fun w68 =>
 rdW Try.prog (Instr.loadAt 59 v0) w68 fun v69 =>
 K (.tuple #[(.int .u64 0), v69]) w68)
 (rdW Try.prog (Instr.loadAt 59 s6.1) w53.drew fun v70 =>
 Sem.run Try.prog (Instr.loadAt 59 s6.1) w53.drew = .ok v70 w53.drew ∧ 
 (ru Try.prog (Instr.storeAt 59 v0 v70) w53.drew fun w71 =>
 rdW Try.prog (Instr.loadAt 59 v0) w71 fun v72 =>
 K (.tuple #[v4, v72]) w71))

def J70_1 (v4 : Value) (a0 : Value) (v0 : Value) (K : Kont) (s6 : Value × Unit) (w7 : World) : Prop :=
 ∀ _ : Nat → Value,
 JoinW (S := Value × Unit) (fun J54 =>
 rdP Try.prog (bin .eql 27 true v4 (.int .u64 0)) fun v55 =>
 ifB v55
 (J54 ((.bool true), ()) w7.drew)
 (rdW Try.prog (Instr.loadAt 59 s6.1) w7.drew fun v56 =>
 Ca Try.prog 38 #[v56] w7.drew fun v57 w58 =>
 rdP Try.prog (Op.unary .not v57) fun v59 =>
 ifB v59
 (J54 ((.bool true), ()) w58)
 (rdX Try.prog (xConv 23 9 a0) w58 fun v60 =>
 rdW Try.prog (Instr.loadAt 59 s6.1) w58 fun v61 =>
 Ca Try.prog 89 #[v4, v61] w58 fun v62 w63 =>
 Sem.run Try.prog (xConv 23 9 a0) w63 = .ok v60 w63 ∧ 
 (rdX Try.prog (xConv 23 9 v62) w63 fun v64 =>
 rdP Try.prog (bin .neq 9 false v60 v64) fun v65 =>
 J54 (v65, ()) w63))))
 (J70_0 v0 K s6 v4)

/-- broadside/broadsideref20.Place -/
def F70 (a0 : Value) (w : World) (K : Kont) : Prop :=
 rv Try.prog (Instr.alloc 59 true (.tuple #[])) w fun v0 w1 =>
 rv Try.prog (Instr.sliceAt 23 a0 (some (.int .i64 1)) none none) w1 fun v2 w3 =>
 Ca Try.prog 88 #[v2] w3 fun v4 w5 =>
 JoinW (S := Value × Unit) (fun J8 =>
 rdP Try.prog (Instr.sliceAt 23 a0 (some (.int .i64 9)) none none) fun v9 =>
 rdP Try.prog (Instr.indexAt 23 a0 (.int .i64 17)) fun v10 =>
 rdW Try.prog (Instr.loadAt 5 v10) w5.drew fun v11 =>
 rdW Try.prog (convert 5 57 v11) w5.drew fun v12 =>
 rdP Try.prog (bin .sub 57 true v12 (.int .i8 1)) fun v13 =>
 rdP Try.prog (Instr.indexAt 23 a0 (.int .i64 18)) fun v14 =>
 rdW Try.prog (Instr.loadAt 5 v14) w5.drew fun v15 =>
 rdP Try.prog (Instr.sliceAt 23 a0 (some (.int .i64 19)) none none) fun v16 =>
 rdP Try.prog (Instr.sliceAt 23 a0 (some (.int .i64 27)) none none) fun v17 =>
 (Ca Try.prog 88 #[v9] w5.drew fun v18 w19 =>
 Sem.run Try.prog (Instr.loadAt 5 v14) w19 = .ok v15 w19 ∧ Sem.run Try.prog (convert 5 57 v11) w19 = .ok v12 w19 ∧ Sem.run Try.prog (Instr.loadAt 5 v10) w19 = .ok v11 w19 ∧ 
 ((Ca Try.prog 88 #[v16] w19 fun v20 w21 =>
 Sem.run Try.prog (Instr.loadAt 5 v14) w21 = .ok v15 w21 ∧ Sem.run Try.prog (convert 5 57 v11) w21 = .ok v12 w21 ∧ Sem.run Try.prog (Instr.loadAt 5 v10) w21 = .ok v11 w21 ∧ 
 ((Ca Try.prog 88 #[v17] w21 fun v22 w23 =>
 Sem.run Try.prog (Instr.loadAt 5 v14) w23 = .ok v15 w23 ∧ Sem.run Try.prog (convert 5 57 v11) w23 = .ok v12 w23 ∧ Sem.run Try.prog (Instr.loadAt 5 v10) w23 = .ok v11 w23 ∧ 
 (rdP Try.prog (Instr.build 59 #[(0, v18), (1, v13), (2, v15), (3, v20), (4, v22)]) fun v24 =>
 rv Try.prog (Instr.alloc 59 true (.tuple #[])) w23 fun v25 w26 =>
 Sem.run Try.prog (Instr.loadAt 5 v14) w26 = .ok v15 w26 ∧ Sem.run Try.prog (convert 5 57 v11) w26 = .ok v12 w26 ∧ Sem.run Try.prog (Instr.loadAt 5 v10) w26 = .ok v11 w26 ∧ 
 (ru Try.prog (Instr.storeAt 59 v25 v24) w26 fun w27 =>
 J8 (v25, ()) w27)))
 ∧ (rv Try.prog (Instr.alloc 59 true (.tuple #[])) w21 fun v28 w29 =>
 Sem.run Try.prog (Instr.loadAt 5 v14) w29 = .ok v15 w29 ∧ Sem.run Try.prog (convert 5 57 v11) w29 = .ok v12 w29 ∧ Sem.run Try.prog (Instr.loadAt 5 v10) w29 = .ok v11 w29 ∧ 
 (Ca Try.prog 88 #[v17] w29 fun v30 w31 =>
 Sem.run Try.prog (Instr.loadAt 5 v14) w31 = .ok v15 w31 ∧ Sem.run Try.prog (convert 5 57 v11) w31 = .ok v12 w31 ∧ Sem.run Try.prog (Instr.loadAt 5 v10) w31 = .ok v11 w31 ∧ 
 (rdP Try.prog (Instr.build 59 #[(0, v18), (1, v13), (2, v15), (3, v20), (4, v30)]) fun v32 =>
 ru Try.prog (Instr.storeAt 59 v28 v32) w31 fun w33 =>
 J8 (v28, ()) w33)))))
 ∧ (rv Try.prog (Instr.alloc 59 true (.tuple #[])) w19 fun v34 w35 =>
 Sem.run Try.prog (Instr.loadAt 5 v14) w35 = .ok v15 w35 ∧ Sem.run Try.prog (convert 5 57 v11) w35 = .ok v12 w35 ∧ Sem.run Try.prog (Instr.loadAt 5 v10) w35 = .ok v11 w35 ∧ 
 (Ca Try.prog 88 #[v16] w35 fun v36 w37 =>
 Sem.run Try.prog (Instr.loadAt 5 v14) w37 = .ok v15 w37 ∧ Sem.run Try.prog (convert 5 57 v11) w37 = .ok v12 w37 ∧ Sem.run Try.prog (Instr.loadAt 5 v10) w37 = .ok v11 w37 ∧ 
 (Ca Try.prog 88 #[v17] w37 fun v38 w39 =>
 Sem.run Try.prog (Instr.loadAt 5 v14) w39 = .ok v15 w39 ∧ Sem.run Try.prog (convert 5 57 v11) w39 = .ok v12 w39 ∧ Sem.run Try.prog (Instr.loadAt 5 v10) w39 = .ok v11 w39 ∧ 
 (rdP Try.prog (Instr.build 59 #[(0, v18), (1, v13), (2, v15), (3, v36), (4, v38)]) fun v40 =>
 ru Try.prog (Instr.storeAt 59 v34 v40) w39 fun w41 =>
 J8 (v34, ()) w41))))))
 ∧ (rv Try.prog (Instr.alloc 59 true (.tuple #[])) w5.drew fun v42 w43 =>
 Sem.run Try.prog (Instr.loadAt 5 v14) w43 = .ok v15 w43 ∧ Sem.run Try.prog (convert 5 57 v11) w43 = .ok v12 w43 ∧ Sem.run Try.prog (Instr.loadAt 5 v10) w43 = .ok v11 w43 ∧ 
 (Ca Try.prog 88 #[v9] w43 fun v44 w45 =>
 Sem.run Try.prog (Instr.loadAt 5 v14) w45 = .ok v15 w45 ∧ Sem.run Try.prog (convert 5 57 v11) w45 = .ok v12 w45 ∧ Sem.run Try.prog (Instr.loadAt 5 v10) w45 = .ok v11 w45 ∧ 
 (Ca Try.prog 88 #[v16] w45 fun v46 w47 =>
 Sem.run Try.prog (Instr.loadAt 5 v14) w47 = .ok v15 w47 ∧ Sem.run Try.prog (convert 5 57 v11) w47 = .ok v12 w47 ∧ Sem.run Try.prog (Instr.loadAt 5 v10) w47 = .ok v11 w47 ∧ 
 (Ca Try.prog 88 #[v17] w47 fun v48 w49 =>
 Sem.run Try.prog (Instr.loadAt 5 v14) w49 = .ok v15 w49 ∧ Sem.run Try.prog (convert 5 57 v11) w49 = .ok v12 w49 ∧ Sem.run Try.prog (Instr.loadAt 5 v10) w49 = .ok v11 w49 ∧ 
 (rdP Try.prog (Instr.build 59 #[(0, v44), (1, v13), (2, v15), (3, v46), (4, v48)]) fun v50 =>
 ru Try.prog (Instr.storeAt 59 v42 v50) w49 fun w51 =>
 J8 (v42, ()) w51))))))
 (J70_1 v4 a0 v0 K)
theorem F70_eq (a0 : Value) (w : World) (K : Kont) : vcFnJ Try.prog Try.f70 [a0] w K = F70 a0 w K := by kernel_rfl
theorem F70_ok : okF Try.prog Try.f70 1 = true := by kernel_rfl
theorem ca70{a0 : Value} {w : World} {K : Kont} (h : F70 a0 w K) : Ca Try.prog 70 #[a0] w K :=
  ca_of_vcJ Try.noNum Try.func70 F70_ok (by rw [F70_eq]; exact h)



/-- broadside/broadsideref20.Form -/
def F89 (a0 a1 : Value) (w : World) (K : Kont) : Prop :=
 rv Try.prog (Instr.box 59 a1) w fun v0 w1 =>
 rdW Try.prog (Instr.loadAt 59 v0) w1.drew fun v2 =>
 rdW Try.prog (Instr.loadAt 59 v0) w1.drew fun v3 =>
 rdW Try.prog (Instr.loadAt 59 v0) w1.drew fun v4 =>
 Ca Try.prog 100 #[(.int .u8 1), a0, v2] w1.drew fun v5 w6 =>
 Sem.run Try.prog (Instr.loadAt 59 v0) w6 = .ok v4 w6 ∧ Sem.run Try.prog (Instr.loadAt 59 v0) w6 = .ok v3 w6 ∧ 
 (Ca Try.prog 100 #[(.int .u8 2), a0, v3] w6 fun v7 w8 =>
 Sem.run Try.prog (Instr.loadAt 59 v0) w8 = .ok v4 w8 ∧ 
 (rx Try.prog (xAppend #[23, 23] 23 [v5, v7]) w8 fun v9 w10 =>
 Sem.run Try.prog (Instr.loadAt 59 v0) w10 = .ok v4 w10 ∧ 
 (Ca Try.prog 100 #[(.int .u8 3), a0, v4] w10 fun v11 w12 =>
 rx Try.prog (xAppend #[23, 23] 23 [v9, v11]) w12 fun v13 w14 =>
 K v13 w14)))
theorem F89_eq (a0 a1 : Value) (w : World) (K : Kont) : vcFnJ Try.prog Try.f89 [a0, a1] w K = F89 a0 a1 w K := by kernel_rfl
theorem F89_ok : okF Try.prog Try.f89 2 = true := by kernel_rfl
theorem ca89{a0 a1 : Value} {w : World} {K : Kont} (h : F89 a0 a1 w K) : Ca Try.prog 89 #[a0, a1] w K :=
  ca_of_vcJ Try.noNum Try.func89 F89_ok (by rw [F89_eq]; exact h)



/-- broadside/broadsideref20.Sector -/
def F100 (a0 a1 a2 : Value) (w : World) (K : Kont) : Prop :=
 rv Try.prog (Instr.box 59 a2) w fun v0 w1 =>
 rdP Try.prog (Instr.fieldAt 59 v0 0) fun v2 =>
 rdW Try.prog (Instr.loadAt 27 v2) w1.drew fun v3 =>
 Ca Try.prog 104 #[a1] w1.drew fun v4 w5 =>
 Sem.run Try.prog (Instr.loadAt 27 v2) w5 = .ok v3 w5 ∧ 
 (Ca Try.prog 104 #[v3] w5 fun v6 w7 =>
 rx Try.prog (xAppend #[23, 23] 23 [v4, v6]) w7 fun v8 w9 =>
 rv Try.prog (Instr.fieldAt 59 v0 1) w9 fun v10 w11 =>
 rv Try.prog (Instr.loadAt 57 v10) w11 fun v12 w13 =>
 rv Try.prog (bin .add 57 true v12 (.int .i8 1)) w13 fun v14 w15 =>
 rv Try.prog (convert 57 5 v14) w15 fun v16 w17 =>
 rv Try.prog (Instr.fieldAt 59 v0 2) w17 fun v18 w19 =>
 rv Try.prog (Instr.loadAt 5 v18) w19 fun v20 w21 =>
 rx Try.prog (xLit 23 2 [(0, v16), (1, v20)]) w21 fun v22 w23 =>
 rx Try.prog (xAppend #[23, 23] 23 [v8, v22]) w23 fun v24 w25 =>
 rv Try.prog (Instr.fieldAt 59 v0 3) w25 fun v26 w27 =>
 rv Try.prog (Instr.loadAt 27 v26) w27 fun v28 w29 =>
 Ca Try.prog 104 #[v28] w29 fun v30 w31 =>
 rx Try.prog (xAppend #[23, 23] 23 [v24, v30]) w31 fun v32 w33 =>
 rv Try.prog (Instr.fieldAt 59 v0 4) w33 fun v34 w35 =>
 rv Try.prog (Instr.loadAt 27 v34) w35 fun v36 w37 =>
 Ca Try.prog 104 #[v36] w37 fun v38 w39 =>
 rx Try.prog (xAppend #[23, 23] 23 [v32, v38]) w39 fun v40 w41 =>
 Ca Try.prog 98 #[v40] w41 fun v42 w43 =>
 rx Try.prog (xLit 23 1 [(0, a0)]) w43 fun v44 w45 =>
 rx Try.prog (xAppend #[23, 23] 23 [v44, v40]) w45 fun v46 w47 =>
 rv Try.prog (bin .shr 150 true v42 (.int .u64 24)) w47 fun v48 w49 =>
 rv Try.prog (convert 150 5 v48) w49 fun v50 w51 =>
 rv Try.prog (bin .shr 150 true v42 (.int .u64 16)) w51 fun v52 w53 =>
 rv Try.prog (convert 150 5 v52) w53 fun v54 w55 =>
 rv Try.prog (bin .shr 150 true v42 (.int .u64 8)) w55 fun v56 w57 =>
 rv Try.prog (convert 150 5 v56) w57 fun v58 w59 =>
 rv Try.prog (convert 150 5 v42) w59 fun v60 w61 =>
 rx Try.prog (xLit 23 4 [(0, v50), (1, v54), (2, v58), (3, v60)]) w61 fun v62 w63 =>
 rx Try.prog (xAppend #[23, 23] 23 [v46, v62]) w63 fun v64 w65 =>
 rn Try.prog (builtin .len #[23] 3 #[false] #[v64]) w65 fun v66 w67 =>
 rv Try.prog (bin .sub 3 true (.int .i64 128) v66) w67 fun v68 w69 =>
 rx Try.prog (xAppend #[23, 3] 23 [v64, v68]) w69 fun v70 w71 =>
 K v70 w71)
theorem F100_eq (a0 a1 a2 : Value) (w : World) (K : Kont) : vcFnJ Try.prog Try.f100 [a0, a1, a2] w K = F100 a0 a1 a2 w K := by kernel_rfl
theorem F100_ok : okF Try.prog Try.f100 3 = true := by kernel_rfl
theorem ca100{a0 a1 a2 : Value} {w : World} {K : Kont} (h : F100 a0 a1 a2 w K) : Ca Try.prog 100 #[a0, a1, a2] w K :=
  ca_of_vcJ Try.noNum Try.func100 F100_ok (by rw [F100_eq]; exact h)


def L104_0 (a0 : Value) (K : Kont) (s0 : Value × Value × Unit) (w1 : World) (K2 : Value × Value × Unit → World → Prop) : Prop :=
 ∀ _ : Nat → Value,
 rv Try.prog (bin .geq 3 true s0.2.1 (.int .i64 0)) w1 fun v3 w4 =>
 ifB v3
 (rv Try.prog (bin .mul 3 true (.int .i64 8) s0.2.1) w4 fun v5 w6 =>
 rv Try.prog (convert 3 156 v5) w6 fun v7 w8 =>
 rv Try.prog (bin .shr 27 false a0 v7) w8 fun v9 w10 =>
 rv Try.prog (convert 27 5 v9) w10 fun v11 w12 =>
 rx Try.prog (xLit 23 1 [(0, v11)]) w12 fun v13 w14 =>
 rx Try.prog (xAppend #[23, 23] 23 [s0.1, v13]) w14 fun v15 w16 =>
 rv Try.prog (bin .sub 3 true s0.2.1 (.int .i64 1)) w16 fun v17 w18 =>
 K2 (v15, v17, ()) w18)
 (K s0.1 w4)

/-- broadside/broadsideref20.number -/
def F104 (a0 : Value) (w : World) (K : Kont) : Prop :=
 LoopW (S := Value × Value × Unit) (L104_0 a0 K) ((.slice none 0 0), (.int .i64 7), ()) w
theorem F104_eq (a0 : Value) (w : World) (K : Kont) : vcFnJ Try.prog Try.f104 [a0] w K = F104 a0 w K := by kernel_rfl
theorem F104_ok : okF Try.prog Try.f104 1 = true := by kernel_rfl
theorem ca104{a0 : Value} {w : World} {K : Kont} (h : F104 a0 w K) : Ca Try.prog 104 #[a0] w K :=
  ca_of_vcJ Try.noNum Try.func104 F104_ok (by rw [F104_eq]; exact h)


def L88_0 (a0 : Value) (K : Kont) (s0 : Value × Value × Unit) (w1 : World) (K2 : Value × Value × Unit → World → Prop) : Prop :=
 ∀ _ : Nat → Value,
 rv Try.prog (bin .lss 3 true s0.2.1 (.int .i64 8)) w1 fun v3 w4 =>
 ifB v3
 (rv Try.prog (bin .mul 27 true s0.1 (.int .u64 256)) w4 fun v5 w6 =>
 rv Try.prog (Instr.indexAt 23 a0 s0.2.1) w6 fun v7 w8 =>
 rv Try.prog (Instr.loadAt 5 v7) w8 fun v9 w10 =>
 rv Try.prog (convert 5 27 v9) w10 fun v11 w12 =>
 rv Try.prog (bin .add 27 false v5 v11) w12 fun v13 w14 =>
 rv Try.prog (bin .add 3 true s0.2.1 (.int .i64 1)) w14 fun v15 w16 =>
 K2 (v13, v15, ()) w16)
 (K s0.1 w4)

/-- broadside/broadsideref20.of -/
def F88 (a0 : Value) (w : World) (K : Kont) : Prop :=
 LoopW (S := Value × Value × Unit) (L88_0 a0 K) ((.int .u64 0), (.int .i64 0), ()) w
theorem F88_eq (a0 : Value) (w : World) (K : Kont) : vcFnJ Try.prog Try.f88 [a0] w K = F88 a0 w K := by kernel_rfl
theorem F88_ok : okF Try.prog Try.f88 1 = true := by kernel_rfl
theorem ca88{a0 : Value} {w : World} {K : Kont} (h : F88 a0 w K) : Ca Try.prog 88 #[a0] w K :=
  ca_of_vcJ Try.noNum Try.func88 F88_ok (by rw [F88_eq]; exact h)



/-- broadside/broadsideref03.Sum -/
def F98 (a0 : Value) (w : World) (K : Kont) : Prop :=
 Ca Try.prog 103 #[(.int .u32 4294967295), a0] w fun v0 w1 =>
 rv Try.prog (Op.unary .xor v0) w1 fun v2 w3 =>
 K v2 w3
theorem F98_eq (a0 : Value) (w : World) (K : Kont) : vcFnJ Try.prog Try.f98 [a0] w K = F98 a0 w K := by kernel_rfl
theorem F98_ok : okF Try.prog Try.f98 1 = true := by kernel_rfl
theorem ca98{a0 : Value} {w : World} {K : Kont} (h : F98 a0 w K) : Ca Try.prog 98 #[a0] w K :=
  ca_of_vcJ Try.noNum Try.func98 F98_ok (by rw [F98_eq]; exact h)


def J103_0 (s0 : Value × Value × Unit) (K2 : Value × Value × Unit → World → Prop) (s9 : Value × Unit) (w10 : World) : Prop :=
 ∀ _ : Nat → Value,
 rv Try.prog (bin .add 3 true s0.2.1 (.int .i64 1)) w10 fun v34 w35 =>
 K2 (s9.1, v34, ()) w35

def L103_1 (a1 : Value) (K : Kont) (s0 : Value × Value × Unit) (w1 : World) (K2 : Value × Value × Unit → World → Prop) : Prop :=
 ∀ _ : Nat → Value,
 rn Try.prog (builtin .len #[23] 3 #[false] #[a1]) w1 fun v3 w4 =>
 rv Try.prog (bin .mul 3 true (.int .i64 8) v3) w4 fun v5 w6 =>
 rv Try.prog (bin .lss 3 false s0.2.1 v5) w6 fun v7 w8 =>
 ifB v7
 (JoinW (S := Value × Unit) (fun J11 =>
 rv Try.prog (bin .quo 3 true s0.2.1 (.int .i64 8)) w8 fun v12 w13 =>
 rv Try.prog (Instr.indexAt 23 a1 v12) w13 fun v14 w15 =>
 rv Try.prog (Instr.loadAt 5 v14) w15 fun v16 w17 =>
 rv Try.prog (bin .rem 3 true s0.2.1 (.int .i64 8)) w17 fun v18 w19 =>
 rv Try.prog (bin .shr 5 false v16 v18) w19 fun v20 w21 =>
 rv Try.prog (convert 5 150 v20) w21 fun v22 w23 =>
 rv Try.prog (bin .rem 150 true v22 (.int .u32 2)) w23 fun v24 w25 =>
 rv Try.prog (bin .rem 150 true s0.1 (.int .u32 2)) w25 fun v26 w27 =>
 rv Try.prog (bin .quo 150 true s0.1 (.int .u32 2)) w27 fun v28 w29 =>
 rv Try.prog (bin .neq 150 false v26 v24) w29 fun v30 w31 =>
 ifB v30
 (rv Try.prog (bin .xor 150 true v28 (.int .u32 3988292384)) w31 fun v32 w33 =>
 J11 (v32, ()) w33)
 (J11 (v28, ()) w31))
 (J103_0 s0 K2))
 (K s0.1 w8)

/-- broadside/broadsideref03.Steps -/
def F103 (a0 a1 : Value) (w : World) (K : Kont) : Prop :=
 LoopW (S := Value × Value × Unit) (L103_1 a1 K) (a0, (.int .i64 0), ()) w
theorem F103_eq (a0 a1 : Value) (w : World) (K : Kont) : vcFnJ Try.prog Try.f103 [a0, a1] w K = F103 a0 a1 w K := by kernel_rfl
theorem F103_ok : okF Try.prog Try.f103 2 = true := by kernel_rfl
theorem ca103{a0 a1 : Value} {w : World} {K : Kont} (h : F103 a0 a1 w K) : Ca Try.prog 103 #[a0, a1] w K :=
  ca_of_vcJ Try.noNum Try.func103 F103_ok (by rw [F103_eq]; exact h)


end Go.Proofs
