/-
  The ledger's iterators: comparisons of the sorts, what is told.
  Conditions: where they ask for any, each theorem names them.
-/
import Derived.Test.YtanjfianhnhhmaaLedC
import Derived.Test.YtanjfianhnhhmaaLedS
set_option linter.unusedVariables false
set_option linter.unusedSimpArgs false
namespace Go.Proofs
open Go Go.Vc Go.Sort

theorem grow_alloc2 (W : World) (o o' : Obj) : ∃ q os, (W.alloc o).alloc o' = grow (W.drewN q) os :=
  ⟨0, #[o] ++ #[o'], by rw [alloc_eq_grow, alloc_eq_grow, grow_grow]; rfl⟩

def cmpAc (x y : Ac) : Int := if x.num < y.num then -1 else 1
def cmpPo (x y : Po) : Int := if klt x.key y.key then -1 else if x = y then 0 else 1
theorem ltAc (x y : Ac) : ltOf cmpAc x y = decide (x.num < y.num) := by
  unfold ltOf cmpAc
  split <;> simp_all
theorem ltPo (x y : Po) : ltOf cmpPo x y = klt x.key y.key := by
  unfold ltOf cmpPo
  cases h : klt x.key y.key
  · by_cases h2 : x = y <;> simp [h2]
  · simp
theorem swoAc : SWO (ltOf cmpAc) where
  irrefl x := by rw [ltAc]; simp
  trans x y z h1 h2 := by rw [ltAc] at *; simp at *; omega
  ntrans x y z h1 h2 := by rw [ltAc] at *; simp at *; omega
theorem swoPo : SWO (ltOf cmpPo) where
  irrefl x := by rw [ltPo]; exact klt_irr
  trans x y z h1 h2 := by rw [ltPo] at *; exact klt_trans h1 h2
  ntrans x y z h1 h2 := by
    rw [ltPo] at *
    rw [Bool.eq_false_iff, Ne, klt_iff] at *; omega

theorem ca_cmpAc (x y : Ac) (W : World) : Ca Try.prog 43 #[.agg (cellsAc x).toArray, .agg (cellsAc y).toArray] W fun v w' => v = .int .i64 (cmpAc x y) ∧ ∃ q os, w' = grow (W.drewN q) os := by
  apply ca43
  unfold F43
  simp [go_sem, cellsAc]
  unfold cmpAc
  split
  · exact ⟨rfl, grow_alloc2 ..⟩
  · exact ⟨rfl, grow_alloc2 ..⟩

theorem uPo : Try.prog.underlying 31 = some (.struct (Try.prog.fieldsOf 31)) := by kernel_rfl
theorem fPo : Try.prog.fieldsOf 31 = #[{ name := "Contract", type := 22, offset := 0, embedded := false, tag := "", pkgPath := "", byteOffset := 0 }, { name := "Account", type := 22, offset := 1, embedded := false, tag := "", pkgPath := "", byteOffset := 4 },
    { name := "Q", type := 2, offset := 2, embedded := false, tag := "", pkgPath := "", byteOffset := 8 }, { name := "Basis", type := 2, offset := 3, embedded := false, tag := "", pkgPath := "", byteOffset := 16 }] := by kernel_rfl
theorem uAc : Try.prog.underlying 34 = some (.struct (Try.prog.fieldsOf 34)) := by kernel_rfl
theorem fAc : Try.prog.fieldsOf 34 = #[{ name := "Number", type := 22, offset := 0, embedded := false, tag := "", pkgPath := "", byteOffset := 0 }, { name := "Cash", type := 2, offset := 1, embedded := false, tag := "", pkgPath := "", byteOffset := 8 },
    { name := "Killed", type := 4, offset := 2, embedded := false, tag := "", pkgPath := "", byteOffset := 16 }, { name := "Default", type := 4, offset := 3, embedded := false, tag := "", pkgPath := "", byteOffset := 17 }] := by kernel_rfl
theorem eqPo (w : World) (x y : Po) : (Op.equal 31 (poV x) (poV y)).run Try.prog w = .ok (decide (x = y)) w := by
  have h : Try.prog.stoodInHeld 31 = false := by kernel_rfl
  obtain ⟨c, a, q, b⟩ := x
  obtain ⟨c', a', q', b'⟩ := y
  unfold Op.equal Op.maxDepth poV
  rw [run_equalIn_struct w 9999 31 _ _ uPo h, fPo]
  have e1 : ∀ (x y : Int) (w : World), (Op.equalIn 9999 22 (.int .u32 x) (.int .u32 y)).run Try.prog w = .ok (x == y) w := fun x y w => run_equalIn_int w 9998 22 .u32 .u32 x y (by kernel_rfl)
  have e2 : ∀ (x y : Int) (w : World), (Op.equalIn 9999 2 (.int .i64 x) (.int .i64 y)).run Try.prog w = .ok (x == y) w := fun x y w => run_equalIn_int w 9998 2 .i64 .i64 x y (by kernel_rfl)
  simp [Op.eqFields, part, isAgg, go_sem, e1, e2]
  by_cases h1 : c = c' <;> by_cases h2 : a = a' <;> by_cases h3 : q = q' <;> by_cases h4 : b = b' <;> simp_all
theorem eqAc (w : World) (x y : Ac) : (Op.equal 34 (acV x) (acV y)).run Try.prog w = .ok (decide (x = y)) w := by
  have h : Try.prog.stoodInHeld 34 = false := by kernel_rfl
  obtain ⟨c, a, q, b⟩ := x
  obtain ⟨c', a', q', b'⟩ := y
  unfold Op.equal Op.maxDepth acV
  rw [run_equalIn_struct w 9999 34 _ _ uAc h, fAc]
  have e1 : ∀ (x y : Int) (w : World), (Op.equalIn 9999 22 (.int .u32 x) (.int .u32 y)).run Try.prog w = .ok (x == y) w := fun x y w => run_equalIn_int w 9998 22 .u32 .u32 x y (by kernel_rfl)
  have e2 : ∀ (x y : Int) (w : World), (Op.equalIn 9999 2 (.int .i64 x) (.int .i64 y)).run Try.prog w = .ok (x == y) w := fun x y w => run_equalIn_int w 9998 2 .i64 .i64 x y (by kernel_rfl)
  have e3 : ∀ (x y : Bool) (w : World), (Op.equalIn 9999 4 (.bool x) (.bool y)).run Try.prog w = .ok (x == y) w := fun x y w => run_equalIn_bool w 9998 4 x y (by kernel_rfl)
  simp [Op.eqFields, part, isAgg, go_sem, e1, e2, e3]
  by_cases h1 : c = c' <;> by_cases h2 : a = a' <;> by_cases h3 : q = q' <;> by_cases h4 : b = b' <;> simp_all

theorem ca_cmpPo (x y : Po) (W : World) : Ca Try.prog 57 #[.agg (cellsPo x).toArray, .agg (cellsPo y).toArray] W fun v w' => v = .int .i64 (cmpPo x y) ∧ ∃ q os, w' = grow (W.drewN q) os := by
  apply ca57
  unfold F57
  simp [go_sem, cellsPo]
  generalize hw1 : World.alloc _ _ = w1
  have hgr : ∃ q os, w1 = grow (W.drewN q) os := by subst hw1; exact grow_alloc2 ..
  have hx : hp w1 W.heap.size = some (.cells #[.int .u32 x.c, .int .u32 x.a, .int .i64 x.q, .int .i64 x.b] 31 (0, 0)) := by subst hw1; simp [go_sem]
  have hy : hp w1 (W.heap.size + 1) = some (.cells #[.int .u32 y.c, .int .u32 y.a, .int .i64 y.q, .int .i64 y.b] 31 (0, 0)) := by subst hw1; simp [go_sem]
  refine JoinW.at (fun s W' => s = (.bool (klt x.key y.key), ()) ∧ W' = w1) ?_ ?_
  · simp [go_sem, hp_of hx, hp_of hy]
    unfold klt Po.key
    by_cases h1 : x.c < y.c
    · simp [h1]
    · by_cases h2 : x.c = y.c
      · simp [h1, h2]
      · simp [h1, h2]
  rintro _ w1 ⟨rfl, rfl⟩
  unfold J57_0
  intro _
  cases hk : klt x.key y.key
  · simp [go_sem, hp_of hx, hp_of hy]
    have hxy : x = y ↔ x.c = y.c ∧ x.a = y.a ∧ x.q = y.q ∧ x.b = y.b := by
      obtain ⟨c, a, q, b⟩ := x
      obtain ⟨c', a', q', b'⟩ := y
      simp
    by_cases h1 : x.c = y.c <;> by_cases h2 : x.a = y.a <;> by_cases h3 : x.q = y.q <;> by_cases h4 : x.b = y.b <;> simp [h1, h2, h3, h4] <;> exact ⟨by simp [cmpPo, hk, hxy, h1, h2, h3, h4], hgr⟩
  · simp
    exact ⟨by simp [cmpPo, hk], hgr⟩

theorem acE1 : elemOk Try.prog 34 4 24 = true := by kernel_rfl
end Go.Proofs
