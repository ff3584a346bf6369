/-
  Rows of calls, and of accounts and positions, opened: each is data of its own.
  Conditions: none.
-/
import Derived.Test.YtanjfianhnhhmaaRows
import Derived.Test.YtanjfianhnhhmaaVcOpen
import Derived.Test.YtanjfianhnhhmaaPlayW
import Derived.WalkKit
import Derived.ProofKit
import Derived.OpenShut
set_option linter.unusedVariables false
set_option linter.unusedSimpArgs false
namespace Go.Proofs.Ytanjfianhnhhmaa
open Go Go.Vc Go.Proofs Go.ChangeShapes Go.WideShapes Go.ChangeAt Go.RowKit

theorem own : ownKnob Try.prog.godebug = none := by kernel_rfl
theorem laidOut : laidOutB Try.prog = true := by kernel_rfl

theorem r64_of_wf {n : Int} (h : (Lit.int .i64 n).wf = true) : R64 n := by
  simp [Lit.wf, IntKind.min, IntKind.max, IntKind.signed, IntKind.bits] at h
  exact ⟨by omega, by omega⟩
theorem u32_of_wf {n : Int} (h : (Lit.int .u32 n).wf = true) : U32 n := by
  simp [Lit.wf, IntKind.min, IntKind.max, IntKind.signed, IntKind.bits] at h
  exact ⟨by omega, by omega⟩
theorem list_choose {α β : Type} {f : β → α} {Q : β → Prop} : ∀ {L : List α}, (∀ c ∈ L, ∃ o, c = f o ∧ Q o) → ∃ l : List β, L = l.map f ∧ ∀ o ∈ l, Q o
  | [], _ => ⟨[], rfl, by simp⟩
  | c :: L, h => by
    obtain ⟨o, rfl, ho⟩ := h c List.mem_cons_self
    obtain ⟨l, rfl, hl⟩ := list_choose fun c hc => h c (List.mem_cons_of_mem _ hc)
    exact ⟨o :: l, rfl, fun x hx => by rcases List.mem_cons.1 hx with rfl | hx; exact ho; exact hl x hx⟩

theorem acU : Try.prog.underlying 34 = some (.struct #[{ name := "Number", type := 22, offset := 0, embedded := false, tag := "", pkgPath := "", byteOffset := 0 }, { name := "Cash", type := 2, offset := 1, embedded := false, tag := "", pkgPath := "", byteOffset := 8 },
    { name := "Killed", type := 4, offset := 2, embedded := false, tag := "", pkgPath := "", byteOffset := 16 }, { name := "Default", type := 4, offset := 3, embedded := false, tag := "", pkgPath := "", byteOffset := 17 }]) := by kernel_rfl
theorem poU : Try.prog.underlying 31 = some (.struct #[{ name := "Contract", type := 22, offset := 0, embedded := false, tag := "", pkgPath := "", byteOffset := 0 }, { name := "Account", type := 22, offset := 1, embedded := false, tag := "", pkgPath := "", byteOffset := 4 },
    { name := "Q", type := 2, offset := 2, embedded := false, tag := "", pkgPath := "", byteOffset := 8 }, { name := "Basis", type := 2, offset := 3, embedded := false, tag := "", pkgPath := "", byteOffset := 16 }]) := by kernel_rfl
theorem opU : Try.prog.underlying 40 = some (.struct #[{ name := "Kind", type := 3, offset := 0, embedded := false, tag := "", pkgPath := "", byteOffset := 0 }, { name := "A", type := 22, offset := 1, embedded := false, tag := "", pkgPath := "", byteOffset := 8 },
    { name := "B", type := 22, offset := 2, embedded := false, tag := "", pkgPath := "", byteOffset := 12 }, { name := "C", type := 22, offset := 3, embedded := false, tag := "", pkgPath := "", byteOffset := 16 }, { name := "N", type := 2, offset := 4, embedded := false, tag := "", pkgPath := "", byteOffset := 24 },
    { name := "M", type := 2, offset := 5, embedded := false, tag := "", pkgPath := "", byteOffset := 32 }, { name := "Account", type := 34, offset := 6, embedded := false, tag := "", pkgPath := "", byteOffset := 40 }]) := by kernel_rfl
theorem ten {c : List Value} (h : c.length = 10) : ∃ c0 c1 c2 c3 c4 c5 c6 c7 c8 c9, c = [c0, c1, c2, c3, c4, c5, c6, c7, c8, c9] := by
  match c, h with
  | [a, b, c, d, e, f, g, h, i, j], _ => exact ⟨a, b, c, d, e, f, g, h, i, j, rfl⟩
theorem four {c : List Value} (h : c.length = 4) : ∃ c0 c1 c2 c3, c = [c0, c1, c2, c3] := by
  match c, h with
  | [a, b, c, d], _ => exact ⟨a, b, c, d, rfl⟩
theorem cu32 : Try.prog.cellsOf 22 = 1 := by kernel_rfl
theorem ci64 : Try.prog.cellsOf 2 = 1 := by kernel_rfl
theorem cint : Try.prog.cellsOf 3 = 1 := by kernel_rfl
theorem cbool : Try.prog.cellsOf 4 = 1 := by kernel_rfl
theorem cacc : Try.prog.cellsOf 34 = 4 := by kernel_rfl

set_option maxRecDepth 100000 in
theorem open_ac {H : Type} {enc : TypeId × Value → H} {w : World} {c : List Value} {f : Nat} {y : DataW H × List MemPlace} (hl : c.length = 4) (h : DataW.trod enc Try.prog w 0 (fun _ => true) true f 34 c = some y) (hB : Wt Try.prog reachBytes 34 y.1) :
    ∃ o : Ac, c = cellsAc o ∧ U32 o.num ∧ R64 o.cash := by
  have hf := rd_fields acU h hB
  obtain ⟨c0, c1, c2, c3, rfl⟩ := four hl
  obtain ⟨f0, y0, h0, -⟩ := hf _ (by simp only [List.mem_cons]; exact .inl rfl)
  obtain ⟨f1, y1, h1, -⟩ := hf _ (by simp only [List.mem_cons]; exact .inr (.inl rfl))
  obtain ⟨f2, y2, h2, -⟩ := hf _ (by simp only [List.mem_cons]; exact .inr (.inr (.inl rfl)))
  obtain ⟨f3, y3, h3, -⟩ := hf _ (by simp only [List.mem_cons]; exact .inr (.inr (.inr (.inl rfl))))
  simp only [cu32, ci64, cbool, List.drop_zero, List.drop_succ_cons, List.take_succ_cons, List.take_zero] at h0 h1 h2 h3
  obtain ⟨n, e0, -, w0⟩ := DataW.trod_int Try.underlying22 h0
  obtain ⟨k, e1, -, w1⟩ := DataW.trod_int Try.underlying2 h1
  obtain ⟨a, e2, -⟩ := DataW.trod_bool Try.underlying4 h2
  obtain ⟨b, e3, -⟩ := DataW.trod_bool Try.underlying4 h3
  simp only [List.cons.injEq, and_true] at e0 e1 e2 e3
  exact ⟨⟨n, k, a, b⟩, by simp [cellsAc, e0, e1, e2, e3], u32_of_wf w0, r64_of_wf w1⟩
set_option maxRecDepth 100000 in
theorem open_op {H : Type} {enc : TypeId × Value → H} {w : World} {c : List Value} {f : Nat} {y : DataW H × List MemPlace} (hl : c.length = 10) (h : DataW.trod enc Try.prog w 0 (fun _ => true) true f 40 c = some y) (hB : Wt Try.prog reachBytes 40 y.1) :
    ∃ o : LOp, c = cellsOp o ∧ o.Wf := by
  have hf := rd_fields opU h hB
  obtain ⟨c0, c1, c2, c3, c4, c5, c6, c7, c8, c9, rfl⟩ := ten hl
  obtain ⟨f0, y0, h0, -⟩ := hf _ (by simp only [List.mem_cons]; exact .inl rfl)
  obtain ⟨f1, y1, h1, -⟩ := hf _ (by simp only [List.mem_cons]; exact .inr (.inl rfl))
  obtain ⟨f2, y2, h2, -⟩ := hf _ (by simp only [List.mem_cons]; exact .inr (.inr (.inl rfl)))
  obtain ⟨f3, y3, h3, -⟩ := hf _ (by simp only [List.mem_cons]; exact .inr (.inr (.inr (.inl rfl))))
  obtain ⟨f4, y4, h4, -⟩ := hf _ (by simp only [List.mem_cons]; exact .inr (.inr (.inr (.inr (.inl rfl)))))
  obtain ⟨f5, y5, h5, -⟩ := hf _ (by simp only [List.mem_cons]; exact .inr (.inr (.inr (.inr (.inr (.inl rfl))))))
  obtain ⟨f6, y6, h6, b6⟩ := hf _ (by simp only [List.mem_cons]; exact .inr (.inr (.inr (.inr (.inr (.inr (.inl rfl)))))))
  simp only [cu32, ci64, cint, cacc, List.drop_zero, List.drop_succ_cons, List.take_succ_cons, List.take_zero] at h0 h1 h2 h3 h4 h5 h6
  obtain ⟨k, e0, -, w0⟩ := DataW.trod_int Try.underlying3 h0
  obtain ⟨a, e1, -, w1⟩ := DataW.trod_int Try.underlying22 h1
  obtain ⟨b, e2, -, w2⟩ := DataW.trod_int Try.underlying22 h2
  obtain ⟨c, e3, -, w3⟩ := DataW.trod_int Try.underlying22 h3
  obtain ⟨n, e4, -, w4⟩ := DataW.trod_int Try.underlying2 h4
  obtain ⟨m, e5, -, w5⟩ := DataW.trod_int Try.underlying2 h5
  obtain ⟨o, e6, u6, r6⟩ := open_ac rfl h6 b6
  simp only [List.cons.injEq, and_true] at e0 e1 e2 e3 e4 e5
  simp only [cellsAc, List.cons.injEq, and_true] at e6
  obtain ⟨g0, g1, g2, g3⟩ := e6
  exact ⟨⟨k, a, b, c, n, m, o⟩, by simp [cellsOp, e0, e1, e2, e3, e4, e5, g0, g1, g2, g3], r64_of_wf w0, u32_of_wf w1, u32_of_wf w2, u32_of_wf w3, r64_of_wf w4, r64_of_wf w5, u6, r6⟩

set_option maxRecDepth 100000 in
/-- A slice of calls. -/
theorem open_ops {H : Type} {enc : TypeId × Value → H} {w : World} {v0 : Value} {d0 : DataW H} {p0 : List MemPlace} {base : Nat} (hv0 : Value.okWide Try.prog w .any base 38 v0) (h0 : ∃ fuel, DataW.trod enc Try.prog w 0 (fun _ => true) true fuel 38 v0.cells.toList = some (d0, p0))
    (hB : Wt Try.prog reachBytes 38 d0) : ∃ l : List LOp, Rd w 10 v0 l.length (l.flatMap cellsOp) ∧ ∀ x ∈ l, x.Wf := by
  have hag : v0.cells.toList = [v0] := by
    unfold Value.okWide at hv0
    rw [Try.underlying38] at hv0
    simp only [Cell.okWide, Try.underlying38] at hv0
    unfold Cell.ok at hv0
    rw [Try.underlying38] at hv0
    cases v0 <;> first | rfl | exact hv0.elim
  obtain ⟨fuel, h0⟩ := h0
  rw [hag] at h0
  obtain ⟨v, e, L, hl, -, hL⟩ := rd_rows (sz := 10) Try.underlying38 (by kernel_rfl) (by omega) h0 hB
  cases e
  obtain ⟨l, rfl, hok⟩ := list_choose (f := cellsOp) (Q := LOp.Wf) fun c hc => by
    obtain ⟨h1, f', y, h2, h3⟩ := hL c hc
    exact open_op h1 h2 h3
  rw [List.length_map, ← List.flatMap_def] at hl
  exact ⟨l, hl, hok⟩
end Go.Proofs.Ytanjfianhnhhmaa
