/-
  The snapshots' arguments, opened.
  Conditions: none.
-/
import Derived.Test.YteldcaeicgobfaaVcOpen
import Derived.Test.YteldcaeicgobfaaShotC
import Derived.WalkKit
import Derived.ProofKit
import Derived.OpenShut
set_option linter.unusedVariables false
set_option linter.unusedSimpArgs false
namespace Go.Proofs.ShotO
open Go Go.Vc Go.Proofs Go.ChangeShapes Go.WideShapes Go.ChangeAt Go.RowKit

theorem wf_u64 {n : Int} (h : (Lit.int .u64 n).wf = true) : ∃ k : Nat, n = (k : Int) ∧ k < 18446744073709551616 := by
  simp [Lit.wf, IntKind.min, IntKind.max, IntKind.signed, IntKind.bits] at h
  exact ⟨n.toNat, by omega, by omega⟩
theorem wt_some {H : Type} (P : Program) (t : TypeId) (d : DataW H) : ∃ B, Wt P B t d := by
  have : ∀ l : List Nat, ∃ B, ∀ m ∈ l, m ≤ B := by
    intro l
    induction l with
    | nil => exact ⟨0, by simp⟩
    | cons a l ih =>
      obtain ⟨B, hB⟩ := ih
      refine ⟨a + B, fun m hm => ?_⟩
      rcases List.mem_cons.1 hm with rfl | hm
      · omega
      · have := hB m hm; omega
  exact this _

theorem r64_of_wf {n : Int} (h : (Lit.int .i64 n).wf = true) : R64 n := by
  simp [Lit.wf, IntKind.min, IntKind.max, IntKind.signed, IntKind.bits] at h
  exact ⟨by omega, by omega⟩
theorem list_choose {α β : Type} {f : β → α} {Q : β → Prop} : ∀ {L : List α}, (∀ c ∈ L, ∃ o, c = f o ∧ Q o) → ∃ l : List β, L = l.map f ∧ ∀ o ∈ l, Q o
  | [], _ => ⟨[], rfl, by simp⟩
  | c :: L, h => by
    obtain ⟨o, rfl, ho⟩ := h c List.mem_cons_self
    obtain ⟨l, rfl, hl⟩ := list_choose fun c hc => h c (List.mem_cons_of_mem _ hc)
    exact ⟨o :: l, rfl, fun x hx => by rcases List.mem_cons.1 hx with rfl | hx; exact ho; exact hl x hx⟩

theorem three {c : List Value} (h : c.length = 3) : ∃ c0 c1 c2, c = [c0, c1, c2] := by
  match c, h with
  | [a, b, c], _ => exact ⟨a, b, c, rfl⟩
theorem shotU : Try.prog.underlying 83 = some (.struct #[{ name := "Index", type := 27, offset := 0, embedded := false, tag := "", pkgPath := "", byteOffset := 0 }, { name := "Term", type := 27, offset := 1, embedded := false, tag := "", pkgPath := "", byteOffset := 8 }, { name := "Data", type := 23, offset := 2, embedded := false, tag := "", pkgPath := "", byteOffset := 16 }]) := by kernel_rfl
set_option maxRecDepth 100000 in
theorem open_shot {H : Type} {enc : TypeId × Value → H} {w : World} {c : List Value} {f : Nat} {y : DataW H × List MemPlace} (hl : c.length = 3) (h : DataW.trod enc Try.prog w 0 (fun _ => true) true f 83 c = some y) (hB : Wt Try.prog reachBytes 83 y.1) :
    ∃ x sl, c = shotC x sl ∧ ShR w x sl ∧ x.fit ∧ x.data.length ≤ 140737488355328 := by
  have hf := rd_fields shotU h hB
  obtain ⟨c0, c1, c2, rfl⟩ := three hl
  have c64 : Try.prog.cellsOf 27 = 1 := by kernel_rfl
  have cs : Try.prog.cellsOf 23 = 1 := by kernel_rfl
  obtain ⟨f0, y0, h0, -⟩ := hf _ (by simp only [List.mem_cons]; exact .inl rfl)
  obtain ⟨f1, y1, h1, -⟩ := hf _ (by simp only [List.mem_cons]; exact .inr (.inl rfl))
  obtain ⟨f2, y2, h2, b2⟩ := hf _ (by simp only [List.mem_cons]; exact .inr (.inr (.inl rfl)))
  simp only [c64, cs, List.drop_zero, List.drop_succ_cons, List.take_succ_cons, List.take_zero] at h0 h1 h2
  obtain ⟨k0, e0, -, w0⟩ := DataW.trod_int Try.underlying27 h0
  obtain ⟨k1, e1, -, w1⟩ := DataW.trod_int Try.underlying27 h1
  obtain ⟨v, e2, bs, r2, l2⟩ := rd_bytes_wt Try.underlying23 Try.underlying5 (by kernel_rfl) (by kernel_rfl) h2 b2
  simp only [List.cons.injEq, and_true] at e0 e1 e2
  obtain ⟨n0, rfl, l0⟩ := wf_u64 w0
  obtain ⟨n1, rfl, l1⟩ := wf_u64 w1
  have hR : reachBytes ≤ 140737488355328 := by decide
  have hle : bs.length ≤ 140737488355328 := Nat.le_trans l2 hR
  exact ⟨⟨n0, n1, bs⟩, v, by simp [shotC, e0, e1, e2], r2, ⟨l0, l1, by show bs.length < _; omega⟩, hle⟩
end Go.Proofs.ShotO
