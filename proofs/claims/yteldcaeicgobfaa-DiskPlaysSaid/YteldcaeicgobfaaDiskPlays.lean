/-
  The statement DiskPlays: for every input the law DiskPlays returns true, and its argument reads as it did.
  Conditions: none.
-/
import Derived.Test.YteldcaeicgobfaaRows
import Derived.Test.YteldcaeicgobfaaVcOpen
import Derived.Test.YteldcaeicgobfaaPlays5
import Derived.WalkKit
import Derived.ProofKit
import Derived.OpenShut
set_option linter.unusedSimpArgs false
set_option linter.unusedVariables false
namespace Go.Proofs.Yteldcaeicgobfaa.diskPlays
open Go Go.Vc Go.Proofs Go.ChangeShapes Go.WideShapes Go.ChangeAt Go.RowKit

theorem own : ownKnob Try.prog.godebug = none := by kernel_rfl
theorem laidOut : laidOutB Try.prog = true := by kernel_rfl

theorem r64_of_wf {n : Int} (h : (Lit.int .i64 n).wf = true) : R64 n := by
  simp [Lit.wf, IntKind.min, IntKind.max, IntKind.signed, IntKind.bits] at h
  exact ⟨by omega, by omega⟩
theorem list_choose {α β : Type} {f : β → α} {Q : β → Prop} : ∀ {L : List α}, (∀ c ∈ L, ∃ o, c = f o ∧ Q o) → ∃ l : List β, L = l.map f ∧ ∀ o ∈ l, Q o
  | [], _ => ⟨[], rfl, by simp⟩
  | c :: L, h => by
    obtain ⟨o, rfl, ho⟩ := h c List.mem_cons_self
    obtain ⟨l, rfl, hl⟩ := list_choose fun c hc => h c (List.mem_cons_of_mem _ hc)
    exact ⟨o :: l, rfl, fun x hx => by rcases List.mem_cons.1 hx with rfl | hx; exact ho; exact hl x hx⟩

theorem opU : Try.prog.underlying 48 = some (.struct #[{ name := "Kind", type := 3, offset := 0, embedded := false, tag := "", pkgPath := "", byteOffset := 0 }, { name := "File", type := 3, offset := 1, embedded := false, tag := "", pkgPath := "", byteOffset := 8 },
    { name := "At", type := 3, offset := 2, embedded := false, tag := "", pkgPath := "", byteOffset := 16 }, { name := "N", type := 3, offset := 3, embedded := false, tag := "", pkgPath := "", byteOffset := 24 }, { name := "B", type := 23, offset := 4, embedded := false, tag := "", pkgPath := "", byteOffset := 32 }]) := by kernel_rfl

theorem five {c : List Value} (h : c.length = 5) : ∃ c0 c1 c2 c3 c4, c = [c0, c1, c2, c3, c4] := by
  match c, h with
  | [a, b, c, d, e], _ => exact ⟨a, b, c, d, e, rfl⟩

set_option maxRecDepth 100000 in
theorem open_op {H : Type} {enc : TypeId × Value → H} {w : World} {c : List Value} {f : Nat} {y : DataW H × List MemPlace} (hl : c.length = 5) (h : DataW.trod enc Try.prog w 0 (fun _ => true) true f 48 c = some y) (hB : Wt Try.prog reachBytes 48 y.1) :
    ∃ o, c = opCells o ∧ OpOk w o := by
  have hf := rd_fields opU h hB
  obtain ⟨c0, c1, c2, c3, c4, rfl⟩ : ∃ c0 c1 c2 c3 c4, c = [c0, c1, c2, c3, c4] := five hl
  · skip
    have ci : Try.prog.cellsOf 3 = 1 := by kernel_rfl
    have cs : Try.prog.cellsOf 23 = 1 := by kernel_rfl
    obtain ⟨f0, y0, h0, -⟩ := hf _ (by simp only [List.mem_cons]; exact .inl rfl)
    obtain ⟨f1, y1, h1, -⟩ := hf _ (by simp only [List.mem_cons]; exact .inr (.inl rfl))
    obtain ⟨f2, y2, h2, -⟩ := hf _ (by simp only [List.mem_cons]; exact .inr (.inr (.inl rfl)))
    obtain ⟨f3, y3, h3, -⟩ := hf _ (by simp only [List.mem_cons]; exact .inr (.inr (.inr (.inl rfl))))
    obtain ⟨f4, y4, h4, b4⟩ := hf _ (by simp only [List.mem_cons]; exact .inr (.inr (.inr (.inr (.inl rfl)))))
    simp only [ci, cs, List.drop_zero, List.drop_succ_cons, List.take_succ_cons, List.take_zero] at h0 h1 h2 h3 h4
    obtain ⟨k, e0, -, w0⟩ := DataW.trod_int Try.underlying3 h0
    obtain ⟨fi, e1, -, w1⟩ := DataW.trod_int Try.underlying3 h1
    obtain ⟨a, e2, -, w2⟩ := DataW.trod_int Try.underlying3 h2
    obtain ⟨n, e3, -, w3⟩ := DataW.trod_int Try.underlying3 h3
    obtain ⟨v, e4, bs, r4, l4⟩ := rd_bytes_wt Try.underlying23 Try.underlying5 (by kernel_rfl) (by kernel_rfl) h4 b4
    simp only [List.cons.injEq, and_true] at e0 e1 e2 e3 e4
    refine ⟨⟨k, fi, a, n, v, bs⟩, by simp [opCells, e0, e1, e2, e3, e4], r64_of_wf w0, r64_of_wf w1, r64_of_wf w2, r64_of_wf w3, r4, ?_⟩
    have : reachBytes ≤ 140737488355328 := by decide
    exact Nat.le_trans l4 this

set_option maxRecDepth 100000 in
theorem lifted (os : Os) (started : os.Started) (H : Type) (enc : TypeId × Value → H) :
    ReturnsInHanded {} Try.checked os 5 .any (Rows.diskPlaysSpec.pre6 enc Try.prog Try.f5 Rows.diskPlaysRow.domain false) (Rows.diskPlaysSpec.post enc Try.prog Try.f5 false true false false) := by
  refine returnsInHanded_of_change_sized (C := Try.checked) own started (by kernel_rfl) Try.func5
    (ChangeSpec.witness6 (enc := enc) (C := Try.checked) false ⟨#[], #[.slice none 0 0], []⟩ 8 (by kernel_rfl) (by kernel_rfl) (by kernel_rfl) (by kernel_rfl)) ?_
  intro W base args ds gs before hval0 hW hcnd hwt0 _
  have hval : ∀ (j : Nat) t v, Try.f5.params[j]? = some t → args[j]? = some v → Value.okWide Try.prog W .any base t v := hval0
  have hwt : (DataW.weightsEach Try.prog (Try.f5.params.toList ++ []) (ds ++ gs)).all (· ≤ reachBytes) = true := hwt0
  have hW' := hW
  obtain ⟨p, q, hA0, hV, rfl, hfz, hnd⟩ := hW
  have hA : DataW.TrodAll enc Try.prog W 0 (fun _ => true) true Try.f5.params.toList args.toList ds p := hA0
  rw [Try.params5] at hA hval hwt
  obtain ⟨v0, vs0, d0, ds0, p0, q0, hargs, rfl, rfl, h0, r0⟩ := trodAll_cons hA
  obtain ⟨rfl, rfl, rfl⟩ := trodAll_nil r0
  obtain rfl : args = #[v0] := by cases args; simp_all
  obtain ⟨rfl, rfl⟩ := trodVars_none hV
  have hB : Wt Try.prog reachBytes 41 d0 := by
    intro m hm
    have := List.all_eq_true.1 hwt m (by simp only [List.append_nil, DataW.weightsEach, List.mem_append]; first | exact .inl hm | exact hm)
    simpa using this
  have hv0 := hval 0 41 v0 rfl rfl
  have hag : v0.cells.toList = [v0] := by
    unfold Value.okWide at hv0
    rw [Try.underlying41] at hv0
    simp only [Cell.okWide, Try.underlying41] at hv0
    unfold Cell.ok at hv0
    rw [Try.underlying41] at hv0
    cases v0 <;> first | rfl | exact hv0.elim
  obtain ⟨fuel, h0⟩ := h0
  rw [hag] at h0
  obtain ⟨v, e, L, hl, -, hL⟩ := rd_rows (sz := 5) Try.underlying41 (by kernel_rfl) (by omega) h0 hB
  cases e
  obtain ⟨l, rfl, hok⟩ := list_choose (f := opCells) (Q := OpOk W) fun c hc => by
    obtain ⟨h1, f', y, h2, h3⟩ := hL c hc
    exact open_op h1 h2 h3
  rw [List.length_map, ← List.flatMap_def] at hl
  clear hA0 hval0
  refine Calls.mono (ca_plays (K := fun v w' => v = .bool true ∧ Mod (fun _ => False) W w') hl hok fun w' hm => ⟨rfl, hm⟩).out ?_
  rintro e W' ⟨v, rfl, rfl, hm⟩
  exact ⟨_, rfl, post_of_mod laidOut (by kernel_rfl) rfl hW' hm (by kernel_rfl) Try.underlying4 rfl⟩

theorem holds : Rows.DiskPlaysSaid :=
  OpenClaim.holds_of_wide 5 Try.f5 rfl rfl rfl rfl rfl rfl rfl ⟨rfl, rfl, rfl, rfl, rfl⟩ rfl rfl rfl rfl rfl (by kernel_rfl) Try.func5 (by kernel_rfl)
    (of_decide_eq_true (by kernel_rfl)) (by unfold Func.isWrapper; first | (rw [if_pos (by decide +kernel)]; kernel_rfl) | (rw [if_neg (by decide +kernel)]; exact ⟨rfl, rfl⟩))
    (fun os started H enc _ => lifted os started H enc)
end Go.Proofs.Yteldcaeicgobfaa.diskPlays
