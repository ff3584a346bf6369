/-
  The statement ShotsPlays: for every input the law ShotsPlays returns true, and its argument reads as it did.
  Conditions: none.
-/
import Derived.Test.YteldcaeicgobfaaRows
import Derived.Test.YteldcaeicgobfaaShotO
import Derived.Test.YteldcaeicgobfaaShotU
set_option linter.unusedVariables false
set_option linter.unusedSimpArgs false
namespace Go.Proofs.Yteldcaeicgobfaa.shotsPlays
open Go Go.Vc Go.Proofs Go.ChangeShapes Go.WideShapes Go.ChangeAt Go.RowKit

theorem own : ownKnob Try.prog.godebug = none := by kernel_rfl
theorem laidOut : laidOutB Try.prog = true := by kernel_rfl

theorem opU : Try.prog.underlying 98 = some (.struct #[{ name := "Kind", type := 3, offset := 0, embedded := false, tag := "", pkgPath := "", byteOffset := 0 }, { name := "N", type := 3, offset := 1, embedded := false, tag := "", pkgPath := "", byteOffset := 8 }, { name := "X", type := 83, offset := 2, embedded := false, tag := "", pkgPath := "", byteOffset := 16 }, { name := "B", type := 23, offset := 5, embedded := false, tag := "", pkgPath := "", byteOffset := 56 }, { name := "More", type := 96, offset := 6, embedded := false, tag := "", pkgPath := "", byteOffset := 80 }]) := by kernel_rfl
theorem seven {c : List Value} (h : c.length = 7) : ∃ c0 c1 c2 c3 c4 c5 c6, c = [c0, c1, c2, c3, c4, c5, c6] := by
  match c, h with
  | [a, b, c, d, e, f, g], _ => exact ⟨a, b, c, d, e, f, g, rfl⟩

set_option maxRecDepth 100000 in
theorem open_sop {H : Type} {enc : TypeId × Value → H} {w : World} {c : List Value} {f : Nat} {y : DataW H × List MemPlace} (hl : c.length = 7) (h : DataW.trod enc Try.prog w 0 (fun _ => true) true f 98 c = some y) (hB : Wt Try.prog reachBytes 98 y.1) :
    ∃ o, c = sopCells o ∧ SOpOk w o := by
  have hf := rd_fields opU h hB
  obtain ⟨c0, c1, c2, c3, c4, c5, c6, rfl⟩ := seven hl
  have ci : Try.prog.cellsOf 3 = 1 := by kernel_rfl
  have cs : Try.prog.cellsOf 23 = 1 := by kernel_rfl
  have ct : Try.prog.cellsOf 96 = 1 := by kernel_rfl
  have cm : Try.prog.cellsOf 83 = 3 := by kernel_rfl
  obtain ⟨f0, y0, h0, -⟩ := hf _ (by simp only [List.mem_cons]; exact .inl rfl)
  obtain ⟨f1, y1, h1, -⟩ := hf _ (by simp only [List.mem_cons]; exact .inr (.inl rfl))
  obtain ⟨f2, y2, h2, b2⟩ := hf _ (by simp only [List.mem_cons]; exact .inr (.inr (.inl rfl)))
  obtain ⟨f3, y3, h3, b3⟩ := hf _ (by simp only [List.mem_cons]; exact .inr (.inr (.inr (.inl rfl))))
  obtain ⟨f4, y4, h4, b4⟩ := hf _ (by simp only [List.mem_cons]; exact .inr (.inr (.inr (.inr (.inl rfl)))))
  simp only [ci, cs, ct, cm, List.drop_zero, List.drop_succ_cons, List.take_succ_cons, List.take_zero] at h0 h1 h2 h3 h4
  obtain ⟨k, e0, -, w0⟩ := DataW.trod_int Try.underlying3 h0
  obtain ⟨n, e1, -, w1⟩ := DataW.trod_int Try.underlying3 h1
  obtain ⟨m, sl, e2, rs, fit, -⟩ := ShotO.open_shot rfl h2 b2
  obtain ⟨v, e3, bs, r3, l3⟩ := rd_bytes_wt Try.underlying23 Try.underlying5 (by kernel_rfl) (by kernel_rfl) h3 b3
  obtain ⟨x, e4, L, r4, -, hL⟩ := rd_rows (sz := 3) Try.underlying96 (by kernel_rfl) (by omega) h4 b4
  obtain ⟨ts, rfl, hts⟩ := ShotO.list_choose (f := tryCells) (Q := TryOk w) fun c hc => by
    obtain ⟨h1, f', y, h2, h3⟩ := hL c hc
    exact ShotO.open_try h1 h2 h3
  rw [List.length_map, ← List.flatMap_def] at r4
  simp only [shotC, List.cons.injEq, and_true] at e0 e1 e2 e3 e4
  obtain ⟨g0, g1, g2⟩ := e2
  refine ⟨⟨k, n, m, sl, v, bs, x, ts⟩, by simp [sopCells, e0, e1, e3, e4, g0, g1, g2], ShotO.r64_of_wf w0, ShotO.r64_of_wf w1, fit, rs, r3, ?_, r4, hts⟩
  have : reachBytes ≤ 140737488355328 := by decide
  exact Nat.le_trans l3 this

set_option maxRecDepth 100000 in
theorem lifted (os : Os) (started : os.Started) (H : Type) (enc : TypeId × Value → H) :
    ReturnsInHanded {} Try.checked os 11 .any (Rows.shotsPlaysSpec.pre6 enc Try.prog Try.f11 Rows.shotsPlaysRow.domain false) (Rows.shotsPlaysSpec.post enc Try.prog Try.f11 false true false false) := by
  refine returnsInHanded_of_change_sized (C := Try.checked) own started (by kernel_rfl) Try.func11
    (ChangeSpec.witness6 (enc := enc) (C := Try.checked) false ⟨#[], #[.slice none 0 0], []⟩ 8 (by kernel_rfl) (by kernel_rfl) (by kernel_rfl) (by kernel_rfl)) ?_
  intro W base args ds gs before hval0 hW hcnd hwt0 _
  have hval : ∀ (j : Nat) t v, Try.f11.params[j]? = some t → args[j]? = some v → Value.okWide Try.prog W .any base t v := hval0
  have hwt : (DataW.weightsEach Try.prog (Try.f11.params.toList ++ []) (ds ++ gs)).all (· ≤ reachBytes) = true := hwt0
  have hW' := hW
  obtain ⟨p, q, hA0, hV, rfl, hfz, hnd⟩ := hW
  have hA : DataW.TrodAll enc Try.prog W 0 (fun _ => true) true Try.f11.params.toList args.toList ds p := hA0
  rw [Try.params11] at hA hval hwt
  obtain ⟨v0, vs0, d0, ds0, p0, q0, hargs, rfl, rfl, h0, r0⟩ := trodAll_cons hA
  obtain ⟨rfl, rfl, rfl⟩ := trodAll_nil r0
  obtain rfl : args = #[v0] := by cases args; simp_all
  obtain ⟨rfl, rfl⟩ := trodVars_none hV
  have hB : Wt Try.prog reachBytes 95 d0 := by
    intro m hm
    have := List.all_eq_true.1 hwt m (by simp only [List.append_nil, DataW.weightsEach, List.mem_append]; first | exact .inl hm | exact hm)
    simpa using this
  have hv0 := hval 0 95 v0 rfl rfl
  have hag : v0.cells.toList = [v0] := by
    unfold Value.okWide at hv0
    rw [Try.underlying95] at hv0
    simp only [Cell.okWide, Try.underlying95] at hv0
    unfold Cell.ok at hv0
    rw [Try.underlying95] at hv0
    cases v0 <;> first | rfl | exact hv0.elim
  obtain ⟨fuel, h0⟩ := h0
  rw [hag] at h0
  obtain ⟨v, e, L, hl, -, hL⟩ := rd_rows (sz := 7) Try.underlying95 (by kernel_rfl) (by omega) h0 hB
  cases e
  obtain ⟨l, rfl, hok⟩ := ShotO.list_choose (f := sopCells) (Q := SOpOk W) fun c hc => by
    obtain ⟨h1, f', y, h2, h3⟩ := hL c hc
    exact open_sop h1 h2 h3
  rw [List.length_map, ← List.flatMap_def] at hl
  clear hA0 hval0
  refine Calls.mono (ca_shotsPlays (K := fun v w' => v = .bool true ∧ Mod (fun _ => False) W w') hl hok fun w' hm => ⟨rfl, hm⟩).out ?_
  rintro e W' ⟨v, rfl, rfl, hm⟩
  exact ⟨_, rfl, post_of_mod laidOut (by kernel_rfl) rfl hW' hm (by kernel_rfl) Try.underlying4 rfl⟩

theorem holds : Rows.ShotsPlaysSaid :=
  OpenClaim.holds_of_wide 11 Try.f11 rfl rfl rfl rfl rfl rfl rfl ⟨rfl, rfl, rfl, rfl, rfl⟩ rfl rfl rfl rfl rfl (by kernel_rfl) Try.func11 (by kernel_rfl)
    (of_decide_eq_true (by kernel_rfl)) (by unfold Func.isWrapper; first | (rw [if_pos (by decide +kernel)]; kernel_rfl) | (rw [if_neg (by decide +kernel)]; exact ⟨rfl, rfl⟩))
    (fun os started H enc _ => lifted os started H enc)
end Go.Proofs.Yteldcaeicgobfaa.shotsPlays
