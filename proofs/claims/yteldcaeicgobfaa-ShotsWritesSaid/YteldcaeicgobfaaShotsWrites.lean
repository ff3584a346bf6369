/-
  The statement ShotsWrites: for every input the law ShotsWrites returns true, and its arguments read as they did.
  Conditions: none.
-/
import Derived.Test.YteldcaeicgobfaaRows
import Derived.Test.YteldcaeicgobfaaVcLift
import Derived.Test.YteldcaeicgobfaaShotO
import Derived.Test.YteldcaeicgobfaaShotWj
import Derived.WalkKit
import Derived.ProofKit
import Derived.OpenShut
set_option linter.unusedVariables false
set_option linter.unusedSimpArgs false
namespace Go.Proofs.Yteldcaeicgobfaa.shotsWrites
open Go Go.Vc Go.Proofs Go.ChangeShapes Go.WideShapes Go.ChangeAt Go.RowKit

theorem own : ownKnob Try.prog.godebug = none := by kernel_rfl
theorem laidOut : laidOutB Try.prog = true := by kernel_rfl

set_option maxRecDepth 100000 in
theorem lifted (os : Os) (started : os.Started) (H : Type) (enc : TypeId × Value → H) :
    ReturnsInHanded {} Try.checked os 13 .any (Rows.shotsWritesSpec.pre6 enc Try.prog Try.f13 Rows.shotsWritesRow.domain false) (Rows.shotsWritesSpec.post enc Try.prog Try.f13 false true false false) := by
  refine returnsInHanded_of_change_sized (C := Try.checked) own started (by kernel_rfl) Try.func13
    (ChangeSpec.witness6 (enc := enc) (C := Try.checked) false ⟨#[], #[.slice none 0 0, .slice none 0 0, .agg #[.int .u64 0, .int .u64 0, .slice none 0 0]], []⟩ 8 (by kernel_rfl) (by kernel_rfl) (by kernel_rfl) (by kernel_rfl)) ?_
  intro W base args ds gs before hval0 hW hcnd hwt0 _
  have hval : ∀ (j : Nat) t v, Try.f13.params[j]? = some t → args[j]? = some v → Value.okWide Try.prog W .any base t v := hval0
  have hwt : (DataW.weightsEach Try.prog (Try.f13.params.toList ++ []) (ds ++ gs)).all (· ≤ reachBytes) = true := hwt0
  have hW' := hW
  obtain ⟨p, q, hA0, hV, rfl, hfz, hnd⟩ := hW
  have hA : DataW.TrodAll enc Try.prog W 0 (fun _ => true) true Try.f13.params.toList args.toList ds p := hA0
  rw [Try.params13] at hA hval hwt
  obtain ⟨v0, v1, v2, d0, d1, d2, p0, p1, p2, rfl, rfl, rfl, h0, h1, h2⟩ := trodAll_three hA
  obtain ⟨rfl, rfl⟩ := trodVars_none hV
  obtain ⟨A, hA1⟩ := open_bs Try.underlying23 Try.underlying5 (by kernel_rfl) (hval 0 23 v0 rfl rfl) h0
  obtain ⟨B, hB1⟩ := open_bs Try.underlying23 Try.underlying5 (by kernel_rfl) (hval 1 23 v1 rfl rfl) h1
  have hB : Wt Try.prog reachBytes 83 d2 := by
    intro m hm
    have := List.all_eq_true.1 hwt m (by
      simp only [List.append_nil]
      show m ∈ DataW.weightsEach Try.prog [23, 23, 83] [_, _, d2]
      simp only [DataW.weightsEach, List.mem_append]
      exact .inr (.inr (.inl hm)))
    simpa using this
  have hv2 := hval 2 83 v2 rfl rfl
  unfold Value.okWide at hv2
  rw [ShotO.shotU] at hv2
  obtain ⟨cs, rfl, hcs, -⟩ := hv2
  obtain ⟨fu, h2⟩ := h2
  have hcs3 : cs.toList.length = 3 := by
    rw [Array.length_toList, hcs]
    kernel_rfl
  obtain ⟨x, sl, hx, hs, hfit, hxl⟩ := ShotO.open_shot (c := cs.toList) hcs3 h2 hB
  obtain rfl : cs = (shotC x sl).toArray := by rw [← hx]
  clear hA0 hval0
  refine Calls.mono (ca_shotsWrites (K := fun v w' => v = .bool true ∧ Mod (fun _ => False) W w') hA1 hB1 hs hfit hxl fun w' hm => ⟨rfl, hm⟩).out ?_
  rintro e W' ⟨v, rfl, rfl, hm⟩
  exact ⟨_, rfl, post_of_mod laidOut (by kernel_rfl) rfl hW' hm (by kernel_rfl) Try.underlying4 rfl⟩

theorem holds : Rows.ShotsWritesSaid :=
  OpenClaim.holds_of_wide 13 Try.f13 rfl rfl rfl rfl rfl rfl rfl ⟨rfl, rfl, rfl, rfl, rfl⟩ rfl rfl rfl rfl rfl (by kernel_rfl) Try.func13 (by kernel_rfl)
    (of_decide_eq_true (by kernel_rfl)) (by unfold Func.isWrapper; first | (rw [if_pos (by decide +kernel)]; kernel_rfl) | (rw [if_neg (by decide +kernel)]; exact ⟨rfl, rfl⟩))
    (fun os started H enc _ => lifted os started H enc)
end Go.Proofs.Yteldcaeicgobfaa.shotsWrites
