/-
  The runs of law20's known, as data.
  Conditions: none.
-/
import Derived.Test.YteldcaeicgobfaaVote8
set_option linter.unusedSimpArgs false
set_option linter.unusedVariables false
namespace Go.Proofs
open Go Go.Vc

def mK0 : MarkM := ⟨0, -1, 0, 0, 0⟩
def mK3 : MarkM := ⟨3, 1, 0, 0, 0⟩
def mK4 : MarkM := ⟨4, 0, 0, 0, 0⟩
def kn1 : Int × OpenS := DM.new.vopen 0
def kn2 : Int × DM := kn1.2.D.vset 0 0 1 mK3
def kn3 : Int × DM := kn2.2.arm 2
def kn4 : Int × DM := kn3.2.vset 0 1 0 mK4
def kn5 : DM := kn4.2.crash 2 [3]
def kn6 : Int × OpenS := kn5.vopen 0
theorem kn1_is : kn1.1 = 0 ∧ kn1.2.m = mK0 ∧ kn1.2.n = 0 ∧ kn1.2.at_ = 1 := by
  refine ⟨?_, ?_, ?_, ?_⟩ <;> kernel_rfl
theorem kn2_is : kn2.1 = 0 ∧ kn2.2.off = false ∧ kn2.2.waits.length = 0 := by
  refine ⟨?_, ?_, ?_⟩ <;> kernel_rfl
theorem kn3_is : kn3.1 = 0 := by kernel_rfl
theorem kn4_is : kn4.1 = 180 := by kernel_rfl
theorem kn6_is : kn6.1 = 0 ∧ kn6.2.m = mK3 ∧ kn6.2.n = 1 := by
  refine ⟨?_, ?_, ?_⟩ <;> kernel_rfl
end Go.Proofs
