/-
  The seat's closed facts that the formulas' contracts lean on.
  Conditions: none.
-/
import Derived.Test.YteldcaeicgobfaaProg
import Derived.Test.YteldcaeicgobfaaVcFn
set_option linter.unusedSimpArgs false
set_option linter.unusedVariables false
namespace Go.Proofs
open Go Go.Vc
theorem Try.noNum : NoNum Try.prog = true := by kernel_rfl
end Go.Proofs
