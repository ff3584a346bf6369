/-
  The seat's closed facts that the formulas' contracts lean on.
  Conditions: none.
-/
import Derived.Test.YtaagfdkamogkoaaGreatProg
import Derived.Test.YtaagfdkamogkoaaGreatVcFn
set_option linter.unusedVariables false
set_option linter.unusedSimpArgs false
namespace Go.Proofs
open Go Go.Vc
theorem Tryz.noNum : NoNum Tryz.prog = true := by kernel_rfl
end Go.Proofs
