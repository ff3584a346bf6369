/-
  slices.SortFunc, laid in this program at accounts and at positions.
  Conditions: none.
-/
import Derived.Test.YtanjfianhnhhmaaG0
import Derived.Test.YtanjfianhnhhmaaVcSort
import Derived.Shelf.Lay
import Derived.Ground.SlsfProg
set_option linter.unusedVariables false
set_option linter.unusedSimpArgs false
namespace Go.Proofs
open Go Go.Vc Go.Shelf Go.RowKit Go.Lib Go.Sort
shelf_lay_g SlLaysF0.n6 Slsf 6 at Try 42 as Try.sortAc
shelf_lay_g SlLaysF0.n6 Slsf 6 at Try 56 as Try.sortPo
end Go.Proofs
