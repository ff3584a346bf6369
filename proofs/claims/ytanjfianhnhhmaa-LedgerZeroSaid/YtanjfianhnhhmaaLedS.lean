/-
  slices.SortFunc, laid in this program at accounts and at positions.
  Conditions: none.
-/
import Derived.Test.YtanjfianhnhhmaaG0
import Derived.Test.YtanjfianhnhhmaaVcSort
import Derived.Ground.SlsfProg
set_option linter.unusedVariables false
set_option linter.unusedSimpArgs false
namespace Go.Proofs
open Go Go.Vc Go.Shelf Go.RowKit Go.Lib Go.Sort
theorem dk_ {p : Prop} (h : p := by first | kernel_rfl | (intro _; kernel_rfl)) : p := h
theorem de_ {f : FuncId} {B : Func} (h : ((Try.prog.funcs[f]?.elim "" (·.name)) == "runtime.NumGoroutine") = false := by kernel_rfl) (g : Try.prog.funcs[f]? = some {B with name := Try.prog.funcs[f]?.elim "" (·.name)} := by kernel_rfl) : Bears Try.prog f B := ⟨_, h, g⟩
def Try.sortAc_ren : Ren := ⟨fun | 6 => 42 | 15 => 60 | 14 => 59 | 28 => 73 | 29 => 74 | 20 => 65 | 21 => 66 | 22 => 67 | 23 => 68 | 24 => 69 | 25 => 70 | 26 => 71 | 27 => 72 | 46 => 83 | 47 => 84 | 48 => 85 | 49 => 86 | 50 => 87 | 57 => 91 | n => n, fun | 22 => 58 | 24 => 34 | 25 => 86 | 3 => 3 | 39 => 100 | 0 => 0 | 53 => 22 | 55 => 92 | 4 => 4 | 46 => 104 | 45 => 103 | 50 => 108 | 5 => 5 | 9 => 9 | 66 => 116 | 70 => 120 | 76 => 124 | 77 => 125 | n => n, fun n => n⟩
theorem Try.sortAc : SlLaysF0.n6 Try.prog Try.sortAc_ren := by constructor <;> first | exact dk_ | exact de_
def Try.sortPo_ren : Ren := ⟨fun | 6 => 56 | 15 => 60 | 14 => 63 | 28 => 73 | 29 => 74 | 20 => 75 | 21 => 76 | 22 => 77 | 23 => 78 | 24 => 79 | 25 => 80 | 26 => 81 | 27 => 82 | 46 => 88 | 47 => 84 | 48 => 85 | 49 => 89 | 50 => 90 | 57 => 92 | n => n, fun | 22 => 59 | 24 => 31 | 25 => 96 | 3 => 3 | 39 => 100 | 0 => 0 | 53 => 22 | 55 => 92 | 4 => 4 | 46 => 104 | 45 => 103 | 50 => 108 | 5 => 5 | 9 => 9 | 66 => 116 | 70 => 120 | 76 => 124 | 77 => 125 | n => n, fun n => n⟩
theorem Try.sortPo : SlLaysF0.n6 Try.prog Try.sortPo_ren := by constructor <;> first | exact dk_ | exact de_
end Go.Proofs
