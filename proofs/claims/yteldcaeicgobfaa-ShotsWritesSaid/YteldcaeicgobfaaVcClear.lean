/-
  The rule of clear(s) on a slice.
  Conditions: none; nothing here speaks of a program.
-/
import Derived.Test.YteldcaeicgobfaaVcZero
set_option linter.unusedVariables false
set_option linter.unusedSimpArgs false
namespace Go.Vc
open Go

theorem rx_clear {P : Program} {t ty e : TypeId} {w : World} {K : Kont} {g o n c : Nat} {z : Value} {cur : Array Value} {T : TypeId} (ht : P.underlying t = some (.slice e)) (hz : ∃ i, P.info? e = some i ∧ i.zero = some z) (hzc : z.cells = #[z]) (hz1 : z.oneCell' = true)
    (hg : w.heap[g]? = some (.cells cur T (0, 0))) (hn : 0 < n) (hfit : o + n ≤ cur.size) (hK : K (.tuple #[]) (w.setRow g (lay cur.toList o (List.replicate n z)).toArray)) :
    rx P (xClear #[t] ty [.slice (some ⟨g, o, none⟩) n c]) w K := by
  obtain ⟨i, hi, hiz⟩ := hz
  have h1 : ∀ v ∈ List.replicate n z, v.oneCell' = true := fun v hv => by rw [List.eq_of_mem_replicate hv]; exact hz1
  have hst := run_storeCells_at P g o T (List.replicate n z) 0 cur w hg (by simpa using hfit) h1
  simp only [Nat.add_zero] at hst
  refine rx_of (v := .tuple #[]) (w' := w.setRow g (lay cur.toList o (List.replicate n z)).toArray) ?_ hK
  obtain ⟨m, rfl⟩ : ∃ m, n = m + 1 := ⟨n - 1, by omega⟩
  have e0 : (Builtin.zeroCells z.cells (m + 1)).toList = List.replicate (m + 1) z := by rw [hzc, zeroCells_one]
  simp [xClear, Builtin.clear_, run_underlying ht, zeroValue, typeInfo, hi, hiz, Result.andThen, e0, hst, lay]
end Go.Vc
