/-
  The iterator slices.Chunk over bytes.
  Conditions: the memory holds the slice.
-/
import Derived.Test.YteldcaeicgobfaaG1
import Derived.Test.YteldcaeicgobfaaVcIter
set_option linter.unusedSimpArgs false
set_option linter.unusedVariables false
namespace Go.Proofs
open Go Go.Vc

def ptr0 (b : Nat) : Value := .pointer (some ⟨b, 0, none⟩)

theorem ca_chunk {w : World} {K : Kont} {a : Option Addr} {l c : Nat} {n : Int} (hn : 1 ≤ n)
    (hK : ∀ w', Mod (fun _ => False) w w' → hp w' w.heap.size = some (.cells #[.slice a l c] 23 (0, 0)) → hp w' (w.heap.size + 1) = some (.cells #[.int .i64 n] 3 (0, 0)) →
      K (.func (.func 81) #[] #[ptr0 w.heap.size, ptr0 (w.heap.size + 1)]) w') : Ca Try.prog 58 #[.slice a l c, .int .i64 n] w K := by
  apply ca58
  unfold F58
  have h1 : ¬ n < 1 := by omega
  simp [go_sem, h1]
  exact hK _ (((Mod.refl _ w).alloc _).alloc _) (by simp [go_sem]) (by simp [go_sem])

theorem iter_chunk {p1 p2 b off n k cap : Nat} (hn : 1 ≤ n) (hcap : n * k ≤ cap) (hmax : n * k < 9223372036854775807 - n) :
    IterOf Try.prog (.func (.func 81) #[] #[ptr0 p1, ptr0 p2]) ((List.range k).map fun i => [.slice (some ⟨b, off + n * i, none⟩) n n])
      (fun W => hp W p1 = some (.cells #[.slice (some ⟨b, off, none⟩) (n * k) cap] 23 (0, 0)) ∧ hp W p2 = some (.cells #[.int .i64 n] 3 (0, 0))) := by
  refine ⟨_, _, _, rfl, fun y J Js W K hkeep hmod h0 hstep hend => ?_⟩
  show Ca Try.prog 81 #[y, ptr0 p1, ptr0 p2] W K
  apply ca81
  unfold F81 L81_0
  refine loopW (fun s W => ∃ i : Nat, i ≤ k ∧ s = (.int .i64 ((n * i : Nat) : Int), ()) ∧ J i W) (fun s _ => match s.1 with | .int _ i => n * k - i.toNat | _ => 0) ⟨0, by omega, by simp, h0⟩ ?_
  rintro ⟨_, _⟩ W ⟨i, hi, ⟨⟩, hJ⟩ _
  obtain ⟨k1, k2⟩ := hkeep i W hJ
  by_cases hlt : i < k
  · have hlt1 : n * i < n * k := Nat.mul_lt_mul_of_pos_left hlt (by omega)
    have hle2 : n * (i + 1) ≤ n * k := Nat.mul_le_mul_left n hlt
    have e2 : n * (i + 1) = n * i + n := Nat.mul_succ n i
    have hlt3 : ((n * i : Nat) : Int) < ((n * k : Nat) : Int) := by omega
    have hle3 : n * i ≤ n * k := by omega
    have hne : ¬ cap = n * i := by omega
    have hmin : ¬ n * k - n * i < n := by omega
    have hw1 : IntKind.i64.wrap (((n * i : Nat) : Int) + (n : Int)) = ((n * (i + 1) : Nat) : Int) := by rw [IntKind.wrap_i64]; omega
    have hw2 : ((n * (i + 1) : Nat) : Int) ≤ (cap : Int) := by omega
    have hw3 : n * (i + 1) ≤ cap := by omega
    have hw4 : n * i ≤ n * (i + 1) := by omega
    have hw5 : n * (i + 1) - n * i = n := by omega
    have hw6 : ¬ n * (i + 1) = n * i := by omega
    have hcall := fun (K' : Kont) (h1 : ∀ W', J (i + 1) W' → K' (.bool true) W') (h2 : ∀ W', Js W' → K' (.bool false) W') => hstep i [.slice (some ⟨b, off + n * i, none⟩) n n] W.drew (by simp [List.getElem?_range, hlt]) (hmod i _ _ hJ ((Mod.refl _ W).drew)) K' h1 h2
    simp [-Int.natCast_mul, go_sem, ptr0, k1, k2, hlt3, hlt1, hle3, hne, hmin, hw1, hw2, hw3, hw4, hw5, hw6]
    refine hcall _ (fun W' hJ' => ?_) (fun W' hJs => ?_)
    · obtain ⟨k3, k4⟩ := hkeep _ W' hJ'
      simp [-Int.natCast_mul, go_sem, k3, k4, hw1]
      exact ⟨⟨i + 1, hlt, rfl, hJ'⟩, by omega⟩
    · simp [go_sem]
      exact hend W' (.inr hJs)
  · have hik : i = k := by omega
    subst hik
    simp [-Int.natCast_mul, go_sem, ptr0, k1, k2]
    exact hend W (.inl (by simpa using hJ))
end Go.Proofs
