/-
  Zeros appended: 'append(s, make([]T, n)...)'.
  Conditions: none; nothing here speaks of a program.
-/
import Derived.Test.YteldcaeicgobfaaVcSlice
set_option linter.unusedSimpArgs false
set_option linter.unusedVariables false
namespace Go.Vc
open Go

theorem zeroCells_one {z : Value} (m : Nat) : Builtin.zeroCells #[z] m = (List.replicate m z).toArray := by
  apply Array.ext'
  unfold Builtin.zeroCells
  simp
  apply List.ext_getElem
  · simp
  · intro i h1 h2
    simp [Nat.mod_one]

theorem rx_appendZ {P : Program} {t u ty e : TypeId} {ku : IntKind} {by_ : Nat} {w : World} {K : Kont} {s z : Value} {n m : Nat} {cs : List Value}
    (ht : P.underlying t = some (.slice e)) (hu : P.underlying u = some (.int ku)) (hE : ElemT P e 1 by_) (hz' : (P.info? e).bind (·.zero) = some z) (hzc : z.cells = #[z]) (hz1' : z.oneCell' = true)
    (hs : Own w e 1 s n cs) (hb : (n + m) * by_ ≤ 140737488355328)
    (hK : ∀ s' w', Own w' e 1 s' (n + m) (cs ++ List.replicate m z) → Mod (inSl s) w w' → (∀ b, inSl s' b → inSl s b ∨ w.heap.size ≤ b) → K s' w') :
    rx P (xAppend #[t, u] ty [s, .int .i64 (m : Int)]) w K := by
  obtain ⟨⟨i, z1, hi, hz, hsz, hby, hzs, hz1⟩, hpos, hbpos⟩ := hE
  have : z = z1 := by rw [hi] at hz'; simpa [hz] using hz'.symm
  subst this
  have hneed : n + m ≤ 140737488355328 := Nat.le_trans (Nat.le_mul_of_pos_right _ hbpos) hb
  have hmb : m * by_ ≤ 140737488355328 := Nat.le_trans (Nat.mul_le_mul_right _ (by omega)) hb
  have hlen : cs.length = n := by simpa using hs.1
  have h1 : (List.replicate m z).all (·.oneCell') = true := by simp [hz1']
  have hwr : IntKind.i64.wrap (m : Int) = (m : Int) := by rw [IntKind.wrap_i64]; omega
  have hneg : ¬ (m : Int) < 0 := by omega
  have h48' : ¬ (281474976710656 : Int) < (m : Int) * (i.bytes : Int) := by
    rw [hby, ← Int.natCast_mul]
    omega
  have hnew : ∀ w : World, (if m * 1 = 0 then (pure #[] : Sem (Array Value)) else pure (Builtin.zeroCells z.cells m)).run P w = .ok (List.replicate m z).toArray w := by
    intro w
    by_cases h0 : m = 0
    · subst h0; simp
    · rw [if_neg (by omega), hzc, zeroCells_one]
      rfl
  obtain ⟨base, cap, hsv, hcap, hrow⟩ : ∃ base cap, s = .slice base n cap ∧ n ≤ cap ∧ ((base = none ∧ n = 0 ∧ cap = 0 ∧ cs = []) ∨ ∃ b rest, base = some ⟨b, 0, none⟩ ∧ w.heap[b]? = some (.cells (cs ++ rest).toArray e (0, 0)) ∧ rest.length = (cap - n) * 1 ∧ rest.all (·.oneCell') = true) := by
    rcases hs.2 with ⟨rfl, rfl⟩ | ⟨b, cap, rest, rfl, hc, hh, hr⟩
    · exact ⟨none, 0, rfl, Nat.le_refl _, .inl ⟨rfl, rfl, rfl, by simpa using hlen⟩⟩
    · exact ⟨_, cap, rfl, hc, .inr ⟨b, rest, rfl, hh, hr⟩⟩
  subst hsv
  obtain ⟨L, hL⟩ : ∃ L : Int, (m : Int) = L := ⟨_, rfl⟩
  rw [hL]
  rw [hL] at hwr
  have hwr : IntKind.i64.wrap L = (m : Int) := hwr.trans hL.symm
  clear hL
  by_cases hroom : n + m ≤ cap
  · rcases hrow with ⟨rfl, rfl, rfl, rfl⟩ | ⟨b, rest, rfl, hh, hrl, hr1⟩
    · have hm : m = 0 := by omega
      subst hm
      refine rx_of (v := .slice none 0 0) (w' := w) ?_ (hK _ _ hs (Mod.refl _ _) (fun b hb => .inl hb))
      simp [xAppend, Builtin.append_, run_underlying ht, sizeOf, typeInfo, hi, hsz, run_underlying hu, Result.andThen, asInt, asIntOf, hwr]
    · have hst := run_storeCells_at P b n e (List.replicate m z) 0 (cs ++ rest).toArray w hh (by simp [hlen, hrl]; omega) (oneAll_mem h1)
      simp only [Nat.add_zero] at hst
      have hrow2 : (cs ++ rest).take n ++ List.replicate m z ++ (cs ++ rest).drop (n + (List.replicate m z).length) = (cs ++ List.replicate m z) ++ rest.drop (List.replicate m z).length := by
        rw [← hlen]
        simp [List.append_assoc]
      refine rx_of (v := .slice (some ⟨b, 0, none⟩) (n + m) cap) (w' := w.setRow b ((cs ++ List.replicate m z) ++ rest.drop (List.replicate m z).length).toArray) ?_ (hK _ _ ⟨?_, .inr ⟨b, cap, rest.drop (List.replicate m z).length, rfl, hroom, ?_, ?_, ?_⟩⟩ ?_ ?_)
      · simp only [hrow2] at hst
        have e0 : (⟨b, 0, none⟩ : Addr).add (n * 1) = ⟨b, n, none⟩ := by rw [addr_add]; simp
        have e0' : (⟨b, 0, none⟩ : Addr).add n = ⟨b, n, none⟩ := by rw [addr_add]; simp
        by_cases h0 : m = 0
        · subst h0
          simp at hst
          have hnc : ¬ cap < n := by omega
          simp [xAppend, Builtin.append_, run_underlying ht, sizeOf, typeInfo, hi, hsz, run_underlying hu, Result.andThen, asInt, asIntOf, hwr, hcap, e0', hst]
        · simp [xAppend, Builtin.append_, run_underlying ht, sizeOf, typeInfo, zeroValue, hz, hi, hsz, run_underlying hu, Result.andThen, asInt, asIntOf, hwr, hroom, e0', hneg, h48', h0, hzc, zeroCells_one]
          have hst' := hst
          simp at hst'
          rw [hst']
      · simp [hlen]
      · rw [heap_setRow, if_pos rfl, hh]
      · simp [hrl]; omega
      · exact List.all_eq_true.2 fun v hv => List.all_eq_true.1 hr1 v (List.mem_of_mem_drop hv)
      · exact (Mod.refl (inSl (.slice (some ⟨b, 0, none⟩) n cap)) w).setRow (.inl (show inSl _ b from rfl)) _
      · intro b' hb'; exact .inl hb'
  · have hfit := growslice_fits (old := cap) (need := n + m) (bytes := by_) (by omega) hb
    have h48 : ¬ (281474976710656 < Builtin.nextslicecap (n + m) cap * i.bytes) := by rw [hby]; omega
    have h63 : ¬ (9223372036854775807 < ((n : Int) + (m : Int))) := by omega
    have hcapge : n + m ≤ grownCap w (n + m) cap e := by simp [grownCap, Question.cut]
    have hrs : Rd w.drew 1 (.slice base n cap) n cs := hs.rd.keep fun _ _ => rfl
    have hf1 := hrs.first (P := P) hpos
    refine rx_of (v := .slice (some ⟨w.heap.size, 0, none⟩) (n + m) (grownCap w (n + m) cap e))
      (w' := w.drew.alloc (.cells (cs.toArray ++ (List.replicate m z).toArray ++ Builtin.zeroCells z.cells (grownCap w (n + m) cap e - (n + m))) e)) ?_ (hK _ _ ⟨?_, .inr ⟨w.heap.size, _, (Builtin.zeroCells z.cells (grownCap w (n + m) cap e - (n + m))).toList, rfl, hcapge, ?_, ?_, ?_⟩⟩ ?_ ?_)
    · by_cases h0 : m = 0
      · subst h0
        have := hcap
        omega
      · simp [xAppend, Builtin.append_, run_underlying ht, sizeOf, typeInfo, zeroValue, hi, hz, hsz, run_underlying hu, Result.andThen, asInt, asIntOf, hwr, hneg, h48', h0, hroom, h63, h48, Question.forced, hf1, newRow, grownCap]
        have e9 : Builtin.zeroCells z.cells m = Array.replicate m z := by rw [hzc, zeroCells_one]; simp
        rw [e9]
    · simp [hlen]
    · rw [heap_alloc, if_pos (show w.heap.size = w.drew.heap.size from rfl)]
      simp
    · rw [zeroCells_len, hzs]
    · exact zeroCells_all hz1 (by rw [hzs]; exact hpos) _
    · exact ((Mod.refl _ w).drew).alloc _
    · rintro b' hb'
      cases hb'
      exact .inr (Nat.le_refl _)
end Go.Vc
