/-
  slices.SortFunc at structs: the kit's contract, turned to what this calculus says of slices.
  Conditions: none; nothing here speaks of a program.
-/
import Derived.Test.YtanjfianhnhhmaaVcSlice
import Derived.Shelf.SlSortCmp.NoneTotal
set_option linter.unusedVariables false
set_option linter.unusedSimpArgs false
namespace Go.Vc
open Go Go.Shelf Go.RowKit Go.Lib Go.Sort Go.Proofs

theorem callFunc_enter {P : Program} (hP : NoNum P = true) {g : FuncId} (hb : ∃ fn, P.funcs[g]? = some fn ∧ fn.body.isSome = true) (args : Array Value) (w : World) : (callFunc g args).run P w = .ok (.enter g args) w := by
  obtain ⟨fn, hf, hb⟩ := hb
  have hname : (fn.name == "runtime.NumGoroutine") = false := by
    have := (Array.all_eq_true'.1 hP) fn (Array.mem_of_getElem? hf)
    simpa using this
  have hname' : ¬ fn.name = "runtime.NumGoroutine" := by simpa using hname
  have hnone' : ¬ fn.body = none := by intro hh; rw [hh] at hb; exact absurd hb (by simp)
  unfold callFunc
  simp [Sem.run_bind, Result.andThen, hf, hname', hnone']

theorem flatK_toList {α : Type} [Inhabited α] (enc : α → List Value) (k : Nat) (hk0 : 0 < k) (hk : ∀ x, (enc x).length = k) (d : Array α) : (flatK enc k d).toList = d.toList.flatMap enc := by
  have hl : (d.toList.flatMap enc).length = d.size * k := by rw [flat_len enc k _ fun x _ => hk x]; simp
  apply List.ext_getElem?
  intro t
  by_cases ht : t < d.size * k
  · have h1 : (flatK enc k d).toList[t]? = some (flatK enc k d)[t]! := by
      rw [Array.getElem?_toList, Array.getElem?_eq_getElem (by simpa using ht), getElem!_pos _ t (by simpa using ht)]
    rw [h1, get_flatK enc k d t ht]
    have hi : t / k < d.size := Nat.div_lt_of_lt_mul (by rw [Nat.mul_comm]; exact ht)
    have hj : t % k < k := Nat.mod_lt _ hk0
    have h2 := flat_get enc k d.toList (t / k) (fun x _ => hk x) (by simpa using hi)
    have h3 : (d.toList.flatMap enc)[t]? = ((d.toList.flatMap enc).drop (t / k * k) |>.take k)[t % k]? := by
      rw [List.getElem?_take, if_pos hj, List.getElem?_drop, Nat.div_add_mod']
    rw [h3, h2]
    have h4 : d[t / k]! = d.toList[t / k]'(by simpa using hi) := by
      rw [getElem!_pos d _ hi]; simp
    rw [h4, getElem!_pos _ _ (by rw [hk]; exact hj), List.getElem?_eq_getElem (by rw [hk]; exact hj)]
  · rw [List.getElem?_eq_none (by simp; omega), List.getElem?_eq_none (by omega)]

theorem putCells_row (F rest cs : List Value) (h : F.length = cs.length) : putCells id 0 F.toArray (cs ++ rest).toArray = (F ++ rest).toArray := by
  apply Array.ext_getElem?
  intro t
  simp only [putCells, Array.getElem?_mapIdx, List.getElem?_toArray, List.size_toArray, Nat.zero_le, true_and, Nat.zero_add, Nat.sub_zero, id]
  by_cases ht : t < F.length
  · rw [List.getElem?_append_left (by omega), List.getElem?_append_left ht, List.getElem?_eq_getElem (show t < cs.length by omega), Option.map_some, if_pos ht, List.getElem?_eq_getElem ht]
    rw [getElem!_pos _ t (by simpa using ht)]
    simp
  · rw [List.getElem?_append_right (by omega), List.getElem?_append_right (by omega), h]
    cases rest[t - cs.length]? with
    | none => rfl
    | some v => rw [Option.map_some, if_neg (by omega)]

section
variable {P : Program} {ρ : Ren} {α : Type} [Inhabited α]

theorem ca_sortK (hP : NoNum P = true) (L : SlLaysF0.n6 P ρ) (k : Nat) (aE : isAggT P (ρ.t 24) = true) (zE : P.cellsOf (ρ.t 24) = k + 1) (enc : α → List Value) (hk : ∀ x, (enc x).length = k + 1) (h1 : ∀ x, (enc x).all (·.oneCell') = true)
    (cf : α → α → Int) (hO : SWO (ltOf cf)) (g : Nat) (hcl : ∀ (x y : α) (W : World), Ca P g #[.agg (enc x).toArray, .agg (enc y).toArray] W fun v w' => v = .int .i64 (cf x y) ∧ ∃ q os, w' = grow (W.drewN q) os)
    {e : TypeId} {w : World} {sl : Value} {n : Nat} {d : List α} {K : Kont} (ho : Own w e (k + 1) sl n (d.flatMap enc)) (hn : n < 4611686018427387904)
    (hK : ∀ (w' : World) (d' : List α), Own w' e (k + 1) sl n (d'.flatMap enc) → d'.Perm d → d'.Pairwise (fun x y => ltOf cf y x = false) → Mod (inSl sl) w w' → K (.tuple #[]) w') :
    Ca P (ρ.f 6) #[sl, .func (.func g) #[] #[]] w K := by
  have hln : d.length = n := by
    have := ho.1
    rw [flat_len enc (k + 1) d fun x _ => hk x] at this
    exact Nat.eq_of_mul_eq_mul_right (Nat.succ_pos k) this
  obtain ⟨hl, ⟨rfl, rfl⟩ | ⟨b, cap, rest, rfl, hc, hh, hr, hr1⟩⟩ := ho
  · have hd : d = [] := List.length_eq_zero_iff.1 hln
    subst hd
    have := AnyF.slices_SortFunc_none L none 0 (.func (.func g) #[] #[]) w
    exact ⟨Calls.mono this fun e w' ⟨he, hw⟩ => ⟨_, he, by subst hw; exact hK _ [] (Own.nil ..) (List.Perm.refl _) List.Pairwise.nil (Mod.refl _ _)⟩⟩
  · have hb : b < w.heap.size := lt_of_heap hh
    have heg := callFunc_enter hP (hcl default default w).bodied
    have hH : HoldsK enc (k + 1) w b 0 d.toArray := by
      intro j hj
      rw [size_flatK] at hj
      have hF : (flatK enc (k + 1) d.toArray)[j]! = (d.flatMap enc)[j]'(by rw [hl, ← hln]; simpa using hj) := by
        rw [getElem!_pos _ j (by rw [size_flatK]; exact hj), ← Array.getElem_toList]
        congr 1
        exact flatK_toList enc (k + 1) (Nat.succ_pos k) hk d.toArray
      have hj' : j < (d.flatMap enc).length := by rw [hl, ← hln]; simpa using hj
      constructor
      · simp only [World.cell?, hh, Nat.zero_add]
        rw [hF]
        simp [List.getElem?_append_left hj']
      · simp [World.frozen?, hh]
    have hcmp : CmpLays P g #[] enc (k + 1) cf b 0 d.toArray.size w := fun m os dk _ x y => by
      refine Calls.mono (hcl x y _).out ?_
      rintro e w' ⟨v, rfl, rfl, hw⟩
      exact ⟨rfl, hw⟩
    have hcon := AnyQ.slices_SortFunc L (k + 1) (run_isAgg aE) (run_sizeOf zE) enc hk (fun x v hv => List.all_eq_true.1 (h1 x) v hv) cf hO g #[] b 0 cap d.toArray w heg hcmp hH hb (by simpa [hln] using hn)
    rw [show d.toArray.size = n by simpa using hln] at hcon
    refine ⟨Calls.mono hcon ?_⟩
    rintro e' w' ⟨rfl, d', m, os, hp, hs, rfl⟩
    refine ⟨_, rfl, ?_⟩
    have hsz : d'.size = n := by rw [hp.1]; simpa using hln
    have hfl : (flatK enc (k + 1) d').toList = d'.toList.flatMap enc := flatK_toList enc (k + 1) (Nat.succ_pos k) hk d'
    have hfl2 : flatK enc (k + 1) d' = (d'.toList.flatMap enc).toArray := by rw [← hfl]
    have hlen' : (d'.toList.flatMap enc).length = (d.flatMap enc).length := by
      rw [hl, flat_len enc (k + 1) _ fun x _ => hk x]; simp [hsz]
    have hheap : ∀ b', b' < w.heap.size → (sortWorldK enc (k + 1) w b 0 m d' os).heap[b']? = if b' = b then some (.cells (d'.toList.flatMap enc ++ rest).toArray e (0, 0)) else w.heap[b']? := by
      intro b' hb'
      show ((w.heap.modify b (onCells (putCells id 0 (flatK enc (k + 1) d')))) ++ os)[b']? = _
      rw [Array.getElem?_append_left (by simpa using hb'), Array.getElem?_modify]
      by_cases he : b' = b
      · subst he
        rw [if_pos rfl, if_pos rfl, hh]
        simp only [Option.map_some, onCells]
        rw [hfl2, putCells_row _ _ _ hlen']
      · rw [if_neg (fun e => he e.symm), if_neg he]
    have hmod : Mod (inSl (.slice (some ⟨b, 0, none⟩) n cap)) w (sortWorldK enc (k + 1) w b 0 m d' os) := by
      refine ⟨?_, rfl, rfl, fun b' hb' hf => ?_⟩
      · show w.heap.size ≤ ((w.heap.modify b _) ++ os).size
        simp
      · rw [hheap b' hb', if_neg (fun e => hf (by subst e; rfl))]
    refine hK _ d'.toList ⟨by rw [hlen', hl], .inr ⟨b, cap, rest, rfl, hc, by rw [hheap b hb, if_pos rfl], hr, hr1⟩⟩ ?_ ?_ hmod
    · have := hp.2.2
      have e1 : d'.extract 0 n = d' := by rw [← hsz]; simp
      have e2 : d.toArray.extract 0 n = d.toArray := by rw [← hln]; simp
      rw [e1, e2] at this
      simpa using this
    · rw [List.pairwise_iff_getElem]
      intro i j hi hj hij
      have := hs i j (Nat.zero_le _) hij (by rw [← hsz]; simpa using hj)
      rw [getElem!_pos d' i (by simpa using hi), getElem!_pos d' j (by simpa using hj)] at this
      simpa using this
end
end Go.Vc
