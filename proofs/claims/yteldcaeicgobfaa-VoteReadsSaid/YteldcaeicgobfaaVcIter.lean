/-
  Ranges over functions: what an iterator does, told once; and the rule of a loop over it.
  Conditions: none; nothing here speaks of a program.
-/
import Derived.Test.YteldcaeicgobfaaVcMap
import Derived.Test.YteldcaeicgobfaaVcCode
set_option linter.unusedSimpArgs false
set_option linter.unusedVariables false
namespace Go.Vc
open Go

/-- gv hands the argument lists xs to its yield, one after the other, till it is told false; it needs what 'Keeps' tells of the world, and leaves old blocks alone. -/
structure IterOf (P : Program) (gv : Value) (xs : List (List Value)) (Keeps : World → Prop) : Prop where
  out : ∃ f first captured, gv = .func (.func f) first captured ∧ ∀ (y : Value) (J : Nat → World → Prop) (Js : World → Prop) (W : World) (K : Kont),
    (∀ i W, J i W → Keeps W) → (∀ i W W', J i W → Mod (fun _ => False) W W' → J i W') → J 0 W →
    (∀ i x W, xs[i]? = some x → J i W → ∀ K' : Kont, (∀ W', J (i + 1) W' → K' (.bool true) W') → (∀ W', Js W' → K' (.bool false) W') → callV P y x W K') →
    (∀ W, J xs.length W ∨ Js W → K (.tuple #[]) W) → Ca P f ⟨first.toList ++ (y :: captured.toList)⟩ W K

/-- The rule of 'for .. range gv' in a function's body. -/
theorem RFW_top {P : Program} {gv : Value} {w : World} {np : Nat} {rnd : Nat → List Value → World → (World → Prop) → (Code → World → Prop) → Prop} {after : List Nat → Option Code → World → Prop}
    {xs : List (List Value)} {Keeps : World → Prop} (hit : IterOf P gv xs Keeps) (hnp : ∀ x ∈ xs, x.length = np) (J : Nat → World → Prop) (Jx : Code → World → Prop)
    (hkeep : ∀ i W, J i W → Keeps W)
    (hmod : ∀ i W W', J i W → Mod (fun b => b = w.heap.size + 1) W W' → J i W')
    (h0 : ∀ o, J 0 ((w.alloc (.deferred (some []))).alloc (.loop o)))
    (hstep : ∀ i x W rb, xs[i]? = some x → J i W → W.heap[w.heap.size + 1]? = some (.loop rb) → rb.state = .busy → ∀ KN KJ, (∀ W', J (i + 1) W' → W'.heap[w.heap.size + 1]? = some (.loop rb) → KN W') → (∀ c W', Jx c W' → W'.heap[w.heap.size + 1]? = some (.loop rb) → KJ c W') →
      ∀ W0, (∀ K : World → Prop, K W → beginK (w.heap.size + 1) W0 K) → rnd (w.heap.size + 1) x W0 KN KJ)
    (hend : ∀ W o, J xs.length W → after [w.heap.size] none (W.putObj (w.heap.size + 1) (.loop o)))
    (hexit : ∀ c W o, Jx c W → after [w.heap.size] (some c) (W.putObj (w.heap.size + 1) (.loop o))) :
    RFW P none gv w np rnd after := by
  obtain ⟨f, first, captured, rfl, hit0⟩ := hit.out
  refine RFW_iff.2 ?_
  show ∀ rec : Loop, _
  intro rec hready hpend hD hY
  have hsz : (w.alloc (.deferred (some []))).heap.size = w.heap.size + 1 := World.size_alloc ..
  rw [hsz] at hY ⊢
  have hput : ∀ (W : World) (o : Obj), Mod (fun b => b = w.heap.size + 1) W (W.putObj (w.heap.size + 1) o) := fun W o => (Mod.refl _ W).putObj (b := w.heap.size + 1) (.inl (by simp)) o
  refine hit0 _ (fun i W => J i W ∧ W.heap[w.heap.size + 1]? = some (.loop rec)) (fun W => ∃ c r, Jx c W ∧ False ∨ (∃ W0, Jx c W0 ∧ W = W0.putObj (w.heap.size + 1) (.loop r) ∧ W.heap[w.heap.size + 1]? = some (.loop r) ∧ r.state = .done ∧ r.pending = some c)) _ _ (fun i W h => hkeep i W h.1) ?_ ⟨h0 rec, ?_⟩ ?_ ?_
  · intro i W W' h hm
    exact ⟨hmod i W W' h.1 (hm.mono fun _ _ hf => hf.elim), hm.keep h.2 id⟩
  · rw [heap_alloc, hsz, if_pos rfl]
  · intro i x W hx hJ K' hT hF
    refine callV_iff.2 ?_
    show Yl P (w.heap.size + 1) ⟨_⟩ W K'
    have hx' : x.length = np := hnp x (List.mem_of_getElem? hx)
    have e1 : (#[] : Array Value).toList ++ x = x := rfl
    rw [e1]
    refine hY x W K' hx' ⟨rec.state, rec.pending, hJ.2⟩ ?_
    have hb : (W.putObj (w.heap.size + 1) (.loop { rec with state := .busy })).heap[w.heap.size + 1]? = some (.loop { rec with state := .busy }) := by
      rw [heap_putObj, if_pos rfl, hJ.2]; rfl
    refine hstep i x (W.putObj (w.heap.size + 1) (.loop { rec with state := .busy })) { rec with state := .busy } hx (hmod i _ _ hJ.1 (hput _ _)) hb rfl _ _ ?_ ?_ W ?_
    · intro W' hJ' hW'
      refine ⟨_, hW', hT _ ⟨hmod _ _ _ hJ' (hput _ _), ?_⟩⟩
      rw [heap_putObj, if_pos rfl, hW']
      simp [← hready, ← hpend]
    · intro c W' hJx hW'
      refine ⟨_, hW', hF _ ⟨c, { rec with state := .done, pending := some c }, .inr ⟨W', hJx, rfl, ?_, rfl, rfl⟩⟩⟩
      rw [heap_putObj, if_pos rfl, hW']
      rfl
    · intro K hK
      exact ⟨⟨rec, hJ.2, hready, hK⟩⟩
  · rintro W (⟨hJ, hr⟩ | ⟨c, r, ⟨_, h⟩ | ⟨W0, hJx, rfl, hr, hst, hpe⟩⟩)
    · refine ⟨rec, hr, by rw [hready]; decide, ?_⟩
      rw [hpend]
      exact hend W _ hJ
    · exact h.elim
    · refine ⟨r, hr, by rw [hst]; decide, ?_⟩
      have h2 : ∀ o o' : Obj, (W0.putObj (w.heap.size + 1) o).putObj (w.heap.size + 1) o' = W0.putObj (w.heap.size + 1) o' := fun o o' => by
        simp [World.putObj]
      rw [h2, hpe]
      exact hexit c W0 _ hJx
end Go.Vc
