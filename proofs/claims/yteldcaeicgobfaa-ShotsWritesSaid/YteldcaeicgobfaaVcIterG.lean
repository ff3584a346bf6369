/-
  Ranges over functions whose iterators make what they hand on, and keep a state in one block.
  Conditions: none; nothing here speaks of a program.
-/
import Derived.Test.YteldcaeicgobfaaVcIter
import Derived.Test.YteldcaeicgobfaaVcSlice
set_option linter.unusedVariables false
set_option linter.unusedSimpArgs false
namespace Go.Vc
open Go

/-- gv hands n argument lists to its yield, the i-th of which is Good, till it is told false; its own state lies in block q alone. -/
structure IterG (P : Program) (gv : Value) (n : Nat) (Good : Nat → List Value → World → Prop) (q : Nat) (Cell : Option Obj) (Keeps : World → Prop) : Prop where
  out : ∃ f first captured, gv = .func (.func f) first captured ∧ ∀ (y : Value) (J : Nat → World → Prop) (Js : World → Prop) (W : World) (K : Kont),
    (∀ i W, J i W → Keeps W) → (∀ i W W', J i W → Mod (fun b => b = q) W W' → J i W') → J 0 W → hp W q = Cell →
    (∀ i x W, i < n → Good i x W → J i W → ∀ K' : Kont, (∀ W', J (i + 1) W' → hp W' q = hp W q → K' (.bool true) W') → (∀ W', Js W' → K' (.bool false) W') → callV P y x W K') →
    (∀ W, J n W ∨ Js W → K (.tuple #[]) W) → Ca P f ⟨first.toList ++ (y :: captured.toList)⟩ W K

theorem Own.putLoop {w : World} {e : TypeId} {sz : Nat} {v : Value} {n : Nat} {cs : List Value} (h : Own w e sz v n cs) {l : Nat} {r : Loop} (hl : w.heap[l]? = some (.loop r)) (o : Obj) : Own (w.putObj l o) e sz v n cs :=
  h.keep fun b hb => by
    rw [heap_putObj, if_neg]
    intro e
    subst e
    obtain ⟨_, ⟨rfl, _⟩ | ⟨b', cap, rest, rfl, hc, hh, _⟩⟩ := h
    · cases hb
    · cases hb
      rw [hl] at hh
      cases hh
theorem RFW_topG {P : Program} {gv : Value} {w : World} {np : Nat} {rnd : Nat → List Value → World → (World → Prop) → (Code → World → Prop) → Prop} {after : List Nat → Option Code → World → Prop}
    {n q : Nat} {Good : Nat → List Value → World → Prop} {Cell : Option Obj} {Keeps : World → Prop} (hit : IterG P gv n Good q Cell Keeps) (hq : q < w.heap.size) (hcell : hp w q = Cell)
    (hgood : ∀ i x W r o, Good i x W → W.heap[w.heap.size + 1]? = some (.loop r) → Good i x (W.putObj (w.heap.size + 1) (.loop o))) (hnp : ∀ i x W, Good i x W → x.length = np) (J : Nat → World → Prop) (Jx : Code → World → Prop)
    (hkeep : ∀ i W, J i W → Keeps W)
    (hmod : ∀ i W W', J i W → Mod (fun b => b = w.heap.size + 1 ∨ b = q) W W' → J i W')
    (h0 : ∀ o, J 0 ((w.alloc (.deferred (some []))).alloc (.loop o)))
    (hstep : ∀ i x W rb, i < n → Good i x W → J i W → W.heap[w.heap.size + 1]? = some (.loop rb) → rb.state = .busy → ∀ KN KJ, (∀ W', J (i + 1) W' → W'.heap[w.heap.size + 1]? = some (.loop rb) → hp W' q = hp W q → KN W') → (∀ c W', Jx c W' → W'.heap[w.heap.size + 1]? = some (.loop rb) → KJ c W') →
      ∀ W0, (∀ K : World → Prop, K W → beginK (w.heap.size + 1) W0 K) → rnd (w.heap.size + 1) x W0 KN KJ)
    (hend : ∀ W o, J n W → after [w.heap.size] none (W.putObj (w.heap.size + 1) (.loop o)))
    (hexit : ∀ c W o, Jx c W → after [w.heap.size] (some c) (W.putObj (w.heap.size + 1) (.loop o))) :
    RFW P none gv w np rnd after := by
  obtain ⟨f, first, captured, rfl, hit0⟩ := hit.out
  refine RFW_iff.2 ?_
  show ∀ rec : Loop, _
  intro rec hready hpend hD hY
  have hsz : (w.alloc (.deferred (some []))).heap.size = w.heap.size + 1 := World.size_alloc ..
  rw [hsz] at hY ⊢
  have hput : ∀ (W : World) (o : Obj), Mod (fun b => b = w.heap.size + 1 ∨ b = q) W (W.putObj (w.heap.size + 1) o) := fun W o => (Mod.refl _ W).putObj (b := w.heap.size + 1) (.inl (by simp)) o
  have hpq : ∀ (W : World) (o : Obj), hp (W.putObj (w.heap.size + 1) o) q = hp W q := fun W o => by rw [hp_putObj, if_neg (by omega)]
  refine hit0 _ (fun i W => J i W ∧ W.heap[w.heap.size + 1]? = some (.loop rec)) (fun W => ∃ c r, Jx c W ∧ False ∨ (∃ W0, Jx c W0 ∧ W = W0.putObj (w.heap.size + 1) (.loop r) ∧ W.heap[w.heap.size + 1]? = some (.loop r) ∧ r.state = .done ∧ r.pending = some c)) _ _ (fun i W h => hkeep i W h.1) ?_ ⟨h0 rec, ?_⟩ ?_ ?_ ?_
  · intro i W W' h hm
    exact ⟨hmod i W W' h.1 (hm.mono fun _ _ hf => .inr hf), hm.keep h.2 (by show ¬ _ = _; omega)⟩
  · rw [heap_alloc, hsz, if_pos rfl]
  · rw [hp_alloc, hp_alloc, hsz, if_neg (by omega), if_neg (by omega)]
    exact hcell
  · intro i x W hi hg hJ K' hT hF
    refine callV_iff.2 ?_
    show Yl P (w.heap.size + 1) ⟨_⟩ W K'
    have hx' : x.length = np := hnp i x W hg
    have e1 : (#[] : Array Value).toList ++ x = x := rfl
    rw [e1]
    refine hY x W K' hx' ⟨rec.state, rec.pending, hJ.2⟩ ?_
    have hb : (W.putObj (w.heap.size + 1) (.loop { rec with state := .busy })).heap[w.heap.size + 1]? = some (.loop { rec with state := .busy }) := by
      rw [heap_putObj, if_pos rfl, hJ.2]; rfl
    refine hstep i x (W.putObj (w.heap.size + 1) (.loop { rec with state := .busy })) { rec with state := .busy } hi (hgood _ _ _ _ _ hg hJ.2) (hmod i _ _ hJ.1 (hput _ _)) hb rfl _ _ ?_ ?_ W ?_
    · intro W' hJ' hW' hq'
      refine ⟨_, hW', hT _ ⟨hmod _ _ _ hJ' (hput _ _), ?_⟩ ?_⟩
      · rw [heap_putObj, if_pos rfl, hW']
        simp [← hready, ← hpend]
      · rw [hpq, hq', hpq]
    · intro c W' hJx hW'
      refine ⟨_, hW', hF _ ⟨c, { rec with state := .done, pending := some c }, .inr ⟨W', hJx, rfl, ?_, rfl, rfl⟩⟩⟩
      rw [heap_putObj, if_pos rfl, hW']
      rfl
    · intro K hK
      exact ⟨⟨rec, hJ.2, hready, hK⟩⟩
  · rintro W (⟨hJ, hr⟩ | ⟨c, r, ⟨_, h⟩ | ⟨W0, hJx, rfl, hr, hst, hpe⟩⟩)
    · refine ⟨rec, hr, by rw [hready]; decide, ?_⟩
      rw [hpend]
      exact hend W _ hJ
    · exact h.elim
    · refine ⟨r, hr, by rw [hst]; decide, ?_⟩
      have h2 : ∀ o o' : Obj, (W0.putObj (w.heap.size + 1) o).putObj (w.heap.size + 1) o' = W0.putObj (w.heap.size + 1) o' := fun o o' => by
        simp [World.putObj]
      rw [h2, hpe]
      exact hexit c W0 _ hJx
end Go.Vc
