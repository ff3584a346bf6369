/-
  Ranges over functions whose iterators have blocks of their own, in a body or within a round of another loop; the body may turn whatever it likes but those.
  Conditions: none; nothing here speaks of a program.
-/
import Derived.Test.YtaagfdkamogkoaaGreatVcIter
import Derived.Test.YtaagfdkamogkoaaGreatVcSlice
set_option linter.unusedVariables false
set_option linter.unusedSimpArgs false
namespace Go.Vc
open Go

/-- gv, ranged over in a world that is Ok, hands the argument lists xs to its yield, one after the other, till it is told false; blocks Q that it lays for itself have to stay meanwhile. -/
structure IterN (P : Program) (gv : Value) (xs : List (List Value)) (Ok : World → Prop) : Prop where
  out : ∃ f first captured, gv = .func (.func f) first captured ∧ ∀ (y : Value) (J : (Nat → Prop) → Nat → World → Prop) (Js : World → Prop) (W : World) (K : Kont), Ok W →
    (∀ Q W1, Mod (fun _ => False) W W1 → (∀ b, Q b → W.heap.size ≤ b ∧ b < W1.heap.size) → J Q 0 W1) →
    (∀ Q i W W', J Q i W → Mod (fun _ => False) W W' → J Q i W') →
    (∀ Q i x W, xs[i]? = some x → J Q i W → ∀ K' : Kont, (∀ W', J Q (i + 1) W' → (∀ b, Q b → W'.heap[b]? = W.heap[b]?) → K' (.bool true) W') → (∀ W', Js W' → K' (.bool false) W') → callV P y x W K') →
    (∀ Q W, J Q xs.length W → K (.tuple #[]) W) → (∀ W, Js W → K (.tuple #[]) W) → Ca P f ⟨first.toList ++ (y :: captured.toList)⟩ W K

theorem beginK_of {l : Nat} {W : World} {K : World → Prop} {r : Loop} (h : W.heap[l]? = some (.loop r)) (hs : r.state = .ready) (hK : K (W.putObj l (.loop { r with state := .busy }))) : beginK l W K :=
  ⟨⟨r, h, hs, hK⟩⟩

section
variable {P : Program} {gv : Value} {w1 : World} {np : Nat} {rnd : Nat → List Value → World → (World → Prop) → (Code → World → Prop) → Prop} {after : List Nat → Option Code → World → Prop}
  {xs : List (List Value)} {Ok : World → Prop}

theorem rf_core {f : FuncId} {first captured : Array Value} {mk : List Nat}
    (hit0 : ∀ (y : Value) (J : (Nat → Prop) → Nat → World → Prop) (Js : World → Prop) (W : World) (K : Kont), Ok W →
      (∀ Q W1, Mod (fun _ => False) W W1 → (∀ b, Q b → W.heap.size ≤ b ∧ b < W1.heap.size) → J Q 0 W1) →
      (∀ Q i W W', J Q i W → Mod (fun _ => False) W W' → J Q i W') →
      (∀ Q i x W, xs[i]? = some x → J Q i W → ∀ K' : Kont, (∀ W', J Q (i + 1) W' → (∀ b, Q b → W'.heap[b]? = W.heap[b]?) → K' (.bool true) W') → (∀ W', Js W' → K' (.bool false) W') → callV P y x W K') →
      (∀ Q W, J Q xs.length W → K (.tuple #[]) W) → (∀ W, Js W → K (.tuple #[]) W) → Ca P f ⟨first.toList ++ (y :: captured.toList)⟩ W K)
    (hnp : ∀ x ∈ xs, x.length = np) (J : (Nat → Prop) → Nat → World → Prop) (Jx : Code → World → Prop)
    (hok : ∀ o, Ok (w1.alloc (.loop o)))
    (h0 : ∀ o Q W, Mod (fun _ => False) (w1.alloc (.loop o)) W → (∀ b, Q b → w1.heap.size < b ∧ b < W.heap.size) → J Q 0 W)
    (hmod : ∀ Q i W W', J Q i W → Mod (fun b => b = w1.heap.size) W W' → J Q i W')
    (hstep : ∀ Q i x W r, xs[i]? = some x → J Q i W → W.heap[w1.heap.size]? = some (.loop r) → r.state = .ready → ∀ KN KJ,
      (∀ W', J Q (i + 1) W' → W'.heap[w1.heap.size]? = some (.loop { r with state := .busy }) → (∀ b, Q b → W'.heap[b]? = W.heap[b]?) → KN W') →
      (∀ c W', Jx c W' → W'.heap[w1.heap.size]? = some (.loop { r with state := .busy }) → KJ c W') → rnd w1.heap.size x W KN KJ)
    (hend : ∀ Q W o, J Q xs.length W → after mk none (W.putObj w1.heap.size (.loop o)))
    (hexit : ∀ c W o, Jx c W → after mk (some c) (W.putObj w1.heap.size (.loop o)))
    (rec : Loop) (hready : rec.state = .ready) (hpend : rec.pending = none)
    (hY : ∀ (args : List Value) (W : World) (K : Kont), args.length = np → RecOf W w1.heap.size rec →
        rnd w1.heap.size args W
          (fun W' => ∃ r, RecAt W' w1.heap.size r ∧ K (.bool true) (W'.putObj w1.heap.size (.loop { r with state := .ready, pending := none })))
          (fun c W' => ∃ r, RecAt W' w1.heap.size r ∧ K (.bool false) (W'.putObj w1.heap.size (.loop { r with state := .done, pending := some c }))) →
        Yl P w1.heap.size ⟨args⟩ W K) :
    Ca P f ⟨first.toList ++ (.func (.yield w1.heap.size) #[] #[] :: captured.toList)⟩ (w1.alloc (.loop rec)) fun _ W =>
        ∃ r, RecAt W w1.heap.size r ∧ r.state ≠ .busy ∧ after mk r.pending (W.putObj w1.heap.size (.loop { r with state := .exhausted })) := by
  have hput : ∀ (W : World) (o : Obj), Mod (fun b => b = w1.heap.size) W (W.putObj w1.heap.size o) := fun W o => (Mod.refl _ W).putObj (b := w1.heap.size) (.inl (by simp)) o
  have hrec0 : (w1.alloc (.loop rec)).heap[w1.heap.size]? = some (.loop rec) := by rw [heap_alloc, if_pos rfl]
  have hsz0 : (w1.alloc (.loop rec)).heap.size = w1.heap.size + 1 := World.size_alloc ..
  refine hit0 _ (fun Q i W => J Q i W ∧ W.heap[w1.heap.size]? = some (.loop rec) ∧ ∀ b, Q b → w1.heap.size < b)
    (fun W => ∃ c r W0, Jx c W0 ∧ W = W0.putObj w1.heap.size (.loop r) ∧ W.heap[w1.heap.size]? = some (.loop r) ∧ r.state = .done ∧ r.pending = some c) _ _ (hok rec) ?_ ?_ ?_ ?_ ?_
  · intro Q W1 hm hQ
    refine ⟨h0 rec Q W1 hm fun b hb => ⟨?_, (hQ b hb).2⟩, hm.keep hrec0 id, fun b hb => ?_⟩
    · have := (hQ b hb).1; omega
    · have := (hQ b hb).1; omega
  · rintro Q i W W' ⟨hJ, hr, hQ⟩ hm
    exact ⟨hmod Q i W W' hJ (hm.mono fun _ _ hf => hf.elim), hm.keep hr id, hQ⟩
  · rintro Q i x W hx ⟨hJ, hr, hQ⟩ K' hT hF
    refine callV_iff.2 ?_
    show Yl P w1.heap.size ⟨_⟩ W K'
    have hx' : x.length = np := hnp x (List.mem_of_getElem? hx)
    have e1 : (#[] : Array Value).toList ++ x = x := rfl
    rw [e1]
    refine hY x W K' hx' ⟨rec.state, rec.pending, hr⟩ ?_
    refine hstep Q i x W rec hx hJ hr hready _ _ ?_ ?_
    · intro W' hJ' hW' hq
      refine ⟨_, hW', hT _ ⟨hmod _ _ _ _ hJ' (hput _ _), ?_, hQ⟩ fun b hb => ?_⟩
      · rw [heap_putObj, if_pos rfl, hW']
        simp [← hready, ← hpend]
      · rw [heap_putObj, if_neg (by have := hQ b hb; omega)]
        exact hq b hb
    · intro c W' hJx hW'
      refine ⟨_, hW', hF _ ⟨c, { rec with state := .done, pending := some c }, W', hJx, rfl, ?_, rfl, rfl⟩⟩
      rw [heap_putObj, if_pos rfl, hW']
      rfl
  · rintro Q W ⟨hJ, hr, _⟩
    refine ⟨rec, hr, by rw [hready]; decide, ?_⟩
    rw [hpend]
    exact hend Q W _ hJ
  · rintro W ⟨c, r, W0, hJx, rfl, hr, hst, hpe⟩
    refine ⟨r, hr, by rw [hst]; decide, ?_⟩
    have h2 : ∀ o o' : Obj, (W0.putObj w1.heap.size o).putObj w1.heap.size o' = W0.putObj w1.heap.size o' := fun o o' => by
      simp [World.putObj]
    rw [h2, hpe]
    exact hexit c W0 _ hJx

/-- 'for .. range gv' in a function's body. -/
theorem RFW_topN {w : World} (hit : IterN P gv xs Ok) (hnp : ∀ x ∈ xs, x.length = np) (J : (Nat → Prop) → Nat → World → Prop) (Jx : Code → World → Prop)
    (hok : ∀ o, Ok ((w.alloc (.deferred (some []))).alloc (.loop o)))
    (h0 : ∀ o Q W, Mod (fun _ => False) ((w.alloc (.deferred (some []))).alloc (.loop o)) W → (∀ b, Q b → w.heap.size + 1 < b ∧ b < W.heap.size) → J Q 0 W)
    (hmod : ∀ Q i W W', J Q i W → Mod (fun b => b = w.heap.size + 1) W W' → J Q i W')
    (hstep : ∀ Q i x W r, xs[i]? = some x → J Q i W → W.heap[w.heap.size + 1]? = some (.loop r) → r.state = .ready → ∀ KN KJ,
      (∀ W', J Q (i + 1) W' → W'.heap[w.heap.size + 1]? = some (.loop { r with state := .busy }) → (∀ b, Q b → W'.heap[b]? = W.heap[b]?) → KN W') →
      (∀ c W', Jx c W' → W'.heap[w.heap.size + 1]? = some (.loop { r with state := .busy }) → KJ c W') → rnd (w.heap.size + 1) x W KN KJ)
    (hend : ∀ Q W o, J Q xs.length W → after [w.heap.size] none (W.putObj (w.heap.size + 1) (.loop o)))
    (hexit : ∀ c W o, Jx c W → after [w.heap.size] (some c) (W.putObj (w.heap.size + 1) (.loop o))) :
    RFW P none gv w np rnd after := by
  obtain ⟨f, first, captured, rfl, hit0⟩ := hit.out
  refine RFW_iff.2 ?_
  show ∀ rec : Loop, _
  intro rec hready hpend hD hY
  have hsz : (w.alloc (.deferred (some []))).heap.size = w.heap.size + 1 := World.size_alloc ..
  refine rf_core (w1 := w.alloc (.deferred (some []))) hit0 hnp J Jx hok ?_ ?_ ?_ ?_ ?_ rec hready hpend hY
  all_goals rw [hsz]
  all_goals assumption

/-- .. within a round of the loop l0. -/
theorem RFW_inN {w : World} {l0 : Nat} {r0 : Loop} (hr0 : w.heap[l0]? = some (.loop r0)) (hit : IterN P gv xs Ok) (hnp : ∀ x ∈ xs, x.length = np) (J : (Nat → Prop) → Nat → World → Prop) (Jx : Code → World → Prop)
    (hok : ∀ o, Ok (w.alloc (.loop o)))
    (h0 : ∀ o Q W, Mod (fun _ => False) (w.alloc (.loop o)) W → (∀ b, Q b → w.heap.size < b ∧ b < W.heap.size) → J Q 0 W)
    (hmod : ∀ Q i W W', J Q i W → Mod (fun b => b = w.heap.size) W W' → J Q i W')
    (hstep : ∀ Q i x W r, xs[i]? = some x → J Q i W → W.heap[w.heap.size]? = some (.loop r) → r.state = .ready → ∀ KN KJ,
      (∀ W', J Q (i + 1) W' → W'.heap[w.heap.size]? = some (.loop { r with state := .busy }) → (∀ b, Q b → W'.heap[b]? = W.heap[b]?) → KN W') →
      (∀ c W', Jx c W' → W'.heap[w.heap.size]? = some (.loop { r with state := .busy }) → KJ c W') → rnd w.heap.size x W KN KJ)
    (hend : ∀ Q W o, J Q xs.length W → after [] none (W.putObj w.heap.size (.loop o)))
    (hexit : ∀ c W o, Jx c W → after [] (some c) (W.putObj w.heap.size (.loop o))) :
    RFW P (some l0) gv w np rnd after := by
  obtain ⟨f, first, captured, rfl, hit0⟩ := hit.out
  refine RFW_iff.2 ?_
  refine ⟨r0, hr0, ?_⟩
  intro rec hready hpend hD hY
  exact rf_core (w1 := w) hit0 hnp J Jx hok h0 hmod hstep hend hexit rec hready hpend hY
end
end Go.Vc
