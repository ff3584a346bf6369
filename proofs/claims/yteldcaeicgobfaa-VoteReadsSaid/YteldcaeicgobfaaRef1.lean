/-
  The document's disk as plain data (a list of all that was written), and the contracts of its functions.
  Conditions: the memory holds it.
-/
import Derived.Test.YteldcaeicgobfaaDisk8
import Derived.Test.YteldcaeicgobfaaG4
set_option linter.unusedSimpArgs false
set_option linter.unusedVariables false
namespace Go.Proofs
open Go Go.Vc

/-- A loop; what comes behind a round stays a name. -/
theorem loopK {S : Type} {body : S → World → (S → World → Prop) → Prop} {s : S} {w : World} (I : S → World → Prop) (m : S → World → Nat) (h0 : I s w)
    (h : ∀ s w, I s w → ∀ KN : S → World → Prop, (∀ s' w', I s' w' → m s' w' < m s w → KN s' w') → body s w KN) : LoopW body s w :=
  ⟨⟨I, m, h0, fun s w hi => h s w hi _ fun _ _ h1 h2 => ⟨h1, h2⟩⟩⟩

/-- Two ways meet; where they go on stays a name. -/
theorem joinK {S : Type} {A : (S → World → Prop) → Prop} {B : S → World → Prop} (J : S → World → Prop) (h : ∀ J' : S → World → Prop, (∀ s w, J s w → J' s w) → A J') (h' : ∀ s w, J s w → B s w) : JoinW A B := ⟨⟨J, h', h J fun _ _ h => h⟩⟩

def cellsP (p : Pl × Sec) : List Value := [.int .i64 p.1.1, .int .i64 p.1.2, .string (strOf p.2)]
theorem cellsP_one (l : List (Pl × Sec)) : (l.flatMap cellsP).all (·.oneCell') = true := by
  simp [List.all_flatMap, cellsP, Value.oneCell']

structure RefQ (w : World) (r : Nat) (F : Nat → Prop) (R : DM) : Prop where
  out : ∃ sL sW, w.heap[r]? = some (.cells #[sL, sW, .int .i64 R.left, .bool R.armed, .bool R.off] 46 (0, 0)) ∧ Own w 122 3 sL R.lasts.length (R.lasts.flatMap cellsP) ∧ Own w 122 3 sW R.waits.length (R.waits.flatMap cellsP) ∧
    (∀ b, F b ↔ b = r ∨ inSl sL b ∨ inSl sW b) ∧ ¬ inSl sL r ∧ ¬ inSl sW r ∧ (∀ b, inSl sL b → ¬ inSl sW b)
  left : R.armed = true → 0 ≤ R.left ∧ R.left < 9223372036854775808
theorem RefQ.mod {F G : Nat → Prop} {w w' : World} {r : Nat} {R : DM} (h : RefQ w r F R) (hm : Mod G w w') (hd : ∀ b, F b → ¬ G b) : RefQ w' r F R := by
  obtain ⟨⟨sL, sW, h1, h2, h3, h4, h5, h6, h7⟩, hl⟩ := h
  exact ⟨⟨sL, sW, hm.keep h1 (hd r ((h4 r).2 (.inl rfl))), h2.mod hm fun b hb => hd b ((h4 b).2 (.inr (.inl hb))), h3.mod hm fun b hb => hd b ((h4 b).2 (.inr (.inr hb))), h4, h5, h6, h7⟩, hl⟩
theorem RefQ.lt {F : Nat → Prop} {w : World} {r : Nat} {R : DM} (h : RefQ w r F R) {b : Nat} (hb : F b) : b < w.heap.size := by
  obtain ⟨⟨sL, sW, h1, h2, h3, h4, h5, h6, h7⟩, hl⟩ := h
  rcases (h4 b).1 hb with rfl | hb | hb
  · exact lt_of_heap h1
  · exact h2.lt hb
  · exact h3.lt hb
theorem RefQ.self {F : Nat → Prop} {w : World} {r : Nat} {R : DM} (h : RefQ w r F R) : F r := by
  obtain ⟨⟨sL, sW, h1, h2, h3, h4, h5, h6, h7⟩, hl⟩ := h
  exact (h4 r).2 (.inl rfl)
/-- Nothing but the numbers has turned. -/
theorem RefQ.turn {w w' : World} {r : Nat} {F : Nat → Prop} {R R' : DM} (h : RefQ w r F R) (e1 : R'.lasts = R.lasts) (e2 : R'.waits = R.waits) (e3 : R'.armed = true → 0 ≤ R'.left ∧ R'.left < 9223372036854775808) (hm : Mod (fun b => b = r) w w')
    (hd : ∀ sL sW, hp w r = some (.cells #[sL, sW, .int .i64 R.left, .bool R.armed, .bool R.off] 46 (0, 0)) → hp w' r = some (.cells #[sL, sW, .int .i64 R'.left, .bool R'.armed, .bool R'.off] 46 (0, 0))) : RefQ w' r F R' := by
  obtain ⟨⟨sL, sW, h1, h2, h3, h4, h5, h6, h7⟩, hl⟩ := h
  refine ⟨⟨sL, sW, hd _ _ h1, ?_, ?_, h4, h5, h6, h7⟩, e3⟩
  · rw [e1]; exact h2.mod hm fun b hb e => h5 (e ▸ hb)
  · rw [e2]; exact h3.mod hm fun b hb e => h6 (e ▸ hb)

theorem ca_rmay {f a n : Int} {w : World} {K : Kont} (hK : K (.bool (mayB f a n)) w) : Ca Try.prog 59 #[.int .i64 f, .int .i64 a, .int .i64 n] w K := by
  apply ca59
  unfold F59
  simp [go_sem]
  unfold mayB at hK
  repeat' split
  all_goals first
    | (rw [IntKind.wrap_i64]
       have e : (8192 - n + 9223372036854775808) % 18446744073709551616 - 9223372036854775808 = 8192 - n := by omega
       rw [e]
       have e2 : decide (0 ≤ f ∧ f < 5 ∧ 0 ≤ a ∧ 1 ≤ n ∧ n ≤ 8192 ∧ a ≤ 8192 - n) = decide (a ≤ 8192 - n) := by rw [decide_eq_decide]; omega
       rw [← e2]; exact hK)
    | (have e2 : decide (0 ≤ f ∧ f < 5 ∧ 0 ≤ a ∧ 1 ≤ n ∧ n ≤ 8192 ∧ a ≤ 8192 - n) = false := by rw [decide_eq_false_iff_not]; omega
       rw [e2] at hK; exact hK)

theorem ca_rstep {w : World} {r : Nat} {F : Nat → Prop} {R : DM} {K : Kont} (h : RefQ w r F R)
    (hK : ∀ w', RefQ w' r F R.step.2 → Mod (fun b => b = r) w w' → K (.bool R.step.1) w') : Ca Try.prog 60 #[dptr r] w K := by
  have h0 := h
  obtain ⟨⟨sL, sW, h1, h2, h3, h4, h5, h6, h7⟩, hle⟩ := h
  apply ca60
  unfold F60
  refine JoinW.on ?_
  unfold J60_0
  simp [go_sem, dptr, hp_of h1]
  cases ha : R.armed
  · simp
    have e : R.step = (true, R) := by simp [DM.step, ha]
    rw [e] at hK
    exact hK w h0 (Mod.refl _ _)
  · obtain ⟨hle1, hle2⟩ := hle ha
    by_cases hz : R.left = 0
    · have e : R.step = (false, { R with armed := false, off := true }) := by simp [DM.step, ha, hz]
      rw [e] at hK
      simp [hz]
      refine hK _ (h0.turn rfl rfl (by simp) (((Mod.refl _ w).setCell (by simp) _ _).setCell (by simp) _ _) fun sL sW h => ?_) (((Mod.refl _ w).setCell (by simp) _ _).setCell (by simp) _ _)
      simp [go_sem, h]
    · have e : R.step = (true, { R with left := R.left - 1 }) := by simp [DM.step, ha, hz]
      rw [e] at hK
      have hwr : IntKind.i64.wrap (R.left - 1) = R.left - 1 := by rw [IntKind.wrap_i64]; omega
      simp [hz, hwr]
      refine hK _ (h0.turn rfl rfl (by intro _; simp only; omega) ((Mod.refl _ w).setCell (by simp) _ _) fun sL sW h => ?_) ((Mod.refl _ w).setCell (by simp) _ _)
      simp [go_sem, h]

theorem ca_rarm {w : World} {r : Nat} {F : Nat → Prop} {R : DM} {K : Kont} {n : Int} (h : RefQ w r F R) (hn : n < 9223372036854775808) (hK : ∀ w', RefQ w' r F (R.arm n).2 → Mod (fun b => b = r) w w' → K (.int .i64 (R.arm n).1) w') : Ca Try.prog 26 #[dptr r, .int .i64 n] w K := by
  have h0 := h
  obtain ⟨⟨sL, sW, h1, h2, h3, h4, h5, h6, h7⟩, hle⟩ := h
  apply ca26
  unfold F26
  simp [go_sem, dptr, hp_of h1]
  unfold DM.arm at hK
  cases ho : R.off
  · simp [ho] at hK
    by_cases hn1 : n < -1
    · simp [hn1] at hK ⊢
      exact hK _ h0 (Mod.refl _ _)
    · simp [hn1] at hK ⊢
      refine hK _ (h0.turn rfl rfl (by simp; omega) (((Mod.refl _ w).setCell (by simp) _ _).setCell (by simp) _ _) fun sL sW h => ?_) (((Mod.refl _ w).setCell (by simp) _ _).setCell (by simp) _ _)
      simp [go_sem, h, ho]
  · simp [ho] at hK ⊢
    exact hK _ h0 (Mod.refl _ _)
end Go.Proofs
