/-
  The plain laws of the snapshots: a save.
  Conditions: none; no program in sight.
-/
import Derived.Test.YteldcaeicgobfaaShotP3
set_option linter.unusedVariables false
set_option linter.unusedSimpArgs false
namespace Go.Proofs
open Go Go.Vc

theorem updC_range (g : Nat → Sec) (a : Nat) : ∀ (n : Nat) (c : Nat → Sec) (j : Nat), updC c ((List.range n).map fun i : Nat => (((a : Int) + (i : Int)), g i)) j = if a ≤ j ∧ j < a + n then g (j - a) else c j
  | 0, c, j => by simp [updC]; omega
  | n + 1, c, j => by
    rw [List.range_succ, List.map_append, updC_app]
    show (if ((a : Int) + (n : Int)) = (j : Int) then g n else _) = _
    rw [updC_range g a n c j]
    by_cases hj : j = a + n
    · subst hj
      rw [if_pos (by omega), if_pos (by omega)]
      congr 1
      omega
    · rw [if_neg (by omega)]
      by_cases h : a ≤ j ∧ j < a + n
      · rw [if_pos h, if_pos (by omega)]
      · rw [if_neg h, if_neg (by omega)]
theorem partL_in (c : Nat → Sec) (l : List UInt8) (j : Nat) : updC c (partL l) j = if 3 ≤ j ∧ j < 3 + secN l.length then partS l (j - 3) else c j := updC_range (partS l) 3 _ c j
theorem partL_cut {c : Nat → Sec} {l : List UInt8} {T : List (Int × Sec)} (h : Crashed (partL l) T) {i : Nat} (hi : i < 3) : updC c T i = c i :=
  updC_not _ _ _ fun x hx e => by
    obtain ⟨y, hy, e'⟩ := h.sub x hx
    unfold partL at hy
    obtain ⟨j, -, rfl⟩ := List.mem_map.1 hy
    rw [e'] at e
    simp only at e
    omega
theorem mkL_is (x : ShotM) : mkL x 0 = [(0, markS 0 x), (1, markS 1 x), (2, markS 2 x)] := by simp [mkL, List.range_succ]
/-- Behind the whole row: marked and whole. -/
theorem save_done {C : Nat → Sec} (hl : ∀ i, (C i).length = 128) (x : ShotM) : Marked (updC C (saveL x (marks3 C))) x ∧ Whole (updC C (saveL x (marks3 C))) x.data := by
  unfold saveL
  rw [updC_app, mkL_is]
  constructor
  · intro i hi
    match i, hi with
    | 0, _ => simp [updC]
    | 1, _ => simp [updC]
    | 2, _ => simp [updC]
  · intro i hi
    have e : ∀ c : Nat → Sec, updC c [(0, markS 0 x), (1, markS 1 x), (2, markS 2 x)] (3 + i) = c (3 + i) := fun c => updC_not _ _ _ fun y hy hh => by
      simp only [List.mem_cons, List.not_mem_nil, or_false] at hy
      rcases hy with rfl | rfl | rfl <;> simp only at hh <;> omega
    rw [e, updC_app, partL_in, if_pos (by omega)]
    congr 1
    omega
theorem soth_save {C : Nat → Sec} {n : Nat} {x : ShotM} (hl : ∀ i, (C i).length = 128) (h : SOth C n (some x)) {T : List (Int × Sec)} (hT : Crashed (saveL x (marks3 C)) T) : SOth (updC C T) n (some x) := by
  obtain ⟨z1, z2⟩ := clean_done hl
  rcases crashed_app hT with hA | ⟨T1, hM, rfl⟩
  · rcases crashed_app hA with hB | ⟨T2, hP, rfl⟩
    · exact soth_clean hl h hB
    · refine .inl ?_
      rw [updC_app, partL_cut hP (by omega)]
      exact z1 0 (by omega)
  · rw [updC_app]
    have m0 : ∀ i, i < 3 → updC C (cleanS (marks3 C) 0 ++ partL x.data) i = zsec := fun i hi => by
      rw [updC_app, partL_in, if_neg (by omega)]
      exact z1 i hi
    have w0 : Whole (updC C (cleanS (marks3 C) 0 ++ partL x.data)) x.data := fun i hi => by
      rw [updC_app, partL_in, if_pos (by omega)]
      congr 1
      omega
    generalize updC C (cleanS (marks3 C) 0 ++ partL x.data) = c at m0 w0
    rw [mkL_is] at hM
    have whole : ∀ T : List (Int × Sec), (∀ y ∈ T, y.1 = 0 ∨ y.1 = 1 ∨ y.1 = 2) → Whole (updC c T) x.data := fun T hy i hi => by
      rw [updC_not _ _ _ fun y hh e => by rcases hy y hh with e' | e' | e' <;> rw [e'] at e <;> omega]
      exact w0 i hi
    rcases hM with ⟨k, rfl⟩ | ⟨k, y, t, hy, rfl⟩
    · match k with
      | 0 => exact .inl (m0 0 (by omega))
      | 1 => exact .inr (.inl (.inl (by simpa [updC] using m0 2 (by omega))))
      | 2 => exact .inr (.inr ⟨x, rfl, by simp [updC], whole _ (by simp)⟩)
      | k + 3 => exact .inr (.inr ⟨x, rfl, by simp [updC], whole _ (by simp)⟩)
    · match k with
      | 0 =>
        have : y = (0, markS 0 x) := by simpa using hy.symm
        subst this
        exact .inr (.inl (.inl (by simpa [updC] using m0 2 (by omega))))
      | 1 =>
        have : y = (1, markS 1 x) := by simpa using hy.symm
        subst this
        exact .inr (.inl (.inl (by simpa [updC] using m0 2 (by omega))))
      | 2 =>
        have : y = (2, markS 2 x) := by simpa using hy.symm
        subst this
        exact .inr (.inr ⟨x, rfl, by simp [updC], whole _ (by simp)⟩)
      | k + 3 => simp at hy

theorem save_law {D : DM} {fs : Nat → Int} {k : Nat} {x x' : ShotM} {ms : Nat → List UInt8} (hl : LenOk D) (hl' : LenOk (D.ssave (fs (1 - k)) x' (ms (1 - k))).2) (hfs : fs 0 ≠ fs 1) (hf : ∀ j, 0 ≤ fs j ∧ fs j < 5) (h : SIdle D fs k x ms) (hok : x'.ok) (hmay : x'.may = true) (hlt : x.idx < x'.idx) :
    (((D.ssave (fs (1 - k)) x' (ms (1 - k))).1 = 0 ∧ ∀ ms', (∀ j, j < 2 → ms' j = if j = 1 - k then (marks3 fun i => markS i x') else ms j) → SIdle (D.ssave (fs (1 - k)) x' (ms (1 - k))).2 fs (1 - k) x' ms') ∨
      ((D.ssave (fs (1 - k)) x' (ms (1 - k))).1 = 180 ∧ (D.ssave (fs (1 - k)) x' (ms (1 - k))).2.off = true ∧ ∀ keep torn, SPend ((D.ssave (fs (1 - k)) x' (ms (1 - k))).2.crash keep torn) fs k x (some x'))) ∧
    (D.ssave (fs (1 - k)) x' (ms (1 - k))).2.waits.length ≤ 6 + secN x'.data.length := by
  have hkk := h.k1
  have hlg : ∀ i, (CF D (fs (1 - k)) i).length = 128 := CF_len hl _
  have hne : fs k ≠ fs (1 - k) := by
    rcases two (show k < 2 by omega) with rfl | rfl
    · exact hfs
    · exact fun e => hfs e.symm
  have hmg : ms (1 - k) = marks3 (CF D (fs (1 - k))) := h.ms _ (by omega)
  have hlen : x'.data.length ≤ 524288 := by simp [ShotM.may] at hmay; exact hmay.2
  have hsl : (saveL x' (ms (1 - k))).length ≤ 6 + secN x'.data.length := by
    unfold saveL
    rw [List.length_append, List.length_append, mkL_is]
    have : (cleanS (ms (1 - k)) 0).length ≤ 3 := by
      unfold cleanS
      refine Nat.le_trans (List.length_filterMap_le ..) ?_
      simp
    simp [partL]
    omega
  have hs := ssave_spec (hf (1 - k)) hlen (b := ms (1 - k)) h.off
  generalize D.ssave (fs (1 - k)) x' (ms (1 - k)) = r at hs hl'
  rcases hs with ⟨g1, g2, g3, g4⟩ | ⟨g1, g2, g3, j, g4⟩
  · refine ⟨.inl ⟨g1, fun ms' hms => ?_⟩, by rw [g3]; simp⟩
    have hcn : cnt r.2 = upd (cnt D) ((saveL x' (ms (1 - k))).map (tagF (fs (1 - k)))) := by
      unfold cnt
      rw [g2, h.waits, List.nil_append]
      exact cnt_putL _ _
    rw [hmg] at hcn
    obtain ⟨c1, c2⟩ := CF_upd hcn
    obtain ⟨s1, s2⟩ := save_done hlg x'
    rw [← c1] at s1 s2
    have hcf : countF (CF r.2 (fs (1 - k))) = x' := countF_of (CF_len hl' _) hok hmay s1 s2
    have e11 : 1 - (1 - k) = k := by omega
    refine ⟨g4, g3, by omega, .inl ⟨by omega, hcf⟩, ?_, fun j hj => ?_⟩
    · rw [e11, c2 _ hne]
      rcases h.holds with ⟨h1, h2⟩ | ⟨-, -, h3⟩
      · exact .inr ⟨by rw [h2]; exact h1, by rw [h2]; exact hlt⟩
      · exact .inl h3
    · rw [hms j hj]
      by_cases hjk : j = 1 - k
      · rw [if_pos hjk, hjk]
        unfold marks3
        rw [s1 0 (by omega), s1 1 (by omega), s1 2 (by omega)]
      · rw [if_neg hjk, h.ms j hj]
        have : fs j ≠ fs (1 - k) := by
          have : j = k := by omega
          rw [this]; exact hne
        rw [c2 _ this]
  · refine ⟨.inr ⟨g1, g2, fun keep torn => ?_⟩, ?_⟩
    · rw [h.waits, List.nil_append, ← List.map_take, hmg] at g4
      obtain ⟨T, hT, hc⟩ := crash_tag (keep := keep) (torn := torn) g4
      have hcn : cnt r.2 = cnt D := by unfold cnt; rw [g3]
      rw [hcn] at hc
      obtain ⟨e1, e2⟩ := CF_upd hc
      obtain ⟨c1, c2, c3⟩ := crash_off r.2 keep torn
      have ho : SOth (CF D (fs (1 - k))) x.idx (some x') := soth_of hlg h.other
      exact ⟨c1, c3, h.k1, by rw [e2 _ hne]; exact h.holds, by rw [e1]; exact soth_save hlg ho hT, fun y hy => by injection hy with hy; subst hy; exact ⟨hok, hmay, hlt⟩⟩
    · rw [g4, h.waits, List.nil_append, List.length_take, List.length_map]
      omega
theorem SIdle.arm {D : DM} {fs : Nat → Int} {k : Nat} {x : ShotM} {ms : Nat → List UInt8} (h : SIdle D fs k x ms) {a : Int} (ha : 0 ≤ a) : (D.arm a).1 = 0 ∧ SIdle (D.arm a).2 fs k x ms := by
  obtain ⟨h1, h2, h3, h4⟩ := arm_is (D := D) h.off ha
  have e : ∀ f, CF (D.arm a).2 f = CF D f := fun f => by unfold CF cnt; rw [h2]
  exact ⟨h1, h4, h3.trans h.waits, h.k1, by rw [e]; exact h.holds, by rw [e]; exact h.other, fun j hj => by rw [e]; exact h.ms j hj⟩
theorem SPend.arm {D : DM} {fs : Nat → Int} {k : Nat} {x : ShotM} {o : Option ShotM} (h : SPend D fs k x o) {a : Int} (ha : 0 ≤ a) : (D.arm a).1 = 0 ∧ SPend (D.arm a).2 fs k x o := by
  obtain ⟨h1, h2, h3, h4⟩ := arm_is (D := D) h.off ha
  have e : ∀ f, CF (D.arm a).2 f = CF D f := fun f => by unfold CF cnt; rw [h2]
  exact ⟨h1, h4, h3.trans h.waits, h.k1, by rw [e]; exact h.holds, by rw [e]; exact h.oth, h.next⟩
theorem spend_new (fs : Nat → Int) : SPend DM.new fs 1 shot0 none := ⟨rfl, rfl, by omega, .inr ⟨rfl, rfl, fun _ _ => rfl⟩, .inl rfl, fun _ h => by cases h⟩
theorem SIdle.crash {D : DM} {fs : Nat → Int} {k : Nat} {x : ShotM} {ms : Nat → List UInt8} (h : SIdle D fs k x ms) (hl : LenOk D) (keep : Nat) (torn : List UInt8) : SPend (D.crash keep torn) fs k x none := (h.pend (o := none) hl fun _ h => by cases h).crash keep torn
end Go.Proofs
