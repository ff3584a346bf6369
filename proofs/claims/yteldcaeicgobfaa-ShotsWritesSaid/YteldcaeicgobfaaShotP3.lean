/-
  The plain laws of the snapshots: what an opening makes, and a save.
  Conditions: none; no program in sight.
-/
import Derived.Test.YteldcaeicgobfaaShotP2
set_option linter.unusedVariables false
set_option linter.unusedSimpArgs false
namespace Go.Proofs
open Go Go.Vc

theorem secAt_now {D : DM} (hw : D.waits = []) (f : Int) : (fun i : Nat => D.secAt f (i : Int)) = CF D f := by
  funext i
  rw [secAt_is, hw]
  rfl
theorem fileS_now {D : DM} (hw : D.waits = []) (f : Int) : fileS D f = countF (CF D f) := by
  unfold fileS countF
  rw [secAt_now hw]
theorem marksF_now {D : DM} (hw : D.waits = []) (f : Int) : marksF D f = marks3 (CF D f) := by
  unfold marksF
  rw [secAt_now hw]
theorem smay_ok {D : DM} {f : Int} (ho : D.off = false) (hf : 0 ≤ f ∧ f < 5) : D.smay f = 0 := by
  unfold DM.smay
  rw [if_neg (by simp [ho]), if_pos (by simp [mayB]; omega)]
section
variable {f : Nat → Int} {X : Nat → ShotM} {B : Nat → List UInt8} {i : Nat} {s : SOpen}
theorem sround_take (h : s.x.idx < (X i).idx) : sround f X B i s = (0, { s with x := X i, at_ := i }) := by unfold sround; rw [if_pos h]
theorem sround_skip (h : ¬ s.x.idx < (X i).idx) (h2 : (X i).idx ≠ 0 ∨ B i = z384) : sround f X B i s = (0, s) := by
  unfold sround
  rw [if_neg h, if_neg (fun hh => h2.elim (fun h3 => h3 hh.1) fun h3 => hh.2 h3)]
theorem sround_clean (h : ¬ s.x.idx < (X i).idx) (h0 : (X i).idx = 0) (h2 : B i ≠ z384) : sround f X B i s = ((s.D.writes (f i) (cleanS (B i) 0)).1, { s with D := (s.D.writes (f i) (cleanS (B i) 0)).2, cl := true, ms := fun j => if j = i then z384 else s.ms j }) := by
  unfold sround
  rw [if_neg h, if_pos ⟨h0, h2⟩]
theorem sgo_two : sgo f X B [0, 1] s = if (sround f X B 0 s).1 = 0 then (if (sround f X B 1 (sround f X B 0 s).2).1 = 0 then (0, (sround f X B 1 (sround f X B 0 s).2).2) else sround f X B 1 (sround f X B 0 s).2) else sround f X B 0 s := rfl
end

theorem sopen_is {D : DM} {fs : Nat → Int} (ho : D.off = false) (hfs : fs 0 ≠ fs 1) (hf : ∀ j, 0 ≤ fs j ∧ fs j < 5) : D.sopen fs = slast (sgo fs (fun k => fileS D (fs k)) (fun k => marksF D (fs k)) [0, 1] (sopen0 D fs)) := by
  unfold DM.sopen
  rw [if_neg (by rw [smay_ok ho (hf 0)]; simp), if_neg (by rw [smay_ok ho (hf 1)]; simp), if_neg hfs]

theorem marks3_z : (marks3 fun _ => zsec) = z384 := marks_zero
theorem marks3_zero {C : Nat → Sec} (h : ∀ i, i < 3 → C i = zsec) : marks3 C = z384 := by
  rw [← marks3_z]
  unfold marks3
  rw [h 0 (by omega), h 1 (by omega), h 2 (by omega)]
theorem zero_marks3 {C : Nat → Sec} (hl : ∀ i, (C i).length = 128) (h : marks3 C = z384) : ∀ i, i < 3 → C i = zsec := fun i hi => by
  rw [← marks3_sec hl hi, h, ← marks3_z]
  exact marks3_sec (C := fun _ => zsec) (fun _ => zsec_length) hi
theorem countF_zero {C : Nat → Sec} (hl : ∀ i, (C i).length = 128) (h : C 0 = zsec) : countF C = shot0 := by
  rcases countF_cases hl with hc | ⟨-, -, hm, -⟩
  · exact hc
  · rw [hm 0 (by omega)] at h
    exact absurd h (markS_ne 0 _ (by omega))

/-- The form of an opening's outcome. -/
theorem sopen_form {D : DM} {fs : Nat → Int} {k : Nat} {x : ShotM} {o : Option ShotM} (hl : LenOk D) (hfs : fs 0 ≠ fs 1) (hf : ∀ j, 0 ≤ fs j ∧ fs j < 5) (h : SPend D fs k x o) :
    ((countF (CF D (fs (1 - k)))).idx = 0 ∧ marks3 (CF D (fs (1 - k))) ≠ z384 ∧ ∃ s : SOpen, D.sopen fs = slast ((D.writes (fs (1 - k)) (cleanS (marks3 (CF D (fs (1 - k)))) 0)).1, s) ∧ s.D = (D.writes (fs (1 - k)) (cleanS (marks3 (CF D (fs (1 - k)))) 0)).2 ∧
      ((D.writes (fs (1 - k)) (cleanS (marks3 (CF D (fs (1 - k)))) 0)).1 = 0 → s.x = x ∧ s.at_ = k ∧ s.cl = true ∧ ∀ j, j < 2 → s.ms j = if j = 1 - k then z384 else marks3 (CF D (fs j)))) ∨
    (∃ s : SOpen, D.sopen fs = (0, s) ∧ s.D = D ∧ (∀ j, j < 2 → s.ms j = marks3 (CF D (fs j))) ∧
      ((s.x = x ∧ s.at_ = k ∧ ((∀ i, i < 3 → CF D (fs (1 - k)) i = zsec) ∨ ((countF (CF D (fs (1 - k)))).idx ≠ 0 ∧ (countF (CF D (fs (1 - k)))).idx < x.idx))) ∨
       (s.x = countF (CF D (fs (1 - k))) ∧ s.at_ = 1 - k ∧ o = some (countF (CF D (fs (1 - k))))))) := by
  rw [sopen_is h.off hfs hf]
  have hX : ∀ j, (fun k => fileS D (fs k)) j = countF (CF D (fs j)) := fun j => fileS_now h.waits _
  have hB : ∀ j, (fun k => marksF D (fs k)) j = marks3 (CF D (fs j)) := fun j => marksF_now h.waits _
  generalize (fun k => fileS D (fs k)) = X at hX
  generalize hBg : (fun k => marksF D (fs k)) = B at hB
  have hs0 : sopen0 D fs = ⟨D, shot0, 1, false, B⟩ := by unfold sopen0; rw [hBg]
  rw [hs0]
  have hlg : ∀ i, (CF D (fs (1 - k)) i).length = 128 := CF_len hl _
  obtain ⟨z, hz⟩ : ∃ z, countF (CF D (fs (1 - k))) = z := ⟨_, rfl⟩
  have hzc : z = shot0 ∨ z.idx < x.idx ∨ o = some z := by
    rw [← hz]
    exact soth_read hlg h.oth fun x' hx' => (h.next x' hx').1
  have hz0 : z.idx = 0 → z = shot0 := fun h0 => by
    rw [← hz] at h0 ⊢
    exact (counted_ok _ hlg _).2.1 h0
  have hBg : B (1 - k) = marks3 (CF D (fs (1 - k))) := hB _
  have hXg : X (1 - k) = z := by rw [hX, hz]
  -- the file that holds: taken, or skipped where it has none
  have hXk : (x.idx ≠ 0 ∧ X k = x) ∨ (x = shot0 ∧ k = 1 ∧ X k = shot0 ∧ B k = z384) := by
    rcases h.holds with ⟨h1, h2⟩ | ⟨h1, h2, h3⟩
    · exact .inl ⟨h1, by rw [hX, h2]⟩
    · exact .inr ⟨h1, h2, by rw [hX, countF_zero (CF_len hl _) (h3 0 (by omega))], by rw [hB, marks3_zero h3]⟩
  rw [hz]
  have h1k : 1 - k = 0 ∧ k = 1 ∨ 1 - k = 1 ∧ k = 0 := by have := h.k1; omega
  by_cases hzi : z.idx = 0
  · by_cases hm : marks3 (CF D (fs (1 - k))) = z384
    · -- nothing to be done
      right
      have hmg : B (1 - k) = z384 := by rw [hBg, hm]
      refine ⟨⟨D, x, k, false, B⟩, ?_, rfl, fun j _ => hB j, .inl ⟨rfl, rfl, .inl (zero_marks3 hlg hm)⟩⟩
      rcases h1k with ⟨e1, rfl⟩ | ⟨e1, rfl⟩
      · rw [e1] at hXg hmg
        have r0 : sround fs X B 0 ⟨D, shot0, 1, false, B⟩ = (0, ⟨D, shot0, 1, false, B⟩) := sround_skip (by rw [hXg]; simp [hzi]) (.inr hmg)
        rw [sgo_two, r0]
        rcases hXk with ⟨hx0, hx1⟩ | ⟨hx0, -, hx1, hx2⟩
        · have r1 : sround fs X B 1 ⟨D, shot0, 1, false, B⟩ = (0, ⟨D, x, 1, false, B⟩) := by
            rw [sround_take (by rw [hx1]; show 0 < x.idx; omega), hx1]
          simp only [r1, if_true]
          rfl
        · have r1 : sround fs X B 1 ⟨D, shot0, 1, false, B⟩ = (0, ⟨D, shot0, 1, false, B⟩) := sround_skip (by rw [hx1]; simp) (.inr hx2)
          simp only [r1, if_true]
          rw [hx0]
          rfl
      · rw [e1] at hXg hmg
        rcases hXk with ⟨hx0, hx1⟩ | ⟨-, hk, -⟩
        · have r0 : sround fs X B 0 ⟨D, shot0, 1, false, B⟩ = (0, ⟨D, x, 0, false, B⟩) := by
            rw [sround_take (by rw [hx1]; show 0 < x.idx; omega), hx1]
          have r1 : sround fs X B 1 ⟨D, x, 0, false, B⟩ = (0, ⟨D, x, 0, false, B⟩) := sround_skip (by rw [hXg, hzi]; simp) (.inr hmg)
          rw [sgo_two, r0]
          simp only [r1, if_true]
          rfl
        · cases hk
    · left
      refine ⟨hzi, hm, ?_⟩
      obtain ⟨w, hw⟩ : ∃ w, D.writes (fs (1 - k)) (cleanS (marks3 (CF D (fs (1 - k)))) 0) = w := ⟨_, rfl⟩
      rw [hw]
      have hmg : B (1 - k) ≠ z384 := by rw [hBg]; exact hm
      rcases h1k with ⟨e1, rfl⟩ | ⟨e1, rfl⟩
      · have hw0 : D.writes (fs 0) (cleanS (B 0) 0) = w := by rw [hB]; rw [e1] at hw; exact hw
        rw [e1] at hXg hmg
        have r0 : sround fs X B 0 ⟨D, shot0, 1, false, B⟩ = (w.1, ⟨w.2, shot0, 1, true, fun j => if j = 0 then z384 else B j⟩) := by
          rw [sround_clean (by rw [hXg]; simp [hzi]) (by rw [hXg]; exact hzi) hmg]
          simp only [hw0]
        rw [sgo_two, r0]
        have hms : ∀ j, j < 2 → (if j = 0 then z384 else B j) = if j = 1 - 1 then z384 else marks3 (CF D (fs j)) := fun j _ => by rw [hB]
        by_cases he : w.1 = 0
        · rcases hXk with ⟨hx0, hx1⟩ | ⟨hx0, -, hx1, hx2⟩
          · have r1 : sround fs X B 1 ⟨w.2, shot0, 1, true, fun j => if j = 0 then z384 else B j⟩ = (0, ⟨w.2, x, 1, true, fun j => if j = 0 then z384 else B j⟩) := by
              rw [sround_take (by rw [hx1]; show 0 < x.idx; omega), hx1]
            refine ⟨⟨w.2, x, 1, true, fun j => if j = 0 then z384 else B j⟩, ?_, rfl, fun _ => ⟨rfl, rfl, rfl, hms⟩⟩
            simp only [he, r1, if_true]
          · have r1 : sround fs X B 1 ⟨w.2, shot0, 1, true, fun j => if j = 0 then z384 else B j⟩ = (0, ⟨w.2, shot0, 1, true, fun j => if j = 0 then z384 else B j⟩) := sround_skip (by rw [hx1]; simp) (.inr hx2)
            refine ⟨⟨w.2, x, 1, true, fun j => if j = 0 then z384 else B j⟩, ?_, rfl, fun _ => ⟨rfl, rfl, rfl, hms⟩⟩
            simp only [he, r1, if_true]
            rw [hx0]
        · refine ⟨⟨w.2, shot0, 1, true, fun j => if j = 0 then z384 else B j⟩, ?_, rfl, fun h => absurd h he⟩
          simp only [he, if_false]
      · have hw0 : D.writes (fs 1) (cleanS (B 1) 0) = w := by rw [hB]; rw [e1] at hw; exact hw
        rw [e1] at hXg hmg
        rcases hXk with ⟨hx0, hx1⟩ | ⟨-, hk, -⟩
        · have r0 : sround fs X B 0 ⟨D, shot0, 1, false, B⟩ = (0, ⟨D, x, 0, false, B⟩) := by
            rw [sround_take (by rw [hx1]; show 0 < x.idx; omega), hx1]
          have r1 : sround fs X B 1 ⟨D, x, 0, false, B⟩ = (w.1, ⟨w.2, x, 0, true, fun j => if j = 1 then z384 else B j⟩) := by
            rw [sround_clean (by rw [hXg, hzi]; simp) (by rw [hXg]; exact hzi) hmg]
            simp only [hw0]
          have hms : ∀ j, j < 2 → (if j = 1 then z384 else B j) = if j = 1 - 0 then z384 else marks3 (CF D (fs j)) := fun j _ => by rw [hB]
          rw [sgo_two, r0]
          refine ⟨⟨w.2, x, 0, true, fun j => if j = 1 then z384 else B j⟩, ?_, rfl, fun _ => ⟨rfl, rfl, rfl, hms⟩⟩
          simp only [r1, if_true]
          by_cases he : w.1 = 0
          · simp only [he, if_true]
          · simp only [he, if_false]
        · cases hk
  · right
    have hne : z ≠ shot0 := fun e => hzi (by rw [e]; rfl)
    by_cases hlt : z.idx < x.idx
    · -- the elder one is passed by
      refine ⟨⟨D, x, k, false, B⟩, ?_, rfl, fun j _ => hB j, .inl ⟨rfl, rfl, .inr ⟨hzi, hlt⟩⟩⟩
      have hx1 : X k = x := by
        rcases hXk with ⟨-, hx1⟩ | ⟨hx0, -⟩
        · exact hx1
        · rw [hx0] at hlt; exact absurd hlt (by simp [shot0])
      rcases h1k with ⟨e1, rfl⟩ | ⟨e1, rfl⟩
      · rw [e1] at hXg
        have r0 : sround fs X B 0 ⟨D, shot0, 1, false, B⟩ = (0, ⟨D, z, 0, false, B⟩) := by
          rw [sround_take (by rw [hXg]; show 0 < z.idx; omega), hXg]
        have r1 : sround fs X B 1 ⟨D, z, 0, false, B⟩ = (0, ⟨D, x, 1, false, B⟩) := by
          rw [sround_take (by rw [hx1]; exact hlt), hx1]
        rw [sgo_two, r0]
        simp only [r1, if_true]
        rfl
      · rw [e1] at hXg
        have r0 : sround fs X B 0 ⟨D, shot0, 1, false, B⟩ = (0, ⟨D, x, 0, false, B⟩) := by
          rw [sround_take (by rw [hx1]; show 0 < x.idx; omega), hx1]
        have r1 : sround fs X B 1 ⟨D, x, 0, false, B⟩ = (0, ⟨D, x, 0, false, B⟩) := sround_skip (by rw [hXg]; show ¬ x.idx < z.idx; omega) (.inl (by rw [hXg]; exact hzi))
        rw [sgo_two, r0]
        simp only [r1, if_true]
        rfl
    · have ho : o = some z := by
        rcases hzc with hc | hc | hc
        · exact absurd hc hne
        · exact absurd hc hlt
        · exact hc
      have hgt := (h.next z ho).2.2
      refine ⟨⟨D, z, 1 - k, false, B⟩, ?_, rfl, fun j _ => hB j, .inr ⟨rfl, rfl, ho⟩⟩
      rcases h1k with ⟨e1, rfl⟩ | ⟨e1, rfl⟩
      · rw [e1] at hXg
        have r0 : sround fs X B 0 ⟨D, shot0, 1, false, B⟩ = (0, ⟨D, z, 0, false, B⟩) := by
          rw [sround_take (by rw [hXg]; show 0 < z.idx; omega), hXg]
        have r1 : sround fs X B 1 ⟨D, z, 0, false, B⟩ = (0, ⟨D, z, 0, false, B⟩) := by
          rcases hXk with ⟨hx0, hx1⟩ | ⟨hx0, -, hx1, hx2⟩
          · exact sround_skip (by rw [hx1]; show ¬ z.idx < x.idx; omega) (.inl (by rw [hx1]; exact hx0))
          · exact sround_skip (by rw [hx1]; show ¬ z.idx < 0; omega) (.inr hx2)
        rw [sgo_two, r0]
        simp only [r1, if_true]
        rfl
      · rw [e1] at hXg
        rcases hXk with ⟨hx0, hx1⟩ | ⟨-, hk, -⟩
        · have r0 : sround fs X B 0 ⟨D, shot0, 1, false, B⟩ = (0, ⟨D, x, 0, false, B⟩) := by
            rw [sround_take (by rw [hx1]; show 0 < x.idx; omega), hx1]
          have r1 : sround fs X B 1 ⟨D, x, 0, false, B⟩ = (0, ⟨D, z, 1, false, B⟩) := by
            rw [sround_take (by rw [hXg]; exact hgt), hXg]
          rw [sgo_two, r0]
          simp only [r1, if_true]
          rfl
        · cases hk

theorem open_law {D : DM} {fs : Nat → Int} {k : Nat} {x : ShotM} {o : Option ShotM} (hl : LenOk D) (hfs : fs 0 ≠ fs 1) (hf : ∀ j, 0 ≤ fs j ∧ fs j < 5) (h : SPend D fs k x o) :
    (((D.sopen fs).1 = 0 ∧ SIdle (D.sopen fs).2.D fs (D.sopen fs).2.at_ (D.sopen fs).2.x (D.sopen fs).2.ms ∧ ((D.sopen fs).2.x = x ∨ o = some (D.sopen fs).2.x)) ∨ ((D.sopen fs).1 = 180 ∧ (D.sopen fs).2.D.off = true)) ∧
    (∀ keep torn, SPend ((D.sopen fs).2.D.crash keep torn) fs k x o) ∧ (D.armed = false → (D.sopen fs).1 = 0) ∧ (D.sopen fs).2.D.waits.length ≤ 3 := by
  have hkk := h.k1
  have hlg : ∀ i, (CF D (fs (1 - k)) i).length = 128 := CF_len hl _
  have hne : fs k ≠ fs (1 - k) := by
    rcases two (show k < 2 by omega) with rfl | rfl
    · exact hfs
    · exact fun e => hfs e.symm
  rcases sopen_form hl hfs hf h with ⟨hz, hm, s, he, hD, hs⟩ | ⟨s, he, hD, hms, hs⟩
  · have hd := did_writes (hf (1 - k)) (cleanS (marks3 (CF D (fs (1 - k)))) 0) D h.off (cleanS_ok _)
    obtain ⟨w, hw⟩ : ∃ w, D.writes (fs (1 - k)) (cleanS (marks3 (CF D (fs (1 - k)))) 0) = w := ⟨_, rfl⟩
    rw [hw] at he hD hs hd
    obtain ⟨d1, ⟨j, d2, d3⟩, d4⟩ := hd
    rw [h.waits, List.nil_append, ← List.map_take] at d2
    have hlen : ((cleanS (marks3 (CF D (fs (1 - k)))) 0)).length ≤ 3 := by
      unfold cleanS
      refine Nat.le_trans (List.length_filterMap_le ..) ?_
      simp
    have hwl : w.2.waits.length ≤ 3 := by rw [d2, List.length_map, List.length_take]; omega
    have cut : ∀ D' : DM, D'.lasts = D.lasts → D'.waits = w.2.waits → ∀ keep torn, SPend (D'.crash keep torn) fs k x o := fun D' hla hwa keep torn => h.cut hl hfs hla (hwa.trans d2) keep torn
    by_cases h0 : w.1 = 0
    · obtain ⟨s1, s2, s3, s4⟩ := hs h0
      have hoff : w.2.off = false := by
        rcases d3 with ⟨-, -, d3⟩ | ⟨d3, -⟩
        · exact d3
        · rw [h0] at d3; cases d3
      have hall : w.2.waits = (cleanS (marks3 (CF D (fs (1 - k)))) 0).map (tagF (fs (1 - k))) := by
        rcases d3 with ⟨-, d3, -⟩ | ⟨d3, -⟩
        · rw [d2, List.map_take, d3]
        · rw [h0] at d3; cases d3
      have e1 : D.sopen fs = (w.2.sync.1, { s with D := w.2.sync.2 }) := by
        rw [he, h0]
        unfold slast
        simp only [ne_eq, not_true_eq_false, if_false, s3, if_true, hD]
      rw [e1]
      obtain ⟨hsy, harm⟩ := sync_is (D := w.2) hoff
      rcases hsy with ⟨g1, g2, g3, g4⟩ | ⟨g1, g2, g3, g4⟩
      · have hcn : cnt w.2.sync.2 = upd (cnt D) ((cleanS (marks3 (CF D (fs (1 - k)))) 0).map (tagF (fs (1 - k)))) := by
          unfold cnt
          rw [g2, d1, hall]
          exact cnt_putL _ _
        obtain ⟨c1, c2⟩ := CF_upd hcn
        obtain ⟨z1, z2⟩ := clean_done hlg
        have hidle : SIdle w.2.sync.2 fs s.at_ s.x s.ms := by
          rw [s1, s2]
          refine ⟨g4, g3, h.k1, by rw [c2 _ hne]; exact h.holds, .inl fun i hi => by rw [c1]; exact z1 i hi, fun j hj => ?_⟩
          rw [s4 j hj]
          by_cases hjk : j = 1 - k
          · rw [if_pos hjk, hjk, c1]
            exact (marks3_zero z1).symm
          · rw [if_neg hjk]
            have : fs j ≠ fs (1 - k) := by
              have : j = k := by omega
              rw [this]; exact hne
            rw [c2 _ this]
        refine ⟨.inl ⟨g1, hidle, .inl s1⟩, fun keep torn => ?_, fun _ => g1, ?_⟩
        · show SPend (w.2.sync.2.crash keep torn) fs k x o
          have hP : SPend w.2.sync.2 fs k x o := ⟨g4, g3, h.k1, by rw [c2 _ hne]; exact h.holds, .inl (by rw [c1]; exact z1 0 (by omega)), h.next⟩
          exact hP.crash keep torn
        · show w.2.sync.2.waits.length ≤ 3
          rw [g3]; simp
      · refine ⟨.inr ⟨g1, g4⟩, fun keep torn => cut _ (g2.trans d1) g3 keep torn, fun ha => ?_, ?_⟩
        · have := (harm (d4 ha).2).1
          rw [g1] at this
          cases this
        · show w.2.sync.2.waits.length ≤ 3
          rw [g3]; exact hwl
    · have e1 : D.sopen fs = (w.1, s) := by
        rw [he]
        unfold slast
        rw [if_pos h0]
      rw [e1]
      rcases d3 with ⟨d3, -⟩ | ⟨d3, d5⟩
      · exact absurd d3 h0
      · refine ⟨.inr ⟨d3, by show s.D.off = true; rw [hD]; exact d5⟩, fun keep torn => cut _ (by show s.D.lasts = _; rw [hD]; exact d1) (by show s.D.waits = _; rw [hD]) keep torn, fun ha => absurd (d4 ha).1 h0, by show s.D.waits.length ≤ 3; rw [hD]; exact hwl⟩
  · rw [he]
    refine ⟨.inl ⟨rfl, ?_, ?_⟩, fun keep torn => by show SPend (s.D.crash keep torn) fs k x o; rw [hD]; exact h.crash keep torn, fun _ => rfl, by show s.D.waits.length ≤ 3; rw [hD, h.waits]; simp⟩
    · show SIdle s.D fs s.at_ s.x s.ms
      rw [hD]
      rcases hs with ⟨s1, s2, s3⟩ | ⟨s1, s2, s3⟩
      · rw [s1, s2]
        exact ⟨h.off, h.waits, h.k1, h.holds, s3, hms⟩
      · obtain ⟨n1, n2, n3⟩ := h.next _ s3
        have e11 : 1 - (1 - k) = k := by omega
        rw [s1, s2]
        refine ⟨h.off, h.waits, by omega, .inl ⟨by omega, rfl⟩, ?_, hms⟩
        rw [e11]
        rcases h.holds with ⟨h1, h2⟩ | ⟨-, -, h3⟩
        · exact .inr ⟨by rw [h2]; exact h1, by rw [h2]; exact n3⟩
        · exact .inl h3
    · show s.x = x ∨ o = some s.x
      rcases hs with ⟨s1, -⟩ | ⟨s1, -, s3⟩
      · exact .inl s1
      · exact .inr (by rw [s1]; exact s3)
end Go.Proofs
