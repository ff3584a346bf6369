/-
  The plain laws of the snapshots: an opening over any sectors.
  Conditions: none; no program in sight.
-/
import Derived.Test.YteldcaeicgobfaaShotP4
set_option linter.unusedVariables false
set_option linter.unusedSimpArgs false
namespace Go.Proofs
open Go Go.Vc

/-- What an opening leaves of a file. -/
def clC (C : Nat → Sec) : Nat → Sec := fun j => if (countF C).idx = 0 ∧ j < 3 then zsec else C j
def wlC (C : Nat → Sec) : List (Int × Sec) := if (countF C).idx = 0 then cleanS (marks3 C) 0 else []
theorem wlC_is {C : Nat → Sec} (h : ∀ i, (C i).length = 128) : updC C (wlC C) = clC C := by
  funext j
  unfold wlC clC
  by_cases h0 : (countF C).idx = 0
  · rw [if_pos h0]
    obtain ⟨z1, z2⟩ := clean_done h
    by_cases hj : j < 3
    · rw [if_pos ⟨h0, hj⟩, z1 j hj]
    · rw [if_neg fun hh => hj hh.2, z2 j (by omega)]
  · rw [if_neg h0, if_neg fun hh => h0 hh.1]
    rfl
theorem clC_len {C : Nat → Sec} (h : ∀ i, (C i).length = 128) (i : Nat) : (clC C i).length = 128 := by
  unfold clC
  split
  · exact zsec_length
  · exact h i
structure Rd21 (D : DM) (ws : List (Pl × Sec)) (s : SOpen) : Prop where
  off : s.D.off = false
  arm : s.D.armed = false
  lasts : s.D.lasts = D.lasts
  waits : s.D.waits = ws
  cl : s.cl = false → ws = []
theorem sround_any {D : DM} {fs : Nat → Int} {X : Nat → ShotM} {B : Nat → List UInt8} {C : Nat → Sec} {ws : List (Pl × Sec)} {s : SOpen} {i : Nat} (hf : 0 ≤ fs i ∧ fs i < 5) (hl : ∀ i, (C i).length = 128) (hX : X i = countF C) (hB : B i = marks3 C) (hs : s.ms i = marks3 C) (h : Rd21 D ws s) :
    (sround fs X B i s).1 = 0 ∧ Rd21 D (ws ++ (wlC C).map (tagF (fs i))) (sround fs X B i s).2 ∧ ((sround fs X B i s).2.x, (sround fs X B i s).2.at_) = (if s.x.idx < (countF C).idx then (countF C, i) else (s.x, s.at_)) ∧
      ∀ j, (sround fs X B i s).2.ms j = if j = i then marks3 (clC C) else s.ms j := by
  have hcc : (countF C).idx ≠ 0 → marks3 (clC C) = marks3 C := fun h0 => by
    have : clC C = C := by funext j; unfold clC; rw [if_neg fun hh => h0 hh.1]
    rw [this]
  have hcz : (countF C).idx = 0 → marks3 (clC C) = z384 := fun h0 => marks3_zero fun i hi => by unfold clC; rw [if_pos ⟨h0, hi⟩]
  by_cases hlt : s.x.idx < (X i).idx
  · rw [sround_take hlt]
    have h0 : (countF C).idx ≠ 0 := by rw [hX] at hlt; omega
    have e : wlC C = [] := by unfold wlC; rw [if_neg h0]
    rw [hX] at hlt ⊢
    refine ⟨rfl, by rw [e, List.map_nil, List.append_nil]; exact ⟨h.off, h.arm, h.lasts, h.waits, h.cl⟩, by rw [if_pos hlt], fun j => ?_⟩
    by_cases hj : j = i
    · rw [if_pos hj, hj, hcc h0]; exact hs
    · rw [if_neg hj]
  · by_cases hc : (X i).idx = 0 ∧ B i ≠ z384
    · rw [sround_clean hlt hc.1 hc.2]
      have h0 : (countF C).idx = 0 := by rw [← hX]; exact hc.1
      have e : wlC C = cleanS (B i) 0 := by unfold wlC; rw [if_pos h0, hB]
      obtain ⟨d1, ⟨j, d2, d3⟩, d4⟩ := did_writes hf (cleanS (B i) 0) s.D h.off (cleanS_ok _)
      obtain ⟨e0, e1⟩ := d4 h.arm
      rcases d3 with ⟨-, d5, d6⟩ | ⟨d5, -⟩
      · rw [hX] at hlt
        refine ⟨e0, ⟨d6, e1, d1.trans h.lasts, by rw [d2, d5, h.waits, e], fun hh => by cases hh⟩, by rw [if_neg hlt], fun j => ?_⟩
        by_cases hj : j = i
        · rw [if_pos hj, hcz h0]; simp [hj]
        · rw [if_neg hj]; simp [hj]
      · rw [e0] at d5; exact absurd d5 (by decide)
    · rw [sround_skip hlt (by
        by_cases h0 : (X i).idx = 0
        · exact .inr (Classical.byContradiction fun hb => hc ⟨h0, hb⟩)
        · exact .inl h0)]
      have e : wlC C = [] := by
        unfold wlC
        by_cases h0 : (countF C).idx = 0
        · rw [if_pos h0]
          have hb : marks3 C = z384 := Classical.byContradiction fun hb => hc ⟨by rw [hX]; exact h0, by rw [hB]; exact hb⟩
          have hz := zero_marks3 hl hb
          rw [cleanS_is, marks3_secI hl (by omega), marks3_secI hl (by omega), marks3_secI hl (by omega), hz 0 (by omega), hz 1 (by omega), hz 2 (by omega)]
          simp
        · rw [if_neg h0]
      rw [hX] at hlt
      refine ⟨rfl, by rw [e, List.map_nil, List.append_nil]; exact h, by rw [if_neg hlt], fun j => ?_⟩
      by_cases hj : j = i
      · rw [if_pos hj, hj, hs]
        by_cases h0 : (countF C).idx = 0
        · rw [hcz h0]
          exact Classical.byContradiction fun hb => hc ⟨by rw [hX]; exact h0, by rw [hB]; exact hb⟩
        · exact (hcc h0).symm
      · rw [if_neg hj]
/-- What two files come to. -/
def bothC (C0 C1 : Nat → Sec) : ShotM × Nat := if (countF C0).idx < (countF C1).idx then (countF C1, 1) else if (countF C0).idx = 0 then (shot0, 1) else (countF C0, 0)
theorem open_any {D : DM} {fs : Nat → Int} (hl : LenOk D) (hfs : fs 0 ≠ fs 1) (hf : ∀ j, 0 ≤ fs j ∧ fs j < 5) (ho : D.off = false) (hw : D.waits = []) (ha : D.armed = false) :
    (D.sopen fs).1 = 0 ∧ (D.sopen fs).2.D.off = false ∧ (D.sopen fs).2.D.armed = false ∧ (D.sopen fs).2.D.waits = [] ∧ ((D.sopen fs).2.x, (D.sopen fs).2.at_) = bothC (CF D (fs 0)) (CF D (fs 1)) ∧
      CF (D.sopen fs).2.D (fs 0) = clC (CF D (fs 0)) ∧ CF (D.sopen fs).2.D (fs 1) = clC (CF D (fs 1)) ∧ ∀ j, j < 2 → (D.sopen fs).2.ms j = marks3 (clC (CF D (fs j))) := by
  rw [sopen_is ho hfs hf]
  have hX : ∀ j, (fun k => fileS D (fs k)) j = countF (CF D (fs j)) := fun j => fileS_now hw _
  have hB : ∀ j, (fun k => marksF D (fs k)) j = marks3 (CF D (fs j)) := fun j => marksF_now hw _
  generalize (fun k => fileS D (fs k)) = X at hX
  generalize hBg : (fun k => marksF D (fs k)) = B at hB
  have hs0 : sopen0 D fs = ⟨D, shot0, 1, false, B⟩ := by unfold sopen0; rw [hBg]
  rw [hs0]
  have hlg : ∀ f i, (CF D f i).length = 128 := fun f => CF_len hl f
  obtain ⟨a1, a2, a3, a4⟩ := sround_any (i := 0) (hf 0) (hlg (fs 0)) (hX 0) (hB 0) (s := ⟨D, shot0, 1, false, B⟩) (hB 0) ⟨ho, ha, rfl, hw, fun _ => rfl⟩
  rw [sgo_two, if_pos a1]
  generalize (sround fs X B 0 ⟨D, shot0, 1, false, B⟩).2 = s1 at a2 a3 a4
  obtain ⟨b1, b2, b3, b4⟩ := sround_any (i := 1) (hf 1) (hlg (fs 1)) (hX 1) (hB 1) (s := s1) (by rw [a4 1, if_neg (by decide)]; exact hB 1) a2
  rw [if_pos b1]
  generalize (sround fs X B 1 s1).2 = s2 at b2 b3 b4
  rw [List.nil_append] at b2
  have hms : ∀ j, j < 2 → s2.ms j = marks3 (clC (CF D (fs j))) := fun j hj => by
    rcases two hj with rfl | rfl
    · rw [b4, if_neg (by decide), a4, if_pos rfl]
    · rw [b4, if_pos rfl]
  have hx : (s2.x, s2.at_) = bothC (CF D (fs 0)) (CF D (fs 1)) := by
    rw [b3]
    unfold bothC
    have hz0 : shot0.idx = 0 := rfl
    by_cases h0 : (countF (CF D (fs 0))).idx = 0
    · rw [if_neg (by show ¬ shot0.idx < _; omega)] at a3
      injection a3 with a5 a6
      rw [a5, a6, if_pos h0, h0]
      rfl
    · rw [if_pos (by show shot0.idx < _; omega)] at a3
      injection a3 with a5 a6
      rw [a5, a6, if_neg h0]
  have hcn : ∀ D' : DM, cnt D' = upd (cnt D) ((wlC (CF D (fs 0))).map (tagF (fs 0)) ++ (wlC (CF D (fs 1))).map (tagF (fs 1))) → CF D' (fs 0) = clC (CF D (fs 0)) ∧ CF D' (fs 1) = clC (CF D (fs 1)) := fun D' h => by
    rw [upd_app] at h
    constructor
    · rw [← wlC_is (hlg (fs 0))]
      refine Eq.trans ?_ (upd_tagF (fs 0) (wlC (CF D (fs 0))) (cnt D))
      funext i
      show cnt D' (fs 0, (i : Int)) = _
      rw [h]
      exact upd_other hfs _ _ _
    · rw [← wlC_is (hlg (fs 1))]
      refine Eq.trans ?_ ((upd_tagF (fs 1) (wlC (CF D (fs 1))) (upd (cnt D) ((wlC (CF D (fs 0))).map (tagF (fs 0))))).trans ?_)
      · funext i
        show cnt D' (fs 1, (i : Int)) = _
        rw [h]
      · congr 1
        funext i
        exact upd_other (fun e => hfs e.symm) _ _ _
  have hcD : cnt s2.D = cnt D := by unfold cnt; rw [b2.lasts]
  unfold slast
  rw [if_neg (by simp)]
  simp only
  by_cases hc : s2.cl = true
  · rw [if_pos hc]
    obtain ⟨c1, c2, c3, c4, c5⟩ := sync_ok b2.off b2.arm
    rw [b2.waits, hcD] at c2
    obtain ⟨d1, d2⟩ := hcn _ c2
    exact ⟨c1, c4, c5, c3, hx, d1, d2, hms⟩
  · rw [if_neg hc]
    have hn := b2.cl (by simpa using hc)
    obtain ⟨d1, d2⟩ := hcn s2.D (by rw [hn, hcD]; rfl)
    exact ⟨rfl, b2.off, b2.arm, b2.waits.trans hn, hx, d1, d2, hms⟩
end Go.Proofs
