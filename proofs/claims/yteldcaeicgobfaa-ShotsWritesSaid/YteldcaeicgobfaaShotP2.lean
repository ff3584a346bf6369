/-
  The plain laws of the snapshots: opening and saving, wherever the power goes.
  Conditions: none; no program in sight.
-/
import Derived.Test.YteldcaeicgobfaaShotP
set_option linter.unusedVariables false
set_option linter.unusedSimpArgs false
namespace Go.Proofs
open Go Go.Vc

/-- What an operation has done of its row of writes W. -/
structure Did (D D' : DM) (e : Int) (W : List (Pl × Sec)) : Prop where
  lasts : D'.lasts = D.lasts
  out : ∃ j, D'.waits = D.waits ++ W.take j ∧ ((e = 0 ∧ W.take j = W ∧ D'.off = false) ∨ (e = 180 ∧ D'.off = true))
  arm : D.armed = false → e = 0 ∧ D'.armed = false
theorem Did.trans {D D1 D2 : DM} {e : Int} {W W' : List (Pl × Sec)} (h : Did D D1 0 W) (h' : Did D1 D2 e W') : Did D D2 e (W ++ W') := by
  obtain ⟨a1, ⟨j, a2, a3⟩, a4⟩ := h
  obtain ⟨b1, ⟨j', b2, b3⟩, b4⟩ := h'
  rcases a3 with ⟨-, a3, -⟩ | ⟨a3, -⟩
  · rw [a3] at a2
    refine ⟨b1.trans a1, ⟨W.length + j', ?_, ?_⟩, fun h => b4 (a4 h).2⟩
    · rw [b2, a2, List.append_assoc, List.take_append, List.take_of_length_le (l := W) (by omega), Nat.add_sub_cancel_left]
    · rw [List.take_append, List.take_of_length_le (l := W) (by omega), Nat.add_sub_cancel_left]
      rcases b3 with ⟨b5, b6, b7⟩ | b5
      · exact .inl ⟨b5, by rw [b6], b7⟩
      · exact .inr b5
  · cases a3
theorem Did.err {D D1 : DM} {e : Int} {W : List (Pl × Sec)} (h : Did D D1 e W) (he : e ≠ 0) (W' : List (Pl × Sec)) : Did D D1 e (W ++ W') := by
  obtain ⟨a1, ⟨j, a2, a3⟩, a4⟩ := h
  rcases a3 with ⟨a3, -⟩ | a3
  · exact absurd a3 he
  · refine ⟨a1, ⟨min j W.length, ?_, .inr a3⟩, a4⟩
    rw [a2, List.take_append_of_le_length (by omega)]
    by_cases hj : j ≤ W.length
    · rw [Nat.min_eq_left hj]
    · rw [Nat.min_eq_right (by omega), List.take_of_length_le (by omega), List.take_of_length_le (Nat.le_refl _)]
theorem Did.off {D D' : DM} {W : List (Pl × Sec)} (h : Did D D' 0 W) : D'.off = false := by
  obtain ⟨-, ⟨j, -, ⟨-, -, h⟩ | ⟨h, -⟩⟩, -⟩ := h
  · exact h
  · cases h

theorem did_writes {f : Int} (hf : 0 ≤ f ∧ f < 5) : ∀ (l : List (Int × Sec)) (D : DM), D.off = false → (∀ x ∈ l, x.2.length = 128 ∧ 0 ≤ x.1 ∧ x.1 < 8192) → Did D (D.writes f l).2 (D.writes f l).1 (l.map (tagF f))
  | [], D, ho, _ => ⟨rfl, ⟨0, by simp [DM.writes], .inl ⟨rfl, rfl, ho⟩⟩, fun h => ⟨rfl, h⟩⟩
  | (a, s) :: l, D, ho, hl => by
    obtain ⟨h1, h2, h3⟩ := hl (a, s) (List.mem_cons_self ..)
    obtain ⟨j, g1, g2, g3, g4⟩ := write_spec (f := f) (a := a) (bs := s) (k := 1) ho (by omega) (by simp [mayB]; omega)
    have hc : chunks s 1 = [s] := by simp [chunks, ← h1]
    rw [hc] at g2 g3
    have one : Did D (D.write f a s).2 (D.write f a s).1 [tagF f (a, s)] := ⟨g1, ⟨j, g2, g3⟩, g4⟩
    unfold DM.writes
    by_cases he : (D.write f a s).1 = 0
    · rw [if_pos he]
      rw [he] at one
      exact one.trans (did_writes hf l _ one.off fun x hx => hl x (List.mem_cons_of_mem _ hx))
    · rw [if_neg he]
      exact one.err he _
def partL (l : List UInt8) : List (Int × Sec) := (List.range (secN l.length)).map fun i : Nat => ((3 + (i : Int)), partS l i)
theorem chunks_parts (l : List UInt8) (n : Nat) : chunks (partsL l n) n = (List.range n).map (partS l) := by
  unfold chunks
  refine List.map_congr_left fun i hi => ?_
  have hi' := List.mem_range.1 hi
  have : ∀ n, i < n → ((partsL l n).drop (128 * i)).take 128 = partS l i := by
    intro n
    induction n with
    | zero => intro h; omega
    | succ n ih =>
      intro h
      rw [partsL_succ]
      have hl := partsL_length l n
      by_cases hin : i < n
      · rw [List.drop_append_of_le_length (by omega), List.take_append_of_le_length (by simp; omega)]
        exact ih hin
      · have : i = n := by omega
        subst this
        rw [← hl, List.drop_left]
        exact List.take_of_length_le (by rw [partS_length]; exact Nat.le_refl _)
  exact this n hi'
theorem tagS_map (f : Int) (g : Nat → Sec) : ∀ (n : Nat) (a : Int), tagS f a ((List.range n).map g) = (List.range n).map fun i : Nat => ((f, a + (i : Int)), g i) := by
  intro n a
  apply List.ext_getElem?
  intro i
  by_cases hi : i < n
  · rw [tagS_get f _ a i (by simpa using hi)]
    simp [hi]
  · rw [List.getElem?_eq_none (by rw [tagS_length]; simp; omega), List.getElem?_eq_none (by simp; omega)]
theorem did_parts {f : Int} (hf : 0 ≤ f ∧ f < 5) {l : List UInt8} (hl : l.length ≤ 524288) {D : DM} (ho : D.off = false) : Did D (D.sparts f l).2 (D.sparts f l).1 ((partL l).map (tagF f)) := by
  unfold DM.sparts
  by_cases h0 : secN l.length = 0
  · rw [if_pos h0]
    unfold partL
    rw [h0]
    exact ⟨rfl, ⟨0, by simp, .inl ⟨rfl, rfl, ho⟩⟩, fun h => ⟨rfl, h⟩⟩
  · rw [if_neg h0]
    have hN : secN l.length ≤ 4129 := by unfold secN; omega
    obtain ⟨j, g1, g2, g3, g4⟩ := write_spec (f := f) (a := 3) (bs := partsL l (secN l.length)) (k := secN l.length) ho (partsL_length ..) (by simp [mayB]; omega)
    have e : tagS f 3 (chunks (partsL l (secN l.length)) (secN l.length)) = (partL l).map (tagF f) := by
      rw [chunks_parts, tagS_map]
      unfold partL
      rw [List.map_map]
      rfl
    rw [e] at g2 g3
    exact ⟨g1, ⟨j, g2, g3⟩, g4⟩

/-- The row of writes of a snapshot. -/
def saveL (x : ShotM) (b : List UInt8) : List (Int × Sec) := (cleanS b 0 ++ partL x.data) ++ mkL x 0
theorem cleanS_ok (b : List UInt8) : ∀ x ∈ cleanS b 0, x.2.length = 128 ∧ 0 ≤ x.1 ∧ x.1 < 8192 := fun x hx => by
  obtain ⟨e1, j, hj, e2⟩ := cleanS_addr x hx
  rw [e1, e2]
  exact ⟨zsec_length, by omega, by omega⟩
theorem mkL_ok (x : ShotM) : ∀ y ∈ mkL x 0, y.2.length = 128 ∧ 0 ≤ y.1 ∧ y.1 < 8192 := fun y hy => by
  unfold mkL at hy
  obtain ⟨j, hj, rfl⟩ := List.mem_map.1 hy
  have := List.mem_range.1 (List.mem_of_mem_drop hj)
  exact ⟨markS_length .., by simp, by simp; omega⟩
theorem ssave_spec {f : Int} (hf : 0 ≤ f ∧ f < 5) {x : ShotM} (hx : x.data.length ≤ 524288) {b : List UInt8} {D : DM} (ho : D.off = false) :
    ((D.ssave f x b).1 = 0 ∧ (D.ssave f x b).2.lasts = putL D.lasts (D.waits ++ (saveL x b).map (tagF f)) ∧ (D.ssave f x b).2.waits = [] ∧ (D.ssave f x b).2.off = false) ∨
    ((D.ssave f x b).1 = 180 ∧ (D.ssave f x b).2.off = true ∧ (D.ssave f x b).2.lasts = D.lasts ∧ ∃ j, (D.ssave f x b).2.waits = D.waits ++ ((saveL x b).map (tagF f)).take j) := by
  have w1 := did_writes hf (cleanS b 0) D ho (cleanS_ok b)
  have bad : ∀ (D' : DM) (e : Int), Did D D' e ((saveL x b).map (tagF f)) → e ≠ 0 → (e = 180 ∧ D'.off = true ∧ D'.lasts = D.lasts ∧ ∃ j, D'.waits = D.waits ++ ((saveL x b).map (tagF f)).take j) := fun D' e h he => by
    obtain ⟨a1, ⟨j, a2, a3⟩, -⟩ := h
    rcases a3 with ⟨a3, -⟩ | ⟨a3, a4⟩
    · exact absurd a3 he
    · exact ⟨a3, a4, a1, j, a2⟩
  have eS : (saveL x b).map (tagF f) = ((cleanS b 0).map (tagF f) ++ (partL x.data).map (tagF f)) ++ (mkL x 0).map (tagF f) := by simp [saveL]
  unfold DM.ssave
  by_cases h1 : (D.writes f (cleanS b 0)).1 ≠ 0
  · rw [if_pos h1]
    right
    refine bad _ _ ?_ h1
    rw [eS, List.append_assoc]
    exact w1.err h1 _
  rw [if_neg h1]
  have h1 : (D.writes f (cleanS b 0)).1 = 0 := by simpa using h1
  rw [h1] at w1
  generalize (D.writes f (cleanS b 0)).2 = D1 at w1
  have w2 := did_parts hf hx w1.off (l := x.data)
  have w12 := w1.trans w2
  by_cases h2 : (D1.sparts f x.data).1 ≠ 0
  · rw [if_pos h2]
    right
    refine bad _ _ ?_ h2
    rw [eS]
    exact w12.err h2 _
  rw [if_neg h2]
  have h2 : (D1.sparts f x.data).1 = 0 := by simpa using h2
  rw [h2] at w12
  generalize (D1.sparts f x.data).2 = D2 at w12
  have w3 := did_writes hf (mkL x 0) D2 w12.off (mkL_ok x)
  have w123 := w12.trans w3
  rw [← eS] at w123
  unfold DM.smarks
  by_cases h3 : (D2.writes f (mkL x 0)).1 ≠ 0
  · rw [if_pos h3]
    right
    exact bad _ _ w123 h3
  rw [if_neg h3]
  have h3 : (D2.writes f (mkL x 0)).1 = 0 := by simpa using h3
  rw [h3] at w123
  generalize (D2.writes f (mkL x 0)).2 = D3 at w123
  obtain ⟨a1, ⟨j, a2, a3⟩, -⟩ := w123
  rcases a3 with ⟨-, a3, a4⟩ | ⟨a3, -⟩
  · rcases (sync_is a4).1 with ⟨g1, g2, g3, g4⟩ | ⟨g1, g2, g3, g4⟩
    · left
      exact ⟨g1, by rw [g2, a1, a2, a3], g3, g4⟩
    · right
      exact ⟨g1, g4, g2.trans a1, j, by rw [g3, a2]⟩
  · cases a3

/-! ### The states -/
def CF (D : DM) (f : Int) : Nat → Sec := fun i : Nat => cnt D (f, (i : Int))
def SHolds (C : Nat → Sec) (x : ShotM) (k : Nat) : Prop := (x.idx ≠ 0 ∧ countF C = x) ∨ (x = shot0 ∧ k = 1 ∧ ∀ i, i < 3 → C i = zsec)
structure SPend (D : DM) (fs : Nat → Int) (k : Nat) (x : ShotM) (o : Option ShotM) : Prop where
  off : D.off = false
  waits : D.waits = []
  k1 : k ≤ 1
  holds : SHolds (CF D (fs k)) x k
  oth : SOth (CF D (fs (1 - k))) x.idx o
  next : ∀ x', o = some x' → x'.ok ∧ x'.may = true ∧ x.idx < x'.idx
structure SIdle (D : DM) (fs : Nat → Int) (k : Nat) (x : ShotM) (ms : Nat → List UInt8) : Prop where
  off : D.off = false
  waits : D.waits = []
  k1 : k ≤ 1
  holds : SHolds (CF D (fs k)) x k
  other : (∀ i, i < 3 → CF D (fs (1 - k)) i = zsec) ∨ ((countF (CF D (fs (1 - k)))).idx ≠ 0 ∧ (countF (CF D (fs (1 - k)))).idx < x.idx)
  ms : ∀ j, j < 2 → ms j = marks3 (CF D (fs j))
theorem CF_len {D : DM} (h : LenOk D) (f : Int) (i : Nat) : (CF D f i).length = 128 := cnt_len h _
theorem soth_of {C : Nat → Sec} {n : Nat} {o : Option ShotM} (hl : ∀ i, (C i).length = 128) (h : (∀ i, i < 3 → C i = zsec) ∨ ((countF C).idx ≠ 0 ∧ (countF C).idx < n)) : SOth C n o := by
  rcases h with h | ⟨h0, hn⟩
  · exact .inl (h 0 (by omega))
  · rcases countF_cases hl with hc | ⟨hok, -, hm, -⟩
    · rw [hc] at h0
      exact absurd rfl h0
    · exact .inr (.inl (.inr ⟨_, hok, hn, hm 2 (by omega)⟩))
theorem SIdle.pend {D : DM} {fs : Nat → Int} {k : Nat} {x : ShotM} {ms : Nat → List UInt8} (h : SIdle D fs k x ms) (hl : LenOk D) {o : Option ShotM} (ho : ∀ x', o = some x' → x'.ok ∧ x'.may = true ∧ x.idx < x'.idx) : SPend D fs k x o :=
  ⟨h.off, h.waits, h.k1, h.holds, soth_of (CF_len hl _) h.other, ho⟩
/-- A crash with nothing waiting changes nothing that lasts. -/
theorem CF_crash {D : DM} (hw : D.waits = []) (keep : Nat) (torn : List UInt8) (f : Int) : CF (D.crash keep torn) f = CF D f := by
  obtain ⟨T, hT, hc⟩ := crash_cnt D keep torn
  rw [hw] at hT
  have : T = [] := by
    rcases hT with ⟨k, rfl⟩ | ⟨k, x, t, -, hx, -⟩
    · simp
    · simp at hx
  subst this
  unfold CF
  rw [hc]
  rfl
theorem SPend.crash {D : DM} {fs : Nat → Int} {k : Nat} {x : ShotM} {o : Option ShotM} (h : SPend D fs k x o) (keep : Nat) (torn : List UInt8) : SPend (D.crash keep torn) fs k x o := by
  obtain ⟨c1, c2, c3⟩ := crash_off D keep torn
  exact ⟨c1, c3, h.k1, by rw [CF_crash h.waits]; exact h.holds, by rw [CF_crash h.waits]; exact h.oth, h.next⟩
theorem CF_upd {D D' : DM} {f : Int} {T : List (Int × Sec)} (h : cnt D' = upd (cnt D) (T.map (tagF f))) : CF D' f = updC (CF D f) T ∧ ∀ g, g ≠ f → CF D' g = CF D g := by
  constructor
  · unfold CF
    rw [h, upd_tagF]
  · intro g hg
    unfold CF
    rw [h]
    funext i
    exact upd_other hg _ _ _
/-- The other file's marks have been turned, up to somewhere. -/
theorem SPend.cut {D D' : DM} {fs : Nat → Int} {k : Nat} {x : ShotM} {o : Option ShotM} {j : Nat} (h : SPend D fs k x o) (hl : LenOk D) (hfs : fs 0 ≠ fs 1) (hla : D'.lasts = D.lasts) (hw : D'.waits = ((cleanS (marks3 (CF D (fs (1 - k)))) 0).take j).map (tagF (fs (1 - k)))) (keep : Nat) (torn : List UInt8) : SPend (D'.crash keep torn) fs k x o := by
  obtain ⟨T, hT, hc⟩ := crash_tag (keep := keep) (torn := torn) hw
  have hcn : cnt D' = cnt D := by unfold cnt; rw [hla]
  rw [hcn] at hc
  obtain ⟨e1, e2⟩ := CF_upd hc
  obtain ⟨c1, c2, c3⟩ := crash_off D' keep torn
  have hne : fs k ≠ fs (1 - k) := by
    have := h.k1
    rcases two (show k < 2 by omega) with rfl | rfl
    · exact hfs
    · exact fun e => hfs e.symm
  refine ⟨c1, c3, h.k1, ?_, ?_, h.next⟩
  · rw [e2 _ hne]; exact h.holds
  · rw [e1]; exact soth_clean (CF_len hl _) h.oth hT
end Go.Proofs
