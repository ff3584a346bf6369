/-
  The plain laws of the snapshots: what counts, and what a crash leaves.
  Conditions: none; no program in sight.
-/
import Derived.Test.YteldcaeicgobfaaShotC
set_option linter.unusedVariables false
set_option linter.unusedSimpArgs false
namespace Go.Proofs
open Go Go.Vc

def countF (C : Nat → Sec) : ShotM := counted C (marks3 C)
def Whole (C : Nat → Sec) (l : List UInt8) : Prop := ∀ i, i < secN l.length → C (3 + i) = partS l i
def Marked (C : Nat → Sec) (x : ShotM) : Prop := ∀ i, i < 3 → C i = markS i x

theorem marks3_sec {C : Nat → Sec} (h : ∀ i, (C i).length = 128) {i : Nat} (hi : i < 3) : ((marks3 C).drop (128 * i)).take 128 = C i := by
  have h0 := h 0; have h1 := h 1; have h2 := h 2
  unfold marks3
  match i, hi with
  | 0, _ => rw [Nat.mul_zero, List.drop_zero]; exact List.take_left' h0
  | 1, _ =>
    rw [show 128 * 1 = (C 0).length by omega, List.drop_left]
    exact List.take_left' h1
  | 2, _ =>
    rw [show 128 * 2 = (C 0 ++ C 1).length by simp; omega, ← List.append_assoc, List.drop_left]
    exact List.take_of_length_le (by omega)
theorem marksB_iff {C : Nat → Sec} (h : ∀ i, (C i).length = 128) (x : ShotM) : marksB (marks3 C) x = true ↔ Marked C x := by
  unfold marksB Marked
  rw [List.all_eq_true]
  constructor
  · intro hh i hi
    have := hh i (List.mem_range.2 hi)
    rw [marks3_sec h hi] at this
    simpa using this
  · intro hh i hi
    rw [marks3_sec h (List.mem_range.1 hi)]
    simpa using hh i (List.mem_range.1 hi)
theorem partsB_iff {C : Nat → Sec} {l : List UInt8} : partsB C l = true ↔ Whole C l := by
  unfold partsB Whole
  rw [List.all_eq_true]
  constructor
  · intro hh i hi
    simpa using hh i (List.mem_range.2 hi)
  · intro hh i hi
    simpa using hh i (List.mem_range.1 hi)
/-- What counts is marked and whole. -/
theorem countF_cases {C : Nat → Sec} (h : ∀ i, (C i).length = 128) : countF C = shot0 ∨ ((countF C).ok ∧ (countF C).may = true ∧ Marked C (countF C) ∧ Whole C (countF C).data) := by
  obtain ⟨hok, -, -⟩ := counted_ok C h (marks3 C)
  unfold countF at *
  unfold counted at *
  split
  · exact .inl rfl
  · rename_i hb
    rw [if_neg hb] at hok
    split
    · exact .inl rfl
    · rename_i hp
      rw [if_neg hp] at hok
      split
      · exact .inl rfl
      · rename_i hm
        rw [if_neg hm] at hok
        split
        · exact .inl rfl
        · rename_i hk
          rw [if_neg hk] at hok
          exact .inr ⟨hok, by simpa using hm, (marksB_iff h _).1 (by simpa using hk), partsB_iff.1 (show partsB C (datB C (hLen (marks3 C))) = true by simpa using hp)⟩
theorem partS_drop (l : List UInt8) (i : Nat) : (partS l i).drop 1 = (l.drop (127 * i)).take 127 ++ List.replicate (127 - ((l.drop (127 * i)).take 127).length) 0 := rfl
theorem parts_take (l : List UInt8) : ∀ i, i ≤ secN l.length → ∃ z, ((List.range i).flatMap fun j => (partS l j).drop 1) = l.take (127 * i) ++ z ∧ (127 * i ≤ l.length → z = [])
  | 0, _ => ⟨[], by simp, fun _ => rfl⟩
  | i + 1, hi => by
    obtain ⟨z, h1, h2⟩ := parts_take l i (by omega)
    have hle : 127 * i ≤ l.length := by unfold secN at hi; omega
    rw [h2 hle, List.append_nil] at h1
    refine ⟨List.replicate (127 - ((l.drop (127 * i)).take 127).length) 0, ?_, fun h3 => ?_⟩
    · rw [List.range_succ, List.flatMap_append, h1]
      simp only [List.flatMap_cons, List.flatMap_nil, List.append_nil]
      rw [partS_drop, ← List.append_assoc, show 127 * (i + 1) = 127 * i + 127 by omega, List.take_add]
    · have : ((l.drop (127 * i)).take 127).length = 127 := by simp; omega
      rw [this]
      rfl
theorem datB_whole {C : Nat → Sec} {l : List UInt8} (h : Whole C l) : datB C l.length = l := by
  unfold datB datF
  have e : ((List.range (secN l.length)).flatMap fun j => (C (3 + j)).drop 1) = (List.range (secN l.length)).flatMap fun j => (partS l j).drop 1 := by
    rw [List.flatMap_def, List.flatMap_def]
    congr 1
    exact List.map_congr_left fun j hj => by rw [h j (List.mem_range.1 hj)]
  obtain ⟨z, h1, h2⟩ := parts_take l (secN l.length) (Nat.le_refl _)
  rw [e, h1]
  have hle : l.length ≤ 127 * secN l.length := by unfold secN; omega
  rw [List.take_of_length_le hle, List.take_left]
theorem mark_num {i : Nat} {x : ShotM} : hIdx (markS i x) = x.idx % 256 ^ 8 ∧ hTerm (markS i x) = x.term % 256 ^ 8 ∧ hLen (markS i x) = x.data.length % 256 ^ 8 := by
  have e : ∀ (a b : List UInt8), a.length = 8 → (a ++ b).take 8 = a := fun a b h => List.take_left' h
  unfold hIdx hTerm hLen markS hdrS
  refine ⟨?_, ?_, ?_⟩
  · simp only [List.cons_append, List.drop_succ_cons, List.drop_zero, List.append_assoc]
    rw [e _ _ (be_length ..), ofB_be]
  · simp only [List.cons_append, List.drop_succ_cons, List.append_assoc]
    rw [List.drop_left' (be_length 8 x.idx), e _ _ (be_length ..), ofB_be]
  · simp only [List.cons_append, List.drop_succ_cons, List.append_assoc]
    rw [show (16 : Nat) = 8 + 8 from rfl, ← List.drop_drop, List.drop_left' (be_length 8 x.idx), List.drop_left' (be_length 8 x.term), e _ _ (be_length ..), ofB_be]
theorem head_marks (C : Nat → Sec) (h : (C 0).length = 128) : hIdx (marks3 C) = hIdx (C 0) ∧ hTerm (marks3 C) = hTerm (C 0) ∧ hLen (marks3 C) = hLen (C 0) := by
  have e : ∀ i, i + 8 ≤ 128 → ((marks3 C).drop i).take 8 = ((C 0).drop i).take 8 := fun i hi => by
    unfold marks3
    rw [List.drop_append_of_le_length (by omega), List.take_append_of_le_length (by simp; omega)]
  unfold hIdx hTerm hLen
  exact ⟨by rw [e 1 (by omega)], by rw [e 9 (by omega)], by rw [e 17 (by omega)]⟩
/-- What is marked and whole counts. -/
theorem countF_of {C : Nat → Sec} {x : ShotM} (h : ∀ i, (C i).length = 128) (hok : x.ok) (hmay : x.may = true) (hm : Marked C x) (hw : Whole C x.data) : countF C = x := by
  obtain ⟨h1, h2, h3⟩ := hok
  obtain ⟨a1, a2, a3⟩ := head_marks C (h 0)
  rw [hm 0 (by omega)] at a1 a2 a3
  obtain ⟨b1, b2, b3⟩ := mark_num (i := 0) (x := x)
  have hmay' := hmay
  simp only [ShotM.may, decide_eq_true_eq] at hmay
  rw [b1, Nat.mod_eq_of_lt h1] at a1
  rw [b2, Nat.mod_eq_of_lt h2] at a2
  rw [b3, Nat.mod_eq_of_lt (by omega)] at a3
  have hd := datB_whole hw
  have hr : rawS C (marks3 C) = x := by
    unfold rawS
    rw [a1, a2, a3, hd]
  unfold countF counted
  rw [a3, hd, hr, if_neg (by omega), if_neg (by rw [partsB_iff.2 hw]; simp), if_neg (by rw [hmay']; simp), if_neg (by rw [(marksB_iff h x).2 hm]; simp)]
theorem markS_ne (i : Nat) (x : ShotM) (hi : i < 3) : markS i x ≠ zsec := by
  intro h
  have := congrArg (fun l : List UInt8 => l.head?) h
  simp only [markS, zsec, List.cons_append, List.head?_cons] at this
  have e : (List.replicate 128 (0 : UInt8)).head? = some 0 := rfl
  rw [e] at this
  injection this with this
  match i, hi with
  | 0, _ => exact absurd this (by decide)
  | 1, _ => exact absurd this (by decide)
  | 2, _ => exact absurd this (by decide)
theorem markS_head {i : Nat} {x y : ShotM} (hx : x.ok) (hy : y.ok) (h : markS i x = markS i y) : x.idx = y.idx ∧ x.term = y.term ∧ x.data.length = y.data.length := by
  obtain ⟨a1, a2, a3⟩ := mark_num (i := i) (x := x)
  obtain ⟨b1, b2, b3⟩ := mark_num (i := i) (x := y)
  rw [h] at a1 a2 a3
  rw [a1] at b1
  rw [a2] at b2
  rw [a3] at b3
  obtain ⟨x1, x2, x3⟩ := hx
  obtain ⟨y1, y2, y3⟩ := hy
  rw [Nat.mod_eq_of_lt x1, Nat.mod_eq_of_lt y1] at b1
  rw [Nat.mod_eq_of_lt x2, Nat.mod_eq_of_lt y2] at b2
  rw [Nat.mod_eq_of_lt (by omega), Nat.mod_eq_of_lt (by omega)] at b3
  exact ⟨b1, b2, b3⟩
theorem whole_eq {C : Nat → Sec} {l l' : List UInt8} (h : Whole C l) (h' : Whole C l') (hl : l.length = l'.length) : l = l' := by
  rw [← datB_whole h, ← datB_whole h', hl]

/-- A file of which nothing counts that it may not: its number is less than n, or it is the one under way. -/
def SOth (C : Nat → Sec) (n : Nat) (o : Option ShotM) : Prop :=
  C 0 = zsec ∨ (C 2 = zsec ∨ ∃ y : ShotM, y.ok ∧ y.idx < n ∧ C 2 = markS 2 y) ∨ ∃ x, o = some x ∧ C 1 = markS 1 x ∧ Whole C x.data
theorem soth_read {C : Nat → Sec} {n : Nat} {o : Option ShotM} (hl : ∀ i, (C i).length = 128) (h : SOth C n o) (ho : ∀ x, o = some x → x.ok) : countF C = shot0 ∨ (countF C).idx < n ∨ o = some (countF C) := by
  rcases countF_cases hl with hc | ⟨hok, hmay, hm, hw⟩
  · exact .inl hc
  · rcases h with h | (h | ⟨y, hy, hn, h⟩) | ⟨x, hx, h, hwx⟩
    · rw [hm 0 (by omega)] at h
      exact absurd h (markS_ne 0 _ (by omega))
    · rw [hm 2 (by omega)] at h
      exact absurd h (markS_ne 2 _ (by omega))
    · rw [hm 2 (by omega)] at h
      have := (markS_head hok hy h).1
      exact .inr (.inl (by omega))
    · rw [hm 1 (by omega)] at h
      obtain ⟨e1, e2, e3⟩ := markS_head hok (ho x hx) h
      have e4 := whole_eq hw hwx e3
      refine .inr (.inr ?_)
      rw [hx]
      congr 1
      cases x
      generalize countF C = c at *
      cases c
      simp_all

/-! ### Rows of writes to one file -/
theorem upd_other {f g : Int} (h : g ≠ f) (l : List (Int × Sec)) (c : Pl → Sec) (i : Int) : upd c (l.map (tagF f)) (g, i) = c (g, i) :=
  upd_not _ _ _ fun x hx e => by
    obtain ⟨y, _, rfl⟩ := List.mem_map.1 hx
    injection e with e1 e2
    exact h e1.symm
theorem updC_app : ∀ (T T' : List (Int × Sec)) (c : Nat → Sec), updC c (T ++ T') = updC (updC c T) T'
  | [], T', c => rfl
  | (a, s) :: T, T', c => updC_app T T' _
theorem crash_tag {D : DM} {f : Int} {l : List (Int × Sec)} {j keep : Nat} {torn : List UInt8} (hw : D.waits = (l.take j).map (tagF f)) : ∃ T, Crashed l T ∧ cnt (D.crash keep torn) = upd (cnt D) (T.map (tagF f)) := by
  obtain ⟨T, hT, hc⟩ := crash_cnt D keep torn
  rw [hw] at hT
  rcases hT with ⟨k, rfl⟩ | ⟨k, x, t, -, hx, rfl⟩
  · refine ⟨(l.take j).take k, .inl ⟨min k j, List.take_take ..⟩, ?_⟩
    rw [hc, List.map_take, List.map_take, List.map_take]
  · rw [List.getElem?_map, Option.map_eq_some_iff] at hx
    obtain ⟨y, hy, rfl⟩ := hx
    have hkj : k < j ∧ l[k]? = some y := by
      rw [List.getElem?_take] at hy
      split at hy
      · exact ⟨by assumption, hy⟩
      · cases hy
    refine ⟨l.take k ++ [(y.1, t)], .inr ⟨k, y, t, hkj.2, rfl⟩, ?_⟩
    rw [hc, ← List.map_take, List.take_take, Nat.min_eq_left (by omega)]
    simp [tagF]
theorem crashed_app {A B T : List (Int × Sec)} (h : Crashed (A ++ B) T) : Crashed A T ∨ ∃ T', Crashed B T' ∧ T = A ++ T' := by
  rcases h with ⟨k, rfl⟩ | ⟨k, x, t, hx, rfl⟩
  · by_cases hk : k ≤ A.length
    · exact .inl (.inl ⟨k, List.take_append_of_le_length hk⟩)
    · refine .inr ⟨B.take (k - A.length), .inl ⟨_, rfl⟩, ?_⟩
      rw [List.take_append, List.take_of_length_le (by omega)]
  · by_cases hk : k < A.length
    · rw [List.getElem?_append_left hk] at hx
      exact .inl (.inr ⟨k, x, t, hx, by rw [List.take_append_of_le_length (by omega)]⟩)
    · rw [List.getElem?_append_right (by omega)] at hx
      refine .inr ⟨B.take (k - A.length) ++ [(x.1, t)], .inr ⟨k - A.length, x, t, hx, rfl⟩, ?_⟩
      rw [List.take_append, List.take_of_length_le (by omega), List.append_assoc]

theorem cleanS_is (b : List UInt8) : cleanS b 0 = ([(0, secI b 0), (1, secI b 1), (2, secI b 2)].filter fun x : Nat × Sec => decide (x.2 ≠ zsec)).map fun x => ((x.1 : Int), zsec) := by
  by_cases h0 : secI b 0 = zsec <;> by_cases h1 : secI b 1 = zsec <;> by_cases h2 : secI b 2 = zsec <;> simp [cleanS, List.range_succ, h0, h1, h2]
theorem marks3_secI {C : Nat → Sec} (h : ∀ i, (C i).length = 128) {i : Nat} (hi : i < 3) : secI (marks3 C) i = C i := marks3_sec h hi
theorem cleanS_addr {b : List UInt8} : ∀ x ∈ cleanS b 0, x.2 = zsec ∧ ∃ j, j < 3 ∧ x.1 = ((j : Nat) : Int) := by
  intro x hx
  unfold cleanS at hx
  obtain ⟨j, hj, he⟩ := List.mem_filterMap.1 hx
  have hj' : j < 3 := by
    have := List.mem_of_mem_drop hj
    exact List.mem_range.1 this
  split at he
  · cases he
  · injection he with he
    subst he
    exact ⟨rfl, j, hj', rfl⟩
/-- All of it done, the marks are noughts. -/
theorem clean_done {C : Nat → Sec} (h : ∀ i, (C i).length = 128) : (∀ i, i < 3 → updC C (cleanS (marks3 C) 0) i = zsec) ∧ ∀ i, 3 ≤ i → updC C (cleanS (marks3 C) 0) i = C i := by
  constructor
  · intro i hi
    have h0 := marks3_secI h (show 0 < 3 by omega)
    have h1 := marks3_secI h (show 1 < 3 by omega)
    have h2 := marks3_secI h (show 2 < 3 by omega)
    rw [cleanS_is, h0, h1, h2]
    by_cases z0 : C 0 = zsec <;> by_cases z1 : C 1 = zsec <;> by_cases z2 : C 2 = zsec <;> (match i, hi with
      | 0, _ => simp [updC, z0, z1, z2]
      | 1, _ => simp [updC, z0, z1, z2]
      | 2, _ => simp [updC, z0, z1, z2])
  · intro i hi
    refine updC_not _ _ _ fun x hx e => ?_
    obtain ⟨-, j, hj, e'⟩ := cleanS_addr x hx
    rw [e'] at e
    omega
/-- Cut off, it has turned the first mark alone; or the first mark is noughts. -/
theorem clean_cut {C : Nat → Sec} (h : ∀ i, (C i).length = 128) {T : List (Int × Sec)} (hT : Crashed (cleanS (marks3 C) 0) T) : (∀ i, 1 ≤ i → updC C T i = C i) ∧ (C 0 = zsec → updC C T 0 = zsec) ∨ updC C T 0 = zsec := by
  have h0 := marks3_secI h (show 0 < 3 by omega)
  have h1 := marks3_secI h (show 1 < 3 by omega)
  have h2 := marks3_secI h (show 2 < 3 by omega)
  rw [cleanS_is, h0, h1, h2] at hT
  have none : ∀ T : List (Int × Sec), (∀ x ∈ T, x.1 = 1 ∨ x.1 = 2) → updC C T 0 = C 0 := fun T hx => updC_not _ _ _ fun x hh e => by
    rcases hx x hh with e' | e' <;> rw [e'] at e <;> simp at e
  by_cases z0 : C 0 = zsec
  · right
    rw [none T fun x hx => ?_, z0]
    have hs := hT.sub x hx
    obtain ⟨y, hy, e⟩ := hs
    simp only [z0, ne_eq, not_true_eq_false, decide_false, List.filter_cons, Bool.false_eq_true, if_false] at hy
    obtain ⟨p, hp, rfl⟩ := List.mem_map.1 hy
    rw [e]
    by_cases z1 : C 1 = zsec <;> by_cases z2 : C 2 = zsec <;> simp [z1, z2] at hp
    · rw [hp]; simp
    · rw [hp]; simp
    · rcases hp with hp | hp <;> rw [hp] <;> simp
  · -- the first element is the first mark
    simp only [ne_eq, z0, not_false_eq_true, decide_true, List.filter_cons, if_true, List.map_cons] at hT
    obtain ⟨R, hR⟩ : ∃ R : List (Int × Sec), (List.map (fun x : Nat × Sec => ((x.1 : Int), zsec)) (if (decide ¬C 1 = zsec) = true then (1, C 1) :: (if (decide ¬C 2 = zsec) = true then [(2, C 2)] else []) else (if (decide ¬C 2 = zsec) = true then [(2, C 2)] else []))) = R := ⟨_, rfl⟩
    have hR' : ∀ x ∈ R, x.1 = 1 ∨ x.1 = 2 := by
      intro x hx
      rw [← hR] at hx
      obtain ⟨p, hp, rfl⟩ := List.mem_map.1 hx
      by_cases z1 : C 1 = zsec <;> by_cases z2 : C 2 = zsec <;> simp [z1, z2] at hp
      · rw [hp]; simp
      · rw [hp]; simp
      · rcases hp with hp | hp <;> rw [hp] <;> simp
    have hTR : Crashed ((0, zsec) :: R) T := by
      rw [← hR]
      exact hT
    have one : ∀ T', (∀ x ∈ T', x.1 = 1 ∨ x.1 = 2) → updC C ((0, zsec) :: T') 0 = zsec := fun T' hx => by
      show updC (fun i => if (0 : Int) = (i : Int) then zsec else C i) T' 0 = zsec
      rw [updC_not _ _ _ fun x hh e => by rcases hx x hh with e' | e' <;> rw [e'] at e <;> simp at e]
      simp
    rcases hTR with ⟨k, rfl⟩ | ⟨k, x, t, hx, rfl⟩
    · cases k with
      | zero => left; exact ⟨fun i hi => rfl, fun hz => hz⟩
      | succ k =>
        right
        rw [List.take_succ_cons]
        exact one _ fun x hx => hR' x (List.mem_of_mem_take hx)
    · cases k with
      | zero =>
        left
        have e : x = (0, zsec) := by simpa using hx.symm
        subst e
        refine ⟨fun i hi => ?_, fun hz => absurd hz z0⟩
        show (if (0 : Int) = (i : Int) then t else C i) = C i
        rw [if_neg (by omega)]
      | succ k =>
        right
        rw [List.take_succ_cons, List.cons_append]
        refine one _ fun y hy => ?_
        rcases List.mem_append.1 hy with hy | hy
        · exact hR' y (List.mem_of_mem_take hy)
        · rw [List.mem_singleton] at hy
          rw [hy]
          have : x ∈ R := List.mem_of_getElem? (by simpa using hx)
          exact hR' x this
theorem soth_clean {C : Nat → Sec} {n : Nat} {o : Option ShotM} (hl : ∀ i, (C i).length = 128) (h : SOth C n o) {T : List (Int × Sec)} (hT : Crashed (cleanS (marks3 C) 0) T) : SOth (updC C T) n o := by
  rcases clean_cut hl hT with ⟨h1, h2⟩ | h1
  · rcases h with h | (h | ⟨y, hy, hn, h⟩) | ⟨x, hx, h, hw⟩
    · exact .inl (h2 h)
    · exact .inr (.inl (.inl ((h1 2 (by omega)).trans h)))
    · exact .inr (.inl (.inr ⟨y, hy, hn, (h1 2 (by omega)).trans h⟩))
    · exact .inr (.inr ⟨x, hx, (h1 1 (by omega)).trans h, fun i hi => (h1 (3 + i) (by omega)).trans (hw i hi)⟩)
  · exact .inl h1
end Go.Proofs
