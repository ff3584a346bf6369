/-
  The plain laws of the snapshots: what the document reads of a file is what counts in it.
  Conditions: none; no program in sight.
-/
import Derived.Test.YteldcaeicgobfaaShotW
import Derived.Test.YteldcaeicgobfaaShotX
set_option linter.unusedVariables false
set_option linter.unusedSimpArgs false
namespace Go.Proofs
open Go Go.Vc

/-- A row's sector. -/
def secR (L : List UInt8) (i : Nat) : List UInt8 := (L.drop (128 * i)).take 128
theorem secs_flat : ∀ (m : Nat) (L : List UInt8), L.length = 128 * m → L = (List.range m).flatMap (secR L)
  | 0, L, h => by simp at h; simp [h]
  | m + 1, L, h => by
    have h1 : (L.take (128 * m)).length = 128 * m := by simp; omega
    have h2 := secs_flat m (L.take (128 * m)) h1
    have h3 : (List.range m).flatMap (secR (L.take (128 * m))) = (List.range m).flatMap (secR L) := by
      rw [List.flatMap_def, List.flatMap_def]
      congr 1
      refine List.map_congr_left fun i hi => ?_
      have hi' := List.mem_range.1 hi
      unfold secR
      rw [List.drop_take, List.take_take, Nat.min_eq_left (by omega)]
    rw [List.range_succ, List.flatMap_append, ← h3, ← h2]
    simp only [List.flatMap_cons, List.flatMap_nil, List.append_nil]
    unfold secR
    rw [List.take_of_length_le (l := L.drop (128 * m)) (by simp; omega), List.take_append_drop]
theorem flat_len {g : Nat → List UInt8} (h : ∀ i, (g i).length = 128) : ∀ m, ((List.range m).flatMap g).length = 128 * m
  | 0 => rfl
  | m + 1 => by rw [List.range_succ, List.flatMap_append, List.length_append, flat_len h m]; simp [h]; omega
theorem flat_secR {g : Nat → List UInt8} (h : ∀ i, (g i).length = 128) {i : Nat} : ∀ m, i < m → secR ((List.range m).flatMap g) i = g i
  | m + 1, hi => by
    have hl := flat_len h m
    rw [List.range_succ, List.flatMap_append]
    unfold secR
    by_cases e : i = m
    · subst e
      rw [List.drop_left' hl]
      simp only [List.flatMap_cons, List.flatMap_nil, List.append_nil]
      exact List.take_of_length_le (by rw [h]; exact Nat.le_refl _)
    · rw [List.drop_append_of_le_length (by omega), List.take_append_of_le_length (by simp [hl]; omega)]
      exact flat_secR h m (by omega)
theorem sec_ext {m : Nat} {L L' : List UInt8} (h : L.length = 128 * m) (h' : L'.length = 128 * m) (he : ∀ i, i < m → secR L i = secR L' i) : L = L' := by
  rw [secs_flat m L h, secs_flat m L' h', List.flatMap_def, List.flatMap_def]
  congr 1
  exact List.map_congr_left fun i hi => he i (List.mem_range.1 hi)
/-- The sectors of a file, of which a row has the first ones. -/
def secL (B : List UInt8) (i : Nat) : Sec := if 128 * i < B.length then secR B i else zsec
theorem secL_len {k : Nat} {B : List UInt8} (h : B.length = 128 * k) (i : Nat) : (secL B i).length = 128 := by
  unfold secL secR
  split
  · simp; omega
  · exact zsec_length
theorem secL_pad {k m : Nat} {B : List UInt8} (h : B.length = 128 * k) : secL (B ++ List.replicate (128 * m) 0) = secL B := by
  funext i
  unfold secL secR
  by_cases hi : i < k
  · rw [if_pos (by simp; omega), if_pos (by omega), List.drop_append_of_le_length (by omega), List.take_append_of_le_length (by simp; omega)]
  · rw [if_neg (show ¬ 128 * i < B.length by omega)]
    split
    · rename_i hh
      rw [List.length_append, List.length_replicate] at hh
      rw [List.drop_append, List.drop_of_length_le (by omega), List.nil_append, List.drop_replicate, List.take_replicate, show min 128 (128 * m - (128 * i - B.length)) = 128 by omega]
      rfl
    · rfl
/-- The sectors of a snapshot's form. -/
def formG (x : ShotM) (i : Nat) : List UInt8 := if i < 3 then markS i x else partS x.data (i - 3)
theorem formG_len (x : ShotM) (i : Nat) : (formG x i).length = 128 := by
  unfold formG
  split
  · exact markS_length _ _
  · exact partS_length _ _
theorem formP_flat (x : ShotM) : ∀ n, formP x n = (List.range (3 + n)).flatMap (formG x)
  | 0 => by simp [formP, formG, List.range_succ]
  | n + 1 => by
    rw [formP_succ, formP_flat x n, ← Nat.add_assoc, List.range_succ, List.flatMap_append]
    have h3 : ¬ (3 + n < 3) := by omega
    simp only [List.flatMap_cons, List.flatMap_nil, List.append_nil, formG, if_neg h3]
    rw [show 3 + n - 3 = n by omega]
theorem formS_flat (x : ShotM) : formS x = (List.range (3 + secN x.data.length)).flatMap (formG x) := formP_flat x _
theorem formS_sec {x : ShotM} {i : Nat} (h : i < 3 + secN x.data.length) : secR (formS x) i = formG x i := by
  rw [formS_flat]
  exact flat_secR (formG_len x) _ h
theorem secR_take {L : List UInt8} {n i : Nat} (h : 128 * i + 128 ≤ n) : secR (L.take n) i = secR L i := by
  unfold secR
  rw [List.drop_take, List.take_take, Nat.min_eq_left (by omega)]
/-- A file's form, told by its sectors. -/
theorem form_iff {B : List UInt8} {k : Nat} {x : ShotM} (hB : B.length = 128 * k) (hk : 3 + secN x.data.length ≤ k) : formS x = B.take (384 + 128 * secN x.data.length) ↔ Marked (secL B) x ∧ Whole (secL B) x.data := by
  have hf := formS_length x
  have hs : ∀ i, i < 3 + secN x.data.length → secL B i = secR (B.take (384 + 128 * secN x.data.length)) i := fun i hi => by
    unfold secL
    rw [if_pos (by omega), secR_take (by omega)]
  constructor
  · intro h
    constructor
    · intro i hi
      rw [hs i (by omega), ← h, formS_sec (by omega)]
      unfold formG
      rw [if_pos hi]
    · intro i hi
      rw [hs (3 + i) (by omega), ← h, formS_sec (by omega)]
      unfold formG
      rw [if_neg (by omega), show 3 + i - 3 = i by omega]
  · rintro ⟨hm, hw⟩
    refine sec_ext (m := 3 + secN x.data.length) (by omega) (by simp; omega) fun i hi => ?_
    rw [formS_sec hi, ← hs i hi]
    unfold formG
    split
    · rename_i h3; exact (hm i h3).symm
    · rename_i h3
      have := hw (i - 3) (by omega)
      rw [show 3 + (i - 3) = i by omega] at this
      exact this.symm
theorem getD_secR {L : List UInt8} {i j : Nat} (hj : j < 128) : (secR L i).getD j 0 = L.getD (128 * i + j) 0 := by
  unfold secR
  rw [List.getD_eq_getElem?_getD, List.getD_eq_getElem?_getD, List.getElem?_take, if_pos hj, List.getElem?_drop]
theorem getD_partS {l : List UInt8} {i j : Nat} (hj : j < 127) (h : 127 * i + j < l.length) : (partS l i).getD (1 + j) 0 = l.getD (127 * i + j) 0 := by
  unfold partS
  rw [List.getD_eq_getElem?_getD, List.getD_eq_getElem?_getD, show 1 + j = j + 1 by omega, List.getElem?_cons_succ, List.getElem?_append_left (by simp; omega), List.getElem?_take, if_pos hj, List.getElem?_drop]
theorem part_ne (l : List UInt8) (i : Nat) : partS l i ≠ zsec := by
  intro h
  have := congrArg (fun l : List UInt8 => l.head?) h
  have e : (List.replicate 128 (0 : UInt8)).head? = some 0 := rfl
  simp only [partS, zsec, List.head?_cons] at this
  rw [e] at this
  exact absurd this (by decide)
theorem datL_whole {B : List UInt8} {k : Nat} {l : List UInt8} (hB : B.length = 128 * k) (hk : 3 + secN l.length ≤ k) (h : Whole (secL B) l) : datL B l.length = l := by
  apply List.ext_getElem?
  intro i
  by_cases hi : i < l.length
  · have h1 : i / 127 < secN l.length := by unfold secN; omega
    have h2 := Nat.mod_lt i (show 0 < 127 by omega)
    have h3 := h (i / 127) h1
    have h4 := getD_partS (l := l) (i := i / 127) (j := i % 127) h2 (by omega)
    unfold secL at h3
    rw [if_pos (by omega)] at h3
    rw [← h3, getD_secR (by omega), show 127 * (i / 127) + i % 127 = i by omega] at h4
    unfold datL
    rw [List.getElem?_map, List.getElem?_range hi, Option.map_some, show (3 + i / 127) * 128 + 1 + i % 127 = 128 * (3 + i / 127) + (1 + i % 127) by omega, h4, List.getD_eq_getElem?_getD, List.getElem?_eq_getElem hi, Option.getD_some]
  · rw [List.getElem?_eq_none (by rw [datL_length]; omega), List.getElem?_eq_none (by omega)]
theorem marked_head {B : List UInt8} {k : Nat} {x : ShotM} (hB : B.length = 128 * k) (hk : 3 ≤ k) (hx : x.ok) (h : Marked (secL B) x) : numL B = x.data.length ∧ ofB ((B.drop 1).take 8) = x.idx ∧ ofB ((B.drop 9).take 8) = x.term := by
  obtain ⟨b1, b2, b3⟩ := mark_num (i := 0) (x := x)
  have h0 := h 0 (by omega)
  unfold secL secR at h0
  rw [if_pos (by omega)] at h0
  simp only [Nat.mul_zero, List.drop_zero] at h0
  have e : ∀ i, i + 8 ≤ 128 → (B.drop i).take 8 = ((markS 0 x).drop i).take 8 := fun i hi => by
    rw [← h0, List.drop_take, List.take_take, Nat.min_eq_left (by omega)]
  obtain ⟨x1, x2, x3⟩ := hx
  unfold hIdx at b1
  unfold hTerm at b2
  unfold hLen at b3
  unfold numL
  rw [e 1 (by omega), e 9 (by omega), e 17 (by omega), b1, b2, b3]
  exact ⟨Nat.mod_eq_of_lt (by omega), Nat.mod_eq_of_lt (by omega), Nat.mod_eq_of_lt (by omega)⟩
/-- The document reads what counts. -/
theorem file_is {B : List UInt8} {k : Nat} (hB : B.length = 128 * k) (hk : 3 ≤ k) : fileL B = if (countF (secL B)).idx = 0 then none else some (countF (secL B)) := by
  have hl : ∀ i, (secL B i).length = 128 := secL_len hB
  have fwd : ∀ x, fileL B = some x → countF (secL B) = x ∧ x.idx ≠ 0 := by
    intro x h
    unfold fileL at h
    rw [if_neg (by omega)] at h
    split at h
    · cases h
    · rename_i hn
      split at h
      · cases h
      · rename_i hm
        injection h with h
        have hdl : x.data.length = numL B := by rw [← h]; exact datL_length _ _
        rw [h] at hm
        have hmay : x.may = true := by
          cases hh : x.may
          · exact absurd (.inl hh) hm
          · rfl
        have hfm : formS x = B.take (384 + 128 * secN x.data.length) := by
          rw [hdl]
          exact Classical.byContradiction fun hh => hm (.inr hh)
        have hkk : 3 + secN x.data.length ≤ k := by rw [hdl]; omega
        obtain ⟨h1, h2⟩ := (form_iff hB hkk).1 hfm
        have hok : x.ok := by
          rw [← h]
          exact ⟨ofB8_lt _, ofB8_lt _, by show (datL B (numL B)).length < _; rw [datL_length]; omega⟩
        refine ⟨countF_of hl hok hmay h1 h2, ?_⟩
        simp [ShotM.may] at hmay
        exact hmay.1
  have bwd : (countF (secL B)).idx ≠ 0 → fileL B = some (countF (secL B)) := by
    intro h0
    rcases countF_cases hl with hc | ⟨hok, hmay, hm, hw⟩
    · rw [hc] at h0; exact absurd rfl h0
    · obtain ⟨y, hy⟩ : ∃ y, countF (secL B) = y := ⟨_, rfl⟩
      rw [hy] at hok hmay hm hw ⊢
      obtain ⟨m1, m2, m3⟩ := marked_head hB hk hok hm
      have h5 : y.data.length ≤ 524288 := by simp [ShotM.may] at hmay; exact hmay.2
      have hkk : 3 + secN y.data.length ≤ k := by
        by_cases hs : secN y.data.length = 0
        · omega
        · have := hw (secN y.data.length - 1) (by omega)
          unfold secL at this
          split at this
          · omega
          · exact absurd this.symm (part_ne _ _)
      have hd := datL_whole hB hkk hw
      have hr : rawL B = y := by
        unfold rawL
        rw [m1, m2, m3, hd]
      have hfm := (form_iff hB hkk).2 ⟨hm, hw⟩
      unfold fileL
      rw [if_neg (by omega), m1, if_neg (by omega), hr, if_neg]
      rintro (h | h)
      · rw [hmay] at h; cases h
      · exact h hfm
  by_cases h0 : (countF (secL B)).idx = 0
  · rw [if_pos h0]
    cases hf : fileL B with
    | none => rfl
    | some x =>
      obtain ⟨h1, h2⟩ := fwd x hf
      rw [h1] at h0
      exact absurd h0 h2
  · rw [if_neg h0]
    exact bwd h0
end Go.Proofs
