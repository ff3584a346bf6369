/-
  Law21's laid: its contract; what an opening of it comes to, as the document says it.
  Conditions: where they ask for any, each theorem names them.
-/
import Derived.Test.YteldcaeicgobfaaShotZ
set_option linter.unusedVariables false
set_option linter.unusedSimpArgs false
namespace Go.Proofs
open Go Go.Vc

def fs01 : Nat → Int := fun i => if i = 0 then 0 else 1
theorem fs01_ne : fs01 0 ≠ fs01 1 := by decide
theorem fs01_ok (j : Nat) : 0 ≤ fs01 j ∧ fs01 j < 5 := by
  unfold fs01
  split <;> omega
def lay1 (A : List UInt8) : Int × DM := DM.new.write 0 0 A
def lay2 (A B : List UInt8) : Int × DM := (lay1 A).2.write 1 0 B
def lay3 (A B : List UInt8) : Int × DM := (lay2 A B).2.sync
theorem upd_file {f : Int} {L : List UInt8} {k : Nat} (hL : L.length = 128 * k) : (fun i : Nat => upd (fun _ => zsec) (tagS f 0 (chunks L k)) (f, (i : Int))) = secL L := by
  funext i
  rw [upd_tag]
  unfold secL
  by_cases hi : i < k
  · have hd : (0 : Int) ≤ (i : Int) ∧ ((i : Int) - 0).toNat < (chunks L k).length := by simp [chunks]; omega
    rw [dif_pos hd, if_pos (by omega)]
    simp [chunks, secR]
  · rw [dif_neg (by simp [chunks]; omega), if_neg (by omega)]
theorem laid_is {A B : List UInt8} {k l : Nat} (hA : A.length = 128 * k) (hB : B.length = 128 * l) (hk : 1 ≤ k ∧ k ≤ 8000) (hl : 1 ≤ l ∧ l ≤ 8000) :
    (lay1 A).1 = 0 ∧ (lay2 A B).1 = 0 ∧ (lay3 A B).1 = 0 ∧ (lay3 A B).2.off = false ∧ (lay3 A B).2.armed = false ∧ (lay3 A B).2.waits = [] ∧ CF (lay3 A B).2 0 = secL A ∧ CF (lay3 A B).2 1 = secL B ∧ (lay1 A).2.waits.length ≤ 8000 ∧ (lay2 A B).2.waits.length ≤ 16000 := by
  obtain ⟨j1, a1, a2, a3, a4⟩ := write_spec (D := DM.new) (f := 0) (a := 0) (k := k) rfl hA (by simp [mayB]; omega)
  obtain ⟨e1, r1⟩ := a4 rfl
  rcases a3 with ⟨-, t1, o1⟩ | ⟨h, -⟩
  rotate_left
  · rw [e1] at h; exact absurd h (by decide)
  rw [t1] at a2
  change (lay1 A).2.lasts = _ at a1
  change (lay1 A).2.waits = _ at a2
  change (lay1 A).2.off = _ at o1
  change (lay1 A).2.armed = _ at r1
  obtain ⟨j2, b1, b2, b3, b4⟩ := write_spec (D := (lay1 A).2) (f := 1) (a := 0) (k := l) o1 hB (by simp [mayB]; omega)
  obtain ⟨e2, r2⟩ := b4 r1
  rcases b3 with ⟨-, t2, o2⟩ | ⟨h, -⟩
  rotate_left
  · rw [e2] at h; exact absurd h (by decide)
  rw [t2] at b2
  change (lay2 A B).2.lasts = _ at b1
  change (lay2 A B).2.waits = _ at b2
  change (lay2 A B).2.off = _ at o2
  change (lay2 A B).2.armed = _ at r2
  obtain ⟨c1, c2, c3, c4, c5⟩ := sync_ok o2 r2
  have hz : cnt (lay2 A B).2 = fun _ => zsec := by
    unfold cnt
    rw [b1, a1]
    rfl
  have hw : (lay2 A B).2.waits = tagS 0 0 (chunks A k) ++ tagS 1 0 (chunks B l) := by
    rw [b2, a2]
    rfl
  rw [hz, hw, upd_app] at c2
  refine ⟨e1, e2, c1, c4, c5, c3, ?_, ?_, ?_, ?_⟩
  · rw [← upd_file (f := 0) hA]
    funext i
    show cnt (lay3 A B).2 _ = _
    rw [show cnt (lay3 A B).2 = _ from c2]
    exact upd_tag_other _ (by decide) _ _ _
  · rw [← upd_file (f := 1) hB]
    funext i
    show cnt (lay3 A B).2 _ = _
    rw [show cnt (lay3 A B).2 = _ from c2, upd_tag, upd_tag]
    rw [show upd (fun _ => zsec) (tagS 0 0 (chunks A k)) (1, (i : Int)) = zsec from upd_tag_other _ (by decide) _ _ _]
  · rw [a2]
    simp [tagS_length, chunks, DM.new]
    omega
  · rw [hw]
    simp [tagS_length, chunks]
    omega

set_option maxRecDepth 10000 in
theorem ca_laid21 {w : World} {K : Kont} {a b : Value} {A B : List UInt8} {k l : Nat} (rA : Rd w 1 a A.length (bv A)) (rB : Rd w 1 b B.length (bv B)) (hA : A.length = 128 * k) (hB : B.length = 128 * l) (hk : 1 ≤ k ∧ k ≤ 8000) (hl : 1 ≤ l ∧ l ≤ 8000)
    (hK : ∀ w' d F, DiskR w' d F (lay3 A B).2 → Mod (fun _ => False) w w' → (∀ y, F y → w.heap.size ≤ y) → K (.tuple #[dptr d, .bool true]) w') : Ca Try.prog 49 #[a, b] w K := by
  obtain ⟨e1, e2, e3, -, -, -, -, -, n1, n2⟩ := laid_is hA hB hk hl
  obtain ⟨aa, ac, rfl⟩ := rA.isSl
  obtain ⟨ba, bc, rfl⟩ := rB.isSl
  apply ca49
  unfold F49
  refine ca_new fun w1 d1 m1 => ?_
  obtain ⟨d, hd⟩ : ∃ d, w.heap.size = d := ⟨_, rfl⟩
  rw [hd] at d1 ⊢
  have old : ∀ (s : Value) (n : Nat) (cs : List Value), Rd w 1 s n cs → ∀ u, inRd s u → u < d := fun s n cs h u hu => by have := h.lt hu; omega
  refine joinK (fun s W => s = (.bool false, ()) ∧ ∃ F, DiskR W d F (lay2 A B).2 ∧ Mod (fun _ => False) w W ∧ ∀ y, F y → d ≤ y) (fun JJ hJJ => ?_) ?_
  · refine rn_len23 ?_
    refine rv_of (v := .bool true) (w' := w1) (by simp [go_sem]; omega) ?_
    rw [ifB_bool, if_pos rfl]
    refine ca_write d1 (rA.mod m1 fun _ _ h => h) (fun u hu => ?_) (by omega) (by simp [DM.new]) fun w2 F2 d2 s2 => ?_
    · have := old _ _ _ rA u hu
      have := m1.size
      exact ⟨fun h => by omega, by omega⟩
    change DiskR w2 d F2 (lay1 A).2 at d2
    rw [show (DM.new.write 0 0 A).1 = 0 from e1]
    refine rv_of (neq0 _) ?_
    rw [ifB_bool, if_neg (by simp)]
    have nF2 : ∀ y, F2 y → d ≤ y := fun y hy => by
      rcases s2.sub y hy with h | h
      · omega
      · have := m1.size; omega
    have t2 : Mod (fun _ => False) w w2 := m1.on s2.mod fun y hy => .inr (by omega)
    refine rn_len23 ?_
    refine rv_of (v := .bool true) (w' := w2) (by simp [go_sem]; omega) ?_
    rw [ifB_bool, if_pos rfl]
    refine ca_write d2 (rB.mod t2 fun _ _ h => h) (fun u hu => ?_) (by omega) (by omega) fun w3 F3 d3 s3 => ?_
    · have := old _ _ _ rB u hu
      have := t2.size
      exact ⟨fun h => by have := nF2 u h; omega, by omega⟩
    change DiskR w3 d F3 (lay2 A B).2 at d3
    rw [show ((lay1 A).2.write 1 0 B).1 = 0 from e2]
    refine rv_of (neq0 _) ?_
    refine hJJ _ _ ⟨rfl, F3, d3, t2.on s3.mod fun y hy => .inr (by have := nF2 y hy; omega), fun y hy => ?_⟩
    rcases s3.sub y hy with h | h
    · exact nF2 y h
    · have := t2.size; omega
  rintro _ W ⟨rfl, F, dW, mW, nF⟩
  unfold J49_0
  intro _
  rw [ifB_bool, if_neg (by simp)]
  refine ca_sync dW (by omega) fun w4 F4 d4 s4 => ?_
  change DiskR w4 d F4 (lay3 A B).2 at d4
  rw [show (lay2 A B).2.sync.1 = 0 from e3]
  refine rv_of (v := .bool true) (w' := w4) (by simp [go_sem]) ?_
  refine hK w4 d F4 d4 (mW.on s4.mod fun y hy => .inr (by have := nF y hy; omega)) fun y hy => ?_
  rcases s4.sub y hy with h | h
  · have := nF y h; omega
  · have := mW.size; omega

theorem fileL_pad {A : List UInt8} {k : Nat} (hA : A.length = 128 * k) (hk : 3 ≤ k) : fileL (A ++ List.replicate 25600 0) = if (countF (secL A)).idx = 0 then none else some (countF (secL A)) := by
  rw [file_is (k := k + 200) (by rw [List.length_append, List.length_replicate]; omega) (by omega)]
  rw [show (25600 : Nat) = 128 * 200 from rfl, secL_pad hA]
theorem secR_zl {L : List UInt8} {k m i : Nat} (h : L.length = 128 * k) (hm : m ≤ k) (hi : i < k) : secR (zl L 0 (128 * m)) i = if i < m then zsec else secR L i := by
  unfold zl secR
  rw [List.take_zero, List.nil_append, Nat.zero_add]
  by_cases h3 : i < m
  · rw [if_pos h3, List.drop_append_of_le_length (by simp; omega), List.drop_replicate, List.take_append_of_le_length (by simp; omega), List.take_replicate, show min 128 (128 * m - 128 * i) = 128 by omega]
    rfl
  · rw [if_neg h3, List.drop_append, List.drop_of_length_le (by simp; omega), List.nil_append, List.drop_drop, List.length_replicate]
    congr 2
    omega
theorem cleanB_is {A : List UInt8} {k : Nat} (hA : A.length = 128 * k) (hk : 3 ≤ k) : cleanB A = (List.range k).flatMap (clC (secL A)) := by
  have hl := secL_len hA
  have hc := clC_len hl
  have hz := zl_length (l := A) (a := 0) (k := 384) (by omega)
  unfold cleanB
  rw [fileL_pad hA hk]
  by_cases h0 : (countF (secL A)).idx = 0
  · rw [if_pos h0, if_neg (by simp)]
    refine sec_ext (m := k) (by omega) (flat_len hc k) fun i hi => ?_
    rw [flat_secR hc k hi]
    rw [show (384 : Nat) = 128 * 3 from rfl, secR_zl hA hk hi]
    unfold clC
    by_cases h3 : i < 3
    · rw [if_pos h3, if_pos ⟨h0, h3⟩]
    · rw [if_neg h3, if_neg fun hh => h3 hh.2]
      unfold secL
      rw [if_pos (by omega)]
  · rw [if_neg h0, if_pos (by rfl)]
    refine sec_ext (m := k) hA (flat_len hc k) fun i hi => ?_
    rw [flat_secR hc k hi]
    unfold clC secL
    rw [if_neg fun hh => h0 hh.1, if_pos (by omega)]
theorem bothL_is {A B : List UInt8} {k l : Nat} (hA : A.length = 128 * k) (hB : B.length = 128 * l) (hk : 3 ≤ k) (hl : 3 ≤ l) :
    bothL (A ++ List.replicate 25600 0) (B ++ List.replicate 25600 0) = if (bothC (secL A) (secL B)).1.idx = 0 then (shot0, -1) else ((bothC (secL A) (secL B)).1, ((bothC (secL A) (secL B)).2 : Int)) := by
  unfold bothL bothC
  rw [fileL_pad hA hk, fileL_pad hB hl]
  by_cases h0 : (countF (secL A)).idx = 0 <;> by_cases h1 : (countF (secL B)).idx = 0
  · rw [if_pos h0, if_pos h1]
    simp [h0, h1, shot0]
  · rw [if_pos h0, if_neg h1]
    have : 0 < (countF (secL B)).idx := by omega
    simp [h0, h1, this, optS]
  · rw [if_neg h0, if_pos h1]
    simp [h0, h1, optS]
  · rw [if_neg h0, if_neg h1]
    by_cases hlt : (countF (secL A)).idx < (countF (secL B)).idx
    · simp [h0, h1, hlt, optS]
    · simp [h0, h1, hlt, optS]
end Go.Proofs
